/-
  The evaluator of the model's code over pure trees, and its soundness: part A of 8.
-/
import GoSem.Step
import Derived.CheckFast
import Derived.Below
import Derived.Laws.Rows
import Derived.Laws.Append
set_option linter.unusedVariables false
set_option linter.unusedSimpArgs false
namespace Go.Os
inductive R where
  | b (x : Bool)
  | i (k : IntKind) (n : Int)
  | s (x : ByteArray)
  | pn | sn | fn
  | a (l : List R)
  | ro (sz : Nat) (l : List R)
  deriving Inhabited
inductive Sp where
  | d (o : Nat)
  | e (i sz o : Nat)
  | t (k : Nat)
  deriving Inhabited
abbrev Pth := List Sp
def Sp.mem : Sp → Bool | .t _ => false | _ => true
inductive T where
  | u
  | r (x : R)
  | own (fl : Bool) (sz : Nat) (l : List R)
  | ow (sz : Nat) (l : List T)
  | bx (l : List T)
  | p (r : Nat) (q : Pth)
  | v (r : Nat) (q : Pth) (sz : Nat) (w : Option (Nat × Nat))
  | cp (l : List R) (o : Nat)
  | f (fid : FuncId) (cap : List T)
  | a (l : List T)
  | tp (b : Bool) (l : List T)
  deriving Inhabited
def mvK : Nat := 4096
structure Pr where
  ar : BinOp → IntKind → Int → Int → Int
  cm : BinOp → Int → Int → Bool
  cs : BinOp → ByteArray → ByteArray → Bool
  cv : IntKind → Int → Int
  mn : Int → Int → Int
  mx : Int → Int → Int
  be : Bool → Bool → Bool
  bn : Bool → Bool
  ba : Bool → Bool → Bool
  nz : Int → Bool
  sh : Int → Bool
  ix : Int → Nat → Option Nat
  sx : Int → Nat → Option Nat
  mkn : Int → Nat → Option Nat
  on : Nat → Int
  add : Nat → Nat → Nat
  sub : Nat → Nat → Nat
  nmn : Nat → Nat → Nat
  mul : Nat → Nat → Nat
  len : List R → Nat
  get : List R → Nat → Option R
  set : List R → Nat → R → List R
  app : List R → List R → List R
  seg : List R → Nat → Nat → List R
  spl : List R → Nat → List R → List R
  rep : Nat → R → List R
  small : Nat → Nat → Bool
  ssz : ByteArray → Nat
  okb : List R → Bool
  bs : List R → ByteArray
inductive CK where
  | i | b
  deriving Inhabited
structure TI where
  agg : Bool
  sz : Nat
  bytes : Nat
  flat : Bool
  desc : TypeDesc
  zero : Option (List R)
  ceq : Option (List CK)
  pl : Option (List (Nat × Nat))
mutual
def ofV : Value → Option R
  | .bool x => some (.b x)
  | .int k n => some (.i k n)
  | .string x => some (.s x)
  | .pointer none => some .pn
  | .slice none 0 0 => some .sn
  | .nilFunc => some .fn
  | _ => none
end
def ofVs : List Value → Option (List R)
  | [] => some []
  | v :: vs => match ofV v, ofVs vs with
    | some x, some xs => some (x :: xs)
    | _, _ => none
def flatTy (P : Program) : Nat → TypeId → Bool
  | 0, _ => false
  | n + 1, t => match P.underlying t with
    | some .bool | some (.int _) | some .string => true
    | some (.struct fs) => fs.toList.all fun f => flatTy P n f.type
    | some (.array _ e) => flatTy P n e
    | _ => false
def ceqF (g : TypeId → Option (List CK)) : Nat → List Field → Option (List CK)
  | _, [] => some []
  | o, f :: fs => match f.name != "_" && f.offset == o with
    | false => none
    | true => match g f.type with
      | some k => (ceqF g (o + k.length) fs).map fun r => k ++ r
      | none => none
def ceqK (P : Program) : Nat → TypeId → Option (List CK)
  | 0, _ => none
  | n + 1, t => match P.info? t with
    | none => none
    | some i => match P.underlying t with
      | some .bool => (match i.size == 1 with | true => some [.b] | false => none)
      | some (.int _) => (match i.size == 1 with | true => some [.i] | false => none)
      | some (.struct fs) => (match P.stoodInHeld t with
        | true => none
        | false => (ceqF (ceqK P n) 0 fs.toList).bind fun ks => match i.size == ks.length with | true => some ks | false => none)
      | _ => none
def aggDesc : TypeDesc → Bool
  | .struct _ => true
  | .array .. => true
  | _ => false
def plOf (P : Program) (d : TypeDesc) : Option (List (Nat × Nat)) :=
  match d with
  | .struct fs => fs.toList.mapM (fun f => (P.info? f.type).map fun i => (f.offset, i.size))
  | _ => none
def tiOf (P : Program) (t : TypeId) : Option TI :=
  match P.info? t, P.underlying t with
  | some i, some d => some {
      agg := aggDesc d
      sz := i.size, bytes := i.bytes, flat := flatTy P 6 t, desc := d
      zero := i.zero.bind fun v => ofVs v.cells.toList
      ceq := ceqK P 6 t
      pl := plOf P d }
  | _, _ => none
def R.cells : R → List R
  | .a l => l
  | x => [x]
def T.cells : T → List T
  | .a l => l
  | .tp _ _ => []
  | .r (.a _) => []
  | x => [x]
def R.one : R → Bool
  | .a _ => false
  | _ => true
def T.one : T → Bool
  | .u | .a _ | .tp _ _ => false
  | .r x => x.one
  | _ => true
def T.cells? : T → Option (List T)
  | .a l => (match l.all T.one with | true => some l | false => none)
  | .r (.a l) => (match l.all R.one with | true => some (l.map T.r) | false => none)
  | x => (match x.one with | true => some [x] | false => none)
def T.aggC? (t : T) : Option (List T) :=
  match t with
  | .a _ => t.cells?
  | .r (.a _) => t.cells?
  | _ => none
def addOff (A : Pr) : Nat → Nat → Nat
  | 0, n => n
  | m, 0 => m
  | m, n => A.add m n
def stepBy : Pth → Nat → Pth
  | [], _ => []
  | [.d o], n => [.d (o + n)]
  | [.e i sz o], n => [.e i sz (o + n)]
  | [.t k], _ => [.t k]
  | x :: y :: q, n => x :: stepBy (y :: q) n
def getT (A : Pr) : T → Pth → Option T
  | t, [] => some t
  | .bx l, .d o :: q => match l[o]? with
    | some c => getT A c q
    | none => none
  | .a l, .t k :: q => match l[k]? with
    | some c => getT A c q
    | none => none
  | .tp b l, .t k :: q => match l[k]? with
    | some c => getT A c q
    | none => none
  | .own _ sz l, .e i sz' o :: q => match sz == sz', A.get l i with
    | true, some (x : R) => (match (x.cells)[o]? with
      | some c => getT A (.r c) q
      | none => none)
    | _, _ => none
  | .ow sz l, .e i sz' o :: q => match sz == sz', l[i]? with
    | true, some (x : T) => (match (x.cells)[o]? with
      | some c => getT A c q
      | none => none)
    | _, _ => none
  | .r (.ro sz l), .e i sz' o :: q => match sz == sz', A.get l i with
    | true, some (x : R) => (match (x.cells)[o]? with
      | some c => getT A (.r c) q
      | none => none)
    | _, _ => none
  | _, _ => none
def R.setCell (x : R) (o : Nat) (c : R) : R :=
  match x with
  | .a l => .a (l.set o c)
  | _ => c
def T.setCell (x : T) (o : Nat) (c : T) : T :=
  match x with
  | .a l => .a (l.set o c)
  | _ => c
def setT (A : Pr) : T → Pth → T → Option T
  | _, [], c => some c
  | .bx l, .d o :: q, c => match l[o]? with
    | some x => (match setT A x q c with
      | some y => some (.bx (l.set o y))
      | none => none)
    | none => none
  | .a l, .t k :: q, c => match l[k]? with
    | some x => (match setT A x q c with
      | some y => some (.a (l.set k y))
      | none => none)
    | none => none
  | .tp b l, .t k :: q, c => match l[k]? with
    | some x => (match setT A x q c with
      | some y => some (.tp b (l.set k y))
      | none => none)
    | none => none
  | .own fl sz l, [.e i sz' o], .r c => match sz == sz', A.get l i with
    | true, some (x : R) => (match (x.cells)[o]? with
      | some _ => some (.own fl sz (A.set l i (x.setCell o c)))
      | none => none)
    | _, _ => none
  | .ow sz l, .e i sz' o :: q, c => match sz == sz', l[i]? with
    | true, some (x : T) => (match (x.cells)[o]? with
      | some y => (match setT A y q c with
        | some z => some (.ow sz (l.set i (x.setCell o z)))
        | none => none)
      | none => none)
    | _, _ => none
  | _, _, _ => none
def slot (s : List T) (j : Nat) : T := s.getD j .u
def getP (A : Pr) (s : List T) (r : Nat) (q : Pth) : Option T := getT A (slot s r) q
def setP (A : Pr) (s : List T) (r : Nat) (q : Pth) (c : T) : Option (List T) :=
  match setT A (slot s r) q c with
  | some t => some (s.set r t)
  | none => none
mutual
def bor (r : Nat) (q : Pth) : T → T
  | .own _ sz _ => .v r q sz none
  | .ow sz _ => .v r q sz none
  | .bx _ => .p r (q ++ [.d 0])
  | .a l => .a (borL r q 0 l)
  | .tp b l => .tp b (borL r q 0 l)
  | t => t
def borL (r : Nat) (q : Pth) (k : Nat) : List T → List T
  | [] => []
  | t :: l => bor r (q ++ [.t k]) t :: borL r q (k + 1) l
end
def Sp.may : Sp → Sp → Bool
  | .d o, .d o' => o == o'
  | .t k, .t k' => k == k'
  | .t _, _ => false
  | _, .t _ => false
  | _, _ => true
def pre : Pth → Pth → Bool
  | [], _ => true
  | x :: q, y :: q' => x.may y && pre q q'
  | _, _ => false
def hangsP (r : Nat) (q : Pth) (r' : Nat) (q' : Pth) : Bool := r == r' && pre q q' && (q.length < q'.length)
def hangsV (r : Nat) (q : Pth) (r' : Nat) (q' : Pth) : Bool := r == r' && pre q q'
mutual
def mapT (fp : Nat → Pth → T) (fv : Nat → Pth → Nat → Option (Nat × Nat) → T) : T → T
  | .p r q => fp r q
  | .v r q sz w => fv r q sz w
  | .bx l => .bx (mapL fp fv l)
  | .ow sz l => .ow sz (mapL fp fv l)
  | .a l => .a (mapL fp fv l)
  | .tp b l => .tp b (mapL fp fv l)
  | .f g l => .f g (mapL fp fv l)
  | t => t
def mapL (fp : Nat → Pth → T) (fv : Nat → Pth → Nat → Option (Nat × Nat) → T) : List T → List T
  | [] => []
  | t :: l => mapT fp fv t :: mapL fp fv l
end
def killP (r : Nat) (q : Pth) (r' : Nat) (q' : Pth) : T := match hangsP r q r' q' with | true => .u | false => .p r' q'
def killV (r : Nat) (q : Pth) (r' : Nat) (q' : Pth) (sz : Nat) (w : Option (Nat × Nat)) : T := match hangsV r q r' q' with | true => .u | false => .v r' q' sz w
def kill (r : Nat) (q : Pth) (t : T) : T := mapT (killP r q) (killV r q) t
def killL (r : Nat) (q : Pth) (l : List T) : List T := mapL (killP r q) (killV r q) l
mutual
def hit (r : Nat) (q : Pth) : T → Bool
  | .p r' q' => hangsP r q r' q'
  | .v r' q' _ _ => hangsV r q r' q'
  | .bx l | .a l | .tp _ l | .f _ l | .ow _ l => hitL r q l
  | _ => false
def hitL (r : Nat) (q : Pth) : List T → Bool
  | [] => false
  | t :: l => hit r q t || hitL r q l
end
mutual
def toR : T → Option R
  | .r x => some x
  | .a l => match toRL l with
    | some xs => some (.a xs)
    | none => none
  | _ => none
def toRL : List T → Option (List R)
  | [] => some []
  | t :: l => match toR t, toRL l with
    | some x, some xs => some (x :: xs)
    | _, _ => none
end
mutual
def owner : T → Bool
  | .own .. | .ow .. | .bx _ | .r (.ro ..) => true
  | .a l | .tp _ l => ownerL l
  | _ => false
def ownerL : List T → Bool
  | [] => false
  | t :: l => owner t || ownerL l
end
def sinkV (r : Nat) (q : Pth) (r' : Nat) (q' : Pth) (sz : Nat) (w : Option (Nat × Nat)) : T := match hangsP r q r' q' with | true => .u | false => .v r' q' sz w
def sinkAll (r : Nat) (q : Pth) (s : List T) : List T := mapL (killP r q) (sinkV r q) s
def hits (r : Nat) (q : Pth) (s : List T) : List Nat := go 0 s
where
  go (j : Nat) : List T → List Nat
    | [] => []
    | t :: l => match hit r q t with
      | true => j :: go (j + 1) l
      | false => go (j + 1) l
abbrev Eff := List T × List Nat
def killAll (r : Nat) (q : Pth) (s : List T) : List T := killL r q s
def setD (s : List T) (d : Nat) (t : T) : Eff :=
  match owner (slot s d) with
  | true => ((killAll d [] s).set d (kill d [] t), d :: hits d [] s)
  | false => (s.set d t, [d])
def strip : Pth → Pth → Option Pth
  | [], q => some q
  | .d o :: a, .d o' :: b => match o == o' with | true => strip a b | false => none
  | .t k :: a, .t k' :: b => match k == k' with | true => strip a b | false => none
  | _, _ => none
def renP (r : Nat) (q : Pth) (d : Nat) (q2 : Pth) (r' : Nat) (q' : Pth) : T :=
  match r == r', strip q q' with | true, some x => .p d (q2 ++ x) | _, _ => .p r' q'
def renV (r : Nat) (q : Pth) (d : Nat) (q2 : Pth) (r' : Nat) (q' : Pth) (sz : Nat) (w : Option (Nat × Nat)) : T :=
  match r == r', strip q q' with | true, some x => .v d (q2 ++ x) sz w | _, _ => .v r' q' sz w
def renL (r : Nat) (q : Pth) (d : Nat) (q2 : Pth) (l : List T) : List T := mapL (renP r q d q2) (renV r q d q2) l
def flatP : Pth → Bool
  | [] => true
  | .t _ :: q => flatP q
  | _ => false
def leftAt (s : List T) (r sz : Nat) : Pth → List T
  | [] => s.set r (.v r [] sz none)
  | _ :: _ => s
def move (A : Pr) (s : List T) (r : Nat) (q : Pth) (d : Nat) : Option (List T) :=
  match getP A s r q with
  | some (.own fl sz l) => match setP A s r q .u with
    | some s1 => some ((renL r q d [] (leftAt s1 r sz q)).set d (.own fl sz l))
    | none => none
  | _ => none
end Go.Os
set_option linter.unusedVariables false
namespace Go.Os
inductive Ex where
  | nm
  | ex (id : Nat)
  | rt
  deriving Inhabited
structure Env where
  A : Pr
  ti : TypeId → Option TI
  call : FuncId → List T → Option (T × List (List T))
  lp : Code → List T → Option (Ex × List T)
  pt : Nat → Option (List Bool × List Bool)
def TI.elem? (t : TI) : Option TypeId := match t.desc with | .slice e => some e | _ => none
def TI.arr? (t : TI) : Option (Nat × TypeId) := match t.desc with | .array n e => some (n, e) | _ => none
def TI.fields? (t : TI) : Option (List Field) := match t.desc with | .struct fs => some fs.toList | _ => none
def TI.int? (t : TI) : Option IntKind := match t.desc with | .int k => some k | _ => none
def TI.isStr (t : TI) : Bool := match t.desc with | .string => true | _ => false
section
variable (E : Env)
def ofC (v : Value) : T := match ofV v with | some x => .r x | none => .u
def opd (s : List T) : Operand → T
  | .tmp t => bor t [] (slot s t)
  | .const v => ofC v
  | .func f => (match decide (f < mvK) with | true => .f f [] | false => .u)
  | .global _ => .u
def slEl (t : TypeId) : Option TI := (E.ti t).bind fun x => x.elem?.bind E.ti
def intT : T → Option (IntKind × Int) | .r (.i k n) => some (k, n) | _ => none
def boolT : T → Option Bool | .r (.b x) => some x | _ => none
def eqK (c : CK) (x y : R) : Option Bool :=
  match c with
  | .i => (match x with | .i k a => (match y with | .i k' b => (match decide (k = k') with | true => some (E.A.cm .eql a b) | false => none) | _ => none) | _ => none)
  | .b => (match x with | .b a => (match y with | .b b => some (E.A.be a b) | _ => none) | _ => none)
def eqKs : List CK → List R → List R → Option Bool
  | [], l, m => (match l with | [] => (match m with | [] => some true | _ => none) | _ => none)
  | c :: ks, l, m => (match l with
    | x :: l' => (match m with
      | y :: m' => (eqK E c x y).bind fun p => (eqKs ks l' m').map fun q => E.A.ba p q
      | _ => none)
    | _ => none)
def intOp (o : BinOp) (k k' : IntKind) (a b : Int) : Option R :=
  match o with
  | .shl | .shr => (match E.A.sh b with | true => some (.i k (E.A.ar o k a b)) | false => none)
  | o => match decide (k = k') with
    | false => none
    | true => match o with
      | .quo | .rem => (match E.A.nz b with | true => none | false => some (.i k (E.A.ar o k a b)))
      | .eql | .neq | .lss | .leq | .gtr | .geq => some (.b (E.A.cm o a b))
      | _ => some (.i k (E.A.ar o k a b))
def eqOp (o : BinOp) (x : Bool) : Option R :=
  match o with
  | .eql => some (.b x)
  | .neq => some (.b (E.A.bn x))
  | _ => none
def TI.isBool (t : TI) : Bool := match t.desc with | .bool => true | _ => false
def nilOp (o : BinOp) (t : TypeId) (b : Bool) : Option R := (E.ti t).bind fun ty => match ty.elem? with | some _ => eqOp E o b | none => none
def binR (o : BinOp) (t : TypeId) (x y : R) : Option R :=
  match x with
  | .ro _ l => (match y with | .sn => (match E.A.nz (E.A.on (E.A.len l)) with | true => none | false => nilOp E o t false) | _ => none)
  | .sn => (match y with | .sn => nilOp E o t true | _ => none)
  | .i k a => (match y with | .i k' b => intOp E o k k' a b | _ => none)
  | .b a => (match y with | .b b => (E.ti t).bind fun ty => (match ty.isBool with | true => eqOp E o (E.A.be a b) | false => none) | _ => none)
  | .s a => (match y with | .s b => eqOp E o (E.A.cs .eql a b) | _ => none)
  | .a l => (match y with | .a m => (E.ti t).bind fun ty => (match ty.agg with | true => ty.ceq.bind fun ks => (eqKs E ks l m).bind fun r => eqOp E o r | false => none) | _ => none)
  | _ => none
def binT (o : BinOp) (t : TypeId) (x y : T) : Option R :=
  (toR x).bind fun a => (toR y).bind fun b => binR E o t a b
mutual
def froR : T → Option R
  | .r x => some x
  | .own _ sz l => some (.ro sz l)
  | .ow sz l => (froL l).map (R.ro sz)
  | .a l => (froL l).map R.a
  | _ => none
  termination_by structural x => x
def froL : List T → Option (List R)
  | [] => some []
  | t :: l => (froR t).bind fun x => (froL l).map fun xs => x :: xs
  termination_by structural x => x
end
def listOf (sz : Nat) : T → Option (List R)
  | .own _ z l => (match z == sz with | true => some l | false => none)
  | .r (.ro z l) => (match z == sz with | true => some l | false => none)
  | _ => none
def listF (sz : Nat) : T → Option (List R)
  | .ow z l => (match z == sz with | true => froL l | false => none)
  | t => listOf sz t
def lenOf : T → Option Nat
  | .own _ _ l => some (E.A.len l)
  | .ow _ l => some l.length
  | .r (.ro _ l) => some (E.A.len l)
  | _ => none
def segW (l : List R) : Option (Nat × Nat) → List R
  | none => l
  | some (o, n) => E.A.seg l o n
def elems (s : List T) : T → Option (List R)
  | .r (.ro _ l) => some l
  | .r .sn => some []
  | .v r q sz w => ((getP E.A s r q).bind (listOf sz)).map fun l => segW E l w
  | _ => none
def elemsF (s : List T) : T → Option (List R)
  | .r (.ro _ l) => some l
  | .r .sn => some []
  | .v r q sz w => ((getP E.A s r q).bind (listF sz)).map fun l => segW E l w
  | _ => none
def szOf (x : T) (sz : Nat) : Bool := match x with
  | .r (.ro z _) => z == sz
  | .r .sn => true
  | .v _ _ z _ => z == sz
  | _ => false
def lenT (s : List T) : T → Option Nat
  | .r (.ro _ l) => some (E.A.len l)
  | .r .sn => some 0
  | .v r q _ w => (match w with
    | some (_, n) => some n
    | none => (getP E.A s r q).bind (lenOf E))
  | _ => none
mutual
def frz (s : List T) : T → Option R
  | .r x => some x
  | .v r q sz w => (elemsF E s (.v r q sz w)).map (R.ro sz)
  | .a l => (frzL s l).map R.a
  | _ => none
  termination_by structural x => x
def frzL (s : List T) : List T → Option (List R)
  | [] => some []
  | t :: l => (frz s t).bind fun x => (frzL s l).map fun xs => x :: xs
  termination_by structural x => x
end
def isOwn : T → Bool | .own .. => true | .ow .. => true | _ => false
mutual
def lent (s : List T) : T → List (Nat × Pth)
  | .v r q _ _ => (match (getP E.A s r q).any isOwn with | true => [(r, q)] | false => [])
  | .a l => lentL s l
  | _ => []
  termination_by structural x => x
def lentL (s : List T) : List T → List (Nat × Pth)
  | [] => []
  | t :: l => lent s t ++ lentL s l
  termination_by structural x => x
end
mutual
def noRo : R → Bool
  | .ro .. => false
  | .a l => noRoL l
  | _ => true
  termination_by structural x => x
def noRoL : List R → Bool
  | [] => true
  | x :: l => noRo x && noRoL l
  termination_by structural x => x
end
mutual
def fresh : T → Bool
  | .r x => noRo x
  | .a l => freshL l
  | .tp b l => freshL l
  | .bx l => freshL l
  | _ => false
  termination_by structural x => x
def freshL : List T → Bool
  | [] => true
  | t :: l => fresh t && freshL l
  termination_by structural x => x
end
def mkAgg (l : List T) : T := match toRL l with | some xs => .r (.a xs) | none => .a l
def loadC (s : List T) (r : Nat) (q : Pth) (k : Nat) : Nat → Option (List T)
  | 0 => some []
  | n + 1 => (getP E.A s r (stepBy q k)).bind fun c => (loadC s r q (k + 1) n).map fun l => bor r (stepBy q k) c :: l
def cutR (ty : TI) (l : List R) (o : Nat) : Option T :=
  match ty.agg with
  | true => (match decide (o + ty.sz ≤ l.length) with | true => some (.r (.a ((l.drop o).take ty.sz))) | false => none)
  | false => (l[o]?).bind fun c => match c.one with | true => some (.r c) | false => none
def cellT (t : T) : Bool := match t with | .u => true | t => t.one
def loadT (s : List T) (ty : TI) (x : T) : Option T :=
  match x with
  | .cp l o => cutR ty l o
  | .p r q => (match ty.agg with
    | true => (loadC E s r q 0 ty.sz).map mkAgg
    | false => (getP E.A s r q).bind fun c => match cellT c with | true => some (bor r q c) | false => none)
  | _ => none
def freezeAll (s : List T) (W : List Nat) : List (Nat × Pth) → Option Eff
  | [] => some (s, W)
  | x :: l => (getP E.A s x.1 x.2).bind fun t => match t with
    | .own _ sz xs => (setP E.A s x.1 x.2 (.r (.ro sz xs))).bind fun s' => freezeAll s' (x.1 :: W) l
    | .ow sz xs => (froL xs).bind fun ys => (setP E.A (sinkAll x.1 x.2 s) x.1 x.2 (.r (.ro sz ys))).bind fun s' => freezeAll s' (x.1 :: (hits x.1 x.2 s ++ W)) l
    | .r _ => freezeAll s W l
    | _ => none
def plainL (s : List T) (l : List (Nat × Pth)) : Bool := l.all fun x => match getP E.A s x.1 x.2 with | some (.own ..) => true | _ => false
def keeps : Pth → Bool | [.d _] => true | _ => false
def isR : T → Bool | .r _ => true | _ => false
def isRefT : T → Bool | .v .. | .p .. | .f .. | .cp .. => true | _ => false
def storeC (s : List T) (W : List Nat) (r : Nat) (q : Pth) (c : T) : Option Eff :=
  match (isR c && c.one) || (keeps q && isRefT c) with
  | true => (setP E.A s r q c).map (·, r :: W)
  | false => none
def dropL (s cs : List T) (W : List Nat) (r : Nat) (q : Pth) (k : Nat) : Nat → Option (List T × List T × List Nat)
  | 0 => some (s, cs, W)
  | n + 1 => (getP E.A s r (stepBy q k)).bind fun old => match owner old with
    | true => (match setP E.A (killAll r (stepBy q k) s) r (stepBy q k) .u with
      | some s1 => dropL s1 (killL r (stepBy q k) cs) (r :: (hits r (stepBy q k) s ++ W)) r q (k + 1) n
      | none => dropL s cs W r q (k + 1) n)
    | false => dropL s cs W r q (k + 1) n
def free (s : List T) (r : Nat) (q : Pth) (old : T) : Bool := cellT old && (match owner old with | false => true | true => (setP E.A s r q .u).isNone)
def storeL (s : List T) (W : List Nat) (r : Nat) (q : Pth) (k : Nat) : List T → Option Eff
  | [] => some (s, W)
  | c :: l => (getP E.A s r (stepBy q k)).bind fun old => match free E s r (stepBy q k) old with
    | false => none
    | true => (storeC E s W r (stepBy q k) c).bind fun e => storeL e.1 e.2 r q (k + 1) l
def fillT (place : Nat → Option (Nat × Nat)) (cells : List T) : List (Nat × T) → Option (List T)
  | [] => some cells
  | x :: rest => (place x.1).bind fun pl => x.2.cells?.bind fun cs =>
      match decide (cs.length = pl.2) && decide (pl.1 + pl.2 ≤ cells.length) with
      | true => fillT place (cells.take pl.1 ++ cs ++ cells.drop (pl.1 + pl.2)) rest
      | false => none
def partT (ty : TI) (l : List T) (off : Nat) : Option T :=
  match ty.agg with
  | true => (match decide (off + ty.sz ≤ l.length) with | true => some (mkAgg ((l.drop off).take ty.sz)) | false => none)
  | false => (l[off]?).bind fun c => match c.one with | true => some c | false => none
def zeroEl (t : TI) : Option R :=
  t.zero.bind fun l => match decide (l.length = t.sz) with
    | false => none
    | true => match t.agg with
      | true => some (.a l)
      | false => (match l with | [c] => some c | _ => none)
def rawAt (s : List T) (x : Operand) (k : Nat) : Option T :=
  match x with
  | .tmp t => (match slot s t with
    | .tp true l => (l[k]?).bind fun c => (match cellT c with
      | true => some (bor t [.t k] c)
      | false => (match c with
        | .tp false l' => some (mkAgg (borL t [.t k] 0 l'))
        | _ => none))
    | _ => none)
  | _ => none
def foldGo (f : Int → Int → Int) (k : IntKind) (x : Int) : List T → Option T
  | [] => some (.r (.i k x))
  | t :: l => (intT t).bind fun y => foldGo f k (f x y.2) l
def foldMM (f : Int → Int → Int) : List T → Option T
  | [] => none
  | t :: l => (intT t).bind fun x => foldGo f x.1 x.2 l
mutual
def roots : T → List Nat
  | .p r _ => [r]
  | .v r _ _ _ => [r]
  | .bx l => rootsL l
  | .ow _ l => rootsL l
  | .a l => rootsL l
  | .tp b l => rootsL l
  | .f _ l => rootsL l
  | _ => []
  termination_by structural x => x
def rootsL : List T → List Nat
  | [] => []
  | t :: l => roots t ++ rootsL l
  termination_by structural x => x
end
mutual
def shut : T → Bool
  | .u => true
  | .r _ => true
  | .own .. => true
  | .ow _ l => shutL l
  | .bx l => shutL l
  | .a l => shutL l
  | _ => false
  termination_by structural x => x
def shutL : List T → Bool
  | [] => true
  | t :: l => shut t && shutL l
  termination_by structural x => x
end
def boxOf (s : List T) : T → Option (Nat × List T)
  | .p r q => (match q with
    | [.d o] => (match o with
      | 0 => (match slot s r with | .bx cs => (match shutL cs with | true => some (r, cs) | false => none) | _ => none)
      | _ => none)
    | _ => none)
  | _ => none
def bareF : T → Option FuncId | .f g c => (match c with | [] => some g | _ => none) | _ => none
def ownIx : List T → Option Nat
  | [] => none
  | t :: l => match t with
    | .own .. => some 0
    | _ => (ownIx l).map fun i => i + 1
def ownParts (s : List T) : List T → Option (List T × List Nat)
  | [] => some ([], [])
  | x :: l => (ownParts s l).bind fun rest => match x with
    | .r y => (match noRo y with | true => some (.r y :: rest.1, rest.2) | false => none)
    | .v r q _ w => (match q with
      | [] => (match w with
        | none => (match slot s r with
          | .own fl z m => some (.own fl z m :: rest.1, r :: rest.2)
          | _ => none)
        | _ => none)
      | _ => none)
    | _ => none
def ownArg (s : List T) : T → Option (Nat × List T)
  | .a l => (ownParts s l).bind fun y => match y.2 with
    | [r] => some (r, y.1)
    | _ => none
  | _ => none
def stayA : List Bool → List T → List T
  | _, [] => []
  | m, x :: l => (match m with | true :: _ => .u | _ => x) :: stayA m.tail l
def handArgs (s : List T) : List Bool → List T → Option (List T × List Nat)
  | _, [] => some ([], [])
  | m, x :: l => (handArgs s m.tail l).bind fun rest =>
    match m with
    | true :: _ => (match ownArg s x with
      | some (r, ys) => (match rest.2.contains r with
        | true => none
        | false => some (.a ys :: rest.1, r :: rest.2))
      | none => none)
    | _ =>
      match frz E s x with
      | some y => some (.r y :: rest.1, rest.2)
      | none => match bareF x with
        | some g => some (.f g [] :: rest.1, rest.2)
        | none => match boxOf s x with
          | some (r, ys) => (match rest.2.contains r with
            | true => none
            | false => some (.bx ys :: rest.1, r :: rest.2))
          | none => none
def handM (f : FuncId) : List Bool := match E.pt (4000000 + f) with | some x => x.1 | none => []
def deepP (rs : List Nat) (r : Nat) (q : Pth) : T := match rs.contains r && decide (1 < q.length) with | true => .u | false => .p r q
def deepV (rs : List Nat) (r : Nat) (q : Pth) (sz : Nat) (w : Option (Nat × Nat)) : T := match rs.contains r with | true => .u | false => .v r q sz w
def setAll (s : List T) : List Nat → List T → Option (List T)
  | [], bs => (match bs with | [] => some s | _ => none)
  | r :: rs, bs => (match bs with | b :: bs' => setAll (s.set r b) rs bs' | [] => none)
def backTs : List T → List (List T) → Option (List T)
  | [], bs => (match bs with | [] => some [] | _ => none)
  | t :: l, bs => match t with
    | .bx _ => (match bs with
      | b :: bs => (backTs l bs).map fun ts => .bx b :: ts
      | [] => none)
    | .a ys => (match bs with
      | b :: bs => (match ownIx ys with
        | some i => (match slot b i with
          | .own fl z m => (backTs l bs).map fun ts => .own fl z m :: ts
          | _ => none)
        | none => none)
      | [] => none)
    | _ => backTs l bs
def boxRs : List T → List Nat → List Nat
  | [], _ => []
  | t :: l, rs => match t with
    | .bx _ => (match rs with
      | r :: rs => r :: boxRs l rs
      | [] => [])
    | .a _ => boxRs l rs.tail
    | _ => boxRs l rs
def backBoxes (s : List T) (args : List T) (rs : List Nat) (bs : List (List T)) : Option (List T) :=
  match rs with
  | [] => (match bs with | [] => some s | _ => none)
  | _ => (backTs args bs).bind fun ts => match boxRs args rs with
    | [] => setAll s rs ts
    | r0 :: rb => setAll (mapL (deepP (r0 :: rb)) (deepV (r0 :: rb)) s) rs ts
def isSn : T → Bool | .r .sn => true | _ => false
def putD (s : List T) (d : Option Nat) (t : T) : Eff :=
  match d with
  | some d => setD s d t
  | none => (s, [])
def freshLL : List (List T) → Bool
  | [] => true
  | l :: ls => freshL l && freshLL ls
mutual
def deepHit (rs : List Nat) : T → Bool
  | .p r q => rs.contains r && decide (1 < q.length)
  | .v r _ _ _ => rs.contains r
  | .bx l => deepHitL rs l
  | .ow _ l => deepHitL rs l
  | .a l => deepHitL rs l
  | .tp b l => deepHitL rs l
  | .f _ l => deepHitL rs l
  | _ => false
  termination_by structural x => x
def deepHitL (rs : List Nat) : List T → Bool
  | [] => false
  | t :: l => deepHit rs t || deepHitL rs l
  termination_by structural x => x
end
def allHits (rs : List Nat) (j : Nat) : List T → List Nat
  | [] => []
  | t :: l => match deepHit rs t with
    | true => j :: allHits rs (j + 1) l
    | false => allHits rs (j + 1) l
def doCall (s : List T) (d : Option Nat) (f : FuncId) (args : List T) : Option Eff :=
  (handArgs E s (handM E f) args).bind fun h => match (lentL E s (stayA (handM E f) args)).all fun p => !h.2.contains p.1 with
    | false => none
    | true => (E.call f h.1).bind fun res =>
      (match fresh res.1 && freshLL res.2 with | true => some (s, []) | false => freezeAll E s [] (lentL E s (stayA (handM E f) args))).bind fun f =>
        (backBoxes f.1 h.1 h.2 res.2).map fun s1 =>
          let e := putD s1 d res.1
          (e.1, f.2 ++ (h.2 ++ (match boxRs h.1 h.2 with | [] => [] | r0 :: rb => allHits (r0 :: rb) 0 f.1)) ++ e.2)
def selfCut (s : List T) (d : Option Nat) (x : T) : Bool :=
  match x with
  | .v r q _ w => (match q with
    | [] => d == some r && w.isSome && plainL E s [(r, [])]
    | _ => false)
  | _ => false
def evAssign (s : List T) (d : Option Nat) (ty : TypeId) (x : T) : Option Eff :=
  match isSn x with
  | true => (slEl E ty).bind fun te => (match te.sz with | 0 => none | _ => some (putD s d (.own te.flat te.sz [])))
  | false => (match selfCut E s d x with
    | true => (frz E s x).bind fun y => (freezeAll E s [] (lent E s x)).map fun f =>
        let e := putD f.1 d (.r y)
        (e.1, f.2 ++ e.2)
    | false => some (putD s d x))
def evPick (c a b : T) : Option T := (boolT c).bind fun x => match x with | true => some a | false => some b
def evBuild (t : TypeId) (parts : List (Nat × T)) : Option T :=
  (E.ti t).bind fun ty => ty.zero.bind fun z =>
    match ty.pl with
    | some pl => (fillT (fun i => pl[i]?) (z.map T.r) parts).map mkAgg
    | none => ty.arr?.bind fun x => (E.ti x.2).bind fun te => (fillT (fun i => some (i * te.sz, te.sz)) (z.map T.r) parts).map mkAgg
def cutEl (sz : Nat) : Nat → List R → List R
  | 0, _ => []
  | n + 1, xs => .a (xs.take sz) :: cutEl sz n (xs.drop sz)
def cutElT (sz : Nat) : Nat → List T → List T
  | 0, _ => []
  | n + 1, xs => .a (xs.take sz) :: cutElT sz n (xs.drop sz)
def rowEl (te : TI) (len : Nat) (xs : List R) : Option (List R) :=
  match te.agg with
  | true => some (cutEl te.sz len xs)
  | false => (match te.sz == 1 && xs.all R.one with | true => some xs | false => none)
def repT (z : List T) : Nat → List T
  | 0 => []
  | n + 1 => z ++ repT z n
def rowElT (te : TI) (len : Nat) (xs : List T) : Option (List T) :=
  match te.agg with
  | true => some (cutElT te.sz len xs)
  | false => (match te.sz == 1 && xs.all T.one with | true => some xs | false => none)
def wholeOwn (s : List T) : T → Option (Nat × Pth × T)
  | .v r q sz w => (match w with
    | none => (match flatP q with
      | true => (getP E.A s r q).bind fun t => (match t with
        | .own _ z _ => (match z == sz with | true => some (r, q, t) | false => none)
        | _ => none)
      | false => none)
    | some _ => none)
  | _ => none
def takeIn (s : List T) (W : List Nat) : Nat → List T → Option (List T × List T × List Nat)
  | 0, l => (match l with | [] => some ([], s, W) | _ => none)
  | n + 1, l => match l with
    | [] => none
    | c :: l => match c with
      | .r x => (takeIn s W n l).map fun y => (.r x :: y.1, y.2)
      | _ => (wholeOwn E s c).bind fun w => (setP E.A (killAll w.1 w.2.1 s) w.1 w.2.1 .u).bind fun s1 =>
          (takeIn s1 (w.1 :: (hits w.1 w.2.1 s ++ W)) n (killL w.1 w.2.1 l)).map fun y => (w.2.2 :: y.1, y.2)
def plainFn : T → Bool
  | .r _ => true
  | .f _ _ => true
  | _ => false
def evBuildSlice (s : List T) (d : Option Nat) (t : TypeId) (len : Nat) (parts : List (Nat × T)) : Option Eff :=
  (slEl E t).bind fun te => te.zero.bind fun z => match decide (len * te.sz ≤ 16777216) && !(te.sz == 0) && z.length == te.sz with
    | false => none
    | true => (fillT (fun i => some (i * te.sz, te.sz)) (repT (z.map T.r) len) parts).bind fun l =>
      match toRL l with
      | some xs => (rowEl te len xs).map fun ys => putD s d (.own te.flat te.sz ys)
      | none => (match l.all plainFn with
        | true => (rowElT te len l).map fun ys => putD s d (.ow te.sz ys)
        | false => (takeIn E s [] l.length l).bind fun y => (rowElT te len y.1).map fun ys =>
          let e := putD y.2.1 d (.ow te.sz ys)
          (e.1, y.2.2 ++ e.2))
def evStore (s : List T) (t : TypeId) (x y : T) : Option Eff :=
  (E.ti t).bind fun ty => match x with
    | .p r q => y.cells?.bind fun cs => (match decide (cs.length = ty.sz) && q.all Sp.mem with
      | true => (dropL E s cs [] r q 0 ty.sz).bind fun x => storeL E x.1 x.2.2 r q 0 x.2.1
      | false => none)
    | _ => none
def evUn (op : UnOp) (x : T) : Option R :=
  match op with
  | .not => (boolT x).map fun b => .b (E.A.bn b)
  | .neg => (intT x).map fun y => .i y.1 (E.A.ar .sub y.1 0 y.2)
  | .xor => (intT x).map fun y => .i y.1 (E.A.ar .xor y.1 (match y.1.signed with | true => -1 | false => y.1.max) y.2)
  | _ => none
def evMake (t : TypeId) (n c : T) : Option T :=
  (slEl E t).bind fun te => (intT n).bind fun y => (intT c).bind fun yc => (zeroEl te).bind fun z => (E.A.mkn yc.2 te.bytes).bind fun mc => (E.A.sx y.2 mc).bind fun m =>
    match te.sz with
    | 0 => none
    | _ => some (.own te.flat te.sz (E.A.rep m z))
def boundOf (s : List T) (y : Option Operand) (n dflt : Nat) : Option Nat :=
  match y with
  | none => some dflt
  | some y => (intT (opd s y)).bind fun k => E.A.sx k.2 n
def cutT (x : T) (l n : Nat) : Option T :=
  match x with
  | .r .sn => some (.r .sn)
  | .r (.ro sz xs) => some (.r (.ro sz (E.A.seg xs l n)))
  | .v r q sz w => (match w with
    | none => some (.v r q sz (some (l, n)))
    | some (o, _) => some (.v r q sz (some (addOff E.A o l, n))))
  | _ => none
def evSlice (s : List T) (t : TypeId) (x : T) (lo hi mx : Option Operand) : Option T :=
  (slEl E t).bind fun te => match szOf x te.sz with
    | false => none
    | true => (lenT E s x).bind fun n => (boundOf E s mx n n).bind fun m => (boundOf E s hi m n).bind fun h => (boundOf E s lo h 0).bind fun l =>
      match lo, hi, mx with
      | none, none, none => some x
      | _, none, some _ => none
      | _, _, _ => cutT E x l (E.A.sub h l)
def evFieldAddr (t : TypeId) (x : T) (k : Nat) : Option T :=
  (E.ti t).bind fun ty => ty.fields?.bind fun fs => (fs[k]?).bind fun f => (E.ti f.type).bind fun tf => match tf.sz with
    | 0 => none
    | _ => match x with
      | .p r q => some (.p r (stepBy q f.offset))
      | .cp l o => some (.cp l (o + f.offset))
      | _ => none
def evField (t : TypeId) (x : T) (k : Nat) : Option T :=
  (E.ti t).bind fun ty => ty.fields?.bind fun fs => (fs[k]?).bind fun f => (E.ti f.type).bind fun tf => x.aggC?.bind fun cs => partT tf cs f.offset
def elAddr (s : List T) (te : TI) (x : T) (n : Int) : Option T :=
  match szOf x te.sz with
  | false => none
  | true => match x with
    | .r (.ro _ l) => (E.A.ix n (E.A.len l)).bind fun i => (E.A.get l i).map fun y => .cp y.cells 0
    | .v r q sz w => (lenT E s (.v r q sz w)).bind fun m => (E.A.ix n m).map fun i =>
        (match w with
        | none => .p r (q ++ [.e i sz 0])
        | some (o, _) => .p r (q ++ [.e (addOff E.A o i) sz 0]))
    | _ => none
def evIndexAddr (s : List T) (t : TypeId) (x i : T) : Option T :=
  (intT i).bind fun n => match slEl E t with
    | some te => elAddr E s te x n.2
    | none => (E.ti t).bind fun ty => ty.arr?.bind fun a => (E.ti a.2).bind fun te => (E.A.ix n.2 a.1).bind fun j =>
        (match x with
        | .p r q => some (.p r (stepBy q (E.A.mul j te.sz)))
        | .cp l o => some (.cp l (addOff E.A o (E.A.mul j te.sz)))
        | _ => none)
def evIndex (t : TypeId) (x i : T) : Option T :=
  (intT i).bind fun n => (E.ti t).bind fun ty => ty.arr?.bind fun a => (E.ti a.2).bind fun te => (E.A.ix n.2 a.1).bind fun j =>
    x.aggC?.bind fun cs => partT te cs (E.A.mul j te.sz)
def evLen (s : List T) (t : TypeId) (x : T) : Option R :=
  (E.ti t).bind fun ty => match ty.arr? with
    | some a => some (.i .i64 (E.A.on a.1))
    | none => match ty.elem? with
      | some _ => (lenT E s x).map fun n => .i .i64 (E.A.on n)
      | none => match x with
        | .r (.s y) => (match ty.isStr with | true => some (.i .i64 (E.A.on (E.A.ssz y))) | false => none)
        | _ => none
def frozen (s : List T) (y : T) : Option (List T × List Nat) :=
  match y with
  | .v r q _ _ => (match getP E.A s r q with
    | some (.ow ..) => freezeAll E s [] [(r, q)]
    | _ => some (s, []))
  | _ => some (s, [])
def evAppend1 (s : List T) (d : Option Nat) (t t2 : TypeId) (x y : T) : Option Eff :=
  match t == t2 with
  | false => none
  | true => (slEl E t).bind fun te => (zeroEl te).bind fun _ => (elems E s y).bind fun ys => match szOf y te.sz with
    | false => none
    | true => match x with
      | .r .sn => (match E.A.small (E.A.len ys) te.bytes && !(te.sz == 0) with
        | true => some (putD s d (.own te.flat te.sz ys))
        | false => none)
      | .v r q sz w => (match w with
        | some _ => none
        | none => (getP E.A s r q).bind fun t0 => match t0 with
          | .own fl z l => (match z == te.sz && sz == te.sz && E.A.small (E.A.len (E.A.app l ys)) te.bytes with
            | true => (setP E.A (killAll r q s) r q .u).map fun s1 =>
                let e := putD s1 d (.own fl z (E.A.app l ys))
                (e.1, r :: (hits r q s ++ e.2))
            | false => none)
          | _ => none)
      | _ => none
def evAppend (s : List T) (d : Option Nat) (t t2 : TypeId) (x y : Operand) : Option Eff :=
  (frozen E s (opd s y)).bind fun f => (evAppend1 E f.1 d t t2 (opd f.1 x) (opd f.1 y)).map fun e => (e.1, f.2 ++ e.2)
def wdOff : Option (Nat × Nat) → Nat | none => 0 | some (o, _) => o
def evCopy (s : List T) (d : Option Nat) (t t2 : TypeId) (x y : T) : Option Eff :=
  match t == t2 with
  | false => none
  | true => (slEl E t).bind fun te => (elems E s y).bind fun ys => (lenT E s x).bind fun n =>
    match szOf y te.sz && szOf x te.sz with
    | false => none
    | true => match x with
      | .v r q _ w => (getP E.A s r q).bind fun t0 => (match t0 with
        | .own fl z l => (match z == te.sz with
          | false => none
          | true =>
            (setP E.A s r q (.own fl z (E.A.spl l (wdOff w) (E.A.seg ys 0 (E.A.nmn (E.A.len ys) n))))).map fun s1 =>
              let e := putD s1 d (.r (.i .i64 (E.A.on (E.A.nmn (E.A.len ys) n))))
              (e.1, r :: e.2))
        | _ => none)
      | _ => none
def nilChk (x : T) : Option T := match x with | .p .. | .cp .. | .f .. => some x | _ => none
def retT (s : List T) (d : Option Nat) (t : Option T) : Option Eff := t.map (putD s d)
def retR (s : List T) (d : Option Nat) (t : Option R) : Option Eff := t.map fun x => putD s d (.r x)
def evBuiltin (s : List T) (d : Option Nat) (b : Builtin) (tys : List TypeId) (args : List Operand) : Option Eff :=
  match b with
  | .len => (match tys, args with | [t], [x] => retR s d (evLen E s t (opd s x)) | _, _ => none)
  | .min => retT s d (foldMM E.A.mn (args.map (opd s)))
  | .max => retT s d (foldMM E.A.mx (args.map (opd s)))
  | .append => (match tys, args with | [t, t2], [x, y] => evAppend E s d t t2 x y | _, _ => none)
  | .copy => (match tys, args with | [t, t2], [x, y] => evCopy E s d t t2 (opd s x) (opd s y) | _, _ => none)
  | _ => none
def isP : T → Bool | .p .. => true | _ => false
def evCall (s : List T) (d : Option Nat) (c : Call) : Option Eff :=
  match c.callee with
  | .value g => (match opd s g with
    | .f f cap => (match cap.all isP with
      | true => (match decide (f < mvK) with
        | true => doCall E s d f (c.args.toList.map (opd s) ++ cap)
        | false => doCall E s d (f - mvK) (cap ++ c.args.toList.map (opd s)))
      | false => none)
    | _ => none)
  | .builtin b => evBuiltin E s d b c.argTypes.toList c.args.toList
  | _ => none
def isBytes (t : TI) : Bool := match t.elem?.bind E.ti with
  | some te => (match te.int? with | some .u8 => true | _ => false)
  | none => false
def evConv (s : List T) (a b : TypeId) (x : T) : Option R :=
  (E.ti a).bind fun ta => (E.ti b).bind fun ty => match ty.int? with
    | some k => (intT x).map fun y => .i k (E.A.cv k y.2)
    | none => (match ty.isStr && isBytes E ta with
      | true => (elems E s x).bind fun l => match szOf x 1 && E.A.okb l with
        | true => some (.s (E.A.bs l))
        | false => none
      | false => none)
def evFn (fn : Fn) (first : List T) (cap : List T) : Option T :=
  match fn with
  | .func g => (match decide (g < mvK) with
    | true => (match first with
      | [] => (match cap.all isP with | true => some (.f g cap) | false => none)
      | _ => (match cap, first.all isP with | [], true => some (.f (g + mvK) first) | _, _ => none))
    | false => none)
  | _ => none
def parts (s : List T) (l : Array (Nat × Operand)) : List (Nat × T) := l.toList.map fun x => (x.1, opd s x.2)
def evOp (s : List T) (o : Oper) : Option Eff :=
  match o.op with
  | .move x => some (putD s o.dst (opd s x))
  | .assign x => evAssign E s o.dst o.type (opd s x)
  | .pick c a b => retT s o.dst (evPick (opd s c) (opd s a) (opd s b))
  | .alloc e => retT s o.dst ((E.ti e).bind fun t => t.zero.map fun z => .bx (z.map T.r))
  | .box _ x => retT s o.dst ((opd s x).cells?.map T.bx)
  | .build t ps => retT s o.dst (evBuild E t (parts s ps))
  | .buildSlice t len ps => evBuildSlice E s o.dst t len (parts s ps)
  | .load t x => retT s o.dst ((E.ti t).bind fun ty => loadT E s ty (opd s x))
  | .store t x y => (match o.dst with | none => evStore E s t (opd s x) (opd s y) | some _ => none)
  | .nilCheck x => retT s o.dst (nilChk (opd s x))
  | .binOp op t x y _ => retR s o.dst (binT E op t (opd s x) (opd s y))
  | .unOp op _ x => retR s o.dst (evUn E op (opd s x))
  | .convert a b x => retR s o.dst (evConv E s a b (opd s x))
  | .makeFunc fn first cap => retT s o.dst (evFn fn (first.toList.map (opd s)) (cap.toList.map (opd s)))
  | .makeSlice t l c => retT s o.dst (evMake E t (opd s l) (opd s c))
  | .slice t x lo hi mx => retT s o.dst (evSlice E s t (opd s x) lo hi mx)
  | .fieldAddr t x k => retT s o.dst (evFieldAddr E t (opd s x) k)
  | .field t x k => retT s o.dst (evField E t (opd s x) k)
  | .indexAddr t x i => retT s o.dst (evIndexAddr E s t (opd s x) (opd s i))
  | .index t x i => retT s o.dst (evIndex E t (opd s x) (opd s i))
  | .extract x k => retT s o.dst (rawAt s x k)
  | .call c => evCall E s o.dst c
  | _ => none
def wants (all : List Oper) (s : List T) (o : Oper) : Option Bool :=
  match o.guard with
  | none => some true
  | some g => ((all[g.1]?).bind (·.dst)).bind fun t => match slot s t with
    | .tp true [] => some false
    | x => (boolT x).map fun x => match g.2 with
      | true => x
      | false => E.A.bn x
def evR (all : List Oper) : List Oper → List T → Option (List T)
  | [], s => some s
  | o :: l, s => (wants E all s o).bind fun b => match b with
    | true => (evOp E s o).bind fun e => evR all l e.1
    | false => evR all l (putD s o.dst (.tp true [])).1
def ord (bf : List Nat) (i j : Nat) : Bool := (bf.getD j 0).testBit i || (bf.getD i 0).testBit j
def dsts (bf : List Nat) (all : List Oper) (j : Nat) : List Nat :=
  all.zipIdx.filterMap fun x => match x.2 == j || ord bf x.2 j with | true => none | false => x.1.dst
def keepL (k : Nat → Bool) (j : Nat) : List T → List T
  | [] => []
  | t :: l => (match k j with | true => t | false => .u) :: keepL k (j + 1) l
def mixL (W : List Nat) (j : Nat) (s' : List T) : List T → List T
  | [] => []
  | t :: l => (match W.contains j with | true => slot s' j | false => t) :: mixL W (j + 1) s' l
def rootsIn (W : List Nat) (t : T) : Bool := (roots t).any fun r => W.contains r
def refs (m : List Nat) (j : Nat) : List T → List Nat
  | [] => []
  | t :: l => match rootsIn m t with
    | true => j :: refs m (j + 1) l
    | false => refs m (j + 1) l
def narrow (o : Oper) (e : Eff) (s : List T) : Bool := o.dst.any fun d => match e.2 with | [d'] => d == d' && !owner (slot s d) | _ => false
def laterW (bf : List Nat) (pw : List (Nat × List Nat)) (j : Nat) : List Nat := (pw.filter fun x => decide (j < x.1) && !ord bf j x.1).flatMap (·.2)
def wideB (bf : List Nat) (pw : List (Nat × List Nat)) (j : Nat) (lost : List (Nat × List Nat)) (hs : List (List T)) (m : List Nat) (e : Eff) : Bool :=
  (List.range j).all (ord bf · j) ||
    ((pw.any fun x => x.1 == j && e.2.all (x.2.contains ·)) && (hs.all fun s' => !(m.any fun x => rootsIn e.2 (slot s' x))) && !(lost.any fun y => e.2.any fun x => rootsIn y.2 (slot e.1 x)))
def evD (all : List Oper) (bf : List Nat) (pw : List (Nat × List Nat)) : List Oper → Nat → List (Nat × List Nat) → List (List T) → List T → Option (List T)
  | [], _, _, _, s => some s
  | o :: l, j, ws, hs, s =>
    let lost := ws.filter fun x => !ord bf x.1 j
    let m1 := dsts bf all j ++ (lost.flatMap (·.2) ++ laterW bf pw j)
    let m2 := m1 ++ refs m1 0 s
    let m := m2 ++ refs m2 0 s
    let s0 := keepL (fun x => !m.contains x) 0 s
    match decide (bf.getD j 0 < 2 ^ j) && (refs m 0 s).all fun x => m.contains x with
    | false => none
    | true => (wants E all s0 o).bind fun b => match b with
      | true => (evOp E s0 o).bind fun e =>
        match narrow o e s with
        | true => o.dst.bind fun d => (match !(lost.any fun x => rootsIn x.2 (slot e.1 d)) && !m.contains d with
            | true => evD all bf pw l (j + 1) ws (s :: hs) (s.set d (slot e.1 d))
            | false => none)
        | false => (match wideB bf pw j lost hs m e && !(e.2.any (m.contains ·)) && !(m.any fun x => rootsIn e.2 (slot s x)) && !(o.dst.any (m.contains ·)) with
            | true => evD all bf pw l (j + 1) ((j, e.2) :: ws) (s :: hs) (mixL e.2 0 e.1 s)
            | false => none)
      | false => (match o.dst with
        | some d => (match owner (slot s d) || m.contains d with
          | false => evD all bf pw l (j + 1) ws (s :: hs) (s.set d (.tp true []))
          | true => none)
        | none => evD all bf pw l (j + 1) ws (s :: hs) s)
def ownerOf : T → Option (Nat × Pth)
  | .v r q _ w => (match w with | none => (match flatP q with | true => some (r, q) | false => none) | some _ => none)
  | _ => none
def takeOver (s : List T) : List Oper → List T
  | [] => s
  | o :: l => match o.op with
    | .assign _ => (match o.dst.bind fun d => (ownerOf (slot s d)).bind fun x => move E.A s x.1 x.2 d with
      | some s' => takeOver s' l
      | none => takeOver s l)
    | _ => takeOver s l
def idxB (j : Nat) : List Bool → List Nat
  | [] => []
  | b :: m => (match b with | true => j :: idxB (j + 1) m | false => idxB (j + 1) m)
def pwOf (pt : Nat → Option (List Bool × List Bool)) (id n : Nat) : List (Nat × List Nat) := (List.range n).filterMap fun j => (pt (2000000 + 1000 * id + j)).map fun x => (j, idxB 0 x.1)
def evReg (id : Nat) (ops : Array Oper) (draw : Bool) (s : List T) : Option (List T) :=
  (match draw with
  | false => evR E ops.toList ops.toList s
  | true => evD E ops.toList (CheckFast.beforeL ops.toList 0 []) (pwOf E.pt id ops.size) ops.toList 0 [] [] s).map fun s' => takeOver E s' ops.toList
def rootsM : List Bool → List T → List Nat
  | [], _ => []
  | b :: m, s => (match s with
    | [] => []
    | t :: l => (match b with | true => roots t ++ rootsM m l | false => rootsM m l))
def setAt : Nat → List Bool → List Bool
  | 0, m => (match m with | [] => [true] | _ :: m => true :: m)
  | n + 1, m => (match m with | [] => false :: setAt n [] | b :: m => b :: setAt n m)
def setB : List Nat → List Bool → List Bool
  | [], m => m
  | r :: l, m => setB l (setAt r m)
def fcBs {α : Type} : List Bool → (List Bool → α) → α
  | [], k => k []
  | b :: m, k => (match b with | true => fcBs m fun m' => k (true :: m') | false => fcBs m fun m' => k (false :: m'))
def keepP (k : Nat → Bool) (r : Nat) (q : Pth) : T := match k r with | true => .p r q | false => .u
def keepV (k : Nat → Bool) (r : Nat) (q : Pth) (sz : Nat) (w : Option (Nat × Nat)) : T := match k r with | true => .v r q sz w | false => .u
def cleanL (k : Nat → Bool) (j : Nat) : List T → List T
  | [] => []
  | t :: l => (match k j with | true => mapT (keepP k) (keepV k) t | false => .u) :: cleanL k (j + 1) l
def cleanZ (k : Nat → Bool) : List Bool → List T → List T
  | [], s => s.map fun _ => .u
  | b :: m, s => (match s with
    | [] => []
    | t :: l => (match b with | true => mapT (keepP k) (keepV k) t | false => .u) :: cleanZ k m l)
def clean (m : List Bool) (s : List T) : List T :=
  fcBs (setB (rootsM m s) m) fun m1 => fcBs (setB (rootsM m1 s) m1) fun m2 => cleanZ (fun j => m2.getD j false) m2 s
def firstReg : Code → Nat
  | .region id _ _ => id
  | .seq a _ => firstReg a
  | .block _ a => firstReg a
  | .loop a => firstReg a
  | .cond _ a _ => firstReg a
  | _ => 1000000
def ev : Code → List T → Option (Ex × List T)
  | .skip, s => some (.nm, s)
  | .ret, s => some (.rt, s)
  | .exit n, s => some (.ex n, s)
  | .region id ops d, s => (evReg E id ops d s).map fun s' => (.nm, s')
  | .seq x y, s => (ev x s).bind fun r => match r.1 with
    | .nm => (match E.pt (firstReg y) with
      | none => ev y r.2
      | some L => (ev y (clean L.1 r.2)).map fun z => (z.1, clean L.2 z.2))
    | _ => some r
  | .cond t x y, s => (boolT (opd s t)).bind fun c => match c with
      | true => ev x s
      | false => ev y s
  | .block n x, s => (ev x s).map fun r => match r.1 with
    | .ex m => (match m == n with | true => (.nm, r.2) | false => r)
    | _ => r
  | .loop x, s => E.lp x s
  | _, _ => none
def moveTo (s : List T) (r : Nat) (q : Pth) (d : Nat) (x : Sp) : Option (List T) :=
  match !(r == d) && flatP q with
  | false => none
  | true => (getP E.A s r q).bind fun t =>
    match (match t with | .own .. => true | .bx cs => shutL cs | _ => false) with
    | false => none
    | true => (setP E.A s r q .u).bind fun s1 => setP E.A (renL r q d [x] s1) d [x] t
def freezeTo (s : List T) (d : Nat) (x : Sp) (c : T) : Option (List T) :=
  (freezeAll E s [] (lent E s c)).bind fun f => (getP E.A f.1 d [x]).bind fun c' =>
    match c' with
    | .v r q sz w => (match lent E f.1 (.v r q sz w) with
      | [] => (frz E f.1 (.v r q sz w)).bind fun y => (match y.one with | true => setP E.A f.1 d [x] (.r y) | false => none)
      | _ => none)
    | _ => none
def isOwnT : Option T → Bool | some (.own ..) => true | _ => false
def outV (s : List T) (d : Nat) (x : Sp) : Option (List T) :=
  (getP E.A s d [x]).bind fun c => match shut c with
    | true => some s
    | false => (match c with
      | .v r q _ w => (match w.isNone && flatP q && isOwnT (getP E.A s r q) with
        | true => moveTo E s r q d x
        | false => freezeTo E s d x c)
      | _ => none)
def outN (f : List T → Sp → Option (List T)) (mk : Nat → Sp) : Nat → Nat → List T → Option (List T)
  | 0, _, s => some s
  | n + 1, k, s => (f s (mk k)).bind fun s' => outN f mk n (k + 1) s'
def moveBox (s : List T) (d : Nat) (x : Sp) : Option (List T) :=
  (getP E.A s d [x]).bind fun c => match c with
    | .p r q => (match q.getLast? with
      | some (.d 0) => (getP E.A s r q.dropLast).bind fun b => (match b with
        | .bx cs => (match shutL cs with | true => moveTo E s r q.dropLast d x | false => none)
        | _ => none)
      | _ => none)
    | _ => none
def outP (s : List T) (d : Nat) (x : Sp) : Option (List T) :=
  (getP E.A s d [x]).bind fun c => match c with
    | .p r q => (match q.dropLast with
      | [] => (match slot s r with
        | .bx cs => (outN (fun s x => outV E s r x) .d cs.length 0 s).bind fun s1 => moveBox E s1 d x
        | _ => none)
      | _ => moveBox E s d x)
    | _ => outV E s d x
def gOf (t : T) : T :=
  match t with
  | .r x => .r x
  | .a l => .tp false l
  | t => .tp true [t]
def outG (s : List T) (j : Nat) : Option (List T) :=
  match slot s j with
  | .tp _ l => outN (fun s x => outP E s j x) .t l.length 0 s
  | _ => some s
def outGs : Nat → Nat → List T → Option (List T)
  | 0, _, s => some s
  | n + 1, j, s => (outG E s j).bind fun s' => outGs n (j + 1) s'
def outB (j : Nat) : List T → List T → Option (List T)
  | [], s => some s
  | t :: l, s => match t with
    | .bx _ => (match slot s j with
      | .bx cs => (outN (fun s x => outV E s j x) .d cs.length 0 s).bind fun s' => outB (j + 1) l s'
      | _ => none)
    | _ => outB (j + 1) l s
def resOf (s : List T) : ResultVar → Option T
  | .tmp t => some (bor t [] (slot s t))
  | .cell t ty => (E.ti ty).bind fun i => loadT E s i (bor t [] (slot s t))
def resTs (s : List T) : List ResultVar → Option (List T)
  | [] => some []
  | x :: l => (resOf E s x).bind fun t => (resTs s l).map fun ts => t :: ts
def takeOne (g : T) : Option T :=
  match g with
  | .tp b l => (match b with
    | true => (match l with
      | [c] => (match shut c && cellT c with | true => some c | false => none)
      | _ => none)
    | false => none)
  | _ => none
def takeAgg (g : T) : Option T :=
  match g with
  | .tp b l => (match b with
    | false => (match shutL l with | true => some (mkAgg l) | false => none)
    | true => none)
  | _ => none
def resAt (g : T) (t : T) : Option T :=
  match t with
  | .r x => some (.r x)
  | .a _ => takeAgg g
  | _ => takeOne g
def readG (s : List T) (j : Nat) : List T → Option (List T)
  | [] => some []
  | t :: l => (resAt (slot s j) t).bind fun x => (readG s (j + 1) l).map fun xs => x :: xs
def readB (s : List T) (j : Nat) : List T → Option (List (List T))
  | [] => some []
  | t :: l => match t with
    | .bx _ => (match slot s j with
      | .bx cs => (match shutL cs with
        | true => (readB s (j + 1) l).map fun bs => cs :: bs
        | false => none)
      | _ => none)
    | .a _ => (match slot s j with
      | .a cs => (match shutL cs with
        | true => (readB s (j + 1) l).map fun bs => cs :: bs
        | false => none)
      | _ => none)
    | _ => readB s (j + 1) l
def inTup (t : T) : T :=
  match t with
  | .a l => .tp false l
  | .r x => (match x with | .a l => .tp false (l.map T.r) | x => .r x)
  | t => t
def tup : List T → T
  | [t] => t
  | l => .tp true (l.map inTup)
def keepsC (js : List Nat) : Code → Bool
  | .skip => true
  | .ret => true
  | .exit _ => true
  | .region _ ops _ => ops.toList.all fun o => match o.dst with | some d => !js.contains d | none => true
  | .seq x y => keepsC js x && keepsC js y
  | .cond _ x y => keepsC js x && keepsC js y
  | .block _ x => keepsC js x
  | .loop x => keepsC js x
  | _ => false
def boxIx (j : Nat) : List T → List Nat
  | [] => []
  | t :: l => match t with
    | .bx _ => j :: boxIx (j + 1) l
    | .a _ => j :: boxIx (j + 1) l
    | _ => boxIx (j + 1) l
def keepsB (c : Code) (args : List T) : Bool := match boxIx 0 args with | [] => true | js => keepsC js c
def bodyOf (f : Func) (args : List T) : Option (T × List (List T)) :=
  match f.body with
  | none => none
  | some c => match decide (args.length = f.params.size + f.nfree) && keepsB c args with
    | false => none
    | true => (ev E c (args ++ List.replicate (f.ntmps - args.length) .u)).bind fun r => match r.1 with
      | .ex _ => none
      | _ => (resTs E r.2 f.results.toList).bind fun ts =>
        (outB E 0 args (r.2 ++ ts.map gOf)).bind fun s2 => (outGs E ts.length r.2.length s2).bind fun s3 =>
          (readG s3 r.2.length ts).bind fun rs => (readB s3 0 args).map fun bs => (tup rs, bs)
end
end Go.Os
set_option linter.unusedVariables false
namespace Go.Os
def arI (o : BinOp) (k : IntKind) (x y : Int) : Int :=
  match o with
  | .add => k.wrap (x + y)
  | .sub => k.wrap (x - y)
  | .mul => k.wrap (x * y)
  | .quo => k.wrap (x.tdiv y)
  | .rem => x.tmod y
  | .and => k.wrap ((BitVec.ofInt k.bits x &&& BitVec.ofInt k.bits y).toNat : Int)
  | .or => k.wrap ((BitVec.ofInt k.bits x ||| BitVec.ofInt k.bits y).toNat : Int)
  | .xor => k.wrap ((BitVec.ofInt k.bits x ^^^ BitVec.ofInt k.bits y).toNat : Int)
  | .andNot => k.wrap ((BitVec.ofInt k.bits x &&& ~~~ BitVec.ofInt k.bits y).toNat : Int)
  | .shl => k.wrap (x * 2 ^ (min y.toNat k.bits))
  | .shr => x.fdiv (2 ^ (min y.toNat k.bits))
  | _ => 0
def cmI (o : BinOp) (x y : Int) : Bool :=
  match o with
  | .eql => decide (x = y)
  | .neq => decide (x ≠ y)
  | .lss => decide (x < y)
  | .leq => decide (x ≤ y)
  | .gtr => decide (y < x)
  | .geq => decide (y ≤ x)
  | _ => false
def isU8 : R → Bool
  | .i .u8 _ => true
  | _ => false
def pushU8 (r : ByteArray) : R → ByteArray
  | .i _ n => r.push (UInt8.ofNat n.toNat)
  | _ => r
def re : Pr where
  ar := arI
  cm := cmI
  cs := fun o x y => match o with | .eql => x.data.toList == y.data.toList | _ => false
  cv := fun k x => k.wrap x
  mn := fun x y => if y < x then y else x
  mx := fun x y => if x < y then y else x
  be := fun x y => x == y
  bn := fun x => !x
  ba := fun x y => x && y
  nz := fun x => decide (x = 0)
  sh := fun x => decide (0 ≤ x)
  ix := fun n k => if 0 ≤ n ∧ n < (k : Int) then some n.toNat else none
  sx := fun n k => if 0 ≤ n ∧ n ≤ (k : Int) then some n.toNat else none
  mkn := fun n b => if 0 ≤ n ∧ n ≤ 70368744177664 ∧ n * b ≤ 70368744177664 then some n.toNat else none
  on := fun n => (n : Int)
  add := fun m n => m + n
  sub := fun m n => m - n
  nmn := fun m n => min m n
  mul := fun m n => m * n
  len := fun l => l.length
  get := fun l i => l[i]?
  set := fun l i x => l.set i x
  app := fun l m => l ++ m
  seg := fun l o n => (l.drop o).take n
  spl := fun l o m => l.take o ++ m ++ l.drop (o + m.length)
  rep := fun n x => List.replicate n x
  small := fun n b => decide (n ≤ 70368744177664 ∧ n * b ≤ 70368744177664)
  ssz := fun y => y.size
  okb := fun l => l.all isU8
  bs := fun l => l.foldl pushU8 ByteArray.empty
structure FH where
  lp : Nat → List Bool × List Bool
  pt : Nat → Option (List Bool × List Bool)
abbrev Hints := FuncId → FH
def envOf (P : Program) (A : Pr) (call : FuncId → List T → Option (T × List (List T))) (lp : Code → List T → Option (Ex × List T)) (pt : Nat → Option (List Bool × List Bool)) : Env :=
  { A := A, ti := tiOf P, call := call, lp := lp, pt := pt }
def lpF (P : Program) (A : Pr) (call : FuncId → List T → Option (T × List (List T))) (H : FH) : Nat → Code → List T → Option (Ex × List T)
  | 0, _, _ => none
  | n + 1, c, s => (ev (envOf P A call (lpF P A call H n) H.pt) c (clean (H.lp (firstReg c)).1 s)).bind fun r => match r.1 with
    | .nm => lpF P A call H n c r.2
    | e => some (e, clean (H.lp (firstReg c)).2 r.2)
def runF (P : Program) (A : Pr) (H : Hints) : Nat → FuncId → List T → Option (T × List (List T))
  | 0, _, _ => none
  | n + 1, f, args => (P.funcs[f]?).bind fun fn => bodyOf (envOf P A (runF P A H n) (lpF P A (runF P A H n) (H f) n) (H f).pt) fn args
def retTmps (f : Func) : List Nat := f.results.toList.map fun | .tmp t => t | .cell t _ => t
def opTmps (l : Array Operand) : List Nat := l.toList.filterMap fun | .tmp t => some t | _ => none
def reps : Nat → Bool → List Bool → List Bool
  | 0, _, l => l
  | n + 1, b, l => b :: reps n b l
def rl : List Nat → List Bool
  | [] => []
  | n :: l => reps n false (match l with
    | [] => []
    | m :: l => reps m true (rl l))
def hintsLit (tbl : List (FuncId × (List (Nat × (List Bool × List Bool)) × List (Nat × (List Bool × List Bool))))) : Hints := fun f => match tbl.lookup f with
  | some x => { lp := fun k => (x.1.lookup k).getD ([], []), pt := fun k => x.2.lookup k }
  | none => { lp := fun _ => ([], []), pt := fun _ => none }
end Go.Os
set_option linter.unusedVariables false
namespace Go.Os
open Go.RowKit
inductive Ly where
  | no
  | nl
  | bl (g off n cap : Nat) (cs : List Ly)
  | fz (g off n cap : Nat)
  | ag (cs : List Ly)
  deriving Inhabited
mutual
def Ly.bs : Ly → List Nat
  | .no => []
  | .nl => []
  | .bl g _ _ _ cs => g :: Ly.bsL cs
  | .fz .. => []
  | .ag cs => Ly.bsL cs
  termination_by structural x => x
def Ly.bsL : List Ly → List Nat
  | [] => []
  | L :: l => L.bs ++ Ly.bsL l
  termination_by structural x => x
end
def Ly.un : Ly → List Ly
  | .ag cs => cs
  | L => [L]
def lyAt : Ly → Pth → Option Ly
  | L, [] => some L
  | .bl _ _ _ _ cs, .d o :: q => (cs[o]?).bind fun L => lyAt L q
  | .bl _ _ _ _ cs, .e i sz o :: q => (cs[i * sz + o]?).bind fun L => lyAt L q
  | .ag cs, .t k :: q => (cs[k]?).bind fun L => lyAt L q
  | _, _ => none
def adAt : Ly → Pth → Option (Nat × Nat)
  | .bl g off _ _ cs, .d o :: q => (match q with
    | [] => some (g, off + o)
    | _ => (cs[o]?).bind fun L => adAt L q)
  | .bl g off _ _ cs, .e i sz o :: q => (match q with
    | [] => some (g, off + (i * sz + o))
    | _ => (cs[i * sz + o]?).bind fun L => adAt L q)
  | .fz g off _ _, .e i sz o :: q => (match q with
    | [] => some (g, off + (i * sz + o))
    | _ => none)
  | .fz g off _ _, .d o :: q => (match q with
    | [] => some (g, off + o)
    | _ => none)
  | .ag cs, .t k :: q => (cs[k]?).bind fun L => adAt L q
  | _, _ => none
def tupV (b : Bool) (tv : Array Value) : Value := match b with | true => .tuple tv | false => .agg tv
section
variable (w : World) (RO : Nat → Prop)
mutual
def RC : R → List Value → Prop
  | .b x, vs => vs = [.bool x]
  | .i k n, vs => vs = [.int k n]
  | .s x, vs => vs = [.string x]
  | .pn, vs => vs = [.pointer none]
  | .sn, vs => vs = [.slice none 0 0]
  | .fn, vs => vs = [.nilFunc]
  | .a l, vs => RCL l vs
  | .ro sz l, vs => ∃ ad cap, vs = [.slice ad l.length cap] ∧ l.length ≤ cap ∧ (l = [] ∨ ∃ g off, ad = some ⟨g, off, none⟩ ∧ RO g ∧ RCE sz g off l)
  termination_by structural x => x
def RCL : List R → List Value → Prop
  | [], vs => vs = []
  | x :: l, vs => ∃ v vs', vs = v :: vs' ∧ RC x [v] ∧ RCL l vs'
  termination_by structural x => x
def RCE (sz g : Nat) : Nat → List R → Prop
  | _, [] => True
  | off, x :: l => (∃ vs : List Value, vs.length = sz ∧ (∀ j v, vs[j]? = some v → w.cell? ⟨g, off + j, none⟩ = some v) ∧ RC x vs) ∧ RCE sz g (off + sz) l
  termination_by structural _ x => x
end
def RCC (g : Nat) (off : Nat) (l : List R) : Prop := ∃ vs : List Value, (∀ j v, vs[j]? = some v → w.cell? ⟨g, off + j, none⟩ = some v) ∧ RCL w RO l vs
def RV (x : R) (v : Value) : Prop :=
  match x with
  | .a l => ∃ vs, v = .agg vs ∧ RCL w RO l vs.toList
  | x => RC w RO x [v]
variable (Ls : List Ly)
def fnV (g : Nat) (cv : Array Value) : Value := match decide (g < mvK) with
  | true => .func (.func g) #[] cv
  | false => .func (.func (g - mvK)) cv #[]
def viewV (L : Ly) (sz : Nat) (wd : Option (Nat × Nat)) (v : Value) : Prop :=
  match wd with
  | none => (match L with
    | .bl g off n cap _ => v = .slice (some ⟨g, off, none⟩) n cap
    | .fz g off n cap => v = .slice (some ⟨g, off, none⟩) n cap
    | .nl => v = .slice none 0 0
    | _ => False)
  | some (o, n) => L ≠ .no ∧ (∀ cs, L ≠ .ag cs) ∧ ∃ ad cap, v = .slice ad n cap ∧ n ≤ cap ∧ (n = 0 ∨ ∃ g off m c, (L = .fz g off m c ∨ ∃ cs, L = .bl g off m c cs) ∧ ad = some ⟨g, off + o * sz, none⟩ ∧ o + n ≤ m)
def memo (x : R) (vs : List Value) (L : Ly) : Prop :=
  L = .no ∨ ((∃ sz l, x = .ro sz l) ∧ ((vs = [.slice none 0 0] ∧ L = .nl) ∨ ∃ g off n cap, vs = [.slice (some ⟨g, off, none⟩) n cap] ∧ L = .fz g off n cap))
mutual
def TC : T → List Value → Ly → Prop
  | .u, vs, L => L = .no
  | .r x, vs, L => RC w RO x vs ∧ memo x vs L
  | .own _ sz l, vs, L => 0 < sz ∧ ((l = [] ∧ vs = [.slice none 0 0] ∧ L = .nl) ∨
      ∃ g cap cur e, vs = [.slice (some ⟨g, 0, none⟩) l.length cap] ∧ L = .bl g 0 l.length cap [] ∧ w.heap[g]? = some (.cells cur e (0, 0)) ∧
        l.length ≤ cap ∧ cap ≤ maxLen ∧ cur.size = cap * sz ∧ RCE w RO sz g 0 l)
  | .ow sz l, vs, L => 0 < sz ∧
      ∃ g cap cur e cs, vs = [.slice (some ⟨g, 0, none⟩) l.length cap] ∧ L = .bl g 0 l.length cap cs ∧ w.heap[g]? = some (.cells cur e (0, 0)) ∧
        l.length ≤ cap ∧ cap ≤ maxLen ∧ cur.size = cap * sz ∧ TCE sz g 0 l cs
  | .bx l, vs, L => ∃ g off cs cur e, vs = [.pointer (some ⟨g, off, none⟩)] ∧ L = .bl g off 0 0 cs ∧ w.heap[g]? = some (.cells cur e (0, 0)) ∧ TCC g off l cs
  | .p r q, vs, L => L = .no ∧ ∃ L0 g o, Ls[r]? = some L0 ∧ adAt L0 q = some (g, o) ∧ vs = [.pointer (some ⟨g, o, none⟩)]
  | .v r q sz wd, vs, L => L = .no ∧ ∃ L0 L1 v, Ls[r]? = some L0 ∧ lyAt L0 q = some L1 ∧ vs = [v] ∧ viewV L1 sz wd v
  | .cp l o, vs, L => L = .no ∧ ∃ g off, vs = [.pointer (some ⟨g, off + o, none⟩)] ∧ RO g ∧ RCC w RO g off l
  | .f g cap, vs, L => L = .no ∧ ∃ cv, vs = [fnV g cv] ∧ TCF cap cv.toList
  | .a l, vs, L => ∃ cs, L = .ag cs ∧ TCL l vs cs
  | .tp b l, vs, L => ∃ tv cs, vs = [tupV b tv] ∧ L = .ag cs ∧ TCL l tv.toList cs
  termination_by structural x => x
def TCL : List T → List Value → List Ly → Prop
  | [], vs, cs => vs = [] ∧ cs = []
  | t :: l, vs, cs => ∃ v vs' L cs', vs = v :: vs' ∧ cs = L :: cs' ∧ TC t [v] L ∧ TCL l vs' cs'
  termination_by structural x => x
def TCF : List T → List Value → Prop
  | [], vs => vs = []
  | t :: l, vs => ∃ v vs', vs = v :: vs' ∧ TC t [v] .no ∧ TCF l vs'
  termination_by structural x => x
def TCC (g : Nat) : Nat → List T → List Ly → Prop
  | _, [], cs => cs = []
  | off, t :: l, cs => ∃ v L cs', cs = L :: cs' ∧ w.cell? ⟨g, off, none⟩ = some v ∧ TC t [v] L ∧ TCC g (off + 1) l cs'
  termination_by structural _ x => x
def TCE (sz g : Nat) : Nat → List T → List Ly → Prop
  | _, [], cs => cs = []
  | off, t :: l, cs => (∃ vs L cs', vs.length = sz ∧ L.un.length = sz ∧ cs = L.un ++ cs' ∧ (∀ j v, vs[j]? = some v → w.cell? ⟨g, off + j, none⟩ = some v) ∧
      TC t vs L ∧ TCE sz g (off + sz) l cs')
  termination_by structural _ x => x
end
def TV (t : T) (v : Value) (L : Ly) : Prop :=
  match t with
  | .a l => ∃ vs cs, v = .agg vs ∧ L = .ag cs ∧ TCL w RO Ls l vs.toList cs
  | .r x => RV w RO x v ∧ memo x [v] L
  | t => TC w RO Ls t [v] L
structure Rel (ts : List T) (vs : Array Value) : Prop where
  len : vs.size = ts.length
  lenL : Ls.length = ts.length
  slot : ∀ j, TV w RO Ls (slot ts j) (vs.getD j undef) (Ls.getD j .no)
  nodup : (Ly.bsL Ls).Nodup
  own : ∀ g ∈ Ly.bsL Ls, g < w.heap.size ∧ ¬ RO g
  ro : ∀ g, RO g → g < w.heap.size
end
mutual
def Ly.bar : Ly → Bool
  | .no => true
  | .ag cs => Ly.barL cs
  | _ => false
  termination_by structural x => x
def Ly.barL : List Ly → Bool
  | [] => true
  | L :: l => L.bar && Ly.barL l
  termination_by structural x => x
end
end Go.Os
set_option linter.unusedVariables false
namespace Go.Os
theorem cell_eq {w w' : World} {g : Nat} (h : w'.heap[g]? = w.heap[g]?) (o : Nat) : w'.cell? ⟨g, o, none⟩ = w.cell? ⟨g, o, none⟩ := by
  simp [World.cell?, h]
section
variable {w w' : World} {RO RO' : Nat → Prop}
mutual
theorem RC_frame (hw : ∀ g, RO g → w'.heap[g]? = w.heap[g]?) (hr : ∀ g, RO g → RO' g) : ∀ (x : R) (vs : List Value), RC w RO x vs → RC w' RO' x vs
  | .b _, _, h => h
  | .i _ _, _, h => h
  | .s _, _, h => h
  | .pn, _, h => h
  | .sn, _, h => h
  | .fn, _, h => h
  | .a l, vs, h => RCL_frame hw hr l vs h
  | .ro sz l, vs, h => by
    obtain ⟨ad, cap, hv, hcap, hl⟩ := h
    refine ⟨ad, cap, hv, hcap, ?_⟩
    rcases hl with hl | ⟨g, off, ha, hg, he⟩
    · exact .inl hl
    · exact .inr ⟨g, off, ha, hr g hg, RCE_frame hw hr sz g (hw g hg) off l he⟩
  termination_by structural x => x
theorem RCL_frame (hw : ∀ g, RO g → w'.heap[g]? = w.heap[g]?) (hr : ∀ g, RO g → RO' g) : ∀ (l : List R) (vs : List Value), RCL w RO l vs → RCL w' RO' l vs
  | [], _, h => h
  | x :: l, vs, h => by
    obtain ⟨v, vs', hv, h1, h2⟩ := h
    exact ⟨v, vs', hv, RC_frame hw hr x [v] h1, RCL_frame hw hr l vs' h2⟩
  termination_by structural x => x
theorem RCE_frame (hw : ∀ g, RO g → w'.heap[g]? = w.heap[g]?) (hr : ∀ g, RO g → RO' g) (sz g : Nat) (hg : w'.heap[g]? = w.heap[g]?) :
    ∀ (off : Nat) (l : List R), RCE w RO sz g off l → RCE w' RO' sz g off l
  | _, [], _ => True.intro
  | off, x :: l, h => by
    obtain ⟨⟨vs, h1, h2, h3⟩, h4⟩ := h
    exact ⟨⟨vs, h1, fun j v hj => (cell_eq hg _).trans (h2 j v hj), RC_frame hw hr x vs h3⟩, RCE_frame hw hr sz g hg (off + sz) l h4⟩
  termination_by structural _ x => x
end
theorem RV_frame (hw : ∀ g, RO g → w'.heap[g]? = w.heap[g]?) (hr : ∀ g, RO g → RO' g) {x : R} {v : Value} (h : RV w RO x v) : RV w' RO' x v := by
  cases x <;> simp only [RV] at h ⊢ <;> first | exact RC_frame hw hr _ _ h | (obtain ⟨vs, hv, h⟩ := h; exact ⟨vs, hv, RCL_frame hw hr _ _ h⟩)
theorem mem_bsL {L : Ly} {l : List Ly} (h : L ∈ l) : ∀ g ∈ L.bs, g ∈ Ly.bsL l := by
  induction l with
  | nil => cases h
  | cons a l ih =>
    intro g hg
    simp only [Ly.bsL, List.mem_append]
    rcases List.mem_cons.1 h with rfl | h
    · exact .inl hg
    · exact .inr (ih h g hg)
theorem bsL_append (a b : List Ly) : Ly.bsL (a ++ b) = Ly.bsL a ++ Ly.bsL b := by
  induction a with
  | nil => rfl
  | cons x a ih => simp [Ly.bsL, ih]
theorem bs_un (L : Ly) : Ly.bsL L.un = L.bs := by cases L <;> simp [Ly.un, Ly.bsL, Ly.bs]
variable {Ls Ls' : List Ly} {fp : Nat → Pth → T} {fv : Nat → Pth → Nat → Option (Nat × Nat) → T}
structure Maps (w' : World) (RO' : Nat → Prop) (Ls Ls' : List Ly) (fp : Nat → Pth → T) (fv : Nat → Pth → Nat → Option (Nat × Nat) → T) (rs : List Nat) : Prop where
  p : ∀ r ∈ rs, ∀ q L0 g o, Ls[r]? = some L0 → adAt L0 q = some (g, o) → TC w' RO' Ls' (fp r q) [.pointer (some ⟨g, o, none⟩)] .no
  v : ∀ r ∈ rs, ∀ q sz wd L0 L1 x, Ls[r]? = some L0 → lyAt L0 q = some L1 → viewV L1 sz wd x → TC w' RO' Ls' (fv r q sz wd) [x] .no
theorem Maps.sub {rs rs' : List Nat} (h : Maps w' RO' Ls Ls' fp fv rs) (hs : ∀ r ∈ rs', r ∈ rs) : Maps w' RO' Ls Ls' fp fv rs' :=
  ⟨fun r hr => h.p r (hs r hr), fun r hr => h.v r (hs r hr)⟩
mutual
theorem TC_map (hw : ∀ g, RO g → w'.heap[g]? = w.heap[g]?) (hr : ∀ g, RO g → RO' g) : ∀ (t : T) (vs : List Value) (L : Ly),
    (∀ g ∈ L.bs, w'.heap[g]? = w.heap[g]?) → Maps w' RO' Ls Ls' fp fv (roots t) → TC w RO Ls t vs L → TC w' RO' Ls' (mapT fp fv t) vs L
  | .u, _, _, _, _, h => h
  | .r x, vs, _, _, _, h => ⟨RC_frame hw hr x vs h.1, h.2⟩
  | .own _ sz l, vs, L, hb, _, h => by
    obtain ⟨hs, h⟩ := h
    refine ⟨hs, ?_⟩
    rcases h with h | ⟨g, cap, cur, e, hv, hL, hg, h1, h2, h3, h4⟩
    · exact .inl h
    · have hh := hb g (by rw [hL]; simp [Ly.bs])
      exact .inr ⟨g, cap, cur, e, hv, hL, hh.trans hg, h1, h2, h3, RCE_frame hw hr sz g hh 0 l h4⟩
  | .ow sz l, vs, L, hb, hq, h => by
    obtain ⟨hs, g, cap, cur, e, cs, hv, hL, hg, h1, h2, h3, h4⟩ := h
    have hh := hb g (by rw [hL]; simp [Ly.bs])
    have h5 := TCE_map hw hr sz g hh 0 l cs (fun k hk => hb k (by rw [hL]; simp [Ly.bs, hk])) hq h4
    have hl : ∀ l : List T, (mapL fp fv l).length = l.length := by
      intro l; induction l with
      | nil => rfl
      | cons a l ih => simp [mapL, ih]
    refine ⟨hs, g, cap, cur, e, cs, ?_, ?_, hh.trans hg, ?_, h2, h3, h5⟩
    · rw [hl]; exact hv
    · rw [hl]; exact hL
    · rw [hl]; exact h1
  | .bx l, vs, L, hb, hq, h => by
    obtain ⟨g, off, cs, cur, e, hv, hL, hg, h4⟩ := h
    have hh := hb g (by rw [hL]; simp [Ly.bs])
    exact ⟨g, off, cs, cur, e, hv, hL, hh.trans hg, TCC_map hw hr g hh off l cs (fun k hk => hb k (by rw [hL]; simp [Ly.bs, hk])) hq h4⟩
  | .p r q, vs, L, _, hq, h => by
    obtain ⟨hL, L0, g, o, h0, h1, h2⟩ := h
    subst h2 hL
    exact hq.p r (by simp [roots]) q L0 g o h0 h1
  | .v r q sz wd, vs, L, _, hq, h => by
    obtain ⟨hL, L0, L1, v, h0, h1, h2, h3⟩ := h
    subst h2 hL
    exact hq.v r (by simp [roots]) q sz wd L0 L1 v h0 h1 h3
  | .cp l o, vs, L, _, _, h => by
    obtain ⟨hL, g, off, hv, hg, vs', h1, h2⟩ := h
    exact ⟨hL, g, off, hv, hr g hg, vs', fun j v hj => (cell_eq (hw g hg) _).trans (h1 j v hj), RCL_frame hw hr l vs' h2⟩
  | .f g cap, vs, L, _, hq, h => by
    obtain ⟨hL, cv, hv, h⟩ := h
    exact ⟨hL, cv, hv, TCF_map hw hr cap cv.toList hq h⟩
  | .a l, vs, L, hb, hq, h => by
    obtain ⟨cs, hL, h⟩ := h
    exact ⟨cs, hL, TCL_map hw hr l vs cs (fun k hk => hb k (by rw [hL]; simpa [Ly.bs] using hk)) hq h⟩
  | .tp b l, vs, L, hb, hq, h => by
    obtain ⟨tv, cs, hv, hL, h⟩ := h
    exact ⟨tv, cs, hv, hL, TCL_map hw hr l tv.toList cs (fun k hk => hb k (by rw [hL]; simpa [Ly.bs] using hk)) hq h⟩
  termination_by structural x => x
theorem TCL_map (hw : ∀ g, RO g → w'.heap[g]? = w.heap[g]?) (hr : ∀ g, RO g → RO' g) : ∀ (l : List T) (vs : List Value) (cs : List Ly),
    (∀ g ∈ Ly.bsL cs, w'.heap[g]? = w.heap[g]?) → Maps w' RO' Ls Ls' fp fv (rootsL l) → TCL w RO Ls l vs cs → TCL w' RO' Ls' (mapL fp fv l) vs cs
  | [], _, _, _, _, h => h
  | t :: l, vs, cs, hb, hq, h => by
    obtain ⟨v, vs', L, cs', hv, hc, h1, h2⟩ := h
    subst hc
    exact ⟨v, vs', L, cs', hv, rfl, TC_map hw hr t [v] L (fun g hg => hb g (by simp [Ly.bsL, hg])) (hq.sub fun r hr => by simp [rootsL, hr]) h1,
      TCL_map hw hr l vs' cs' (fun g hg => hb g (by simp [Ly.bsL, hg])) (hq.sub fun r hr => by simp [rootsL, hr]) h2⟩
  termination_by structural x => x
theorem TCF_map (hw : ∀ g, RO g → w'.heap[g]? = w.heap[g]?) (hr : ∀ g, RO g → RO' g) : ∀ (l : List T) (vs : List Value),
    Maps w' RO' Ls Ls' fp fv (rootsL l) → TCF w RO Ls l vs → TCF w' RO' Ls' (mapL fp fv l) vs
  | [], _, _, h => h
  | t :: l, vs, hq, h => by
    obtain ⟨v, vs', hv, h1, h2⟩ := h
    exact ⟨v, vs', hv, TC_map hw hr t [v] .no (fun g hg => by simp [Ly.bs] at hg) (hq.sub fun r hr => by simp [rootsL, hr]) h1,
      TCF_map hw hr l vs' (hq.sub fun r hr => by simp [rootsL, hr]) h2⟩
  termination_by structural x => x
theorem TCC_map (hw : ∀ g, RO g → w'.heap[g]? = w.heap[g]?) (hr : ∀ g, RO g → RO' g) (g : Nat) (hg : w'.heap[g]? = w.heap[g]?) : ∀ (off : Nat) (l : List T) (cs : List Ly),
    (∀ g ∈ Ly.bsL cs, w'.heap[g]? = w.heap[g]?) → Maps w' RO' Ls Ls' fp fv (rootsL l) → TCC w RO Ls g off l cs → TCC w' RO' Ls' g off (mapL fp fv l) cs
  | _, [], _, _, _, h => h
  | off, t :: l, cs, hb, hq, h => by
    obtain ⟨v, L, cs', hc, h0, h1, h2⟩ := h
    subst hc
    exact ⟨v, L, cs', rfl, (cell_eq hg _).trans h0, TC_map hw hr t [v] L (fun g hg => hb g (by simp [Ly.bsL, hg])) (hq.sub fun r hr => by simp [rootsL, hr]) h1,
      TCC_map hw hr g hg (off + 1) l cs' (fun g hg => hb g (by simp [Ly.bsL, hg])) (hq.sub fun r hr => by simp [rootsL, hr]) h2⟩
  termination_by structural _ x => x
theorem TCE_map (hw : ∀ g, RO g → w'.heap[g]? = w.heap[g]?) (hr : ∀ g, RO g → RO' g) (sz g : Nat) (hg : w'.heap[g]? = w.heap[g]?) : ∀ (off : Nat) (l : List T) (cs : List Ly),
    (∀ g ∈ Ly.bsL cs, w'.heap[g]? = w.heap[g]?) → Maps w' RO' Ls Ls' fp fv (rootsL l) → TCE w RO Ls sz g off l cs → TCE w' RO' Ls' sz g off (mapL fp fv l) cs
  | _, [], _, _, _, h => h
  | off, t :: l, cs, hb, hq, h => by
    obtain ⟨vs, L, cs', h1, h2, hc, h3, h4, h5⟩ := h
    subst hc
    exact ⟨vs, L, cs', h1, h2, rfl, fun j v hj => (cell_eq hg _).trans (h3 j v hj),
      TC_map hw hr t vs L (fun g hg => hb g (by rw [bsL_append, bs_un]; simp [hg])) (hq.sub fun r hr => by simp [rootsL, hr]) h4,
      TCE_map hw hr sz g hg (off + sz) l cs' (fun g hg => hb g (by rw [bsL_append]; simp [hg])) (hq.sub fun r hr => by simp [rootsL, hr]) h5⟩
  termination_by structural _ x => x
end
mutual
theorem mapT_id : ∀ t : T, mapT .p .v t = t
  | .u => rfl
  | .r _ => rfl
  | .own .. => rfl
  | .ow sz l => by simp [mapT, mapL_id l]
  | .bx l => by simp [mapT, mapL_id l]
  | .p .. => rfl
  | .v .. => rfl
  | .cp .. => rfl
  | .f g l => by simp [mapT, mapL_id l]
  | .a l => by simp [mapT, mapL_id l]
  | .tp b l => by simp [mapT, mapL_id l]
  termination_by structural x => x
theorem mapL_id : ∀ l : List T, mapL .p .v l = l
  | [] => rfl
  | t :: l => by simp [mapL, mapT_id t, mapL_id l]
  termination_by structural x => x
end
theorem TV_map (hw : ∀ g, RO g → w'.heap[g]? = w.heap[g]?) (hr : ∀ g, RO g → RO' g) {t : T} {v : Value} {L : Ly}
    (hb : ∀ g ∈ L.bs, w'.heap[g]? = w.heap[g]?) (hp1 : ∀ r q, ∀ l, fp r q ≠ .a l) (hp2 : ∀ r q x, fp r q ≠ .r x) (hv1 : ∀ r q sz wd l, fv r q sz wd ≠ .a l) (hv2 : ∀ r q sz wd x, fv r q sz wd ≠ .r x)
    (hq : Maps w' RO' Ls Ls' fp fv (roots t)) (h : TV w RO Ls t v L) : TV w' RO' Ls' (mapT fp fv t) v L := by
  cases t with
  | a l =>
    obtain ⟨vs, cs, hv, hL, h⟩ := h
    exact ⟨vs, cs, hv, hL, TCL_map hw hr l vs.toList cs (fun k hk => hb k (by rw [hL]; simpa [Ly.bs] using hk)) hq h⟩
  | r x => exact ⟨RV_frame hw hr h.1, h.2⟩
  | p r q =>
    have := TC_map hw hr (.p r q) [v] L hb hq h
    show TV w' RO' Ls' (fp r q) v L
    have h3 : TC w' RO' Ls' (fp r q) [v] L := this
    cases hf : fp r q <;> first | exact absurd hf (hp1 _ _ _) | exact absurd hf (hp2 _ _ _) | (rw [hf] at h3; exact h3)
  | v r q sz wd =>
    have := TC_map hw hr (.v r q sz wd) [v] L hb hq h
    show TV w' RO' Ls' (fv r q sz wd) v L
    have h3 : TC w' RO' Ls' (fv r q sz wd) [v] L := this
    cases hf : fv r q sz wd <;> first | exact absurd hf (hv1 _ _ _ _ _) | exact absurd hf (hv2 _ _ _ _ _) | (rw [hf] at h3; exact h3)
  | u => exact TC_map hw hr .u [v] L hb hq h
  | own fl sz l => exact TC_map hw hr (.own fl sz l) [v] L hb hq h
  | ow sz l => exact TC_map hw hr (.ow sz l) [v] L hb hq h
  | bx l => exact TC_map hw hr (.bx l) [v] L hb hq h
  | cp l o => exact TC_map hw hr (.cp l o) [v] L hb hq h
  | f g c => exact TC_map hw hr (.f g c) [v] L hb hq h
  | tp b l => exact TC_map hw hr (.tp b l) [v] L hb hq h
def Keeps (Ls Ls' : List Ly) (rs : List Nat) : Prop := ∀ r ∈ rs, ∀ L0, Ls[r]? = some L0 → L0.bar = false → Ls'[r]? = some L0
mutual
theorem bar_ad : ∀ (L : Ly) (q : Pth), L.bar = true → adAt L q = none
  | .no, q, _ => by cases q <;> simp [adAt]
  | .nl, _, h => by simp [Ly.bar] at h
  | .bl .., _, h => by simp [Ly.bar] at h
  | .fz .., _, h => by simp [Ly.bar] at h
  | .ag cs, q, h => by
    cases q with
    | nil => simp [adAt]
    | cons x q => cases x with
      | t k =>
        simp only [adAt, Option.bind_eq_none_iff]
        intro L hL
        exact bar_adL cs k L q (by simpa [Ly.bar] using h) hL
      | d o => simp [adAt]
      | e i sz o => simp [adAt]
  termination_by structural x => x
theorem bar_adL : ∀ (cs : List Ly) (k : Nat) (L : Ly) (q : Pth), Ly.barL cs = true → cs[k]? = some L → adAt L q = none
  | [], _, _, _, _, h => by simp at h
  | c :: cs, k, L, q, hb, h => by
    simp only [Ly.barL, Bool.and_eq_true] at hb
    cases k with
    | zero => simp at h; subst h; exact bar_ad c q hb.1
    | succ k => exact bar_adL cs k L q hb.2 (by simpa using h)
  termination_by structural x => x
end
mutual
theorem bar_ly : ∀ (L : Ly) (q : Pth) (L1 : Ly), L.bar = true → lyAt L q = some L1 → L1.bar = true
  | .no, q, L1, _, h => by cases q with
    | nil => simp [lyAt] at h; subst h; rfl
    | cons x q => cases x <;> simp [lyAt] at h
  | .nl, _, _, h, _ => by simp [Ly.bar] at h
  | .bl .., _, _, h, _ => by simp [Ly.bar] at h
  | .fz .., _, _, h, _ => by simp [Ly.bar] at h
  | .ag cs, q, L1, hb, h => by
    cases q with
    | nil => simp [lyAt] at h; subst h; exact hb
    | cons x q => cases x with
      | t k =>
        simp only [lyAt, Option.bind_eq_some_iff] at h
        obtain ⟨L, hL, h⟩ := h
        exact bar_lyL cs k L q L1 (by simpa [Ly.bar] using hb) hL h
      | d o => simp [lyAt] at h
      | e i sz o => simp [lyAt] at h
  termination_by structural x => x
theorem bar_lyL : ∀ (cs : List Ly) (k : Nat) (L : Ly) (q : Pth) (L1 : Ly), Ly.barL cs = true → cs[k]? = some L → lyAt L q = some L1 → L1.bar = true
  | [], _, _, _, _, _, h, _ => by simp at h
  | c :: cs, k, L, q, L1, hb, h, h1 => by
    simp only [Ly.barL, Bool.and_eq_true] at hb
    cases k with
    | zero => simp at h; subst h; exact bar_ly c q L1 hb.1 h1
    | succ k => exact bar_lyL cs k L q L1 hb.2 (by simpa using h) h1
  termination_by structural x => x
end
theorem viewV_bar {L : Ly} {sz : Nat} {wd : Option (Nat × Nat)} {v : Value} (h : viewV L sz wd v) : L.bar = false := by
  cases wd with
  | none => cases L <;> simp_all [viewV, Ly.bar]
  | some x =>
    obtain ⟨o, n⟩ := x
    obtain ⟨h1, h2, _⟩ := h
    cases L <;> simp_all [Ly.bar]
theorem Maps.keeps {rs : List Nat} (h : Keeps Ls Ls' rs) : Maps w' RO' Ls Ls' .p .v rs := by
  refine ⟨fun r hr q L0 g o h0 h1 => ?_, fun r hr q sz wd L0 L1 x h0 h1 h2 => ?_⟩
  · refine ⟨rfl, L0, g, o, h r hr L0 h0 ?_, h1, rfl⟩
    cases hb : L0.bar with
    | false => rfl
    | true => rw [bar_ad L0 q hb] at h1; cases h1
  · refine ⟨rfl, L0, L1, x, h r hr L0 h0 ?_, h1, rfl, h2⟩
    cases hb : L0.bar with
    | false => rfl
    | true => have := bar_ly L0 q L1 hb h1; rw [viewV_bar h2] at this; cases this
theorem TV_frame (hw : ∀ g, RO g → w'.heap[g]? = w.heap[g]?) (hr : ∀ g, RO g → RO' g) {t : T} {v : Value} {L : Ly}
    (hb : ∀ g ∈ L.bs, w'.heap[g]? = w.heap[g]?) (hq : Keeps Ls Ls' (roots t)) (h : TV w RO Ls t v L) : TV w' RO' Ls' t v L := by
  have := TV_map (fp := .p) (fv := .v) hw hr hb (by simp) (by simp) (by simp) (by simp) (Maps.keeps hq) h
  rwa [mapT_id] at this
end
end Go.Os
set_option linter.unusedVariables false
namespace Go.Os
theorem lyAt_append (L : Ly) (q q' : Pth) : lyAt L (q ++ q') = (lyAt L q).bind fun L1 => lyAt L1 q' := by
  induction q generalizing L with
  | nil => rfl
  | cons x q ih =>
    cases x with
    | d o => cases L with
      | bl g off n cap cs => simp only [List.cons_append, lyAt]; cases cs[o]? <;> simp [ih]
      | _ => simp [lyAt]
    | e i sz o => cases L with
      | bl g off n cap cs => simp only [List.cons_append, lyAt]; cases cs[i * sz + o]? <;> simp [ih]
      | _ => simp [lyAt]
    | t k => cases L with
      | ag cs => simp only [List.cons_append, lyAt]; cases cs[k]? <;> simp [ih]
      | _ => simp [lyAt]
theorem adAt_append (L : Ly) (q q' : Pth) (h : q' ≠ []) : adAt L (q ++ q') = (lyAt L q).bind fun L1 => adAt L1 q' := by
  induction q generalizing L with
  | nil => rfl
  | cons x q ih =>
    have hne : q ++ q' ≠ [] := by simp [h]
    obtain ⟨y, z, hz⟩ := List.exists_cons_of_ne_nil hne
    cases x with
    | d o => cases L with
      | bl g off n cap cs =>
        simp only [List.cons_append, lyAt, adAt]
        rw [hz]
        rw [← hz]
        cases cs[o]? <;> simp [ih]
      | fz g off n cap => simp [lyAt, adAt, hz]
      | _ => simp [lyAt, adAt]
    | e i sz o => cases L with
      | bl g off n cap cs =>
        simp only [List.cons_append, lyAt, adAt]
        rw [hz]
        rw [← hz]
        cases cs[i * sz + o]? <;> simp [ih]
      | fz g off n cap => simp [lyAt, adAt, hz]
      | _ => simp [lyAt, adAt]
    | t k => cases L with
      | ag cs => simp only [List.cons_append, lyAt, adAt]; cases cs[k]? <;> simp [ih]
      | _ => simp [lyAt, adAt]
section
variable {w : World} {RO : Nat → Prop} {Ls : List Ly}
theorem viewV_own {g off n cap : Nat} {cs : List Ly} {sz : Nat} : viewV (.bl g off n cap cs) sz none (.slice (some ⟨g, off, none⟩) n cap) := rfl
mutual
theorem borC {r : Nat} {L0 : Ly} (h0 : Ls[r]? = some L0) : ∀ (t : T) (q : Pth) (vs : List Value) (L : Ly), lyAt L0 q = some L → TC w RO Ls t vs L →
    ∃ L', TC w RO Ls (bor r q t) vs L' ∧ L'.bs = []
  | .u, _, _, L, _, h => ⟨L, h, by rw [show L = .no from h]; rfl⟩
  | .r x, _, _, L, _, h => ⟨L, h, by
      rcases h.2 with h | ⟨_, ⟨_, h⟩ | ⟨_, _, _, _, _, h⟩⟩ <;> rw [h] <;> rfl⟩
  | .own fl sz l, q, vs, L, hq, h => by
    refine ⟨.no, ?_, rfl⟩
    obtain ⟨hs, ⟨_, hv, hL⟩ | ⟨g, cap, cur, e, hv, hL, _⟩⟩ := h
    · exact ⟨rfl, L0, L, _, h0, hq, hv, by rw [hL]; rfl⟩
    · exact ⟨rfl, L0, L, _, h0, hq, hv, by rw [hL]; rfl⟩
  | .ow sz l, q, vs, L, hq, h => by
    refine ⟨.no, ?_, rfl⟩
    obtain ⟨hs, g, cap, cur, e, cs, hv, hL, _⟩ := h
    exact ⟨rfl, L0, L, _, h0, hq, hv, by rw [hL]; rfl⟩
  | .bx l, q, vs, L, hq, h => by
    refine ⟨.no, ?_, rfl⟩
    obtain ⟨g, off, cs, cur, e, hv, hL, _⟩ := h
    refine ⟨rfl, L0, g, off, h0, ?_, hv⟩
    rw [adAt_append _ _ _ (by simp), hq, hL]; rfl
  | .p r' q', _, _, L, _, h => ⟨L, h, by rw [h.1]; rfl⟩
  | .v r' q' sz wd, _, _, L, _, h => ⟨L, h, by rw [h.1]; rfl⟩
  | .cp l o, _, _, L, _, h => ⟨L, h, by rw [h.1]; rfl⟩
  | .f g c, _, _, L, _, h => ⟨L, h, by rw [h.1]; rfl⟩
  | .a l, q, vs, L, hq, h => by
    obtain ⟨cs, hL, h⟩ := h
    obtain ⟨cs', h', hb⟩ := borCL h0 l q 0 vs cs (fun i L1 hi => by rw [lyAt_append, hq, hL]; simp [lyAt, hi]) h
    exact ⟨.ag cs', ⟨cs', rfl, h'⟩, by simpa [Ly.bs] using hb⟩
  | .tp b l, q, vs, L, hq, h => by
    obtain ⟨tv, cs, hv, hL, h⟩ := h
    obtain ⟨cs', h', hb⟩ := borCL h0 l q 0 tv.toList cs (fun i L1 hi => by rw [lyAt_append, hq, hL]; simp [lyAt, hi]) h
    exact ⟨.ag cs', ⟨tv, cs', hv, rfl, h'⟩, by simpa [Ly.bs] using hb⟩
  termination_by structural x => x
theorem borCL {r : Nat} {L0 : Ly} (h0 : Ls[r]? = some L0) : ∀ (l : List T) (q : Pth) (k : Nat) (vs : List Value) (cs : List Ly),
    (∀ i L, cs[i]? = some L → lyAt L0 (q ++ [.t (k + i)]) = some L) → TCL w RO Ls l vs cs →
    ∃ cs', TCL w RO Ls (borL r q k l) vs cs' ∧ Ly.bsL cs' = []
  | [], _, _, _, _, _, h => ⟨[], ⟨h.1, rfl⟩, rfl⟩
  | t :: l, q, k, vs, cs, hq, h => by
    obtain ⟨v, vs', L, cs', hv, hc, h1, h2⟩ := h
    subst hc
    obtain ⟨L', h3, h4⟩ := borC h0 t (q ++ [.t k]) [v] L (hq 0 L rfl) h1
    obtain ⟨cs2, h5, h6⟩ := borCL h0 l q (k + 1) vs' cs' (fun i L1 hi => by
      have := hq (i + 1) L1 (by simpa using hi); rwa [show k + (i + 1) = k + 1 + i by omega] at this) h2
    exact ⟨L' :: cs2, ⟨v, vs', L', cs2, hv, rfl, h3, h5⟩, by simp [Ly.bsL, h4, h6]⟩
  termination_by structural x => x
end
theorem bor_ok {r : Nat} {L0 : Ly} (h0 : Ls[r]? = some L0) {t : T} {q : Pth} {v : Value} {L : Ly} (hq : lyAt L0 q = some L) (h : TV w RO Ls t v L) :
    ∃ L', TV w RO Ls (bor r q t) v L' ∧ L'.bs = [] := by
  cases t with
  | a l =>
    obtain ⟨vs, cs, hv, hL, h⟩ := h
    obtain ⟨cs', h', hb⟩ := borCL h0 l q 0 vs.toList cs (fun i L1 hi => by rw [lyAt_append, hq, hL]; simp [lyAt, hi]) h
    exact ⟨.ag cs', ⟨vs, cs', hv, rfl, h'⟩, by simpa [Ly.bs] using hb⟩
  | r x => exact ⟨L, h, by rcases h.2 with h | ⟨_, ⟨_, h⟩ | ⟨_, _, _, _, _, h⟩⟩ <;> rw [h] <;> rfl⟩
  | u => exact borC (w := w) (RO := RO) h0 .u q [v] L hq h
  | own fl sz l => exact borC (w := w) (RO := RO) h0 (.own fl sz l) q [v] L hq h
  | ow sz l => exact borC (w := w) (RO := RO) h0 (.ow sz l) q [v] L hq h
  | bx l => exact borC (w := w) (RO := RO) h0 (.bx l) q [v] L hq h
  | p r' q' => exact borC (w := w) (RO := RO) h0 (.p r' q') q [v] L hq h
  | v r' q' sz wd => exact borC (w := w) (RO := RO) h0 (.v r' q' sz wd) q [v] L hq h
  | cp l o => exact borC (w := w) (RO := RO) h0 (.cp l o) q [v] L hq h
  | f g c => exact borC (w := w) (RO := RO) h0 (.f g c) q [v] L hq h
  | tp b l => exact borC (w := w) (RO := RO) h0 (.tp b l) q [v] L hq h
theorem Rel.ly {ts : List T} {vs : Array Value} (h : Rel w RO Ls ts vs) {j : Nat} (hj : j < ts.length) : Ls[j]? = some (Ls.getD j .no) := by
  rw [List.getD_eq_getElem?_getD]
  have : j < Ls.length := by rw [h.lenL]; exact hj
  simp [List.getElem?_eq_getElem this]
theorem slot_ge {ts : List T} {j : Nat} (h : ts.length ≤ j) : slot ts j = .u := by simp [slot, h]
theorem ofV_ok {v : Value} {x : R} (h : ofV v = some x) : RC w RO x [v] ∧ x.one = true := by
  unfold ofV at h
  split at h <;> first | (obtain rfl := Option.some.inj h; exact ⟨rfl, rfl⟩) | cases h
theorem TV_of_one {x : R} (hx : x.one = true) {v : Value} (h : RC w RO x [v]) : TV w RO Ls (.r x) v .no := by
  refine ⟨?_, .inl rfl⟩
  cases x <;> first | exact h | (simp [R.one] at hx)
theorem opd_ok {ts : List T} {a : Act} (h : Rel w RO Ls ts a.tmps) (x : Operand) : ∃ L, TV w RO Ls (opd ts x) (a.eval x) L ∧ L.bs = [] := by
  cases x with
  | tmp t =>
    by_cases ht : t < ts.length
    · exact bor_ok (h.ly ht) rfl (h.slot t)
    · simp only [opd, slot_ge (Nat.le_of_not_lt ht), bor]
      exact ⟨.no, rfl, rfl⟩
  | const v =>
    refine ⟨.no, ?_, rfl⟩
    simp only [opd, ofC, Act.eval]
    cases hv : ofV v with
    | none => exact rfl
    | some x => exact TV_of_one (ofV_ok (w := w) (RO := RO) hv).2 (ofV_ok hv).1
  | func f =>
    simp only [opd, Act.eval]
    cases hf : decide (f < mvK) with
    | true => exact ⟨.no, ⟨rfl, #[], by unfold fnV; rw [hf], rfl⟩, rfl⟩
    | false => exact ⟨.no, rfl, rfl⟩
  | global g => exact ⟨.no, rfl, rfl⟩
theorem RCL_get : ∀ {l : List R} {vs : List Value}, RCL w RO l vs → ∀ {k : Nat} {x : R}, l[k]? = some x → ∃ v, vs[k]? = some v ∧ RC w RO x [v]
  | [], _, _, _, _, h => by simp at h
  | y :: l, vs, h, k, x, hk => by
    obtain ⟨v, vs', hv, h1, h2⟩ := h
    subst hv
    cases k with
    | zero => simp at hk; subst hk; exact ⟨v, rfl, h1⟩
    | succ k => exact RCL_get h2 (by simpa using hk)
theorem RCL_len : ∀ {l : List R} {vs : List Value}, RCL w RO l vs → vs.length = l.length
  | [], _, h => by rw [show _ = [] from h]; rfl
  | x :: l, vs, h => by
    obtain ⟨v, vs', hv, _, h2⟩ := h
    subst hv; simp [RCL_len h2]
theorem RC_cells {x : R} {vs : List Value} (h : RC w RO x vs) : RCL w RO x.cells vs := by
  have one : ∀ y : R, RC w RO y vs → (∃ v, vs = [v]) → RCL w RO [y] vs := by
    rintro y hy ⟨v, rfl⟩; exact ⟨v, [], rfl, hy, rfl⟩
  cases x with
  | a l => exact h
  | ro sz l => obtain ⟨ad, cap, hv, _⟩ := id h; exact one _ h ⟨_, hv⟩
  | _ => exact one _ h ⟨_, h⟩
theorem RCE_get {sz g : Nat} : ∀ {l : List R} {off : Nat}, RCE w RO sz g off l → ∀ {i : Nat} {x : R}, l[i]? = some x →
    ∃ vs : List Value, vs.length = sz ∧ (∀ j v, vs[j]? = some v → w.cell? ⟨g, off + (i * sz + j), none⟩ = some v) ∧ RC w RO x vs
  | [], _, _, _, _, h => by simp at h
  | y :: l, off, h, i, x, hi => by
    obtain ⟨⟨vs, h1, h2, h3⟩, h4⟩ := h
    cases i with
    | zero => simp at hi; subst hi; exact ⟨vs, h1, fun j v hj => by simpa using h2 j v hj, h3⟩
    | succ i =>
      obtain ⟨vs', h5, h6, h7⟩ := RCE_get h4 (i := i) (x := x) (by simpa using hi)
      exact ⟨vs', h5, fun j v hj => by have := h6 j v hj; rwa [show off + sz + (i * sz + j) = off + ((i + 1) * sz + j) by rw [Nat.add_mul]; omega] at this, h7⟩
theorem RCE_cell {sz g : Nat} {l : List R} {off : Nat} (h : RCE w RO sz g off l) {i : Nat} {x : R} (hi : l[i]? = some x) {o : Nat} {c : R} (ho : x.cells[o]? = some c) :
    ∃ v, w.cell? ⟨g, off + (i * sz + o), none⟩ = some v ∧ RC w RO c [v] := by
  obtain ⟨vs, h1, h2, h3⟩ := RCE_get h hi
  obtain ⟨v, hv, hc⟩ := RCL_get (RC_cells h3) ho
  exact ⟨v, h2 o v hv, hc⟩
theorem TCL_get : ∀ {l : List T} {vs : List Value} {cs : List Ly}, TCL w RO Ls l vs cs → ∀ {k : Nat} {x : T}, l[k]? = some x → ∃ v L, vs[k]? = some v ∧ cs[k]? = some L ∧ TC w RO Ls x [v] L
  | [], _, _, _, _, _, h => by simp at h
  | y :: l, vs, cs, h, k, x, hk => by
    obtain ⟨v, vs', L, cs', hv, hc, h1, h2⟩ := h
    subst hv hc
    cases k with
    | zero => simp at hk; subst hk; exact ⟨v, L, rfl, rfl, h1⟩
    | succ k => exact TCL_get h2 (by simpa using hk)
theorem TCL_len : ∀ {l : List T} {vs : List Value} {cs : List Ly}, TCL w RO Ls l vs cs → vs.length = l.length ∧ cs.length = l.length
  | [], _, _, h => by rw [h.1, h.2]; exact ⟨rfl, rfl⟩
  | x :: l, vs, cs, h => by
    obtain ⟨v, vs', L, cs', hv, hc, _, h2⟩ := h
    subst hv hc
    have := TCL_len h2
    simp [this]
theorem TCC_get {g : Nat} : ∀ {l : List T} {off : Nat} {cs : List Ly}, TCC w RO Ls g off l cs → ∀ {k : Nat} {x : T}, l[k]? = some x →
    ∃ v L, w.cell? ⟨g, off + k, none⟩ = some v ∧ cs[k]? = some L ∧ TC w RO Ls x [v] L
  | [], _, _, _, _, _, h => by simp at h
  | y :: l, off, cs, h, k, x, hk => by
    obtain ⟨v, L, cs', hc, h0, h1, h2⟩ := h
    subst hc
    cases k with
    | zero => simp at hk; subst hk; exact ⟨v, L, h0, rfl, h1⟩
    | succ k =>
      obtain ⟨v', L', h3, h4, h5⟩ := TCC_get h2 (k := k) (x := x) (by simpa using hk)
      exact ⟨v', L', by rwa [show off + 1 + k = off + (k + 1) by omega] at h3, by simpa using h4, h5⟩
theorem TC_cell {x : T} {vs : List Value} {L : Ly} (h : TC w RO Ls x vs L) (hl : L.un.length = vs.length) {o : Nat} {c : T} (ho : x.cells[o]? = some c) :
    ∃ v L', vs[o]? = some v ∧ L.un[o]? = some L' ∧ TC w RO Ls c [v] L' := by
  have one : ∀ v, vs = [v] → x.cells = [x] → L.un = [L] → ∃ v L', vs[o]? = some v ∧ L.un[o]? = some L' ∧ TC w RO Ls c [v] L' := by
    intro v hv hx hL
    rw [hx] at ho
    cases o with
    | zero => simp at ho; subst ho; subst hv; rw [hL]; exact ⟨v, L, rfl, rfl, h⟩
    | succ o => simp at ho
  have len1 : L.un = [L] → ∃ v, vs = [v] := by
    intro h; rw [h] at hl
    cases vs with
    | nil => simp at hl
    | cons v t => cases t with
      | nil => exact ⟨v, rfl⟩
      | cons _ _ => simp at hl
  cases x with
  | a l =>
    obtain ⟨cs, hL, h⟩ := h
    subst hL
    exact TCL_get h ho
  | tp b l => simp [T.cells] at ho
  | r x =>
    have hL : L.un = [L] := by rcases h.2 with h | ⟨_, ⟨_, h⟩ | ⟨_, _, _, _, _, h⟩⟩ <;> rw [h] <;> rfl
    obtain ⟨v, hv⟩ := len1 hL
    cases x with
    | a l => simp [T.cells] at ho
    | _ => exact one v hv rfl hL
  | u => have hL : L = .no := h; obtain ⟨v, hv⟩ := len1 (by rw [hL]; rfl); exact one v hv rfl (by rw [hL]; rfl)
  | own fl sz l => have hL : L.un = [L] := by
                     obtain ⟨_, ⟨_, _, h⟩ | ⟨_, _, _, _, _, h, _⟩⟩ := h <;> rw [h] <;> rfl
                   obtain ⟨v, hv⟩ := len1 hL; exact one v hv rfl hL
  | ow sz l => have hL : L.un = [L] := by
                 obtain ⟨_, _, _, _, _, _, _, h, _⟩ := h; rw [h]; rfl
               obtain ⟨v, hv⟩ := len1 hL; exact one v hv rfl hL
  | bx l => have hL : L.un = [L] := by
              obtain ⟨_, _, _, _, _, _, h, _⟩ := h; rw [h]; rfl
            obtain ⟨v, hv⟩ := len1 hL; exact one v hv rfl hL
  | p r q => have hL : L.un = [L] := by rw [h.1]; rfl
             obtain ⟨v, hv⟩ := len1 hL; exact one v hv rfl hL
  | v r q sz wd => have hL : L.un = [L] := by rw [h.1]; rfl
                   obtain ⟨v, hv⟩ := len1 hL; exact one v hv rfl hL
  | cp l k => have hL : L.un = [L] := by rw [h.1]; rfl
              obtain ⟨v, hv⟩ := len1 hL; exact one v hv rfl hL
  | f g c' => have hL : L.un = [L] := by rw [h.1]; rfl
              obtain ⟨v, hv⟩ := len1 hL; exact one v hv rfl hL
end
end Go.Os
set_option linter.unusedVariables false
namespace Go.Os
section
variable {w : World} {RO : Nat → Prop} {Ls : List Ly}
theorem TCE_get {sz g : Nat} : ∀ {l : List T} {off : Nat} {cs : List Ly}, TCE w RO Ls sz g off l cs → ∀ {i : Nat} {x : T}, l[i]? = some x →
    ∃ vs L, vs.length = sz ∧ L.un.length = sz ∧ (∀ j v, vs[j]? = some v → w.cell? ⟨g, off + (i * sz + j), none⟩ = some v) ∧ (∀ j, j < sz → cs[i * sz + j]? = L.un[j]?) ∧ TC w RO Ls x vs L
  | [], _, _, _, _, _, h => by simp at h
  | y :: l, off, cs, h, i, x, hi => by
    obtain ⟨vs, L, cs', h1, h2, hc, h3, h4, h5⟩ := h
    subst hc
    cases i with
    | zero =>
      simp at hi; subst hi
      exact ⟨vs, L, h1, h2, fun j v hj => by simpa using h3 j v hj, fun j hj => by simp [List.getElem?_append_left (show j < L.un.length by omega)], h4⟩
    | succ i =>
      obtain ⟨vs', L', h6, h7, h8, h9, h10⟩ := TCE_get h5 (i := i) (x := x) (by simpa using hi)
      refine ⟨vs', L', h6, h7, fun j v hj => ?_, fun j hj => ?_, h10⟩
      · have := h8 j v hj; rwa [show off + sz + (i * sz + j) = off + ((i + 1) * sz + j) by rw [Nat.add_mul]; omega] at this
      · rw [List.getElem?_append_right (by rw [Nat.add_mul]; omega), show (i + 1) * sz + j - L.un.length = i * sz + j by rw [Nat.add_mul]; omega]
        exact h9 j hj
def Found (w : World) (RO : Nat → Prop) (Ls : List Ly) (L : Ly) (q : Pth) (c : T) : Prop :=
  ∃ v', ((∃ L', lyAt L q = some L' ∧ TC w RO Ls c [v'] L') ∨ (lyAt L q = none ∧ ∃ x, c = .r x ∧ RC w RO x [v'])) ∧
    ∀ g o, adAt L q = some (g, o) → w.cell? ⟨g, o, none⟩ = some v' ∧ (g ∈ L.bs ∨ RO g)
theorem Found.step {L L1 : Ly} {x : Sp} {q : Pth} {c : T} (hq : q ≠ []) (hly : lyAt L (x :: q) = lyAt L1 q) (had : adAt L (x :: q) = adAt L1 q) (hb : ∀ g ∈ L1.bs, g ∈ L.bs)
    (h : Found w RO Ls L1 q c) : Found w RO Ls L (x :: q) c := by
  obtain ⟨v', h1, h2⟩ := h
  refine ⟨v', ?_, fun g o ho => ?_⟩
  · rw [hly]; exact h1
  · rw [had] at ho; exact ⟨(h2 g o ho).1, (h2 g o ho).2.imp (hb g) id⟩
theorem getC_ok : ∀ (q : Pth) (t : T) (v : Value) (L : Ly) (c : T), TC w RO Ls t [v] L → getT re t q = some c →
    (q = [] ∧ c = t) ∨ (q ≠ [] ∧ Found w RO Ls L q c) := by
  intro q
  induction q with
  | nil => intro t v L c _ h; exact .inl ⟨rfl, by cases t <;> simpa [getT, eq_comm] using h⟩
  | cons x q ih =>
    intro t v L c h hc
    refine .inr ⟨by simp, ?_⟩
    cases t with
    | bx l =>
      cases x with
      | d o =>
        obtain ⟨g, off, cs, cur, e, hv, hL, hg, h4⟩ := h
        simp only [getT] at hc
        cases hl : l[o]? with
        | none => simp [hl] at hc
        | some c1 =>
          simp only [hl] at hc
          obtain ⟨v1, L1, hcell, hcs, hT⟩ := TCC_get h4 hl
          have hmem : L1 ∈ cs := List.mem_of_getElem? hcs
          rcases ih c1 v1 L1 c hT hc with ⟨rfl, rfl⟩ | ⟨hq, hf⟩
          · refine ⟨v1, .inl ⟨L1, by rw [hL]; simp [lyAt, hcs], hT⟩, fun g' o' ho => ?_⟩
            rw [hL] at ho
            simp only [adAt, Option.some.injEq, Prod.mk.injEq] at ho
            obtain ⟨rfl, rfl⟩ := ho
            exact ⟨hcell, .inl (by rw [hL]; simp [Ly.bs])⟩
          · refine hf.step hq ?_ ?_ ?_
            · rw [hL]; simp [lyAt, hcs]
            · obtain ⟨y, z, rfl⟩ := List.exists_cons_of_ne_nil hq
              rw [hL]; simp [adAt, hcs]
            · intro k hk; rw [hL]; simp only [Ly.bs, List.mem_cons]; exact .inr (mem_bsL hmem k hk)
      | e i sz o => simp [getT] at hc
      | t k => simp [getT] at hc
    | a l =>
      cases x with
      | t k =>
        obtain ⟨cs, hL, h⟩ := h
        simp only [getT] at hc
        cases hl : l[k]? with
        | none => simp [hl] at hc
        | some c1 =>
          simp only [hl] at hc
          obtain ⟨v1, L1, _, hcs, hT⟩ := TCL_get h hl
          have hmem : L1 ∈ cs := List.mem_of_getElem? hcs
          rcases ih c1 v1 L1 c hT hc with ⟨rfl, rfl⟩ | ⟨hq, hf⟩
          · refine ⟨v1, .inl ⟨L1, by rw [hL]; simp [lyAt, hcs], hT⟩, fun g' o' ho => ?_⟩
            rw [hL] at ho
            simp [adAt, hcs] at ho
          · refine hf.step hq (by rw [hL]; simp [lyAt, hcs]) (by rw [hL]; simp [adAt, hcs]) ?_
            intro k hk; rw [hL]; simp only [Ly.bs]; exact mem_bsL hmem k hk
      | e i sz o => simp [getT] at hc
      | d o => simp [getT] at hc
    | tp b l =>
      cases x with
      | t k =>
        obtain ⟨tv, cs, hv, hL, h⟩ := h
        simp only [getT] at hc
        cases hl : l[k]? with
        | none => simp [hl] at hc
        | some c1 =>
          simp only [hl] at hc
          obtain ⟨v1, L1, _, hcs, hT⟩ := TCL_get h hl
          have hmem : L1 ∈ cs := List.mem_of_getElem? hcs
          rcases ih c1 v1 L1 c hT hc with ⟨rfl, rfl⟩ | ⟨hq, hf⟩
          · refine ⟨v1, .inl ⟨L1, by rw [hL]; simp [lyAt, hcs], hT⟩, fun g' o' ho => ?_⟩
            rw [hL] at ho
            simp [adAt, hcs] at ho
          · refine hf.step hq (by rw [hL]; simp [lyAt, hcs]) (by rw [hL]; simp [adAt, hcs]) ?_
            intro k hk; rw [hL]; simp only [Ly.bs]; exact mem_bsL hmem k hk
      | e i sz o => simp [getT] at hc
      | d o => simp [getT] at hc
    | own fl sz l =>
      cases x with
      | e i sz' o =>
        simp only [getT] at hc
        by_cases hs : sz = sz'
        · subst hs
          simp only [beq_self_eq_true] at hc
          cases hl : re.get l i with
          | none => simp [hl] at hc
          | some y =>
            simp only [hl] at hc
            cases ho : y.cells[o]? with
            | none => simp [ho] at hc
            | some c1 =>
              simp only [ho] at hc
              obtain ⟨_, ⟨hnil, _⟩ | ⟨g, cap, cur, e, hv, hL, hg, _, _, _, h4⟩⟩ := h
              · subst hnil; simp [re] at hl
              · obtain ⟨v1, hcell, hR⟩ := RCE_cell h4 hl ho
                rcases ih (.r c1) v1 .no c ⟨hR, .inl rfl⟩ hc with ⟨rfl, rfl⟩ | ⟨hq, hf⟩
                · refine ⟨v1, .inr ⟨by rw [hL]; simp [lyAt], c1, rfl, hR⟩, fun g' o' ho' => ?_⟩
                  rw [hL] at ho'
                  simp only [adAt, Option.some.injEq, Prod.mk.injEq] at ho'
                  obtain ⟨rfl, rfl⟩ := ho'
                  exact ⟨hcell, .inl (by rw [hL]; simp [Ly.bs])⟩
                · obtain ⟨y1, z1, rfl⟩ := List.exists_cons_of_ne_nil hq
                  obtain ⟨v', h1, _⟩ := hf
                  refine ⟨v', .inr ⟨by rw [hL]; simp [lyAt], ?_⟩, fun g' o' ho' => ?_⟩
                  · rcases h1 with ⟨L', hL', _⟩ | ⟨_, h1⟩
                    · cases y1 <;> simp [lyAt] at hL'
                    · exact h1
                  · rw [hL] at ho'; simp [adAt] at ho'
        · have : (sz == sz') = false := by simp [hs]
          simp [this] at hc
      | d o => simp [getT] at hc
      | t k => simp [getT] at hc
    | ow sz l =>
      cases x with
      | e i sz' o =>
        simp only [getT] at hc
        by_cases hs : sz = sz'
        · subst hs
          simp only [beq_self_eq_true] at hc
          cases hl : l[i]? with
          | none => simp [hl] at hc
          | some y =>
            simp only [hl] at hc
            cases ho : y.cells[o]? with
            | none => simp [ho] at hc
            | some c1 =>
              simp only [ho] at hc
              obtain ⟨_, g, cap, cur, e, cs, hv, hL, hg, _, _, _, h4⟩ := h
              obtain ⟨vs, L2, h5, h6, h7, h8, h9⟩ := TCE_get h4 hl
              obtain ⟨v1, L1, hv1, hu, hT⟩ := TC_cell h9 (by rw [h5, h6]) ho
              have hcell := h7 o v1 hv1
              have hlt : o < sz := by have := (List.getElem?_eq_some_iff.1 hv1).1; omega
              have hcs : cs[i * sz + o]? = some L1 := (h8 o hlt).trans hu
              have hmem : L1 ∈ cs := List.mem_of_getElem? hcs
              rcases ih c1 v1 L1 c hT hc with ⟨rfl, rfl⟩ | ⟨hq, hf⟩
              · refine ⟨v1, .inl ⟨L1, by rw [hL]; simp [lyAt, hcs], hT⟩, fun g' o' ho' => ?_⟩
                rw [hL] at ho'
                simp only [adAt, Option.some.injEq, Prod.mk.injEq] at ho'
                obtain ⟨rfl, rfl⟩ := ho'
                exact ⟨hcell, .inl (by rw [hL]; simp [Ly.bs])⟩
              · refine hf.step hq ?_ ?_ ?_
                · rw [hL]; simp [lyAt, hcs]
                · obtain ⟨y, z, rfl⟩ := List.exists_cons_of_ne_nil hq
                  rw [hL]; simp [adAt, hcs]
                · intro k hk; rw [hL]; simp only [Ly.bs, List.mem_cons]; exact .inr (mem_bsL hmem k hk)
        · have : (sz == sz') = false := by simp [hs]
          simp [this] at hc
      | d o => simp [getT] at hc
      | t k => simp [getT] at hc
    | r y =>
      cases y with
      | ro sz l =>
        cases x with
        | e i sz' o =>
          simp only [getT] at hc
          by_cases hs : sz = sz'
          · subst hs
            simp only [beq_self_eq_true] at hc
            cases hl : re.get l i with
            | none => simp [hl] at hc
            | some y =>
              simp only [hl] at hc
              cases ho : y.cells[o]? with
              | none => simp [ho] at hc
              | some c1 =>
                simp only [ho] at hc
                obtain ⟨⟨ad, cap, hv, hcap, hnil | ⟨g, off, had, hg, h4⟩⟩, hm⟩ := h
                · subst hnil; simp [re] at hl
                · obtain ⟨v1, hcell, hR⟩ := RCE_cell h4 hl ho
                  rcases ih (.r c1) v1 .no c ⟨hR, .inl rfl⟩ hc with ⟨rfl, rfl⟩ | ⟨hq, hf⟩
                  · refine ⟨v1, .inr ⟨by rcases hm with hm | ⟨_, ⟨_, hm⟩ | ⟨g2, off2, n2, cap2, hv2, hm⟩⟩ <;> (rw [hm]; simp [lyAt]), c1, rfl, hR⟩, fun g' o' ho' => ?_⟩
                    rcases hm with hm | ⟨_, ⟨_, hm⟩ | ⟨g2, off2, n2, cap2, hv2, hm⟩⟩
                    · rw [hm] at ho'; simp [adAt] at ho'
                    · rw [hm] at ho'; simp [adAt] at ho'
                    · rw [hm] at ho'
                      simp only [adAt, Option.some.injEq, Prod.mk.injEq] at ho'
                      obtain ⟨rfl, rfl⟩ := ho'
                      rw [hv2] at hv
                      simp only [had, List.cons.injEq, Value.slice.injEq, Option.some.injEq, Addr.mk.injEq] at hv
                      obtain ⟨⟨⟨rfl, rfl, _⟩, _⟩, _⟩ := hv
                      exact ⟨hcell, .inr hg⟩
                  · obtain ⟨y1, z1, rfl⟩ := List.exists_cons_of_ne_nil hq
                    obtain ⟨v', h1, _⟩ := hf
                    refine ⟨v', .inr ⟨by rcases hm with hm | ⟨_, ⟨_, hm⟩ | ⟨g2, off2, n2, cap2, hv2, hm⟩⟩ <;> (rw [hm]; simp [lyAt]), ?_⟩, fun g' o' ho' => ?_⟩
                    · rcases h1 with ⟨L', hL', _⟩ | ⟨_, h1⟩
                      · cases y1 <;> simp [lyAt] at hL'
                      · exact h1
                    · rcases hm with hm | ⟨_, ⟨_, hm⟩ | ⟨g2, off2, n2, cap2, hv2, hm⟩⟩ <;> (rw [hm] at ho'; simp [adAt] at ho')
          · have : (sz == sz') = false := by simp [hs]
            simp [this] at hc
        | d o => simp [getT] at hc
        | t k => simp [getT] at hc
      | _ => cases x <;> simp [getT] at hc
    | _ => cases x <;> simp [getT] at hc
theorem getV_ok {q : Pth} {t : T} {v : Value} {L : Ly} {c : T} (h : TV w RO Ls t v L) (hc : getT re t q = some c) :
    (q = [] ∧ c = t) ∨ (q ≠ [] ∧ Found w RO Ls L q c) := by
  cases t with
  | a l =>
    obtain ⟨vs, cs, hv, hL, h⟩ := h
    cases q with
    | nil => exact .inl ⟨rfl, by simpa [getT, eq_comm] using hc⟩
    | cons x q =>
      refine .inr ⟨by simp, ?_⟩
      cases x with
      | t k =>
        simp only [getT] at hc
        cases hl : l[k]? with
        | none => simp [hl] at hc
        | some c1 =>
          simp only [hl] at hc
          obtain ⟨v1, L1, _, hcs, hT⟩ := TCL_get h hl
          have hmem : L1 ∈ cs := List.mem_of_getElem? hcs
          rcases getC_ok q c1 v1 L1 c hT hc with ⟨rfl, rfl⟩ | ⟨hq, hf⟩
          · refine ⟨v1, .inl ⟨L1, by rw [hL]; simp [lyAt, hcs], hT⟩, fun g' o' ho => ?_⟩
            rw [hL] at ho
            simp [adAt, hcs] at ho
          · refine hf.step hq (by rw [hL]; simp [lyAt, hcs]) (by rw [hL]; simp [adAt, hcs]) ?_
            intro k hk; rw [hL]; simp only [Ly.bs]; exact mem_bsL hmem k hk
      | e i sz o => simp [getT] at hc
      | d o => simp [getT] at hc
  | r x =>
    cases x with
    | a l => cases q with
      | nil => exact .inl ⟨rfl, by simpa [getT, eq_comm] using hc⟩
      | cons y q => cases y <;> simp [getT] at hc
    | _ => exact getC_ok q _ v L c h hc
  | _ => exact getC_ok q _ v L c h hc
end
end Go.Os
set_option linter.unusedVariables false
namespace Go.Os
def setLy : Ly → Pth → Ly → Ly
  | _, [], N => N
  | .bl g off n cap cs, .d o :: q, N => .bl g off n cap (cs.modify o fun L => setLy L q N)
  | .bl g off n cap cs, .e i sz o :: q, N => .bl g off n cap (cs.modify (i * sz + o) fun L => setLy L q N)
  | .ag cs, .t k :: q, N => .ag (cs.modify k fun L => setLy L q N)
  | L, _, _ => L
section
variable {w : World} {RO : Nat → Prop} {Ls : List Ly} {g o : Nat} {vn : Value}
structure Wr (w w' : World) (g o : Nat) (vn : Value) : Prop where
  other : ∀ k, k ≠ g → w'.heap[k]? = w.heap[k]?
  cell : w'.cell? ⟨g, o, none⟩ = some vn
  cells : ∀ o', o' ≠ o → w'.cell? ⟨g, o', none⟩ = w.cell? ⟨g, o', none⟩
  blk : ∀ cur e, w.heap[g]? = some (.cells cur e (0, 0)) → ∃ cur', w'.heap[g]? = some (.cells cur' e (0, 0)) ∧ cur'.size = cur.size
  size : w'.heap.size = w.heap.size
  os : w'.os = w.os
  tape : w'.tape = w.tape
  output : w'.output = w.output
theorem Wr.mk' {v0 : Value} (h : w.cell? ⟨g, o, none⟩ = some v0) : Wr w (w.setCell ⟨g, o, none⟩ vn) g o vn where
  other k hk := by simp only [World.setCell, Array.getElem?_modify]; rw [if_neg (by simpa using Ne.symm hk)]
  cell := World.cell?_setCell_same w _ vn h
  cells o' ho := World.cell?_setCell_other w ⟨g, o, none⟩ ⟨g, o', none⟩ vn (by intro h; cases h; exact ho rfl)
  blk cur e hg := ⟨cur.setIfInBounds o vn, heap_setCell_same w g o cur e vn hg, by simp⟩
  size := by simp
  os := rfl
  tape := rfl
  output := rfl
variable {w' : World}
theorem RCE_same (hW : Wr w w' g o vn) (hro : ¬ RO g) {sz : Nat} : ∀ {l : List R} {off : Nat}, (o < off ∨ off + l.length * sz ≤ o) → RCE w RO sz g off l → RCE w' RO sz g off l
  | [], _, _, _ => True.intro
  | x :: l, off, ho, h => by
    obtain ⟨⟨vs, h1, h2, h3⟩, h4⟩ := h
    have hlen : (x :: l).length * sz = sz + l.length * sz := by simp [Nat.add_mul, Nat.add_comm]
    rw [hlen] at ho
    refine ⟨⟨vs, h1, fun j v hj => ?_, ?_⟩, RCE_same hW hro (by omega) h4⟩
    · have : j < sz := by have := (List.getElem?_eq_some_iff.1 hj).1; omega
      rw [hW.cells _ (by omega)]; exact h2 j v hj
    · exact RC_frame (fun k hk => hW.other k (fun e => hro (e ▸ hk))) (fun _ h => h) x vs h3
theorem RCL_set : ∀ {l : List R} {vs : List Value}, RCL w RO l vs → ∀ {k : Nat} {c : R} {v : Value}, RC w RO c [v] → k < l.length → RCL w RO (l.set k c) (vs.set k v)
  | [], _, _, _, _, _, _, hk => by simp at hk
  | y :: l, vs, h, k, c, v, hc, hk => by
    obtain ⟨v0, vs', hv, h1, h2⟩ := h
    subst hv
    cases k with
    | zero => exact ⟨v, vs', rfl, hc, h2⟩
    | succ k => exact ⟨v0, vs'.set k v, rfl, h1, RCL_set h2 hc (by simpa using hk)⟩
theorem RC_set {x : R} {vs : List Value} (h : RC w RO x vs) {k : Nat} {c : R} {v : Value} (hc : RC w RO c [v]) (hk : k < x.cells.length) : RC w RO (x.setCell k c) (vs.set k v) := by
  have one : ∀ y : R, y.cells = [y] → y.setCell k c = c → RC w RO y vs → y = x → RC w RO (x.setCell k c) (vs.set k v) := by
    intro y hy hs hr he
    subst he
    rw [hy] at hk
    have hk0 : k = 0 := by simpa using hk
    subst hk0
    have hl := RCL_len (RC_cells hr)
    rw [hy] at hl
    cases vs with
    | nil => simp at hl
    | cons a t => cases t with
      | nil => rw [hs]; exact hc
      | cons _ _ => simp at hl
  cases x with
  | a l => exact RCL_set h hc hk
  | _ => exact one _ rfl rfl h rfl
theorem RCE_set (hW : Wr w w' g o vn) (hro : ¬ RO g) {sz : Nat} : ∀ {l : List R} {off i k : Nat} {x c : R}, l[i]? = some x → k < x.cells.length → k < sz → o = off + (i * sz + k) →
    RC w' RO c [vn] → RCE w RO sz g off l → RCE w' RO sz g off (l.set i (x.setCell k c))
  | [], _, _, _, _, _, h, _, _, _, _, _ => by simp at h
  | y :: l, off, i, k, x, c, hi, hk, hks, ho, hc, h => by
    obtain ⟨⟨vs, h1, h2, h3⟩, h4⟩ := h
    have fr : ∀ z vs, RC w RO z vs → RC w' RO z vs := fun z vs hz => RC_frame (fun k hk => hW.other k (fun e => hro (e ▸ hk))) (fun _ h => h) z vs hz
    cases i with
    | zero =>
      simp at hi; subst hi
      refine ⟨⟨vs.set k vn, by simp [h1], fun j v hj => ?_, RC_set (fr _ _ h3) hc hk⟩, RCE_same hW hro (by left; omega) h4⟩
      have hj' : j < sz := by have := (List.getElem?_eq_some_iff.1 hj).1; simp [h1] at this; exact this
      by_cases hjk : j = k
      · subst hjk
        rw [List.getElem?_set_self (by omega)] at hj
        cases hj
        rw [← show o = off + j by omega]; exact hW.cell
      · rw [List.getElem?_set_ne (Ne.symm hjk)] at hj
        rw [hW.cells _ (by omega)]; exact h2 j v hj
    | succ i =>
      have hge : sz ≤ (i + 1) * sz := by rw [Nat.add_mul]; omega
      refine ⟨⟨vs, h1, fun j v hj => ?_, fr _ _ h3⟩, RCE_set hW hro (i := i) (by simpa using hi) hk hks (by rw [ho, Nat.add_mul]; omega) hc h4⟩
      have : j < sz := by have := (List.getElem?_eq_some_iff.1 hj).1; omega
      rw [hW.cells _ (by omega)]; exact h2 j v hj
theorem TC_apart (hW : Wr w w' g o vn) (hro : ¬ RO g) {t : T} {vs : List Value} {L : Ly} (hb : g ∉ L.bs) (h : TC w RO Ls t vs L) : TC w' RO Ls t vs L := by
  have := TC_map (fp := .p) (fv := .v) (Ls' := Ls) (fun k hk => hW.other k (fun e => hro (e ▸ hk))) (fun _ h => h) t vs L (fun k hk => hW.other k (fun e => hb (e ▸ hk)))
    (Maps.keeps fun r _ L0 h0 _ => h0) h
  rwa [mapT_id] at this
theorem TCL_apart (hW : Wr w w' g o vn) (hro : ¬ RO g) {l : List T} {vs : List Value} {cs : List Ly} (hb : g ∉ Ly.bsL cs) (h : TCL w RO Ls l vs cs) : TCL w' RO Ls l vs cs := by
  have := TCL_map (fp := .p) (fv := .v) (Ls' := Ls) (fun k hk => hW.other k (fun e => hro (e ▸ hk))) (fun _ h => h) l vs cs (fun k hk => hW.other k (fun e => hb (e ▸ hk)))
    (Maps.keeps fun r _ L0 h0 _ => h0) h
  rwa [mapL_id] at this
theorem TCC_same (hW : Wr w w' g o vn) (hro : ¬ RO g) : ∀ {l : List T} {off : Nat} {cs : List Ly}, (o < off ∨ off + l.length ≤ o) → g ∉ Ly.bsL cs → TCC w RO Ls g off l cs → TCC w' RO Ls g off l cs
  | [], _, _, _, _, h => h
  | t :: l, off, cs, ho, hb, h => by
    obtain ⟨v, L, cs', hc, h0, h1, h2⟩ := h
    subst hc
    simp only [Ly.bsL, List.mem_append, not_or] at hb
    simp only [List.length_cons] at ho
    exact ⟨v, L, cs', rfl, (hW.cells _ (by omega)).trans h0, TC_apart hW hro hb.1 h1, TCC_same hW hro (by omega) hb.2 h2⟩
theorem TCC_set (hW : Wr w w' g o vn) (hro : ¬ RO g) {c : T} {N : Ly} (hc : TC w' RO Ls c [vn] N) : ∀ {l : List T} {off k : Nat} {cs : List Ly}, k < l.length → o = off + k → g ∉ Ly.bsL cs →
    TCC w RO Ls g off l cs → TCC w' RO Ls g off (l.set k c) (cs.modify k fun _ => N)
  | [], _, _, _, hk, _, _, _ => by simp at hk
  | t :: l, off, k, cs, hk, ho, hb, h => by
    obtain ⟨v, L, cs', he, h0, h1, h2⟩ := h
    subst he
    simp only [Ly.bsL, List.mem_append, not_or] at hb
    cases k with
    | zero => exact ⟨vn, N, cs', by simp, by rw [← show o = off by omega]; exact hW.cell, hc, TCC_same hW hro (by left; omega) hb.2 h2⟩
    | succ k => exact ⟨v, L, cs'.modify k fun _ => N, by simp, (hW.cells _ (by omega)).trans h0, TC_apart hW hro hb.1 h1,
        TCC_set hW hro hc (by simpa using hk) (by omega) hb.2 h2⟩
theorem TCC_deep {gb : Nat} (hW : Wr w w' g o vn) (hro : ¬ RO g) (hne : gb ≠ g) {c : T} {f : Ly → Ly} : ∀ {l : List T} {off k : Nat} {cs : List Ly} {x : T} {Lk : Ly}, l[k]? = some x → cs[k]? = some Lk →
    (∀ (j : Nat) (L : Ly), j ≠ k → cs[j]? = some L → g ∉ L.bs) → (∀ v, TC w RO Ls x [v] Lk → TC w' RO Ls c [v] (f Lk)) →
    TCC w RO Ls gb off l cs → TCC w' RO Ls gb off (l.set k c) (cs.modify k f)
  | [], _, _, _, _, _, h, _, _, _, _ => by simp at h
  | t :: l, off, k, cs, x, Lk, hx, hL, hb, hf, h => by
    obtain ⟨v, L, cs', he, h0, h1, h2⟩ := h
    subst he
    have h0' := (cell_eq (hW.other gb hne) off).trans h0
    cases k with
    | zero =>
      simp at hx hL; subst hx; subst hL
      refine ⟨v, f L, cs', by simp, h0', hf v h1, ?_⟩
      have : ∀ {l : List T} {off : Nat} {cs : List Ly}, (∀ (j : Nat) (L : Ly), cs[j]? = some L → g ∉ L.bs) → TCC w RO Ls gb off l cs → TCC w' RO Ls gb off l cs := by
        intro l
        induction l with
        | nil => intro off cs _ h; exact h
        | cons a l ih =>
          intro off cs hb h
          obtain ⟨v, L, cs', he, h0, h1, h2⟩ := h
          subst he
          exact ⟨v, L, cs', rfl, (cell_eq (hW.other gb hne) off).trans h0, TC_apart hW hro (hb 0 L rfl) h1, ih (fun j L1 hj => hb (j + 1) L1 (by simpa using hj)) h2⟩
      exact this (fun j L1 hj => hb (j + 1) L1 (by omega) (by simpa using hj)) h2
    | succ k => exact ⟨v, L, cs'.modify k f, by simp, h0', TC_apart hW hro (hb 0 L (by omega) rfl) h1,
        TCC_deep hW hro hne (by simpa using hx) (by simpa using hL) (fun j L1 hj hj1 => hb (j + 1) L1 (by omega) (by simpa using hj1)) hf h2⟩
theorem TCL_set : ∀ {l : List T} {vs : List Value} {cs : List Ly}, TCL w RO Ls l vs cs → ∀ {k : Nat} {c : T} {v : Value} {N : Ly}, TC w RO Ls c [v] N → k < l.length →
    TCL w RO Ls (l.set k c) (vs.set k v) (cs.modify k fun _ => N)
  | [], _, _, _, _, _, _, _, _, hk => by simp at hk
  | y :: l, vs, cs, h, k, c, v, N, hc, hk => by
    obtain ⟨v0, vs', L, cs', hv, he, h1, h2⟩ := h
    subst hv he
    cases k with
    | zero => exact ⟨v, vs', N, cs', rfl, by simp, hc, h2⟩
    | succ k => exact ⟨v0, vs'.set k v, L, cs'.modify k fun _ => N, rfl, by simp, h1, TCL_set h2 hc (by simpa using hk)⟩
theorem TCL_deep (hW : Wr w w' g o vn) (hro : ¬ RO g) {c : T} {f : Ly → Ly} : ∀ {l : List T} {vs : List Value} {k : Nat} {cs : List Ly} {x : T} {Lk : Ly}, l[k]? = some x → cs[k]? = some Lk →
    (∀ (j : Nat) (L : Ly), j ≠ k → cs[j]? = some L → g ∉ L.bs) → (∀ v, TC w RO Ls x [v] Lk → TC w' RO Ls c [v] (f Lk)) →
    TCL w RO Ls l vs cs → TCL w' RO Ls (l.set k c) vs (cs.modify k f)
  | [], _, _, _, _, _, h, _, _, _, _ => by simp at h
  | t :: l, vs, k, cs, x, Lk, hx, hL, hb, hf, h => by
    obtain ⟨v, vs', L, cs', hv, he, h1, h2⟩ := h
    subst he
    cases k with
    | zero =>
      simp at hx hL; subst hx; subst hL
      refine ⟨v, vs', f L, cs', hv, by simp, hf v h1, TCL_apart hW hro ?_ h2⟩
      intro hg
      have : ∀ (cs : List Ly), g ∈ Ly.bsL cs → ∃ (j : Nat) (L : Ly), cs[j]? = some L ∧ g ∈ L.bs := by
        intro cs
        induction cs with
        | nil => intro h; simp [Ly.bsL] at h
        | cons a cs ih =>
          intro h
          simp only [Ly.bsL, List.mem_append] at h
          rcases h with h | h
          · exact ⟨0, a, rfl, h⟩
          · obtain ⟨j, L, h1, h2⟩ := ih h
            exact ⟨j + 1, L, by simpa using h1, h2⟩
      obtain ⟨j, L1, h3, h4⟩ := this cs' hg
      exact hb (j + 1) L1 (by omega) (by simpa using h3) h4
    | succ k => exact ⟨v, vs', L, cs'.modify k f, hv, by simp, TC_apart hW hro (hb 0 L (by omega) rfl) h1,
        TCL_deep hW hro (by simpa using hx) (by simpa using hL) (fun j L1 hj hj1 => hb (j + 1) L1 (by omega) (by simpa using hj1)) hf h2⟩
theorem modify_append_left {α : Type} (a b : List α) (k : Nat) (f : α → α) (h : k < a.length) : (a ++ b).modify k f = a.modify k f ++ b := by
  induction a generalizing k with
  | nil => simp at h
  | cons x a ih => cases k with
    | zero => simp
    | succ k => simp only [List.cons_append, List.modify_succ_cons, ih k (by simpa using h)]
theorem modify_append_right {α : Type} (a b : List α) (k : Nat) (f : α → α) : (a ++ b).modify (a.length + k) f = a ++ b.modify k f := by
  induction a with
  | nil => simp
  | cons x a ih => simp only [List.cons_append, List.length_cons, show a.length + 1 + k = (a.length + k) + 1 by omega, List.modify_succ_cons, ih]
def Ly.reun (L : Ly) (cs : List Ly) : Ly := match L with | .ag _ => .ag cs | _ => cs.headD .no
theorem TC_elem {x : T} {vs : List Value} {L : Ly} (h : TC w RO Ls x vs L) (hlen : L.un.length = vs.length) {k : Nat} {y : T} (hy : x.cells[k]? = some y) :
    (∃ l, x = .a l) ∨ (k = 0 ∧ y = x ∧ L.un = [L] ∧ (∃ v, vs = [v]) ∧ ∀ c, x.setCell k c = c) := by
  have len1 : L.un = [L] → ∃ v, vs = [v] := by
    intro h; rw [h] at hlen
    cases vs with
    | nil => simp at hlen
    | cons v t => cases t with
      | nil => exact ⟨v, rfl⟩
      | cons _ _ => simp at hlen
  have fin : x.cells = [x] → L.un = [L] → (∀ c, x.setCell k c = c) → (∃ l, x = .a l) ∨ (k = 0 ∧ y = x ∧ L.un = [L] ∧ (∃ v, vs = [v]) ∧ ∀ c, x.setCell k c = c) := fun hx hL hs => by
    rw [hx] at hy
    cases k with
    | zero => simp at hy; exact .inr ⟨rfl, hy.symm, hL, len1 hL, hs⟩
    | succ k => simp at hy
  cases x with
  | a l => exact .inl ⟨l, rfl⟩
  | tp b l => simp [T.cells] at hy
  | r x =>
    have hL : L.un = [L] := by rcases h.2 with h | ⟨_, ⟨_, h⟩ | ⟨_, _, _, _, _, h⟩⟩ <;> rw [h] <;> rfl
    cases x with
    | a l => simp [T.cells] at hy
    | _ => exact fin rfl hL (fun c => rfl)
  | u => have hL : L = .no := h; exact fin rfl (by rw [hL]; rfl) (fun c => rfl)
  | own fl sz l => exact fin rfl (by obtain ⟨_, ⟨_, _, h⟩ | ⟨_, _, _, _, _, h, _⟩⟩ := h <;> rw [h] <;> rfl) (fun c => rfl)
  | ow sz l => exact fin rfl (by obtain ⟨_, _, _, _, _, _, _, h, _⟩ := h; rw [h]; rfl) (fun c => rfl)
  | bx l => exact fin rfl (by obtain ⟨_, _, _, _, _, _, h, _⟩ := h; rw [h]; rfl) (fun c => rfl)
  | p r q => exact fin rfl (by rw [h.1]; rfl) (fun c => rfl)
  | v r q sz wd => exact fin rfl (by rw [h.1]; rfl) (fun c => rfl)
  | cp l k' => exact fin rfl (by rw [h.1]; rfl) (fun c => rfl)
  | f g' c' => exact fin rfl (by rw [h.1]; rfl) (fun c => rfl)
theorem TCE_same (hW : Wr w w' g o vn) (hro : ¬ RO g) {sz gb : Nat} (hg : gb ≠ g ∨ ∀ o', o' ≠ o → True) : ∀ {l : List T} {off : Nat} {cs : List Ly}, (gb = g → o < off ∨ off + l.length * sz ≤ o) → g ∉ Ly.bsL cs → TCE w RO Ls sz gb off l cs → TCE w' RO Ls sz gb off l cs
  | [], _, _, _, _, h => h
  | t :: l, off, cs, ho, hb, h => by
    obtain ⟨vs, L, cs', h1, h2, hc, h3, h4, h5⟩ := h
    subst hc
    rw [bsL_append, bs_un] at hb
    simp only [List.mem_append, not_or] at hb
    have hlen : (t :: l).length * sz = sz + l.length * sz := by simp [Nat.add_mul, Nat.add_comm]
    rw [hlen] at ho
    refine ⟨vs, L, cs', h1, h2, rfl, fun j v hj => ?_, TC_apart hW hro hb.1 h4, TCE_same hW hro hg (fun e => by have := ho e; omega) hb.2 h5⟩
    have : j < sz := by have := (List.getElem?_eq_some_iff.1 hj).1; omega
    by_cases e : gb = g
    · subst e; rw [hW.cells _ (by have := ho rfl; omega)]; exact h3 j v hj
    · exact (cell_eq (hW.other gb e) _).trans (h3 j v hj)
theorem bsL_get {cs : List Ly} {j : Nat} {L : Ly} (h : cs[j]? = some L) : ∀ k ∈ L.bs, k ∈ Ly.bsL cs := mem_bsL (List.mem_of_getElem? h)
theorem mem_bsL_get {cs : List Ly} {k : Nat} (h : k ∈ Ly.bsL cs) : ∃ (j : Nat) (L : Ly), cs[j]? = some L ∧ k ∈ L.bs := by
  induction cs with
  | nil => simp [Ly.bsL] at h
  | cons a cs ih =>
    simp only [Ly.bsL, List.mem_append] at h
    rcases h with h | h
    · exact ⟨0, a, rfl, h⟩
    · obtain ⟨j, L, h1, h2⟩ := ih h
      exact ⟨j + 1, L, by simpa using h1, h2⟩
theorem un_modify {L : Ly} (hL : L.un = [L]) (f : Ly → Ly) (hf : (f L).un = [f L]) : [L].modify 0 f = (f L).un := by simp [hf]
theorem TCE_set (hW : Wr w w' g o vn) (hro : ¬ RO g) {sz : Nat} {c : T} {N : Ly} (hN : N.un = [N]) (hc : TC w' RO Ls c [vn] N) : ∀ {l : List T} {off i k : Nat} {cs : List Ly} {x y : T},
    l[i]? = some x → x.cells[k]? = some y → k < sz → o = off + (i * sz + k) → g ∉ Ly.bsL cs → TCE w RO Ls sz g off l cs →
    TCE w' RO Ls sz g off (l.set i (x.setCell k c)) (cs.modify (i * sz + k) fun _ => N)
  | [], _, _, _, _, _, _, h, _, _, _, _, _ => by simp at h
  | t :: l, off, i, k, cs, x, y, hx, hy, hk, ho, hb, h => by
    obtain ⟨vs, L, cs', h1, h2, he, h3, h4, h5⟩ := h
    subst he
    rw [bsL_append, bs_un] at hb
    simp only [List.mem_append, not_or] at hb
    cases i with
    | zero =>
      simp at hx; subst hx
      rw [Nat.zero_mul, Nat.zero_add, modify_append_left _ _ _ _ (by omega)]
      have cells : ∀ j v, (vs.set k vn)[j]? = some v → w'.cell? ⟨g, off + j, none⟩ = some v := by
        intro j v hj
        have hj' : j < sz := by have := (List.getElem?_eq_some_iff.1 hj).1; simp [h1] at this; exact this
        by_cases hjk : j = k
        · subst hjk
          rw [List.getElem?_set_self (by omega)] at hj
          cases hj
          rw [← show o = off + j by omega]; exact hW.cell
        · rw [List.getElem?_set_ne (Ne.symm hjk)] at hj
          rw [hW.cells _ (by omega)]; exact h3 j v hj
      have rest := TCE_same hW hro (gb := g) (.inr fun _ _ => True.intro) (fun _ => by left; omega) hb.2 h5
      rcases TC_elem h4 (by rw [h1, h2]) hy with ⟨l', rfl⟩ | ⟨rfl, rfl, hu, ⟨v, hv⟩, hs⟩
      · obtain ⟨cs1, hL, h6⟩ := h4
        subst hL
        have h7 := TCL_set (TCL_apart hW hro (by simpa [Ly.bs] using hb.1) h6) hc (k := k) (by have := TCL_len h6; simp only [Ly.un] at h2; omega)
        exact ⟨vs.set k vn, .ag (cs1.modify k fun _ => N), cs', by simp [h1], by simpa [Ly.un] using h2, rfl, cells, ⟨_, rfl, h7⟩, rest⟩
      · refine ⟨vs.set 0 vn, N, cs', by simp [h1], by rw [hN]; rw [hu] at h2; exact h2, by rw [hu, hN]; simp, cells, ?_, rest⟩
        rw [hs, hv]; exact hc
    | succ i =>
      have hge : sz ≤ (i + 1) * sz := by rw [Nat.add_mul]; omega
      rw [show (i + 1) * sz + k = L.un.length + (i * sz + k) by rw [Nat.add_mul]; omega, modify_append_right]
      refine ⟨vs, L, _, h1, h2, rfl, fun j v hj => ?_, TC_apart hW hro hb.1 h4, TCE_set hW hro hN hc (by simpa using hx) hy hk (by rw [ho, Nat.add_mul]; omega) hb.2 h5⟩
      have : j < sz := by have := (List.getElem?_eq_some_iff.1 hj).1; omega
      rw [hW.cells _ (by omega)]; exact h3 j v hj
theorem TCE_deep {gb : Nat} (hW : Wr w w' g o vn) (hro : ¬ RO g) (hne : gb ≠ g) {sz : Nat} {c : T} {f : Ly → Ly} : ∀ {l : List T} {off i k : Nat} {cs : List Ly} {x y : T} {Lk : Ly},
    l[i]? = some x → x.cells[k]? = some y → k < sz → cs[i * sz + k]? = some Lk → (f Lk).un = [f Lk] →
    (∀ (j : Nat) (L : Ly), j ≠ i * sz + k → cs[j]? = some L → g ∉ L.bs) → (∀ v, TC w RO Ls y [v] Lk → TC w' RO Ls c [v] (f Lk)) →
    TCE w RO Ls sz gb off l cs → TCE w' RO Ls sz gb off (l.set i (x.setCell k c)) (cs.modify (i * sz + k) f)
  | [], _, _, _, _, _, _, _, h, _, _, _, _, _, _, _ => by simp at h
  | t :: l, off, i, k, cs, x, y, Lk, hx, hy, hk, hL, hfu, hb, hf, h => by
    obtain ⟨vs, L, cs', h1, h2, he, h3, h4, h5⟩ := h
    subst he
    have h3' : ∀ j v, vs[j]? = some v → w'.cell? ⟨gb, off + j, none⟩ = some v := fun j v hj => (cell_eq (hW.other gb hne) _).trans (h3 j v hj)
    cases i with
    | zero =>
      simp only [List.getElem?_cons_zero, Option.some.injEq] at hx; subst hx
      rw [Nat.zero_mul, Nat.zero_add] at hL hb ⊢
      rw [modify_append_left _ _ _ _ (by omega)]
      have hLu : L.un[k]? = some Lk := by rwa [List.getElem?_append_left (by omega)] at hL
      have rest : TCE w' RO Ls sz gb (off + sz) l cs' := by
        refine TCE_same hW hro (.inl hne) (fun e => absurd e hne) (fun hg => ?_) h5
        obtain ⟨j, L1, hj, hg⟩ := mem_bsL_get hg
        exact hb (L.un.length + j) L1 (by omega) (by rw [List.getElem?_append_right (by omega)]; simpa using hj) hg
      rcases TC_elem h4 (by rw [h1, h2]) hy with ⟨l', rfl⟩ | ⟨rfl, rfl, hu, ⟨v, hv⟩, hs⟩
      · obtain ⟨cs1, hL1, h6⟩ := h4
        subst hL1
        simp only [Ly.un] at hLu h2
        have h7 := TCL_deep hW hro hy hLu (fun j L1 hj hj1 => hb j L1 hj (by simp only [Ly.un]; rw [List.getElem?_append_left (List.getElem?_eq_some_iff.1 hj1).1]; exact hj1)) hf h6
        exact ⟨vs, .ag (cs1.modify k f), cs', h1, by simpa [Ly.un] using h2, rfl, h3', ⟨_, rfl, h7⟩, rest⟩
      · rw [hu] at hLu
        simp only [List.getElem?_cons_zero, Option.some.injEq] at hLu
        subst hLu
        refine ⟨vs, f L, cs', h1, by rw [hfu]; rw [hu] at h2; exact h2, by rw [hu]; simp [hfu], h3', ?_, rest⟩
        rw [hs, hv]; exact hf v (hv ▸ h4)
    | succ i =>
      have hge : sz ≤ (i + 1) * sz := by rw [Nat.add_mul]; omega
      have hidx : (i + 1) * sz + k = L.un.length + (i * sz + k) := by rw [Nat.add_mul]; omega
      rw [hidx] at hL hb ⊢
      rw [modify_append_right]
      rw [List.getElem?_append_right (by omega), Nat.add_sub_cancel_left] at hL
      have hbL : g ∉ L.bs := by
        rw [← bs_un]
        intro hg
        obtain ⟨j, L1, hj, hg⟩ := mem_bsL_get hg
        have hjl := (List.getElem?_eq_some_iff.1 hj).1
        exact hb j L1 (by omega) (by rw [List.getElem?_append_left hjl]; exact hj) hg
      refine ⟨vs, L, _, h1, h2, rfl, h3', TC_apart hW hro hbL h4, TCE_deep hW hro hne (by simpa using hx) hy hk hL hfu (fun j L1 hj hj1 => ?_) hf h5⟩
      exact hb (L.un.length + j) L1 (by omega) (by rw [List.getElem?_append_right (by omega)]; simpa using hj1)
end
end Go.Os
set_option linter.unusedVariables false
namespace Go.Os
section
variable {w w' : World} {RO : Nat → Prop} {Ls : List Ly} {g o : Nat} {vn : Value}
theorem nodup_get {cs : List Ly} (h : (Ly.bsL cs).Nodup) {j k : Nat} {L M : Ly} (hj : cs[j]? = some L) (hk : cs[k]? = some M) (hne : j ≠ k) : ∀ x ∈ L.bs, x ∉ M.bs := by
  induction cs generalizing j k with
  | nil => simp at hj
  | cons a cs ih =>
    simp only [Ly.bsL, List.nodup_append] at h
    intro x hx hy
    cases j with
    | zero =>
      simp at hj; subst hj
      cases k with
      | zero => exact hne rfl
      | succ k => exact h.2.2 x hx x (bsL_get (by simpa using hk) x hy) rfl
    | succ j =>
      cases k with
      | zero => simp at hk; subst hk; exact h.2.2 x hy x (bsL_get (by simpa using hj) x hx) rfl
      | succ k => exact ih h.2.1 (by simpa using hj) (by simpa using hk) (by omega) x hx hy
theorem nodup_of_get {cs : List Ly} (h : (Ly.bsL cs).Nodup) {j : Nat} {L : Ly} (hj : cs[j]? = some L) : L.bs.Nodup := by
  induction cs generalizing j with
  | nil => simp at hj
  | cons a cs ih =>
    simp only [Ly.bsL, List.nodup_append] at h
    cases j with
    | zero => simp at hj; subst hj; exact h.1
    | succ j => exact ih h.2.1 (by simpa using hj)
theorem un_of_ad {q : Pth} {L : Ly} {x : Nat × Nat} (hm : q.all Sp.mem = true) (h : adAt L q = some x) (N : Ly) : (setLy L q N).un = [setLy L q N] := by
  cases q with
  | nil => cases L <;> simp [adAt] at h
  | cons y q =>
    simp only [List.all_cons, Bool.and_eq_true] at hm
    cases y with
    | t k => simp [Sp.mem] at hm
    | d k => cases L <;> simp [adAt] at h <;> rfl
    | e i sz k => cases L <;> simp [adAt] at h <;> rfl
theorem set_mem {c : T} : ∀ (q : Pth) (t : T) (v : Value) (L : Ly) (t' : T) {g o : Nat}, q.all Sp.mem = true → q ≠ [] → TC w RO Ls t [v] L → setT re t q c = some t' → adAt L q = some (g, o) → g ∈ L.bs := by
  intro q
  induction q with
  | nil => intro _ _ _ _ _ _ _ h; exact absurd rfl h
  | cons x q ih =>
    intro t v L t' g o hm _ h hs had
    simp only [List.all_cons, Bool.and_eq_true] at hm
    cases x with
    | t k => simp [Sp.mem] at hm
    | d k =>
      cases t with
      | bx l =>
        obtain ⟨gb, off, cs, cur, e, hv, hL, hg, h4⟩ := h
        subst hL
        cases q with
        | nil => simp [adAt] at had; simp [Ly.bs, had.1]
        | cons y q =>
          simp only [setT] at hs
          cases hl : l[k]? with
          | none => simp [hl] at hs
          | some x1 =>
            simp only [hl] at hs
            cases hx : setT re x1 (y :: q) c with
            | none => simp [hx] at hs
            | some y1 =>
              obtain ⟨v1, L1, hcell, hcs, hT⟩ := TCC_get h4 hl
              have had1 : adAt L1 (y :: q) = some (g, o) := by simpa [adAt, hcs] using had
              have := ih x1 v1 L1 y1 hm.2 (by simp) hT hx had1
              simp only [Ly.bs, List.mem_cons]
              exact .inr (bsL_get hcs g this)
      | _ => simp [setT] at hs
    | e i sz k =>
      cases t with
      | own fl sz0 l =>
        cases q with
        | nil =>
          obtain ⟨_, ⟨_, _, hL⟩ | ⟨g1, cap, cur, e, hv, hL, _⟩⟩ := h
          · rw [hL] at had; simp [adAt] at had
          · rw [hL] at had; simp [adAt] at had; rw [hL]; simp [Ly.bs, had.1]
        | cons y q => simp [setT] at hs
      | ow sz0 l =>
        obtain ⟨_, g1, cap, cur, e, cs, hv, hL, hg, _, _, _, h4⟩ := h
        subst hL
        cases q with
        | nil => simp [adAt] at had; simp [Ly.bs, had.1]
        | cons y q =>
          simp only [setT] at hs
          by_cases hsz : sz0 = sz
          · subst hsz
            simp only [beq_self_eq_true] at hs
            cases hl : l[i]? with
            | none => simp [hl] at hs
            | some x1 =>
              simp only [hl] at hs
              cases ho : x1.cells[k]? with
              | none => simp [ho] at hs
              | some y1 =>
                simp only [ho] at hs
                cases hx : setT re y1 (y :: q) c with
                | none => simp [hx] at hs
                | some z1 =>
                  obtain ⟨vs, L2, h5, h6, h7, h8, h9⟩ := TCE_get h4 hl
                  obtain ⟨v1, L1, hv1, hu, hT⟩ := TC_cell h9 (by rw [h5, h6]) ho
                  have hlt : k < sz0 := by have := (List.getElem?_eq_some_iff.1 hv1).1; omega
                  have hcs : cs[i * sz0 + k]? = some L1 := (h8 k hlt).trans hu
                  have had1 : adAt L1 (y :: q) = some (g, o) := by simpa [adAt, hcs] using had
                  have := ih y1 v1 L1 z1 hm.2 (by simp) hT hx had1
                  simp only [Ly.bs, List.mem_cons]
                  exact .inr (bsL_get hcs g this)
          · have : (sz0 == sz) = false := by simp [hsz]
            simp [this] at hs
      | _ => cases q <;> simp [setT] at hs
theorem setC_ok {c : T} {N : Ly} (hW : Wr w w' g o vn) (hro : ¬ RO g) (hN : N.un = [N]) (hc : TC w' RO Ls c [vn] N) : ∀ (q : Pth) (t : T) (v : Value) (L : Ly) (t' : T), q.all Sp.mem = true → q ≠ [] →
    TC w RO Ls t [v] L → L.bs.Nodup → setT re t q c = some t' → adAt L q = some (g, o) → TC w' RO Ls t' [v] (setLy L q N) := by
  intro q
  induction q with
  | nil => intro _ _ _ _ _ h; exact absurd rfl h
  | cons x q ih =>
    intro t v L t' hm _ h hnd hs had
    have hm0 := hm
    simp only [List.all_cons, Bool.and_eq_true] at hm
    have hset := hs
    cases x with
    | t k => simp [Sp.mem] at hm
    | d k =>
      cases t with
      | bx l =>
        obtain ⟨gb, off, cs, cur, e, hv, hL, hg, h4⟩ := h
        subst hL
        simp only [Ly.bs, List.nodup_cons] at hnd
        simp only [setT] at hs
        cases hl : l[k]? with
        | none => simp [hl] at hs
        | some x1 =>
          simp only [hl] at hs
          obtain ⟨v1, L1, hcell, hcs, hT⟩ := TCC_get h4 hl
          cases q with
          | nil =>
            simp only [setT, Option.some.injEq] at hs
            subst hs
            simp only [adAt, Option.some.injEq, Prod.mk.injEq] at had
            obtain ⟨rfl, rfl⟩ := had
            obtain ⟨cur', hg', _⟩ := hW.blk cur e hg
            exact ⟨gb, off, _, cur', e, hv, rfl, hg', TCC_set hW hro hc (List.getElem?_eq_some_iff.1 hl).1 rfl hnd.1 h4⟩
          | cons y q =>
            cases hx : setT re x1 (y :: q) c with
            | none => simp [hx] at hs
            | some y1 =>
              simp only [hx, Option.some.injEq] at hs
              subst hs
              have had1 : adAt L1 (y :: q) = some (g, o) := by simpa [adAt, hcs] using had
              have hmem := set_mem (y :: q) x1 v1 L1 y1 hm.2 (by simp) hT hx had1
              have hne : gb ≠ g := fun e => hnd.1 (e ▸ bsL_get hcs g hmem)
              refine ⟨gb, off, _, cur, e, hv, rfl, (hW.other gb hne).trans hg, ?_⟩
              refine TCC_deep hW hro hne hl hcs (fun j L hj hjl hgL => nodup_get hnd.2 hjl hcs hj g hgL hmem) (fun v2 hv2 => ?_) h4
              exact ih x1 v2 L1 y1 hm.2 (by simp) hv2 (nodup_of_get hnd.2 hcs) hx had1
      | _ => simp [setT] at hs
    | e i sz k =>
      cases t with
      | own fl sz0 l =>
        cases q with
        | cons y q => simp [setT] at hs
        | nil =>
          cases c with
          | r c1 =>
            simp only [setT] at hs
            by_cases hsz : sz0 = sz
            · subst hsz
              simp only [beq_self_eq_true] at hs
              cases hl : re.get l i with
              | none => simp [hl] at hs
              | some x1 =>
                simp only [hl] at hs
                cases ho : x1.cells[k]? with
                | none => simp [ho] at hs
                | some y1 =>
                  simp only [ho, Option.some.injEq] at hs
                  subst hs
                  obtain ⟨hpos, ⟨hnil, _⟩ | ⟨g1, cap, cur, e, hv, hL, hg, h1, h2, h3, h4⟩⟩ := h
                  · subst hnil; simp [re] at hl
                  · subst hL
                    simp only [adAt, Option.some.injEq, Prod.mk.injEq] at had
                    obtain ⟨rfl, rfl⟩ := had
                    obtain ⟨cur', hg', hsz'⟩ := hW.blk cur e hg
                    have hl' : l[i]? = some x1 := hl
                    obtain ⟨vs, hvs, _, hR⟩ := RCE_get h4 hl'
                    have hcl := RCL_len (RC_cells hR)
                    have hk : k < x1.cells.length := (List.getElem?_eq_some_iff.1 ho).1
                    refine ⟨hpos, .inr ⟨g1, cap, cur', e, ?_, ?_, hg', ?_, h2, hsz'.trans h3, ?_⟩⟩
                    · rw [hv]; simp [re]
                    · simp [setLy, re]
                    · simpa [re] using h1
                    · exact RCE_set hW hro hl' hk (by omega) rfl hc.1 h4
            · have : (sz0 == sz) = false := by simp [hsz]
              simp [this] at hs
          | _ => simp [setT] at hs
      | ow sz0 l =>
        obtain ⟨hpos, g1, cap, cur, e, cs, hv, hL, hg, h1, h2, h3, h4⟩ := h
        subst hL
        simp only [Ly.bs, List.nodup_cons] at hnd
        simp only [setT] at hs
        by_cases hsz : sz0 = sz
        · subst hsz
          simp only [beq_self_eq_true] at hs
          cases hl : l[i]? with
          | none => simp [hl] at hs
          | some x1 =>
            simp only [hl] at hs
            cases ho : x1.cells[k]? with
            | none => simp [ho] at hs
            | some y1 =>
              simp only [ho] at hs
              obtain ⟨vs, L2, h5, h6, h7, h8, h9⟩ := TCE_get h4 hl
              obtain ⟨v1, L1, hv1, hu, hT⟩ := TC_cell h9 (by rw [h5, h6]) ho
              have hlt : k < sz0 := by have := (List.getElem?_eq_some_iff.1 hv1).1; omega
              have hcs : cs[i * sz0 + k]? = some L1 := (h8 k hlt).trans hu
              cases q with
              | nil =>
                simp only [setT, Option.some.injEq] at hs
                subst hs
                simp only [adAt, Option.some.injEq, Prod.mk.injEq] at had
                obtain ⟨rfl, rfl⟩ := had
                obtain ⟨cur', hg', hsz'⟩ := hW.blk cur e hg
                refine ⟨hpos, g1, cap, cur', e, cs.modify (i * sz0 + k) fun _ => N, by rw [hv]; simp, by simp [setLy], hg', by simpa using h1, h2, hsz'.trans h3, ?_⟩
                exact TCE_set hW hro hN hc hl ho hlt rfl hnd.1 h4
              | cons y q =>
                cases hx : setT re y1 (y :: q) c with
                | none => simp [hx] at hs
                | some z1 =>
                  simp only [hx, Option.some.injEq] at hs
                  subst hs
                  have had1 : adAt L1 (y :: q) = some (g, o) := by simpa [adAt, hcs] using had
                  have hmem := set_mem (y :: q) y1 v1 L1 z1 hm.2 (by simp) hT hx had1
                  have hne : g1 ≠ g := fun e => hnd.1 (e ▸ bsL_get hcs g hmem)
                  refine ⟨hpos, g1, cap, cur, e, cs.modify (i * sz0 + k) fun L => setLy L (y :: q) N, by rw [hv]; simp, by simp [setLy], (hW.other g1 hne).trans hg, by simpa using h1, h2, h3, ?_⟩
                  refine TCE_deep hW hro hne hl ho hlt hcs (un_of_ad hm.2 had1 N) (fun j L hj hjl hgL => nodup_get hnd.2 hjl hcs hj g hgL hmem) (fun v2 hv2 => ?_) h4
                  exact ih y1 v2 L1 z1 hm.2 (by simp) hv2 (nodup_of_get hnd.2 hcs) hx had1
        · have : (sz0 == sz) = false := by simp [hsz]
          simp [this] at hs
      | _ => cases q <;> simp [setT] at hs
end
end Go.Os
