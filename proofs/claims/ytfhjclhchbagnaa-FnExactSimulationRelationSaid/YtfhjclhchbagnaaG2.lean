/-
  The translation of a function's code into the small language. Whatever it does not know becomes an operation that has no value.
-/
import Derived.Test.YtfhjclhchbagnaaG1
namespace Go.Proofs.Ytfhjclhchbagnaa
open Go
set_option linter.all false
set_option linter.unusedVariables false
set_option linter.unusedSimpArgs false
set_option linter.defProp false

inductive Knd where
  | pl
  | bx
  | al (i off : Nat)
  | ps (n : Nat)

abbrev Lay := List (Nat × Knd)

def lfindFrom (t : Nat) : Lay → Nat → Option (Nat × Knd)
  | [], _ => none
  | (u, k) :: r, i => if u = t then some (i, k) else lfindFrom t r (i + 1)
def lfind (lay : Lay) (t : Nat) : Option (Nat × Knd) := lfindFrom t lay 0

def plainAt (lay : Lay) (t : Nat) : Option Nat :=
  match lfind lay t with
  | some (i, .pl) => some i
  | _ => none

def opr (lay : Lay) : Operand → Option O
  | .tmp t => (plainAt lay t).map .v
  | .const v => some (.c v)
  | .global g => some (.c (.pointer (some ⟨g, 0, none⟩)))
  | .func f => some (.c (.func (.func f) #[] #[]))

def oprs (lay : Lay) : List Operand → Option (List O)
  | [] => some []
  | x :: l => match opr lay x, oprs lay l with
    | some o, some r => some (o :: r)
    | _, _ => none

def oprO (lay : Lay) : Option Operand → Option (Option O)
  | none => some none
  | some x => (opr lay x).map some

def szT (P : Program) (t : TypeId) : Option (Option Nat) :=
  match P.underlying t, P.info? t with
  | some (.struct _), some i => some (some i.size)
  | some (.array _ _), some i => some (some i.size)
  | some _, some _ => some none
  | _, _ => none

/-- a type of one cell whose values are told apart by what they are -/
def basicT (P : Program) (t : TypeId) : Option BK :=
  match P.underlying t with
  | some (.int _) => some .i
  | some .bool => some .b
  | some .string => some .s
  | _ => none

def flatFields (P : Program) : List Field → Nat → Option (List BK)
  | [], _ => some []
  | f :: r, i => match basicT P f.type, flatFields P r (i + 1) with
    | some k, some l => if f.offset = i ∧ f.name ≠ "_" then some (k :: l) else none
    | _, _ => none

/-- a struct of basic fields, one cell each -/
def flatT (P : Program) (t : TypeId) : Option (List BK) :=
  match P.underlying t with
  | some (.struct fs) => if !P.stoodInHeld t && !P.eqGuardType P.depth t then flatFields P fs.toList 0 else none
  | _ => none

def keyT (P : Program) (t : TypeId) : Option KT :=
  match basicT P t with
  | some k => some (.one k)
  | none => (flatT P t).map .many

def placesOf (P : Program) : List Field → Option (List (Nat × Nat))
  | [] => some []
  | f :: r => match P.info? f.type, placesOf P r with
    | some i, some l => some ((f.offset, i.size) :: l)
    | _, _ => none

def partsAt (lay : Lay) (place : Nat → Option (Nat × Nat)) : List (Nat × Operand) → Option (List (Nat × Nat × O))
  | [] => some []
  | (i, x) :: r => match place i, opr lay x, partsAt lay place r with
    | some (off, sz), some o, some l => some ((off, sz, o) :: l)
    | _, _, _ => none

def zeroT (P : Program) (t : TypeId) : Option Value := (P.info? t).bind (·.zero)

def cpx (P : Program) (lay : Lay) : Op → Option PX
  | .move x => (opr lay x).map .mv
  | .assign x => (opr lay x).map .mv
  | .pick c a b => match opr lay c, opr lay a, opr lay b with
    | some c, some a, some b => some (.pick c a b)
    | _, _, _ => none
  | .unOp op _ x => (opr lay x).map (.un op)
  | .binOp op t x y _ => match P.underlying t, opr lay x, opr lay y with
    | some (.int _), some a, some b => some (.bin op a b)
    | some .string, some a, some b => some (.bin op a b)
    | some (.slice _), some a, some _ => match op, y with
      | .eql, .const (.slice none 0 0) => some (.isNil false a)
      | .neq, .const (.slice none 0 0) => some (.isNil true a)
      | _, _ => none
    | some .bool, some a, some b => match op with
      | .eql => some (.eqb false a b)
      | .neq => some (.eqb true a b)
      | _ => none
    | some (.struct _), some a, some b => match flatT P t, op with
      | some n, .eql => some (.eqf false n a b)
      | some n, .neq => some (.eqf true n a b)
      | _, _ => none
    | _, _, _ => none
  | .build t ps => match P.underlying t, zeroT P t with
    | some (.struct fs), some z => match placesOf P fs.toList with
      | some pl => (partsAt lay (fun i => pl[i]?) ps.toList).map (.build z.cells.toList)
      | none => none
    | some (.array _ el), some z => match P.info? el with
      | some i => (partsAt lay (fun j => some (j * i.size, i.size)) ps.toList).map (.build z.cells.toList)
      | none => none
    | _, _ => none
  | .field t x f => match P.underlying t, opr lay x with
    | some (.struct fs), some a => match fs[f]? with
      | some fd => (szT P fd.type).map fun s => .field fd.offset s a
      | none => none
    | _, _ => none
  | .extract x i => (opr lay x).map (.extract i)
  | .index t x i => match P.underlying t, opr lay x, opr lay i with
    | some .string, some a, some j => some (.idxS a j)
    | some (.array n el), some a, some j => match P.info? el, szT P el with
      | some inf, some s => some (.idxA n inf.size s a j)
      | _, _ => none
    | _, _, _ => none
  | .convert src dst x => match P.underlying src, P.underlying dst, opr lay x with
    | some (.int _), some (.int k), some a => some (.conv k a)
    | some .string, some .string, some a => some (.str a)
    | _, _, _ => none
  | .slice t x lo hi mx => match P.underlying t, opr lay x, oprO lay lo, oprO lay hi, oprO lay mx with
    | some .string, some a, some l, some h, some none => some (.sliceS a l h)
    | some (.slice el), some a, some l, some h, some m => (P.info? el).map fun i => .sliceV i.size a l h m
    | _, _, _, _, _ => none
  | .fieldAddr t x f => match P.underlying t, opr lay x with
    | some (.struct fs), some a => match fs[f]? with
      | some fd => match P.info? fd.type with
        | some i => if i.size = 0 then none else some (.fa fd.offset a)
        | none => none
      | none => none
    | _, _ => none
  | .indexAddr t x i => match P.underlying t, opr lay x, opr lay i with
    | some (.slice el), some a, some j => (P.info? el).map fun inf => .ia inf.size a j
    | some (.array n el), some a, some j => (P.info? el).map fun inf => .iaA n inf.size a j
    | _, _, _ => none
  | .makeFunc fn first cap => match oprs lay first.toList, oprs lay cap.toList with
    | some a, some b => some (.mkf fn a b)
    | _, _ => none
  | .nilCheck x => (opr lay x).map .nilc
  | .call c => match c.callee with
    | .builtin .len => match c.argTypes.toList, c.args.toList with
      | [t], [x] => match P.underlying t, opr lay x with
        | some .string, some a => some (.lenS a)
        | some (.slice _), some a => some (.lenV a)
        | _, _ => none
      | _, _ => none
    | .builtin .cap => match c.argTypes.toList, c.args.toList with
      | [t], [x] => match P.underlying t, opr lay x with
        | some (.slice _), some a => some (.capV a)
        | _, _ => none
      | _, _ => none
    | .builtin .min => match c.args.toList with
      | [x, y] => match opr lay x, opr lay y with
        | some a, some b => some (.minI a b)
        | _, _ => none
      | _ => none
    | _ => none
  | _ => none

def appO (lay : Lay) : Operand → Option AO
  | .tmp t => match lfind lay t with
    | some (i, .pl) => some (.o (.v i))
    | some (i, .ps n) => some (.p n i)
    | _ => none
  | x => (opr lay x).map .o

def blsOf (P : Program) (lay : Lay) (t : TypeId) (len : Nat) (ps : Array (Nat × Operand)) : Option (Nat × List Value × List (Nat × Nat × O)) :=
  match P.underlying t with
  | some (.slice el) => match P.info? el with
    | some i => match i.zero with
      | some z => if len * i.size ≤ 2 ^ 24 ∧ z.cells.size = i.size ∧ 0 < i.size then
          (partsAt lay (fun j => some (j * i.size, i.size)) ps.toList).map fun l => (i.size, z.cells.toList, l)
        else none
      | none => none
    | none => none
  | _ => none

/-- an element's bytes, cells, zero -/
def elemOf (P : Program) (t : TypeId) : Option (Nat × Nat × List Value) :=
  match P.underlying t with
  | some (.slice el) => match P.info? el with
    | some i => match i.zero with
      | some z => if z.cells.size = i.size ∧ 0 < i.size then some (i.bytes, i.size, z.cells.toList) else none
      | none => none
    | none => none
  | _ => none

def srcOk (P : Program) (t : TypeId) (esz : Nat) : Bool :=
  match P.underlying t with
  | some (.slice _) => true
  | some .string => esz == 1
  | _ => false

def cex (P : Program) (lay : Lay) : Op → Option EX
  | .store t a x => match opr lay a, opr lay x, P.info? t with
    | some a, some x, some i => some (.store i.size a x)
    | _, _, _ => none
  | .alloc t => (zeroT P t).map fun z => .alloc (.c z)
  | .box _ x => (opr lay x).map .alloc
  | .makeSlice t l c => match elemOf P t, opr lay l, opr lay c with
    | some (by_, sz, z), some l, some c => some (.mks by_ sz z l c)
    | _, _, _ => none
  | .buildSlice t len ps => (blsOf P lay t len ps).map fun (sz, z, l) => .bls sz len z l
  | .makeMap _ r => match r with
    | none => some .mkm
    | some _ => none
  | .lookup t m x ok => match P.underlying t, opr lay m, opr lay x with
    | some (.map kt el), some m, some x => match zeroT P el, keyT P kt with
      | some z, some kt => some (.mget kt z ok m x)
      | _, _ => none
    | _, _, _ => none
  | .mapUpdate t m x y => match P.underlying t, opr lay m, opr lay x, opr lay y with
    | some (.map kt _), some m, some x, some y => (keyT P kt).map fun kt => .mput kt m x y
    | _, _, _, _ => none
  | .call c => match c.callee with
    | .builtin .append => match c.argTypes.toList, c.args.toList with
      | [t, u], [x, y] => match elemOf P t, appO lay x, appO lay y with
        | some (by_, sz, z), some a, some b => if srcOk P u sz then some (.app by_ sz z a b) else none
        | _, _, _ => none
      | _, _ => none
    | .builtin .copy => match c.argTypes.toList, c.args.toList with
      | [t, u], [x, y] => match elemOf P t, opr lay x, opr lay y with
        | some (_, sz, _), some a, some b => if srcOk P u sz then some (.copy sz a b) else none
        | _, _, _ => none
      | _, _ => none
    | .builtin .len => match c.argTypes.toList, c.args.toList with
      | [t], [x] => match P.underlying t, opr lay x with
        | some (.map _ _), some a => some (.mlen a)
        | _, _ => none
      | _, _ => none
    | .value (.func f) => (oprs lay c.args.toList).map (.call f)
    | .value (.tmp t) => match opr lay (.tmp t), oprs lay c.args.toList with
      | some f, some l => some (.callv f l)
      | _, _ => none
    | _ => none
  | _ => none

/-- the place of an address inside a private box, and where it was taken -/
def priv (lay : Lay) : Operand → Option (Option Nat × Nat × Nat)
  | .tmp t => match lfind lay t with
    | some (i, .bx) => some (none, i, 0)
    | some (p, .al i off) => match lay[i]? with
      | some (_, .bx) => some (some p, i, off)
      | _ => none
    | _ => none
  | _ => none

def fieldOff (P : Program) (t : TypeId) (f : Nat) : Option Nat :=
  match P.underlying t with
  | some (.struct fs) => match fs[f]? with
    | some fd => match P.info? fd.type with
      | some i => if i.size = 0 then none else some fd.offset
      | none => none
    | none => none
  | _ => none

def stuckA : A := .px none (.extract 0 (.c undef))
def stuckS (g : Guard) : S := .act g stuckA

/-- the value that an operation's result goes to: nowhere, or a plain place -/
def cdst (lay : Lay) : Option Tmp → Option (Option Nat)
  | none => some none
  | some t => (plainAt lay t).map some

def guardOf (lay : Lay) (ops : Array Oper) : Option (Nat × Bool) → Option Guard
  | none => some none
  | some (j, w) => match (ops[j]?).bind (·.dst) with
    | some t => (plainAt lay t).map fun i => some (.v i, w)
    | none => none

/-- the places of the addresses into a box -/
def aliasesOf : Lay → Nat → Nat → List Nat
  | [], _, _ => []
  | (_, .al j _) :: r, i, p => if j = i then p :: aliasesOf r i (p + 1) else aliasesOf r i (p + 1)
  | _ :: r, i, p => aliasesOf r i (p + 1)

/-- the operations on private boxes -/
def cprv (P : Program) (lay : Lay) (g : Guard) (o : Oper) : Option A :=
  match o.op with
  | .alloc t => match o.dst.bind (lfind lay), zeroT P t, g with
    | some (i, .bx), some z, none => some (.pnew i (.c z) (aliasesOf lay i 0))
    | _, _, _ => none
  | .box _ x => match o.dst.bind (lfind lay), opr lay x, g with
    | some (i, .bx), some a, none => some (.pnew i a (aliasesOf lay i 0))
    | _, _, _ => none
  | .move x => match priv lay x, o.dst.bind (lfind lay) with
    | some (c, i, off), some (d, .al i' off') => if i = i' ∧ off = off' then some (.als d c i) else none
    | _, _ => none
  | .nilCheck x => match priv lay x, o.dst.bind (lfind lay) with
    | some (c, i, off), some (d, .al i' off') => if i = i' ∧ off = off' then some (.als d c i) else none
    | _, _ => none
  | .fieldAddr t x f => match priv lay x, fieldOff P t f, o.dst.bind (lfind lay) with
    | some (c, i, off), some fo, some (d, .al i' off') => if i = i' ∧ off + fo = off' then some (.als d c i) else none
    | _, _, _ => none
  | .load t a => match priv lay a, szT P t, cdst lay o.dst with
    | some (c, i, off), some s, some d => some (.pget d c i off s)
    | _, _, _ => none
  | .store t a x => match priv lay a, opr lay x, P.info? t, o.dst with
    | some (c, i, off), some x, some inf, none => some (.pset c i off inf.size x)
    | _, _, _, _ => none
  | .buildSlice t len ps => match o.dst.bind (lfind lay), blsOf P lay t len ps, g with
    | some (i, .ps n), some (_, z, l), none => if n = len ∧ aliasesOf lay i 0 = [] then some (.psl i (reps len z) l) else none
    | _, _, _ => none
  | _ => none

/-- ONE OPERATION, where its guard says yes -/
def cact (P : Program) (lay : Lay) (g : Guard) (o : Oper) : Option A :=
  match cprv P lay g o with
  | some s => some s
  | none => match cdst lay o.dst with
    | none => none
    | some d => match o.op with
      | .load t a => match opr lay a, szT P t with
        | some a, some s => some (.ld d a s)
        | _, _ => none
      | op => match cpx P lay op with
        | some x => some (.px d x)
        | none => match cex P lay op with
          | some x => some (.ex d x)
          | none => none

/-- ONE OPERATION -/
def cop (P : Program) (lay : Lay) (ops : Array Oper) (o : Oper) : S :=
  match guardOf lay ops o.guard with
  | none => stuckS none
  | some g => match cact P lay g o with
    | none => stuckS none
    | some x => .act g x

/- the layout of a region: what the function lays, and the region's own temporaries behind it -/

def usesOf (t : Nat) (op : Op) : Bool := op.operands.any fun | .tmp u => u == t | _ => false

/-- is a slice that is built here used as an operand of append alone? -/
def appOnly (ops : Array Oper) (t len : Nat) : Bool :=
  ops.all fun o => !usesOf t o.op || (match o.op with
    | .call c => match c.callee, c.args.toList with
      | .builtin .append, [.tmp x, .tmp y] => (x != t || (len == 0 && y != t)) && o.guard.isNone
      | .builtin .append, [.tmp x, _] => x == t && len == 0 && o.guard.isNone
      | .builtin .append, [_, .tmp _] => o.guard.isNone
      | _, _ => false
    | _ => false) || false

def kndOf (P : Program) (lay : Lay) (ops : Array Oper) (t : Nat) (o : Oper) : Knd :=
  match o.op with
  | .move x | .nilCheck x => match priv lay x with
    | some (_, i, off) => .al i off
    | none => .pl
  | .fieldAddr ty x f => match priv lay x, fieldOff P ty f with
    | some (_, i, off), some fo => .al i (off + fo)
    | _, _ => .pl
  | .buildSlice _ len _ => if o.guard.isNone && appOnly ops t len then .ps len else .pl
  | _ => .pl

def layOf (P : Program) (ops : Array Oper) : Lay → List Oper → Lay
  | lay, [] => lay
  | lay, o :: r => match o.dst with
    | none => layOf P ops lay r
    | some t => match lfind lay t with
      | some _ => layOf P ops lay r
      | none => layOf P ops (lay ++ [(t, kndOf P lay ops t o)]) r

/- a region whose order is fixed -/
def seqP (P : Program) (lay : Lay) (ops : Array Oper) : List Oper → Pl
  | [] => .done
  | o :: r => .st (cop P lay ops o) (seqP P lay ops r)

/- a region that draws its order -/

def O.rd : O → List Nat
  | .v i => [i]
  | .c _ => []
def ords : List O → List Nat
  | [] => []
  | o :: r => o.rd ++ ords r
def oordO : Option O → List Nat
  | none => []
  | some o => o.rd
def prds : List (Nat × Nat × O) → List Nat
  | [] => []
  | (_, _, o) :: r => o.rd ++ prds r

def PX.rd : PX → List Nat
  | .mv a | .un _ a | .field _ _ a | .extract _ a | .conv _ a | .str a | .fa _ a | .lenS a | .lenV a | .capV a | .nilc a | .isNil _ a => a.rd
  | .pick c a b => c.rd ++ a.rd ++ b.rd
  | .bin _ a b | .eqb _ a b | .eqf _ _ a b | .idxS a b | .idxA _ _ _ a b | .ia _ a b | .iaA _ _ a b | .minI a b => a.rd ++ b.rd
  | .build _ ps => prds ps
  | .sliceS a l h => a.rd ++ oordO l ++ oordO h
  | .sliceV _ a l h m => a.rd ++ oordO l ++ oordO h ++ oordO m
  | .mkf _ x y => ords x ++ ords y

def A.rd : A → List Nat
  | .px _ x => x.rd
  | .ld _ a _ => a.rd
  | .pget _ c i _ _ => i :: c.toList
  | .als _ c _ => c.toList
  | .psl _ _ ps => prds ps
  | .pnew _ x _ => x.rd
  | _ => []
def A.wrp : A → List Nat
  | .px d _ | .ld d _ _ | .pget d _ _ _ _ | .ex d _ => d.toList
  | .als d _ _ | .psl d _ _ => [d]
  | .pnew i _ cl => i :: cl
  | .pset _ _ _ _ _ => []
/-- the boxes that are written in place -/
def A.cwp : A → List Nat
  | .pset _ i _ _ _ => [i]
  | _ => []
/-- the boxes that have to be there -/
def A.wkp : A → List Nat
  | .als _ _ i => [i]
  | _ => []
def grd : Guard → List Nat
  | none => []
  | some (o, _) => o.rd
def S.rd : S → List Nat
  | .act g x => grd g ++ x.rd
  | _ => []
def S.wr : S → List Nat
  | .act _ x => x.wrp
  | _ => []
def S.cw : S → List Nat
  | .act _ x => x.cwp
  | _ => []
def S.wk : S → List Nat
  | .act _ x => x.wkp
  | _ => []

/-- a statement that has no effect but on one place of the environment -/
def isN : S → Bool
  | .act _ (.px ..) | .act _ (.ld ..) | .act _ (.pget ..) | .act _ (.als ..) => true
  | .act none (.psl ..) => true
  | .act none (.pnew _ _ []) => true
  | _ => false

def posOf (lay : Lay) (t : Nat) : List Nat :=
  match lfind lay t with
  | some (i, .al j _) => [i, j]
  | some (i, _) => [i]
  | none => []
def opPos (lay : Lay) : List Operand → List Nat
  | [] => []
  | .tmp t :: r => posOf lay t ++ opPos lay r
  | _ :: r => opPos lay r
def gdPos (lay : Lay) (ops : Array Oper) (o : Oper) : List Nat :=
  match o.guard with
  | some (j, _) => match (ops[j]?).bind (·.dst) with
    | some t => (plainAt lay t).toList
    | none => []
  | none => []
def dstPos (lay : Lay) (o : Oper) : List Nat :=
  match o.dst with
  | some t => match lfind lay t with
    | some (i, _) => [i]
    | none => []
  | none => []

structure It where
  i : Nat
  s : S
  eff : Bool
  before : Nat
  rd : List Nat
  op : List Nat
  wr : List Nat
  cw : List Nat
  ds : List Nat

/-- a place of the function's own variables is written, or there is another effect -/
def isEff (n : Nat) (s : S) : Bool := !isN s || (match s with
  | .act _ (.px (some d) _) | .act _ (.ld (some d) _ _) | .act _ (.pget (some d) _ _ _ _) => decide (d < n)
  | _ => false)

def itOf (P : Program) (lay : Lay) (n : Nat) (ops : Array Oper) (b : Array Nat) (i : Nat) (o : Oper) : It :=
  let s := cop P lay ops o
  { i := i, s := s, eff := isEff n s, before := b.getD i 0, rd := s.rd, op := s.wk ++ opPos lay o.op.operands.toList ++ gdPos lay ops o, wr := s.wr ++ dstPos lay o, cw := s.cw, ds := dstPos lay o }

def itsFrom (P : Program) (lay : Lay) (n : Nat) (ops : Array Oper) (b : Array Nat) : List Oper → Nat → List It
  | [], _ => []
  | o :: r, i => itOf P lay n ops b i o :: itsFrom P lay n ops b r (i + 1)

def readyIt (done : Nat) (ops : Array Oper) (i : Nat) : Bool :=
  match ops[i]? with
  | some o => o.after.all fun e => !Region.binds .any e || done.testBit e.on
  | none => false

/-- what can be done at once without an effect: in the text's order -/
def freeOf (ops : Array Oper) : List It → Nat → List It × Nat
  | [], d => ([], d)
  | x :: r, d => if !x.eff && !d.testBit x.i && readyIt d ops x.i then
      match freeOf ops r (d ||| 2 ^ x.i) with
      | (l, d') => (x :: l, d')
    else freeOf ops r d

def stepsP : List It → Pl → Pl
  | [], p => p
  | x :: r, p => .st x.s (stepsP r p)

/-- after an effect: loads that may still come are asked again -/
def againP (e : It) : List It → Pl → Pl
  | [], p => p
  | x :: r, p => match x.s with
    | .act g (.ld (some d) a sz) => if e.before.testBit x.i then againP e r p else .st (.re d a sz g) (againP e r p)
    | .act _ (.ld none _ _) => .st (stuckS none) .done
    | _ => againP e r p

def bothP : List Pl → Pl
  | [] => .done
  | [p] => p
  | p :: r => .both p (bothP r)

/-- the effects that may come next, each with what comes behind it -/
def nodeP (ops : Array Oper) (all : List It) (sub : Nat → List It → Pl) (d : Nat) (past : List It) : Pl :=
  let br := all.filter fun x => x.eff && !d.testBit x.i && readyIt d ops x.i
  if all.all (fun x => x.eff || d.testBit x.i || !readyIt d ops x.i) then
    bothP (br.map fun x => .st x.s (againP x past (sub (d ||| 2 ^ x.i) past)))
  else .st (stuckS none) .done

/-- the tree of all orders of the effects; what has no effect is done as soon as it can be -/
def treeP (ops : Array Oper) (all : List It) : Nat → Nat → List It → Pl
  | 0, _, _ => .st (stuckS none) .done
  | fuel + 1, done, past => stepsP (freeOf ops all done).1 (nodeP ops all (treeP ops all fuel) (freeOf ops all done).2 (past ++ (freeOf ops all done).1))

def effCount : List It → Nat
  | [] => 0
  | x :: r => (if x.eff then 1 else 0) + effCount r

def meets (a b : List Nat) : List Nat := a.filter fun x => b.contains x

/-- where the first one's writing touches the second -/
def touch (x y : It) : List Nat := meets x.wr (y.rd ++ y.op ++ y.wr ++ y.cw) ++ meets x.cw (y.rd ++ y.wr ++ y.cw)

/-- two operations that touch one place stand in an order -/
def pairOk (n : Nat) (x y : It) : Bool :=
  if x.i = y.i then (meets x.wr (x.rd ++ x.op)).all fun p => x.eff && decide (p < n)
  else
    (touch x y).isEmpty || y.before.testBit x.i ||
      (x.eff && ((touch x y).all fun p => decide (p < n)) && x.before.testBit y.i)

def edgesOk (ops : Array Oper) (i : Nat) : Bool :=
  match ops[i]? with
  | some o => o.after.all fun e => !Region.binds .any e || decide (e.on < i)
  | none => false

def drawOk (n : Nat) (ops : Array Oper) (its : List It) : Bool :=
  its.all (fun x => edgesOk ops x.i && (x.wr.all fun p => x.ds.contains p) && its.all fun y => pairOk n x y)

/-- of each operation, all that stands ahead of it -/
def beforeOf : List Oper → List Nat → List Nat
  | [], acc => acc
  | o :: r, acc => beforeOf r (acc ++ [o.after.foldl (fun s e => if Region.binds .any e then s ||| 2 ^ e.on ||| acc.getD e.on 0 else s) 0])

def drawP (P : Program) (lay : Lay) (n : Nat) (ops : Array Oper) : Pl :=
  let its := itsFrom P lay n ops (beforeOf ops.toList []).toArray ops.toList 0
  if P.follows .mixedOrders && drawOk n ops its then treeP ops its (effCount its + 1) 0 [] else .st (stuckS none) .done

structure Hint where
  vars : List (Nat × Bool)
  fg : List (List Nat)

def baseLay (hn : Hint) : Lay := hn.vars.map fun (t, b) => (t, if b then .bx else .pl)

def distinctN : List Nat → Bool
  | [] => true
  | a :: l => !l.contains a && distinctN l

def okLay (nt : Nat) (lay : Lay) : Bool := distinctN (lay.map (·.1)) && lay.all fun x => decide (x.1 < nt)

def stuckC : C := .pl (.st (stuckS none) .done)

/-- the code; the layout that a cond behind it may read; the loops' hints that are left -/
def cco (P : Program) (nt : Nat) (base : Lay) : Code → Lay → List (List Nat) → C × Lay × List (List Nat)
  | .skip, lay, fg => (.skip, lay, fg)
  | .region _ ops draw, _, fg =>
    let lay := layOf P ops base ops.toList
    if okLay nt lay then
      (.pl (.st (.ext base.length (lay.length - base.length)) (if draw then drawP P lay base.length ops else seqP P lay ops ops.toList)), lay, fg)
    else (stuckC, base, fg)
  | .seq a b, lay, fg => match cco P nt base a lay fg with
    | (a', lay1, fg1) => match cco P nt base b lay1 fg1 with
      | (b', lay2, fg2) => (.seq a' b', lay2, fg2)
  | .cond c a b, lay, fg => match cco P nt base a base fg with
    | (a', _, fg1) => match cco P nt base b base fg1 with
      | (b', _, fg2) => match opr lay c with
        | some o => (.cond base.length o a' b', base, fg2)
        | none => (stuckC, base, fg2)
  | .block id a, lay, fg => match cco P nt base a lay fg with
    | (a', _, fg1) => (.block id a', base, fg1)
  | .loop a, _, fg => match cco P nt base a base fg.tail with
    | (a', _, fg1) => (.loop base.length (fg.headD []) a', base, fg1)
  | .exit id, lay, fg => (.exit id, lay, fg)
  | .ret, lay, fg => (.ret, lay, fg)
  | .scope _, _, fg | .label _, _, fg | .goto _, _, fg | .refuse _, _, fg | .rangeFunc .., _, fg => (stuckC, base, fg)

structure FIR where
  body : C
  size : Nat
  res : List (Nat × Option (Option Nat))

def cres (P : Program) (lay : Lay) : List ResultVar → Option (List (Nat × Option (Option Nat)))
  | [] => some []
  | .tmp t :: r => match plainAt lay t, cres P lay r with
    | some i, some l => some ((i, none) :: l)
    | _, _ => none
  | .cell t ty :: r => match lfind lay t, szT P ty, cres P lay r with
    | some (i, .bx), some s, some l => some ((i, some s) :: l)
    | _, _, _ => none

def parsOk : Nat → Nat → List (Nat × Bool) → Bool
  | 0, _, _ => true
  | n + 1, i, (t, b) :: r => t == i && !b && parsOk n (i + 1) r
  | _ + 1, _, [] => false

/-- THE TRANSLATION of a function -/
def cfun (P : Program) (hn : Hint) (fn : Func) : Option FIR :=
  match fn.body, cres P (baseLay hn) fn.results.toList with
  | some c, some r =>
    if parsOk (fn.params.size + fn.nfree) 0 hn.vars && okLay fn.ntmps (baseLay hn) then
      some { body := (cco P fn.ntmps (baseLay hn) c (baseLay hn) hn.fg).1, size := hn.vars.length, res := r }
    else none
  | _, _ => none

def resV (e : Env) : List (Nat × Option (Option Nat)) → Option (List Value)
  | [] => some []
  | (i, s) :: r => match (match s with | none => eget e i | some sz => pgetV (eget e i) 0 sz), resV e r with
    | some v, some l => some (v :: l)
    | _, _ => none

def tupV : List Value → Value
  | [v] => v
  | l => .tuple l.toArray

def env0 (args : List Value) (n : Nat) : Env := args.map some ++ List.replicate (n - args.length) none

end Go.Proofs.Ytfhjclhchbagnaa
