/-
  A small intermediate language for the operations of one function, with a weakest precondition over partial heaps, and the translation of a function's code into it. Its soundness is proved in the files that follow.
-/
import Derived.Orders
import Derived.Laws.Sem
namespace Go.Proofs.Ytfhjclhchbagnaa
open Go
set_option linter.all false
set_option linter.unusedVariables false
set_option linter.unusedSimpArgs false
set_option linter.defProp false

abbrev Heap := Nat → Option Obj
abbrev Env := List (Option Value)

def Heap.sub (h : Heap) (w : World) : Prop := ∀ b o, h b = some o → w.heap[b]? = some o
def Heap.set (h : Heap) (b : Nat) (o : Obj) : Heap := fun x => if x = b then some o else h x

def eget : Env → Nat → Option Value
  | [], _ => none
  | x :: _, 0 => x
  | _ :: t, n + 1 => eget t n
def eset : Env → Nat → Option Value → Env
  | [], _, _ => []
  | _ :: t, 0, v => v :: t
  | x :: t, n + 1, v => x :: eset t n v
/-- forget what stands at some places -/
def efgt : Env → List Nat → Env
  | e, [] => e
  | e, i :: l => efgt (eset e i none) l
/-- keep n places, and lay m fresh ones behind them -/
def eext (n m : Nat) (e : Env) : Env := e.take n ++ List.replicate m none

inductive O where
  | v (i : Nat)
  | c (x : Value)

def O.get (e : Env) : O → Option Value
  | .v i => eget e i
  | .c x => some x

def ogets (e : Env) : List O → Option (List Value)
  | [] => some []
  | o :: l => match o.get e, ogets e l with
    | some v, some r => some (v :: r)
    | _, _ => none

/-- the basic kinds whose values can be told apart -/
inductive BK where
  | i | b | s

inductive KT where
  | one (k : BK)
  | many (ks : List BK)

inductive PX where
  | mv (a : O)
  | pick (c a b : O)
  | un (op : UnOp) (a : O)
  | bin (op : BinOp) (a b : O)
  | eqb (neg : Bool) (a b : O)
  | eqf (neg : Bool) (ks : List BK) (a b : O)
  | build (zero : List Value) (parts : List (Nat × Nat × O))
  | field (off : Nat) (sz : Option Nat) (a : O)
  | extract (i : Nat) (a : O)
  | idxS (a i : O)
  | idxA (len esz : Nat) (sz : Option Nat) (a i : O)
  | conv (k : IntKind) (a : O)
  | str (a : O)
  | sliceS (a : O) (lo hi : Option O)
  | sliceV (esz : Nat) (a : O) (lo hi mx : Option O)
  | fa (off : Nat) (a : O)
  | ia (esz : Nat) (a i : O)
  | iaA (len esz : Nat) (a i : O)
  | lenS (a : O)
  | lenV (a : O)
  | capV (a : O)
  | mkf (fn : Fn) (first cap : List O)
  | nilc (a : O)
  | minI (a b : O)
  | isNil (neg : Bool) (a : O)

def andI (k : IntKind) (a b : Int) : Int := k.wrap (BitVec.ofInt k.bits a &&& BitVec.ofInt k.bits b).toNat
def orI (k : IntKind) (a b : Int) : Int := k.wrap (BitVec.ofInt k.bits a ||| BitVec.ofInt k.bits b).toNat
def xorI (k : IntKind) (a b : Int) : Int := k.wrap (BitVec.ofInt k.bits a ^^^ BitVec.ofInt k.bits b).toNat
def andNotI (k : IntKind) (a b : Int) : Int := k.wrap (BitVec.ofInt k.bits a &&& ~~~BitVec.ofInt k.bits b).toNat
def shlI (k : IntKind) (a b : Int) : Int := k.wrap (a * 2 ^ (min b.toNat k.bits))
def shrI (k : IntKind) (a b : Int) : Int := a.fdiv (2 ^ (min b.toNat k.bits))

def intV (op : BinOp) (k : IntKind) (a b : Int) : Option Value :=
  match op with
  | .add => some (.int k (k.wrap (a + b)))
  | .sub => some (.int k (k.wrap (a - b)))
  | .mul => some (.int k (k.wrap (a * b)))
  | .quo => if b = 0 then none else some (.int k (k.wrap (a.tdiv b)))
  | .rem => if b = 0 then none else some (.int k (a.tmod b))
  | .and => some (.int k (andI k a b))
  | .or => some (.int k (orI k a b))
  | .xor => some (.int k (xorI k a b))
  | .andNot => some (.int k (andNotI k a b))
  | .eql => some (.bool (decide (a = b)))
  | .neq => some (.bool (!decide (a = b)))
  | .lss => some (.bool (decide (a < b)))
  | .leq => some (.bool (decide (a ≤ b)))
  | .gtr => some (.bool (decide (b < a)))
  | .geq => some (.bool (decide (b ≤ a)))
  | _ => none

def strV (op : BinOp) (a b : ByteArray) : Option Value :=
  match op with
  | .add => if ((a.size + b.size : Nat) : Int) > IntKind.i64.max then none else some (.string (a ++ b))
  | .eql => some (.bool (decide (a.data.toList = b.data.toList)))
  | .neq => some (.bool (!decide (a.data.toList = b.data.toList)))
  | .lss => some (.bool (Op.bytesLess a.data.toList b.data.toList))
  | _ => none

def binV : BinOp → Value → Value → Option Value
  | .shl, .int k a, .int _ b => if b < 0 then none else some (.int k (shlI k a b))
  | .shr, .int k a, .int _ b => if b < 0 then none else some (.int k (shrI k a b))
  | op, .int k a, .int k' b => if k = k' then intV op k a b else none
  | op, .string a, .string b => strV op a b
  | _, _, _ => none

def unV : UnOp → Value → Option Value
  | .neg, .int k n => some (.int k (k.wrap (0 - n)))
  | .not, .bool b => some (.bool !b)
  | _, _ => none

def eqB : BK → Value → Value → Option Bool
  | .i, .int k a, .int k' b => if k = k' then some (decide (a = b)) else none
  | .b, .bool a, .bool b => some (a == b)
  | .s, .string a, .string b => some (decide (a.data.toList = b.data.toList))
  | _, _, _ => none

def eqL : List BK → List Value → List Value → Option Bool
  | [], [], [] => some true
  | k :: ks, a :: l, b :: r => match eqB k a b, eqL ks l r with
    | some x, some y => some (x && y)
    | _, _ => none
  | _, _, _ => none

def setC (c : List Value) (off : Nat) (vs : List Value) : List Value := c.take off ++ vs ++ c.drop (off + vs.length)

def fillP (e : Env) : List Value → List (Nat × Nat × O) → Option (List Value)
  | c, [] => some c
  | c, (off, sz, o) :: r => match o.get e with
    | some v => if v.cells.size = sz ∧ off + sz ≤ c.length then fillP e (setC c off v.cells.toList) r else none
    | none => none

def partV (cs : List Value) (off : Nat) : Option Nat → Option Value
  | none => cs[off]?
  | some n => if off + n ≤ cs.length then some (.agg ((cs.drop off).take n).toArray) else none

def inR (i : Int) (n : Nat) : Bool := decide (0 ≤ i) && decide (i < n)

def bndV (d : Nat) (n : Nat) : Option (Option Value) → Option Nat
  | none => some d
  | some (some (.int _ i)) => if 0 ≤ i ∧ i ≤ n then some i.toNat else none
  | _ => none

/- operations on values, by name -/
def idxSV : Value → Value → Option Value
  | .string s, .int _ n => if 0 ≤ n then (s.data[n.toNat]?).map fun b => .int .u8 b.toNat else none
  | _, _ => none
def sliceSV (x : Value) (lo hi : Option (Option Value)) : Option Value :=
  match x with
  | .string s => match bndV s.size s.size hi with
    | some h => match bndV 0 h lo with
      | some l => some (.string (s.extract l h))
      | none => none
    | none => none
  | _ => none
def sliceVV (esz : Nat) (x : Value) (lo hi mx : Option (Option Value)) : Option Value :=
  match x with
  | .slice p len cap => match bndV cap cap mx with
    | some m => match bndV len m hi with
      | some h => match bndV 0 h lo with
        | some l => if mx.isSome && hi.isNone then none else some (.slice (if m = l then p else p.map (·.add (l * esz))) (h - l) (m - l))
        | none => none
      | none => none
    | none => none
  | _ => none
def faV (off : Nat) : Value → Option Value
  | .pointer (some p) => some (.pointer (some (p.add off)))
  | _ => none
def iaV (esz : Nat) : Value → Value → Option Value
  | .slice (some p) len _, .int _ n => if 0 ≤ n ∧ n < len then some (.pointer (some (p.add (n.toNat * esz)))) else none
  | _, _ => none
def iaAV (len esz : Nat) : Value → Value → Option Value
  | .pointer (some p), .int _ n => if 0 ≤ n ∧ n < len then some (.pointer (some (p.add (n.toNat * esz)))) else none
  | _, _ => none
def lenSV : Value → Option Value
  | .string s => some (.int .i64 s.size)
  | _ => none
def lenVV : Value → Option Value
  | .slice _ n _ => some (.int .i64 n)
  | _ => none
def capVV : Value → Option Value
  | .slice _ _ n => some (.int .i64 n)
  | _ => none
def nilcV : Value → Option Value
  | .pointer (some p) => some (.pointer (some p))
  | _ => none
def isNilV (neg : Bool) : Value → Option Value
  | .slice p _ _ => some (.bool (if neg then p.isSome else p.isNone))
  | _ => none

def PX.ev (e : Env) : PX → Option Value
  | .mv a => a.get e
  | .pick c a b => match c.get e with
    | some (.bool t) => if t then a.get e else b.get e
    | _ => none
  | .un op a => match a.get e with
    | some v => unV op v
    | none => none
  | .bin op a b => match a.get e, b.get e with
    | some x, some y => binV op x y
    | _, _ => none
  | .eqb neg a b => match a.get e, b.get e with
    | some (.bool x), some (.bool y) => some (.bool (if neg then !(x == y) else x == y))
    | _, _ => none
  | .eqf neg ks a b => match a.get e, b.get e with
    | some (.agg x), some (.agg y) => (eqL ks x.toList y.toList).map fun r => .bool (if neg then !r else r)
    | _, _ => none
  | .build zero parts => (fillP e zero parts).map fun l => .agg l.toArray
  | .field off sz a => match a.get e with
    | some (.agg c) => partV c.toList off sz
    | _ => none
  | .extract i a => match a.get e with
    | some (.tuple vs) => vs[i]?
    | _ => none
  | .idxS a i => match a.get e, i.get e with
    | some x, some y => idxSV x y
    | _, _ => none
  | .idxA len esz sz a i => match a.get e, i.get e with
    | some (.agg c), some (.int _ n) => if 0 ≤ n ∧ n < len then partV c.toList (n.toNat * esz) sz else none
    | _, _ => none
  | .conv k a => match a.get e with
    | some (.int _ n) => some (.int k (k.wrap n))
    | _ => none
  | .str a => match a.get e with
    | some (.string s) => some (.string s)
    | _ => none
  | .sliceS a lo hi => match a.get e with
    | some x => sliceSV x (lo.map (·.get e)) (hi.map (·.get e))
    | none => none
  | .sliceV esz a lo hi mx => match a.get e with
    | some x => sliceVV esz x (lo.map (·.get e)) (hi.map (·.get e)) (mx.map (·.get e))
    | none => none
  | .fa off a => match a.get e with
    | some x => faV off x
    | none => none
  | .ia esz a i => match a.get e, i.get e with
    | some x, some y => iaV esz x y
    | _, _ => none
  | .iaA len esz a i => match a.get e, i.get e with
    | some x, some y => iaAV len esz x y
    | _, _ => none
  | .lenS a => match a.get e with
    | some x => lenSV x
    | none => none
  | .lenV a => match a.get e with
    | some x => lenVV x
    | none => none
  | .capV a => match a.get e with
    | some x => capVV x
    | none => none
  | .mkf fn first cap => match ogets e first, ogets e cap with
    | some x, some y => some (.func fn x.toArray y.toArray)
    | _, _ => none
  | .nilc a => match a.get e with
    | some x => nilcV x
    | none => none
  | .minI a b => match a.get e, b.get e with
    | some (.int k x), some (.int k' y) => if k = k' then some (.int k (if y < x then y else x)) else none
    | _, _ => none
  | .isNil neg a => match a.get e with
    | some x => isNilV neg x
    | none => none

/- the heap -/

def hcell (h : Heap) (b off : Nat) : Option Value :=
  match h b with
  | some (.cells c _ _) => c[off]?
  | _ => none

def hcells (h : Heap) (b off : Nat) : Nat → Option (List Value)
  | 0 => some []
  | n + 1 => match hcell h b off, hcells h b (off + 1) n with
    | some v, some r => some (v :: r)
    | _, _ => none

def hload (h : Heap) (p : Option Value) (sz : Option Nat) : Option Value :=
  match p with
  | some (.pointer (some ⟨b, off, none⟩)) => match sz with
    | none => hcell h b off
    | some n => (hcells h b off n).map fun l => .agg l.toArray
  | _ => none

def hstore (h : Heap) (b off : Nat) (vs : List Value) : Option Heap :=
  match h b with
  | some (.cells c el fr) => if fr = (0, 0) ∧ off + vs.length ≤ c.size ∧ vs.all Value.oneCell' = true then some (h.set b (.cells (setC c.toList off vs).toArray el fr)) else none
  | _ => none

/-- what a value that is appended holds: so many elements, and their cells -/
def srcV (h : Heap) (esz : Nat) : Option Value → Option (Nat × List Value)
  | some (.slice _ 0 _) => some (0, [])
  | some (.slice (some ⟨b, off, none⟩) n _) => (hcells h b off (n * esz)).map fun l => (n, l)
  | some (.string s) => if esz = 1 then some (s.size, s.data.toList.map fun x => .int .u8 x.toNat) else none
  | _ => none

def reps (n : Nat) (zero : List Value) : List Value := (List.replicate n zero).flatten

inductive AO where
  | o (x : O)
  | p (n : Nat) (i : Nat)

def AO.src (h : Heap) (e : Env) (esz : Nat) : AO → Option (Nat × List Value)
  | .o x => srcV h esz (x.get e)
  | .p n i => match eget e i with
    | some (.agg c) => if c.size = n * esz then some (n, c.toList) else none
    | _ => none

inductive EX where
  | store (sz : Nat) (a x : O)
  | alloc (x : O)
  | mks (bytes esz : Nat) (zero : List Value) (len cap : O)
  | bls (esz len : Nat) (zero : List Value) (parts : List (Nat × Nat × O))
  | app (bytes esz : Nat) (zero : List Value) (a b : AO)
  | copy (esz : Nat) (a b : O)
  | call (f : FuncId) (args : List O)
  | callv (f : O) (args : List O)
  | mkm
  | mget (kt : KT) (zero : Value) (ok : Bool) (m k : O)
  | mput (kt : KT) (m k x : O)
  | mlen (m : O)

/-- keys of maps: equal, by what they hold -/
def keyEq : KT → Value → Value → Option Bool
  | .many ks, .agg a, .agg b => eqL ks a.toList b.toList
  | .one k, a, b => eqB k a b
  | _, _, _ => none

def mfind (kt : KT) (k : Value) : List MapEntry → Nat → Option (Option (Nat × Value))
  | [], _ => some none
  | x :: l, i => match keyEq kt k x.key with
    | some true => some (some (i, x.val))
    | some false => mfind kt k l (i + 1)
    | none => none

structure Frm (h : Heap) (w : World) (h' : Heap) (w' : World) : Prop where
  tape : w'.tape = w.tape
  os : w'.os = w.os
  output : w'.output = w.output
  size : w.heap.size ≤ w'.heap.size
  keep : ∀ b, b < w.heap.size → h b = none → w'.heap[b]? = w.heap[b]?
  fresh : ∀ b, b < w.heap.size → h b = none → h' b = none

/-- what becomes of the entry into a function: of a Go function's body, or of the model's own row -/
def Landed (P : Program) (r : Result Next) (R : Ending → World → Prop) : Prop :=
  match r with
  | .ok (.enter f as) w => Calls P f as w R
  | .ok (.value v) w => R (.returned v) w
  | _ => False

/-- one heap is a part of another -/
def Heap.le (h h' : Heap) : Prop := ∀ b o, h b = some o → h' b = some o
/-- a part of the heap may be forgotten -/
def Fgt (k : Env → Heap → Prop) (e : Env) (h : Heap) : Prop := ∃ h', h'.le h ∧ k e h'

/-- THE CONTRACT of a call over a partial heap -/
def CallE (P : Program) (f : FuncId) (args : List Value) (h : Heap) (Q : Value → Heap → Prop) : Prop :=
  ∀ w, h.sub w → Landed P ((callFunc f args.toArray).run P w) fun e w' => ∃ v h', e = .returned v ∧ Q v h' ∧ h'.sub w' ∧ Frm h w h' w'

def EX.wp (P : Program) (e : Env) (h : Heap) (k : Value → Heap → Prop) : EX → Prop
  | .store sz a x => ∃ b off v h', a.get e = some (.pointer (some ⟨b, off, none⟩)) ∧ x.get e = some v ∧ v.cells.size = sz ∧ hstore h b off v.cells.toList = some h' ∧ k undef h'
  | .alloc x => ∃ v, x.get e = some v ∧ ∀ b el, h b = none → k (.pointer (some ⟨b, 0, none⟩)) (h.set b (.cells v.cells el (0, 0)))
  | .mks bytes _ zero len cap => ∃ l c : Nat, ∃ j j', len.get e = some (.int j l) ∧ cap.get e = some (.int j' c) ∧ l ≤ c ∧ c < 2 ^ 62 ∧ bytes * c ≤ 2 ^ 48 ∧
      ∀ b el, h b = none → k (.slice (some ⟨b, 0, none⟩) l c) (h.set b (.cells (reps c zero).toArray el (0, 0)))
  | .bls _ len zero parts => ∃ cs, fillP e (reps len zero) parts = some cs ∧ ∀ b el, h b = none → k (.slice (some ⟨b, 0, none⟩) len len) (h.set b (.cells cs.toArray el (0, 0)))
  | .app bytes esz zero a b => ∃ n cs, b.src h e esz = some (n, cs) ∧
      match a with
      | .o x => ∃ p len cap, x.get e = some (.slice p len cap) ∧
          (len + n ≤ cap → match p with
            | none => cs = [] ∧ k (.slice none (len + n) cap) h
            | some ⟨b', off, none⟩ => (cs = [] ∧ k (.slice p (len + n) cap) h) ∨ ∃ h', hstore h b' (off + len * esz) cs = some h' ∧ k (.slice p (len + n) cap) h'
            | _ => False) ∧
          (cap < len + n → ∃ m old, srcV h esz (some (.slice p len cap)) = some (m, old) ∧ Builtin.nextslicecap (len + n) cap * bytes ≤ 2 ^ 48 ∧ len + n < 2 ^ 62 ∧
            ∀ b' el c, h b' = none → len + n ≤ c → k (.slice (some ⟨b', 0, none⟩) (len + n) c) (h.set b' (.cells (old ++ cs ++ reps (c - (len + n)) zero).toArray el (0, 0))))
      | .p m i => m = 0 ∧ (∃ c, eget e i = some (.agg c)) ∧ (n = 0 → ∀ b, k (.slice (some ⟨b, 0, none⟩) 0 0) h) ∧
          (0 < n → Builtin.nextslicecap n 0 * bytes ≤ 2 ^ 48 ∧ n < 2 ^ 62 ∧
            ∀ b' el c, h b' = none → n ≤ c → k (.slice (some ⟨b', 0, none⟩) n c) (h.set b' (.cells (cs ++ reps (c - n) zero).toArray el (0, 0))))
  | .copy esz a b => ∃ p n m cap cs, a.get e = some (.slice p n cap) ∧ srcV h esz (b.get e) = some (m, cs) ∧
      match p with
      | none => k (.int .i64 (min m n : Nat)) h
      | some ⟨b', off, none⟩ => ∃ h', hstore h b' off (cs.take (min m n * esz)) = some h' ∧ k (.int .i64 (min m n : Nat)) h'
      | _ => False
  | .call f args => ∃ vs, ogets e args = some vs ∧ CallE P f vs h k
  | .callv fo args => ∃ f first cap vs, fo.get e = some (.func (.func f) first cap) ∧ ogets e args = some vs ∧ CallE P f (first.toList ++ vs ++ cap.toList) h k
  | .mkm => ∀ b, h b = none → k (.map (some b)) (h.set b (.map #[] 0))
  | .mget kt zero ok m x => ∃ b es clock kv r, m.get e = some (.map (some b)) ∧ h b = some (.map es clock) ∧ x.get e = some kv ∧ (keyEq kt kv kv).isSome = true ∧ mfind kt kv es.toList 0 = some r ∧
      k (let (v, t) := match r with | some (_, v) => (v, true) | none => (zero, false)
         if ok then .tuple #[v, .bool t] else v) h
  | .mput kt m x y => ∃ b es clock kv v r, m.get e = some (.map (some b)) ∧ h b = some (.map es clock) ∧ x.get e = some kv ∧ y.get e = some v ∧ (keyEq kt kv kv).isSome = true ∧ mfind kt kv es.toList 0 = some r ∧
      match r with
      | some (i, _) => ∀ kk, k undef (h.set b (.map (es.modify i fun z => { z with key := kk, val := v }) clock))
      | none => k undef (h.set b (.map (es.push { key := kv, val := v, born := clock }) (clock + 1)))
  | .mlen m => ∃ b es clock, m.get e = some (.map (some b)) ∧ h b = some (.map es clock) ∧ k (.int .i64 es.size) h

abbrev Guard := Option (O × Bool)

def gcond (e : Env) : Guard → Option Bool
  | none => some true
  | some (o, w) => match o.get e with
    | some (.bool b) => some (b == w)
    | some _ => some false
    | none => none

inductive A where
  | px (d : Option Nat) (x : PX)
  | ld (d : Option Nat) (a : O) (sz : Option Nat)
  | ex (d : Option Nat) (x : EX)
  | pnew (i : Nat) (x : O) (cl : List Nat)
  | pget (d : Option Nat) (c : Option Nat) (i off : Nat) (sz : Option Nat)
  | pset (c : Option Nat) (i off sz : Nat) (x : O)
  | als (d : Nat) (c : Option Nat) (i : Nat)
  | psl (d : Nat) (zero : List Value) (parts : List (Nat × Nat × O))

def dput (d : Option Nat) (v : Option Value) (e : Env) : Env :=
  match d with
  | some i => eset e i v
  | none => e

/-- a value that is written when the guard says yes; 'undef' else -/
def gval (b : Bool) (v : Option Value) : Option Value := if b then v else some undef

def pgetV (v : Option Value) (off : Nat) (sz : Option Nat) : Option Value :=
  match v with
  | some v => match sz with
    | some n => if off = 0 ∧ v.cells.size = n then some (.agg v.cells) else partV v.cells.toList off (some n)
    | none => v.cells.toList[off]?
  | none => none

def psetV (v : Option Value) (off sz : Nat) (x : Option Value) : Option Value :=
  match v, x with
  | some v, some x =>
    if x.cells.size = sz ∧ off + sz ≤ v.cells.size ∧ x.cells.toList.all Value.oneCell' = true then
      match v with
      | .agg c => some (if off = 0 ∧ sz = c.size then .agg x.cells else .agg (setC c.toList off x.cells.toList).toArray)
      | _ => if sz = 1 then x.cells[0]? else none
    else none
  | _, _ => none

/-- an address into a box, where it is not the box itself, has been taken -/
def aok (e : Env) : Option Nat → Bool
  | none => true
  | some p => match eget e p with
    | some (.bool b) => b
    | _ => false

def pgetC (e : Env) (c : Option Nat) (i off : Nat) (sz : Option Nat) : Option Value := if aok e c then pgetV (eget e i) off sz else none

def A.wp (P : Program) (k : Env → Heap → Prop) (e : Env) (h : Heap) : A → Prop
  | .px d x => ∃ v, x.ev e = some v ∧ k (dput d (some v) e) h
  | .ld d a sz => ∃ v, hload h (a.get e) sz = some v ∧ k (dput d (some v) e) h
  | .ex d x => x.wp P e h fun v h' => Fgt k (dput d (some v) e) h'
  | .pnew i x cl => ∃ v, x.get e = some v ∧ k (efgt (eset e i (some v)) cl) h
  | .pget d c i off sz => ∃ v, pgetC e c i off sz = some v ∧ k (dput d (some v) e) h
  | .pset c i off sz x => aok e c = true ∧ ∃ v, psetV (eget e i) off sz (x.get e) = some v ∧ k (eset e i (some v)) h
  | .als d c i => aok e c = true ∧ (eget e i).isSome = true ∧ k (eset e d (some (.bool true))) h
  | .psl d zero parts => ∃ cs, fillP e zero parts = some cs ∧ k (eset e d (some (.agg cs.toArray))) h

/-- the value of what only computes or reads -/
def A.val (e : Env) (h : Heap) : A → Option (Option Nat × Option Value)
  | .px d x => some (d, x.ev e)
  | .ld d a sz => some (d, hload h (a.get e) sz)
  | .pget d c i off sz => some (d, pgetC e c i off sz)
  | _ => none

def A.dst : A → Option Nat
  | .px d _ | .ld d _ _ | .ex d _ | .pget d _ _ _ _ => d
  | .als d _ _ | .psl d _ _ => some d
  | _ => none

inductive S where
  | act (g : Guard) (x : A)
  | re (d : Nat) (a : O) (sz : Option Nat) (g : Guard)
  | ext (n m : Nat)

def S.wp (P : Program) (k : Env → Heap → Prop) (e : Env) (h : Heap) : S → Prop
  | .act none x => x.wp P k e h
  | .act (some g) x => ∃ b, gcond e (some g) = some b ∧ match x.val e h with
    | some (d, v) => (b = true → v.isSome = true) ∧ k (dput d (gval b v) e) h
    | none => (b = true → x.wp P k e h) ∧ (b = false → k (dput x.dst (some undef) e) h)
  | .re d a sz none => hload h (a.get e) sz = eget e d ∧ k e h
  | .re d a sz (some g) => ∃ b, gcond e (some g) = some b ∧ (b = true → hload h (a.get e) sz = eget e d) ∧ k e h
  | .ext n m => k (eext n m e) h

inductive Pl where
  | done
  | st (s : S) (next : Pl)
  | both (a b : Pl)

def Pl.wp (P : Program) (k : Env → Heap → Prop) : Pl → Env → Heap → Prop
  | .done, e, h => k e h
  | .st s n, e, h => s.wp P (n.wp P k) e h
  | .both a b, e, h => a.wp P k e h ∧ b.wp P k e h

inductive Ex where
  | nrm
  | exit (id : Nat)
  | ret

inductive C where
  | skip
  | pl (p : Pl)
  | seq (a b : C)
  | cond (n : Nat) (o : O) (a b : C)
  | block (id : Nat) (a : C)
  | loop (n : Nat) (fg : List Nat) (a : C)
  | exit (id : Nat)
  | ret

def C.wp (P : Program) : C → (Ex → Env → Heap → Prop) → Env → Heap → Prop
  | .skip, Q, e, h => Q .nrm e h
  | .pl p, Q, e, h => p.wp P (Q .nrm) e h
  | .seq a b, Q, e, h => a.wp P (fun x e' h' => match x with
      | .nrm => b.wp P Q e' h'
      | x => Q x e' h') e h
  | .cond n o a b, Q, e, h => ∃ t, o.get e = some (.bool t) ∧ (t = true → a.wp P Q (e.take n) h) ∧ (t = false → b.wp P Q (e.take n) h)
  | .block id a, Q, e, h => a.wp P (fun x e' h' => match x with
      | .exit i => if i = id then Q .nrm e' h' else Q (.exit i) e' h'
      | x => Q x e' h') e h
  | .loop n fg a, Q, e, h => ∃ I : Nat → Env → Heap → Prop, (∃ m, I m (efgt (e.take n) fg) h) ∧
      ∀ m e h, I m e h → a.wp P (fun x e' h' => match x with
        | .nrm => ∃ m', m' < m ∧ I m' (efgt (e'.take n) fg) h'
        | x => Q x e' h') e h
  | .exit id, Q, e, h => Q (.exit id) e h
  | .ret, Q, e, h => Q .ret e h

end Go.Proofs.Ytfhjclhchbagnaa
