/-
  Texts of this proof, one behind the other.
-/
import Derived.Laws.BytesString
import Derived.Orders
import Derived.Laws.Sem
import Derived.Laws.StructEq
import Derived.Laws.Entries
import Derived.Laws.Cells
import Derived.Laws.CopyRow
import Derived.Laws.Append
import Derived.Laws.Tables
set_option linter.all false
set_option linter.unusedVariables false
set_option linter.unusedSimpArgs false
set_option linter.defProp false
set_option maxRecDepth 1000000
namespace Go.Proofs.YtjbjnicobdpdhaaGreatDoor
open Go
universe u
abbrev Heap:=Nat→Option Obj
abbrev Env:=List (Option Value)
def Heap.sub (h:Heap) (w:World):Prop:=∀b o,h b=some o→w.heap[b]? = some o
def Heap.set (h:Heap) (b:Nat) (o:Obj):Heap:=fun x=>if x=b then some o else h x
def eget:Env→Nat→Option Value
 | [],_=>none
 | x::_,0=>x
 | _::t,n+1=>eget t n
def eset:Env→Nat→Option Value→Env
 | [],_,_=>[]
 | _::t,0,v=>v::t
 | x::t,n+1,v=>x::eset t n v
def efgt:Env→List Nat→Env
 | e,[]=>e
 | e,i::l=>efgt (eset e i none) l
def eext (n m:Nat) (e:Env):Env:=e.take n++List.replicate m none
inductive O where
 | v (i:Nat)
 | c (x:Value)
def O.get (e:Env):O→Option Value
 | .v i=>eget e i
 | .c x=>some x
def ogets (e:Env):List O→Option (List Value)
 | []=>some []
 | o::l=>match o.get e,ogets e l with
  | some v,some r=>some (v::r)
  | _,_=>none
inductive BK where
 | i | b | s
inductive KT where
 | one (k:BK)
 | many (ks:List BK)
inductive PX where
 | mv (a:O)
 | pick (c a b:O)
 | un (op:UnOp) (a:O)
 | bin (op:BinOp) (a b:O)
 | eqb (neg:Bool) (a b:O)
 | eqf (neg:Bool) (ks:List BK) (a b:O)
 | build (zero:List Value) (parts:List (Nat×Nat×O))
 | field (off:Nat) (sz:Option Nat) (a:O)
 | extract (i:Nat) (a:O)
 | idxS (a i:O)
 | idxA (len esz:Nat) (sz:Option Nat) (a i:O)
 | conv (k:IntKind) (a:O)
 | str (a:O)
 | sliceS (a:O) (lo hi:Option O)
 | sliceV (esz:Nat) (a:O) (lo hi mx:Option O)
 | fa (off:Nat) (a:O)
 | ia (esz:Nat) (a i:O)
 | iaA (len esz:Nat) (a i:O)
 | lenS (a:O)
 | lenV (a:O)
 | capV (a:O)
 | mkf (fn:Fn) (first cap:List O)
 | nilc (a:O)
 | minI (a b:O)
 | isNil (neg:Bool) (a:O)
def andI (k:IntKind) (a b:Int):Int:=k.wrap (BitVec.ofInt k.bits a&&&BitVec.ofInt k.bits b).toNat
def orI (k:IntKind) (a b:Int):Int:=k.wrap (BitVec.ofInt k.bits a|||BitVec.ofInt k.bits b).toNat
def xorI (k:IntKind) (a b:Int):Int:=k.wrap (BitVec.ofInt k.bits a^^^BitVec.ofInt k.bits b).toNat
def andNotI (k:IntKind) (a b:Int):Int:=k.wrap (BitVec.ofInt k.bits a &&& ~~~BitVec.ofInt k.bits b).toNat
def shlI (k:IntKind) (a b:Int):Int:=k.wrap (a*2^(min b.toNat k.bits))
def shrI (k:IntKind) (a b:Int):Int:=a.fdiv (2^(min b.toNat k.bits))
def intV (op:BinOp) (k:IntKind) (a b:Int):Option Value:=
 match op with
 | .add=>some (.int k (k.wrap (a+b)))
 | .sub=>some (.int k (k.wrap (a-b)))
 | .mul=>some (.int k (k.wrap (a*b)))
 | .quo=>if b=0 then none else some (.int k (k.wrap (a.tdiv b)))
 | .rem=>if b=0 then none else some (.int k (a.tmod b))
 | .and=>some (.int k (andI k a b))
 | .or=>some (.int k (orI k a b))
 | .xor=>some (.int k (xorI k a b))
 | .andNot=>some (.int k (andNotI k a b))
 | .eql=>some (.bool (decide (a=b)))
 | .neq=>some (.bool (!decide (a=b)))
 | .lss=>some (.bool (decide (a<b)))
 | .leq=>some (.bool (decide (a≤b)))
 | .gtr=>some (.bool (decide (b<a)))
 | .geq=>some (.bool (decide (b≤a)))
 | _=>none
def strV (op:BinOp) (a b:ByteArray):Option Value:=
 match op with
 | .add=>if ((a.size+b.size:Nat):Int) > IntKind.i64.max then none else some (.string (a++b))
 | .eql=>some (.bool (decide (a.data.toList=b.data.toList)))
 | .neq=>some (.bool (!decide (a.data.toList=b.data.toList)))
 | .lss=>some (.bool (Op.bytesLess a.data.toList b.data.toList))
 | _=>none
def binV:BinOp→Value→Value→Option Value
 | .shl,.int k a,.int _ b=>if b<0 then none else some (.int k (shlI k a b))
 | .shr,.int k a,.int _ b=>if b<0 then none else some (.int k (shrI k a b))
 | op,.int k a,.int k' b=>if k=k' then intV op k a b else none
 | op,.string a,.string b=>strV op a b
 | _,_,_=>none
def unV:UnOp→Value→Option Value
 | .neg,.int k n=>some (.int k (k.wrap (0-n)))
 | .not,.bool b=>some (.bool !b)
 | _,_=>none
def eqB:BK→Value→Value→Option Bool
 | .i,.int k a,.int k' b=>if k=k' then some (decide (a=b)) else none
 | .b,.bool a,.bool b=>some (a == b)
 | .s,.string a,.string b=>some (decide (a.data.toList=b.data.toList))
 | _,_,_=>none
def eqL:List BK→List Value→List Value→Option Bool
 | [],[],[]=>some true
 | k::ks,a::l,b::r=>match eqB k a b,eqL ks l r with
  | some x,some y=>some (x&&y)
  | _,_=>none
 | _,_,_=>none
def setC (c:List Value) (off:Nat) (vs:List Value):List Value:=c.take off++vs++c.drop (off+vs.length)
def fillP (e:Env):List Value→List (Nat×Nat×O)→Option (List Value)
 | c,[]=>some c
 | c,(off,sz,o)::r=>match o.get e with
  | some v=>if v.cells.size=sz∧off+sz≤c.length then fillP e (setC c off v.cells.toList) r else none
  | none=>none
def partV (cs:List Value) (off:Nat):Option Nat→Option Value
 | none=>cs[off]?
 | some n=>if off+n≤cs.length then some (.agg ((cs.drop off).take n).toArray) else none
def bndV (d:Nat) (n:Nat):Option (Option Value)→Option Nat
 | none=>some d
 | some (some (.int _ i))=>if 0≤i∧i≤n then some i.toNat else none
 | _=>none
def idxSV:Value→Value→Option Value
 | .string s,.int _ n=>if 0≤n then (s.data[n.toNat]?).map fun b=>.int .u8 b.toNat else none
 | _,_=>none
def sliceSV (x:Value) (lo hi:Option (Option Value)):Option Value:=
 match x with
 | .string s=>match bndV s.size s.size hi with
  | some h=>match bndV 0 h lo with
   | some l=>some (.string (s.extract l h))
   | none=>none
  | none=>none
 | _=>none
def sliceVV (esz:Nat) (x:Value) (lo hi mx:Option (Option Value)):Option Value:=
 match x with
 | .slice p len cap=>match bndV cap cap mx with
  | some m=>match bndV len m hi with
   | some h=>match bndV 0 h lo with
    | some l=>if mx.isSome&&hi.isNone then none else some (.slice (if m=l then p else p.map (·.add (l*esz))) (h-l) (m-l))
    | none=>none
   | none=>none
  | none=>none
 | _=>none
def faV (off:Nat):Value→Option Value
 | .pointer (some p)=>some (.pointer (some (p.add off)))
 | _=>none
def iaV (esz:Nat):Value→Value→Option Value
 | .slice (some p) len _,.int _ n=>if 0≤n∧n<len then some (.pointer (some (p.add (n.toNat*esz)))) else none
 | _,_=>none
def iaAV (len esz:Nat):Value→Value→Option Value
 | .pointer (some p),.int _ n=>if 0≤n∧n<len then some (.pointer (some (p.add (n.toNat*esz)))) else none
 | _,_=>none
def lenSV:Value→Option Value
 | .string s=>some (.int .i64 s.size)
 | _=>none
def lenVV:Value→Option Value
 | .slice _ n _=>some (.int .i64 n)
 | _=>none
def capVV:Value→Option Value
 | .slice _ _ n=>some (.int .i64 n)
 | _=>none
def nilcV:Value→Option Value
 | .pointer (some p)=>some (.pointer (some p))
 | _=>none
def isNilV (neg:Bool):Value→Option Value
 | .slice p _ _=>some (.bool (if neg then p.isSome else p.isNone))
 | _=>none
def PX.ev (e:Env):PX→Option Value
 | .mv a=>a.get e
 | .pick c a b=>match c.get e with
  | some (.bool t)=>if t then a.get e else b.get e
  | _=>none
 | .un op a=>match a.get e with
  | some v=>unV op v
  | none=>none
 | .bin op a b=>match a.get e,b.get e with
  | some x,some y=>binV op x y
  | _,_=>none
 | .eqb neg a b=>match a.get e,b.get e with
  | some (.bool x),some (.bool y)=>some (.bool (if neg then !(x == y) else x == y))
  | _,_=>none
 | .eqf neg ks a b=>match a.get e,b.get e with
  | some (.agg x),some (.agg y)=>(eqL ks x.toList y.toList).map fun r=>.bool (if neg then !r else r)
  | _,_=>none
 | .build zero parts=>(fillP e zero parts).map fun l=>.agg l.toArray
 | .field off sz a=>match a.get e with
  | some (.agg c)=>partV c.toList off sz
  | _=>none
 | .extract i a=>match a.get e with
  | some (.tuple vs)=>vs[i]?
  | _=>none
 | .idxS a i=>match a.get e,i.get e with
  | some x,some y=>idxSV x y
  | _,_=>none
 | .idxA len esz sz a i=>match a.get e,i.get e with
  | some (.agg c),some (.int _ n)=>if 0≤n∧n<len then partV c.toList (n.toNat*esz) sz else none
  | _,_=>none
 | .conv k a=>match a.get e with
  | some (.int _ n)=>some (.int k (k.wrap n))
  | _=>none
 | .str a=>match a.get e with
  | some (.string s)=>some (.string s)
  | _=>none
 | .sliceS a lo hi=>match a.get e with
  | some x=>sliceSV x (lo.map (·.get e)) (hi.map (·.get e))
  | none=>none
 | .sliceV esz a lo hi mx=>match a.get e with
  | some x=>sliceVV esz x (lo.map (·.get e)) (hi.map (·.get e)) (mx.map (·.get e))
  | none=>none
 | .fa off a=>match a.get e with
  | some x=>faV off x
  | none=>none
 | .ia esz a i=>match a.get e,i.get e with
  | some x,some y=>iaV esz x y
  | _,_=>none
 | .iaA len esz a i=>match a.get e,i.get e with
  | some x,some y=>iaAV len esz x y
  | _,_=>none
 | .lenS a=>match a.get e with
  | some x=>lenSV x
  | none=>none
 | .lenV a=>match a.get e with
  | some x=>lenVV x
  | none=>none
 | .capV a=>match a.get e with
  | some x=>capVV x
  | none=>none
 | .mkf fn first cap=>match ogets e first,ogets e cap with
  | some x,some y=>some (.func fn x.toArray y.toArray)
  | _,_=>none
 | .nilc a=>match a.get e with
  | some x=>nilcV x
  | none=>none
 | .minI a b=>match a.get e,b.get e with
  | some (.int k x),some (.int k' y)=>if k=k' then some (.int k (if y<x then y else x)) else none
  | _,_=>none
 | .isNil neg a=>match a.get e with
  | some x=>isNilV neg x
  | none=>none
def hcell (h:Heap) (b off:Nat):Option Value:=
 match h b with
 | some (.cells c _ _)=>c[off]?
 | _=>none
def hcells (h:Heap) (b off:Nat):Nat→Option (List Value)
 | 0=>some []
 | n+1=>match hcell h b off,hcells h b (off+1) n with
  | some v,some r=>some (v::r)
  | _,_=>none
def hload (h:Heap) (p:Option Value) (sz:Option Nat):Option Value:=
 match p with
 | some (.pointer (some ⟨b,off,none⟩))=>match sz with
  | none=>hcell h b off
  | some n=>(hcells h b off n).map fun l=>.agg l.toArray
 | _=>none
def hstore (h:Heap) (b off:Nat) (vs:List Value):Option Heap:=
 match h b with
 | some (.cells c el fr)=>if fr=(0,0)∧off+vs.length≤c.size∧vs.all Value.oneCell'=true then some (h.set b (.cells (setC c.toList off vs).toArray el fr)) else none
 | _=>none
def srcV (h:Heap) (esz:Nat):Option Value→Option (Nat×List Value)
 | some (.slice _ 0 _)=>some (0,[])
 | some (.slice (some ⟨b,off,none⟩) n _)=>(hcells h b off (n*esz)).map fun l=>(n,l)
 | some (.string s)=>if esz=1 then some (s.size,s.data.toList.map fun x=>.int .u8 x.toNat) else none
 | _=>none
def reps (n:Nat) (zero:List Value):List Value:=(List.replicate n zero).flatten
inductive AO where
 | o (x:O)
 | p (n:Nat) (i:Nat)
 | z (x:O) (bytes:Nat) (zero:List Value)
def AO.src (h:Heap) (e:Env) (esz:Nat):AO→Option (Nat×List Value)
 | .o x=>srcV h esz (x.get e)
 | .p n i=>match eget e i with
  | some (.agg c)=>if c.size=n*esz then some (n,c.toList) else none
  | _=>none
 | .z x bytes zero=>match x.get e with
  | some (.int _ n)=>if 0≤n∧n<2^62∧n.toNat*bytes≤2^48∧zero.length=esz then some (n.toNat,reps n.toNat zero) else none
  | _=>none
inductive EX where
 | store (sz:Nat) (a x:O)
 | alloc (x:O)
 | mks (bytes esz:Nat) (zero:List Value) (len cap:O)
 | bls (esz len:Nat) (zero:List Value) (parts:List (Nat×Nat×O))
 | app (bytes esz:Nat) (zero:List Value) (a b:AO)
 | copy (esz:Nat) (a b:O)
 | call (f:FuncId) (args:List O)
 | callv (f:O) (args:List O)
 | mkm
 | mget (kt:KT) (zero:Value) (ok:Bool) (m k:O)
 | mput (kt:KT) (m k x:O)
 | mlen (m:O)
 | bstr (a:O)
def keyEq:KT→Value→Value→Option Bool
 | .many ks,.agg a,.agg b=>eqL ks a.toList b.toList
 | .one k,a,b=>eqB k a b
 | _,_,_=>none
def mfind (kt:KT) (k:Value):List MapEntry→Nat→Option (Option (Nat×Value))
 | [],_=>some none
 | x::l,i=>match keyEq kt k x.key with
  | some true=>some (some (i,x.val))
  | some false=>mfind kt k l (i+1)
  | none=>none
structure Frm (h:Heap) (w:World) (h':Heap) (w':World):Prop where
 tape:w'.tape=w.tape
 os:w'.os=w.os
 output:w'.output=w.output
 size:w.heap.size≤w'.heap.size
 keep:∀b,b<w.heap.size→h b=none→w'.heap[b]? = w.heap[b]?
 fresh:∀b,b<w.heap.size→h b=none→h' b=none
def Landed (P:Program) (r:Result Next) (R:Ending→World→Prop):Prop:=
 match r with
 | .ok (.enter f as) w=>Calls P f as w R
 | .ok (.value v) w=>R (.returned v) w
 | _=>False
def Heap.le (h h':Heap):Prop:=∀b o,h b=some o→h' b=some o
def Fgt (k:Env→Heap→Prop) (e:Env) (h:Heap):Prop:=∃h',h'.le h∧k e h'
def CallE (P:Program) (f:FuncId) (args:List Value) (h:Heap) (Q:Value→Heap→Prop):Prop:=
 ∀w,h.sub w→Landed P ((callFunc f args.toArray).run P w) fun e w'=>∃v h',e=.returned v∧Q v h'∧h'.sub w'∧Frm h w h' w'
def EX.wp (P:Program) (e:Env) (h:Heap) (k:Value→Heap→Prop):EX→Prop
 | .store sz a x=>∃b off v h',a.get e=some (.pointer (some ⟨b,off,none⟩))∧x.get e=some v∧v.cells.size=sz∧hstore h b off v.cells.toList=some h'∧k undef h'
 | .alloc x=>∃v,x.get e=some v∧∀b el,h b=none→k (.pointer (some ⟨b,0,none⟩)) (h.set b (.cells v.cells el (0,0)))
 | .mks bytes _ zero len cap=>∃l c:Nat,∃j j',len.get e=some (.int j l)∧cap.get e=some (.int j' c)∧l≤c∧c<2^62∧bytes*c≤2^48 ∧
   ∀b el,h b=none→k (.slice (some ⟨b,0,none⟩) l c) (h.set b (.cells (reps c zero).toArray el (0,0)))
 | .bls _ len zero parts=>∃cs,fillP e (reps len zero) parts=some cs∧∀b el,h b=none→k (.slice (some ⟨b,0,none⟩) len len) (h.set b (.cells cs.toArray el (0,0)))
 | .app bytes esz zero a b=>∃n cs,b.src h e esz=some (n,cs) ∧
   match a with
   | .o x=>∃p len cap,x.get e=some (.slice p len cap) ∧
     (len+n≤cap→match p with
      | none=>cs=[]∧k (.slice none (len+n) cap) h
      | some ⟨b',off,none⟩=>(cs=[]∧k (.slice p (len+n) cap) h)∨∃h',hstore h b' (off+len*esz) cs=some h'∧k (.slice p (len+n) cap) h'
      | _=>False) ∧
     (cap<len+n→∃m old,srcV h esz (some (.slice p len cap))=some (m,old)∧Builtin.nextslicecap (len+n) cap*bytes≤2^48∧len+n<2^62 ∧
      ∀b' el c,h b'=none→len+n≤c→k (.slice (some ⟨b',0,none⟩) (len+n) c) (h.set b' (.cells (old++cs++reps (c-(len+n)) zero).toArray el (0,0))))
   | .p m i=>m=0∧(∃c,eget e i=some (.agg c))∧(n=0→∀b,k (.slice (some ⟨b,0,none⟩) 0 0) h) ∧
     (0<n→Builtin.nextslicecap n 0*bytes≤2^48∧n<2^62 ∧
      ∀b' el c,h b'=none→n≤c→k (.slice (some ⟨b',0,none⟩) n c) (h.set b' (.cells (cs++reps (c-n) zero).toArray el (0,0))))
   | .z _ _ _=>False
 | .copy esz a b=>∃p n m cap cs,a.get e=some (.slice p n cap)∧srcV h esz (b.get e)=some (m,cs) ∧
   match p with
   | none=>k (.int .i64 (min m n:Nat)) h
   | some ⟨b',off,none⟩=>∃h',hstore h b' off (cs.take (min m n*esz))=some h'∧k (.int .i64 (min m n:Nat)) h'
   | _=>False
 | .call f args=>∃vs,ogets e args=some vs∧CallE P f vs h k
 | .callv fo args=>∃f first cap vs,fo.get e=some (.func (.func f) first cap)∧ogets e args=some vs∧CallE P f (first.toList++vs++cap.toList) h k
 | .mkm=>∀b,h b=none→k (.map (some b)) (h.set b (.map #[] 0))
 | .mget kt zero ok m x=>∃b es clock kv r,m.get e=some (.map (some b))∧h b=some (.map es clock)∧x.get e=some kv∧(keyEq kt kv kv).isSome=true∧mfind kt kv es.toList 0=some r ∧
   k (let (v,t):=match r with | some (_,v)=>(v,true) | none=>(zero,false)
      if ok then .tuple #[v,.bool t] else v) h
 | .mput kt m x y=>∃b es clock kv v r,m.get e=some (.map (some b))∧h b=some (.map es clock)∧x.get e=some kv∧y.get e=some v∧(keyEq kt kv kv).isSome=true∧mfind kt kv es.toList 0=some r ∧
   match r with
   | some (i,_)=>∀kk,k undef (h.set b (.map (es.modify i fun z=>{ z with key:=kk,val:=v }) clock))
   | none=>k undef (h.set b (.map (es.push { key:=kv,val:=v,born:=clock }) (clock+1)))
 | .mlen m=>∃b es clock,m.get e=some (.map (some b))∧h b=some (.map es clock)∧k (.int .i64 es.size) h
 | .bstr a=>∃b off n cap,∃l:List UInt8,a.get e=some (.slice (some ⟨b,off,none⟩) n cap)∧hcells h b off n=some (l.map fun x=>.int .u8 x.toNat)∧k (.string ⟨l.toArray⟩) h
abbrev Guard:=Option (O×Bool)
def gcond (e:Env):Guard→Option Bool
 | none=>some true
 | some (o,w)=>match o.get e with
  | some (.bool b)=>some (b == w)
  | some _=>some false
  | none=>none
inductive A where
 | px (d:Option Nat) (x:PX)
 | ld (d:Option Nat) (a:O) (sz:Option Nat)
 | ex (d:Option Nat) (x:EX)
 | pnew (i:Nat) (x:O) (cl:List Nat)
 | pget (d:Option Nat) (c:Option Nat) (i off:Nat) (sz:Option Nat)
 | pset (c:Option Nat) (i off sz:Nat) (x:O)
 | als (d:Nat) (c:Option Nat) (i:Nat)
 | psl (d:Nat) (zero:List Value) (parts:List (Nat×Nat×O))
def dput (d:Option Nat) (v:Option Value) (e:Env):Env:=
 match d with
 | some i=>eset e i v
 | none=>e
def gval (b:Bool) (v:Option Value):Option Value:=if b then v else some undef
def pgetV (v:Option Value) (off:Nat) (sz:Option Nat):Option Value:=
 match v with
 | some v=>match sz with
  | some n=>if off=0∧v.cells.size=n then some (.agg v.cells) else partV v.cells.toList off (some n)
  | none=>v.cells.toList[off]?
 | none=>none
def psetV (v:Option Value) (off sz:Nat) (x:Option Value):Option Value:=
 match v,x with
 | some v,some x=>
  if x.cells.size=sz∧off+sz≤v.cells.size∧x.cells.toList.all Value.oneCell'=true then
   match v with
   | .agg c=>some (if off=0∧sz=c.size then .agg x.cells else .agg (setC c.toList off x.cells.toList).toArray)
   | _=>if sz=1 then x.cells[0]? else none
  else none
 | _,_=>none
def aok (e:Env):Option Nat→Bool
 | none=>true
 | some p=>match eget e p with
  | some (.bool b)=>b
  | _=>false
def pgetC (e:Env) (c:Option Nat) (i off:Nat) (sz:Option Nat):Option Value:=if aok e c then pgetV (eget e i) off sz else none
def A.wp (P:Program) (k:Env→Heap→Prop) (e:Env) (h:Heap):A→Prop
 | .px d x=>∃v,x.ev e=some v∧k (dput d (some v) e) h
 | .ld d a sz=>∃v,hload h (a.get e) sz=some v∧k (dput d (some v) e) h
 | .ex d x=>x.wp P e h fun v h'=>Fgt k (dput d (some v) e) h'
 | .pnew i x cl=>∃v,x.get e=some v∧k (efgt (eset e i (some v)) cl) h
 | .pget d c i off sz=>∃v,pgetC e c i off sz=some v∧k (dput d (some v) e) h
 | .pset c i off sz x=>aok e c=true∧∃v,psetV (eget e i) off sz (x.get e)=some v∧k (eset e i (some v)) h
 | .als d c i=>aok e c=true∧(eget e i).isSome=true∧k (eset e d (some (.bool true))) h
 | .psl d zero parts=>∃cs,fillP e zero parts=some cs∧k (eset e d (some (.agg cs.toArray))) h
def A.val (e:Env) (h:Heap):A→Option (Option Nat×Option Value)
 | .px d x=>some (d,x.ev e)
 | .ld d a sz=>some (d,hload h (a.get e) sz)
 | .pget d c i off sz=>some (d,pgetC e c i off sz)
 | _=>none
def A.dst:A→Option Nat
 | .px d _ | .ld d _ _ | .ex d _ | .pget d _ _ _ _=>d
 | .als d _ _ | .psl d _ _=>some d
 | _=>none
inductive S where
 | act (g:Guard) (x:A)
 | re (d:Nat) (a:O) (sz:Option Nat) (g:Guard)
 | ext (n m:Nat)
def S.wp (P:Program) (k:Env→Heap→Prop) (e:Env) (h:Heap):S→Prop
 | .act none x=>x.wp P k e h
 | .act (some g) x=>∃b,gcond e (some g)=some b∧match x.val e h with
  | some (d,v)=>(b=true→v.isSome=true)∧k (dput d (gval b v) e) h
  | none=>(b=true→x.wp P k e h)∧(b=false→k (dput x.dst (some undef) e) h)
 | .re d a sz none=>hload h (a.get e) sz=eget e d∧k e h
 | .re d a sz (some g)=>∃b,gcond e (some g)=some b∧(b=true→hload h (a.get e) sz=eget e d)∧k e h
 | .ext n m=>k (eext n m e) h
inductive Pl where
 | done
 | st (s:S) (next:Pl)
 | both (a b:Pl)
def Pl.wp (P:Program) (k:Env→Heap→Prop):Pl→Env→Heap→Prop
 | .done,e,h=>k e h
 | .st s n,e,h=>s.wp P (n.wp P k) e h
 | .both a b,e,h=>a.wp P k e h∧b.wp P k e h
inductive Ex where
 | nrm
 | exit (id:Nat)
 | ret
inductive C where
 | skip
 | pl (p:Pl)
 | seq (a b:C)
 | cond (n:Nat) (o:O) (a b:C)
 | block (id:Nat) (a:C)
 | loop (n:Nat) (fg:List Nat) (a:C)
 | exit (id:Nat)
 | ret
def C.wp (P:Program):C→(Ex→Env→Heap→Prop)→Env→Heap→Prop
 | .skip,Q,e,h=>Q .nrm e h
 | .pl p,Q,e,h=>p.wp P (Q .nrm) e h
 | .seq a b,Q,e,h=>a.wp P (fun x e' h'=>match x with
   | .nrm=>b.wp P Q e' h'
   | x=>Q x e' h') e h
 | .cond n o a b,Q,e,h=>∃t,o.get e=some (.bool t)∧(t=true→a.wp P Q (e.take n) h)∧(t=false→b.wp P Q (e.take n) h)
 | .block id a,Q,e,h=>a.wp P (fun x e' h'=>match x with
   | .exit i=>if i=id then Q .nrm e' h' else Q (.exit i) e' h'
   | x=>Q x e' h') e h
 | .loop n fg a,Q,e,h=>∃I:Nat→Env→Heap→Prop,(∃m,I m (efgt (e.take n) fg) h) ∧
   ∀m e h,I m e h→a.wp P (fun x e' h'=>match x with
    | .nrm=>∃m',m'<m∧I m' (efgt (e'.take n) fg) h'
    | x=>Q x e' h') e h
 | .exit id,Q,e,h=>Q (.exit id) e h
 | .ret,Q,e,h=>Q .ret e h
inductive Knd where
 | pl
 | bx
 | al (i off:Nat)
 | ps (n:Nat)
abbrev Lay:=List (Nat×Knd)
def lfindFrom (t:Nat):Lay→Nat→Option (Nat×Knd)
 | [],_=>none
 | (u,k)::r,i=>if u=t then some (i,k) else lfindFrom t r (i+1)
def lfind (lay:Lay) (t:Nat):Option (Nat×Knd):=lfindFrom t lay 0
def plainAt (lay:Lay) (t:Nat):Option Nat:=
 match lfind lay t with
 | some (i,.pl)=>some i
 | _=>none
def opr (lay:Lay):Operand→Option O
 | .tmp t=>(plainAt lay t).map .v
 | .const v=>some (.c v)
 | .global g=>some (.c (.pointer (some ⟨g,0,none⟩)))
 | .func f=>some (.c (.func (.func f) #[] #[]))
def oprs (lay:Lay):List Operand→Option (List O)
 | []=>some []
 | x::l=>match opr lay x,oprs lay l with
  | some o,some r=>some (o::r)
  | _,_=>none
def oprO (lay:Lay):Option Operand→Option (Option O)
 | none=>some none
 | some x=>(opr lay x).map some
def szT (P:Program) (t:TypeId):Option (Option Nat):=
 match P.underlying t,P.info? t with
 | some (.struct _),some i=>some (some i.size)
 | some (.array _ _),some i=>some (some i.size)
 | some _,some _=>some none
 | _,_=>none
def basicT (P:Program) (t:TypeId):Option BK:=
 match P.underlying t with
 | some (.int _)=>some .i
 | some .bool=>some .b
 | some .string=>some .s
 | _=>none
def flatFields (P:Program):List Field→Nat→Option (List BK)
 | [],_=>some []
 | f::r,i=>match basicT P f.type,flatFields P r (i+1) with
  | some k,some l=>if f.offset=i∧f.name≠"_" then some (k::l) else none
  | _,_=>none
def flatT (P:Program) (t:TypeId):Option (List BK):=
 match P.underlying t with
 | some (.struct fs)=>if !P.stoodInHeld t && !P.eqGuardType P.depth t then flatFields P fs.toList 0 else none
 | _=>none
def keyT (P:Program) (t:TypeId):Option KT:=
 match basicT P t with
 | some k=>some (.one k)
 | none=>(flatT P t).map .many
def placesOf (P:Program):List Field→Option (List (Nat×Nat))
 | []=>some []
 | f::r=>match P.info? f.type,placesOf P r with
  | some i,some l=>some ((f.offset,i.size)::l)
  | _,_=>none
def partsAt (lay:Lay) (place:Nat→Option (Nat×Nat)):List (Nat×Operand)→Option (List (Nat×Nat×O))
 | []=>some []
 | (i,x)::r=>match place i,opr lay x,partsAt lay place r with
  | some (off,sz),some o,some l=>some ((off,sz,o)::l)
  | _,_,_=>none
def zeroT (P:Program) (t:TypeId):Option Value:=(P.info? t).bind (·.zero)
def cpx (P:Program) (lay:Lay):Op→Option PX
 | .move x=>(opr lay x).map .mv
 | .assign x=>(opr lay x).map .mv
 | .pick c a b=>match opr lay c,opr lay a,opr lay b with
  | some c,some a,some b=>some (.pick c a b)
  | _,_,_=>none
 | .unOp op _ x=>(opr lay x).map (.un op)
 | .binOp op t x y _=>match P.underlying t,opr lay x,opr lay y with
  | some (.int _),some a,some b=>some (.bin op a b)
  | some .string,some a,some b=>some (.bin op a b)
  | some (.slice _),some a,some _=>match op,y with
   | .eql,.const (.slice none 0 0)=>some (.isNil false a)
   | .neq,.const (.slice none 0 0)=>some (.isNil true a)
   | _,_=>none
  | some .bool,some a,some b=>match op with
   | .eql=>some (.eqb false a b)
   | .neq=>some (.eqb true a b)
   | _=>none
  | some (.struct _),some a,some b=>match flatT P t,op with
   | some n,.eql=>some (.eqf false n a b)
   | some n,.neq=>some (.eqf true n a b)
   | _,_=>none
  | _,_,_=>none
 | .build t ps=>match P.underlying t,zeroT P t with
  | some (.struct fs),some z=>match placesOf P fs.toList with
   | some pl=>(partsAt lay (fun i=>pl[i]?) ps.toList).map (.build z.cells.toList)
   | none=>none
  | some (.array _ el),some z=>match P.info? el with
   | some i=>(partsAt lay (fun j=>some (j*i.size,i.size)) ps.toList).map (.build z.cells.toList)
   | none=>none
  | _,_=>none
 | .field t x f=>match P.underlying t,opr lay x with
  | some (.struct fs),some a=>match fs[f]? with
   | some fd=>(szT P fd.type).map fun s=>.field fd.offset s a
   | none=>none
  | _,_=>none
 | .extract x i=>(opr lay x).map (.extract i)
 | .index t x i=>match P.underlying t,opr lay x,opr lay i with
  | some .string,some a,some j=>some (.idxS a j)
  | some (.array n el),some a,some j=>match P.info? el,szT P el with
   | some inf,some s=>some (.idxA n inf.size s a j)
   | _,_=>none
  | _,_,_=>none
 | .convert src dst x=>match P.underlying src,P.underlying dst,opr lay x with
  | some (.int _),some (.int k),some a=>some (.conv k a)
  | some .string,some .string,some a=>some (.str a)
  | _,_,_=>none
 | .slice t x lo hi mx=>match P.underlying t,opr lay x,oprO lay lo,oprO lay hi,oprO lay mx with
  | some .string,some a,some l,some h,some none=>some (.sliceS a l h)
  | some (.slice el),some a,some l,some h,some m=>(P.info? el).map fun i=>.sliceV i.size a l h m
  | _,_,_,_,_=>none
 | .fieldAddr t x f=>match P.underlying t,opr lay x with
  | some (.struct fs),some a=>match fs[f]? with
   | some fd=>match P.info? fd.type with
    | some i=>if i.size=0 then none else some (.fa fd.offset a)
    | none=>none
   | none=>none
  | _,_=>none
 | .indexAddr t x i=>match P.underlying t,opr lay x,opr lay i with
  | some (.slice el),some a,some j=>(P.info? el).map fun inf=>.ia inf.size a j
  | some (.array n el),some a,some j=>(P.info? el).map fun inf=>.iaA n inf.size a j
  | _,_,_=>none
 | .makeFunc fn first cap=>match oprs lay first.toList,oprs lay cap.toList with
  | some a,some b=>some (.mkf fn a b)
  | _,_=>none
 | .nilCheck x=>(opr lay x).map .nilc
 | .call c=>match c.callee with
  | .builtin .len=>match c.argTypes.toList,c.args.toList with
   | [t],[x]=>match P.underlying t,opr lay x with
    | some .string,some a=>some (.lenS a)
    | some (.slice _),some a=>some (.lenV a)
    | _,_=>none
   | _,_=>none
  | .builtin .cap=>match c.argTypes.toList,c.args.toList with
   | [t],[x]=>match P.underlying t,opr lay x with
    | some (.slice _),some a=>some (.capV a)
    | _,_=>none
   | _,_=>none
  | .builtin .min=>match c.args.toList with
   | [x,y]=>match opr lay x,opr lay y with
    | some a,some b=>some (.minI a b)
    | _,_=>none
   | _=>none
  | _=>none
 | _=>none
def appO (lay:Lay):Operand→Option AO
 | .tmp t=>match lfind lay t with
  | some (i,.pl)=>some (.o (.v i))
  | some (i,.ps n)=>some (.p n i)
  | _=>none
 | x=>(opr lay x).map .o
def blsOf (P:Program) (lay:Lay) (t:TypeId) (len:Nat) (ps:Array (Nat×Operand)):Option (Nat×List Value×List (Nat×Nat×O)):=
 match P.underlying t with
 | some (.slice el)=>match P.info? el with
  | some i=>match i.zero with
   | some z=>if len*i.size≤2^24∧z.cells.size=i.size∧0<i.size then
     (partsAt lay (fun j=>some (j*i.size,i.size)) ps.toList).map fun l=>(i.size,z.cells.toList,l)
    else none
   | none=>none
  | none=>none
 | _=>none
def elemOf (P:Program) (t:TypeId):Option (Nat×Nat×List Value):=
 match P.underlying t with
 | some (.slice el)=>match P.info? el with
  | some i=>match i.zero with
   | some z=>if z.cells.size=i.size∧0<i.size then some (i.bytes,i.size,z.cells.toList) else none
   | none=>none
  | none=>none
 | _=>none
def srcOk (P:Program) (t:TypeId) (esz:Nat):Bool:=
 match P.underlying t with
 | some (.slice _)=>true
 | some .string=>esz == 1
 | _=>false
def intOk (P:Program) (t:TypeId):Bool:=
 match P.underlying t with
 | some (.int _)=>true
 | _=>false
def cex (P:Program) (lay:Lay):Op→Option EX
 | .store t a x=>match opr lay a,opr lay x,P.info? t with
  | some a,some x,some i=>some (.store i.size a x)
  | _,_,_=>none
 | .alloc t=>(zeroT P t).map fun z=>.alloc (.c z)
 | .box _ x=>(opr lay x).map .alloc
 | .makeSlice t l c=>match elemOf P t,opr lay l,opr lay c with
  | some (by_,sz,z),some l,some c=>some (.mks by_ sz z l c)
  | _,_,_=>none
 | .buildSlice t len ps=>(blsOf P lay t len ps).map fun (sz,z,l)=>.bls sz len z l
 | .convert src dst x=>match P.underlying src,P.underlying dst,opr lay x with
  | some (.slice el),some .string,some a=>match P.underlying el with
   | some (.int .u8)=>some (.bstr a)
   | _=>none
  | _,_,_=>none
 | .makeMap _ r=>match r with
  | none=>some .mkm
  | some _=>none
 | .lookup t m x ok=>match P.underlying t,opr lay m,opr lay x with
  | some (.map kt el),some m,some x=>match zeroT P el,keyT P kt with
   | some z,some kt=>some (.mget kt z ok m x)
   | _,_=>none
  | _,_,_=>none
 | .mapUpdate t m x y=>match P.underlying t,opr lay m,opr lay x,opr lay y with
  | some (.map kt _),some m,some x,some y=>(keyT P kt).map fun kt=>.mput kt m x y
  | _,_,_,_=>none
 | .call c=>match c.callee with
  | .builtin .append=>match c.argTypes.toList,c.args.toList with
   | [t,u],[x,y]=>match elemOf P t,appO lay x,appO lay y with
    | some (by_,sz,z),some a,some b=>if srcOk P u sz then some (.app by_ sz z a b) else if intOk P u then (opr lay y).map (fun o=>.app by_ sz z a (.z o by_ z)) else none
    | _,_,_=>none
   | _,_=>none
  | .builtin .copy=>match c.argTypes.toList,c.args.toList with
   | [t,u],[x,y]=>match elemOf P t,opr lay x,opr lay y with
    | some (_,sz,_),some a,some b=>if srcOk P u sz then some (.copy sz a b) else none
    | _,_,_=>none
   | _,_=>none
  | .builtin .len=>match c.argTypes.toList,c.args.toList with
   | [t],[x]=>match P.underlying t,opr lay x with
    | some (.map _ _),some a=>some (.mlen a)
    | _,_=>none
   | _,_=>none
  | .value (.func f)=>(oprs lay c.args.toList).map (.call f)
  | .value (.tmp t)=>match opr lay (.tmp t),oprs lay c.args.toList with
   | some f,some l=>some (.callv f l)
   | _,_=>none
  | _=>none
 | _=>none
def priv (lay:Lay):Operand→Option (Option Nat×Nat×Nat)
 | .tmp t=>match lfind lay t with
  | some (i,.bx)=>some (none,i,0)
  | some (p,.al i off)=>match lay[i]? with
   | some (_,.bx)=>some (some p,i,off)
   | _=>none
  | _=>none
 | _=>none
def fieldOff (P:Program) (t:TypeId) (f:Nat):Option Nat:=
 match P.underlying t with
 | some (.struct fs)=>match fs[f]? with
  | some fd=>match P.info? fd.type with
   | some i=>if i.size=0 then none else some fd.offset
   | none=>none
  | none=>none
 | _=>none
def stuckA:A:=.px none (.extract 0 (.c undef))
def stuckS (g:Guard):S:=.act g stuckA
def cdst (lay:Lay):Option Tmp→Option (Option Nat)
 | none=>some none
 | some t=>(plainAt lay t).map some
def guardOf (lay:Lay) (ops:Array Oper):Option (Nat×Bool)→Option Guard
 | none=>some none
 | some (j,w)=>match (ops[j]?).bind (·.dst) with
  | some t=>(plainAt lay t).map fun i=>some (.v i,w)
  | none=>none
def aliasesOf:Lay→Nat→Nat→List Nat
 | [],_,_=>[]
 | (_,.al j _)::r,i,p=>if j=i then p::aliasesOf r i (p+1) else aliasesOf r i (p+1)
 | _::r,i,p=>aliasesOf r i (p+1)
def cprv (P:Program) (lay:Lay) (g:Guard) (o:Oper):Option A:=
 match o.op with
 | .alloc t=>match o.dst.bind (lfind lay),zeroT P t,g with
  | some (i,.bx),some z,none=>some (.pnew i (.c z) (aliasesOf lay i 0))
  | _,_,_=>none
 | .box _ x=>match o.dst.bind (lfind lay),opr lay x,g with
  | some (i,.bx),some a,none=>some (.pnew i a (aliasesOf lay i 0))
  | _,_,_=>none
 | .move x=>match priv lay x,o.dst.bind (lfind lay) with
  | some (c,i,off),some (d,.al i' off')=>if i=i'∧off=off' then some (.als d c i) else none
  | _,_=>none
 | .nilCheck x=>match priv lay x,o.dst.bind (lfind lay) with
  | some (c,i,off),some (d,.al i' off')=>if i=i'∧off=off' then some (.als d c i) else none
  | _,_=>none
 | .fieldAddr t x f=>match priv lay x,fieldOff P t f,o.dst.bind (lfind lay) with
  | some (c,i,off),some fo,some (d,.al i' off')=>if i=i'∧off+fo=off' then some (.als d c i) else none
  | _,_,_=>none
 | .load t a=>match priv lay a,szT P t,cdst lay o.dst with
  | some (c,i,off),some s,some d=>some (.pget d c i off s)
  | _,_,_=>none
 | .store t a x=>match priv lay a,opr lay x,P.info? t,o.dst with
  | some (c,i,off),some x,some inf,none=>some (.pset c i off inf.size x)
  | _,_,_,_=>none
 | .buildSlice t len ps=>match o.dst.bind (lfind lay),blsOf P lay t len ps,g with
  | some (i,.ps n),some (_,z,l),none=>if n=len∧aliasesOf lay i 0=[] then some (.psl i (reps len z) l) else none
  | _,_,_=>none
 | _=>none
def cact (P:Program) (lay:Lay) (g:Guard) (o:Oper):Option A:=
 match cprv P lay g o with
 | some s=>some s
 | none=>match cdst lay o.dst with
  | none=>none
  | some d=>match o.op with
   | .load t a=>match opr lay a,szT P t with
    | some a,some s=>some (.ld d a s)
    | _,_=>none
   | op=>match cpx P lay op with
    | some x=>some (.px d x)
    | none=>match cex P lay op with
     | some x=>some (.ex d x)
     | none=>none
def cop (P:Program) (lay:Lay) (ops:Array Oper) (o:Oper):S:=
 match guardOf lay ops o.guard with
 | none=>stuckS none
 | some g=>match cact P lay g o with
  | none=>stuckS none
  | some x=>.act g x
def usesOf (t:Nat) (op:Op):Bool:=op.operands.any fun | .tmp u=>u == t | _=>false
def appOnly (ops:Array Oper) (t len:Nat):Bool:=
 ops.all fun o=>!usesOf t o.op||(match o.op with
  | .call c=>match c.callee,c.args.toList with
   | .builtin .append,[.tmp x,.tmp y]=>(x != t||(len == 0&&y != t))&&o.guard.isNone
   | .builtin .append,[.tmp x,_]=>x == t&&len == 0&&o.guard.isNone
   | .builtin .append,[_,.tmp _]=>o.guard.isNone
   | _,_=>false
  | _=>false)||false
def kndOf (P:Program) (lay:Lay) (ops:Array Oper) (t:Nat) (o:Oper):Knd:=
 match o.op with
 | .move x | .nilCheck x=>match priv lay x with
  | some (_,i,off)=>.al i off
  | none=>.pl
 | .fieldAddr ty x f=>match priv lay x,fieldOff P ty f with
  | some (_,i,off),some fo=>.al i (off+fo)
  | _,_=>.pl
 | .buildSlice _ len _=>if o.guard.isNone&&appOnly ops t len then .ps len else .pl
 | _=>.pl
def layOf (P:Program) (ops:Array Oper):Lay→List Oper→Lay
 | lay,[]=>lay
 | lay,o::r=>match o.dst with
  | none=>layOf P ops lay r
  | some t=>match lfind lay t with
   | some _=>layOf P ops lay r
   | none=>layOf P ops (lay++[(t,kndOf P lay ops t o)]) r
def seqP (P:Program) (lay:Lay) (ops:Array Oper):List Oper→Pl
 | []=>.done
 | o::r=>.st (cop P lay ops o) (seqP P lay ops r)
def O.rd:O→List Nat
 | .v i=>[i]
 | .c _=>[]
def ords:List O→List Nat
 | []=>[]
 | o::r=>o.rd++ords r
def oordO:Option O→List Nat
 | none=>[]
 | some o=>o.rd
def prds:List (Nat×Nat×O)→List Nat
 | []=>[]
 | (_,_,o)::r=>o.rd++prds r
def PX.rd:PX→List Nat
 | .mv a | .un _ a | .field _ _ a | .extract _ a | .conv _ a | .str a | .fa _ a | .lenS a | .lenV a | .capV a | .nilc a | .isNil _ a=>a.rd
 | .pick c a b=>c.rd++a.rd++b.rd
 | .bin _ a b | .eqb _ a b | .eqf _ _ a b | .idxS a b | .idxA _ _ _ a b | .ia _ a b | .iaA _ _ a b | .minI a b=>a.rd++b.rd
 | .build _ ps=>prds ps
 | .sliceS a l h=>a.rd++oordO l++oordO h
 | .sliceV _ a l h m=>a.rd++oordO l++oordO h++oordO m
 | .mkf _ x y=>ords x++ords y
def A.rd:A→List Nat
 | .px _ x=>x.rd
 | .ld _ a _=>a.rd
 | .pget _ c i _ _=>i::c.toList
 | .als _ c _=>c.toList
 | .psl _ _ ps=>prds ps
 | .pnew _ x _=>x.rd
 | _=>[]
def A.wrp:A→List Nat
 | .px d _ | .ld d _ _ | .pget d _ _ _ _ | .ex d _=>d.toList
 | .als d _ _ | .psl d _ _=>[d]
 | .pnew i _ cl=>i::cl
 | .pset _ _ _ _ _=>[]
def A.cwp:A→List Nat
 | .pset _ i _ _ _=>[i]
 | _=>[]
def A.wkp:A→List Nat
 | .als _ _ i=>[i]
 | _=>[]
def grd:Guard→List Nat
 | none=>[]
 | some (o,_)=>o.rd
def S.rd:S→List Nat
 | .act g x=>grd g++x.rd
 | _=>[]
def S.wr:S→List Nat
 | .act _ x=>x.wrp
 | _=>[]
def S.cw:S→List Nat
 | .act _ x=>x.cwp
 | _=>[]
def S.wk:S→List Nat
 | .act _ x=>x.wkp
 | _=>[]
def isN:S→Bool
 | .act _ (.px ..) | .act _ (.ld ..) | .act _ (.pget ..) | .act _ (.als ..)=>true
 | .act none (.psl ..)=>true
 | .act none (.pnew _ _ [])=>true
 | _=>false
def posOf (lay:Lay) (t:Nat):List Nat:=
 match lfind lay t with
 | some (i,.al j _)=>[i,j]
 | some (i,_)=>[i]
 | none=>[]
def opPos (lay:Lay):List Operand→List Nat
 | []=>[]
 | .tmp t::r=>posOf lay t++opPos lay r
 | _::r=>opPos lay r
def gdPos (lay:Lay) (ops:Array Oper) (o:Oper):List Nat:=
 match o.guard with
 | some (j,_)=>match (ops[j]?).bind (·.dst) with
  | some t=>(plainAt lay t).toList
  | none=>[]
 | none=>[]
def dstPos (lay:Lay) (o:Oper):List Nat:=
 match o.dst with
 | some t=>match lfind lay t with
  | some (i,_)=>[i]
  | none=>[]
 | none=>[]
structure It where
 i:Nat
 s:S
 eff:Bool
 before:Nat
 rd:List Nat
 op:List Nat
 wr:List Nat
 cw:List Nat
 ds:List Nat
def isEff (n:Nat) (s:S):Bool:=!isN s||(match s with
 | .act _ (.px (some d) _) | .act _ (.ld (some d) _ _) | .act _ (.pget (some d) _ _ _ _)=>decide (d<n)
 | _=>false)
def itOf (P:Program) (lay:Lay) (n:Nat) (ops:Array Oper) (b:Array Nat) (i:Nat) (o:Oper):It:=
 let s:=cop P lay ops o
 { i:=i,s:=s,eff:=isEff n s,before:=b.getD i 0,rd:=s.rd,op:=s.wk++opPos lay o.op.operands.toList++gdPos lay ops o,wr:=s.wr++dstPos lay o,cw:=s.cw,ds:=dstPos lay o }
def itsFrom (P:Program) (lay:Lay) (n:Nat) (ops:Array Oper) (b:Array Nat):List Oper→Nat→List It
 | [],_=>[]
 | o::r,i=>itOf P lay n ops b i o::itsFrom P lay n ops b r (i+1)
def readyIt (done:Nat) (ops:Array Oper) (i:Nat):Bool:=
 match ops[i]? with
 | some o=>o.after.all fun e=>!Region.binds .any e||done.testBit e.on
 | none=>false
def freeOf (ops:Array Oper):List It→Nat→List It×Nat
 | [],d=>([],d)
 | x::r,d=>if !x.eff && !d.testBit x.i&&readyIt d ops x.i then
   match freeOf ops r (d|||2^x.i) with
   | (l,d')=>(x::l,d')
  else freeOf ops r d
def stepsP:List It→Pl→Pl
 | [],p=>p
 | x::r,p=>.st x.s (stepsP r p)
def againP (e:It):List It→Pl→Pl
 | [],p=>p
 | x::r,p=>match x.s with
  | .act g (.ld (some d) a sz)=>if e.before.testBit x.i then againP e r p else .st (.re d a sz g) (againP e r p)
  | .act _ (.ld none _ _)=>.st (stuckS none) .done
  | _=>againP e r p
def bothP:List Pl→Pl
 | []=>.done
 | [p]=>p
 | p::r=>.both p (bothP r)
def nodeP (ops:Array Oper) (all:List It) (sub:Nat→List It→Pl) (d:Nat) (past:List It):Pl:=
 let br:=all.filter fun x=>x.eff && !d.testBit x.i&&readyIt d ops x.i
 if all.all (fun x=>x.eff||d.testBit x.i || !readyIt d ops x.i) then
  bothP (br.map fun x=>.st x.s (againP x past (sub (d|||2^x.i) past)))
 else .st (stuckS none) .done
def treeP (ops:Array Oper) (all:List It):Nat→Nat→List It→Pl
 | 0,_,_=>.st (stuckS none) .done
 | fuel+1,done,past=>stepsP (freeOf ops all done).1 (nodeP ops all (treeP ops all fuel) (freeOf ops all done).2 (past++(freeOf ops all done).1))
def effCount:List It→Nat
 | []=>0
 | x::r=>(if x.eff then 1 else 0)+effCount r
def meets (a b:List Nat):List Nat:=a.filter fun x=>b.contains x
def touch (x y:It):List Nat:=meets x.wr (y.rd++y.op++y.wr++y.cw)++meets x.cw (y.rd++y.wr++y.cw)
def pairOk (n:Nat) (x y:It):Bool:=
 if x.i=y.i then (meets x.wr (x.rd++x.op)).all fun p=>x.eff&&decide (p<n)
 else
  (touch x y).isEmpty||y.before.testBit x.i ||
   (x.eff&&((touch x y).all fun p=>decide (p<n))&&x.before.testBit y.i)
def edgesOk (ops:Array Oper) (i:Nat):Bool:=
 match ops[i]? with
 | some o=>o.after.all fun e=>!Region.binds .any e||decide (e.on<i)
 | none=>false
def drawOk (n:Nat) (ops:Array Oper) (its:List It):Bool:=
 its.all (fun x=>edgesOk ops x.i&&(x.wr.all fun p=>x.ds.contains p)&&its.all fun y=>pairOk n x y)
def beforeOf:List Oper→List Nat→List Nat
 | [],acc=>acc
 | o::r,acc=>beforeOf r (acc++[o.after.foldl (fun s e=>if Region.binds .any e then s|||2^e.on|||acc.getD e.on 0 else s) 0])
def skind:S→Nat
 | .act none (.px (some _) _)=>1
 | .act none (.ex (some _) (.alloc _))=>2
 | .act none (.ex (some _) (.mks _ _ _ _ _))=>2
 | .act none (.ex none (.store _ _ _))=>3
 | _=>0
def crd:S→List Nat
 | .act none (.px _ x)=>x.rd
 | .act none (.ex _ (.alloc x))=>x.rd
 | .act none (.ex _ (.mks _ _ _ l c))=>l.rd++c.rd
 | .act none (.ex _ (.store _ a x))=>a.rd++x.rd
 | _=>[]
def cwr:S→List Nat
 | .act none (.px d _)=>d.toList
 | .act none (.ex d _)=>d.toList
 | _=>[]
def commB (x y:S):Bool:=skind x != 0&&skind y != 0 && !(skind x == 3&&skind y == 3)&&(meets (cwr x) (crd y++cwr y)).isEmpty&&(meets (cwr y) (crd x)).isEmpty
def behind (ops:Array Oper) (i j:Nat):Bool:=
 match ops[j]? with
 | some o=>o.after.any fun e=>Region.binds .any e&&e.on == i
 | none=>false
def seqOk (ops:Array Oper) (its:List It):Bool:=decide (4<effCount its)&&its.all fun y=>skind y.s != 0&&its.all fun x=>!decide (x.i<y.i)||behind ops x.i y.i||commB x.s y.s
def drawP (P:Program) (lay:Lay) (n:Nat) (ops:Array Oper):Pl:=
 let its:=itsFrom P lay n ops (beforeOf ops.toList []).toArray ops.toList 0
 if P.follows .mixedOrders&&drawOk n ops its then (if seqOk ops its then stepsP its .done else treeP ops its (effCount its+1) 0 []) else .st (stuckS none) .done
structure Hint where
 vars:List (Nat×Bool)
 fg:List (List Nat)
def baseLay (hn:Hint):Lay:=hn.vars.map fun (t,b)=>(t,if b then .bx else .pl)
def distinctN:List Nat→Bool
 | []=>true
 | a::l=>!l.contains a&&distinctN l
def okLay (nt:Nat) (lay:Lay):Bool:=distinctN (lay.map (·.1))&&lay.all fun x=>decide (x.1<nt)
def stuckC:C:=.pl (.st (stuckS none) .done)
def cco (P:Program) (nt:Nat) (base:Lay):Code→Lay→List (List Nat)→C×Lay×List (List Nat)
 | .skip,lay,fg=>(.skip,lay,fg)
 | .region _ ops draw,_,fg=>
  let lay:=layOf P ops base ops.toList
  if okLay nt lay then
   (.pl (.st (.ext base.length (lay.length-base.length)) (if draw then drawP P lay base.length ops else seqP P lay ops ops.toList)),lay,fg)
  else (stuckC,base,fg)
 | .seq a b,lay,fg=>match cco P nt base a lay fg with
  | (a',lay1,fg1)=>match cco P nt base b lay1 fg1 with
   | (b',lay2,fg2)=>(.seq a' b',lay2,fg2)
 | .cond c a b,lay,fg=>match cco P nt base a base fg with
  | (a',_,fg1)=>match cco P nt base b base fg1 with
   | (b',_,fg2)=>match opr lay c with
    | some o=>(.cond base.length o a' b',base,fg2)
    | none=>(stuckC,base,fg2)
 | .block id a,lay,fg=>match cco P nt base a lay fg with
  | (a',_,fg1)=>(.block id a',base,fg1)
 | .loop a,_,fg=>match cco P nt base a base fg.tail with
  | (a',_,fg1)=>(.loop base.length (fg.headD []) a',base,fg1)
 | .exit id,lay,fg=>(.exit id,lay,fg)
 | .ret,lay,fg=>(.ret,lay,fg)
 | .scope _,_,fg | .label _,_,fg | .goto _,_,fg | .refuse _,_,fg | .rangeFunc ..,_,fg=>(stuckC,base,fg)
structure FIR where
 body:C
 size:Nat
 res:List (Nat×Option (Option Nat))
def cres (P:Program) (lay:Lay):List ResultVar→Option (List (Nat×Option (Option Nat)))
 | []=>some []
 | .tmp t::r=>match plainAt lay t,cres P lay r with
  | some i,some l=>some ((i,none)::l)
  | _,_=>none
 | .cell t ty::r=>match lfind lay t,szT P ty,cres P lay r with
  | some (i,.bx),some s,some l=>some ((i,some s)::l)
  | _,_,_=>none
def parsOk:Nat→Nat→List (Nat×Bool)→Bool
 | 0,_,_=>true
 | n+1,i,(t,b)::r=>t == i && !b&&parsOk n (i+1) r
 | _+1,_,[]=>false
def cfun (P:Program) (hn:Hint) (fn:Func):Option FIR:=
 match fn.body,cres P (baseLay hn) fn.results.toList with
 | some c,some r=>
  if parsOk (fn.params.size+fn.nfree) 0 hn.vars&&okLay fn.ntmps (baseLay hn) then
   some { body:=(cco P fn.ntmps (baseLay hn) c (baseLay hn) hn.fg).1,size:=hn.vars.length,res:=r }
  else none
 | _,_=>none
def resV (e:Env):List (Nat×Option (Option Nat))→Option (List Value)
 | []=>some []
 | (i,s)::r=>match (match s with | none=>eget e i | some sz=>pgetV (eget e i) 0 sz),resV e r with
  | some v,some l=>some (v::l)
  | _,_=>none
def tupV:List Value→Value
 | [v]=>v
 | l=>.tuple l.toArray
def env0 (args:List Value) (n:Nat):Env:=args.map some++List.replicate (n-args.length) none
def Ag (lay:Lay) (e:Env) (ρ:Operand→Value) (x:Operand):Prop:=∀o v,opr lay x=some o→o.get e=some v→ρ x=v
theorem beq_dec {α:Type} [BEq α] [LawfulBEq α] [DecidableEq α] (a b:α):(a == b)=decide (a=b):=by
 rw[Bool.eq_iff_iff];simp
theorem setC_cons (c:List Value) (p:Nat) (v:Value) (vs:List Value) (hp:p<c.length):setC (c.set p v) (p+1) vs=setC c p (v::vs):=by
 have h1:(c.set p v).take (p+1)=c.take p++[v]:=by
  rw[List.set_eq_take_append_cons_drop,if_pos hp,List.take_append]
  simp[Nat.min_eq_left (Nat.le_of_lt hp),List.take_take]
 have h2:(c.set p v).drop (p+1+vs.length)=c.drop (p+(vs.length+1)):=by
  rw[List.drop_set_of_lt (by omega)]
  congr 1
  omega
 simp only[setC,h1,h2,List.length_cons,List.append_assoc,List.cons_append,List.nil_append]
section
variable {P:Program}{lay:Lay}{e:Env}{ρ:Operand→Value}
theorem run_typeInfo {t:TypeId}{i:TypeInfo}(h:P.info? t=some i) (w:World):(typeInfo t).run P w=.ok i w:=by
 simp[typeInfo,h]
theorem run_sizeOf {t:TypeId}{i:TypeInfo}(h:P.info? t=some i) (w:World):(sizeOf t).run P w=.ok i.size w:=by
 simp[sizeOf,run_typeInfo h]
theorem run_zeroValue {t:TypeId}{z:Value}(h:zeroT P t=some z) (w:World):(zeroValue t).run P w=.ok z w:=by
 unfold zeroT at h
 cases hi:P.info? t with
 | none=>simp[hi] at h
 | some i=>
  simp[hi] at h
  simp[zeroValue,run_typeInfo hi,h]
theorem szT_spec {t:TypeId}{s:Option Nat}(h:szT P t=some s) :
  match s with
  | some n=>(∀w,(isAgg t).run P w=.ok true w)∧∀w,(sizeOf t).run P w=.ok n w
  | none=>∀w,(isAgg t).run P w=.ok false w:=by
 unfold szT at h
 cases hu:P.underlying t with
 | none=>simp[hu] at h
 | some d=>
  cases hi:P.info? t with
  | none=>cases d<;>simp[hu,hi] at h
  | some i=>
   cases d<;>simp[hu,hi] at h<;>subst h<;>simp[isAgg,run_underlying hu,run_sizeOf hi]
theorem run_part {t:TypeId}{s:Option Nat}(h:szT P t=some s) {cs:Array Value}{off:Nat}{v:Value}(hv:partV cs.toList off s=some v) (w:World) :
  (part t cs off).run P w=.ok v w:=by
 have hs:=szT_spec h
 cases s with
 | none=>
  simp only[partV] at hv
  simp[part,hs w,← Array.getElem?_toList,hv]
 | some n=>
  simp only[partV] at hv
  split at hv
  ·rename_i hle
   simp only[Option.some.injEq] at hv
   subst hv
   simp only[part,Sem.run_bind,hs.1 w,Result.andThen_ok,if_true,hs.2 w,Sem.run_pure]
   congr 2
   apply Array.ext'
   simp[Array.toList_extract,List.extract]
  ·simp at hv
theorem ag_get {x:Operand}(hag:Ag lay e ρ x) {o:O}(ho:opr lay x=some o) {v:Value}(hv:o.get e=some v):ρ x=v:=hag o v ho hv
theorem ogets_spec:∀{l:List Operand}{r:List O}{vs:List Value},oprs lay l=some r→ogets e r=some vs→(∀x∈l,Ag lay e ρ x)→l.map ρ=vs
 | [],r,vs,h,hv,_=>by simp[oprs] at h;subst h;simp[ogets] at hv;simp[hv]
 | x::l,r,vs,h,hv,hag=>by
  simp only[oprs] at h
  split at h
  ·rename_i o r' ho hr
   simp only[Option.some.injEq] at h
   subst h
   simp only[ogets] at hv
   split at hv
   ·rename_i v vs' hv1 hv2
    simp only[Option.some.injEq] at hv
    subst hv
    simp only[List.map_cons]
    rw[ag_get (hag x (by simp)) ho hv1,ogets_spec hr hv2 (fun y hy=>hag y (by simp[hy]))]
   ·simp at hv
  ·simp at h
theorem eqB_run {d:Nat}{t:TypeId}{k:BK}(hb:basicT P t=some k) {a b:Value}{r:Bool}(h:eqB k a b=some r) (w:World):(Op.equalIn (d+1) t a b).run P w=.ok r w:=by
 unfold basicT at hb
 cases hu:P.underlying t with
 | none=>simp[hu] at hb
 | some u=>
  cases u<;>simp[hu] at hb<;>subst hb<;>cases a<;>cases b<;>simp[eqB] at h
  ·rw[run_equalIn_bool' w _ _ _ _ hu];simp[h]
  ·rename_i j n j' n'
   obtain⟨rfl,rfl⟩:=h
   rw[run_equalIn_int w _ _ _ _ _ _ hu]
   simp[beq_dec]
  ·rw[run_equalIn_string w _ _ _ _ hu,ByteArray.toList_eq,ByteArray.toList_eq,← h,beq_dec]
   simp
theorem basicT_agg {t:TypeId}{k:BK}(hb:basicT P t=some k) (w:World):(isAgg t).run P w=.ok false w:=by
 unfold basicT at hb
 cases hu:P.underlying t with
 | none=>simp[hu] at hb
 | some u=>cases u<;>simp[hu] at hb<;>simp[isAgg,run_underlying hu]
theorem eqL_run {d:Nat}{xs ys:Array Value}:∀{fs:List Field}{i:Nat}{ks:List BK}{r:Bool},flatFields P fs i=some ks→eqL ks (xs.toList.drop i) (ys.toList.drop i)=some r→∀w,(Op.eqFields (d+1) xs ys fs).run P w=.ok r w
 | [],i,ks,r,h,he,w=>by
  simp[flatFields] at h
  subst h
  cases hx:xs.toList.drop i<;>cases hy:ys.toList.drop i<;>simp[hx,hy,eqL] at he
  simp[Op.eqFields,he]
 | f::fs,i,ks,r,h,he,w=>by
  simp only[flatFields] at h
  split at h
  ·rename_i k l hk hl
   split at h
   ·rename_i ho
    obtain⟨hoff,hname⟩:=ho
    simp only[Option.some.injEq] at h
    subst h
    cases hx:xs.toList.drop i with
    | nil=>simp[hx,eqL] at he
    | cons a x'=>
     cases hy:ys.toList.drop i with
     | nil=>simp[hx,hy,eqL] at he
     | cons b y'=>
      rw[hx,hy] at he
      simp only[eqL] at he
      split at he
      ·rename_i u v hu hv
       simp only[Option.some.injEq] at he
       have hxa:xs[i]? = some a:=by
        rw[← Array.getElem?_toList,← List.head?_drop,hx];rfl
       have hyb:ys[i]? = some b:=by
        rw[← Array.getElem?_toList,← List.head?_drop,hy];rfl
       have hx':xs.toList.drop (i+1)=x':=by rw[← List.tail_drop,hx];rfl
       have hy':ys.toList.drop (i+1)=y':=by rw[← List.tail_drop,hy];rfl
       have ih:=eqL_run (d:=d) (xs:=xs) (ys:=ys) hl (by rw[hx',hy'];exact hv) w
       have pa:∀w,(part f.type xs f.offset).run P w=.ok a w:=fun w=>by simp[part,basicT_agg hk w,hoff,hxa]
       have pb:∀w,(part f.type ys f.offset).run P w=.ok b w:=fun w=>by simp[part,basicT_agg hk w,hoff,hyb]
       simp only[Op.eqFields,hname,ne_eq,not_false_eq_true,if_true,Sem.run_bind,pa,Result.andThen_ok,pb,eqB_run hk hu,Sem.run_ite]
       cases u<;>simp at he ⊢
       ·exact he
       ·rw[ih,he]
      ·simp at he
   ·simp at h
  ·simp at h
theorem eqf_run {d:Nat}{t:TypeId}{ks:List BK}(h:flatT P t=some ks) {xs ys:Array Value}{r:Bool}(he:eqL ks xs.toList ys.toList=some r) (w:World) :
  (Op.equalIn (d+2) t (.agg xs) (.agg ys)).run P w=.ok r w:=by
 unfold flatT at h
 cases hu:P.underlying t with
 | none=>simp[hu] at h
 | some u=>
  cases u<;>simp[hu] at h
  rename_i fs
  obtain⟨⟨h1,h2⟩,h3⟩:=h
  have hf:P.fieldsOf t=fs:=by simp[Program.fieldsOf,hu]
  rw[run_equalIn_struct w (d+1) t xs ys (by rw[hf];exact hu) h1,hf]
  exact eqL_run h3 (by simpa using he) w
theorem flatT_guard {t:TypeId}{ks:List BK}(h:flatT P t=some ks):P.eqGuardType P.depth t=false:=by
 unfold flatT at h
 cases hu:P.underlying t with
 | none=>simp[hu] at h
 | some u=>
  cases u<;>simp[hu] at h
  exact h.1.2
theorem partsAt_spec {place:Nat→Option (Nat×Nat)}:∀{l:List (Nat×Operand)}{ps:List (Nat×Nat×O)}{cs r:List Value},partsAt lay place l=some ps →
  fillP e cs ps=some r→(∀x∈l,Ag lay e ρ x.2)→Instr.fill place cs.toArray (l.map fun (i,x)=>(i,ρ x))=some r.toArray
 | [],ps,cs,r,h,hf,_=>by
  simp[partsAt] at h;subst h;simp[fillP] at hf;simp[Instr.fill,hf]
 | (i,x)::l,ps,cs,r,h,hf,hag=>by
  simp only[partsAt] at h
  split at h
  ·rename_i off sz o ps' hp ho hps
   simp only[Option.some.injEq] at h
   subst h
   simp only[fillP] at hf
   split at hf
   ·rename_i v hv
    split at hf
    ·rename_i hle
     obtain⟨hsz,hle⟩:=hle
     have hx:ρ x=v:=ag_get (hag (i,x) (by simp)) ho hv
     have ih:=partsAt_spec hps hf (fun y hy=>hag y (by simp[hy]))
     simp only[List.map_cons,Instr.fill,hp,hx]
     rw[if_neg (by simp[hsz];omega)]
     rw[← ih]
     congr 1
     -- one value's cells
     have key:∀(vs:List Value) (j:Nat) (c:List Value),off+j+vs.length≤c.length →
       (vs.zipIdx j).foldl (fun (cs:Array Value) (p:Value×Nat)=>cs.setIfInBounds (off+p.2) p.1) c.toArray=(setC c (off+j) vs).toArray:=by
      intro vs
      induction vs with
      | nil=>intro j c _;simp[setC]
      | cons v vs ih=>
       intro j c hc
       simp only[List.length_cons] at hc
       simp only[List.zipIdx_cons,List.foldl_cons,List.setIfInBounds_toArray]
       rw[ih (j+1) (c.set (off+j) v) (by simp;omega)]
       rw[show off+(j+1)=off+j+1 from rfl,setC_cons c (off+j) v vs (by omega)]
     rw[← Array.foldl_toList]
     have:=key v.cells.toList 0 cs (by simp[hsz];omega)
     simp at this ⊢
     rw[← this]
    ·simp at hf
   ·simp at hf
  ·simp at h
theorem intV_run {op:BinOp}{k:IntKind}{a b:Int}{v:Value}{t:TypeId}(h:intV op k a b=some v) (w:World):(binOp op t (.int k a) (.int k b)).run P w=.ok v w:=by
 cases op<;>simp[intV] at h
 case quo=>obtain⟨h1,rfl⟩:=h;simp[binOp,Op.intDiv,h1]
 case rem=>obtain⟨h1,rfl⟩:=h;simp[binOp,Op.intDiv,h1]
 all_goals subst h
 all_goals first
  | (simp[binOp,Op.intArith];done)
  | (simp[binOp,Op.intBits,andI,orI,xorI,andNotI];done)
  | (simp[binOp,Op.intCmp,beq_dec];done)
  | (simp[binOp,Op.intCmp,bne,beq_dec];done)
theorem strV_run {op:BinOp}{a b:ByteArray}{v:Value}{t:TypeId}(h:strV op a b=some v) (w:World):(binOp op t (.string a) (.string b)).run P w=.ok v w:=by
 cases op<;>simp only[strV] at h
 case add=>
  split at h
  ·simp at h
  ·rename_i hn
   simp only[Option.some.injEq] at h
   subst h
   simp only[binOp,Op.stringOp,if_neg hn]
   rfl
 all_goals simp only[Option.some.injEq,reduceCtorEq] at h
 all_goals (subst h;simp[binOp,Op.stringOp,ByteArray.toList_eq,beq_dec])
theorem binV_run {op:BinOp}{x y v:Value}{t:TypeId}(h:binV op x y=some v) (w:World):(binOp op t x y).run P w=.ok v w:=by
 unfold binV at h
 split at h
 ·rename_i k a k' b
  split at h
  ·simp at h
  ·rename_i hb
   simp only[Option.some.injEq] at h
   subst h
   simp[binOp,Op.shift,hb,shlI,shrI]
 ·rename_i k a k' b
  split at h
  ·simp at h
  ·rename_i hb
   simp only[Option.some.injEq] at h
   subst h
   simp[binOp,Op.shift,hb,shlI,shrI]
 ·split at h
  ·rename_i hk;subst hk;exact intV_run h w
  ·simp at h
 ·exact strV_run h w
 ·simp at h
theorem eqGuard_run {op:BinOp}{t:TypeId}{x y:Operand}{a b:Value}(hab:(∃n m k,a=.int n m∧b=.int n k)∨(∃s,a=.string s)∨(∃s,a=.bool s)∨(∃p n m,a=.slice p n m)∨(∃j n j' m,a=.int j n∧b=.int j' m)) (w:World):(eqGuard op t x y a b).run P w=.ok () w:=by
 cases op<;>rcases hab with ⟨_,_,_,rfl,rfl⟩ | ⟨_,rfl⟩ | ⟨_,rfl⟩ | ⟨_,_,_,rfl⟩ | ⟨_,_,_,_,rfl,rfl⟩<;>simp[eqGuard]
theorem binV_shape {op:BinOp}{x y v:Value}(h:binV op x y=some v) :
  (∃n m k,x=.int n m∧y=.int n k)∨(∃s,x=.string s)∨(∃s,x=.bool s)∨(∃p n m,x=.slice p n m)∨(∃j n j' m,x=.int j n∧y=.int j' m):=by
 unfold binV at h
 split at h
 ·exact .inr (.inr (.inr (.inr ⟨_,_,_,_,rfl,rfl⟩)))
 ·exact .inr (.inr (.inr (.inr ⟨_,_,_,_,rfl,rfl⟩)))
 ·exact .inr (.inr (.inr (.inr ⟨_,_,_,_,rfl,rfl⟩)))
 ·exact .inr (.inl ⟨_,rfl⟩)
 ·simp at h
theorem unV_run {op:UnOp}{x v:Value}(h:unV op x=some v) (w:World):(Op.unary op x).run P w=.ok v w:=by
 unfold unV at h
 split at h<;>simp only[Option.some.injEq,reduceCtorEq] at h
 ·subst h;simp[Op.unary,Op.intArith]
 ·subst h;simp[Op.unary]
theorem bndV_run {x:Option Value}{d n m:Nat}(h:bndV d n (x.map some)=some m) :
  match x with
  | none=>d=m
  | some v=>∃k i,v=.int k i∧0≤i∧i≤n∧i.toNat=m:=by
 cases x with
 | none=>simpa[bndV] using h
 | some v=>
  cases v<;>simp[bndV] at h
  exact⟨_,_,rfl,h.1.1,h.1.2,h.2⟩
theorem sliceBound_run {k:IntKind}{i:Int}{n:Nat}{c:BoundsCode}(h1:0≤i) (h2:i≤n) (w:World):(Instr.sliceBound (.int k i) n c).run P w=.ok i.toNat w:=by
 simp[Instr.sliceBound,asIntOf,h1,h2]
theorem oprO_spec {x:Option Operand}{r:Option O}(h:oprO lay x=some r) (hag:∀y,x=some y→Ag lay e ρ y) {d n m:Nat}(hb:bndV d n (r.map (·.get e))=some m) :
  ∃z:Option Value,x.map ρ=z∧bndV d n (z.map some)=some m:=by
 cases x with
 | none=>
  simp[oprO] at h
  subst h
  exact⟨none,rfl,by simpa using hb⟩
 | some y=>
  simp only[oprO,Option.map_eq_some_iff] at h
  obtain⟨o,ho,rfl⟩:=h
  cases hg:o.get e with
  | none=>simp[hg,bndV] at hb
  | some v=>exact⟨some v,by simp[ag_get (hag y rfl) ho hg],by simpa[hg] using hb⟩
theorem map_opr {x:Operand}{f:O→PX}{y:PX}(h:(opr lay x).map f=some y):∃o,opr lay x=some o∧f o=y:=by
 simpa[Option.map_eq_some_iff] using h
theorem placesOf_run:∀{fs:List Field}{pl:List (Nat×Nat)},placesOf P fs=some pl→∀w,(fs.mapM fun f=>do pure (f.offset,← sizeOf f.type):Sem (List (Nat×Nat))).run P w=.ok pl w
 | [],pl,h,w=>by simp[placesOf] at h;simp[h]
 | f::fs,pl,h,w=>by
  simp only[placesOf] at h
  split at h
  ·rename_i i l hi hl
   simp only[Option.some.injEq] at h
   subst h
   have ih:=placesOf_run hl w
   simp only[List.mapM_cons,Sem.run_bind,run_sizeOf hi,Result.andThen_ok,Sem.run_pure]
   rw[ih]
   rfl
  ·simp at h
theorem nil_run {d:Nat}{t el:TypeId}{p:Option Addr}{n m:Nat}(hu:P.underlying t=some (.slice el)) (w:World) :
  (Op.equalIn (d+1) t (.slice p n m) (.slice none 0 0)).run P w=.ok p.isNone w:=by
 cases p<;>simp only[Op.equalIn,Sem.run_bind,run_underlying hu,Result.andThen_ok]<;>rfl
theorem px_bin {op:BinOp}{t:TypeId}{x y:Operand}{yt:TypeId}{z:PX}{v:Value}(hx:cpx P lay (.binOp op t x y yt)=some z)
  (hax:Ag lay e ρ x) (hay:Ag lay e ρ y) (hv:z.ev e=some v) (w:World) :
  (do eqGuard op t x y (ρ x) (ρ y);binOp op t (ρ x) (ρ y):Sem Value).run P w=.ok v w:=by
 simp only[cpx] at hx
 have viaBin:∀a b,opr lay x=some a→opr lay y=some b→(PX.bin op a b).ev e=some v→(do eqGuard op t x y (ρ x) (ρ y);binOp op t (ρ x) (ρ y):Sem Value).run P w=.ok v w:=by
  intro a b ha hb hv
  simp only[PX.ev] at hv
  split at hv
  ·rename_i u1 u2 h1 h2
   rw[ag_get hax ha h1,ag_get hay hb h2]
   simp[eqGuard_run (binV_shape hv),binV_run hv]
  ·simp at hv
 split at hx
 ·rename_i k a b hu ha hb
  simp only[Option.some.injEq] at hx
  subst hx
  exact viaBin a b ha hb hv
 ·rename_i a b hu ha hb
  simp only[Option.some.injEq] at hx
  subst hx
  exact viaBin a b ha hb hv
 ·rename_i a b hu ha hb
  have hnil:∀neg,(PX.isNil neg a).ev e=some v→ρ y=.slice none 0 0→(op=if neg then .neq else .eql)→(do eqGuard op t x y (ρ x) (ρ y);binOp op t (ρ x) (ρ y):Sem Value).run P w=.ok v w:=by
   intro neg hv hy hop
   simp only[PX.ev] at hv
   split at hv
   case h_2=>simp at hv
   rename_i vx hp
   unfold isNilV at hv
   split at hv
   ·rename_i p n m
    simp only[Option.some.injEq] at hv
    subst hv
    rw[ag_get hax ha hp,hy]
    have hq:=nil_run (d:=9999) (p:=p) (n:=n) (m:=m) hu w
    cases neg<;>simp only[Bool.false_eq_true,if_false,if_true] at hop<;>subst hop
    ·have e1:binOp .eql t (.slice p n m) (.slice none 0 0)=(do pure (.bool (← Op.equal t (.slice p n m) (.slice none 0 0)))):=by simp only[binOp]
     rw[e1]
     simp only[Sem.run_bind,eqGuard_run (.inr (.inr (.inr (.inl ⟨_,_,_,rfl⟩)))),Result.andThen_ok,Op.equal,Op.maxDepth,hq,Sem.run_pure,Bool.false_eq_true,if_false]
    ·have e1:binOp .neq t (.slice p n m) (.slice none 0 0)=(do pure (.bool (!(← Op.equal t (.slice p n m) (.slice none 0 0))))):=by simp only[binOp]
     rw[e1]
     simp only[Sem.run_bind,eqGuard_run (.inr (.inr (.inr (.inl ⟨_,_,_,rfl⟩)))),Result.andThen_ok,Op.equal,Op.maxDepth,hq,Sem.run_pure,if_true]
     cases p<;>rfl
   ·simp at hv
  split at hx
  ·simp only[Option.some.injEq] at hx
   subst hx
   exact hnil false hv (ag_get hay rfl rfl) rfl
  ·simp only[Option.some.injEq] at hx
   subst hx
   exact hnil true hv (ag_get hay rfl rfl) rfl
  ·simp at hx
 ·rename_i a b hu ha hb
  have hbb:∀neg,(PX.eqb neg a b).ev e=some v→(op=if neg then .neq else .eql)→(do eqGuard op t x y (ρ x) (ρ y);binOp op t (ρ x) (ρ y):Sem Value).run P w=.ok v w:=by
   intro neg hv hop
   simp only[PX.ev] at hv
   split at hv
   ·rename_i u1 u2 h1 h2
    simp only[Option.some.injEq] at hv
    subst hv
    rw[ag_get hax ha h1,ag_get hay hb h2]
    cases neg<;>simp only[Bool.false_eq_true,if_false,if_true] at hop<;>subst hop
    ·have e1:∀a b,binOp .eql t (.bool a) (.bool b)=(do pure (.bool (← Op.equal t (.bool a) (.bool b)))):=by intro a b;simp only[binOp]
     rw[e1]
     simp only[Sem.run_bind,eqGuard_run (.inr (.inr (.inl ⟨_,rfl⟩))),Result.andThen_ok,Op.equal,Op.maxDepth,run_equalIn_bool' _ 9999 _ _ _ hu,Sem.run_pure,Bool.false_eq_true,if_false]
    ·have e1:∀a b,binOp .neq t (.bool a) (.bool b)=(do pure (.bool (!(← Op.equal t (.bool a) (.bool b))))):=by intro a b;simp only[binOp]
     rw[e1]
     simp only[Sem.run_bind,eqGuard_run (.inr (.inr (.inl ⟨_,rfl⟩))),Result.andThen_ok,Op.equal,Op.maxDepth,run_equalIn_bool' _ 9999 _ _ _ hu,Sem.run_pure,if_true]
   ·simp at hv
  split at hx
  ·simp only[Option.some.injEq] at hx;subst hx;exact hbb false hv rfl
  ·simp only[Option.some.injEq] at hx;subst hx;exact hbb true hv rfl
  ·simp at hx
 ·rename_i fs a b hu ha hb
  have hss:∀neg ks,flatT P t=some ks→(PX.eqf neg ks a b).ev e=some v→(op=if neg then .neq else .eql)→(do eqGuard op t x y (ρ x) (ρ y);binOp op t (ρ x) (ρ y):Sem Value).run P w=.ok v w:=by
   intro neg ks hks hv hop
   simp only[PX.ev] at hv
   split at hv
   ·rename_i u1 u2 h1 h2
    simp only[Option.map_eq_some_iff] at hv
    obtain⟨r,hr,rfl⟩:=hv
    rw[ag_get hax ha h1,ag_get hay hb h2]
    simp only[Sem.run_bind,run_eqGuard_agg w op t x y u1 u2 (flatT_guard hks),Result.andThen_ok]
    have hq:=eqf_run (d:=9998) hks hr w
    cases neg<;>simp only[Bool.false_eq_true,if_false,if_true] at hop<;>subst hop
    ·rw[run_eql_struct,hq];rfl
    ·rw[run_neq_struct,hq];rfl
   ·simp at hv
  split at hx
  ·rename_i ks hks;simp only[Option.some.injEq] at hx;subst hx;exact hss false ks hks hv rfl
  ·rename_i ks hks;simp only[Option.some.injEq] at hx;subst hx;exact hss true ks hks hv rfl
  ·simp at hx
 ·simp at hx
theorem px_build {t:TypeId}{ps:Array (Nat×Operand)}{z:PX}{v:Value}(hx:cpx P lay (.build t ps)=some z)
  (hag:∀y∈ps.toList,Ag lay e ρ y.2) (hv:z.ev e=some v) (w:World) :
  (Instr.build t (ps.map fun (i,x)=>(i,ρ x))).run P w=.ok v w:=by
 simp only[cpx] at hx
 split at hx
 ·rename_i fs zv hu hz
  split at hx
  ·rename_i pl hpl
   simp only[Option.map_eq_some_iff] at hx
   obtain⟨l,hl,rfl⟩:=hx
   simp only[PX.ev,Option.map_eq_some_iff] at hv
   obtain⟨cs,hcs,rfl⟩:=hv
   have hfill:=partsAt_spec hl hcs hag
   have hpl':(fs.mapM fun f=>do pure (f.offset,← sizeOf f.type):Sem (Array (Nat×Nat))).run P w=.ok pl.toArray w:=by
    have:=placesOf_run hpl w
    rw[Array.mapM_eq_mapM_toList,Sem.run_map,this]
    rfl
   simp only[Instr.build,Sem.run_bind,run_zeroValue hz,Result.andThen_ok,run_underlying hu,hpl']
   simp only[List.getElem?_toArray,Array.toList_map]
   simp at hfill
   simp[hfill]
  ·simp at hx
 ·rename_i n el zv hu hz
  split at hx
  ·rename_i i hi
   simp only[Option.map_eq_some_iff] at hx
   obtain⟨l,hl,rfl⟩:=hx
   simp only[PX.ev,Option.map_eq_some_iff] at hv
   obtain⟨cs,hcs,rfl⟩:=hv
   have hfill:=partsAt_spec hl hcs hag
   simp only[Instr.build,Sem.run_bind,run_zeroValue hz,Result.andThen_ok,run_underlying hu,run_sizeOf hi]
   simp only[Array.toList_map]
   simp at hfill
   simp[hfill]
  ·simp at hx
 ·simp at hx
end
section
variable {P:Program}{lay:Lay}{e:Env}{ρ:Operand→Value}
theorem px_slice {t:TypeId}{x:Operand}{lo hi mx:Option Operand}{z:PX}{v:Value}(hx:cpx P lay (.slice t x lo hi mx)=some z)
  (hax:Ag lay e ρ x) (hlo:∀y,lo=some y→Ag lay e ρ y) (hhi:∀y,hi=some y→Ag lay e ρ y) (hmx:∀y,mx=some y→Ag lay e ρ y) (hv:z.ev e=some v) (w:World) :
  (Instr.sliceAt t (ρ x) (lo.map ρ) (hi.map ρ) (mx.map ρ)).run P w=.ok v w:=by
 simp only[cpx] at hx
 split at hx
 ·rename_i a l h hu ha hl hh hm
  simp only[Option.some.injEq] at hx
  subst hx
  simp only[PX.ev] at hv
  split at hv
  case h_2=>simp at hv
  rename_i vx hs
  unfold sliceSV at hv
  split at hv
  ·rename_i s
   split at hv
   ·rename_i nh hnh
    split at hv
    ·rename_i nl hnl
     simp only[Option.some.injEq] at hv
     subst hv
     obtain⟨zl,hzl,bl⟩:=oprO_spec hl hlo hnl
     obtain⟨zh,hzh,bh⟩:=oprO_spec hh hhi hnh
     have hmx0:mx=none:=by cases mx<;>simp[oprO] at hm ⊢
     subst hmx0
     rw[ag_get hax ha hs,hzl,hzh]
     have bl':=bndV_run bl
     have bh':=bndV_run bh
     cases zl<;>cases zh<;>simp only at bl' bh'
     ·subst bl' bh';simp[Instr.sliceAt,Instr.slice,run_underlying hu,Instr.sliceBounds]
     ·obtain⟨k,i,rfl,h1,h2,rfl⟩:=bh';subst bl'
      simp[Instr.sliceAt,Instr.slice,run_underlying hu,Instr.sliceBounds,sliceBound_run h1 h2]
     ·obtain⟨k,i,rfl,h1,h2,rfl⟩:=bl';subst bh'
      simp[Instr.sliceAt,Instr.slice,run_underlying hu,Instr.sliceBounds,sliceBound_run h1 h2]
     ·obtain⟨k,i,rfl,h1,h2,rfl⟩:=bl';obtain⟨k',i',rfl,h1',h2',rfl⟩:=bh'
      simp[Instr.sliceAt,Instr.slice,run_underlying hu,Instr.sliceBounds,sliceBound_run h1' h2',sliceBound_run h1 h2]
    ·simp at hv
   ·simp at hv
  ·simp at hv
 ·rename_i el a l h m hu ha hl hh hm
  simp only[Option.map_eq_some_iff] at hx
  obtain⟨inf,hi',rfl⟩:=hx
  simp only[PX.ev] at hv
  split at hv
  case h_2=>simp at hv
  rename_i vx hs
  unfold sliceVV at hv
  split at hv
  ·rename_i p len cap
   split at hv
   ·rename_i nm hnm
    split at hv
    ·rename_i nh hnh
     split at hv
     ·rename_i nl hnl
      split at hv
      ·simp at hv
      ·rename_i hmh
       simp only[Option.isSome_map,Option.isNone_map] at hmh
       simp only[Option.some.injEq] at hv
       subst hv
       obtain⟨zl,hzl,bl⟩:=oprO_spec hl hlo hnl
       obtain⟨zh,hzh,bh⟩:=oprO_spec hh hhi hnh
       obtain⟨zm,hzm,bm⟩:=oprO_spec hm hmx hnm
       have hmh':zm.isSome=true→zh.isSome=true:=by
        intro hz
        have e1:m.isSome=true:=by
         cases mx with
         | none=>simp at hzm;subst hzm;simp at hz
         | some y=>
          simp only[oprO,Option.map_eq_some_iff] at hm
          obtain⟨_,_,rfl⟩:=hm;rfl
        cases hi with
        | none=>
         simp[oprO] at hh;subst hh
         simp[e1] at hmh
        | some y=>simp at hzh;simp[← hzh]
       rw[ag_get hax ha hs,hzl,hzh,hzm]
       have bl':=bndV_run bl
       have bh':=bndV_run bh
       have bm':=bndV_run bm
       have hb:(Instr.sliceBounds true len cap zl zh zm).run P w=.ok (nl,nh,nm) w:=by
        cases zm<;>cases zh<;>cases zl<;>simp only at bl' bh' bm'<;>simp at hmh'
        ·subst bl' bh' bm';simp[Instr.sliceBounds]
        ·obtain⟨k,i,rfl,h1,h2,rfl⟩:=bl';subst bh' bm'
         simp[Instr.sliceBounds,sliceBound_run h1 h2]
        ·obtain⟨k,i,rfl,h1,h2,rfl⟩:=bh';subst bl' bm'
         simp[Instr.sliceBounds,sliceBound_run h1 h2]
        ·obtain⟨k,i,rfl,h1,h2,rfl⟩:=bl';obtain⟨k',i',rfl,h1',h2',rfl⟩:=bh';subst bm'
         simp[Instr.sliceBounds,sliceBound_run h1' h2',sliceBound_run h1 h2]
        ·obtain⟨k,i,rfl,h1,h2,rfl⟩:=bm';obtain⟨k',i',rfl,h1',h2',rfl⟩:=bh';subst bl'
         simp[Instr.sliceBounds,sliceBound_run h1' h2',sliceBound_run h1 h2]
        ·obtain⟨k,i,rfl,h1,h2,rfl⟩:=bm';obtain⟨k',i',rfl,h1',h2',rfl⟩:=bh';obtain⟨k2,i2,rfl,h12,h22,rfl⟩:=bl'
         simp[Instr.sliceBounds,sliceBound_run h1' h2',sliceBound_run h1 h2,sliceBound_run h12 h22]
       simp only[Instr.sliceAt,Instr.slice,Sem.run_bind,run_underlying hu,Result.andThen_ok,hb,run_sizeOf hi',Sem.run_pure]
     ·simp at hv
    ·simp at hv
   ·simp at hv
  ·simp at hv
 ·simp at hx
theorem px_call {c:Call}{ty:TypeId}{z:PX}{v:Value}(hx:cpx P lay (.call c)=some z) (hag:∀y∈c.args.toList,Ag lay e ρ y) (hv:z.ev e=some v) (w:World) :
  (do let d ← resolve ρ c ty;invoke d.target d.args:Sem Next).run P w=.ok (.value v) w:=by
 simp only[cpx] at hx
 split at hx
 ·rename_i hc
  split at hx
  ·rename_i t x ht hax
   have h1:c.argTypes = #[t]:=by rw[← Array.toList_inj,ht]
   have h2:c.args = #[x]:=by rw[← Array.toList_inj,hax]
   have hA:=hag x (by simp[hax])
   split at hx
   ·rename_i a hu ha
    simp only[Option.some.injEq] at hx;subst hx
    simp only[PX.ev] at hv
    split at hv
    case h_2=>simp at hv
    rename_i vx hs
    unfold lenSV at hv
    split at hv
    ·rename_i s
     simp only[Option.some.injEq] at hv;subst hv
     have hs':=ag_get hA ha hs
     simp[resolve,hc,h1,h2,hs',invoke,builtin,Builtin.len_,run_underlying hu,goInt]
    ·simp at hv
   ·rename_i el a hu ha
    simp only[Option.some.injEq] at hx;subst hx
    simp only[PX.ev] at hv
    split at hv
    case h_2=>simp at hv
    rename_i vx hs
    unfold lenVV at hv
    split at hv
    ·rename_i p n m
     simp only[Option.some.injEq] at hv;subst hv
     have hs':=ag_get hA ha hs
     simp[resolve,hc,h1,h2,hs',invoke,builtin,Builtin.len_,run_underlying hu,goInt]
    ·simp at hv
   ·simp at hx
  ·simp at hx
 ·rename_i hc
  split at hx
  ·rename_i t x ht hax
   have h1:c.argTypes = #[t]:=by rw[← Array.toList_inj,ht]
   have h2:c.args = #[x]:=by rw[← Array.toList_inj,hax]
   have hA:=hag x (by simp[hax])
   split at hx
   ·rename_i el a hu ha
    simp only[Option.some.injEq] at hx;subst hx
    simp only[PX.ev] at hv
    split at hv
    case h_2=>simp at hv
    rename_i vx hs
    unfold capVV at hv
    split at hv
    ·rename_i p n m
     simp only[Option.some.injEq] at hv;subst hv
     have hs':=ag_get hA ha hs
     simp[resolve,hc,h1,h2,hs',invoke,builtin,Builtin.cap_,run_underlying hu,goInt]
    ·simp at hv
   ·simp at hx
  ·simp at hx
 ·rename_i hc
  split at hx
  ·rename_i x y hax
   have h2:c.args = #[x,y]:=by rw[← Array.toList_inj,hax]
   have hA:=hag x (by simp[hax])
   have hB:=hag y (by simp[hax])
   split at hx
   ·rename_i a b ha hb
    simp only[Option.some.injEq] at hx;subst hx
    simp only[PX.ev] at hv
    split at hv
    ·rename_i k n k' m hn hm
     split at hv
     ·rename_i hk
      subst hk
      simp only[Option.some.injEq] at hv;subst hv
      have hs':=ag_get hA ha hn
      have hs2:=ag_get hB hb hm
      simp[resolve,hc,h2,hs',hs2,invoke,builtin,Builtin.min_,Builtin.min2]
     ·simp at hv
    ·simp at hv
   ·simp at hx
  ·simp at hx
 ·simp at hx
theorem px_run {o:Oper}{x:PX}{v:Value}(hx:cpx P lay o.op=some x) (hag:∀y∈o.op.operands,Ag lay e ρ y) (hv:x.ev e=some v) (w:World) :
  (execOp ρ o).run P w=.ok (.value v) w:=by
 obtain⟨dst,op,type,pos,after,guard⟩:=o
 cases op
 case move y=>
  obtain⟨a,ha,rfl⟩:=map_opr hx
  simp[execOp,ag_get (hag y (by simp[Op.operands])) ha hv]
 case assign y=>
  obtain⟨a,ha,rfl⟩:=map_opr hx
  simp[execOp,ag_get (hag y (by simp[Op.operands])) ha hv]
 case pick c a b=>
  simp only[cpx] at hx
  split at hx
  ·rename_i c' a' b' hc ha hb
   simp only[Option.some.injEq] at hx;subst hx
   simp only[PX.ev] at hv
   split at hv
   ·rename_i t ht
    have h1:=ag_get (hag c (by simp[Op.operands])) hc ht
    cases t
    ·have h2:=ag_get (hag b (by simp[Op.operands])) hb (by simpa using hv)
     simp[execOp,h1,h2,asBool]
    ·have h2:=ag_get (hag a (by simp[Op.operands])) ha (by simpa using hv)
     simp[execOp,h1,h2,asBool]
   ·simp at hv
  ·simp at hx
 case binOp op t y z yt=>
  have:=px_bin hx (hag y (by simp[Op.operands])) (hag z (by simp[Op.operands])) hv w
  simp only[execOp,Sem.run_bind] at this ⊢
  rw[this];rfl
 case unOp op t y=>
  obtain⟨a,ha,rfl⟩:=map_opr hx
  simp only[PX.ev] at hv
  split at hv
  ·rename_i u hu
   simp[execOp,ag_get (hag y (by simp[Op.operands])) ha hu,unV_run hv]
  ·simp at hv
 case build t ps=>
  have:=px_build hx (fun y hy=>hag y.2 (by simp[Op.operands];exact⟨y.1,by simpa using hy⟩)) hv w
  simp only[execOp,Sem.run_bind,this];rfl
 case field t y f=>
  simp only[cpx] at hx
  split at hx
  ·rename_i fs a hu ha
   split at hx
   ·rename_i fd hfd
    simp only[Option.map_eq_some_iff] at hx
    obtain⟨s,hs,rfl⟩:=hx
    simp only[PX.ev] at hv
    split at hv
    ·rename_i c hc
     simp[execOp,ag_get (hag y (by simp[Op.operands])) ha hc,Instr.field,run_underlying hu,hfd,asAgg,run_part hs hv]
    ·simp at hv
   ·simp at hx
  ·simp at hx
 case extract y i=>
  obtain⟨a,ha,rfl⟩:=map_opr hx
  simp only[PX.ev] at hv
  split at hv
  ·rename_i vs hvs
   simp[execOp,ag_get (hag y (by simp[Op.operands])) ha hvs,Instr.extract,hv]
  ·simp at hv
 case index t y i=>
  simp only[cpx] at hx
  split at hx
  ·rename_i a j hu ha hj
   simp only[Option.some.injEq] at hx;subst hx
   simp only[PX.ev] at hv
   split at hv
   case h_2=>simp at hv
   rename_i vx vy hs hn
   unfold idxSV at hv
   split at hv
   ·rename_i s k n
    split at hv
    ·rename_i h0
     simp only[Option.map_eq_some_iff] at hv
     obtain⟨b,hb,rfl⟩:=hv
     have e1:=ag_get (hag y (by simp[Op.operands])) ha hs
     have e2:=ag_get (hag i (by simp[Op.operands])) hj hn
     have e3:s[n.toNat]? = some b:=by
      obtain⟨hlt,rfl⟩:=Array.getElem?_eq_some_iff.1 hb
      exact getElem?_pos s n.toNat hlt
     simp[execOp,e1,e2,Instr.index,run_underlying hu,asIntOf,h0,e3]
    ·simp at hv
   ·simp at hv
  ·rename_i n el a j hu ha hj
   split at hx
   ·rename_i inf s hi hs
    simp only[Option.some.injEq] at hx;subst hx
    simp only[PX.ev] at hv
    split at hv
    ·rename_i c k m hc hm
     split at hv
     ·rename_i h0
      have e1:=ag_get (hag y (by simp[Op.operands])) ha hc
      have e2:=ag_get (hag i (by simp[Op.operands])) hj hm
      simp only[execOp,e1,e2,Instr.index,Sem.run_bind,asIntOf,Sem.run_pure,Result.andThen_ok,run_underlying hu,if_pos h0,run_sizeOf hi,run_part hs hv]
     ·simp at hv
    ·simp at hv
   ·simp at hx
  ·simp at hx
 case convert src dst y=>
  simp only[cpx] at hx
  split at hx
  ·rename_i k0 k a hu hd ha
   simp only[Option.some.injEq] at hx;subst hx
   simp only[PX.ev] at hv
   split at hv
   ·rename_i j n hn
    simp only[Option.some.injEq] at hv;subst hv
    simp[execOp,ag_get (hag y (by simp[Op.operands])) ha hn,convert,run_underlying hu,run_underlying hd,Conv.intToInt]
   ·simp at hv
  ·rename_i a hu hd ha
   simp only[Option.some.injEq] at hx;subst hx
   simp only[PX.ev] at hv
   split at hv
   ·rename_i s hs
    simp only[Option.some.injEq] at hv;subst hv
    simp[execOp,ag_get (hag y (by simp[Op.operands])) ha hs,convert,run_underlying hu,run_underlying hd]
   ·simp at hv
  ·simp at hx
 case slice t y lo hi mx=>
  have:=px_slice hx (hag y (by simp[Op.operands])) (fun z hz=>hag z (by simp[Op.operands,hz])) (fun z hz=>hag z (by simp[Op.operands,hz])) (fun z hz=>hag z (by simp[Op.operands,hz])) hv w
  simp only[execOp,Sem.run_bind,this];rfl
 case fieldAddr t y f=>
  simp only[cpx] at hx
  split at hx
  ·rename_i fs a hu ha
   split at hx
   ·rename_i fd hfd
    split at hx
    ·rename_i inf hi
     split at hx
     ·simp at hx
     ·rename_i hne
      simp only[Option.some.injEq] at hx;subst hx
      simp only[PX.ev] at hv
      split at hv
      case h_2=>simp at hv
      rename_i vx hp
      unfold faV at hv
      split at hv
      ·rename_i p
       simp only[Option.some.injEq] at hv;subst hv
       simp[execOp,ag_get (hag y (by simp[Op.operands])) ha hp,Instr.fieldAt,run_underlying hu,hfd,Instr.sureAddr,fieldPlace,run_sizeOf hi,hne]
      ·simp at hv
    ·simp at hx
   ·simp at hx
  ·simp at hx
 case indexAddr t y i=>
  simp only[cpx] at hx
  split at hx
  ·rename_i el a j hu ha hj
   simp only[Option.map_eq_some_iff] at hx
   obtain⟨inf,hi,rfl⟩:=hx
   simp only[PX.ev] at hv
   split at hv
   case h_2=>simp at hv
   rename_i vx vy hp hn
   unfold iaV at hv
   split at hv
   ·rename_i p len cap k n
    split at hv
    ·rename_i h0
     simp only[Option.some.injEq] at hv;subst hv
     have e1:=ag_get (hag y (by simp[Op.operands])) ha hp
     have e2:=ag_get (hag i (by simp[Op.operands])) hj hn
     simp only[execOp,e1,e2,Instr.indexAt,Sem.run_bind,asIntOf,Sem.run_pure,Result.andThen_ok,run_underlying hu,if_pos h0,run_sizeOf hi]
    ·simp at hv
   ·simp at hv
  ·rename_i n el a j hu ha hj
   simp only[Option.map_eq_some_iff] at hx
   obtain⟨inf,hi,rfl⟩:=hx
   simp only[PX.ev] at hv
   split at hv
   case h_2=>simp at hv
   rename_i vx vy hp hm
   unfold iaAV at hv
   split at hv
   ·rename_i p k m
    split at hv
    ·rename_i h0
     simp only[Option.some.injEq] at hv;subst hv
     have e1:=ag_get (hag y (by simp[Op.operands])) ha hp
     have e2:=ag_get (hag i (by simp[Op.operands])) hj hm
     simp only[execOp,e1,e2,Instr.indexAt,Instr.sureAddr,Sem.run_bind,asIntOf,Sem.run_pure,Result.andThen_ok,run_underlying hu,if_pos h0,run_sizeOf hi]
    ·simp at hv
   ·simp at hv
  ·simp at hx
 case makeFunc fn first cap=>
  simp only[cpx] at hx
  split at hx
  ·rename_i a b ha hb
   simp only[Option.some.injEq] at hx;subst hx
   simp only[PX.ev] at hv
   split at hv
   ·rename_i u1 u2 h1 h2
    simp only[Option.some.injEq] at hv;subst hv
    have e1:=ogets_spec (ρ:=ρ) ha h1 (fun y hy=>hag y (by simp[Op.operands];exact .inl (by simpa using hy)))
    have e2:=ogets_spec (ρ:=ρ) hb h2 (fun y hy=>hag y (by simp[Op.operands];exact .inr (by simpa using hy)))
    have e1':first.map ρ=u1.toArray:=by rw[← Array.toList_inj];simpa using e1
    have e2':cap.map ρ=u2.toArray:=by rw[← Array.toList_inj];simpa using e2
    simp[execOp,Instr.makeFunc,e1',e2']
   ·simp at hv
  ·simp at hx
 case nilCheck y=>
  obtain⟨a,ha,rfl⟩:=map_opr hx
  simp only[PX.ev] at hv
  split at hv
  case h_2=>simp at hv
  rename_i vx hp
  unfold nilcV at hv
  split at hv
  ·rename_i p
   simp only[Option.some.injEq] at hv;subst hv
   simp[execOp,ag_get (hag y (by simp[Op.operands])) ha hp]
  ·simp at hv
 case call c=>
  have:=px_call (ty:=type) hx (fun y hy=>hag y (by simp[Op.operands,Call.operands];exact .inr (by simpa using hy))) hv w
  simpa only[execOp] using this
 all_goals simp[cpx] at hx
end
def UponE (P:Program) (r:Result Next) (R:Value→World→Prop):Prop:=
 match r with
 | .ok (.value v) w=>R v w
 | .ok .skip w=>R undef w
 | .ok (.enter f as) w=>Calls P f as w fun e w'=>∃v,e=.returned v∧R v w'
 | _=>False
theorem UponE.mono {P:Program}{r:Result Next}{R R':Value→World→Prop}(h:UponE P r R) (hr:∀v w,R v w→R' v w):UponE P r R':=by
 unfold UponE at *
 split at h
 ·exact hr _ _ h
 ·exact hr _ _ h
 ·exact Calls.mono h fun e w' ⟨v,he,hv⟩=>⟨v,he,hr _ _ hv⟩
 ·exact h.elim
theorem Landed.upon {P:Program}{r:Result Next}{R:Value→World→Prop}(h:Landed P r fun e w'=>∃v,e=.returned v∧R v w'):UponE P r R:=by
 unfold Landed at h
 split at h
 ·exact h
 ·obtain⟨v,he,hv⟩:=h
  simp only[Ending.returned.injEq] at he
  subst he
  exact hv
 ·exact h.elim
namespace Frm
theorem refl (h:Heap) (w:World):Frm h w h w:=⟨rfl,rfl,rfl,Nat.le_refl _,fun _ _ _=>rfl,fun _ _ hb=>hb⟩
theorem trans {h h1 h2:Heap}{w w1 w2:World}(a:Frm h w h1 w1) (b:Frm h1 w1 h2 w2):Frm h w h2 w2 where
 tape:=b.tape.trans a.tape
 os:=b.os.trans a.os
 output:=b.output.trans a.output
 size:=Nat.le_trans a.size b.size
 keep x hx hn:=(b.keep x (Nat.lt_of_lt_of_le hx a.size) (a.fresh x hx hn)).trans (a.keep x hx hn)
 fresh x hx hn:=b.fresh x (Nat.lt_of_lt_of_le hx a.size) (a.fresh x hx hn)
end Frm
theorem sub_fresh {h:Heap}{w:World}(hs:h.sub w):h w.heap.size=none:=by
 cases hh:h w.heap.size with
 | none=>rfl
 | some o=>have:=hs _ _ hh;simp at this
theorem alloc_last (w:World) (o:Obj):(w.alloc o).heap[w.heap.size]? = some o:=by
 show (w.heap.push o)[w.heap.size]? = some o
 simp
theorem alloc_old (w:World) (o:Obj) {b:Nat}(hb:b<w.heap.size):(w.alloc o).heap[b]? = w.heap[b]?:=by
 show (w.heap.push o)[b]? = w.heap[b]?
 rw[Array.getElem?_push_lt hb];exact (Array.getElem?_eq_getElem hb).symm
theorem alloc_size (w:World) (o:Obj):(w.alloc o).heap.size=w.heap.size+1:=by
 show (w.heap.push o).size=w.heap.size+1
 simp
theorem sub_new {h:Heap}{w:World}(hs:h.sub w) (o:Obj):(h.set w.heap.size o).sub (w.alloc o):=by
 intro b o' hb
 unfold Heap.set at hb
 split at hb
 ·rename_i hbb;subst hbb;simp only[Option.some.injEq] at hb;subst hb;exact alloc_last w o
 ·rename_i hne
  have:=hs _ _ hb
  have hlt:b<w.heap.size:=(Array.getElem?_eq_some_iff.1 this).1
  rw[alloc_old w o hlt]
  exact this
theorem frm_new {h:Heap}{w:World}(o:Obj):Frm h w (h.set w.heap.size o) (w.alloc o) where
 tape:=rfl
 os:=rfl
 output:=rfl
 size:=by rw[alloc_size];omega
 keep b hb _:=alloc_old w o hb
 fresh b hb hn:=by unfold Heap.set;rw[if_neg (by omega)];exact hn
theorem hcell_sub {h:Heap}{w:World}(hs:h.sub w) {b off:Nat}{v:Value}(hc:hcell h b off=some v):w.cell? ⟨b,off,none⟩=some v:=by
 unfold hcell at hc
 split at hc
 ·rename_i c el fr hb
  simp[World.cell?,hs _ _ hb,hc]
 ·simp at hc
theorem hcells_get:∀{n:Nat}{h:Heap}{b off:Nat}{l:List Value},hcells h b off n=some l→l.length=n∧∀j v,l[j]? = some v→hcell h b (off+j)=some v
 | 0,h,b,off,l,hh=>by simp[hcells] at hh;subst hh;simp
 | n+1,h,b,off,l,hh=>by
  simp only[hcells] at hh
  split at hh
  ·rename_i v r hv hr
   simp only[Option.some.injEq] at hh
   subst hh
   obtain⟨h1,h2⟩:=hcells_get hr
   refine⟨by simp[h1],?_⟩
   intro j u hj
   cases j with
   | zero=>simp at hj;subst hj;simpa using hv
   | succ j=>
    simp at hj
    have:=h2 j u hj
    rwa [show off+(j+1)=off+1+j by omega]
  ·simp at hh
section
variable {P:Program}
theorem addr_add0 (b off j:Nat):(⟨b,off,none⟩:Addr).add j=⟨b,off+j,none⟩:=by
 unfold Addr.add
 split
 ·rename_i h;subst h;rfl
 ·rfl
theorem loadCells_run {h:Heap}{w:World}(hs:h.sub w) {b off n:Nat}{l:List Value}(hh:hcells h b off n=some l):(loadCells ⟨b,off,none⟩ n).run P w=.ok l.toArray w:=by
 obtain⟨h1,h2⟩:=hcells_get hh
 subst h1
 exact run_loadCells_list w _ l fun j v hj=>by rw[addr_add0];exact hcell_sub hs (h2 j v hj)
theorem hload_run {h:Heap}{w:World}(hs:h.sub w) {t:TypeId}{s:Option Nat}(ht:szT P t=some s) {p v:Value}(hh:hload h (some p) s=some v):(Instr.loadAt t p).run P w=.ok v w:=by
 have hsz:=szT_spec ht
 unfold hload at hh
 split at hh
 ·rename_i b off hp
  simp only[Option.some.injEq] at hp
  subst hp
  cases s with
  | none=>
   simp only at hh hsz
   simp[Instr.loadAt,Instr.sureAddr,loadVar,hsz w,hcell_sub hs hh]
  | some n=>
   simp only[Option.map_eq_some_iff] at hh hsz
   obtain⟨l,hl,rfl⟩:=hh
   simp[Instr.loadAt,Instr.sureAddr,loadVar,hsz.1 w,hsz.2 w,loadCells_run hs hl]
 ·simp at hh
theorem hstore_run {h h':Heap}{w:World}(hs:h.sub w) {b off:Nat}{vs:List Value}(hh:hstore h b off vs=some h') :
  ∃w',(storeCells ⟨b,off,none⟩ vs).run P w=.ok () w'∧h'.sub w'∧Frm h w h' w':=by
 unfold hstore at hh
 split at hh
 ·rename_i c el fr hb
  split at hh
  ·rename_i hc
   obtain⟨rfl,hle,hall⟩:=hc
   simp only[Option.some.injEq] at hh
   subst hh
   have hg:=hs _ _ hb
   have hlt:b<w.heap.size:=(Array.getElem?_eq_some_iff.1 hg).1
   refine⟨_,run_storeCells_at (P:=P) b off el vs 0 c w hg (by omega) (fun v hv=>by simpa using List.all_eq_true.1 hall v hv),?_,?_⟩
   ·intro b' o' hb'
    unfold Heap.set at hb'
    split at hb'
    ·rename_i hbb;subst hbb
     simp only[Option.some.injEq] at hb';subst hb'
     rw[setRow_heap w b' c _ el (0,0) hg]
     simp[setC]
    ·rename_i hne
     rw[setRow_other w b b' _ hne]
     exact hs _ _ hb'
   ·refine⟨rfl,rfl,rfl,by simp,?_,?_⟩
    ·intro b' hb' hn
     have hne:b'≠b:=fun he=>by subst he;rw[hb] at hn;simp at hn
     exact setRow_other w b b' _ hne
    ·intro b' hb' hn
     have hne:b'≠b:=fun he=>by subst he;rw[hb] at hn;simp at hn
     unfold Heap.set;rw[if_neg hne];exact hn
  ·simp at hh
 ·simp at hh
structure SrcW (P:Program) (w:World) (esz:Nat) (x:Value) (n:Nat) (cs:List Value):Prop where
 len:∀w,(Builtin.lenOf x).run P w=.ok n w
 size:cs.length=n*esz
 cells:∀m≤n,∀w',w'.heap=w.heap→(Builtin.firstCells esz m x).run P w'=.ok (cs.take (m*esz)).toArray w'
theorem loadCells_heap {w:World}{b off:Nat}{l:List Value}(hl:∀j v,l[j]? = some v→w.cell? ⟨b,off+j,none⟩=some v) {w':World}(hw:w'.heap=w.heap) {n:Nat}(hn:n≤l.length) :
  (loadCells ⟨b,off,none⟩ n).run P w'=.ok (l.take n).toArray w':=by
 have hlen:(l.take n).length=n:=by simp[Nat.min_eq_left hn]
 have:=run_loadCells_list (P:=P) w' ⟨b,off,none⟩ (l.take n) (fun j v hj=>by
  rw[addr_add0]
  have:w'.cell? ⟨b,off+j,none⟩=w.cell? ⟨b,off+j,none⟩:=by simp[World.cell?,hw]
  rw[this]
  refine hl j v ?_
  rw[List.getElem?_take] at hj
  split at hj
  ·exact hj
  ·simp at hj)
 rwa [hlen] at this
theorem SrcW.of_cells {w:World}{b off esz n cap:Nat}{l:List Value}(hsz:l.length=n*esz) (hl:∀j v,l[j]? = some v→w.cell? ⟨b,off+j,none⟩=some v) :
  SrcW P w esz (.slice (some ⟨b,off,none⟩) n cap) n l where
 len w:=by simp[Builtin.lenOf]
 size:=hsz
 cells m hm w' hw:=by
  simp only[Builtin.firstCells]
  exact loadCells_heap hl hw (by rw[hsz];exact Nat.mul_le_mul_right _ hm)
theorem srcV_run {h:Heap}{w:World}(hs:h.sub w) {esz:Nat}{x:Value}{n:Nat}{cs:List Value}(hh:srcV h esz (some x)=some (n,cs)) :
  SrcW P w esz x n cs:=by
 unfold srcV at hh
 split at hh
 ·rename_i p c hx
  simp only[Option.some.injEq,Prod.mk.injEq] at hx hh
  obtain⟨rfl,rfl⟩:=hh
  subst hx
  refine⟨fun w=>by simp[Builtin.lenOf],by simp,fun m hm w' _=>?_⟩
  have hm0:m=0:=by omega
  subst hm0
  cases p with
  | none=>simp[Builtin.firstCells]
  | some a=>
   have:=run_loadCells_list (P:=P) w' a [] (by simp)
   simpa[Builtin.firstCells] using this
 ·rename_i b off m c hx
  simp only[Option.some.injEq,Option.map_eq_some_iff,Prod.mk.injEq] at hx hh
  obtain⟨l,hl,rfl,rfl⟩:=hh
  subst hx
  obtain⟨h1,h2⟩:=hcells_get hl
  exact SrcW.of_cells h1 fun j v hj=>hcell_sub hs (h2 j v hj)
 ·rename_i s hx
  split at hh
  case isFalse=>simp at hh
  rename_i he
  subst he
  simp only[Option.some.injEq,Prod.mk.injEq] at hx hh
  obtain⟨rfl,rfl⟩:=hh
  subst hx
  refine⟨fun w=>by simp[Builtin.lenOf],by simp,?_⟩
  intro m hm w' _
  simp only[Builtin.firstCells,Sem.run_pure,Nat.mul_one]
  congr 1
  apply Array.ext'
  simp[ByteArray.extract,ByteArray.copySlice]
 ·simp at hh
end
theorem reps_range (zero:List Value):∀n,(List.range (n*zero.length)).map (fun i=>zero.toArray[i%zero.toArray.size]!)=reps n zero
 | 0=>by simp[reps]
 | n+1=>by
  have ih:=reps_range zero n
  rw[Nat.succ_mul,List.range_add,List.map_append,ih]
  unfold reps
  rw[List.replicate_succ',List.flatten_append]
  congr 1
  simp only[List.flatten_cons,List.flatten_nil,List.append_nil,List.map_map]
  apply List.ext_getElem
  ·simp
  ·intro j h1 h2
   simp at h1 h2
   simp[Nat.mod_eq_of_lt h2,h2]
theorem reps_cells {z:Array Value}{s:Nat}(hs:z.size=s) (n:Nat):(Array.range (n*s)).map (fun i=>z[i%z.size]!)=(reps n z.toList).toArray:=by
 subst hs
 apply Array.ext'
 have:=reps_range z.toList n
 simpa using this
theorem zeroCells_reps (z:Array Value) (n:Nat):Builtin.zeroCells z n=(reps n z.toList).toArray:=by
 unfold Builtin.zeroCells
 exact reps_cells rfl n
theorem reps_length (n:Nat) (z:List Value):(reps n z).length=n*z.length:=by simp[reps]
section
variable {P:Program}
theorem elemOf_spec {t:TypeId}{by_ sz:Nat}{z:List Value}(h:elemOf P t=some (by_,sz,z)) :
  ∃el i zv,P.underlying t=some (.slice el)∧P.info? el=some i∧i.zero=some zv∧by_=i.bytes∧sz=i.size∧z=zv.cells.toList∧zv.cells.size=i.size∧0<i.size:=by
 unfold elemOf at h
 split at h
 ·rename_i el hu
  split at h
  ·rename_i i hi
   split at h
   ·rename_i zv hz
    split at h
    ·rename_i hc
     simp only[Option.some.injEq,Prod.mk.injEq] at h
     obtain⟨rfl,rfl,rfl⟩:=h
     exact⟨el,i,zv,hu,hi,hz,rfl,rfl,rfl,hc.1,hc.2⟩
    ·simp at h
   ·simp at h
  ·simp at h
 ·simp at h
theorem run_zero_of {t:TypeId}{i:TypeInfo}{z:Value}(hi:P.info? t=some i) (hz:i.zero=some z) (w:World):(zeroValue t).run P w=.ok z w:=by
 simp[zeroValue,run_typeInfo hi,hz]
theorem srcOk_cases {u:TypeId}{sz:Nat}(h:srcOk P u sz=true):(∃el,P.underlying u=some (.slice el))∨(P.underlying u=some .string∧sz=1):=by
 unfold srcOk at h
 cases hu:P.underlying u with
 | none=>simp[hu] at h
 | some d=>cases d<;>simp[hu] at h<;>simp[h]
theorem append_room {t u ty el:TypeId}{i:TypeInfo}(hu:P.underlying t=some (.slice el)) (hi:P.info? el=some i) (hs:srcOk P u i.size=true)
  {w:World}{p:Option Addr}{len cap n:Nat}{x:Value}{cs:List Value}(hx:SrcW P w i.size x n cs) (hle:len+n≤cap) :
  (Builtin.append_ #[t,u] ty #[.slice p len cap,x]).run P w=match p with
   | none=>.ok (.slice none (len+n) cap) w
   | some a=>((storeCells (a.add (len*i.size)) cs).run P w).andThen fun _ w'=>.ok (.slice p (len+n) cap) w':=by
 have hc:=hx.cells n (Nat.le_refl _) w rfl
 rw[List.take_of_length_le (by rw[hx.size];exact Nat.le_refl _)] at hc
 rcases srcOk_cases hs with ⟨d,hd⟩ | ⟨hd,_⟩
 all_goals
  cases p with
  | none=>simp[Builtin.append_,run_underlying hu,run_sizeOf hi,run_underlying hd,hx.len,hle,hc]
  | some a=>simp[Builtin.append_,run_underlying hu,run_sizeOf hi,run_underlying hd,hx.len,hle,hc]
theorem append_grow {t u ty el:TypeId}{i:TypeInfo}{z:Value}(hu:P.underlying t=some (.slice el)) (hi:P.info? el=some i) (hz:i.zero=some z) (hs:srcOk P u i.size=true)
  {w:World}{p:Option Addr}{len cap n:Nat}{x:Value}{cs old:List Value}(hx:SrcW P w i.size x n cs) (ho:SrcW P w i.size (.slice p len cap) len old) (hlt:cap<len+n)
  (hb:Builtin.nextslicecap (len+n) cap*i.bytes≤2^48) (hn:len+n<2^62) :
  ∃c,len+n≤c∧(Builtin.append_ #[t,u] ty #[.slice p len cap,x]).run P w =
   .ok (.slice (some ⟨w.heap.size,0,none⟩) (len+n) c) (w.drew.alloc (.cells (old++cs++reps (c-(len+n)) z.cells.toList).toArray el (0,0))):=by
 refine⟨(Question.appendCap (len+n) cap el).cut (w.tape w.drawn (.appendCap (len+n) cap el)),by simp[Question.cut],?_⟩
 have hc:=hx.cells n (Nat.le_refl _) w.drew rfl
 rw[List.take_of_length_le (by rw[hx.size];exact Nat.le_refl _)] at hc
 have hco:=ho.cells len (Nat.le_refl _) w.drew rfl
 rw[List.take_of_length_le (by rw[ho.size];exact Nat.le_refl _)] at hco
 have h63:¬((len+n:Nat):Int) > IntKind.i64.max:=by
  have:IntKind.i64.max=9223372036854775807:=by decide
  rw[this]
  omega
 have hnot:¬len+n≤cap:=by omega
 have hb':¬Builtin.nextslicecap (len+n) cap*i.bytes > 2^48:=by omega
 have e0:({ heap:=w.heap,tape:=w.tape,drawn:=w.drawn+1,os:=w.os,output:=w.output }:World)=w.drew:=rfl
 rcases srcOk_cases hs with ⟨d,hd⟩ | ⟨hd,_⟩
 all_goals
  simp only[Builtin.append_,List.getElem?_toArray,List.getElem?_cons_zero,List.getElem?_cons_succ,Sem.run_bind,run_underlying hu,Result.andThen_ok,run_sizeOf hi,run_underlying hd,Sem.run_pure,Bool.false_eq_true,if_false,hx.len,
   if_neg hnot,run_typeInfo hi,if_neg hb',run_choose,Question.forced,run_askRoom,Sem.run_ite,h63,false_and]
  rw[e0]
  simp only[hco,Result.andThen_ok,Bool.not_false,if_true,hc,run_zero_of hi hz,zeroCells_reps,newRow,Sem.run_bind,run_newObj,Sem.run_pure]
  simp only[List.append_toArray]
  rfl
def PrivS (lay:Lay) (e:Env) (h:Heap) (w:World) (ρ:Operand→Value) (xs:Array Operand):Prop:=
 ∀t i n c,Operand.tmp t∈xs→lfind lay t=some (i,.ps n)→eget e i=some (.agg c)→∃b el,ρ (.tmp t)=.slice (some ⟨b,0,none⟩) n n∧w.heap[b]? = some (.cells c el (0,0))∧h b=none
variable {lay:Lay}{e:Env}{ρ:Operand→Value}{h:Heap}{w:World}
theorem src_of_block {b:Nat}{c:Array Value}{el:TypeId}{fr:Nat×Nat}{n m esz:Nat}(hb:w.heap[b]? = some (.cells c el fr)) (hsz:c.size=n*esz):SrcW P w esz (.slice (some ⟨b,0,none⟩) n m) n c.toList:=
 SrcW.of_cells (by simpa using hsz) fun j v hj=>by
  have:c[j]? = some v:=by simpa using hj
  simp[World.cell?,hb,this]
theorem appO_src {xs:Array Operand}{x:Operand}{a:AO}(hxm:x∈xs) (ha:appO lay x=some a) (hag:Ag lay e ρ x) (hps:PrivS lay e h w ρ xs) (hs:h.sub w) {esz n:Nat}{cs:List Value}(hsrc:a.src h e esz=some (n,cs)) :
  SrcW P w esz (ρ x) n cs:=by
 have viaO:∀o,opr lay x=some o→a=.o o→SrcW P w esz (ρ x) n cs:=by
  intro o ho hao
  subst hao
  simp only[AO.src] at hsrc
  cases hg:o.get e with
  | none=>rw[hg] at hsrc;simp[srcV] at hsrc
  | some v=>
   rw[hg] at hsrc
   rw[ag_get hag ho hg]
   exact srcV_run hs hsrc
 cases x with
 | tmp t=>
  simp only[appO] at ha
  split at ha
  ·rename_i i hi
   simp only[Option.some.injEq] at ha
   exact viaO (.v i) (by simp[opr,plainAt,hi]) ha.symm
  ·rename_i i m hi
   simp only[Option.some.injEq] at ha
   subst ha
   simp only[AO.src] at hsrc
   split at hsrc
   ·rename_i c hc
    split at hsrc
    ·rename_i hsz
     simp only[Option.some.injEq,Prod.mk.injEq] at hsrc
     obtain⟨rfl,rfl⟩:=hsrc
     obtain⟨b,el,h1,h2,h3⟩:=hps t i m c hxm hi hc
     rw[h1]
     exact src_of_block h2 hsz
    ·simp at hsrc
   ·simp at hsrc
  ·simp at ha
 | const v=>simp only[appO,Option.map_eq_some_iff] at ha;obtain⟨o,ho,rfl⟩:=ha;exact viaO o ho rfl
 | global g=>simp only[appO,Option.map_eq_some_iff] at ha;obtain⟨o,ho,rfl⟩:=ha;exact viaO o ho rfl
 | func f=>simp only[appO,Option.map_eq_some_iff] at ha;obtain⟨o,ho,rfl⟩:=ha;exact viaO o ho rfl
theorem sub_drew {h:Heap}{w:World}(hs:h.sub w):h.sub w.drew:=hs
theorem frm_drew {h h':Heap}{w w':World}(hf:Frm h w.drew h' w'):Frm h w h' w':=⟨hf.tape,hf.os,hf.output,hf.size,hf.keep,hf.fresh⟩
def Good (P:Program) (k:Value→Heap→Prop) (h:Heap) (w:World) (r:Result Next):Prop:=
 UponE P r fun v w'=>∃h',k v h'∧h'.sub w'∧Frm h w h' w'
theorem good_value {k:Value→Heap→Prop}{v:Value}{h':Heap}{w':World}(hk:k v h') (hs:h'.sub w') (hf:Frm h w h' w'):Good P k h w (.ok (.value v) w'):=⟨h',hk,hs,hf⟩
theorem fresh_new {k:Value→Heap→Prop}{f:Nat→Value}{cs:Array Value}{el:TypeId}(hs:h.sub w) (hk:∀b el,h b=none→k (f b) (h.set b (.cells cs el (0,0)))) :
  Good P k h w (.ok (.value (f w.heap.size)) (w.alloc (.cells cs el (0,0)))):=
 good_value (hk _ el (sub_fresh hs)) (sub_new hs _) (frm_new _)
structure AppS (P:Program) (w:World) (t u ty:TypeId) (by_ sz:Nat) (z:List Value) (y:Value) (n:Nat) (cs:List Value):Prop where
 size:cs.length=n*sz
 room:∀(p:Option Addr) (len cap:Nat),len+n≤cap→(Builtin.append_ #[t,u] ty #[.slice p len cap,y]).run P w=match p with
   | none=>.ok (.slice none (len+n) cap) w
   | some a=>((storeCells (a.add (len*sz)) cs).run P w).andThen fun _ w'=>.ok (.slice p (len+n) cap) w'
 grow:∀(p:Option Addr) (len cap:Nat) (old:List Value),SrcW P w sz (.slice p len cap) len old→cap<len+n→Builtin.nextslicecap (len+n) cap*by_≤2^48→len+n<2^62 →
  ∃el c,len+n≤c∧(Builtin.append_ #[t,u] ty #[.slice p len cap,y]).run P w =
   .ok (.slice (some ⟨w.heap.size,0,none⟩) (len+n) c) (w.drew.alloc (.cells (old++cs++reps (c-(len+n)) z).toArray el (0,0)))
theorem AppS.of_src {t u ty:TypeId}{by_ sz:Nat}{z:List Value}(he:elemOf P t=some (by_,sz,z)) (hu:srcOk P u sz=true) {y:Value}{n:Nat}{cs:List Value}(hS:SrcW P w sz y n cs):AppS P w t u ty by_ sz z y n cs:=by
 obtain⟨el,i,zv,hut,hi,hz,rfl,rfl,rfl,hzs,hpos⟩:=elemOf_spec he
 refine⟨hS.size,fun p len cap hle=>?_,fun p len cap old ho hlt hb hn=>?_⟩
 ·exact append_room hut hi hu hS hle
 ·obtain⟨c,h1,h2⟩:=append_grow (ty:=ty) hut hi hz hu hS ho hlt hb hn
  exact⟨el,c,h1,h2⟩
theorem AppS.of_int {t u ty:TypeId}{by_ sz:Nat}{z:List Value}(he:elemOf P t=some (by_,sz,z)) (hu:intOk P u=true) {k:IntKind}{m:Int}(h0:0≤m) (h62:m<2^62) (hby:m.toNat*by_≤2^48):AppS P w t u ty by_ sz z (.int k m) m.toNat (reps m.toNat z):=by
 obtain⟨el,i,zv,hut,hi,hz,rfl,rfl,rfl,hzs,hpos⟩:=elemOf_spec he
 obtain⟨n,rfl⟩:∃n:Nat,m=n:=⟨m.toNat,(Int.toNat_of_nonneg h0).symm⟩
 rw[Int.toNat_natCast] at hby ⊢
 have hn62:n<2^62:=by
  have:((2:Int)^62)=((2^62:Nat):Int):=by norm_cast
  omega
 obtain⟨kd,hkd⟩:∃kd,P.underlying u=some (.int kd):=by
  unfold intOk at hu
  split at hu
  ·rename_i kd h;exact⟨kd,h⟩
  ·simp at hu
 have hw:IntKind.i64.wrap (n:Int)=n:=by
  have:IntKind.i64.wrap (n:Int)=if (n:Int)%18446744073709551616≥9223372036854775808 then (n:Int)%18446744073709551616-18446744073709551616 else (n:Int)%18446744073709551616:=by
   simp[IntKind.wrap,IntKind.signed,IntKind.bits]
  rw[this]
  split<;>omega
 have hneg:¬((n:Int)<0):=by omega
 have hbig:¬((n:Int)*(i.bytes:Int) > 2^48):=by
  have:((n:Int)*(i.bytes:Int))=((n*i.bytes:Nat):Int):=by simp
  rw[this]
  have h2:((2:Int)^48)=((2^48:Nat):Int):=by norm_cast
  omega
 have hlz:zv.cells.toList.length=i.size:=by simpa using hzs
 have hai:∀w':World,(asInt (.int k (n:Int))).run P w'=.ok (n:Int) w':=fun w'=>by simp[asInt,asIntOf]
 have hzr:=fun w'=>run_zero_of hi hz w'
 have hsz0:n*i.size=0↔n=0:=by
  constructor
  ·intro h
   rcases Nat.mul_eq_zero.1 h with h | h
   ·exact h
   ·omega
  ·rintro rfl;simp
 refine⟨by rw[reps_length,hlz],fun p len cap hle=>?_,fun p len cap old ho hlt hb hn=>?_⟩
 ·by_cases hn0:n=0
  ·subst hn0
   have hle':len≤cap:=by omega
   have hw0:IntKind.i64.wrap 0=0:=by simpa using hw
   cases p with
   | none=>simp[Builtin.append_,run_underlying hut,run_sizeOf hi,run_underlying hkd,asInt,asIntOf,hw,hw0,run_typeInfo hi,reps,hle',storeCells]
   | some a=>simp[Builtin.append_,run_underlying hut,run_sizeOf hi,run_underlying hkd,asInt,asIntOf,hw,hw0,run_typeInfo hi,reps,hle',storeCells]
  ·have hns:¬n*i.size=0:=fun h=>hn0 (hsz0.1 h)
   have hns1:¬(n=0∨i.size=0):=by omega
   cases p with
   | none=>simp only[Builtin.append_,List.getElem?_toArray,List.getElem?_cons_zero,List.getElem?_cons_succ,Sem.run_bind,run_underlying hut,Result.andThen_ok,run_sizeOf hi,run_underlying hkd,Sem.run_pure,if_true,hai,hw,if_neg hneg,run_typeInfo hi,if_neg hbig,Int.toNat_natCast,if_pos hle,Bool.not_true,Bool.false_eq_true,if_false,if_neg hns,hzr,zeroCells_reps,Sem.run_ite]
   | some a=>simp only[Builtin.append_,List.getElem?_toArray,List.getElem?_cons_zero,List.getElem?_cons_succ,Sem.run_bind,run_underlying hut,Result.andThen_ok,run_sizeOf hi,run_underlying hkd,Sem.run_pure,if_true,hai,hw,if_neg hneg,run_typeInfo hi,if_neg hbig,Int.toNat_natCast,if_pos hle,Bool.not_true,Bool.false_eq_true,if_false,if_neg hns,hzr,zeroCells_reps,Sem.run_ite]
 ·refine⟨el,(Question.appendCap (len+n) cap el).cut (w.tape w.drawn (.appendCap (len+n) cap el)),by simp[Question.cut],?_⟩
  have hco:=ho.cells len (Nat.le_refl _) w.drew rfl
  rw[List.take_of_length_le (by rw[ho.size];exact Nat.le_refl _)] at hco
  have h63:¬((len+n:Nat):Int) > IntKind.i64.max:=by
   have:IntKind.i64.max=9223372036854775807:=by decide
   rw[this]
   omega
  have hnot:¬len+n≤cap:=by omega
  have hb':¬Builtin.nextslicecap (len+n) cap*i.bytes > 2^48:=by omega
  have e0:({ heap:=w.heap,tape:=w.tape,drawn:=w.drawn+1,os:=w.os,output:=w.output }:World)=w.drew:=rfl
  by_cases hn0:n*i.size=0
  ·have hn1:=hsz0.1 hn0
   simp only[Builtin.append_,List.getElem?_toArray,List.getElem?_cons_zero,List.getElem?_cons_succ,Sem.run_bind,run_underlying hut,Result.andThen_ok,run_sizeOf hi,run_underlying hkd,Sem.run_pure,if_true,hai,hw,
    if_neg hneg,if_neg hnot,run_typeInfo hi,if_neg hbig,if_neg hb',run_choose,Question.forced,run_askRoom,Sem.run_ite,h63,false_and,Int.toNat_natCast]
   rw[e0]
   simp only[hco,Result.andThen_ok,Bool.not_true,Bool.false_eq_true,if_false,if_pos hn0,hzr,zeroCells_reps,newRow,Sem.run_bind,run_newObj,Sem.run_pure]
   have hr0:reps n zv.cells.toList=[]:=by rw[hn1];simp[reps]
   rw[hr0]
   simp only[List.append_toArray,List.append_nil]
   rfl
  ·simp only[Builtin.append_,List.getElem?_toArray,List.getElem?_cons_zero,List.getElem?_cons_succ,Sem.run_bind,run_underlying hut,Result.andThen_ok,run_sizeOf hi,run_underlying hkd,Sem.run_pure,if_true,hai,hw,
    if_neg hneg,if_neg hnot,run_typeInfo hi,if_neg hbig,if_neg hb',run_choose,Question.forced,run_askRoom,Sem.run_ite,h63,false_and,Int.toNat_natCast]
   rw[e0]
   simp only[hco,Result.andThen_ok,Bool.not_true,Bool.false_eq_true,if_false,if_neg hn0,hzr,zeroCells_reps,newRow,Sem.run_bind,run_newObj,Sem.run_pure]
   simp only[List.append_toArray]
   rfl
theorem ex_app {xs:Array Operand}{t u ty:TypeId}{x:Operand}{yv:Value}(hxm:x∈xs) {by_ sz:Nat}{z:List Value}{a b:AO}{k:Value→Heap→Prop}(he:elemOf P t=some (by_,sz,z)) (hx:appO lay x=some a)
  (hS':∀n cs,b.src h e sz=some (n,cs)→AppS P w t u ty by_ sz z yv n cs)
  (hagx:Ag lay e ρ x) (hps:PrivS lay e h w ρ xs) (hs:h.sub w) (hwp:(EX.app by_ sz z a b).wp P e h k) :
  ∃v w',(Builtin.append_ #[t,u] ty #[ρ x,yv]).run P w=.ok v w'∧∃h',k v h'∧h'.sub w'∧Frm h w h' w':=by
 obtain⟨el,i,zv,hut,hi,hz,rfl,rfl,rfl,hzs,hpos⟩:=elemOf_spec he
 simp only[EX.wp] at hwp
 obtain⟨n,cs,hsrc,hwp⟩:=hwp
 have hS:=hS' n cs hsrc
 cases a with
 | o xo=>
  simp only at hwp
  obtain⟨p,len,cap,hp,hroom,hgrow⟩:=hwp
  have hxo:opr lay x=some xo:=by
   cases x with
   | tmp t'=>
    simp only[appO] at hx
    split at hx
    ·rename_i i' hi';simp only[Option.some.injEq,AO.o.injEq] at hx;subst hx;simp[opr,plainAt,hi']
    ·simp at hx
    ·simp at hx
   | const v=>simp only[appO,Option.map_eq_some_iff,AO.o.injEq] at hx;obtain⟨_,h1,rfl⟩:=hx;exact h1
   | global g=>simp only[appO,Option.map_eq_some_iff,AO.o.injEq] at hx;obtain⟨_,h1,rfl⟩:=hx;exact h1
   | func f=>simp only[appO,Option.map_eq_some_iff,AO.o.injEq] at hx;obtain⟨_,h1,rfl⟩:=hx;exact h1
  rw[ag_get hagx hxo hp]
  by_cases hle:len+n≤cap
  ·have hk:=hroom hle
   rw[hS.room _ _ _ hle]
   clear hroom hgrow
   clear hp
   revert hk
   match p with
   | none=>intro hk;exact⟨_,_,rfl,h,hk.2,hs,Frm.refl _ _⟩
   | some ⟨b',off,some _⟩=>intro hk;exact hk.elim
   | some ⟨b',off,none⟩=>
    intro hk
    simp only at hk ⊢
    rw[addr_add0]
    rcases hk with ⟨rfl,hk⟩ | ⟨h',hst,hk⟩
    ·exact⟨_,w,by simp[storeCells],h,hk,hs,Frm.refl _ _⟩
    ·obtain⟨w',hr,hs',hf⟩:=hstore_run (P:=P) hs hst
     exact⟨_,w',by rw[hr];rfl,h',hk,hs',hf⟩
  ·obtain⟨m,old,ho,hb,hn,hk⟩:=hgrow (by omega)
   have hO:=srcV_run (P:=P) hs ho
   have hm:m=len:=by
    have:=hO.len w
    simp[Builtin.lenOf] at this
    exact this.symm
   subst hm
   obtain⟨el,c,hc,hr⟩:=hS.grow _ _ _ _ hO (by omega) hb hn
   exact⟨_,_,hr,_,hk _ el c (sub_fresh hs) hc,sub_new (w:=w.drew) (sub_drew hs) _,frm_drew (frm_new (w:=w.drew) _)⟩
 | p m j=>
  simp only at hwp
  obtain⟨rfl,⟨c0,hc0⟩,h0,hpos'⟩:=hwp
  -- the base is a private slice without elements
  cases x with
  | tmp t'=>
   simp only[appO] at hx
   split at hx
   ·simp at hx
   ·rename_i i' m' hi'
    simp only[Option.some.injEq,AO.p.injEq] at hx
    obtain⟨rfl,rfl⟩:=hx
    obtain⟨bb,el',h1,h2,h3⟩:=hps t' i' 0 c0 hxm hi' hc0
    rw[h1]
    by_cases hn0:n=0
    ·subst hn0
     have hcs:cs=[]:=by
      have:=hS.size
      simpa using this
     subst hcs
     rw[hS.room _ _ _ (by omega)]
     exact⟨.slice (some ⟨bb,0,none⟩) 0 0,w,by simp[storeCells],h,h0 rfl _,hs,Frm.refl _ _⟩
    ·obtain⟨hb,hn,hk⟩:=hpos' (by omega)
     have hO:SrcW P w i.size (.slice (some ⟨bb,0,none⟩) 0 0) 0 []:=
      ⟨fun w=>by simp[Builtin.lenOf],by simp,fun m hm w' _=>by
       obtain rfl:m=0:=by omega
       simp[Builtin.firstCells,loadCells,loadCellsFrom]⟩
     obtain⟨el,c,hc,hr⟩:=hS.grow _ _ _ _ hO (by omega) (by simpa using hb) (by simpa using hn)
     refine⟨_,_,hr,_,?_,sub_new (w:=w.drew) (sub_drew hs) _,frm_drew (frm_new (w:=w.drew) _)⟩
     have:=hk _ el c (sub_fresh hs) (by simpa using hc)
     simpa using this
   ·simp at hx
  | const v=>simp[appO,Option.map_eq_some_iff] at hx
  | global g=>simp[appO,Option.map_eq_some_iff] at hx
  | func f=>simp[appO,Option.map_eq_some_iff] at hx
 | z _ _ _=>exact hwp.elim
end
section
variable {P:Program}{lay:Lay}{e:Env}{ρ:Operand→Value}{h:Heap}{w:World}
theorem good_of {k:Value→Heap→Prop}{s:Sem Value}(hx:∃v w',s.run P w=.ok v w'∧∃h',k v h'∧h'.sub w'∧Frm h w h' w') :
  Good P k h w ((do pure (.value (← s)):Sem Next).run P w):=by
 obtain⟨v,w',hr,hh⟩:=hx
 simp only[Sem.run_bind,hr,Result.andThen_ok,Sem.run_pure]
 exact hh
theorem partsBls {t:TypeId}{len sz:Nat}{ps:Array (Nat×Operand)}{z:List Value}{l:List (Nat×Nat×O)}{cs:List Value}(hb:blsOf P lay t len ps=some (sz,z,l)) (hf:fillP e (reps len z) l=some cs)
  (hag:∀y∈ps.toList,Ag lay e ρ y.2) :
  ∃el,0<sz∧(Instr.buildSlice t len (ps.map fun (i,x)=>(i,ρ x))).run P w=.ok (.slice (some ⟨w.heap.size,0,none⟩) len len) (w.alloc (.cells cs.toArray el (0,0))):=by
 unfold blsOf at hb
 split at hb
 ·rename_i el hu
  split at hb
  ·rename_i i hi
   split at hb
   ·rename_i zv hz
    split at hb
    ·rename_i hc
     obtain⟨hlen,hzs,hpos⟩:=hc
     simp only[Option.map_eq_some_iff,Prod.mk.injEq] at hb
     obtain⟨l',hl',rfl,rfl,rfl⟩:=hb
     have hfill:=partsAt_spec (ρ:=ρ) hl' hf hag
     refine⟨el,hpos,?_⟩
     have hgt:¬len*i.size > 2^24:=by omega
     by_cases h0:len*i.size=0
     ·have hl0:len=0:=by
       rcases Nat.mul_eq_zero.1 h0 with h | h
       ·exact h
       ·omega
      subst hl0
      simp only[Instr.buildSlice,Sem.run_bind,run_underlying hu,Result.andThen_ok,run_sizeOf hi,if_neg hgt,if_pos h0,Sem.run_pure]
      rw[show (Array.map (fun x=>(#[]:Array Value)[x%(#[]:Array Value).size]!) (Array.range (0*i.size)))=(reps 0 zv.cells.toList).toArray by simp[reps]]
      simp only[Array.toList_map]
      simp only[hfill]
      rfl
     ·simp only[Instr.buildSlice,Sem.run_bind,run_underlying hu,Result.andThen_ok,run_sizeOf hi,if_neg hgt,if_neg h0,Sem.run_pure,run_zero_of hi hz]
      rw[reps_cells hzs len]
      simp only[Array.toList_map]
      simp only[hfill]
      rfl
    ·simp at hb
   ·simp at hb
  ·simp at hb
 ·simp at hb
theorem calls_good {f:FuncId}{vs:List Value}{k:Value→Heap→Prop}(hs:h.sub w) (hc:CallE P f vs h k):Good P k h w ((callFunc f vs.toArray).run P w):=by
 have:=hc w hs
 refine Landed.upon (R:=fun v w'=>∃h',k v h'∧h'.sub w'∧Frm h w h' w') ?_
 unfold Landed at *
 split at this
 ·exact Calls.mono this fun e w' ⟨v,h',he,hk,hs',hf⟩=>⟨v,he,h',hk,hs',hf⟩
 ·obtain⟨v',h',he,hk,hs',hf⟩:=this
  exact⟨v',he,h',hk,hs',hf⟩
 ·exact this.elim
theorem run_checkFields {b:Bool}{xs:Array Value}{d:Nat}:∀{fs:List Field}{i:Nat}{ks:List BK},flatFields P fs i=some ks→(eqL ks (xs.toList.drop i) (xs.toList.drop i)).isSome=true→∀w,
  (forIn fs PUnit.unit fun f _=>(do
   if f.name≠"_" then Instr.checkKey b (d+1) f.type (← part f.type xs f.offset)
   pure (ForInStep.yield PUnit.unit):Sem (ForInStep PUnit))).run P w=.ok PUnit.unit w
 | [],i,ks,h,he,w=>by simp
 | f::fs,i,ks,h,he,w=>by
  simp only[flatFields] at h
  split at h
  ·rename_i k l hk hl
   split at h
   ·rename_i ho
    obtain⟨hoff,hname⟩:=ho
    simp only[Option.some.injEq] at h
    subst h
    cases hx:xs.toList.drop i with
    | nil=>simp[hx,eqL] at he
    | cons a x'=>
     rw[hx] at he
     simp only[eqL] at he
     have hx':xs.toList.drop (i+1)=x':=by rw[← List.tail_drop,hx];rfl
     have hxa:xs[i]? = some a:=by
      rw[← Array.getElem?_toList,← List.head?_drop,hx];rfl
     have he':(eqL l (xs.toList.drop (i+1)) (xs.toList.drop (i+1))).isSome=true:=by
      rw[hx']
      cases h1:eqB k a a<;>cases h2:eqL l x' x'<;>simp[h1,h2] at he ⊢
     have ih:=run_checkFields (b:=b) (d:=d) hl he' w
     have pa:∀w,(part f.type xs f.offset).run P w=.ok a w:=fun w=>by simp[part,basicT_agg hk w,hoff,hxa]
     have hc:(Instr.checkKey b (d+1) f.type a).run P w=.ok () w:=by
      unfold basicT at hk
      cases hu:P.underlying f.type with
      | none=>simp[hu] at hk
      | some u=>cases u<;>simp[hu] at hk<;>simp[Instr.checkKey,run_underlying hu]
     simp only[List.forIn_cons,Sem.run_bind,hname,ne_eq,not_false_eq_true,if_true,pa,Result.andThen_ok,hc,Sem.run_pure]
     exact ih
   ·simp at h
  ·simp at h
theorem keyT_check {kt:TypeId}{K:KT}(hK:keyT P kt=some K) {v:Value}(hv:(keyEq K v v).isSome=true) (b:Bool) (d:Nat) (w:World):(Instr.checkKey b (d+2) kt v).run P w=.ok () w:=by
 unfold keyT at hK
 split at hK
 ·rename_i k hk
  unfold basicT at hk
  cases hu:P.underlying kt with
  | none=>simp[hu] at hk
  | some u=>cases u<;>simp[hu] at hk<;>simp[Instr.checkKey,run_underlying hu]
 ·simp only[Option.map_eq_some_iff] at hK
  obtain⟨ks,hks,rfl⟩:=hK
  cases v<;>simp[keyEq] at hv
  rename_i cs
  unfold flatT at hks
  cases hu:P.underlying kt with
  | none=>simp[hu] at hks
  | some u=>
   cases u<;>simp[hu] at hks
   rename_i fs
   unfold Instr.checkKey
   simp only[Sem.run_bind,run_underlying hu,Result.andThen_ok]
   rw[← Array.forIn_toList]
   have:=run_checkFields (P:=P) (b:=b) (d:=d) (xs:=cs) hks.2 (by simpa using hv) w
   rw[this]
   rfl
theorem findNow_basic {d:TypeDesc}{k:BK}(hd:match k with | .i=>∃j,d=.int j | .b=>d=.bool | .s=>d=.string) {v:Value}:∀{es:List MapEntry}{i:Nat}{r:Option (Nat×Value)},mfind (.one k) v es i=some r→Instr.findNow d v es i=some r
 | [],i,r,h=>by simp[mfind] at h;subst h;simp[Instr.findNow]
 | x::es,i,r,h=>by
  have hsame:∀t,eqB k v x.key=some t→Instr.sameNow d v x.key=some t:=by
   intro t ht
   cases k<;>simp only at hd
   ·obtain⟨j,rfl⟩:=hd
    cases v<;>cases hxk:x.key<;>simp[hxk,eqB] at ht
    obtain⟨h1,rfl⟩:=ht
    simp[Instr.sameNow,h1,beq_dec]
   ·subst hd
    cases v<;>cases hxk:x.key<;>simp[hxk,eqB] at ht
    simp[Instr.sameNow,ht]
   ·subst hd
    cases v<;>cases hxk:x.key<;>simp[hxk,eqB] at ht
    simp only[Instr.sameNow,Option.some.injEq]
    rw[← ht,beq_toListBytes,ByteArray.toList_eq,ByteArray.toList_eq,beq_dec]
    simp
  simp only[mfind,keyEq] at h
  split at h
  ·rename_i ht;simp only[Option.some.injEq] at h;subst h;simp[Instr.findNow,hsame _ ht]
  ·rename_i ht;simp only[Instr.findNow,hsame _ ht];exact findNow_basic hd h
  ·simp at h
theorem findAsking_run {kt:TypeId}{ks:List BK}(hks:flatT P kt=some ks) {v:Value}:∀{es:List MapEntry}{i:Nat}{r:Option (Nat×Value)},mfind (.many ks) v es i=some r→∀w,(Instr.findAsking kt v es i).run P w=.ok r w
 | [],i,r,h,w=>by simp[mfind] at h;subst h;simp[Instr.findAsking]
 | x::es,i,r,h,w=>by
  have hsame:∀t,keyEq (.many ks) v x.key=some t→(Op.equal kt v x.key).run P w=.ok t w:=by
   intro t ht
   cases v<;>cases hxk:x.key<;>simp[hxk,keyEq] at ht
   exact eqf_run (d:=9998) hks ht w
  simp only[mfind] at h
  split at h
  ·rename_i ht;simp only[Option.some.injEq] at h;subst h;simp[Instr.findAsking,hsame _ ht]
  ·rename_i ht;simp only[Instr.findAsking,Sem.run_bind,hsame _ ht,Result.andThen_ok,Bool.false_eq_true,if_false];exact findAsking_run hks h w
  ·simp at h
theorem findKey_run {kt:TypeId}{K:KT}(hK:keyT P kt=some K) {v:Value}{es:List MapEntry}{r:Option (Nat×Value)}(h:mfind K v es 0=some r) (w:World):(Instr.findKey kt v es).run P w=.ok r w:=by
 unfold keyT at hK
 split at hK
 ·rename_i k hk
  simp only[Option.some.injEq] at hK;subst hK
  unfold basicT at hk
  cases hu:P.underlying kt with
  | none=>simp[hu] at hk
  | some u=>
   cases u<;>simp[hu] at hk<;>subst hk<;>simp only[Instr.findKey,Sem.run_bind,run_underlying hu,Result.andThen_ok]
   ·rw[findNow_basic (k:=.b) rfl h];rfl
   ·rw[findNow_basic (k:=.i) ⟨_,rfl⟩ h];rfl
   ·rw[findNow_basic (k:=.s) rfl h];rfl
 ·simp only[Option.map_eq_some_iff] at hK
  obtain⟨ks,hks,rfl⟩:=hK
  have hks':=hks
  unfold flatT at hks
  cases hu:P.underlying kt with
  | none=>simp[hu] at hks
  | some u=>
   cases u<;>simp[hu] at hks
   simp only[Instr.findKey,Sem.run_bind,run_underlying hu,Result.andThen_ok]
   cases es with
   | nil=>simp[mfind] at h;subst h;rfl
   | cons x es=>simp only[Instr.findNow,Instr.sameNow];exact findAsking_run hks' h w
theorem run_getObj_map {r:Nat}{es:Array MapEntry}{clock:Nat}(hg:w.heap[r]? = some (.map es clock)):(getObj r).run P w=.ok (.map es clock) w:=by
 simp[getObj,Sem.run,hg]
theorem run_setObj_map {r:Nat}{es es':Array MapEntry}{clock clock':Nat}(hs:h.sub w) (hg:h r=some (.map es clock)) :
  ∃w',(setObj r (.map es' clock')).run P w=.ok () w'∧(h.set r (.map es' clock')).sub w'∧Frm h w (h.set r (.map es' clock')) w':=by
 have hw:=hs _ _ hg
 have hlt:r<w.heap.size:=(Array.getElem?_eq_some_iff.1 hw).1
 refine⟨{ w with heap:=w.heap.setIfInBounds r (.map es' clock') },by simp[setObj,Sem.run,hw],?_,?_⟩
 ·intro b o hb
  unfold Heap.set at hb
  split at hb
  ·rename_i hbb;subst hbb;simp only[Option.some.injEq] at hb;subst hb
   simp[hlt]
  ·rename_i hne
   simp[Ne.symm hne,hs _ _ hb]
 ·refine⟨rfl,rfl,rfl,by simp,?_,?_⟩
  ·intro b hb hn
   have hne:r≠b:=fun he=>by subst he;rw[hg] at hn;simp at hn
   simp[hne]
  ·intro b hb hn
   have hne:b≠r:=fun he=>by subst he;rw[hg] at hn;simp at hn
   unfold Heap.set;rw[if_neg hne];exact hn
theorem ex_run {o:Oper}{x:EX}{k:Value→Heap→Prop}(hx:cex P lay o.op=some x) (hag:∀y∈o.op.operands,Ag lay e ρ y) (hps:PrivS lay e h w ρ o.op.operands) (hs:h.sub w) (hwp:x.wp P e h k) :
  Good P k h w ((execOp ρ o).run P w):=by
 obtain⟨dst,op,type,pos,after,guard⟩:=o
 cases op
 case store t y z=>
  simp only[cex] at hx
  split at hx
  ·rename_i a b i ha hb hi
   simp only[Option.some.injEq] at hx;subst hx
   simp only[EX.wp] at hwp
   obtain⟨bb,off,v,h',hp,hv,hsz,hst,hk⟩:=hwp
   have e1:=ag_get (hag y (by simp[Op.operands])) ha hp
   have e2:=ag_get (hag z (by simp[Op.operands])) hb hv
   obtain⟨w',hr,hs',hf⟩:=hstore_run (P:=P) hs hst
   simp only[execOp,e1,e2,Instr.storeAt,Instr.sureAddr,storeVar,Sem.run_bind,Sem.run_pure,Result.andThen_ok,run_sizeOf hi,hsz,ne_eq,not_true_eq_false,if_false,hr]
   exact⟨h',hk,hs',hf⟩
  ·simp at hx
 case alloc t=>
  simp only[cex,Option.map_eq_some_iff] at hx
  obtain⟨z,hz,rfl⟩:=hx
  simp only[EX.wp,O.get] at hwp
  obtain⟨v,hv,hk⟩:=hwp
  simp only[Option.some.injEq] at hv;subst hv
  have hr:(Instr.alloc t true (.tuple #[])).run P w=.ok (.pointer (some ⟨w.heap.size,0,none⟩)) (w.alloc (.cells z.cells t (0,0))):=by
   simp only[Instr.alloc,Sem.run_bind,run_zeroValue hz,Result.andThen_ok,newVar,newRow,run_newObj,Sem.run_pure]
   rfl
  simp only[execOp,Sem.run_bind,hr,Result.andThen_ok,Sem.run_pure]
  exact fresh_new (f:=fun b=>.pointer (some ⟨b,0,none⟩)) hs hk
 case box t y=>
  simp only[cex,Option.map_eq_some_iff] at hx
  obtain⟨a,ha,rfl⟩:=hx
  simp only[EX.wp] at hwp
  obtain⟨v,hv,hk⟩:=hwp
  have hr:(Instr.box t (ρ y)).run P w=.ok (.pointer (some ⟨w.heap.size,0,none⟩)) (w.alloc (.cells v.cells t (0,0))):=by
   simp only[ag_get (hag y (by simp[Op.operands])) ha hv,Instr.box,newVar,newRow,Sem.run_bind,run_newObj,Result.andThen_ok,Sem.run_pure]
   rfl
  simp only[execOp,Sem.run_bind,hr,Result.andThen_ok,Sem.run_pure]
  exact fresh_new (f:=fun b=>.pointer (some ⟨b,0,none⟩)) hs hk
 case makeSlice t l c=>
  simp only[cex] at hx
  split at hx
  ·rename_i by_ sz z lo co he hl hc
   simp only[Option.some.injEq] at hx;subst hx
   obtain⟨el,i,zv,hut,hi,hz,rfl,rfl,rfl,hzs,hpos⟩:=elemOf_spec he
   simp only[EX.wp] at hwp
   obtain⟨n,m,j,j',hn,hm,hle,hlt,hb,hk⟩:=hwp
   have e1:=ag_get (hag l (by simp[Op.operands])) hl hn
   have e2:=ag_get (hag c (by simp[Op.operands])) hc hm
   have w1:IntKind.i64.wrap (n:Int)=n:=by simp only[IntKind.wrap,IntKind.bits,IntKind.signed];simp;omega
   have w2:IntKind.i64.wrap (m:Int)=m:=by simp only[IntKind.wrap,IntKind.bits,IntKind.signed];simp;omega
   have c1:¬((m:Int)<0):=by omega
   have c2:¬((i.bytes:Int)*m > 2^48):=by
    have:((i.bytes*m:Nat):Int)≤((2^48:Nat):Int):=by exact_mod_cast hb
    rw[Int.natCast_mul] at this
    have h2:((2^48:Nat):Int)=2^48:=by rfl
    rw[h2] at this
    omega
   have c3:¬((n:Int)<0):=by omega
   have c4:¬((n:Int) > m):=by omega
   have hr:(Instr.makeSlice t (.int j n) (.int j' m)).run P w=.ok (.slice (some ⟨w.heap.size,0,none⟩) n m) (w.alloc (.cells (reps m zv.cells.toList).toArray el (0,0))):=by
    simp only[Instr.makeSlice,Sem.run_bind,run_underlying hut,Result.andThen_ok,asInt,asIntOf,Sem.run_pure,run_typeInfo hi,w1,w2,c1,c2,c3,c4,decide_false,Bool.or_false,Bool.false_eq_true,if_false,run_askRoom,run_sizeOf hi,Int.toNat_natCast]
    by_cases h0:m*i.size=0
    ·have hl0:m=0:=by
      rcases Nat.mul_eq_zero.1 h0 with h | h
      ·exact h
      ·omega
     subst hl0
     simp only[if_pos h0,Sem.run_bind,Sem.run_pure,Result.andThen_ok]
     rw[show (Array.map (fun x=>(#[]:Array Value)[x%(#[]:Array Value).size]!) (Array.range (0*i.size)))=(reps 0 zv.cells.toList).toArray by simp[reps]]
     rfl
    ·simp only[if_neg h0,Sem.run_bind,run_zero_of hi hz,Sem.run_pure,Result.andThen_ok]
     rw[reps_cells hzs m]
     rfl
   simp only[execOp,e1,e2,Sem.run_bind,hr,Result.andThen_ok,Sem.run_pure]
   exact fresh_new (f:=fun b=>.slice (some ⟨b,0,none⟩) n m) hs hk
  ·simp at hx
 case buildSlice t len ps=>
  simp only[cex,Option.map_eq_some_iff] at hx
  obtain⟨⟨sz,z,l⟩,hb,rfl⟩:=hx
  simp only[EX.wp] at hwp
  obtain⟨cs,hcs,hk⟩:=hwp
  obtain⟨el,_,hr⟩:=partsBls (w:=w) hb hcs (fun y hy=>hag y.2 (by simp[Op.operands];exact⟨y.1,by simpa using hy⟩))
  simp only[execOp,Sem.run_bind,hr,Result.andThen_ok,Sem.run_pure]
  exact fresh_new (f:=fun b=>.slice (some ⟨b,0,none⟩) len len) hs hk
 case convert src dst y=>
  simp only[cex] at hx
  split at hx
  ·rename_i el a hus hud ha
   split at hx
   ·rename_i hue
    simp only[Option.some.injEq] at hx;subst hx
    simp only[EX.wp] at hwp
    obtain⟨b,off,n,cap,l,hp,hc,hk⟩:=hwp
    have e1:=ag_get (hag y (by simp[Op.operands])) ha hp
    have hl:=loadCells_run (P:=P) hs hc
    have hm:(l.map fun x=>Value.int .u8 x.toNat)=(l.map fun x:UInt8=>(x.toNat:Int)).map (Value.int .u8):=by rw[List.map_map];rfl
    rw[hm] at hl
    have hf:∀(l:List UInt8) (s:ByteArray),(l.map fun x:UInt8=>(x.toNat:Int)).foldl (fun r n=>r.push (UInt8.ofNat n.toNat)) s=⟨s.data++l.toArray⟩:=by
     intro l
     induction l with
     | nil=>intro s;simp
     | cons x l ih=>
      intro s
      rw[List.map_cons,List.foldl_cons,ih]
      congr 1
      simp[ByteArray.push]
    have hr:(convert src dst (.slice (some ⟨b,off,none⟩) n cap)).run P w=.ok (.string ⟨l.toArray⟩) w:=by
     rw[run_convert_bytes_string w src dst el _ n cap hus hue hud,run_bytesToString w _ n cap _ hl,hf]
     congr 1
     simp
    simp only[execOp,e1,Sem.run_bind,hr,Result.andThen_ok,Sem.run_pure]
    exact good_value hk hs (Frm.refl _ _)
   ·simp at hx
  ·simp at hx
 case makeMap t r=>
  cases r with
  | some y=>simp[cex] at hx
  | none=>
   simp only[cex,Option.some.injEq] at hx;subst hx
   simp only[EX.wp] at hwp
   have hr:(Instr.makeMap t (none.map ρ)).run P w=.ok (.map (some w.heap.size)) (w.alloc (.map #[] 0)):=rfl
   simp only[execOp,Sem.run_bind,hr,Result.andThen_ok,Sem.run_pure]
   exact good_value (hwp _ (sub_fresh hs)) (sub_new hs _) (frm_new _)
 case lookup t m y ok=>
  simp only[cex] at hx
  split at hx
  ·rename_i kt el mo yo hu hm hy
   split at hx
   ·rename_i z K hz hK
    simp only[Option.some.injEq] at hx;subst hx
    simp only[EX.wp] at hwp
    obtain⟨b,es,clock,kv,r,h1,h2,h3,h4,h5,hk⟩:=hwp
    have e1:=ag_get (hag m (by simp[Op.operands])) hm h1
    have e2:=ag_get (hag y (by simp[Op.operands])) hy h3
    have hr:(Instr.lookup t (.map (some b)) kv ok).run P w=.ok (let (v,t):=match r with | some (_,v)=>(v,true) | none=>(z,false)
      if ok then .tuple #[v,.bool t] else v) w:=by
     simp only[Instr.lookup,Sem.run_bind,run_underlying hu,Result.andThen_ok,run_getObj_map (hs _ _ h2),Sem.run_pure,keyT_check hK h4 _ 9998,findKey_run hK h5]
     cases r with
     | none=>simp only[Sem.run_bind,run_zeroValue hz,Result.andThen_ok,Sem.run_pure]
     | some p=>simp only[Sem.run_bind,Sem.run_pure,Result.andThen_ok]
    simp only[execOp,e1,e2,Sem.run_bind,hr,Result.andThen_ok,Sem.run_pure]
    exact good_value hk hs (Frm.refl _ _)
   ·simp at hx
  ·simp at hx
 case mapUpdate t m y z=>
  simp only[cex] at hx
  split at hx
  ·rename_i kt el mo yo zo hu hm hy hz
   simp only[Option.map_eq_some_iff] at hx
   obtain⟨K,hK,rfl⟩:=hx
   simp only[EX.wp] at hwp
   obtain⟨b,es,clock,kv,v,r,h1,h2,h3,h3',h4,h5,hk⟩:=hwp
   have e1:=ag_get (hag m (by simp[Op.operands])) hm h1
   have e2:=ag_get (hag y (by simp[Op.operands])) hy h3
   have e3:=ag_get (hag z (by simp[Op.operands])) hz h3'
   cases r with
   | none=>
    simp only at hk
    obtain⟨w',hr,hs',hf⟩:=run_setObj_map (P:=P) (es':=es.push { key:=kv,val:=v,born:=clock }) (clock':=clock+1) hs h2
    have hr':(Instr.mapUpdate t (.map (some b)) kv v).run P w=.ok () w':=by
     simp only[Instr.mapUpdate,Sem.run_bind,run_underlying hu,Result.andThen_ok,run_getObj_map (hs _ _ h2),keyT_check hK h4 _ 9998,findKey_run hK h5,hr]
    simp only[execOp,e1,e2,e3,Sem.run_bind,hr',Result.andThen_ok,Sem.run_pure]
    exact⟨_,hk,hs',hf⟩
   | some p=>
    obtain⟨i,pv⟩:=p
    simp only at hk
    have hstay:∀old,∃key w1,(Instr.keyThatStays old kv).run P w=.ok key w1∧(w1=w∨w1=w.drew):=by
     intro old
     unfold Instr.keyThatStays
     split
     ·exact⟨kv,w,rfl,.inl rfl⟩
     ·simp only[Sem.run_bind,run_choose,Question.forced]
      exact⟨_,w.drew,rfl,.inr rfl⟩
    obtain⟨key,w1,hk1,hw1⟩:=hstay (((es[i]?).map (·.key)).getD kv)
    have hs1:h.sub w1:=by rcases hw1 with rfl | rfl<;>exact hs
    obtain⟨w',hr,hs',hf⟩:=run_setObj_map (P:=P) (es':=es.modify i fun e=>{ e with key,val:=v }) (clock':=clock) hs1 h2
    have hf':Frm h w (h.set b (.map (es.modify i fun e=>{ e with key,val:=v }) clock)) w':=by
     rcases hw1 with rfl | rfl
     ·exact hf
     ·exact frm_drew hf
    have hr':(Instr.mapUpdate t (.map (some b)) kv v).run P w=.ok () w':=by
     simp only[Instr.mapUpdate,Sem.run_bind,run_underlying hu,Result.andThen_ok,run_getObj_map (hs _ _ h2),keyT_check hK h4 _ 9998,findKey_run hK h5,hk1,hr]
    simp only[execOp,e1,e2,e3,Sem.run_bind,hr',Result.andThen_ok,Sem.run_pure]
    exact⟨_,hk key,hs',hf'⟩
  ·simp at hx
 case call c=>
  simp only[cex] at hx
  split at hx
  ·-- append
   rename_i hc
   split at hx
   ·rename_i t u x1 x2 ht hxs
    split at hx
    ·rename_i by_ sz z a b he ha hb
     split at hx
     ·rename_i hu
      simp only[Option.some.injEq] at hx;subst hx
      have h1:c.argTypes = #[t,u]:=by rw[← Array.toList_inj,ht]
      have h2:c.args = #[x1,x2]:=by rw[← Array.toList_inj,hxs]
      have hA:=hag x1 (by simp[Op.operands,Call.operands,h2])
      have hB:=hag x2 (by simp[Op.operands,Call.operands,h2])
      have:=good_of (ex_app (u:=u) (ty:=type) (by simp[Op.operands,Call.operands,h2]) he ha (fun n cs hsrc=>AppS.of_src he hu (appO_src (P:=P) (x:=x2) (by simp[Op.operands,Call.operands,h2]) hb hB hps hs hsrc)) hA hps hs hwp)
      simpa[execOp,resolve,hc,h1,h2,invoke,builtin] using this
     ·split at hx
      ·rename_i hu
       simp only[Option.map_eq_some_iff] at hx
       obtain⟨o,ho,rfl⟩:=hx
       have h1:c.argTypes = #[t,u]:=by rw[← Array.toList_inj,ht]
       have h2:c.args = #[x1,x2]:=by rw[← Array.toList_inj,hxs]
       have hA:=hag x1 (by simp[Op.operands,Call.operands,h2])
       have hB:=hag x2 (by simp[Op.operands,Call.operands,h2])
       have:=good_of (ex_app (u:=u) (yv:=ρ x2) (ty:=type) (by simp[Op.operands,Call.operands,h2]) he ha (fun n cs hsrc=>by
        simp only[AO.src] at hsrc
        split at hsrc
        ·rename_i kd m hm
         split at hsrc
         ·rename_i hc4
          simp only[Option.some.injEq,Prod.mk.injEq] at hsrc
          obtain⟨rfl,rfl⟩:=hsrc
          rw[ag_get hB ho hm]
          exact AppS.of_int he hu hc4.1 hc4.2.1 hc4.2.2.1
         ·simp at hsrc
        ·simp at hsrc) hA hps hs hwp)
       simpa[execOp,resolve,hc,h1,h2,invoke,builtin] using this
      ·simp at hx
    ·simp at hx
   ·simp at hx
  ·-- copy
   rename_i hc
   split at hx
   ·rename_i t u x1 x2 ht hxs
    split at hx
    ·rename_i by_ sz z a b he ha hb
     split at hx
     ·rename_i hu
      simp only[Option.some.injEq] at hx;subst hx
      obtain⟨el,i,zv,hut,hi,hz,rfl,rfl,rfl,hzs,hpos⟩:=elemOf_spec he
      have h1:c.argTypes = #[t,u]:=by rw[← Array.toList_inj,ht]
      have h2:c.args = #[x1,x2]:=by rw[← Array.toList_inj,hxs]
      have hA:=hag x1 (by simp[Op.operands,Call.operands,h2])
      have hB:=hag x2 (by simp[Op.operands,Call.operands,h2])
      simp only[EX.wp] at hwp
      obtain⟨p,n,m,cap,cs,hp,hsrc,hk⟩:=hwp
      have e1:=ag_get hA ha hp
      cases hg:b.get e with
      | none=>rw[hg] at hsrc;simp[srcV] at hsrc
      | some v=>
       rw[hg] at hsrc
       have e2:=ag_get hB hb hg
       have hS:=srcV_run (P:=P) hs hsrc
       have hmin:min m n≤m:=Nat.min_le_left _ _
       have hcells:=hS.cells (Nat.min m n) hmin w rfl
       have hx:∃v' w',(Builtin.copy_ #[t,u] type #[.slice p n cap,v]).run P w=.ok v' w'∧∃h',k v' h'∧h'.sub w'∧Frm h w h' w':=by
        have hrun:(Builtin.copy_ #[t,u] type #[.slice p n cap,v]).run P w=match p with
          | none=>.ok (goInt (Nat.min m n)) w
          | some a=>((storeCells a (cs.take (Nat.min m n*i.size))).run P w).andThen fun _ w'=>.ok (goInt (Nat.min m n)) w':=by
         cases p<;>simp only[Builtin.copy_,List.getElem?_toArray,List.getElem?_cons_zero,List.getElem?_cons_succ,Sem.run_bind,run_underlying hut,Result.andThen_ok,hS.len,run_sizeOf hi,hcells,Sem.run_pure]
        rw[hrun]
        cases p with
        | none=>exact⟨_,w,rfl,h,hk,hs,Frm.refl _ _⟩
        | some a=>
         obtain⟨b',off,sp⟩:=a
         cases sp with
         | some _=>exact hk.elim
         | none=>
          simp only at hk ⊢
          obtain⟨h',hst,hk⟩:=hk
          obtain⟨w',hr,hs',hf⟩:=hstore_run (P:=P) hs hst
          exact⟨_,w',by rw[hr];rfl,h',hk,hs',hf⟩
       have:=good_of hx
       simpa[execOp,resolve,hc,h1,h2,invoke,builtin,e1,e2] using this
     ·simp at hx
    ·simp at hx
   ·simp at hx
  ·-- the length of a map
   rename_i hc
   split at hx
   ·rename_i t x1 ht hxs
    split at hx
    ·rename_i kt el a hu ha
     simp only[Option.some.injEq] at hx;subst hx
     have h1:c.argTypes = #[t]:=by rw[← Array.toList_inj,ht]
     have h2:c.args = #[x1]:=by rw[← Array.toList_inj,hxs]
     have hA:=hag x1 (by simp[Op.operands,Call.operands,h2])
     simp only[EX.wp] at hwp
     obtain⟨b,es,clock,hm,hg,hk⟩:=hwp
     have e1:=ag_get hA ha hm
     have hr:(Builtin.len_ #[t] type #[.map (some b)]).run P w=.ok (.int .i64 es.size) w:=by
      simp only[Builtin.len_,List.getElem?_toArray,List.getElem?_cons_zero,Sem.run_bind,run_underlying hu,Result.andThen_ok,run_getObj_map (hs _ _ hg),Sem.run_pure,goInt]
     have:=good_of ⟨_,w,hr,h,hk,hs,Frm.refl _ _⟩
     simpa[execOp,resolve,hc,h1,h2,invoke,builtin,e1] using this
    ·simp at hx
   ·simp at hx
  ·rename_i f hc
   simp only[Option.map_eq_some_iff] at hx
   obtain⟨l,hl,rfl⟩:=hx
   simp only[EX.wp] at hwp
   obtain⟨vs,hvs,hcall⟩:=hwp
   have e1:=ogets_spec (ρ:=ρ) hl hvs (fun y hy=>hag y (by simp[Op.operands,Call.operands,hc];exact .inr (by simpa using hy)))
   have e1':c.args.map ρ=vs.toArray:=by rw[← Array.toList_inj];simpa using e1
   have hfv:ρ (.func f)=.func (.func f) #[] #[]:=by
    exact hag (.func f) (by simp[Op.operands,Call.operands,hc]) _ _ rfl rfl
   have:=calls_good hs hcall
   simpa[execOp,resolve,hc,e1',hfv,Deferred.ofValue,invoke] using this
  ·rename_i t hc
   split at hx
   ·rename_i fo l hf hl
    simp only[Option.some.injEq] at hx;subst hx
    simp only[EX.wp] at hwp
    obtain⟨f,first,cap,vs,hfo,hvs,hcall⟩:=hwp
    have e1:=ogets_spec (ρ:=ρ) hl hvs (fun y hy=>hag y (by simp[Op.operands,Call.operands,hc];exact .inr (by simpa using hy)))
    have e1':c.args.map ρ=vs.toArray:=by rw[← Array.toList_inj];simpa using e1
    have hfv:ρ (.tmp t)=.func (.func f) first cap:=ag_get (hag (.tmp t) (by simp[Op.operands,Call.operands,hc])) hf hfo
    have:=calls_good hs hcall
    have e2:(first.toList++vs++cap.toList).toArray=first++vs.toArray++cap:=by apply Array.ext';simp
    rw[e2] at this
    simpa[execOp,resolve,hc,e1',hfv,Deferred.ofValue,invoke] using this
   ·simp at hx
  ·simp at hx
 all_goals simp[cex] at hx
end
structure FrB (base:Nat) (h:Heap) (w:World) (h':Heap) (w':World):Prop where
 tape:w'.tape=w.tape
 os:w'.os=w.os
 output:w'.output=w.output
 size:w.heap.size≤w'.heap.size
 keep:∀b,b<base→h b=none→w'.heap[b]? = w.heap[b]?
 fresh:∀b,b<base→h b=none→h' b=none
namespace FrB
theorem refl (base:Nat) (h:Heap) (w:World):FrB base h w h w:=⟨rfl,rfl,rfl,Nat.le_refl _,fun _ _ _=>rfl,fun _ _ hb=>hb⟩
theorem trans {base:Nat}{h h1 h2:Heap}{w w1 w2:World}(a:FrB base h w h1 w1) (b:FrB base h1 w1 h2 w2):FrB base h w h2 w2 where
 tape:=b.tape.trans a.tape
 os:=b.os.trans a.os
 output:=b.output.trans a.output
 size:=Nat.le_trans a.size b.size
 keep x hx hn:=(b.keep x hx (a.fresh x hx hn)).trans (a.keep x hx hn)
 fresh x hx hn:=b.fresh x hx (a.fresh x hx hn)
theorem of_frm {base:Nat}{h h':Heap}{w w':World}(hb:base≤w.heap.size) (f:Frm h w h' w'):FrB base h w h' w':=
 ⟨f.tape,f.os,f.output,f.size,fun x hx hn=>f.keep x (Nat.lt_of_lt_of_le hx hb) hn,fun x hx hn=>f.fresh x (Nat.lt_of_lt_of_le hx hb) hn⟩
end FrB
def SameA (a a':Act):Prop:=a'.defers=a.defers∧a'.tmps.size=a.tmps.size
theorem SameA.trans {a b c:Act}(h2:SameA b c) (h1:SameA a b):SameA a c:=⟨h2.1.trans h1.1,h2.2.trans h1.2⟩
theorem eget_eset_same:∀(e:Env) (i:Nat) (v:Option Value),eget (eset e i v) i=v∨eget (eset e i v) i=none
 | [],_,_=>.inr rfl
 | _::_,0,_=>.inl rfl
 | _::t,n+1,v=>eget_eset_same t n v
theorem eget_eset_ne:∀(e:Env) (i j:Nat) (v:Option Value),i≠j→eget (eset e i v) j=eget e j
 | [],_,_,_,_=>rfl
 | _::_,0,0,_,h=>absurd rfl h
 | _::_,0,_+1,_,_=>rfl
 | _::_,_+1,0,_,_=>rfl
 | _::t,n+1,m+1,v,h=>eget_eset_ne t n m v (fun he=>h (by omega))
theorem eget_efgt:∀(l:List Nat) (e:Env) (j:Nat),eget (efgt e l) j=eget e j∨eget (efgt e l) j=none
 | [],_,_=>.inl rfl
 | i::l,e,j=>by
  simp only[efgt]
  by_cases h:i=j
  ·subst h
   rcases eget_efgt l (eset e i none) i with h1 | h1
   ·rw[h1]
    rcases eget_eset_same e i none with h2 | h2<;>exact .inr h2
   ·exact .inr h1
  ·rcases eget_efgt l (eset e i none) j with h1 | h1
   ·rw[h1,eget_eset_ne _ _ _ _ h];exact .inl rfl
   ·exact .inr h1
theorem eget_efgt_mem:∀(l:List Nat) (e:Env) (j:Nat),j∈l→eget (efgt e l) j=none
 | i::l,e,j,hj=>by
  simp only[efgt]
  rcases List.mem_cons.1 hj with rfl | hj
  ·rcases eget_efgt l (eset e j none) j with h1 | h1
   ·rw[h1]
    rcases eget_eset_same e j none with h2 | h2<;>exact h2
   ·exact h1
  ·exact eget_efgt_mem l _ j hj
def Blk (w:World) (h:Heap) (base b:Nat) (c:Array Value):Prop:=(∃el,w.heap[b]? = some (.cells c el (0,0)))∧h b=none∧base≤b
def Cov (base:Nat) (e:Env) (h:Heap) (w:World) (ρ:Operand→Value) (blk:Nat→Nat) (i t:Nat):Knd→Prop
 | .pl=>∀v,eget e i=some v→ρ (.tmp t)=v
 | .bx=>∀v,eget e i=some v→ρ (.tmp t)=.pointer (some ⟨blk i,0,none⟩)∧Blk w h base (blk i) v.cells
 | .al j off=>eget e i=some (.bool true)→ρ (.tmp t)=.pointer (some ⟨blk j,off,none⟩)
 | .ps n=>∀v,eget e i=some v→∃c,v=.agg c∧ρ (.tmp t)=.slice (some ⟨blk i,0,none⟩) n n∧Blk w h base (blk i) c
def isOwn:Knd→Bool
 | .bx=>true
 | .ps _=>true
 | _=>false
def Act' (lay:Lay) (e:Env) (i:Nat):Prop:=∃t k v,lay[i]? = some (t,k)∧isOwn k=true∧eget e i=some v
structure St (base:Nat) (lay:Lay) (L:Nat→Prop) (e:Env) (h:Heap) (w:World) (a:Act):Prop where
 cov:∃blk:Nat→Nat,(∀(i t:Nat) (k:Knd),lay[i]? = some (t,k)→L i→Cov base e h w a.eval blk i t k) ∧
  (∀i j,L i→L j→Act' lay e i→Act' lay e j→i≠j→blk i≠blk j)
 sub:h.sub w
 sz:∀(i t:Nat) (k:Knd),lay[i]? = some (t,k)→t<a.tmps.size
 low:base≤w.heap.size
 len:lay.length≤e.length
theorem eset_length:∀(e:Env) (i:Nat) (v:Option Value),(eset e i v).length=e.length
 | [],_,_=>rfl
 | _::_,0,_=>rfl
 | _::t,n+1,v=>by simp[eset,eset_length t n v]
theorem efgt_length:∀(l:List Nat) (e:Env),(efgt e l).length=e.length
 | [],_=>rfl
 | i::l,e=>by simp[efgt,efgt_length l,eset_length]
theorem dput_length (d:Option Nat) (v:Option Value) (e:Env):(dput d v e).length=e.length:=by
 cases d<;>simp[dput,eset_length]
theorem lfindFrom_spec:∀{lay:Lay}{t n i:Nat}{k:Knd},lfindFrom t lay n=some (i,k)→∃j,i=n+j∧lay[j]? = some (t,k)
 | [],t,n,i,k,h=>by simp[lfindFrom] at h
 | (u,k')::r,t,n,i,k,h=>by
  simp only[lfindFrom] at h
  split at h
  ·rename_i hu
   simp only[Option.some.injEq,Prod.mk.injEq] at h
   obtain⟨rfl,rfl⟩:=h
   exact⟨0,rfl,by simp[hu]⟩
  ·obtain⟨j,rfl,hj⟩:=lfindFrom_spec h
   exact⟨j+1,by omega,by simpa using hj⟩
theorem lfind_spec {lay:Lay}{t i:Nat}{k:Knd}(h:lfind lay t=some (i,k)):lay[i]? = some (t,k):=by
 obtain⟨j,rfl,hj⟩:=lfindFrom_spec h
 simpa using hj
theorem plainAt_spec {lay:Lay}{t i:Nat}(h:plainAt lay t=some i):lfind lay t=some (i,.pl):=by
 unfold plainAt at h
 split at h
 ·rename_i j hj;simp only[Option.some.injEq] at h;subst h;exact hj
 ·simp at h
def Dist (lay:Lay):Prop:=∀(i j t:Nat) (k k':Knd),lay[i]? = some (t,k)→lay[j]? = some (t,k')→i=j
theorem put_eval {a:Act}{t:Nat}{v:Value}(ht:t<a.tmps.size):(a.put (some t) v).eval (.tmp t)=v:=by
 simp[Act.put,Act.eval,ht]
theorem put_eval_ne {a:Act}{d:Option Tmp}{t:Nat}{v:Value}(hd:d≠some t):(a.put d v).eval (.tmp t)=a.eval (.tmp t):=
 Act.eval_put fun u hu=>fun he=>hd (by simp only[Operand.tmp.injEq] at he;rw[hu,he])
theorem put_size {a:Act}{d:Option Tmp}{v:Value}:(a.put d v).tmps.size=a.tmps.size:=by
 cases d<;>simp[Act.put]
def OpL (lay:Lay) (L:Nat→Prop) (o:Oper):Prop:=
 ∀t,Operand.tmp t∈o.op.operands→∀i k,lfind lay t=some (i,k)→L i∧∀j off,k=.al j off→L j
section
variable {P:Program}{base:Nat}{lay:Lay}{L:Nat→Prop}{e:Env}{h:Heap}{w:World}{a:Act}
theorem Cov.keep {blk blk':Nat→Nat}{ρ ρ':Operand→Value}{e':Env}{h':Heap}{w':World}{i t:Nat}{k:Knd}(hc:Cov base e h w ρ blk i t k)
  (he:eget e' i=eget e i∨eget e' i=none) (hρ:ρ' (.tmp t)=ρ (.tmp t)) (hb:blk' i=blk i) (hal:∀j off,k=.al j off→eget e' i=none∨blk' j=blk j)
  (hk:∀c,isOwn k=true→(∃v,eget e i=some v)→Blk w h base (blk i) c→Blk w' h' base (blk i) c):Cov base e' h' w' ρ' blk' i t k:=by
 rcases he with he | he
 ·cases k with
  | pl=>intro v hv;rw[hρ];exact hc v (he▸hv)
  | bx=>
   intro v hv
   obtain⟨h1,h2⟩:=hc v (he▸hv)
   rw[hρ,hb]
   exact⟨h1,hk _ rfl ⟨v,he▸hv⟩ h2⟩
  | al j off=>
   intro hv
   rw[hρ]
   rcases hal j off rfl with h1 | h1
   ·rw[h1] at hv;simp at hv
   ·rw[h1];exact hc (he▸hv)
  | ps n=>
   intro v hv
   obtain⟨c,h1,h2,h3⟩:=hc v (he▸hv)
   rw[hρ,hb]
   exact⟨c,h1,h2,hk _ rfl ⟨v,he▸hv⟩ h3⟩
 ·cases k with
  | pl=>intro v hv;rw[he] at hv;simp at hv
  | bx=>intro v hv;rw[he] at hv;simp at hv
  | al j off=>intro hv;rw[he] at hv;simp at hv
  | ps n=>intro v hv;rw[he] at hv;simp at hv
theorem Blk.frm {h':Heap}{w':World}{b:Nat}{c:Array Value}(hb:Blk w h base b c) (f:Frm h w h' w'):Blk w' h' base b c:=by
 obtain⟨⟨el,h1⟩,h2,h3⟩:=hb
 have hlt:b<w.heap.size:=(Array.getElem?_eq_some_iff.1 h1).1
 exact⟨⟨el,by rw[f.keep b hlt h2];exact h1⟩,f.fresh b hlt h2,h3⟩
theorem Act'.of_set {i p:Nat}{v:Option Value}(hx:Act' lay (eset e p v) i) (hp:∀(t:Nat) (k:Knd),lay[p]? = some (t,k)→isOwn k=false):Act' lay e i:=by
 obtain⟨t,k,u,h1,h2,h3⟩:=hx
 by_cases hip:p=i
 ·subst hip;rw[hp t k h1] at h2;simp at h2
 ·exact⟨t,k,u,h1,h2,by rwa [eget_eset_ne _ _ _ _ hip] at h3⟩
theorem St.value (hd:Dist lay) (S:St base lay L e h w a) {h':Heap}{w':World}(hs:h'.sub w') (f:Frm h w h' w') {dst:Option Tmp}{d:Option Nat}(hdst:cdst lay dst=some d) (v:Value) :
  St base lay (fun i=>L i∨d=some i) (dput d (some v) e) h' w' (a.put dst v):=by
 obtain⟨blk,hcov,hinj⟩:=S.cov
 cases dst with
 | none=>
  simp only[cdst,Option.some.injEq] at hdst
  subst hdst
  refine⟨⟨blk,?_,?_⟩,hs,?_,Nat.le_trans S.low f.size,by simpa[dput_length] using S.len⟩
  ·intro i t k hi hL
   rcases hL with hL | hL
   ·exact (hcov i t k hi hL).keep (.inl rfl) (put_eval_ne (by simp)) rfl (fun _ _ _=>.inr rfl) (fun c _ _ hb=>hb.frm f)
   ·simp at hL
  ·intro i j hi hj
   simp only[reduceCtorEq,or_false] at hi hj
   exact hinj i j hi hj
  ·intro i t k hi;rw[put_size];exact S.sz i t k hi
 | some t0=>
  simp only[cdst,Option.map_eq_some_iff] at hdst
  obtain⟨p,hp,rfl⟩:=hdst
  have hp':=lfind_spec (plainAt_spec hp)
  refine⟨⟨blk,?_,?_⟩,hs,?_,Nat.le_trans S.low f.size,by simpa[dput_length] using S.len⟩
  ·intro i t k hi hL
   by_cases hip:p=i
   ·subst hip
    obtain⟨rfl,rfl⟩:t=t0∧k=.pl:=by rw[hp'] at hi;simp at hi;exact⟨hi.1.symm,hi.2.symm⟩
    intro u hu
    rw[put_eval (S.sz _ _ _ hp')]
    rcases eget_eset_same e p (some v) with h1 | h1
    ·simp only[dput] at hu;rw[h1] at hu;simpa using hu
    ·simp only[dput] at hu;rw[h1] at hu;simp at hu
   ·have hL':L i:=by
     rcases hL with hL | hL
     ·exact hL
     ·simp only[Option.some.injEq] at hL;exact absurd hL hip
    have hne:some t0≠some t:=by
     intro he
     simp only[Option.some.injEq] at he
     subst he
     exact hip (hd _ _ _ _ _ hp' hi)
    exact (hcov i t k hi hL').keep (.inl (eget_eset_ne _ _ _ _ hip)) (put_eval_ne hne) rfl (fun _ _ _=>.inr rfl) (fun c _ _ hb=>hb.frm f)
  ·intro i j hi hj ai aj hij
   have hnotown:∀(t:Nat) (k:Knd),lay[p]? = some (t,k)→isOwn k=false:=by
    intro t k htk;rw[hp'] at htk;simp at htk;rw[← htk.2];rfl
   have back:∀x,(L x∨some p=some x)→Act' lay (dput (some p) (some v) e) x→L x∧Act' lay e x:=by
    intro x hx ax
    have ax':Act' lay e x:=Act'.of_set ax hnotown
    rcases hx with hx | hx
    ·exact⟨hx,ax'⟩
    ·simp only[Option.some.injEq] at hx
     subst hx
     obtain⟨t,k,_,h1,h2,_⟩:=ax'
     rw[hnotown t k h1] at h2
     simp at h2
   obtain⟨h1,h2⟩:=back i hi ai
   obtain⟨h3,h4⟩:=back j hj aj
   exact hinj i j h1 h3 h2 h4 hij
  ·intro i t k hi;rw[put_size];exact S.sz i t k hi
theorem St.ag (S:St base lay L e h w a) {o:Oper}(hL:OpL lay L o):∀y∈o.op.operands,Ag lay e a.eval y:=by
 intro y hy ov v ho hv
 obtain⟨blk,hcov,_⟩:=S.cov
 cases y with
 | tmp t=>
  simp only[opr,Option.map_eq_some_iff] at ho
  obtain⟨i,hi,rfl⟩:=ho
  have hf:=plainAt_spec hi
  exact hcov i t .pl (lfind_spec hf) (hL t hy i .pl hf).1 v hv
 | const c=>simp only[opr,Option.some.injEq] at ho;subst ho;simpa[O.get,Act.eval] using hv
 | global g=>simp only[opr,Option.some.injEq] at ho;subst ho;simpa[O.get,Act.eval] using hv
 | func f=>simp only[opr,Option.some.injEq] at ho;subst ho;simpa[O.get,Act.eval] using hv
theorem St.psv (S:St base lay L e h w a) {o:Oper}(hL:OpL lay L o):PrivS lay e h w a.eval o.op.operands:=by
 intro t i n c ht hi hc
 obtain⟨blk,hcov,_⟩:=S.cov
 obtain⟨c',h1,h2,⟨el,h3⟩,h4,_⟩:=hcov i t (.ps n) (lfind_spec hi) (hL t ht i _ hi).1 _ hc
 simp only[Value.agg.injEq] at h1
 subst h1
 exact⟨_,el,h2,h3,h4⟩
end
theorem LnZ:(∀{α:Type}(l:List α) (i:Nat) (a:α),(l.set i a).length=l.length)∧(∀{α:Type}(n:Nat) (a:α),(List.replicate n a).length=n)∧(∀{α:Type}(l l2:List α),(l++l2).length=l.length+l2.length)∧(∀{α β:Type}(f:α→β) (l:List α),(l.map f).length=l.length)∧(∀{α:Type}(l:List α) (i:Nat),(l.take i).length=min i l.length)∧(∀{α:Type}(a:α) (l:List α),(a::l).length=l.length+1)∧(∀{α:Type},([]:List α).length=0):=
 ⟨fun _ _ _=>List.length_set,fun _ _=>List.length_replicate,fun _ _=>List.length_append,fun _ _=>List.length_map _,fun _ _=>List.length_take,fun _ _=>List.length_cons,List.length_nil⟩
end Go.Proofs.YtjbjnicobdpdhaaGreatDoor
