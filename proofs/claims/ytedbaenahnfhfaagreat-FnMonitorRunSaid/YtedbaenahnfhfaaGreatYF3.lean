/-
  Texts of this proof, one behind the other.
-/
import Derived.Test.YtedbaenahnfhfaaGreatRows
import Derived.WalkKit
import Derived.ProofKit
import Derived.OpenShut
import Derived.Carry
import Derived.Deep.Slices
import Derived.SizedLaws
import Derived.Test.YtedbaenahnfhfaaGreatYF2
set_option linter.all false
set_option linter.unusedVariables false
set_option linter.unusedSimpArgs false
set_option linter.defProp false
set_option maxRecDepth 1000000
namespace Go.Proofs.YtedbaenahnfhfaaGreat
open Go
universe u
def retQ (res:List (Nat×Option (Option Nat))) (k:Value→Heap→Prop) (x:Ex) (e:Env) (h:Heap):Prop:=
 match x with
 | .exit _=>False
 | _=>∃vs,resV e res=some vs∧∃h2,h2.le h∧k (tupV vs) h2
def RetK (k:Value→Heap→Prop) (v:Value) (h:Heap):Prop:=∃h2,h2.le h∧k v h2
theorem RetK.keep {k:Value→Heap→Prop}{v:Value}{h:Heap}(hk:k v h):RetK k v h:=⟨h,fun _ _ hb=>hb,hk⟩
theorem RetK.drop {k:Value→Heap→Prop}{v:Value}{h h2:Heap}(hl:h2.le h) (hk:k v h2):RetK k v h:=⟨h2,hl,hk⟩
def ExW {α:Type}(x:Option α) (k:α→Prop):Prop:=∃v,x=some v∧k v
@[simp] theorem ExW_some {α:Type}{v:α}{k:α→Prop}:ExW (some v) k=k v:=by simp[ExW]
theorem ExW.mk {α:Type}{x:Option α}{k:α→Prop}{v:α}(hx:x=some v) (hk:k v):ExW x k:=⟨v,hx,hk⟩
def AndW (p A:Prop):Prop:=p∧A
@[simp] theorem AndW_true {A:Prop}:AndW True A=A:=by simp[AndW]
theorem AndW.mk {p A:Prop}(hp:p) (hA:A):AndW p A:=⟨hp,hA⟩
def fnOf:Value→Option (FuncId×List Value×List Value)
 | .func (.func f) first cap=>some (f,first.toList,cap.toList)
 | _=>none
def IteW (p A B:Prop):Prop:=(p→A)∧(¬p→B)
theorem IteW.mk {p A B:Prop}(h1:p→A) (h2:¬p→B):IteW p A B:=⟨h1,h2⟩
@[simp] theorem IteW_true {A B:Prop}:IteW True A B=A:=by simp[IteW]
@[simp] theorem IteW_false {A B:Prop}:IteW False A B=B:=by simp[IteW]
@[simp] theorem IteW_not {p A B:Prop}:IteW (¬p) A B=IteW p B A:=by simp[IteW,And.comm]
def condW (v:Option Value) (A B:Prop):Prop:=∃t,v=some (.bool t)∧IteW (t=true) A B
@[simp] theorem condW_bool {b:Bool}{A B:Prop}:condW (some (.bool b)) A B=IteW (b=true) A B:=by simp[condW]
theorem A.wp_mono {P:Program}{k k':Env→Heap→Prop}(hk:∀e h,k e h→k' e h) {e:Env}{h:Heap}{x:A}(hx:x.wp P k e h):x.wp P k' e h:=by
 cases x<;>simp only[A.wp] at hx ⊢
 case px=>obtain⟨v,h1,h2⟩:=hx;exact⟨v,h1,hk _ _ h2⟩
 case ld=>obtain⟨v,h1,h2⟩:=hx;exact⟨v,h1,hk _ _ h2⟩
 case ex=>exact EX.wp_mono (fun v h' ⟨h2,hl,h3⟩=>⟨h2,hl,hk _ _ h3⟩) hx
 case pnew=>obtain⟨v,h1,h2⟩:=hx;exact⟨v,h1,hk _ _ h2⟩
 case pget=>obtain⟨v,h1,h2⟩:=hx;exact⟨v,h1,hk _ _ h2⟩
 case pset=>obtain⟨h0,v,h1,h2⟩:=hx;exact⟨h0,v,h1,hk _ _ h2⟩
 case als=>exact⟨hx.1,hx.2.1,hk _ _ hx.2.2⟩
 case psl=>obtain⟨v,h1,h2⟩:=hx;exact⟨v,h1,hk _ _ h2⟩
theorem S.wp_mono {P:Program}{k k':Env→Heap→Prop}(hk:∀e h,k e h→k' e h) {e:Env}{h:Heap}{s:S}(hx:s.wp P k e h):s.wp P k' e h:=by
 cases s with
 | act g x=>
  cases g with
  | none=>exact A.wp_mono hk hx
  | some g=>
   simp only[S.wp] at hx ⊢
   obtain⟨b,h1,h2⟩:=hx
   refine⟨b,h1,?_⟩
   cases hv:x.val e h with
   | none=>rw[hv] at h2;exact⟨fun hb=>A.wp_mono hk (h2.1 hb),fun hb=>hk _ _ (h2.2 hb)⟩
   | some dv=>rw[hv] at h2;exact⟨h2.1,hk _ _ h2.2⟩
 | re d a sz g=>
  cases g with
  | none=>exact⟨hx.1,hk _ _ hx.2⟩
  | some g=>obtain⟨b,h1,h2,h3⟩:=hx;exact⟨b,h1,h2,hk _ _ h3⟩
 | ext n m=>exact hk _ _ hx
theorem Pl.wp_mono {P:Program}{k k':Env→Heap→Prop}(hk:∀e h,k e h→k' e h):∀(p:Pl) {e:Env}{h:Heap},p.wp P k e h→p.wp P k' e h
 | .done,_,_,hx=>hk _ _ hx
 | .st _ n,_,_,hx=>S.wp_mono (fun _ _=>Pl.wp_mono hk n) hx
 | .both a b,_,_,hx=>⟨Pl.wp_mono hk a hx.1,Pl.wp_mono hk b hx.2⟩
theorem C.wp_mono {P:Program}:∀(c:C) {Q Q':Ex→Env→Heap→Prop}(_:∀x e h,Q x e h→Q' x e h) {e:Env}{h:Heap},c.wp P Q e h→c.wp P Q' e h
 | .skip,_,_,hQ,_,_,hx=>hQ _ _ _ hx
 | .pl p,_,_,hQ,_,_,hx=>Pl.wp_mono (hQ .nrm) p hx
 | .seq a b,_,_,hQ,_,_,hx=>C.wp_mono a (fun x e h=>by cases x<;>first | exact hQ _ _ _ | exact C.wp_mono b hQ) hx
 | .cond n o a b,_,_,hQ,_,_,⟨t,h1,h2,h3⟩=>⟨t,h1,fun ht=>C.wp_mono a hQ (h2 ht),fun ht=>C.wp_mono b hQ (h3 ht)⟩
 | .block id a,_,_,hQ,_,_,hx=>C.wp_mono a (fun x e h hx=>by
   cases x with
   | exit i=>
    by_cases hi:i=id
    ·simp only[if_pos hi] at hx ⊢;exact hQ _ _ _ hx
    ·simp only[if_neg hi] at hx ⊢;exact hQ _ _ _ hx
   | nrm=>exact hQ _ _ _ hx
   | ret=>exact hQ _ _ _ hx) hx
 | .loop n fg a,_,_,hQ,_,_,⟨I,h0,hs⟩=>⟨I,h0,fun m e h hI=>C.wp_mono a (fun x e h hx=>by
   cases x with
   | nrm=>exact hx
   | exit i=>exact hQ _ _ _ hx
   | ret=>exact hQ _ _ _ hx) (hs m e h hI)⟩
 | .exit _,_,_,hQ,_,_,hx=>hQ _ _ _ hx
 | .ret,_,_,hQ,_,_,hx=>hQ _ _ _ hx
section
variable {P:Program}{Q:Ex→Env→Heap→Prop}{e:Env}{h:Heap}
def seqQ (P:Program) (b:C) (Q:Ex→Env→Heap→Prop) (x:Ex) (e:Env) (h:Heap):Prop:=
 match x with
 | .nrm=>b.wp P Q e h
 | x=>Q x e h
def blockQ (id:Nat) (Q:Ex→Env→Heap→Prop) (x:Ex) (e:Env) (h:Heap):Prop:=
 match x with
 | .exit i=>if i=id then Q .nrm e h else Q (.exit i) e h
 | x=>Q x e h
def loopQ (n:Nat) (fg:List Nat) (I:Env→Heap→Prop) (Q:Ex→Env→Heap→Prop) (x:Ex) (e:Env) (h:Heap):Prop:=
 match x with
 | .nrm=>I (efgt (e.take n) fg) h
 | x=>Q x e h
@[simp] theorem seqQ_nrm {b:C}:seqQ P b Q .nrm e h=b.wp P Q e h:=rfl
@[simp] theorem seqQ_ret {b:C}:seqQ P b Q .ret e h=Q .ret e h:=rfl
@[simp] theorem seqQ_exit {b:C}{i:Nat}:seqQ P b Q (.exit i) e h=Q (.exit i) e h:=rfl
@[simp] theorem blockQ_nrm {i:Nat}:blockQ i Q .nrm e h=Q .nrm e h:=rfl
@[simp] theorem blockQ_ret {i:Nat}:blockQ i Q .ret e h=Q .ret e h:=rfl
@[simp] theorem blockQ_exit {i j:Nat}:blockQ i Q (.exit j) e h=if j=i then Q .nrm e h else Q (.exit j) e h:=rfl
@[simp] theorem loopQ_nrm {n:Nat}{fg:List Nat}{I:Env→Heap→Prop}:loopQ n fg I Q .nrm e h=I (efgt (e.take n) fg) h:=rfl
@[simp] theorem loopQ_ret {n:Nat}{fg:List Nat}{I:Env→Heap→Prop}:loopQ n fg I Q .ret e h=Q .ret e h:=rfl
@[simp] theorem loopQ_exit {n:Nat}{fg:List Nat}{I:Env→Heap→Prop}{i:Nat}:loopQ n fg I Q (.exit i) e h=Q (.exit i) e h:=rfl
@[simp] theorem retQ_nrm {res:List (Nat×Option (Option Nat))}{k:Value→Heap→Prop}:retQ res k .nrm e h=ExW (resV e res) (fun vs=>RetK k (tupV vs) h):=rfl
@[simp] theorem retQ_ret {res:List (Nat×Option (Option Nat))}{k:Value→Heap→Prop}:retQ res k .ret e h=ExW (resV e res) (fun vs=>RetK k (tupV vs) h):=rfl
@[simp] theorem retQ_exit {res:List (Nat×Option (Option Nat))}{k:Value→Heap→Prop}{i:Nat}:retQ res k (.exit i) e h=False:=rfl
theorem wp_skip:C.skip.wp P Q e h=Q .nrm e h:=rfl
theorem wp_pl {p:Pl}:(C.pl p).wp P Q e h=p.wp P (Q .nrm) e h:=rfl
theorem wp_seq {a b:C}:(C.seq a b).wp P Q e h=a.wp P (seqQ P b Q) e h:=by
 simp only[C.wp]
 congr 1
theorem wp_cond {n:Nat}{o:O}{a b:C}:(C.cond n o a b).wp P Q e h=condW (o.get e) (a.wp P Q (e.take n) h) (b.wp P Q (e.take n) h):=by
 simp[C.wp,condW,IteW]
theorem wp_block {i:Nat}{a:C}:(C.block i a).wp P Q e h=a.wp P (blockQ i Q) e h:=by
 simp only[C.wp]
 congr 1
theorem wp_exit {i:Nat}:(C.exit i).wp P Q e h=Q (.exit i) e h:=rfl
theorem wp_ret:C.ret.wp P Q e h=Q .ret e h:=rfl
theorem wp_loop {n:Nat}{fg:List Nat}{a:C}(I:Nat→Env→Heap→Prop) (h0:∃m,I m (efgt (e.take n) fg) h)
  (hs:∀(I':Env→Heap→Prop) m e h,(∀m' e h,m'<m→I m' e h→I' e h)→I m e h→a.wp P (loopQ n fg I' Q) e h):(C.loop n fg a).wp P Q e h:=by
 refine⟨I,h0,fun m e h hI=>?_⟩
 have h1:=hs (fun e' h'=>∃m',m'<m∧I m' e' h') m e h (fun m' e h hm hI=>⟨m',hm,hI⟩) hI
 have h2:(fun (x:Ex) (e':Env) (h':Heap)=>match x with
       | .nrm=>∃m',m'<m∧I m' (efgt (e'.take n) fg) h'
       | x=>Q x e' h')=loopQ n fg (fun e' h'=>∃m',m'<m∧I m' e' h') Q:=by
  funext x e' h'
  cases x<;>rfl
 exact h2▸h1
theorem wp_count {n:Nat}{fg:List Nat}{a:C}(N:Nat) (J:Nat→Env→Heap→Prop) (h0:J 0 (efgt (e.take n) fg) h)
  (hs:∀(J':Env→Heap→Prop) i e h,(∀e h,i<N→J (i+1) e h→J' e h)→i≤N→J i e h→a.wp P (loopQ n fg J' Q) e h):(C.loop n fg a).wp P Q e h:=by
 refine wp_loop (fun m e h=>∃i,i≤N∧m=N-i∧J i e h) ⟨N,0,by omega,by omega,h0⟩ ?_
 rintro I' m e h hI ⟨i,hi,rfl,hJ⟩
 exact hs I' i e h (fun e h hlt hJ=>hI (N-(i+1)) e h (by omega) ⟨i+1,hlt,rfl,hJ⟩) hi hJ
theorem pl_done {k:Env→Heap→Prop}:Pl.done.wp P k e h=k e h:=rfl
theorem pl_st {s:S}{n:Pl}{k:Env→Heap→Prop}:(Pl.st s n).wp P k e h=s.wp P (n.wp P k) e h:=rfl
theorem s_act {x:A}{k:Env→Heap→Prop}:(S.act none x).wp P k e h=x.wp P k e h:=rfl
def gvw (w:Bool):Option Value→Option Bool
 | some (.bool b)=>some (b == w)
 | some _=>some false
 | none=>none
def guardW (v:Option Value) (w:Bool) (A B:Prop):Prop:=∃b,gvw w v=some b∧(b=true→A)∧(b=false→B)
@[congr] theorem guardW_congr {v v':Option Value}{w:Bool}{A B:Prop}(hv:v=v'):guardW v w A B=guardW v' w A B:=by rw[hv]
@[simp] theorem guardW_tt {A B:Prop}:guardW (some (.bool true)) true A B=A:=by simp[guardW,gvw]
@[simp] theorem guardW_ff {A B:Prop}:guardW (some (.bool false)) false A B=A:=by simp[guardW,gvw]
@[simp] theorem guardW_tf {A B:Prop}:guardW (some (.bool true)) false A B=B:=by simp[guardW,gvw]
@[simp] theorem guardW_ft {A B:Prop}:guardW (some (.bool false)) true A B=B:=by simp[guardW,gvw]
@[simp] theorem guardW_undef {w:Bool}{A B:Prop}:guardW (some undef) w A B=B:=by simp[guardW,gvw,undef]
theorem gcond_gvw {o:O}{w:Bool}:gcond e (some (o,w))=gvw w (o.get e):=by
 simp only[gcond]
 cases o.get e with
 | none=>rfl
 | some v=>cases v<;>rfl
theorem s_gp {v:Option Value}{d:Option Nat}{b:Bool}{k:Env→Heap→Prop}:((b=true→v.isSome=true)∧k (dput d (gval b v) e) h)↔((b=true→∃u,v=some u∧k (dput d (some u) e) h)∧(b=false→k (dput d (some undef) e) h)):=by
 cases b
 ·simp[gval]
 ·cases v<;>simp[gval]
theorem s_g {o:O}{w:Bool}{x:A}{k:Env→Heap→Prop}:(S.act (some (o,w)) x).wp P k e h=guardW (o.get e) w (x.wp P k e h) (k (dput x.dst (some undef) e) h):=by
 have key:∀b:Bool,(match x.val e h with
  | some (d,v)=>(b=true→v.isSome=true)∧k (dput d (gval b v) e) h
  | none=>(b=true→x.wp P k e h)∧(b=false→k (dput x.dst (some undef) e) h))↔(b=true→x.wp P k e h)∧(b=false→k (dput x.dst (some undef) e) h):=by
  intro b
  cases x
  case px=>exact s_gp
  case ld=>exact s_gp
  case pget=>exact s_gp
  all_goals exact Iff.rfl
 apply propext
 constructor
 ·rintro⟨b,h1,h2⟩;exact⟨b,gcond_gvw▸h1,(key b).1 h2⟩
 ·rintro⟨b,h1,h2⟩;exact⟨b,gcond_gvw▸h1,(key b).2 h2⟩
theorem s_re {d:Nat}{a:O}{sz:Option Nat}{k:Env→Heap→Prop}:(S.re d a sz none).wp P k e h=AndW (hload h (a.get e) sz=eget e d) (k e h):=rfl
theorem s_reg {d:Nat}{a:O}{sz:Option Nat}{g:O×Bool}{k:Env→Heap→Prop}:(S.re d a sz (some g)).wp P k e h =
  ∃b,gcond e (some g)=some b∧(b=true→hload h (a.get e) sz=eget e d)∧k e h:=rfl
theorem s_ext {n m:Nat}{k:Env→Heap→Prop}:(S.ext n m).wp P k e h=k (eext n m e) h:=rfl
theorem a_px {d:Option Nat}{x:PX}{k:Env→Heap→Prop}:(A.px d x).wp P k e h=ExW (x.ev e) (fun v=>k (dput d (some v) e) h):=rfl
theorem a_ld {d:Option Nat}{a:O}{sz:Option Nat}{k:Env→Heap→Prop}:(A.ld d a sz).wp P k e h=ExW (hload h (a.get e) sz) (fun v=>k (dput d (some v) e) h):=rfl
theorem a_pnew {i:Nat}{x:O}{cl:List Nat}{k:Env→Heap→Prop}:(A.pnew i x cl).wp P k e h=ExW (x.get e) (fun v=>k (efgt (eset e i (some v)) cl) h):=rfl
theorem a_pget {d c:Option Nat}{i off:Nat}{sz:Option Nat}{k:Env→Heap→Prop}:(A.pget d c i off sz).wp P k e h=ExW (pgetC e c i off sz) (fun v=>k (dput d (some v) e) h):=rfl
theorem a_pset {c:Option Nat}{i off sz:Nat}{x:O}{k:Env→Heap→Prop}:(A.pset c i off sz x).wp P k e h=AndW (aok e c=true) (ExW (psetV (eget e i) off sz (x.get e)) (fun v=>k (eset e i (some v)) h)):=rfl
theorem a_als {d:Nat}{c:Option Nat}{i:Nat}{k:Env→Heap→Prop}:(A.als d c i).wp P k e h=AndW (aok e c=true) (AndW ((eget e i).isSome=true) (k (eset e d (some (.bool true))) h)):=rfl
theorem a_psl {d:Nat}{z:List Value}{ps:List (Nat×Nat×O)}{k:Env→Heap→Prop}:(A.psl d z ps).wp P k e h=ExW (fillP e z ps) (fun cs=>k (eset e d (some (.agg cs.toArray))) h):=rfl
theorem a_call {d:Option Nat}{f:FuncId}{args:List O}{k:Env→Heap→Prop}:(A.ex d (.call f args)).wp P k e h=ExW (ogets e args) (fun vs=>CallE P f vs h fun v h'=>Fgt k (dput d (some v) e) h'):=rfl
theorem a_callv {d:Option Nat}{fo:O}{args:List O}{k:Env→Heap→Prop}:(A.ex d (.callv fo args)).wp P k e h =
  ExW ((fo.get e).bind fnOf) (fun c=>ExW (ogets e args) (fun vs=>CallE P c.1 (c.2.1++vs++c.2.2) h fun v h'=>Fgt k (dput d (some v) e) h')):=by
 apply propext
 constructor
 ·rintro⟨f,first,cap,vs,h1,h2,h3⟩
  exact⟨(f,first.toList,cap.toList),by rw[h1];rfl,vs,h2,h3⟩
 ·rintro⟨⟨f,first,cap⟩,h1,vs,h2,h3⟩
  cases hf:fo.get e with
  | none=>rw[hf] at h1;simp at h1
  | some v=>
   rw[hf] at h1
   simp only[Option.bind_some] at h1
   unfold fnOf at h1
   split at h1
   ·simp only[Option.some.injEq,Prod.mk.injEq] at h1
    obtain⟨rfl,rfl,rfl⟩:=h1
    exact⟨_,_,_,vs,hf,h2,h3⟩
   ·simp at h1
@[simp] theorem fnOf_func {f:FuncId}{a b:Array Value}:fnOf (.func (.func f) a b)=some (f,a.toList,b.toList):=rfl
@[simp] theorem eget_zero {x:Option Value}{l:Env}:eget (x::l) 0=x:=rfl
@[simp] theorem eget_succ {x:Option Value}{l:Env}{n:Nat}:eget (x::l) (n+1)=eget l n:=rfl
@[simp] theorem eset_zero {x v:Option Value}{l:Env}:eset (x::l) 0 v=v::l:=rfl
@[simp] theorem eset_succ {x v:Option Value}{l:Env}{n:Nat}:eset (x::l) (n+1) v=x::eset l n v:=rfl
@[simp] theorem efgt_nil {l:Env}:efgt l []=l:=rfl
@[simp] theorem efgt_cons {l:Env}{i:Nat}{r:List Nat}:efgt l (i::r)=efgt (eset l i none) r:=rfl
@[simp] theorem eext_zero {m:Nat}{l:Env}:eext 0 m l=List.replicate m none:=rfl
@[simp] theorem eext_succ {n m:Nat}{x:Option Value}{l:Env}:eext (n+1) m (x::l)=x::eext n m l:=rfl
@[simp] theorem get_v {i:Nat}:(O.v i).get e=eget e i:=rfl
@[simp] theorem get_c {x:Value}:(O.c x).get e=some x:=rfl
@[simp] theorem ogets_nil:ogets e []=some []:=rfl
@[simp] theorem dput_none {v:Option Value}:dput none v e=e:=rfl
@[simp] theorem dput_some {i:Nat}{v:Option Value}:dput (some i) v e=eset e i v:=rfl
@[simp] theorem gval_true {v:Option Value}:gval true v=v:=rfl
@[simp] theorem gval_false {v:Option Value}:gval false v=some undef:=rfl
@[simp] theorem tupV_one {v:Value}:tupV [v]=v:=rfl
@[simp] theorem tupV_two {v u:Value}{l:List Value}:tupV (v::u::l)=.tuple (v::u::l).toArray:=rfl
theorem le_refl':h.le h:=fun _ _ hb=>hb
theorem Fgt.keep {k:Env→Heap→Prop}(hk:k e h):Fgt k e h:=⟨h,le_refl',hk⟩
theorem Fgt.drop {k:Env→Heap→Prop}{h':Heap}(hl:h'.le h) (hk:k e h'):Fgt k e h:=⟨h',hl,hk⟩
theorem wrap64 {n:Int}(h1:-9223372036854775808≤n) (h2:n<9223372036854775808):IntKind.i64.wrap n=n:=by
 rw[IntKind.wrap_i64];omega
end
def allOne:List Value→Bool
 | []=>true
 | v::l=>v.oneCell'&&allOne l
@[simp] theorem allOne_nil:allOne []=true:=rfl
@[simp] theorem allOne_cons {v:Value}{l:List Value}:allOne (v::l)=(v.oneCell'&&allOne l):=rfl
theorem allOne_eq:∀l,List.all l Value.oneCell'=allOne l
 | []=>rfl
 | v::l=>by simp[allOne,allOne_eq l]
@[simp] theorem cells_agg {c:Array Value}:(Value.agg c).cells=c:=rfl
@[simp] theorem cells_int {k:IntKind}{n:Int}:(Value.int k n).cells = #[.int k n]:=rfl
@[simp] theorem cells_bool {b:Bool}:(Value.bool b).cells = #[.bool b]:=rfl
@[simp] theorem cells_string {b:ByteArray}:(Value.string b).cells = #[.string b]:=rfl
@[simp] theorem cells_slice {p:Option Addr}{n c:Nat}:(Value.slice p n c).cells = #[.slice p n c]:=rfl
@[simp] theorem cells_pointer {p:Option Addr}:(Value.pointer p).cells = #[.pointer p]:=rfl
@[simp] theorem cells_map {p:Option Nat}:(Value.map p).cells = #[.map p]:=rfl
@[simp] theorem cells_func {f:Fn}{a b:Array Value}:(Value.func f a b).cells = #[.func f a b]:=rfl
@[simp] theorem cells_nilFunc:Value.nilFunc.cells = #[.nilFunc]:=rfl
@[simp] theorem pgetV_agg {c:Array Value}{off:Nat}:pgetV (some (.agg c)) off none=c.toList[off]?:=rfl
@[simp] theorem pgetV_aggs {c:Array Value}{off n:Nat}:pgetV (some (.agg c)) off (some n)=if off=0∧c.size=n then some (.agg c) else partV c.toList off (some n):=rfl
@[simp] theorem pgetV_int {k:IntKind}{n:Int}:pgetV (some (.int k n)) 0 none=some (.int k n):=rfl
@[simp] theorem pgetV_bool {b:Bool}:pgetV (some (.bool b)) 0 none=some (.bool b):=rfl
@[simp] theorem pgetV_string {b:ByteArray}:pgetV (some (.string b)) 0 none=some (.string b):=rfl
@[simp] theorem pgetV_slice {p:Option Addr}{n c:Nat}:pgetV (some (.slice p n c)) 0 none=some (.slice p n c):=rfl
@[simp] theorem psetV_agg {c:Array Value}{off sz:Nat}{x:Value}:psetV (some (.agg c)) off sz (some x)=if x.cells.size=sz∧off+sz≤c.size∧allOne x.cells.toList=true then
  some (if off=0∧sz=c.size then .agg x.cells else .agg (setC c.toList off x.cells.toList).toArray) else none:=by
 rw[← allOne_eq];rfl
@[simp] theorem psetV_int {k:IntKind}{n:Int}{x:Value}:psetV (some (.int k n)) 0 1 (some x)=if x.cells.size=1∧allOne x.cells.toList=true then x.cells[0]? else none:=by
 rw[← allOne_eq]
 simp only[psetV,cells_int]
 simp
@[simp] theorem psetV_bool {b:Bool}{x:Value}:psetV (some (.bool b)) 0 1 (some x)=if x.cells.size=1∧allOne x.cells.toList=true then x.cells[0]? else none:=by
 rw[← allOne_eq]
 simp only[psetV,cells_bool]
 simp
@[simp] theorem psetV_string {b:ByteArray}{x:Value}:psetV (some (.string b)) 0 1 (some x)=if x.cells.size=1∧allOne x.cells.toList=true then x.cells[0]? else none:=by
 rw[← allOne_eq]
 simp only[psetV,cells_string]
 simp
@[simp] theorem psetV_slice {p:Option Addr}{n c:Nat}{x:Value}:psetV (some (.slice p n c)) 0 1 (some x)=if x.cells.size=1∧allOne x.cells.toList=true then x.cells[0]? else none:=by
 rw[← allOne_eq]
 simp only[psetV,cells_slice]
 simp
@[simp] theorem one_int {k:IntKind}{n:Int}:(Value.int k n).oneCell'=true:=rfl
@[simp] theorem one_bool {b:Bool}:(Value.bool b).oneCell'=true:=rfl
@[simp] theorem one_string {b:ByteArray}:(Value.string b).oneCell'=true:=rfl
@[simp] theorem one_slice {p:Option Addr}{n c:Nat}:(Value.slice p n c).oneCell'=true:=rfl
@[simp] theorem one_pointer {p:Option Addr}:(Value.pointer p).oneCell'=true:=rfl
@[simp] theorem one_map {p:Option Nat}:(Value.map p).oneCell'=true:=rfl
@[simp] theorem one_func {f:Fn}{a b:Array Value}:(Value.func f a b).oneCell'=true:=rfl
@[simp] theorem one_nilFunc:Value.nilFunc.oneCell'=true:=rfl
attribute [simp] wp_skip wp_pl wp_seq wp_cond wp_block wp_exit wp_ret pl_done pl_st s_act s_g A.dst s_re s_reg s_ext
 a_px a_ld a_pnew a_pget a_pset a_als a_psl a_call a_callv PX.ev gcond env0 binV intV strV unV resV ogets pgetC aok eqB eqL fillP partV
theorem CallE.gen {P:Program}{f:FuncId}{args:List Value}{h:Heap}{Q:Value→Heap→Prop}(hg:∀k:Value→Heap→Prop,(∀v h',Q v h'→k v h')→CallE P f args h k):CallE P f args h Q:=hg Q fun _ _ hq=>hq
theorem CallE.to {P:Program}{f:FuncId}{args:List Value}{h:Heap}{Q k:Value→Heap→Prop}(hc:CallE P f args h Q) (hk:∀v h',Q v h'→k v h'):CallE P f args h k:=CallE.mono hk hc
def Heap.nil:Heap:=fun _=>none
def Heap.one (b:Nat) (o:Obj):Heap:=fun x=>if x=b then some o else none
def clash:Obj:=.map #[] 0
def oplus:Option Obj→Option Obj→Option Obj
 | none,y=>y
 | some x,none=>some x
 | some _,some _=>some clash
def Heap.add (h r:Heap):Heap:=fun b=>oplus (h b) (r b)
def Dj (h r:Heap):Prop:=∀b,h b=none∨r b=none
section
variable {a b c h h' r r':Heap}
@[simp] theorem oplus_none {x:Option Obj}:oplus x none=x:=by cases x<;>rfl
@[simp] theorem none_oplus {x:Option Obj}:oplus none x=x:=rfl
@[simp] theorem oplus_eq_none {x y:Option Obj}:oplus x y=none↔x=none∧y=none:=by cases x<;>cases y<;>simp[oplus]
@[simp] theorem add_nil:h.add Heap.nil=h:=by funext b;simp[Heap.add,Heap.nil]
@[simp] theorem nil_add:Heap.nil.add h=h:=by funext b;simp[Heap.add,Heap.nil]
theorem add_assoc:(a.add b).add c=a.add (b.add c):=by
 funext x
 simp only[Heap.add]
 cases a x<;>cases b x<;>cases c x<;>rfl
theorem add_comm:a.add b=b.add a:=by
 funext x
 simp only[Heap.add]
 cases a x<;>cases b x<;>rfl
instance:Std.Associative Heap.add:=⟨fun _ _ _=>add_assoc⟩
instance:Std.Commutative Heap.add:=⟨fun _ _=>add_comm⟩
theorem Dj.symm (d:Dj a b):Dj b a:=fun x=>(d x).symm
theorem Dj.comm (_:Dj a b):a.add b=b.add a:=add_comm
@[simp] theorem Dj_nil:Dj h Heap.nil:=fun _=>.inr rfl
@[simp] theorem nil_Dj:Dj Heap.nil h:=fun _=>.inl rfl
theorem Dj_add:Dj h (a.add b)↔Dj h a∧Dj h b:=by
 constructor
 ·intro d
  constructor<;>intro x<;>rcases d x with h1 | h1
  ·exact .inl h1
  ·simp only[Heap.add,oplus_eq_none] at h1;exact .inr h1.1
  ·exact .inl h1
  ·simp only[Heap.add,oplus_eq_none] at h1;exact .inr h1.2
 ·rintro⟨d1,d2⟩ x
  rcases d1 x with h1 | h1
  ·exact .inl h1
  ·rcases d2 x with h2 | h2
   ·exact .inl h2
   ·exact .inr (by simp[Heap.add,h1,h2])
theorem add_Dj:Dj (a.add b) h↔Dj a h∧Dj b h:=
 ⟨fun d=>⟨(Dj_add.1 d.symm).1.symm,(Dj_add.1 d.symm).2.symm⟩,fun d=>(Dj_add.2 ⟨d.1.symm,d.2.symm⟩).symm⟩
theorem Dj_one {b:Nat}{o:Obj}:Dj h (Heap.one b o)↔h b=none:=by
 constructor
 ·intro d
  rcases d b with h1 | h1
  ·exact h1
  ·simp[Heap.one] at h1
 ·intro h1 x
  by_cases hx:x=b
  ·subst hx;exact .inl h1
  ·exact .inr (by simp[Heap.one,hx])
theorem one_Dj {b:Nat}{o:Obj}:Dj (Heap.one b o) h↔h b=none:=⟨fun d=>Dj_one.1 d.symm,fun d=>(Dj_one.2 d).symm⟩
theorem set_new {b:Nat}{o:Obj}(hb:h b=none):h.set b o=h.add (Heap.one b o):=by
 funext x
 by_cases hx:x=b
 ·subst hx;simp[Heap.set,Heap.add,Heap.one,hb]
 ·simp[Heap.set,Heap.add,Heap.one,hx]
theorem set_one {b:Nat}{o o':Obj}(hb:h b=none):(h.add (Heap.one b o)).set b o'=h.add (Heap.one b o'):=by
 funext x
 by_cases hx:x=b
 ·subst hx;simp[Heap.set,Heap.add,Heap.one,hb]
 ·simp[Heap.set,Heap.add,Heap.one,hx]
theorem add_one_set {b:Nat}{o o':Obj}(hb:h b=none) (hr:r b=none):(h.add ((Heap.one b o).add r)).set b o'=h.add ((Heap.one b o').add r):=by
 funext x
 by_cases hx:x=b
 ·subst hx;simp[Heap.set,Heap.add,Heap.one,hb,hr]
 ·simp[Heap.set,Heap.add,Heap.one,hx]
theorem Heap.le.refl (h:Heap):h.le h:=fun _ _ hb=>hb
theorem Heap.le.trans (h1:a.le b) (h2:b.le c):a.le c:=fun x o hb=>h2 x o (h1 x o hb)
theorem le_add (d:Dj h r):h.le (h.add r):=fun x o hb=>by
 rcases d x with h1 | h1
 ·rw[h1] at hb;simp at hb
 ·simp[Heap.add,h1,hb]
theorem le_add' (d:Dj h r):r.le (h.add r):=add_comm (a:=h)▸le_add d.symm
theorem le_drop (d0:Dj h r) (d:Dj r c):(h.add c).le ((h.add r).add c):=by
 intro x o hb
 simp only[Heap.add] at hb ⊢
 rcases d x with h1 | h1
 ·simpa[h1] using hb
 ·rcases d0 x with h2 | h2
  ·rw[h1,h2] at hb;simp at hb
  ·simpa[h2] using hb
theorem add_swap (_:Dj a b):(h.add a).add b=(h.add b).add a:=by rw[add_assoc,add_comm (a:=a),add_assoc]
theorem Dj.le (d:Dj h r) (hl:h'.le h):Dj h' r:=fun x=>by
 rcases d x with h1 | h1
 ·cases hx:h' x with
  | none=>exact .inl rfl
  | some o=>rw[hl x o hx] at h1;simp at h1
 ·exact .inr h1
theorem hcell_le {i off:Nat}{v:Value}(hl:h.le h') (hc:hcell h i off=some v):hcell h' i off=some v:=by
 unfold hcell at hc ⊢
 split at hc
 ·rename_i c el fr hb
  rw[hl _ _ hb]
  exact hc
 ·simp at hc
theorem hcells_le {i:Nat}:∀{n off:Nat}{l:List Value}(_:h.le h') (_:hcells h i off n=some l),hcells h' i off n=some l
 | 0,_,_,_,hc=>hc
 | n+1,off,l,hl,hc=>by
  simp only[hcells] at hc ⊢
  split at hc
  ·rename_i v r hv hr
   rw[hcell_le hl hv,hcells_le hl hr]
   exact hc
  ·simp at hc
theorem hload_le {p:Option Value}{sz:Option Nat}{v:Value}(hl:h.le h') (hc:hload h p sz=some v):hload h' p sz=some v:=by
 unfold hload at hc ⊢
 split at hc
 ·split at hc
  ·exact hcell_le hl hc
  ·simp only[Option.map_eq_some_iff] at hc ⊢
   obtain⟨l,h1,h2⟩:=hc
   exact⟨l,hcells_le hl h1,h2⟩
 ·simp at hc
theorem hcells_mk {i:Nat}{c:Array Value}{el:TypeId}{fr:Nat×Nat}(hb:h i=some (.cells c el fr)):∀{n off:Nat},off+n≤c.size→hcells h i off n=some ((c.toList.drop off).take n)
 | 0,_,_=>by simp[hcells]
 | n+1,off,ho=>by
  simp only[hcells]
  rw[hcells_mk hb (n:=n) (off:=off+1) (by omega)]
  have h1:hcell h i off=some c[off]:=by simp[hcell,hb]
  rw[h1]
  simp only[Option.some.injEq]
  rw[List.drop_eq_getElem_cons (by simp;omega:off<c.toList.length)]
  simp
end
class Ty (α:Type) where
 agg:Bool
 sz:Nat
 rep:Heap→List Value→α→Prop
 own:Heap→List Value→α→Prop
 one:agg=false→sz=1
 len:∀{h cs x},rep h cs x→cs.length=sz
 cell:∀{h cs x},rep h cs x→∀v∈cs,v.oneCell'=true
 mono:∀{h h' cs x},Heap.le h h'→rep h cs x→rep h' cs x
 own_rep:∀{r cs x},own r cs x→rep r cs x
def valC (agg:Bool) (cs:List Value):Value:=if agg then .agg cs.toArray else cs.headD undef
def Rep {α:Type} [Ty α] (h:Heap) (v:Value) (x:α):Prop:=∃cs,v=valC (Ty.agg α) cs∧Ty.rep h cs x
def Own {α:Type} [Ty α] (r:Heap) (v:Value) (x:α):Prop:=∃cs,v=valC (Ty.agg α) cs∧Ty.own r cs x
def szo (α:Type) [Ty α]:Option Nat:=if Ty.agg α then some (Ty.sz α) else none
section
variable {α:Type} [Ty α] {h h' r:Heap}{v:Value}{x:α}
theorem Rep.le (hr:Rep h v x) (hl:h.le h'):Rep h' v x:=by
 obtain⟨cs,h1,h2⟩:=hr
 exact⟨cs,h1,Ty.mono hl h2⟩
theorem Own.rep (ho:Own r v x):Rep r v x:=by
 obtain⟨cs,h1,h2⟩:=ho
 exact⟨cs,h1,Ty.own_rep h2⟩
theorem Own.rep' (ho:Own r v x) (d:Dj h r):Rep (h.add r) v x:=ho.rep.le (le_add' d)
theorem Rep.add (hr:Rep h v x) (d:Dj h r):Rep (h.add r) v x:=hr.le (le_add d)
theorem valC_cells {cs:List Value}(h1:Ty.agg α=false→cs.length=1) (h2:∀v∈cs,v.oneCell'=true):(valC (Ty.agg α) cs).cells.toList=cs:=by
 unfold valC
 cases ha:Ty.agg α with
 | true=>rfl
 | false=>
  have:=h1 ha
  match cs,this with
  | [u],_=>
   have h3:=h2 u (by simp)
   cases u<;>first | rfl | simp[Value.oneCell'] at h3
theorem rep_cells {cs:List Value}(hr:Ty.rep h cs x):(valC (Ty.agg α) cs).cells.toList=cs:=
 valC_cells (fun ha=>by rw[Ty.len hr,Ty.one ha]) (Ty.cell hr)
end
def ownL {α:Type} [Ty α]:List α→List Value→Heap→Prop
 | [],_,r=>r=Heap.nil
 | x::l,cs,r=>∃r1 r2,r=r1.add r2∧Dj r1 r2∧Ty.own r1 (cs.take (Ty.sz α)) x∧ownL l (cs.drop (Ty.sz α)) r2
def okP (p:Option Addr):Prop:=p=none∨∃b off,p=some ⟨b,off,none⟩
section
variable {α:Type} [Ty α]
def repL (h:Heap) (p:Option Addr) (l:List α):Prop:=∀i (hi:i<l.length),∃b off vs,p=some ⟨b,off,none⟩∧hcells h b (off+i*Ty.sz α) (Ty.sz α)=some vs∧Ty.rep h vs l[i]
theorem repL_le {h h':Heap}{p:Option Addr}{l:List α}(hl:h.le h') (hr:repL h p l):repL h' p l:=fun i hi=>by
 obtain⟨b,off,vs,h1,h2,h3⟩:=hr i hi
 exact⟨b,off,vs,h1,hcells_le hl h2,Ty.mono hl h3⟩
theorem ownL_at:∀{l:List α}{cs:List Value}{r:Heap},ownL l cs r→∀i (hi:i<l.length),∃r1 r2,r=r1.add r2∧Dj r1 r2∧Ty.own r1 ((cs.drop (i*Ty.sz α)).take (Ty.sz α)) l[i] ∧
  ∀r1' c' y,Dj r1' r2→Ty.own r1' c' y→ownL (l.set i y) (setC cs (i*Ty.sz α) c') (r1'.add r2)
 | [],_,_,_,i,hi=>by simp at hi
 | x::l,cs,r,ho,0,_=>by
  obtain⟨r1,r2,h1,h2,h3,h4⟩:=ho
  refine⟨r1,r2,h1,h2,by simpa using h3,?_⟩
  intro r1' c' y d o'
  have hlen:=Ty.len (Ty.own_rep o')
  refine⟨r1',r2,rfl,d,?_,?_⟩
  ·simpa[setC,List.take_append,hlen] using o'
  ·simpa[setC,List.drop_append,hlen] using h4
 | x::l,cs,r,ho,i+1,hi=>by
  obtain⟨r1,r2,h1,h2,h3,h4⟩:=ho
  obtain⟨s1,s2,g1,g2,g3,g4⟩:=ownL_at h4 i (by simpa using hi)
  subst h1;subst g1
  obtain⟨d1,d2⟩:=Dj_add.1 h2
  refine⟨s1,r1.add s2,?_,?_,?_,?_⟩
  ·rw[← add_assoc,d1.comm,add_assoc]
  ·exact Dj_add.2 ⟨d1.symm,g2⟩
  ·simpa[List.drop_drop,Nat.add_mul,Nat.add_comm] using g3
  ·intro r1' c' y d o'
   obtain⟨e1,e2⟩:=Dj_add.1 d
   have hlen:=Ty.len (Ty.own_rep h3)
   have hlen':=Ty.len (Ty.own_rep o')
   have hcs:Ty.sz α≤cs.length:=by
    have:=hlen
    simp at this
    omega
   have ha:(i+1)*Ty.sz α=Ty.sz α+i*Ty.sz α:=by rw[Nat.add_mul];omega
   refine⟨r1,r1'.add s2,?_,Dj_add.2 ⟨e1.symm,d2⟩,?_,?_⟩
   ·rw[← add_assoc,e1.comm,add_assoc]
   ·have:(setC cs ((i+1)*Ty.sz α) c').take (Ty.sz α)=cs.take (Ty.sz α):=by
     rw[setC,ha,List.append_assoc,List.take_append_of_le_length (by simp;omega),List.take_take]
     congr 1;omega
    rw[this];exact h3
   ·have:(setC cs ((i+1)*Ty.sz α) c').drop (Ty.sz α)=setC (cs.drop (Ty.sz α)) (i*Ty.sz α) c':=by
     unfold setC
     rw[ha,List.append_assoc,List.drop_append_of_le_length (by simp;omega),List.drop_take,List.append_assoc,List.drop_drop]
     congr 2
     ·omega
     ·congr 1;omega
    rw[this]
    exact g4 r1' c' y e2 o'
theorem ownL_sub {l:List α}{cs:List Value}{r:Heap}(ho:ownL l cs r) (i:Nat) (hi:i<l.length):Ty.rep r ((cs.drop (i*Ty.sz α)).take (Ty.sz α)) l[i]:=by
 obtain⟨r1,r2,h1,h2,h3,_⟩:=ownL_at ho i hi
 subst h1
 exact Ty.mono (le_add h2) (Ty.own_rep h3)
theorem ownL_len:∀{l:List α}{cs:List Value}{r:Heap},ownL l cs r→l.length*Ty.sz α≤cs.length
 | [],_,_,_=>by simp
 | x::l,cs,r,ho=>by
  obtain⟨r1,r2,h1,h2,h3,h4⟩:=ho
  have:=ownL_len h4
  have hlen:=Ty.len (Ty.own_rep h3)
  simp at this hlen ⊢
  rw[Nat.add_mul]
  omega
theorem ownL_congr:∀{l:List α}{cs cs':List Value}{r:Heap},ownL l cs r→cs.take (l.length*Ty.sz α)=cs'.take (l.length*Ty.sz α)→ownL l cs' r
 | [],_,_,_,ho,_=>ho
 | x::l,cs,cs',r,ho,he=>by
  obtain⟨r1,r2,h1,h2,h3,h4⟩:=ho
  have ha:(x::l).length*Ty.sz α=Ty.sz α+l.length*Ty.sz α:=by simp[Nat.add_mul];omega
  rw[ha] at he
  refine⟨r1,r2,h1,h2,?_,?_⟩
  ·have:=congrArg (List.take (Ty.sz α)) he
   rw[List.take_take,List.take_take,Nat.min_eq_left (by omega)] at this
   rw[← this];exact h3
  ·refine ownL_congr h4 ?_
   have:=congrArg (List.drop (Ty.sz α)) he
   rw[List.drop_take,List.drop_take] at this
   simpa using this
theorem ownL_append:∀{l l2:List α}{cs cs2:List Value}{r r2:Heap},ownL l cs r→cs.length=l.length*Ty.sz α→ownL l2 cs2 r2→Dj r r2→ownL (l++l2) (cs++cs2) (r.add r2)
 | [],l2,cs,cs2,r,r2,ho,hc,h2,_=>by
  have:cs=[]:=by simpa using hc
  subst this
  have hr:r=Heap.nil:=ho
  subst hr
  simpa using h2
 | x::l,l2,cs,cs2,r,r2,ho,hc,h2,d=>by
  obtain⟨s1,s2,e1,e2,e3,e4⟩:=ho
  subst e1
  obtain⟨d1,d2⟩:=add_Dj.1 d
  have hlen:=Ty.len (Ty.own_rep e3)
  have ha:cs.length=Ty.sz α+l.length*Ty.sz α:=by rw[hc];simp[Nat.add_mul];omega
  refine⟨s1,s2.add r2,by rw[add_assoc],Dj_add.2 ⟨e2,d1⟩,?_,?_⟩
  ·rw[List.take_append_of_le_length (by omega)];exact e3
  ·rw[List.drop_append_of_le_length (by omega)]
   exact ownL_append e4 (by simp;omega) h2 d2
theorem ownL_split:∀{l l2:List α}{cs:List Value}{r:Heap},ownL (l++l2) cs r→∃r1 r2,r=r1.add r2∧Dj r1 r2∧ownL l cs r1∧ownL l2 (cs.drop (l.length*Ty.sz α)) r2
 | [],l2,cs,r,ho=>⟨Heap.nil,r,by simp,by simp,rfl,by simpa using ho⟩
 | x::l,l2,cs,r,ho=>by
  obtain⟨s1,s2,e1,e2,e3,e4⟩:=ho
  obtain⟨t1,t2,f1,f2,f3,f4⟩:=ownL_split e4
  subst e1;subst f1
  obtain⟨d1,d2⟩:=Dj_add.1 e2
  refine⟨s1.add t1,t2,by rw[add_assoc],add_Dj.2 ⟨d2,f2⟩,⟨s1,t1,rfl,d1,e3,f3⟩,?_⟩
  rw[List.drop_drop] at f4
  have ha:(x::l).length*Ty.sz α=Ty.sz α+l.length*Ty.sz α:=by simp[Nat.add_mul];omega
  rw[ha];exact f4
theorem ownL_reps {z:List Value}{y:α}(hz:Ty.own Heap.nil z y):∀n,ownL (List.replicate n y) (reps n z) Heap.nil
 | 0=>rfl
 | n+1=>by
  have hlen:=Ty.len (Ty.own_rep hz)
  refine⟨Heap.nil,Heap.nil,by simp,by simp,?_,?_⟩
  ·simpa[reps,List.replicate_succ,List.take_append,hlen] using hz
  ·simpa[reps,List.replicate_succ,List.drop_append,hlen] using ownL_reps hz n
end
section
variable {α:Type} [Ty α]
def repS (h:Heap) (cs:List Value) (l:List α):Prop:=∃p cap,cs=[.slice p l.length cap]∧(l.length≤cap∧l.length<4611686018427387904)∧True∧repL h p l
def ownS (r:Heap) (cs:List Value) (l:List α):Prop:=
 (∃p,cs=[.slice p 0 0]∧l=[]∧r=Heap.nil∧okP p) ∨
 ∃(b off cap:Nat) (cells:List Value) (el:TypeId) (r':Heap),cs=[.slice (some ⟨b,off,none⟩) l.length cap]∧(l.length≤cap∧l.length<4611686018427387904)∧off+cap*Ty.sz α≤cells.length ∧
  r=(Heap.one b (.cells cells.toArray el (0,0))).add r'∧r' b=none∧ownL l (cells.drop off) r'
theorem ownS_rep {r:Heap}{cs:List Value}{l:List α}(ho:ownS r cs l):repS r cs l:=by
 rcases ho with ⟨p,h1,h2,h3,h4⟩ | ⟨b,off,cap,cells,el,r',h1,h2,h3,h4,h5,h6⟩
 ·subst h2
  exact⟨p,0,h1,by simp,trivial,fun i hi=>by simp at hi⟩
 ·refine⟨_,cap,h1,h2,trivial,?_⟩
  intro i hi
  subst h4
  have hb:((Heap.one b (.cells cells.toArray el (0,0))).add r') b=some (.cells cells.toArray el (0,0)):=by simp[Heap.add,Heap.one,h5]
  have hsz:i*Ty.sz α+Ty.sz α≤cap*Ty.sz α:=by
   rw[← Nat.succ_mul]
   exact Nat.mul_le_mul_right _ (by have:=h2.1;omega)
  refine⟨b,off,_,rfl,hcells_mk hb (by simp;omega),?_⟩
  have:=ownL_sub h6 i hi
  rw[List.drop_drop] at this
  exact Ty.mono (le_add' (one_Dj.2 h5)) this
instance instTyList:Ty (List α) where
 agg:=false
 sz:=1
 rep:=repS
 own:=ownS
 one:=fun _=>rfl
 len:=by rintro h cs x ⟨p,cap,rfl,_⟩;rfl
 cell:=by rintro h cs x ⟨p,cap,rfl,_⟩ v hv;simp at hv;subst hv;rfl
 mono:=by
  rintro h h' cs x hl ⟨p,cap,h1,h2,h3,h4⟩
  exact⟨p,cap,h1,h2,h3,repL_le hl h4⟩
 own_rep:=ownS_rep
end
instance instTyInt:Ty Int where
 agg:=false
 sz:=1
 rep:=fun _ cs n=>cs=[.int .i64 n]∧-9223372036854775808≤n∧n<9223372036854775808
 own:=fun r cs n=>r=Heap.nil∧cs=[.int .i64 n]∧-9223372036854775808≤n∧n<9223372036854775808
 one:=fun _=>rfl
 len:=by rintro h cs x ⟨rfl,_⟩;rfl
 cell:=by rintro h cs x ⟨rfl,_⟩ v hv;simp at hv;subst hv;rfl
 mono:=fun _ hr=>hr
 own_rep:=fun ho=>ho.2
instance instTyBool:Ty Bool where
 agg:=false
 sz:=1
 rep:=fun _ cs n=>cs=[.bool n]
 own:=fun r cs n=>r=Heap.nil∧cs=[.bool n]
 one:=fun _=>rfl
 len:=by rintro h cs x rfl;rfl
 cell:=by rintro h cs x rfl v hv;simp at hv;subst hv;rfl
 mono:=fun _ hr=>hr
 own_rep:=fun ho=>ho.2
instance instTyStr:Ty ByteArray where
 agg:=false
 sz:=1
 rep:=fun _ cs n=>cs=[.string n]
 own:=fun r cs n=>r=Heap.nil∧cs=[.string n]
 one:=fun _=>rfl
 len:=by rintro h cs x rfl;rfl
 cell:=by rintro h cs x rfl v hv;simp at hv;subst hv;rfl
 mono:=fun _ hr=>hr
 own_rep:=fun ho=>ho.2
instance instTyU64:Ty (BitVec 64) where
 agg:=false
 sz:=1
 rep:=fun _ cs n=>cs=[.int .u64 n.toNat]
 own:=fun r cs n=>r=Heap.nil∧cs=[.int .u64 n.toNat]
 one:=fun _=>rfl
 len:=by rintro h cs x rfl;rfl
 cell:=by rintro h cs x rfl v hv;simp at hv;subst hv;rfl
 mono:=fun _ hr=>hr
 own_rep:=fun ho=>ho.2
instance instTyProd {α β:Type} [Ty α] [Ty β]:Ty (α×β) where
 agg:=true
 sz:=Ty.sz α+Ty.sz β
 rep:=fun h cs x=>∃c1 c2,cs=c1++c2∧Ty.rep h c1 x.1∧Ty.rep h c2 x.2
 own:=fun r cs x=>∃c1 c2 r1 r2,cs=c1++c2∧r=r1.add r2∧Dj r1 r2∧Ty.own r1 c1 x.1∧Ty.own r2 c2 x.2
 one:=fun h=>by simp at h
 len:=by rintro h cs x ⟨c1,c2,rfl,h1,h2⟩;simp[Ty.len h1,Ty.len h2]
 cell:=by
  rintro h cs x ⟨c1,c2,rfl,h1,h2⟩ v hv
  rcases List.mem_append.1 hv with h3 | h3
  ·exact Ty.cell h1 v h3
  ·exact Ty.cell h2 v h3
 mono:=by rintro h h' cs x hl ⟨c1,c2,h0,h1,h2⟩;exact⟨c1,c2,h0,Ty.mono hl h1,Ty.mono hl h2⟩
 own_rep:=by
  rintro r cs x ⟨c1,c2,r1,r2,h0,rfl,d,h1,h2⟩
  exact⟨c1,c2,h0,Ty.mono (le_add d) (Ty.own_rep h1),Ty.mono (le_add' d) (Ty.own_rep h2)⟩
@[reducible] def Ty.via {α β:Type} [Ty β] (f:α→β):Ty α where
 agg:=true
 sz:=Ty.sz β
 rep:=fun h cs x=>Ty.rep h cs (f x)
 own:=fun r cs x=>Ty.own r cs (f x)
 one:=fun h=>by simp at h
 len:=fun h=>Ty.len h
 cell:=fun h=>Ty.cell h
 mono:=fun hl h=>Ty.mono hl h
 own_rep:=fun h=>Ty.own_rep h
class Flat (α:Type) [Ty α] where
 enc:α→List Value
 ok:α→Prop
 rep_iff:∀{h cs}{x:α},Ty.rep h cs x↔cs=enc x∧ok x
 own_iff:∀{r cs}{x:α},Ty.own r cs x↔r=Heap.nil∧cs=enc x∧ok x
instance:Flat Int:=⟨fun n=>[.int .i64 n],fun n=>-9223372036854775808≤n∧n<9223372036854775808,Iff.rfl,Iff.rfl⟩
instance:Flat Bool:=⟨fun n=>[.bool n],fun _=>True,by simp[Ty.rep],by simp[Ty.own]⟩
instance:Flat ByteArray:=⟨fun n=>[.string n],fun _=>True,by simp[Ty.rep],by simp[Ty.own]⟩
instance:Flat (BitVec 64):=⟨fun n=>[.int .u64 n.toNat],fun _=>True,by simp[Ty.rep],by simp[Ty.own]⟩
instance {α β:Type} [Ty α] [Ty β] [Flat α] [Flat β]:Flat (α×β):=⟨fun x=>Flat.enc x.1++Flat.enc x.2,fun x=>Flat.ok x.1∧Flat.ok x.2,by
  intro h cs x
  simp only[Ty.rep,Flat.rep_iff]
  constructor
  ·rintro⟨c1,c2,rfl,⟨rfl,h1⟩,rfl,h2⟩;exact⟨rfl,h1,h2⟩
  ·rintro⟨rfl,h1,h2⟩;exact⟨_,_,rfl,⟨rfl,h1⟩,rfl,h2⟩,by
  intro h cs x
  simp only[Ty.own,Flat.own_iff]
  constructor
  ·rintro⟨c1,c2,r1,r2,rfl,rfl,_,⟨rfl,rfl,h1⟩,rfl,rfl,h2⟩;exact⟨by simp,rfl,h1,h2⟩
  ·rintro⟨rfl,rfl,h1,h2⟩;exact⟨_,_,Heap.nil,Heap.nil,rfl,by simp,by simp,⟨rfl,rfl,h1⟩,rfl,rfl,h2⟩⟩
@[reducible] def Flat.via {α β:Type} [Ty β] [Flat β] (f:α→β):@Flat α (Ty.via f):=
 let _:=Ty.via f
 ⟨fun x=>Flat.enc (f x),fun x=>Flat.ok (f x),fun {_ _ x}=>Flat.rep_iff (x:=f x),fun {_ _ x}=>Flat.own_iff (x:=f x)⟩
def elp (sz:Nat) (v:Value) (i:Nat):Value:=
 match v with
 | .slice (some p) _ _=>.pointer (some (p.add (i*sz)))
 | _=>undef
theorem srcV_slice {h:Heap}{b off n cap esz:Nat}{l:List Value}(hc:hcells h b off (n*esz)=some l):srcV h esz (some (.slice (some ⟨b,off,none⟩) n cap))=some (n,l):=by
 cases n with
 | zero=>simp[hcells] at hc;subst hc;rfl
 | succ n=>simp only[srcV,hc];rfl
theorem add_none (b off n:Nat):(⟨b,off,none⟩:Addr).add n=⟨b,off+n,none⟩:=by
 unfold Addr.add
 split
 ·next hn=>simp[hn]
 ·rfl
section
variable {α:Type} [Ty α] {h h' g r:Heap}{v:Value}{l:List α}
theorem Rep_list:Rep h v l↔∃p cap,v=.slice p l.length cap∧(l.length≤cap∧l.length<4611686018427387904)∧True∧repL h p l:=by
 constructor
 ·rintro⟨cs,rfl,p,cap,rfl,h1,h2,h3⟩;exact⟨p,cap,rfl,h1,h2,h3⟩
 ·rintro⟨p,cap,rfl,h1,h2,h3⟩;exact⟨_,rfl,p,cap,rfl,h1,h2,h3⟩
theorem Own_list:Own r v l↔(∃p,v=.slice p 0 0∧l=[]∧r=Heap.nil∧okP p) ∨
  ∃(b off cap:Nat) (cells:List Value) (el:TypeId) (r':Heap),v=.slice (some ⟨b,off,none⟩) l.length cap∧(l.length≤cap∧l.length<4611686018427387904)∧off+cap*Ty.sz α≤cells.length ∧
  r=(Heap.one b (.cells cells.toArray el (0,0))).add r'∧r' b=none∧ownL l (cells.drop off) r':=by
 constructor
 ·rintro⟨cs,rfl,⟨p,rfl,h1,h2,h3⟩ | ⟨b,off,cap,cells,el,r',rfl,h1,h2,h3,h4,h5⟩⟩
  ·exact .inl ⟨p,rfl,h1,h2,h3⟩
  ·exact .inr ⟨b,off,cap,cells,el,r',rfl,h1,h2,h3,h4,h5⟩
 ·rintro (⟨p,rfl,h1,h2,h3⟩ | ⟨b,off,cap,cells,el,r',rfl,h1,h2,h3,h4,h5⟩)
  ·exact⟨_,rfl,.inl ⟨p,rfl,h1,h2,h3⟩⟩
  ·exact⟨_,rfl,.inr ⟨b,off,cap,cells,el,r',rfl,h1,h2,h3,h4,h5⟩⟩
theorem Rep.len (hr:Rep h v l):lenVV v=some (.int .i64 l.length):=by
 obtain⟨p,cap,rfl,_⟩:=Rep_list.1 hr
 rfl
theorem Rep.lt (hr:Rep h v l):l.length<4611686018427387904:=by
 obtain⟨p,cap,rfl,h1,_⟩:=Rep_list.1 hr
 exact h1.2
theorem Rep.cells (hr:Rep h v l):v.cells = #[v]:=by
 obtain⟨p,cap,rfl,h1,_⟩:=Rep_list.1 hr
 rfl
theorem Rep.one (hr:Rep h v l):v.oneCell'=true:=by
 obtain⟨p,cap,rfl,h1,_⟩:=Rep_list.1 hr
 rfl
theorem Rep.ia (hr:Rep h v l) {k:IntKind}{i:Int}(h0:0≤i) (h1:i<l.length):iaV (Ty.sz α) v (.int k i)=some (elp (Ty.sz α) v i.toNat):=by
 obtain⟨p,cap,rfl,hc,hp,hl⟩:=Rep_list.1 hr
 obtain⟨b,off,vs,rfl,_⟩:=hl i.toNat (by omega)
 simp[iaV,elp,h0,h1]
theorem Rep.ld (hr:Rep h v l) {i:Nat}(hi:i<l.length):∃u,hload h (some (elp (Ty.sz α) v i)) (szo α)=some u∧Rep h u l[i]:=by
 obtain⟨p,cap,rfl,hc,hp,hl⟩:=Rep_list.1 hr
 obtain⟨b,off,vs,rfl,h1,h2⟩:=hl i hi
 refine⟨valC (Ty.agg α) vs,?_,vs,rfl,h2⟩
 simp only[elp,add_none,hload,szo,valC]
 cases ha:Ty.agg α with
 | true=>simp[h1]
 | false=>
  have h3:=Ty.one ha
  rw[h3] at h1
  simp only[hcells] at h1
  rw[h3]
  simp only[Bool.false_eq_true,if_false]
  split at h1
  ·rename_i v r hv hr
   simp only[Option.some.injEq] at h1
   subst h1
   simpa using hv
  ·simp at h1
theorem Rep.ia' {n:Nat}(hr:Rep h v l) (hn:n=Ty.sz α) {k:IntKind}{i:Int}(h0:0≤i) (h1:i<l.length):iaV n v (.int k i)=some (elp n v i.toNat):=by
 subst hn;exact hr.ia h0 h1
theorem Rep.ian {n:Nat}(hr:Rep h v l) (hn:n=Ty.sz α) {k:IntKind}{i:Nat}(h1:i<l.length):iaV n v (.int k i)=some (elp n v i):=by
 have:=hr.ia' hn (k:=k) (i:=(i:Int)) (by omega) (by omega)
 simpa using this
theorem Rep.ldF [Flat α] (hr:Rep h v l) {i:Nat}(hi:i<l.length):hload h (some (elp (Ty.sz α) v i)) (szo α)=some (valC (Ty.agg α) (Flat.enc l[i])):=by
 obtain⟨u,h1,cs,h2,h3⟩:=hr.ld hi
 rw[h1,h2,(Flat.rep_iff.1 h3).1]
theorem Rep.okF [Flat α] (hr:Rep h v l) {i:Nat}(hi:i<l.length):Flat.ok l[i]:=by
 obtain⟨u,h1,cs,h2,h3⟩:=hr.ld hi
 exact (Flat.rep_iff.1 h3).2
end
theorem Rep.ldI {h:Heap}{v:Value}{l:List Int}(hr:Rep h v l) {i:Nat}(hi:i<l.length):hload h (some (elp 1 v i)) none=some (.int .i64 l[i]):=hr.ldF hi
theorem Rep.ldB {h:Heap}{v:Value}{l:List Bool}(hr:Rep h v l) {i:Nat}(hi:i<l.length):hload h (some (elp 1 v i)) none=some (.bool l[i]):=hr.ldF hi
theorem Rep.ldS {h:Heap}{v:Value}{l:List ByteArray}(hr:Rep h v l) {i:Nat}(hi:i<l.length):hload h (some (elp 1 v i)) none=some (.string l[i]):=hr.ldF hi
theorem Rep.ldU {h:Heap}{v:Value}{l:List (BitVec 64)}(hr:Rep h v l) {i:Nat}(hi:i<l.length):hload h (some (elp 1 v i)) none=some (.int .u64 l[i].toNat):=hr.ldF hi
theorem Rep.okI {h:Heap}{v:Value}{l:List Int}(hr:Rep h v l) {i:Nat}(hi:i<l.length):-9223372036854775808≤l[i]∧l[i]<9223372036854775808:=hr.okF hi
theorem own_zero {n:Int}(h1:-9223372036854775808≤n) (h2:n<9223372036854775808):Ty.own Heap.nil [.int .i64 n] n:=⟨rfl,rfl,h1,h2⟩
theorem own_false {b:Bool}:Ty.own Heap.nil [.bool b] b:=⟨rfl,rfl⟩
theorem own_nils {α:Type} [Ty α]:Ty.own (α:=List α) Heap.nil [.slice none 0 0] []:=.inl ⟨none,rfl,rfl,rfl,.inl rfl⟩
theorem Own_nils {α:Type} [Ty α]:Own (α:=List α) Heap.nil (.slice none 0 0) []:=⟨_,rfl,own_nils⟩
theorem Rep_int {h:Heap}{v:Value}{n:Int}:Rep h v n↔v=.int .i64 n∧-9223372036854775808≤n∧n<9223372036854775808:=
 ⟨fun ⟨_,h1,h2,h3⟩=>by subst h2;exact⟨h1,h3⟩,fun ⟨h1,h2⟩=>⟨[.int .i64 n],h1,rfl,h2⟩⟩
theorem take_set_succ {α:Type}{x y:List α}{i:Nat}(h1:y.take i=x.take i) (hi:i<x.length) (hl:y.length=x.length):(y.set i x[i]).take (i+1)=x.take (i+1):=by
 rw[List.take_add_one,List.take_add_one,List.take_set_of_le (Nat.le_refl i),h1]
 simp[hi,hl]
theorem eq_of_take {α:Type}{x y:List α}{i:Nat}(h1:y.take i=x.take i) (hi:x.length≤i) (hl:y.length=x.length):y=x:=by
 rwa [List.take_of_length_le (by omega),List.take_of_length_le hi] at h1
def Hole {α:Type} [Ty α] (r:Heap) (v:Value) (l:List α) (i:Nat) (u:Value):Prop:=
 ∃(b off cap:Nat) (cells:List Value) (el:TypeId) (r':Heap),v=.slice (some ⟨b,off,none⟩) l.length cap∧i<l.length∧(l.length≤cap∧l.length<4611686018427387904)∧off+cap*Ty.sz α≤cells.length ∧
  r=(Heap.one b (.cells cells.toArray el (0,0))).add r'∧r' b=none∧u=valC (Ty.agg α) (((cells.drop off).drop (i*Ty.sz α)).take (Ty.sz α)) ∧
  ∀r1' c' y,Dj r1' r'→Ty.own r1' c' y→ownL (l.set i y) (setC (cells.drop off) (i*Ty.sz α) c') (r1'.add r')
theorem setC_self {cs c:List Value}{n m:Nat}(h1:(cs.drop n).take m=c) (hc:c.length=m):setC cs n c=cs:=by
 subst h1
 simp at hc
 unfold setC
 conv=>rhs;rw[← List.take_append_drop n cs]
 rw[List.append_assoc]
 congr 1
 rw[List.length_take,List.length_drop]
 conv=>rhs;rw[← List.take_append_drop m (cs.drop n)]
 rw[List.drop_drop]
 congr 2
 omega
section
variable {α:Type} [Ty α] {h h' g r r2 ru:Heap}{v u:Value}{l:List α}{i:Nat}
theorem valC_inj {c:List Value}{c':List Value}(h1:Ty.agg α=false→c.length=1) (h2:Ty.agg α=false→c'.length=1) (hv:valC (Ty.agg α) c=valC (Ty.agg α) c'):c=c':=by
 unfold valC at hv
 cases ha:Ty.agg α with
 | true=>rw[ha] at hv;simpa using hv
 | false=>
  rw[ha] at hv
  have e1:=h1 ha
  have e2:=h2 ha
  match c,c',e1,e2 with
  | [x],[y],_,_=>simpa using hv
theorem slot_le {i n c s:Nat}(h1:i<n) (h2:n≤c):i*s+s≤c*s:=by
 rw[← Nat.succ_mul]
 exact Nat.mul_le_mul_right _ (by omega)
theorem Own.take (O:Own r v l) (hi:i<l.length):∃u r1 r2,r=r1.add r2∧Dj r1 r2∧Own r1 u l[i]∧Hole r2 v l i u:=by
 rcases Own_list.1 O with ⟨p,_,rfl,_⟩ | ⟨b,off,cap,cells,el,r',rfl,⟨h1,hM⟩,h2,rfl,h4,h5⟩
 ·simp at hi
 ·obtain⟨s1,s2,g1,g2,g3,g4⟩:=ownL_at h5 i hi
  subst g1
  obtain⟨n1,n2⟩:s1 b=none∧s2 b=none:=by simpa[Heap.add] using h4
  refine⟨_,s1,(Heap.one b (.cells cells.toArray el (0,0))).add s2,?_,Dj_add.2 ⟨Dj_one.2 n1,g2⟩,⟨_,rfl,g3⟩,b,off,cap,cells,el,s2,rfl,hi,⟨h1,hM⟩,h2,rfl,n2,rfl,g4⟩
  rw[← add_assoc,← add_assoc,(one_Dj.2 n1).comm]
theorem Hole.put {r1:Heap}{y:α}(H:Hole r2 v l i u) (d:Dj r1 r2) (O:Own r1 u y):Own (r1.add r2) v (l.set i y):=by
 obtain⟨b,off,cap,cells,el,r',rfl,hi,⟨h1,hM⟩,h2,rfl,h4,h5,h6⟩:=H
 obtain⟨c,hc,ho⟩:=O
 obtain⟨d1,d2⟩:=Dj_add.1 d
 have hs:=slot_le (s:=Ty.sz α) hi h1
 have hl:((((cells.drop off).drop (i*Ty.sz α)).take (Ty.sz α))).length=Ty.sz α:=by simp;omega
 have hlen:=Ty.len (Ty.own_rep ho)
 have e1:c=((cells.drop off).drop (i*Ty.sz α)).take (Ty.sz α):=valC_inj (α:=α) (fun ha=>by rw[hlen,Ty.one ha]) (fun ha=>by rw[hl,Ty.one ha]) (by rw[← hc,h5])
 have h7:=h6 r1 c y d2 ho
 rw[setC_self e1.symm hlen] at h7
 refine Own_list.2 (.inr ⟨b,off,cap,cells,el,r1.add r',by simp,⟨by simpa using h1,by simpa using hM⟩,h2,?_,?_,h7⟩)
 ·rw[← add_assoc,← add_assoc,d1.comm]
 ·simp[Heap.add,h4];exact Dj_one.1 d1
theorem Hole.ld (H:Hole r2 v l i u):hload r2 (some (elp (Ty.sz α) v i)) (szo α)=some u:=by
 obtain⟨b,off,cap,cells,el,r',rfl,hi,⟨h1,hM⟩,h2,rfl,h4,h5,h6⟩:=H
 have hs:=slot_le (s:=Ty.sz α) hi h1
 have hb:((Heap.one b (.cells cells.toArray el (0,0))).add r') b=some (.cells cells.toArray el (0,0)):=by simp[Heap.add,Heap.one,h4]
 have hc:=hcells_mk hb (n:=Ty.sz α) (off:=off+i*Ty.sz α) (by simp;omega)
 simp only[elp,add_none,hload,szo]
 rw[List.drop_drop] at h5
 cases ha:Ty.agg α with
 | true=>simp only[if_true,hc];rw[h5];simp[valC,ha]
 | false=>
  have h3:=Ty.one ha
  rw[h3] at hc h5 h2
  rw[ha] at h5
  simp only[Bool.false_eq_true,if_false]
  rw[h3] at hs ⊢
  have hlt:off+i*1<cells.length:=by omega
  rw[List.drop_eq_getElem_cons hlt] at h5
  simp only[valC,List.take_succ_cons,Bool.false_eq_true,if_false,List.headD_cons] at h5
  rw[h5]
  simp only[hcell,hb]
  simp at hlt ⊢
theorem Hole.len (H:Hole r2 v l i u):lenVV v=some (.int .i64 l.length):=by
 obtain⟨b,off,cap,cells,el,r',rfl,_⟩:=H
 rfl
theorem Hole.ia (H:Hole r2 v l i u) {k:IntKind}{n:Int}(h0:0≤n) (h1:n<l.length):iaV (Ty.sz α) v (.int k n)=some (elp (Ty.sz α) v n.toNat):=by
 obtain⟨b,off,cap,cells,el,r',rfl,_⟩:=H
 simp[iaV,elp,h0,h1]
theorem drop_setC {cs c:List Value}{a n:Nat}(h:a+n+c.length≤cs.length):(setC cs (a+n) c).drop a=setC (cs.drop a) n c:=by
 unfold setC
 rw[List.append_assoc,List.drop_append_of_le_length (by simp;omega),List.drop_take,List.append_assoc,List.drop_drop]
 congr 2
 ·omega
 ·congr 1;omega
theorem setC_length {cs c:List Value}{n:Nat}(h:n+c.length≤cs.length):(setC cs n c).length=cs.length:=by
 unfold setC;simp;omega
theorem Hole.store {y:α}(H:Hole r v l i u) {u':Value}(d:Dj g r) (d2:Dj (g.add r) ru) (Ou:Own ru u' y) :
  ∃b off h',elp (Ty.sz α) v i=.pointer (some ⟨b,off,none⟩)∧u'.cells.size=Ty.sz α∧hstore ((g.add r).add ru) b off u'.cells.toList=some h'∧∃r',h'=g.add r'∧Dj g r'∧Own r' v (l.set i y):=by
 obtain⟨b,off,cap,cells,el,r',rfl,hi,⟨h1,hM⟩,h2,rfl,h4,h5,h6⟩:=H
 obtain⟨c,rfl,ho⟩:=Ou
 have hlen:=Ty.len (Ty.own_rep ho)
 have hcell:=Ty.cell (Ty.own_rep ho)
 have hcs:=rep_cells (Ty.own_rep ho)
 have hs:=slot_le (s:=Ty.sz α) hi h1
 obtain⟨d3,d4⟩:=Dj_add.1 d
 obtain⟨d5,d6⟩:=add_Dj.1 d2
 obtain⟨d7,d8⟩:=add_Dj.1 d6
 have hb:(((g.add ((Heap.one b (.cells cells.toArray el (0,0))).add r')).add ru)) b=some (.cells cells.toArray el (0,0)):=by
  have:=Dj_one.1 d3
  simp[Heap.add,Heap.one,this,h4,one_Dj.1 d7]
 refine⟨b,off+i*Ty.sz α,g.add ((Heap.one b (.cells (setC cells (off+i*Ty.sz α) c).toArray el (0,0))).add (r'.add ru)),by simp[elp,add_none],?_,?_,?_⟩
 ·have:=congrArg List.length hcs
  simpa[hlen] using this
 ·unfold hstore
  rw[hb]
  simp only[hcs]
  rw[if_pos (by refine⟨trivial,?_,by simpa using hcell⟩;simp[hlen];omega)]
  rw[add_assoc (a:=g),add_assoc (b:=r'),add_one_set (Dj_one.1 d3) (by simp[Heap.add,h4,one_Dj.1 d7])]
 ·refine⟨(Heap.one b (.cells (setC cells (off+i*Ty.sz α) c).toArray el (0,0))).add (r'.add ru),?_,?_,?_⟩
  ·rfl
  ·exact Dj_add.2 ⟨Dj_one.2 (Dj_one.1 d3),Dj_add.2 ⟨d4,d5⟩⟩
  ·have h7:=h6 ru c y d8.symm ho
   refine Own_list.2 (.inr ⟨b,off,cap,_,el,_,by simp,⟨by simpa using h1,by simpa using hM⟩,?_,rfl,?_,?_⟩)
   ·rw[setC_length (by rw[hlen];omega)];exact h2
   ·simp[Heap.add,h4];exact one_Dj.1 d7
   ·rw[drop_setC (by rw[hlen];omega),d8.comm];exact h7
end
section
variable {α:Type} [Ty α] {P:Program}{k:Env→Heap→Prop}{e:Env}{h h' g r r2 ru rs:Heap}{v u:Value}{l l2:List α}{i:Nat}
theorem a_store_hole {sz:Nat}{a x:O}{y:α}{u':Value}(H:Hole r v l i u) (Ou:Own ru u' y) (d:Dj g r) (d2:Dj (g.add r) ru) (hh:h=(g.add r).add ru) (hp:a.get e=some (elp (Ty.sz α) v i)) (hx:x.get e=some u') (hsz:sz=Ty.sz α)
  (K:∀r',Dj g r'→Own r' v (l.set i y)→k e (g.add r')):(A.ex none (.store sz a x)).wp P k e h:=by
 subst hh;subst hsz
 obtain⟨b,off,h',h1,h2,h3,r',rfl,h4,h5⟩:=H.store d d2 Ou
 exact⟨b,off,u',_,by rw[hp,h1],hx,h2,h3,Fgt.keep (K r' h4 h5)⟩
theorem a_store {sz:Nat}{a x:O}{y:α}{u':Value}(O:Own r v l) (hi:i<l.length) (Ou:Own ru u' y) (d:Dj g r) (d2:Dj (g.add r) ru) (hh:h=(g.add r).add ru) (hp:a.get e=some (elp (Ty.sz α) v i)) (hx:x.get e=some u') (hsz:sz=Ty.sz α)
  (K:∀r',Dj g r'→Own r' v (l.set i y)→k e (g.add r')):(A.ex none (.store sz a x)).wp P k e h:=by
 subst hh;subst hsz
 obtain⟨u,r1,r2,rfl,d3,O1,H⟩:=O.take hi
 obtain⟨d4,d5⟩:=Dj_add.1 d
 obtain⟨d6,d7⟩:=add_Dj.1 d2
 obtain⟨d8,d9⟩:=add_Dj.1 d7
 -- the element's own part stays behind
 have hd:Dj (g.add r1) r2:=add_Dj.2 ⟨d5,d3⟩
 have hd2:Dj ((g.add r1).add r2) ru:=by rw[add_assoc];exact d2
 obtain⟨b,off,h',h1,h2,h3,r',rfl,h4,h5⟩:=H.store hd hd2 Ou
 refine⟨b,off,u',_,by rw[hp,h1],hx,h2,by rw[← add_assoc];exact h3,?_⟩
 obtain⟨d10,d11⟩:=add_Dj.1 h4
 exact Fgt.drop (le_drop d4 d11) (K r' d10 h5)
theorem Own_flat [Flat α] {y:α}:Own r u y↔r=Heap.nil∧u=valC (Ty.agg α) (Flat.enc y)∧Flat.ok y:=by
 constructor
 ·rintro⟨cs,rfl,ho⟩
  obtain⟨h1,rfl,h2⟩:=Flat.own_iff.1 ho
  exact⟨h1,rfl,h2⟩
 ·rintro⟨rfl,rfl,h1⟩
  exact⟨_,rfl,Flat.own_iff.2 ⟨rfl,rfl,h1⟩⟩
theorem Rep_flat [Flat α] {y:α}:Rep r u y↔u=valC (Ty.agg α) (Flat.enc y)∧Flat.ok y:=by
 constructor
 ·rintro⟨cs,rfl,ho⟩
  obtain⟨rfl,h2⟩:=Flat.rep_iff.1 ho
  exact⟨rfl,h2⟩
 ·rintro⟨rfl,h1⟩
  exact⟨_,rfl,Flat.rep_iff.2 ⟨rfl,h1⟩⟩
theorem a_storeF [Flat α] {sz:Nat}{a x:O}(y:α) (O:Own r v l) (hi:i<l.length) (d:Dj g r) (hh:h=g.add r) (hp:a.get e=some (elp (Ty.sz α) v i)) (hx:x.get e=some (valC (Ty.agg α) (Flat.enc y))) (hy:Flat.ok y) (hsz:sz=Ty.sz α)
  (K:∀r',Dj g r'→Own r' v (l.set i y)→k e (g.add r')):(A.ex none (.store sz a x)).wp P k e h:=
 a_store O hi (Own_flat.2 ⟨rfl,rfl,hy⟩) d Dj_nil (by simp[hh]) hp hx hsz K
theorem a_mks {bytes esz:Nat}{zero:List Value}{len cap:O}{j j':IntKind}{n c:Nat}{dst:Nat}{z:α}(hl:len.get e=some (.int j n)) (hc:cap.get e=some (.int j' c)) (hz:Ty.own Heap.nil zero z) (h1:n≤c) (h2:c<2^62) (h3:bytes*c≤2^48)
  (K:∀v r,Dj h r→Own r v (List.replicate n z)→k (eset e dst (some v)) (h.add r)):(A.ex (some dst) (.mks bytes esz zero len cap)).wp P k e h:=by
 refine⟨n,c,j,j',hl,hc,h1,h2,h3,fun b el hb=>Fgt.keep ?_⟩
 rw[set_new hb]
 refine K _ _ (Dj_one.2 hb) (Own_list.2 (.inr ⟨b,0,c,reps c zero,el,Heap.nil,by simp,⟨by simpa using h1,by simp;omega⟩,?_,by simp,rfl,?_⟩))
 ·have:=ownL_len (ownL_reps hz c)
  simpa using this
 ·have hlen:=Ty.len (Ty.own_rep hz)
  refine ownL_congr (ownL_reps hz n) ?_
  simp only[List.length_replicate,List.drop_zero]
  rw[show reps c zero=reps n zero++reps (c-n) zero by
   rw[reps,reps,reps,← List.flatten_append,List.replicate_append_replicate];congr 3;omega]
  have:(reps n zero).length=n*Ty.sz α:=by simp[reps,hlen]
  rw[List.take_append_of_le_length (by omega)]
theorem ownL_cell:∀{l:List α}{cs:List Value}{r:Heap},ownL l cs r→∀v∈cs.take (l.length*Ty.sz α),v.oneCell'=true
 | [],_,_,_,v,hv=>by simp at hv
 | x::l,cs,r,⟨r1,r2,h1,h2,h3,h4⟩,v,hv=>by
  have ha:(x::l).length*Ty.sz α=Ty.sz α+l.length*Ty.sz α:=by simp[Nat.add_mul];omega
  rw[ha,List.take_add] at hv
  rcases List.mem_append.1 hv with h5 | h5
  ·exact Ty.cell (Ty.own_rep h3) v h5
  ·exact ownL_cell h4 v h5
theorem a_app {bytes esz:Nat}{zero:List Value}{a:O}{b:AO}{dst:Nat}{cs:List Value}(O:Own r v l) (ha:a.get e=some v) (hs:b.src h e esz=some (l2.length,cs)) (hcs:cs.length=l2.length*Ty.sz α) (Os:ownL l2 cs rs)
  (d:Dj g r) (d2:Dj (g.add r) rs) (hh:h=(g.add r).add rs) (hsz:esz=Ty.sz α) (hz:zero.length=Ty.sz α) (hb:(l.length+l2.length)*bytes≤140737488355328) (hn:l.length+l2.length<2^62)
  (K:∀v' r',Dj g r'→Own r' v' (l++l2)→k (eset e dst (some v')) (g.add r')):(A.ex (some dst) (.app bytes esz zero (.o a) b)).wp P k e h:=by
 subst hsz
 obtain⟨d5,d6⟩:=add_Dj.1 d2
 have hcell:cs.all Value.oneCell'=true:=by
  have:=ownL_cell Os
  rw[← hcs,List.take_length] at this
  simpa using this
 refine⟨l2.length,cs,hs,?_⟩
 rcases Own_list.1 O with ⟨p,rfl,rfl,rfl,hp⟩ | ⟨bb,off,cap,cells,el,r',rfl,⟨h1,hM⟩,h2,rfl,h4,h5⟩
 ·refine⟨p,0,0,ha,?_,?_⟩
  ·intro h1
   have hl2:l2=[]:=by cases l2 with
    | nil=>rfl
    | cons _ _=>simp at h1
   subst hl2
   have hcs0:cs=[]:=by simpa using hcs
   have hrs:rs=Heap.nil:=Os
   subst hrs
   have hk:∀p,okP p→Fgt k (eset e dst (some (.slice p (0+([]:List α).length) 0))) h:=by
    intro p hp
    subst hh
    refine Fgt.keep ?_
    simpa using K (.slice p 0 0) Heap.nil Dj_nil (Own_list.2 (.inl ⟨p,rfl,rfl,rfl,hp⟩))
   rcases hp with rfl | ⟨b',o',rfl⟩
   ·exact⟨hcs0,hk _ (.inl rfl)⟩
   ·exact .inl ⟨hcs0,hk _ (.inr ⟨b',o',rfl⟩)⟩
  ·intro h1
   refine⟨0,[],?_,?_,by simpa using hn,?_⟩
   ·rcases hp with rfl | ⟨b',o',rfl⟩
    ·rfl
    ·simp[srcV,hcells]
   ·exact growslice_fits h1 (by simpa using hb)
   ·intro b' el c hb' hc
    subst hh
    rw[set_new hb']
    simp only[add_nil] at hb' ⊢
    have n1:g b'=none∧rs b'=none:=by simpa[Heap.add] using hb'
    refine Fgt.keep ?_
    rw[add_assoc]
    simp only[List.length_nil,Nat.zero_add] at hn ⊢
    refine K _ _ (Dj_add.2 ⟨d5,Dj_one.2 n1.1⟩) ?_
    rw[(Dj_one.2 n1.2).comm]
    refine Own_list.2 (.inr ⟨b',0,c,_,el,rs,by simp,⟨by simpa using hc,by simpa using hn⟩,?_,rfl,n1.2,?_⟩)
    ·simp[reps,hz,hcs]
     rw[← Nat.add_mul]
     exact Nat.mul_le_mul_right _ (by simp at hc;omega)
    ·refine ownL_congr Os ?_
     simp only[List.drop_zero,List.nil_append]
     exact (List.take_append_of_le_length (by rw[hcs];exact Nat.le_refl _)).symm
 ·have hbk:((g.add ((Heap.one bb (.cells cells.toArray el (0,0))).add r')).add rs) bb=some (.cells cells.toArray el (0,0)):=by
   have:=Dj_one.1 (Dj_add.1 d).1
   simp[Heap.add,Heap.one,this,h4,one_Dj.1 (add_Dj.1 d6).1]
  obtain⟨d3,d4⟩:=Dj_add.1 d
  obtain⟨d7,d8⟩:=add_Dj.1 d6
  have hll:=ownL_len h5
  have hfit:l.length*Ty.sz α≤cap*Ty.sz α:=Nat.mul_le_mul_right _ h1
  have hold:ownL l ((cells.drop off).take (l.length*Ty.sz α)) r':=by
   refine ownL_congr h5 ?_
   rw[List.take_take,Nat.min_self]
  refine⟨_,l.length,cap,ha,?_,?_⟩
  ·intro hle
   right
   have hf2:l.length*Ty.sz α+l2.length*Ty.sz α≤cap*Ty.sz α:=by rw[← Nat.add_mul];exact Nat.mul_le_mul_right _ hle
   refine⟨g.add ((Heap.one bb (.cells (setC cells (off+l.length*Ty.sz α) cs).toArray el (0,0))).add (r'.add rs)),?_,Fgt.keep ?_⟩
   ·unfold hstore
    rw[hh,hbk]
    simp only
    rw[if_pos (by refine⟨trivial,?_,hcell⟩;simp[hcs];omega)]
    rw[add_assoc (a:=g),add_assoc (b:=r'),add_one_set (Dj_one.1 d3) (by simp[Heap.add,h4,one_Dj.1 d7])]
   ·refine K _ _ (Dj_add.2 ⟨Dj_one.2 (Dj_one.1 d3),Dj_add.2 ⟨d4,d5⟩⟩) ?_
    refine Own_list.2 (.inr ⟨bb,off,cap,_,el,_,by simp,⟨by simpa using hle,by simpa using hn⟩,?_,rfl,?_,?_⟩)
    ·rw[setC_length (by rw[hcs];omega)];exact h2
    ·simp[Heap.add,h4];exact one_Dj.1 d7
    ·rw[drop_setC (by rw[hcs];omega)]
     have h9:=ownL_append hold (by simp;omega) Os d8
     refine ownL_congr h9 ?_
     rw[List.length_append,Nat.add_mul]
     exact (List.take_append_of_le_length (by rw[List.length_append,List.length_take,Nat.min_eq_left hll,hcs];exact Nat.le_refl _)).symm
  ·intro hlt
   refine⟨l.length,(cells.drop off).take (l.length*Ty.sz α),?_,growslice_fits hlt hb,hn,?_⟩
   ·rw[srcV_slice (l:=(cells.drop off).take (l.length*Ty.sz α))]
    rw[hh,hcells_mk hbk (by simp;omega)]
   ·intro b' el' c hb' hc
    subst hh
    rw[set_new hb']
    have n1:g b'=none∧r' b'=none∧rs b'=none:=by
     simp only[Heap.add,oplus_eq_none] at hb'
     exact⟨hb'.1.1,hb'.1.2.2,hb'.2⟩
    have hne:Dj (Heap.one bb (.cells cells.toArray el (0,0))) ((r'.add rs).add (Heap.one b' (.cells ((cells.drop off).take (l.length*Ty.sz α)++cs++reps (c-(l.length+l2.length)) zero).toArray el' (0,0)))):=by
     refine Dj_add.2 ⟨Dj_add.2 ⟨one_Dj.2 h4,d7⟩,Dj_one.2 ?_⟩
     simp only[Heap.add,oplus_eq_none] at hb'
     exact hb'.1.2.1
    refine Fgt.drop (h':=g.add ((r'.add rs).add (Heap.one b' (.cells ((cells.drop off).take (l.length*Ty.sz α)++cs++reps (c-(l.length+l2.length)) zero).toArray el' (0,0))))) ?_ ?_
    ·have:=le_drop d3 hne
     simpa[add_assoc] using this
    ·refine K _ _ (Dj_add.2 ⟨Dj_add.2 ⟨d4,d5⟩,Dj_one.2 n1.1⟩) ?_
     rw[(Dj_one.2 (show (r'.add rs) b'=none by simp[Heap.add,n1.2])).comm]
     refine Own_list.2 (.inr ⟨b',0,c,_,el',r'.add rs,by simp,⟨by simpa using hc,by simpa using hn⟩,?_,rfl,by simp[Heap.add,n1.2],?_⟩)
     ·have:(l.length+l2.length)*Ty.sz α+(c-(l.length+l2.length))*Ty.sz α=c*Ty.sz α:=by
       rw[← Nat.add_mul];congr 1;omega
      rw[Nat.add_mul] at this
      simp[reps,hz,hcs]
      omega
     ·have h9:=ownL_append hold (by simp;omega) Os d8
      refine ownL_congr h9 ?_
      rw[List.drop_zero,List.length_append,Nat.add_mul]
      exact (List.take_append_of_le_length (by rw[List.length_append,List.length_take,Nat.min_eq_left hll,hcs];exact Nat.le_refl _)).symm
theorem a_appP {bytes esz:Nat}{zero:List Value}{j:Nat}{b:AO}{dst:Nat}{cs:List Value}{c0:Array Value}(hp:eget e j=some (.agg c0)) (hs:b.src h e esz=some (l2.length,cs)) (hcs:cs.length=l2.length*Ty.sz α) (Os:ownL l2 cs rs)
  (d:Dj g rs) (hh:h=g.add rs) (hz:zero.length=Ty.sz α) (hb:l2.length*bytes≤140737488355328) (hn:l2.length<2^62)
  (K:∀v' r',Dj g r'→Own r' v' l2→k (eset e dst (some v')) (g.add r')):(A.ex (some dst) (.app bytes esz zero (.p 0 j) b)).wp P k e h:=by
 refine⟨l2.length,cs,hs,rfl,⟨c0,hp⟩,?_,?_⟩
 ·intro hl2 b'
  have hl2:l2=[]:=by simpa using hl2
  subst hl2
  have hrs:rs=Heap.nil:=Os
  subst hrs
  subst hh
  refine Fgt.keep ?_
  simpa using K _ Heap.nil Dj_nil (Own_list.2 (.inl ⟨some ⟨b',0,none⟩,rfl,rfl,rfl,.inr ⟨b',0,rfl⟩⟩))
 ·intro hpos
  refine⟨growslice_fits hpos (by simpa using hb),hn,?_⟩
  intro b' el c hb' hc
  subst hh
  rw[set_new hb']
  have n1:g b'=none∧rs b'=none:=by simpa[Heap.add] using hb'
  refine Fgt.keep ?_
  rw[add_assoc]
  refine K _ _ (Dj_add.2 ⟨d,Dj_one.2 n1.1⟩) ?_
  rw[(Dj_one.2 n1.2).comm]
  refine Own_list.2 (.inr ⟨b',0,c,_,el,rs,rfl,⟨hc,by omega⟩,?_,rfl,n1.2,?_⟩)
  ·simp[reps,hz,hcs]
   rw[← Nat.add_mul]
   exact Nat.mul_le_mul_right _ (by omega)
  ·refine ownL_congr Os ?_
   simp only[List.drop_zero]
   exact (List.take_append_of_le_length (by rw[hcs];exact Nat.le_refl _)).symm
def encL [Flat α] (l:List α):List Value:=(l.map Flat.enc).flatten
theorem flat_len [Flat α] {x:α}(hx:Flat.ok x):(Flat.enc x).length=Ty.sz α:=Ty.len (h:=Heap.nil) (Flat.rep_iff.2 ⟨rfl,hx⟩)
theorem encL_len [Flat α]:∀{l:List α},(∀x∈l,Flat.ok x)→(encL l).length=l.length*Ty.sz α
 | [],_=>by simp[encL]
 | x::l,h=>by
  have:=encL_len (l:=l) (fun y hy=>h y (by simp[hy]))
  simp only[encL,List.map_cons,List.flatten_cons,List.length_append,flat_len (h x (by simp)),List.length_cons] at this ⊢
  rw[this,Nat.add_mul];omega
theorem ownL_enc [Flat α]:∀{l:List α},(∀x∈l,Flat.ok x)→ownL l (encL l) Heap.nil
 | [],_=>rfl
 | x::l,h=>by
  have hx:=flat_len (h x (by simp))
  refine⟨Heap.nil,Heap.nil,by simp,by simp,?_,?_⟩
  ·rw[show encL (x::l)=Flat.enc x++encL l from rfl,← hx,List.take_left]
   exact Flat.own_iff.2 ⟨rfl,rfl,h x (by simp)⟩
  ·rw[show encL (x::l)=Flat.enc x++encL l from rfl,← hx,List.drop_left]
   exact ownL_enc (fun y hy=>h y (by simp[hy]))
theorem hcells_add {h:Heap}{b:Nat}:∀{n m off:Nat}{c1 c2:List Value},hcells h b off n=some c1→hcells h b (off+n) m=some c2→hcells h b off (n+m)=some (c1++c2)
 | 0,m,off,c1,c2,h1,h2=>by simp[hcells] at h1;subst h1;simpa using h2
 | n+1,m,off,c1,c2,h1,h2=>by
  rw[show n+1+m=(n+m)+1 by omega]
  simp only[hcells] at h1 ⊢
  split at h1
  ·rename_i v r hv hr
   simp only[Option.some.injEq] at h1
   subst h1
   rw[hv,hcells_add hr (by rw[← h2];congr 1;omega)]
   rfl
  ·simp at h1
theorem repL_enc [Flat α] {h:Heap}{b off:Nat}:∀{l:List α},repL h (some ⟨b,off,none⟩) l→hcells h b off (l.length*Ty.sz α)=some (encL l)
 | l,hr=>by
  have key:∀n,n≤l.length→hcells h b off (n*Ty.sz α)=some (encL (l.take n)):=by
   intro n
   induction n with
   | zero=>intro _;simp[hcells,encL]
   | succ n ih=>
    intro hn
    obtain⟨b',off',vs,h1,h2,h3⟩:=hr n (by omega)
    simp only[Option.some.injEq,Addr.mk.injEq] at h1
    obtain⟨rfl,rfl,_⟩:=h1
    have h4:=hcells_add (ih (by omega)) h2
    rw[show (n+1)*Ty.sz α=n*Ty.sz α+Ty.sz α by rw[Nat.add_mul];omega,h4]
    rw[List.take_add_one,List.getElem?_eq_getElem (by omega)]
    rw[encL,encL,List.map_append,List.flatten_append,(Flat.rep_iff.1 h3).1]
    simp
  have:=key l.length (Nat.le_refl _)
  rwa [List.take_length] at this
theorem Rep.okL [Flat α] {h:Heap}{v:Value}{l:List α}(hr:Rep h v l):∀x∈l,Flat.ok x:=by
 intro x hx
 obtain⟨i,hi,rfl⟩:=List.mem_iff_getElem.1 hx
 exact hr.okF hi
theorem Rep.src [Flat α] {h:Heap}{v:Value}{l:List α}(hr:Rep h v l):srcV h (Ty.sz α) (some v)=some (l.length,encL l):=by
 obtain⟨p,cap,rfl,h1,h2,h3⟩:=Rep_list.1 hr
 cases l with
 | nil=>rfl
 | cons x l=>
  obtain⟨b,off,vs,rfl,_⟩:=h3 0 (by simp)
  have h4:=repL_enc h3
  simp only[List.length_cons] at h4 ⊢
  simp only[srcV,h4]
  rfl
theorem a_appPL [Flat α] {bytes esz:Nat}{zero:List Value}{j:Nat}{x:O}{dst:Nat}{c0:Array Value}{u:Value}(hp:eget e j=some (.agg c0)) (hx:x.get e=some u) (hr:Rep h u l2) (hsz:esz=Ty.sz α) (hz:zero.length=Ty.sz α) (hb:l2.length*bytes≤140737488355328)
  (K:∀v' r',Dj h r'→Own r' v' l2→k (eset e dst (some v')) (h.add r')):(A.ex (some dst) (.app bytes esz zero (.p 0 j) (.o x))).wp P k e h:=by
 subst hsz
 refine a_appP (rs:=Heap.nil) (l2:=l2) hp ?_ (encL_len hr.okL) (ownL_enc hr.okL) Dj_nil (by simp) hz hb (by have:=hr.lt;omega) K
 simp only[AO.src,hx]
 exact hr.src
theorem a_appL [Flat α] {bytes esz:Nat}{zero:List Value}{a x:O}{dst:Nat}{u:Value}(O:Own r v l) (ha:a.get e=some v) (hx:x.get e=some u) (hr:Rep h u l2) (d:Dj g r) (hh:h=g.add r) (hsz:esz=Ty.sz α) (hz:zero.length=Ty.sz α)
  (hb:(l.length+l2.length)*bytes≤140737488355328) (hn:l.length+l2.length<2^62)
  (K:∀v' r',Dj g r'→Own r' v' (l++l2)→k (eset e dst (some v')) (g.add r')):(A.ex (some dst) (.app bytes esz zero (.o a) (.o x))).wp P k e h:=by
 subst hsz
 refine a_app (rs:=Heap.nil) (l2:=l2) O ha ?_ (encL_len hr.okL) (ownL_enc hr.okL) d Dj_nil (by simp[hh]) rfl hz hb hn K
 simp only[AO.src,hx]
 exact hr.src
theorem a_appF [Flat α] {bytes esz:Nat}{zero:List Value}{a:O}{n j:Nat}{dst:Nat}{c0:Array Value}(O:Own r v l) (ha:a.get e=some v) (hp:eget e j=some (.agg c0)) (hn:n=l2.length) (hc:c0.toList=encL l2) (hok:∀x∈l2,Flat.ok x) (d:Dj g r) (hh:h=g.add r) (hsz:esz=Ty.sz α) (hz:zero.length=Ty.sz α)
  (hb:(l.length+l2.length)*bytes≤140737488355328) (hn2:l.length+l2.length<2^62)
  (K:∀v' r',Dj g r'→Own r' v' (l++l2)→k (eset e dst (some v')) (g.add r')):(A.ex (some dst) (.app bytes esz zero (.o a) (.p n j))).wp P k e h:=by
 subst hsz hn
 refine a_app (rs:=Heap.nil) (l2:=l2) O ha ?_ (encL_len hok) (ownL_enc hok) d Dj_nil (by simp[hh]) rfl hz hb hn2 K
 have h1:=encL_len hok
 have h2:c0.size=l2.length*Ty.sz α:=by rw[← h1,← hc];simp
 simp only[AO.src,hp,h2,if_true,hc]
end
def elpo (sz:Nat) (v:Value) (i fo:Nat):Value:=
 match v with
 | .slice (some p) _ _=>.pointer (some ((p.add (i*sz)).add fo))
 | _=>undef
theorem setC_one {cs:List Value}{n:Nat}{u:Value}(h:n<cs.length):setC cs n [u]=cs.set n u:=by
 rw[← setC_cons cs n u [] h]
 simp[setC]
theorem setC_fld {cs:List Value}{n m fo:Nat}{u:Value}(hf:fo<m) (hl:n+m≤cs.length):setC cs (n+fo) [u]=setC cs n (((cs.drop n).take m).set fo u):=by
 rw[setC_one (by omega)]
 have h1:(((cs.drop n).take m).set fo u).length=m:=by simp;omega
 unfold setC
 rw[h1]
 conv=>lhs;rw[← List.take_append_drop n cs,← List.take_append_drop m (cs.drop n),List.drop_drop]
 rw[List.set_append_right _ _ (by simp;omega),List.set_append_left _ _ (by simp;omega)]
 rw[← List.append_assoc]
 congr 3
 simp;omega
section
variable {α:Type} [Ty α] {P:Program}{k:Env→Heap→Prop}{e:Env}{h g r:Heap}{v:Value}{l:List α}{i:Nat}
theorem Rep.fa {n:Nat}(hr:Rep h v l) (hi:i<l.length) {fo:Nat}:faV fo (elp n v i)=some (elpo n v i fo):=by
 obtain⟨p,cap,rfl,hc,hp,hl⟩:=Rep_list.1 hr
 obtain⟨b,off,vs,rfl,_⟩:=hl i hi
 rfl
theorem a_store_fldF [Flat α] {a x:O}(y:α) {fo:Nat}{u:Value}(O:Own r v l) (hi:i<l.length) (d:Dj g r) (hh:h=g.add r) (hp:a.get e=some (elpo (Ty.sz α) v i fo)) (hx:x.get e=some u) (hu:u.cells = #[u]) (hu1:u.oneCell'=true)
  (hfo:fo<Ty.sz α) (hy:Flat.enc y=(Flat.enc l[i]).set fo u) (hok:Flat.ok y) (K:∀r',Dj g r'→Own r' v (l.set i y)→k e (g.add r')):(A.ex none (.store 1 a x)).wp P k e h:=by
 subst hh
 rcases Own_list.1 O with ⟨p,_,rfl,_⟩ | ⟨b,off,cap,cells,el,r',rfl,h1,h2,rfl,h4,h5⟩
 ·simp at hi
 ·obtain⟨s1,s2,g1,g2,g3,g4⟩:=ownL_at h5 i hi
  obtain⟨rfl,e1,_⟩:=Flat.own_iff.1 g3
  have hs:=slot_le (s:=Ty.sz α) hi h1.1
  obtain⟨d3,d4⟩:=Dj_add.1 d
  have hb:(g.add ((Heap.one b (.cells cells.toArray el (0,0))).add r')) b=some (.cells cells.toArray el (0,0)):=by
   have:=Dj_one.1 d3
   simp[Heap.add,Heap.one,this,h4]
  have hset:setC cells (off+i*Ty.sz α+fo) [u]=setC cells (off+i*Ty.sz α) (Flat.enc y):=by
   rw[setC_fld hfo (by omega),hy,← e1,List.drop_drop]
  have hlen:(Flat.enc y).length=Ty.sz α:=by
   rw[hy,List.length_set,← e1];simp;omega
  refine⟨b,off+i*Ty.sz α+fo,u,g.add ((Heap.one b (.cells (setC cells (off+i*Ty.sz α+fo) [u]).toArray el (0,0))).add r'),?_,hx,by simp[hu],?_,Fgt.keep ?_⟩
  ·rw[hp];simp[elpo,add_none]
  ·unfold hstore
   rw[hb]
   simp only[hu]
   rw[if_pos (by refine⟨trivial,?_,by simpa using hu1⟩;simp;omega),add_one_set (Dj_one.1 d3) h4]
  ·refine K _ (Dj_add.2 ⟨Dj_one.2 (Dj_one.1 d3),d4⟩) ?_
   have h7:=g4 Heap.nil (Flat.enc y) y nil_Dj (Flat.own_iff.2 ⟨rfl,rfl,hok⟩)
   rw[nil_add] at g1 h7
   refine Own_list.2 (.inr ⟨b,off,cap,_,el,r',by simp,⟨by simpa using h1.1,by simpa using h1.2⟩,?_,rfl,h4,?_⟩)
   ·rw[hset,setC_length (by rw[hlen];omega)];exact h2
   ·rw[hset,drop_setC (by rw[hlen];omega),g1];exact h7
end
def same {α:Sort u}(x:α):α:=x
@[simp] theorem same_eq {α:Sort u}(x:α):same x=x:=Eq.trans (Eq.refl x) (Eq.refl x)
section
variable {P:Program}{e e':Env}{h:Heap}{Q:Ex→Env→Heap→Prop}{k:Env→Heap→Prop}
@[congr] theorem C.wp_congr {c:C}(he:same e=e'):C.wp P c Q e h=C.wp P c Q e' h:=by rw[← he,same_eq]
@[congr] theorem Pl.wp_congr {p:Pl}(he:same e=e'):Pl.wp P k p e h=Pl.wp P k p e' h:=by rw[← he,same_eq]
@[congr] theorem S.wp_congr {s:S}(he:same e=e'):S.wp P k e h s=S.wp P k e' h s:=by rw[← he,same_eq]
@[congr] theorem A.wp_congr {x:A}(he:same e=e'):A.wp P k e h x=A.wp P k e' h x:=by rw[← he,same_eq]
@[congr] theorem seqQ_congr {b:C}{x x':Ex}(hx:x=x') (he:same e=e'):seqQ P b Q x e h=seqQ P b Q x' e' h:=by rw[hx,← he,same_eq]
@[congr] theorem blockQ_congr {i:Nat}{x x':Ex}(hx:x=x') (he:same e=e'):blockQ i Q x e h=blockQ i Q x' e' h:=by rw[hx,← he,same_eq]
@[congr] theorem loopQ_congr {n:Nat}{fg:List Nat}{I:Env→Heap→Prop}{x x':Ex}(hx:x=x') (he:same e=e'):loopQ n fg I Q x e h=loopQ n fg I Q x' e' h:=by rw[hx,← he,same_eq]
@[congr] theorem Fgt_congr (he:same e=e'):Fgt k e h=Fgt k e' h:=by rw[← he,same_eq]
@[congr] theorem RetK_congr {k:Value→Heap→Prop}{v v':Value}(hv:same v=v'):RetK k v h=RetK k v' h:=by rw[← hv,same_eq]
@[congr] theorem CallE_congr {f f':FuncId}{a a':List Value}{q:Value→Heap→Prop}(hf:f=f') (ha:same a=a'):CallE P f a h q=CallE P f' a' h q:=by rw[hf,← ha,same_eq]
@[congr] theorem IteW_congr {p p' A B:Prop}(hp:same p=p'):IteW p A B=IteW p' A B:=by rw[← hp,same_eq]
@[congr] theorem condW_congr {v v':Option Value}{A B:Prop}(hv:same v=v'):condW v A B=condW v' A B:=by rw[← hv,same_eq]
@[congr] theorem guardW_congr' {v v':Option Value}{w:Bool}{A B:Prop}(hv:same v=v'):guardW v w A B=guardW v' w A B:=by rw[← hv,same_eq]
@[congr] theorem ExW_congr {α:Type}{x x':Option α}{k:α→Prop}(hx:same x=x'):ExW x k=ExW x' k:=by rw[← hx,same_eq]
@[congr] theorem AndW_congr {p p' A:Prop}(hp:same p=p'):AndW p A=AndW p' A:=by rw[← hp,same_eq]
attribute [simp] List.getElem?_cons_zero List.getElem?_cons_succ List.getElem_cons_zero List.getElem_cons_succ
theorem C.wpe {c c':C}(hc:c=c') {P:Program}{Q:Ex→Env→Heap→Prop}{e:Env}{h:Heap}:C.wp P c Q e h=C.wp P c' Q e h:=by rw[hc]
theorem Pl.wpe {c c':Pl}(hc:c=c') {P:Program}{k:Env→Heap→Prop}{e:Env}{h:Heap}:Pl.wp P k c e h=Pl.wp P k c' e h:=by rw[hc]
end
theorem CallE.go {P:Program}{f:FuncId}{args:List Value}{h:Heap}{Q:Value→Heap→Prop}{k:Env→Heap→Prop}{d:Option Nat}{e:Env}(hc:CallE P f args h Q) (hk:∀v h',Q v h'→k (dput d (some v) e) h') :
  CallE P f args h fun v h'=>Fgt k (dput d (some v) e) h':=CallE.mono (fun v h' hq=>Fgt.keep (hk v h' hq)) hc
abbrev HP:=Heap→Prop
def HS:Heap→List HP→Heap→Prop
 | g,[],h=>g.le h
 | g,p::Γ,h=>∃g' r,h=g'.add r∧Dj g' r∧p r∧HS g Γ g'
def Heap.minus (h r:Heap):Heap:=fun b=>match r b with
 | none=>h b
 | some _=>none
section
variable {g h h' r:Heap}
theorem minus_add (hl:r.le h):(h.minus r).add r=h:=by
 funext b
 simp only[Heap.add,Heap.minus]
 cases hr:r b with
 | none=>simp
 | some o=>simp[hl b o hr]
theorem minus_Dj:Dj (h.minus r) r:=fun b=>by
 cases hr:r b with
 | none=>exact .inr rfl
 | some o=>exact .inl (by simp[Heap.minus,hr])
theorem le_minus (hl:g.le h) (d:Dj g r):g.le (h.minus r):=fun b o hb=>by
 rcases d b with h1 | h1
 ·rw[h1] at hb;simp at hb
 ·simp[Heap.minus,h1,hl b o hb]
def ow {α:Type} [Ty α] (v:Value) (x:α):HP:=fun r=>Own r v x
def hole {α:Type} [Ty α] (v:Value) (l:List α) (i:Nat) (u:Value):HP:=fun r=>Hole r v l i u
def bx (b:Nat) (c:List Value):HP:=fun r=>∃el,r=Heap.one b (.cells c.toArray el (0,0))
theorem HS.le:∀{Γ:List HP}{h h':Heap},HS g Γ h→h.le h'→HS g Γ h'
 | [],_,_,H,hl=>Heap.le.trans H hl
 | _::_,_,h',⟨g',r,e,d,hp,H⟩,hl=>by
  subst e
  have h1:r.le h':=(le_add' d).trans hl
  have h2:g'.le h':=(le_add d).trans hl
  exact⟨h'.minus r,r,(minus_add h1).symm,minus_Dj,hp,H.le (le_minus h2 d)⟩
theorem HS.base:∀{Γ:List HP}{h:Heap},HS g Γ h→g.le h
 | [],_,H=>H
 | _::_,_,⟨_,_,e,d,_,H⟩=>by subst e;exact H.base.trans (le_add d)
theorem HS.init:HS h [] h:=Heap.le.refl h
theorem HS.drop {p:HP}{Γ:List HP}(H:HS g (p::Γ) h):HS g Γ h:=by
 obtain⟨g',r,rfl,d,hp,H⟩:=H
 exact H.le (le_add d)
theorem HS.app:∀{Δ Γ:List HP}{h h':Heap},HS h Δ h'→HS g Γ h→HS g (Δ++Γ) h'
 | [],_,_,_,H1,H=>H.le H1
 | _::_,_,_,_,⟨g',r,e,d,hp,H1⟩,H=>⟨g',r,e,d,hp,H1.app H⟩
theorem HS.sw1 {p q:HP}{Γ:List HP}(H:HS g (p::q::Γ) h):HS g (q::p::Γ) h:=by
 obtain⟨g1,r1,rfl,d1,hp,g2,r2,rfl,d2,hq,H⟩:=H
 obtain⟨d3,d4⟩:=add_Dj.1 d1
 exact⟨g2.add r1,r2,add_swap d4,add_Dj.2 ⟨d2,d4.symm⟩,hq,g2,r1,rfl,d3,hp,H⟩
theorem HS.under {p:HP}{Γ Γ':List HP}(hH:∀h,HS g Γ h→HS g Γ' h) (H:HS g (p::Γ) h):HS g (p::Γ') h:=by
 obtain⟨g',r,rfl,d,hp,H⟩:=H
 exact⟨g',r,rfl,d,hp,hH _ H⟩
theorem HS.imp {p q:HP}{Γ:List HP}(H:HS g (p::Γ) h) (hpq:∀r,p r→q r):HS g (q::Γ) h:=by
 obtain⟨g',r,e,d,hp,H⟩:=H
 exact⟨g',r,e,d,hpq r hp,H⟩
theorem HS.sw2 {a b c:HP}{Γ:List HP}(H:HS g (a::b::c::Γ) h):HS g (c::a::b::Γ) h:=(H.under fun _=>HS.sw1).sw1
theorem HS.sw3 {a b c d:HP}{Γ:List HP}(H:HS g (a::b::c::d::Γ) h):HS g (d::a::b::c::Γ) h:=(H.under fun _=>HS.sw2).sw1
theorem HS.sw4 {a b c d f:HP}{Γ:List HP}(H:HS g (a::b::c::d::f::Γ) h):HS g (f::a::b::c::d::Γ) h:=(H.under fun _=>HS.sw3).sw1
theorem HS.sw5 {a b c d f f':HP}{Γ:List HP}(H:HS g (a::b::c::d::f::f'::Γ) h):HS g (f'::a::b::c::d::f::Γ) h:=(H.under fun _=>HS.sw4).sw1
theorem HS.sw6 {a b c d f f' f2:HP}{Γ:List HP}(H:HS g (a::b::c::d::f::f'::f2::Γ) h):HS g (f2::a::b::c::d::f::f'::Γ) h:=(H.under fun _=>HS.sw5).sw1
theorem HS.bk2 {a b c:HP}{Γ:List HP}(H:HS g (c::a::b::Γ) h):HS g (a::b::c::Γ) h:=H.sw2.sw2
theorem HS.bk3 {a b c d:HP}{Γ:List HP}(H:HS g (d::a::b::c::Γ) h):HS g (a::b::c::d::Γ) h:=H.sw3.sw3.sw3
theorem HS.bk4 {a b c d f:HP}{Γ:List HP}(H:HS g (f::a::b::c::d::Γ) h):HS g (a::b::c::d::f::Γ) h:=H.sw4.sw4.sw4.sw4
theorem HS.of {α:Type} [Ty α] {v:Value}{x:α}(H:∃r,Dj h r∧h'=h.add r∧Own r v x):HS h [ow v x] h':=by
 obtain⟨r,d,rfl,O⟩:=H
 exact⟨h,r,rfl,d,O,HS.init⟩
theorem HS.rep {α:Type} [Ty α] {v:Value}{x:α}{Γ:List HP}(H:HS g (ow v x::Γ) h):Rep h v x:=by
 obtain⟨g',r,rfl,d,O,_⟩:=H
 exact Own.rep' O d
theorem Rep.on {α:Type} [Ty α] {v:Value}{x:α}{Γ:List HP}(R:Rep g v x) (H:HS g Γ h):Rep h v x:=R.le H.base
end
section
variable {α:Type} [Ty α] {P:Program}{k:Env→Heap→Prop}{e:Env}{g h:Heap}{Γ:List HP}{v u:Value}{l l2:List α}{i:Nat}
theorem HS.storeF [Flat α] (H:HS g (ow v l::Γ) h) (y:α) {sz:Nat}{a x:O}(hi:i<l.length) (hp:a.get e=some (elp (Ty.sz α) v i)) (hx:x.get e=some (valC (Ty.agg α) (Flat.enc y))) (hy:Flat.ok y) (hsz:sz=Ty.sz α)
  (K:∀h',HS g (ow v (l.set i y)::Γ) h'→k e h'):(A.ex none (.store sz a x)).wp P k e h:=by
 obtain⟨g',r,rfl,d,O,H⟩:=H
 exact a_storeF y O hi d rfl hp hx hy hsz fun r' d' O'=>K _ ⟨g',r',rfl,d',O',H⟩
theorem HS.store {y:α}{u':Value}(H:HS g (ow u' y::ow v l::Γ) h) {sz:Nat}{a x:O}(hi:i<l.length) (hp:a.get e=some (elp (Ty.sz α) v i)) (hx:x.get e=some u') (hsz:sz=Ty.sz α)
  (K:∀h',HS g (ow v (l.set i y)::Γ) h'→k e h'):(A.ex none (.store sz a x)).wp P k e h:=by
 obtain⟨g1,ru,rfl,d2,Ou,g',r,rfl,d,O,H⟩:=H
 exact a_store O hi Ou d d2 rfl hp hx hsz fun r' d' O'=>K _ ⟨g',r',rfl,d',O',H⟩
theorem HS.storeH {y:α}{u':Value}(H:HS g (ow u' y::hole v l i u::Γ) h) {sz:Nat}{a x:O}(hp:a.get e=some (elp (Ty.sz α) v i)) (hx:x.get e=some u') (hsz:sz=Ty.sz α)
  (K:∀h',HS g (ow v (l.set i y)::Γ) h'→k e h'):(A.ex none (.store sz a x)).wp P k e h:=by
 obtain⟨g1,ru,rfl,d2,Ou,g',r,rfl,d,O,H⟩:=H
 exact a_store_hole O Ou d d2 rfl hp hx hsz fun r' d' O'=>K _ ⟨g',r',rfl,d',O',H⟩
theorem HS.take (H:HS g (ow v l::Γ) h) (hi:i<l.length):∃u,hload h (some (elp (Ty.sz α) v i)) (szo α)=some u∧HS g (ow u l[i]::hole v l i u::Γ) h:=by
 obtain⟨g',r,rfl,d,O,H⟩:=H
 obtain⟨u,r1,r2,rfl,d1,O1,Ho⟩:=Own.take O hi
 obtain⟨d2,d3⟩:=Dj_add.1 d
 refine⟨u,hload_le (Heap.le.trans (le_add' d1) (le_add' d)) Ho.ld,g'.add r2,r1,?_,add_Dj.2 ⟨d2,d1.symm⟩,O1,g',r2,rfl,d3,Ho,H⟩
 rw[add_assoc,d1.comm]
theorem HS.put {y:α}(H:HS g (ow u y::hole v l i u::Γ) h):HS g (ow v (l.set i y)::Γ) h:=by
 obtain⟨g1,r1,rfl,d1,O1,g',r2,rfl,d2,Ho,H⟩:=H
 obtain⟨d3,d4⟩:=add_Dj.1 d1
 refine⟨g',r1.add r2,?_,Dj_add.2 ⟨d3,d2⟩,Ho.put d4.symm O1,H⟩
 rw[add_assoc,d4.comm]
theorem HS.holeia (H:HS g (hole v l i u::Γ) h) {n:Nat}(hn:n=Ty.sz α) {kd:IntKind}{j:Nat}(hj:j<l.length):iaV n v (.int kd j)=some (elp n v j):=by
 obtain⟨g',r,rfl,d,Ho,H⟩:=H
 subst hn
 simpa using Hole.ia Ho (k:=kd) (n:=(j:Int)) (by omega) (by omega)
theorem HS.mks (H:HS g Γ h) {bytes esz:Nat}{zero:List Value}{len cap:O}{j j':IntKind}{n c:Nat}{dst:Nat}{z:α}(hl:len.get e=some (.int j n)) (hc:cap.get e=some (.int j' c)) (hz:Ty.own Heap.nil zero z) (h1:n≤c) (h2:c<2^62) (h3:bytes*c≤2^48)
  (K:∀v h',HS g (ow v (List.replicate n z)::Γ) h'→k (eset e dst (some v)) h'):(A.ex (some dst) (.mks bytes esz zero len cap)).wp P k e h:=
 a_mks hl hc hz h1 h2 h3 fun v r d O=>K _ _ ⟨h,r,rfl,d,O,H⟩
theorem HS.appF [Flat α] (H:HS g (ow v l::Γ) h) (l2:List α) {bytes esz:Nat}{zero:List Value}{a:O}{n j:Nat}{dst:Nat}{c0:Array Value}(ha:a.get e=some v) (hp:eget e j=some (.agg c0)) (hn:n=l2.length) (hc:c0.toList=encL l2) (hok:∀x∈l2,Flat.ok x) (hsz:esz=Ty.sz α) (hz:zero.length=Ty.sz α)
  (hb:(l.length+l2.length)*bytes≤140737488355328) (hn2:l.length+l2.length<2^62)
  (K:∀v' h',HS g (ow v' (l++l2)::Γ) h'→k (eset e dst (some v')) h'):(A.ex (some dst) (.app bytes esz zero (.o a) (.p n j))).wp P k e h:=by
 obtain⟨g',r,rfl,d,O,H⟩:=H
 exact a_appF O ha hp hn hc hok d rfl hsz hz hb hn2 fun v' r' d' O'=>K _ _ ⟨g',r',rfl,d',O',H⟩
theorem HS.app1 [Flat α] (H:HS g (ow v l::Γ) h) (y:α) {bytes esz:Nat}{zero:List Value}{a:O}{j:Nat}{dst:Nat}{c0:Array Value}(ha:a.get e=some v) (hp:eget e j=some (.agg c0)) (hc:c0.toList=Flat.enc y) (hok:Flat.ok y) (hsz:esz=Ty.sz α) (hz:zero.length=Ty.sz α)
  (hb:(l.length+1)*bytes≤140737488355328) (hl1:l.length+1<2^62)
  (K:∀v' h',HS g (ow v' (l++[y])::Γ) h'→k (eset e dst (some v')) h'):(A.ex (some dst) (.app bytes esz zero (.o a) (.p 1 j))).wp P k e h:=by
 refine H.appF [y] ha hp rfl (by simpa[encL] using hc) (by simpa using hok) hsz hz (by simpa using hb) ?_ K
 exact hl1
theorem HS.appO {y:α}(H:HS g (ow u y::ow v l::Γ) h) {bytes esz:Nat}{zero:List Value}{a:O}{j:Nat}{dst:Nat}{c0:Array Value}(ha:a.get e=some v) (hp:eget e j=some (.agg c0)) (hc:c0.toList=u.cells.toList) (hsz:esz=Ty.sz α) (hz:zero.length=Ty.sz α)
  (hb:(l.length+1)*bytes≤140737488355328) (hl1:l.length+1<2^62)
  (K:∀v' h',HS g (ow v' (l++[y])::Γ) h'→k (eset e dst (some v')) h'):(A.ex (some dst) (.app bytes esz zero (.o a) (.p 1 j))).wp P k e h:=by
 obtain⟨g1,ru,rfl,d2,⟨cs,rfl,ho⟩,g',r,rfl,d,O,H⟩:=H
 have h1:=Ty.len (Ty.own_rep ho)
 rw[rep_cells (Ty.own_rep ho)] at hc
 have h2:c0.size=1*esz:=by rw[hsz,Nat.one_mul,← h1,← hc];simp
 refine a_app (l2:=[y]) (cs:=cs) (rs:=ru) O ha ?_ (by simpa using h1) ⟨ru,Heap.nil,by simp,by simp,by simpa[← h1] using ho,rfl⟩ d d2 rfl hsz hz (by simpa using hb) hl1 fun v' r' d' O'=>K _ _ ⟨g',r',rfl,d',O',H⟩
 simp only[AO.src,hp,h2,if_true,hc,List.length_singleton]
theorem HS.appL [Flat α] (H:HS g (ow v l::Γ) h) {bytes esz:Nat}{zero:List Value}{a x:O}{dst:Nat}(ha:a.get e=some v) (hx:x.get e=some u) (hr:Rep h u l2) (hsz:esz=Ty.sz α) (hz:zero.length=Ty.sz α)
  (hb:(l.length+l2.length)*bytes≤140737488355328) (hn:l.length+l2.length<2^62)
  (K:∀v' h',HS g (ow v' (l++l2)::Γ) h'→k (eset e dst (some v')) h'):(A.ex (some dst) (.app bytes esz zero (.o a) (.o x))).wp P k e h:=by
 obtain⟨g',r,rfl,d,O,H⟩:=H
 exact a_appL O ha hx hr d rfl hsz hz hb hn fun v' r' d' O'=>K _ _ ⟨g',r',rfl,d',O',H⟩
theorem HS.appPL [Flat α] (H:HS g Γ h) {bytes esz:Nat}{zero:List Value}{j:Nat}{x:O}{dst:Nat}{c0:Array Value}(hp:eget e j=some (.agg c0)) (hx:x.get e=some u) (hr:Rep h u l2) (hsz:esz=Ty.sz α) (hz:zero.length=Ty.sz α) (hb:l2.length*bytes≤140737488355328)
  (K:∀v' h',HS g (ow v' l2::Γ) h'→k (eset e dst (some v')) h'):(A.ex (some dst) (.app bytes esz zero (.p 0 j) (.o x))).wp P k e h:=
 a_appPL hp hx hr hsz hz hb fun v' r' d' O'=>K _ _ ⟨h,r',rfl,d',O',H⟩
theorem HS.nil_ow (H:HS g Γ h):HS g (ow (.slice none 0 0) ([]:List α)::Γ) h:=⟨h,Heap.nil,by simp,by simp,Own_nils,H⟩
theorem HS.bls [Flat α] (H:HS g Γ h) (l2:List α) {esz len:Nat}{zero:List Value}{parts:List (Nat×Nat×O)}{dst:Nat}(hf:fillP e (reps len zero) parts=some (encL l2)) (hn:len=l2.length) (hok:∀x∈l2,Flat.ok x) (hl:len<4611686018427387904)
  (K:∀v' h',HS g (ow v' l2::Γ) h'→k (eset e dst (some v')) h'):(A.ex (some dst) (.bls esz len zero parts)).wp P k e h:=by
 subst hn
 refine⟨_,hf,fun b el hb=>Fgt.keep ?_⟩
 rw[set_new hb]
 refine K _ _ ⟨h,_,rfl,Dj_one.2 hb,Own_list.2 (.inr ⟨b,0,l2.length,encL l2,el,Heap.nil,rfl,⟨Nat.le_refl _,hl⟩,?_,by simp,rfl,by simpa using ownL_enc hok⟩),H⟩
 rw[encL_len hok];omega
end
section
variable {P:Program}{k:Env→Heap→Prop}{e:Env}{g h:Heap}{Γ:List HP}
theorem HS.alloc (H:HS g Γ h) {x:O}{dst:Nat}{u:Value}(hx:x.get e=some u) (K:∀b h',HS g (bx b u.cells.toList::Γ) h'→k (eset e dst (some (.pointer (some ⟨b,0,none⟩)))) h'):(A.ex (some dst) (.alloc x)).wp P k e h:=by
 refine⟨u,hx,fun b el hb=>Fgt.keep ?_⟩
 rw[set_new hb]
 exact K _ _ ⟨h,_,rfl,Dj_one.2 hb,⟨el,rfl⟩,H⟩
theorem HS.bxld {b:Nat}{c:List Value}(H:HS g (bx b c::Γ) h) {o:Nat}{u:Value}(ho:c[o]? = some u):hload h (some (.pointer (some ⟨b,o,none⟩))) none=some u:=by
 obtain⟨g',r,rfl,d,⟨el,rfl⟩,H⟩:=H
 refine hload_le (le_add' d) ?_
 simp[hload,hcell,Heap.one,ho]
theorem HS.bxld0 {b:Nat}{u:Value}(H:HS g (bx b [u]::Γ) h):hload h (some (.pointer (some ⟨b,0,none⟩))) none=some u:=H.bxld rfl
theorem HS.bxlds {b:Nat}{c:List Value}(H:HS g (bx b c::Γ) h) {o n:Nat}(ho:o+n≤c.length):hload h (some (.pointer (some ⟨b,o,none⟩))) (some n)=some (.agg ((c.drop o).take n).toArray):=by
 obtain⟨g',r,rfl,d,⟨el,rfl⟩,H⟩:=H
 refine hload_le (le_add' d) ?_
 have hb:(Heap.one b (.cells c.toArray el (0,0))) b=some (.cells c.toArray el (0,0)):=by simp[Heap.one]
 simp only[hload]
 rw[hcells_mk hb (by simpa using ho)]
 rfl
theorem HS.bxst {b:Nat}{c:List Value}(H:HS g (bx b c::Γ) h) {o sz:Nat}{a x:O}{u:Value}(hp:a.get e=some (.pointer (some ⟨b,o,none⟩))) (hx:x.get e=some u) (hu:u.cells.size=sz) (hu1:allOne u.cells.toList=true) (ho:o+sz≤c.length)
  (K:∀h',HS g (bx b (setC c o u.cells.toList)::Γ) h'→k e h'):(A.ex none (.store sz a x)).wp P k e h:=by
 obtain⟨g',r,rfl,d,⟨el,rfl⟩,H⟩:=H
 have hn:=Dj_one.1 d
 refine⟨b,o,u,g'.add (Heap.one b (.cells (setC c o u.cells.toList).toArray el (0,0))),hp,hx,hu,?_,Fgt.keep (K _ ⟨g',_,rfl,Dj_one.2 hn,⟨el,rfl⟩,H⟩)⟩
 have hb:(g'.add (Heap.one b (.cells c.toArray el (0,0)))) b=some (.cells c.toArray el (0,0)):=by simp[Heap.add,Heap.one,hn]
 unfold hstore
 rw[hb]
 simp only
 rw[if_pos ⟨trivial,by simpa[hu] using ho,by rw[allOne_eq];exact hu1⟩,set_one hn]
end
def Pl.x (d:Nat) (a:PX) (p:Pl):Pl:=.st (.act none (.px (some d) a)) p
def Pl.m (d s:Nat) (p:Pl):Pl:=.st (.act none (.px (some d) (.mv (.v s)))) p
def Pl.l (d s:Nat) (p:Pl):Pl:=.st (.act none (.ld (some d) (.v s) none)) p
def Pl.a (d n:Nat) (p:Pl):Pl:=.st (.act none (.als d none n)) p
def Pl.g (d s n o:Nat) (p:Pl):Pl:=.st (.act none (.pget (some d) (some s) n o none)) p
def Pl.o (a:A) (p:Pl):Pl:=.st (.act none a) p
def Pl.c (d:Nat) (a:EX) (p:Pl):Pl:=.st (.act none (.ex (some d) a)) p
def Pl.e (n m:Nat) (p:Pl):Pl:=.st (.ext n m) p
def Pl.y (i:Nat) (a:A) (p:Pl):Pl:=.st (.act (some (.v i,true)) a) p
def Pl.n (i:Nat) (a:A) (p:Pl):Pl:=.st (.act (some (.v i,false)) a) p
section
variable {P:Program}{k:Env→Heap→Prop}{e:Env}{h:Heap}{d s n m o i:Nat}{p:Pl}
@[simp] theorem Pl.x_wp {a:PX}:Pl.wp P k (Pl.x d a p) e h=Pl.wp P k (.st (.act none (.px (some d) a)) p) e h:=by unfold Pl.x;exact rfl
@[simp] theorem Pl.m_wp:Pl.wp P k (Pl.m d s p) e h=Pl.wp P k (.st (.act none (.px (some d) (.mv (.v s)))) p) e h:=by unfold Pl.m;exact rfl
@[simp] theorem Pl.l_wp:Pl.wp P k (Pl.l d s p) e h=Pl.wp P k (.st (.act none (.ld (some d) (.v s) none)) p) e h:=by unfold Pl.l;exact rfl
@[simp] theorem Pl.a_wp:Pl.wp P k (Pl.a d n p) e h=Pl.wp P k (.st (.act none (.als d none n)) p) e h:=by unfold Pl.a;exact rfl
@[simp] theorem Pl.g_wp:Pl.wp P k (Pl.g d s n o p) e h=Pl.wp P k (.st (.act none (.pget (some d) (some s) n o none)) p) e h:=by unfold Pl.g;exact rfl
@[simp] theorem Pl.e_wp:Pl.wp P k (Pl.e n m p) e h=Pl.wp P k (.st (.ext n m) p) e h:=by unfold Pl.e;exact rfl
@[simp] theorem Pl.o_wp {a:A}:Pl.wp P k (Pl.o a p) e h=Pl.wp P k (.st (.act none a) p) e h:=by unfold Pl.o;exact rfl
@[simp] theorem Pl.c_wp {a:EX}:Pl.wp P k (Pl.c d a p) e h=Pl.wp P k (.st (.act none (.ex (some d) a)) p) e h:=by unfold Pl.c;exact rfl
@[simp] theorem Pl.y_wp {a:A}:Pl.wp P k (Pl.y i a p) e h=Pl.wp P k (.st (.act (some (.v i,true)) a) p) e h:=by unfold Pl.y;exact rfl
@[simp] theorem Pl.n_wp {a:A}:Pl.wp P k (Pl.n i a p) e h=Pl.wp P k (.st (.act (some (.v i,false)) a) p) e h:=by unfold Pl.n;exact rfl
end
theorem C.w {c c':C}(hc:c=c'):∀⦃P:Program⦄ ⦃Q:Ex→Env→Heap→Prop⦄ ⦃e:Env⦄ ⦃h:Heap⦄,C.wp P c Q e h=C.wp P c' Q e h:=fun _ _ _ _=>C.wpe hc
theorem Pl.w {c c':Pl}(hc:c=c'):∀⦃P:Program⦄ ⦃k:Env→Heap→Prop⦄ ⦃e:Env⦄ ⦃h:Heap⦄,Pl.wp P k c e h=Pl.wp P k c' e h:=fun _ _ _ _=>Pl.wpe hc
def ENT (P:Program) (B:C) (r:List (Nat×Option (Option Nat))) (n m:Nat) (f:FuncId):Prop:=∀{args:List Value}{h:Heap}{k:Value→Heap→Prop},args.length=n→B.wp P (retQ r k) (env0 args m) h→CallE P f args h k
abbrev fn_main_main:Nat:=0
abbrev fn_gosem_cut:Nat:=1
abbrev fn_gosem_cut_init:Nat:=2
abbrev fn_laws_FnMonitorRun:Nat:=3
abbrev fn_laws_FnMonitorFormula:Nat:=4
abbrev fn_laws_FnMonitorWeaker:Nat:=5
abbrev fn_laws_FnMonitorOpen:Nat:=6
abbrev fn_spec_DrawMonitorRun:Nat:=7
abbrev fn_impl_MonitorRun:Nat:=8
abbrev fn_laws_wpInts:Nat:=9
abbrev fn_spec_MonitorRun:Nat:=10
abbrev fn_impl_MonitorFormula:Nat:=11
abbrev fn_spec_DrawMonitorFormula:Nat:=12
abbrev fn_spec_DrawAccepts:Nat:=13
abbrev fn_spec_MonitorFormula:Nat:=14
abbrev fn_impl_Satisfies:Nat:=15
abbrev fn_impl_NegateFormula:Nat:=16
abbrev fn_impl_TranslateFormula:Nat:=17
abbrev fn_impl_ExtendWord:Nat:=18
abbrev fn_impl_monitorRun:Nat:=19
abbrev fn_spec_FormulaValid:Nat:=20
abbrev fn_spec_l12Word:Nat:=21
abbrev fn_spec_l12Both:Nat:=22
abbrev fn_spec_l12Verdict:Nat:=23
abbrev fn_spec_l16Open:Nat:=24
abbrev fn_spec_l5Mutate:Nat:=25
abbrev fn_spec_l5Formula:Nat:=26
abbrev fn_spec_l12Letters:Nat:=27
abbrev fn_spec_l7Mutate:Nat:=28
abbrev fn_spec_l7Automaton:Nat:=29
abbrev fn_spec_l6Mutate:Nat:=30
abbrev fn_spec_l6Lasso:Nat:=31
abbrev fn_impl_LassoValid:Nat:=32
abbrev fn_impl_FormulaValid:Nat:=33
abbrev fn_impl_Lasso_truths:Nat:=34
abbrev fn_impl_Formula_negation:Nat:=35
abbrev fn_impl_BasicFormulas:Nat:=36
abbrev fn_impl_Formula_normalForm:Nat:=37
abbrev fn_impl_translator_holds:Nat:=38
abbrev fn_impl_TranslateFormula_1:Nat:=39
abbrev fn_impl_translator_fulfils:Nat:=40
abbrev fn_impl_explore_impl_phased:Nat:=41
abbrev fn_impl_translator_moves:Nat:=42
abbrev fn_impl_PrefixStates:Nat:=43
abbrev fn_impl_FindWord:Nat:=44
abbrev fn_slices_Clip_S_int_int:Nat:=45
abbrev fn_slices_Concat_S_int_int:Nat:=46
abbrev fn_impl_monitors:Nat:=47
abbrev fn_impl_Automaton_live:Nat:=48
abbrev fn_impl_Automaton_begin:Nat:=49
abbrev fn_slices_Contains_S_bool_bool:Nat:=50
abbrev fn_impl_Automaton_after:Nat:=51
abbrev fn_spec_l5Shape:Nat:=52
abbrev fn_spec_l5Count:Nat:=53
abbrev fn_spec_l6Letters:Nat:=54
abbrev fn_spec_TranslateFormula:Nat:=55
abbrev fn_spec_l8Negation:Nat:=56
abbrev fn_spec_l12States:Nat:=57
abbrev fn_spec_l5Copy:Nat:=58
abbrev fn_spec_l16Rd_pick:Nat:=59
abbrev fn_spec_l16Rd_num:Nat:=60
abbrev fn_spec_l5True:Nat:=61
abbrev fn_spec_l5Random:Nat:=62
abbrev fn_spec_l6Word:Nat:=63
abbrev fn_impl_letters:Nat:=64
abbrev fn_impl_in:Nat:=65
abbrev fn_impl_FormulaNodes:Nat:=66
abbrev fn_impl_Lasso_all:Nat:=67
abbrev fn_impl_Lasso_truths_1:Nat:=68
abbrev fn_impl_Lasso_next:Nat:=69
abbrev fn_impl_Lasso_truths_2:Nat:=70
abbrev fn_impl_Lasso_truths_3:Nat:=71
abbrev fn_impl_Lasso_truths_4:Nat:=72
abbrev fn_impl_Lasso_truths_5:Nat:=73
abbrev fn_impl_Formula_copyOf:Nat:=74
abbrev fn_impl_formula:Nat:=75
abbrev fn_impl_NormalForm:Nat:=76
abbrev fn_impl_basics:Nat:=77
abbrev fn_impl_Formula_normal:Nat:=78
abbrev fn_impl_formulaAt:Nat:=79
abbrev fn_impl_explore_impl_phased_1:Nat:=80
abbrev fn_impl_AutomatonValid:Nat:=81
abbrev fn_impl_Automaton_copyOf:Nat:=82
abbrev fn_impl_translator_follows:Nat:=83
abbrev fn_impl_wordOk:Nat:=84
abbrev fn_impl_Automaton_prefix:Nat:=85
abbrev fn_impl_lasso:Nat:=86
abbrev fn_impl_Automaton_next:Nat:=87
abbrev fn_impl_FindWord_1:Nat:=88
abbrev fn_impl_Automaton_values:Nat:=89
abbrev fn_impl_clone_int:Nat:=90
abbrev fn_slices_Grow_S_int_int:Nat:=91
abbrev fn_impl_negated:Nat:=92
abbrev fn_impl_cyclic:Nat:=93
abbrev fn_impl_reachable:Nat:=94
abbrev fn_slices_Index_S_bool_bool:Nat:=95
abbrev fn_impl_Transition_takes:Nat:=96
abbrev fn_spec_l5Arity:Nat:=97
abbrev fn_spec_BasicFormulas:Nat:=98
abbrev fn_spec_NormalForm:Nat:=99
abbrev fn_spec_l7Untils:Nat:=100
abbrev fn_spec_l7Value:Nat:=101
abbrev fn_spec_l7Phase:Nat:=102
abbrev fn_spec_l7Letter:Nat:=103
abbrev fn_spec_l7Follows:Nat:=104
abbrev fn_spec_l7Pair:Nat:=105
abbrev fn_spec_NegateFormula:Nat:=106
abbrev fn_spec_LiveStates:Nat:=107
abbrev fn_spec_l12Only:Nat:=108
abbrev fn_spec_l12Step:Nat:=109
abbrev fn_slices_ContainsFunc_S_int_int:Nat:=110
abbrev fn_impl_letters_1:Nat:=111
abbrev fn_impl_Formula_walk:Nat:=112
abbrev fn_impl_clone_impl_Formula:Nat:=113
abbrev fn_impl_Formula_subformulas:Nat:=114
abbrev fn_slices_Clip_S_impl_Formula_impl_Formula:Nat:=115
abbrev fn_impl_Formula_normal_1:Nat:=116
abbrev fn_impl_Formula_normal_2:Nat:=117
abbrev fn_slices_IndexFunc_S_impl_Formula_impl_Formula:Nat:=118
abbrev fn_impl_formulaAt_1:Nat:=119
abbrev fn_impl_FormulaSame:Nat:=120
abbrev fn_slices_ContainsFunc_S_impl_Transition_impl_Transition:Nat:=121
abbrev fn_impl_AutomatonValid_1:Nat:=122
abbrev fn_impl_clone_bool:Nat:=123
abbrev fn_impl_clone_impl_Transition:Nat:=124
abbrev fn_impl_members:Nat:=125
abbrev fn_impl_order:Nat:=126
abbrev fn_impl_shortest:Nat:=127
abbrev fn_impl_lasso_1:Nat:=128
abbrev fn_impl_around:Nat:=129
abbrev fn_slices_IndexFunc_S_impl_Transition_impl_Transition:Nat:=130
abbrev fn_impl_Automaton_values_1:Nat:=131
abbrev fn_slices_Clone_S_int_int:Nat:=132
abbrev fn_impl_components:Nat:=133
abbrev fn_slices_Contains_S_int_int:Nat:=134
abbrev fn_spec_l5Subs:Nat:=135
abbrev fn_spec_l7Basic:Nat:=136
abbrev fn_spec_l5Push:Nat:=137
abbrev fn_spec_l6Has:Nat:=138
abbrev fn_spec_l5Find:Nat:=139
abbrev fn_spec_l7Fulfils:Nat:=140
abbrev fn_spec_l2Ints:Nat:=141
abbrev fn_spec_l5Not:Nat:=142
abbrev fn_spec_AutomatonValid:Nat:=143
abbrev fn_spec_l7Next:Nat:=144
abbrev fn_spec_l7Reach:Nat:=145
abbrev fn_spec_l7Loop:Nat:=146
abbrev fn_spec_l4In:Nat:=147
abbrev fn_spec_l7On:Nat:=148
abbrev fn_spec_l10Sorted:Nat:=149
abbrev fn_slices_IndexFunc_S_int_int:Nat:=150
abbrev fn_impl_operands:Nat:=151
abbrev fn_slices_ContainsFunc_S_impl_Formula_impl_Formula:Nat:=152
abbrev fn_impl_Formula_walk_1:Nat:=153
abbrev fn_slices_Clone_S_impl_Formula_impl_Formula:Nat:=154
abbrev fn_impl_Formula_subformulas_1:Nat:=155
abbrev fn_slices_EqualFunc_S_impl_Formula_S_impl_Formula_impl_Formula_impl_Formula:Nat:=156
abbrev fn_slices_Clip_S_bool_bool:Nat:=157
abbrev fn_slices_Clone_S_bool_bool:Nat:=158
abbrev fn_slices_Clip_S_impl_Transition_impl_Transition:Nat:=159
abbrev fn_slices_Clone_S_impl_Transition_impl_Transition:Nat:=160
abbrev fn_impl_order_1:Nat:=161
abbrev fn_slices_Reverse_S_int_int:Nat:=162
abbrev fn_impl_around_1:Nat:=163
abbrev fn_impl_components_1:Nat:=164
abbrev fn_slices_Index_S_int_int:Nat:=165
abbrev fn_spec_l5Dual:Nat:=166
abbrev fn_spec_FormulaSame:Nat:=167
abbrev fn_spec_l7Edge:Nat:=168
abbrev fn_runtime_boundsError_Error:Nat:=169
abbrev fn_runtime_boundsError_RuntimeError:Nat:=170
abbrev fn_runtime_errorString_Error:Nat:=171
abbrev fn_runtime_errorString_RuntimeError:Nat:=172
abbrev fn_runtime_plainError_Error:Nat:=173
abbrev fn_runtime_plainError_RuntimeError:Nat:=174
abbrev fn_runtime_errorAddressString_Error:Nat:=175
abbrev fn_runtime_errorAddressString_RuntimeError:Nat:=176
abbrev fn_runtime_TypeAssertionError_Error:Nat:=177
abbrev fn_runtime_TypeAssertionError_RuntimeError:Nat:=178
abbrev fn_runtime_PanicNilError_Error:Nat:=179
abbrev fn_runtime_PanicNilError_RuntimeError:Nat:=180
abbrev fn_internal_abi_Type_Align:Nat:=181
abbrev fn_internal_runtime_maps_unhashableTypeError_Error:Nat:=182
abbrev fn_internal_runtime_maps_unhashableTypeError_RuntimeError:Nat:=183
abbrev fn_impl_Formula_text:Nat:=184
abbrev fn_impl_Automaton_accepting:Nat:=185
abbrev fn_spec_l16Rd_word:Nat:=186
abbrev fn_internal_abi_Kind_String:Nat:=187
def H_spec_NormalForm:Hint:=⟨[(0,false),(1,true),(2,true),(3,false),(4,true)],[]⟩
abbrev K99_1:C:=.seq (.pl <| .e 5 1 <|
 .o (.pget (some 5) none 4 0 (some 3)) <|
 .o (.pset none 2 0 3 (.v 5)) <|
 .x 3 (.mv (.c (.bool true))) .done) (.ret)
abbrev K99_2:C:=.seq (.pl <| .e 5 1 <|
 .x 5 (.build [.int .i64 0,.int .i64 0,.slice none 0 0] []) <|
 .o (.pset none 2 0 3 (.v 5)) <|
 .x 3 (.mv (.c (.bool false))) .done) (.ret)
abbrev K99_3:C:=.cond 5 (.v 7) K99_2 (.skip)
abbrev K99_4:Pl:=.x 7 (.un .not (.v 6)) .done
abbrev K99_5:C:=.seq (.seq (.pl <| .e 5 3 <|
 .o (.pget (some 5) none 4 0 (some 3)) <|
 .c 6 (.call fn_spec_FormulaValid [.v 5]) K99_4) K99_3) K99_1
abbrev K99_6:Pl:=.o (.pnew 4 (.c (.agg #[.int .i64 0,.int .i64 0,.slice none 0 0])) []) <|
 .o (.pset none 4 0 3 (.v 6)) .done
abbrev K99_7:C:=.seq (.pl <| .e 5 2 <|
 .o (.pget (some 5) none 1 0 (some 3)) <|
 .c 6 (.call fn_spec_l5Push [.v 5,.c (.bool false)]) K99_6) K99_5
abbrev K99_8:C:=.seq (.pl <| .e 5 1 <|
 .x 5 (.build [.int .i64 0,.int .i64 0,.slice none 0 0] []) <|
 .o (.pset none 2 0 3 (.v 5)) <|
 .x 3 (.mv (.c (.bool false))) .done) (.ret)
abbrev K99_9:C:=.cond 5 (.v 7) K99_8 (.skip)
abbrev K99_10:Pl:=.x 7 (.un .not (.v 6)) .done
abbrev K99_11:C:=.seq (.seq (.pl <| .e 5 3 <|
 .o (.pget (some 5) none 1 0 (some 3)) <|
 .c 6 (.call fn_spec_FormulaValid [.v 5]) K99_10) K99_9) K99_7
abbrev B_spec_NormalForm:C:=.seq (.pl <| .e 5 0 <|
 .o (.pnew 1 (.v 0) []) <|
 .o (.pnew 2 (.c (.agg #[.int .i64 0,.int .i64 0,.slice none 0 0])) []) <|
 .x 3 (.mv (.c (.bool false))) .done) K99_11
def R_spec_NormalForm:FIR:=⟨B_spec_NormalForm,5,[(2,some (some 3)),(3,none)]⟩
theorem IR_spec_NormalForm:cfun Tryz.prog H_spec_NormalForm Tryz.f99=some R_spec_NormalForm:=by kernel_rfl
theorem EN_spec_NormalForm:ENT Tryz.prog B_spec_NormalForm [(2,some (some 3)),(3,none)] 1 5 fn_spec_NormalForm:=fun hargs hw=>enter Tryz.func99 rfl IR_spec_NormalForm hargs hw
def H_spec_TranslateFormula:Hint:=⟨[(0,false),(1,true),(2,true),(3,false),(4,false),(5,false),(6,true),(8,false),(9,false),(10,true),(11,false),(12,false),(13,false),(14,false),(15,false),(16,false),(17,false),(18,false),(19,false),(20,false)],[[0,1,3,5,12,13,14,15,16,17,18,19],[0,1,3,5,6,11,13,14,15,16,17,18,19],[0,1,3,5,6,11,15,19]]⟩
abbrev K55_1:C:=.seq (.pl <| .e 20 1 <|
 .o (.pget (some 20) none 9 0 (some 3)) <|
 .o (.pset none 2 0 3 (.v 20)) <|
 .x 3 (.mv (.c (.bool true))) .done) (.ret)
abbrev K55_2:Pl:=.a 21 9 <|
 .o (.pset (some 21) 9 1 1 (.v 20)) .done
abbrev K55_3:C:=.pl <| .e 20 2 <|
 .c 20 (.bls 1 1 [.bool false] [(0,1,.c (.bool false))]) K55_2
abbrev K55_4:C:=.cond 20 (.v 22) K55_3 (.skip)
abbrev K55_5:C:=.seq (.seq (.pl <| .e 20 3 <|
 .m 20 10 <|
 .x 21 (.lenV (.v 20)) <|
 .x 22 (.bin .eql (.v 21) (.c (.int .i64 0))) .done) K55_4) K55_1
abbrev K55_6:C:=.pl <| .e 20 2 <|
 .m 20 12 <|
 .x 21 (.bin .add (.v 20) (.c (.int .i64 1))) <|
 .m 12 21 .done
abbrev K55_7:C:=.pl <| .e 20 2 <|
 .m 20 18 <|
 .x 21 (.bin .add (.v 20) (.c (.int .i64 1))) <|
 .m 18 21 .done
abbrev K55_8:Pl:=.a 29 9 <|
 .o (.pset (some 29) 9 2 1 (.v 28)) .done
abbrev K55_9:C:=.pl <| .e 20 10 <|
 .a 20 9 <|
 .g 21 20 9 2 <|
 .m 22 12 <|
 .m 23 16 <|
 .m 24 17 <|
 .m 25 19 <|
 .x 26 (.build [.int .i64 0,.int .i64 0,.int .i64 0,.int .i64 0] [(0,1,.v 22),(1,1,.v 23),(2,1,.v 24),(3,1,.v 25)]) <|
 .o (.psl 27 [.int .i64 0,.int .i64 0,.int .i64 0,.int .i64 0] [(0,4,.v 26)]) <|
 .c 28 (.app 32 4 [.int .i64 0,.int .i64 0,.int .i64 0,.int .i64 0] (.o (.v 21)) (.p 1 27)) K55_8
abbrev K55_10:Pl:=.m 25 24 <|
 .x 26 (.extract 0 (.v 25)) <|
 .x 27 (.extract 1 (.v 25)) <|
 .m 10 26 <|
 .m 19 27 .done
abbrev K55_11:Pl:=.c 24 (.call fn_spec_l7Pair [.v 20,.v 23]) K55_10
abbrev K55_12:C:=.seq (.pl <| .e 20 8 <|
 .m 20 10 <|
 .m 21 18 <|
 .m 22 14 <|
 .c 23 (.bls 1 2 [.int .i64 0] [(0,1,.v 21),(1,1,.v 22)]) K55_11) K55_9
abbrev K55_13:C:=.seq (.pl <| .e 20 0 <|
 .x 19 (.mv (.c (.int .i64 0))) .done) K55_12
abbrev K55_14:C:=.cond 20 (.v 23) K55_13 (.skip)
abbrev K55_15:C:=.seq (.block 5 (.seq (.pl <| .e 20 4 <|
 .m 20 4 <|
 .m 21 13 <|
 .m 22 18 <|
 .c 23 (.call fn_spec_l7Follows [.v 20,.v 21,.v 22]) .done) K55_14)) K55_7
abbrev K55_16:C:=.cond 20 (.v 22) (.skip) (.exit 4)
abbrev K55_17:C:=.seq (.seq (.pl <| .e 20 3 <|
 .m 20 18 <|
 .m 21 7 <|
 .x 22 (.bin .lss (.v 20) (.v 21)) .done) K55_16) K55_15
abbrev K55_18:C:=.block 4 (.loop 20 [0,1,3,5,6,11,15,19] K55_17)
abbrev K55_19:C:=.seq (.pl <| .e 20 0 <|
 .x 18 (.mv (.c (.int .i64 0))) .done) K55_18
abbrev K55_20:Pl:=.m 23 22 <|
 .x 24 (.extract 0 (.v 23)) <|
 .x 25 (.extract 1 (.v 23)) <|
 .m 16 24 <|
 .m 17 25 .done
abbrev K55_21:C:=.seq (.pl <| .e 20 6 <|
 .m 20 4 <|
 .m 21 13 <|
 .c 22 (.call fn_spec_l7Letter [.v 20,.v 21]) K55_20) K55_19
abbrev K55_22:Pl:=.a 25 9 <|
 .o (.pset (some 25) 9 1 1 (.v 24)) .done
abbrev K55_23:C:=.seq (.pl <| .e 20 6 <|
 .a 20 9 <|
 .g 21 20 9 1 <|
 .m 22 15 <|
 .o (.psl 23 [.bool false] [(0,1,.v 22)]) <|
 .c 24 (.app 1 1 [.bool false] (.o (.v 21)) (.p 1 23)) K55_22) K55_21
abbrev K55_24:Pl:=.m 30 29 <|
 .x 31 (.extract 0 (.v 30)) <|
 .x 32 (.extract 1 (.v 30)) <|
 .m 14 31 <|
 .m 15 32 .done
abbrev K55_25:C:=.seq (.pl <| .e 20 13 <|
 .m 20 4 <|
 .m 21 8 <|
 .m 22 13 <|
 .m 23 10 <|
 .m 24 12 <|
 .x 25 (.ia 1 (.v 23) (.v 24)) <|
 .l 26 25 <|
 .x 27 (.ia 1 (.v 26) (.c (.int .i64 1))) <|
 .l 28 27 <|
 .c 29 (.call fn_spec_l7Phase [.v 20,.v 21,.v 22,.v 28]) K55_24) K55_23
abbrev K55_26:C:=.seq (.pl <| .e 20 6 <|
 .m 20 10 <|
 .m 21 12 <|
 .x 22 (.ia 1 (.v 20) (.v 21)) <|
 .l 23 22 <|
 .x 24 (.ia 1 (.v 23) (.c (.int .i64 0))) <|
 .l 25 24 <|
 .m 13 25 .done) K55_25
abbrev K55_27:C:=.seq (.pl <| .e 20 1 <|
 .x 20 (.build [.slice none 0 0,.slice none 0 0,.slice none 0 0] []) <|
 .o (.pset none 2 0 3 (.v 20)) <|
 .x 3 (.mv (.c (.bool false))) .done) (.ret)
abbrev K55_28:C:=.cond 20 (.v 22) K55_27 (.skip)
abbrev K55_29:C:=.seq (.block 3 (.seq (.seq (.pl <| .e 20 3 <|
 .m 20 10 <|
 .x 21 (.lenV (.v 20)) <|
 .x 22 (.bin .gtr (.v 21) (.c (.int .i64 64))) .done) K55_28) K55_26)) K55_6
abbrev K55_30:C:=.cond 20 (.v 23) (.skip) (.exit 2)
abbrev K55_31:C:=.seq (.seq (.pl <| .e 20 4 <|
 .m 20 12 <|
 .m 21 10 <|
 .x 22 (.lenV (.v 21)) <|
 .x 23 (.bin .lss (.v 20) (.v 22)) .done) K55_30) K55_29
abbrev K55_32:C:=.block 2 (.loop 20 [0,1,3,5,6,11,13,14,15,16,17,18,19] K55_31)
abbrev K55_33:C:=.seq (.seq (.pl <| .e 20 0 <|
 .x 12 (.mv (.c (.int .i64 0))) .done) K55_32) K55_5
abbrev K55_34:C:=.pl <| .e 20 2 <|
 .m 20 11 <|
 .x 21 (.bin .add (.v 20) (.c (.int .i64 1))) <|
 .m 11 21 .done
abbrev K55_35:Pl:=.m 10 24 .done
abbrev K55_36:Pl:=.o (.psl 23 [.slice none 0 0] [(0,1,.v 22)]) <|
 .c 24 (.app 24 1 [.slice none 0 0] (.o (.v 20)) (.p 1 23)) K55_35
abbrev K55_37:C:=.pl <| .e 20 5 <|
 .m 20 10 <|
 .m 21 11 <|
 .c 22 (.bls 1 2 [.int .i64 0] [(0,1,.v 21),(1,1,.c (.int .i64 0))]) K55_36
abbrev K55_38:Pl:=.a 26 9 <|
 .o (.pset (some 26) 9 0 1 (.v 25)) .done
abbrev K55_39:C:=.seq (.pl <| .e 20 7 <|
 .a 20 9 <|
 .g 21 20 9 0 <|
 .m 22 10 <|
 .x 23 (.lenV (.v 22)) <|
 .o (.psl 24 [.int .i64 0] [(0,1,.v 23)]) <|
 .c 25 (.app 8 1 [.int .i64 0] (.o (.v 21)) (.p 1 24)) K55_38) K55_37
abbrev K55_40:C:=.cond 20 (.v 23) K55_39 (.skip)
abbrev K55_41:C:=.seq (.block 1 (.seq (.pl <| .e 20 4 <|
 .m 20 4 <|
 .m 21 11 <|
 .o (.pget (some 22) none 6 0 (some 3)) <|
 .c 23 (.call fn_spec_l7Value [.v 20,.v 21,.v 22]) .done) K55_40)) K55_34
abbrev K55_42:C:=.cond 20 (.v 22) (.skip) (.exit 0)
abbrev K55_43:C:=.seq (.seq (.pl <| .e 20 3 <|
 .m 20 11 <|
 .m 21 7 <|
 .x 22 (.bin .lss (.v 20) (.v 21)) .done) K55_42) K55_41
abbrev K55_44:C:=.block 0 (.loop 20 [0,1,3,5,12,13,14,15,16,17,18,19] K55_43)
abbrev K55_45:C:=.seq (.seq (.pl <| .e 20 0 <|
 .x 11 (.mv (.c (.int .i64 0))) .done) K55_44) K55_33
abbrev K55_46:Pl:=.m 10 20 .done
abbrev K55_47:C:=.seq (.pl <| .e 20 1 <|
 .c 20 (.bls 1 0 [.slice none 0 0] []) K55_46) K55_45
abbrev K55_48:C:=.seq (.pl <| .e 20 1 <|
 .x 20 (.build [.slice none 0 0,.slice none 0 0,.slice none 0 0] []) <|
 .o (.pnew 9 (.c (.agg #[.slice none 0 0,.slice none 0 0,.slice none 0 0])) []) <|
 .o (.pset none 9 0 3 (.v 20)) .done) K55_47
abbrev K55_49:Pl:=.m 8 21 .done
abbrev K55_50:C:=.seq (.pl <| .e 20 2 <|
 .m 20 4 <|
 .c 21 (.call fn_spec_l7Untils [.v 20]) K55_49) K55_48
abbrev K55_51:C:=.seq (.pl <| .e 20 4 <|
 .m 20 4 <|
 .x 21 (.lenV (.v 20)) <|
 .x 22 (.conv .u64 (.v 21)) <|
 .x 23 (.bin .shl (.c (.int .i64 1)) (.v 22)) <|
 .m 7 23 .done) K55_50
abbrev K55_52:Pl:=.m 22 21 <|
 .x 23 (.extract 0 (.v 22)) <|
 .x 24 (.extract 1 (.v 22)) <|
 .o (.pnew 6 (.c (.agg #[.int .i64 0,.int .i64 0,.slice none 0 0])) []) <|
 .o (.pset none 6 0 3 (.v 23)) <|
 .m 25 24 .done
abbrev K55_53:C:=.seq (.pl <| .e 20 6 <|
 .o (.pget (some 20) none 1 0 (some 3)) <|
 .c 21 (.call fn_spec_NormalForm [.v 20]) K55_52) K55_51
abbrev K55_54:C:=.seq (.pl <| .e 20 1 <|
 .x 20 (.build [.slice none 0 0,.slice none 0 0,.slice none 0 0] []) <|
 .o (.pset none 2 0 3 (.v 20)) <|
 .x 3 (.mv (.c (.bool false))) .done) (.ret)
abbrev K55_55:C:=.cond 20 (.v 21) K55_54 (.skip)
abbrev K55_56:C:=.seq (.seq (.pl <| .e 20 2 <|
 .m 20 5 <|
 .x 21 (.un .not (.v 20)) .done) K55_55) K55_53
abbrev K55_57:Pl:=.m 22 21 <|
 .x 23 (.extract 0 (.v 22)) <|
 .x 24 (.extract 1 (.v 22)) <|
 .m 4 23 <|
 .m 5 24 .done
abbrev K55_58:C:=.seq (.pl <| .e 20 5 <|
 .o (.pget (some 20) none 1 0 (some 3)) <|
 .c 21 (.call fn_spec_BasicFormulas [.v 20]) K55_57) K55_56
abbrev B_spec_TranslateFormula:C:=.seq (.pl <| .e 20 0 <|
 .o (.pnew 1 (.v 0) []) <|
 .o (.pnew 2 (.c (.agg #[.slice none 0 0,.slice none 0 0,.slice none 0 0])) []) <|
 .x 3 (.mv (.c (.bool false))) .done) K55_58
def R_spec_TranslateFormula:FIR:=⟨B_spec_TranslateFormula,20,[(2,some (some 3)),(3,none)]⟩
theorem IR_spec_TranslateFormula:cfun Tryz.prog H_spec_TranslateFormula Tryz.f55=some R_spec_TranslateFormula:=by kernel_rfl
theorem EN_spec_TranslateFormula:ENT Tryz.prog B_spec_TranslateFormula [(2,some (some 3)),(3,none)] 1 20 fn_spec_TranslateFormula:=fun hargs hw=>enter Tryz.func55 rfl IR_spec_TranslateFormula hargs hw
def H_spec_l10Sorted:Hint:=⟨[(0,false),(1,false),(4,false),(5,false),(6,false),(7,false)],[[2]]⟩
abbrev K149_1:C:=.seq (.pl <| .e 6 1 <|
 .m 6 3 <|
 .m 2 6 .done) (.ret)
abbrev K149_2:Pl:=.m 3 9 .done
abbrev K149_3:C:=.pl <| .e 6 4 <|
 .m 6 3 <|
 .m 7 1 <|
 .o (.psl 8 [.int .i64 0] [(0,1,.v 7)]) <|
 .c 9 (.app 8 1 [.int .i64 0] (.o (.v 6)) (.p 1 8)) K149_2
abbrev K149_4:C:=.cond 6 (.v 7) K149_3 (.skip)
abbrev K149_5:C:=.seq (.seq (.pl <| .e 6 2 <|
 .m 6 4 <|
 .x 7 (.un .not (.v 6)) .done) K149_4) K149_1
abbrev K149_6:C:=.pl <| .e 6 2 <|
 .m 6 5 <|
 .x 7 (.bin .add (.v 6) (.c (.int .i64 1))) <|
 .m 5 7 .done
abbrev K149_7:Pl:=.m 3 12 .done
abbrev K149_8:C:=.pl <| .e 6 7 <|
 .m 6 3 <|
 .m 7 0 <|
 .m 8 5 <|
 .x 9 (.ia 1 (.v 7) (.v 8)) <|
 .l 10 9 <|
 .o (.psl 11 [.int .i64 0] [(0,1,.v 10)]) <|
 .c 12 (.app 8 1 [.int .i64 0] (.o (.v 6)) (.p 1 11)) K149_7
abbrev K149_9:C:=.pl <| .e 6 0 <|
 .x 4 (.mv (.c (.bool true))) .done
abbrev K149_10:Pl:=.m 3 9 .done
abbrev K149_11:C:=.seq (.pl <| .e 6 4 <|
 .m 6 3 <|
 .m 7 1 <|
 .o (.psl 8 [.int .i64 0] [(0,1,.v 7)]) <|
 .c 9 (.app 8 1 [.int .i64 0] (.o (.v 6)) (.p 1 8)) K149_10) K149_9
abbrev K149_12:C:=.cond 6 (.v 15) K149_11 (.skip)
abbrev K149_13:C:=.seq (.seq (.pl <| .e 6 10 <|
 .m 6 0 <|
 .m 7 5 <|
 .x 8 (.ia 1 (.v 6) (.v 7)) <|
 .l 9 8 <|
 .m 10 1 <|
 .x 11 (.bin .gtr (.v 9) (.v 10)) <|
 .m 12 11 <|
 .y 12 (.px (some 13) (.mv (.v 4))) <|
 .y 12 (.px (some 14) (.un .not (.v 13))) <|
 .x 15 (.pick (.v 12) (.v 14) (.c (.bool false))) .done) K149_12) K149_8
abbrev K149_14:C:=.seq (.pl <| .e 6 1 <|
 .m 6 0 <|
 .m 2 6 .done) (.ret)
abbrev K149_15:C:=.cond 6 (.v 11) K149_14 (.skip)
abbrev K149_16:C:=.seq (.block 1 (.seq (.seq (.pl <| .e 6 6 <|
 .m 6 0 <|
 .m 7 5 <|
 .x 8 (.ia 1 (.v 6) (.v 7)) <|
 .l 9 8 <|
 .m 10 1 <|
 .x 11 (.bin .eql (.v 9) (.v 10)) .done) K149_15) K149_13)) K149_6
abbrev K149_17:C:=.cond 6 (.v 9) (.skip) (.exit 0)
abbrev K149_18:C:=.seq (.seq (.pl <| .e 6 4 <|
 .m 6 5 <|
 .m 7 0 <|
 .x 8 (.lenV (.v 7)) <|
 .x 9 (.bin .lss (.v 6) (.v 8)) .done) K149_17) K149_16
abbrev K149_19:C:=.block 0 (.loop 6 [2] K149_18)
abbrev K149_20:C:=.seq (.seq (.pl <| .e 6 0 <|
 .x 5 (.mv (.c (.int .i64 0))) .done) K149_19) K149_5
abbrev K149_21:C:=.seq (.pl <| .e 6 0 <|
 .x 4 (.mv (.c (.bool false))) .done) K149_20
abbrev K149_22:Pl:=.m 3 6 .done
abbrev K149_23:C:=.seq (.pl <| .e 6 1 <|
 .c 6 (.bls 1 0 [.int .i64 0] []) K149_22) K149_21
abbrev B_spec_l10Sorted:C:=.seq (.pl <| .e 6 0 <|
 .x 2 (.mv (.c (.slice none 0 0))) .done) K149_23
def R_spec_l10Sorted:FIR:=⟨B_spec_l10Sorted,6,[(2,none)]⟩
theorem IR_spec_l10Sorted:cfun Tryz.prog H_spec_l10Sorted Tryz.f149=some R_spec_l10Sorted:=by kernel_rfl
theorem EN_spec_l10Sorted:ENT Tryz.prog B_spec_l10Sorted [(2,none)] 2 6 fn_spec_l10Sorted:=fun hargs hw=>enter Tryz.func149 rfl IR_spec_l10Sorted hargs hw
def H_spec_l12Both:Hint:=⟨[(0,false),(1,true),(2,true),(3,true),(4,false),(5,true),(6,false),(7,true),(8,false)],[]⟩
abbrev K22_1:C:=.seq (.pl <| .e 9 6 <|
 .o (.pget (some 9) none 5 0 (some 3)) <|
 .o (.pget (some 10) none 7 0 (some 3)) <|
 .m 11 6 <|
 .m 12 11 <|
 .y 12 (.px (some 13) (.mv (.v 8))) <|
 .x 14 (.pick (.v 12) (.v 13) (.c (.bool false))) <|
 .o (.pset none 2 0 3 (.v 9)) <|
 .o (.pset none 3 0 3 (.v 10)) <|
 .m 4 14 .done) (.ret)
abbrev K22_2:Pl:=.m 11 10 <|
 .x 12 (.extract 0 (.v 11)) <|
 .x 13 (.extract 1 (.v 11)) <|
 .o (.pnew 7 (.c (.agg #[.slice none 0 0,.slice none 0 0,.slice none 0 0])) []) <|
 .o (.pset none 7 0 3 (.v 12)) <|
 .m 8 13 .done
abbrev K22_3:C:=.seq (.pl <| .e 9 5 <|
 .o (.pget (some 9) none 1 0 (some 3)) <|
 .c 10 (.call fn_spec_l8Negation [.v 9]) K22_2) K22_1
abbrev K22_4:Pl:=.m 11 10 <|
 .x 12 (.extract 0 (.v 11)) <|
 .x 13 (.extract 1 (.v 11)) <|
 .o (.pnew 5 (.c (.agg #[.slice none 0 0,.slice none 0 0,.slice none 0 0])) []) <|
 .o (.pset none 5 0 3 (.v 12)) <|
 .m 6 13 .done
abbrev K22_5:C:=.seq (.pl <| .e 9 5 <|
 .o (.pget (some 9) none 1 0 (some 3)) <|
 .c 10 (.call fn_spec_TranslateFormula [.v 9]) K22_4) K22_3
abbrev B_spec_l12Both:C:=.seq (.pl <| .e 9 0 <|
 .o (.pnew 1 (.v 0) []) <|
 .o (.pnew 2 (.c (.agg #[.slice none 0 0,.slice none 0 0,.slice none 0 0])) []) <|
 .o (.pnew 3 (.c (.agg #[.slice none 0 0,.slice none 0 0,.slice none 0 0])) []) <|
 .x 4 (.mv (.c (.bool false))) .done) K22_5
def R_spec_l12Both:FIR:=⟨B_spec_l12Both,9,[(2,some (some 3)),(3,some (some 3)),(4,none)]⟩
theorem IR_spec_l12Both:cfun Tryz.prog H_spec_l12Both Tryz.f22=some R_spec_l12Both:=by kernel_rfl
theorem EN_spec_l12Both:ENT Tryz.prog B_spec_l12Both [(2,some (some 3)),(3,some (some 3)),(4,none)] 1 9 fn_spec_l12Both:=fun hargs hw=>enter Tryz.func22 rfl IR_spec_l12Both hargs hw
def H_spec_l12Letters:Hint:=⟨[(0,false),(2,false),(3,false),(10,false)],[[1,3]]⟩
abbrev K27_1:C:=.seq (.pl <| .e 4 1 <|
 .m 4 2 <|
 .m 1 4 .done) (.ret)
abbrev K27_2:Pl:=.m 2 9 .done
abbrev K27_3:Pl:=.o (.psl 8 [.int .i64 0] [(0,1,.v 7)]) <|
 .c 9 (.app 8 1 [.int .i64 0] (.o (.v 4)) (.p 1 8)) K27_2
abbrev K27_4:Pl:=.c 7 (.call fn_spec_l16Rd_num [.v 5,.v 6]) K27_3
abbrev K27_5:C:=.pl <| .e 4 6 <|
 .m 4 2 <|
 .m 5 0 <|
 .c 6 (.bls 1 3 [.int .i64 0] [(0,1,.c (.int .i64 8)),(1,1,.c (.int .i64 (-1))),(2,1,.c (.int .i64 9223372036854775807))]) K27_4
abbrev K27_6:Pl:=.m 2 6 .done
abbrev K27_7:C:=.block 2 (.pl <| .e 4 3 <|
 .m 4 2 <|
 .o (.psl 5 [.int .i64 0] [(0,1,.c (.int .i64 1))]) <|
 .c 6 (.app 8 1 [.int .i64 0] (.o (.v 4)) (.p 1 5)) K27_6)
abbrev K27_8:C:=.cond 4 (.v 9) (.skip) (.exit 1)
abbrev K27_9:Pl:=.x 8 (.bin .add (.c (.int .i64 200)) (.v 7)) <|
 .x 9 (.bin .lss (.v 5) (.v 8)) .done
abbrev K27_10:C:=.seq (.seq (.pl <| .e 4 6 <|
 .m 4 2 <|
 .x 5 (.lenV (.v 4)) <|
 .m 6 0 <|
 .c 7 (.call fn_spec_l16Rd_pick [.v 6,.c (.int .i64 2)]) K27_9) K27_8) K27_7
abbrev K27_11:C:=.block 1 (.loop 4 [1,3] K27_10)
abbrev K27_12:C:=.cond 4 (.v 5) K27_11 (.skip)
abbrev K27_13:C:=.seq (.pl <| .e 4 2 <|
 .x 4 (.bin .eql (.v 3) (.c (.int .i64 1))) <|
 .m 5 4 .done) K27_12
abbrev K27_14:C:=.cond 4 (.v 5) K27_5 K27_13
abbrev K27_15:C:=.block 0 (.seq (.pl <| .e 4 2 <|
 .x 4 (.bin .eql (.v 3) (.c (.int .i64 0))) <|
 .m 5 4 .done) K27_14)
abbrev K27_16:C:=.seq (.seq (.pl <| .e 4 1 <|
 .m 4 0 <|
 .c 3 (.call fn_spec_l16Rd_pick [.v 4,.c (.int .i64 40)]) .done) K27_15) K27_1
abbrev K27_17:Pl:=.m 2 8 .done
abbrev K27_18:Pl:=.c 8 (.call fn_spec_l6Word [.v 4,.v 7]) K27_17
abbrev K27_19:Pl:=.c 7 (.call fn_spec_l16Rd_num [.v 5,.v 6]) K27_18
abbrev K27_20:C:=.seq (.pl <| .e 4 5 <|
 .m 4 0 <|
 .m 5 0 <|
 .c 6 (.bls 1 6 [.int .i64 0] [(0,1,.c (.int .i64 3)),(1,1,.c (.int .i64 2)),(2,1,.c (.int .i64 4)),(3,1,.c (.int .i64 1)),(4,1,.c (.int .i64 0)),(5,1,.c (.int .i64 6))]) K27_19) K27_16
abbrev B_spec_l12Letters:C:=.seq (.pl <| .e 4 0 <|
 .x 1 (.mv (.c (.slice none 0 0))) .done) K27_20
def R_spec_l12Letters:FIR:=⟨B_spec_l12Letters,4,[(1,none)]⟩
theorem IR_spec_l12Letters:cfun Tryz.prog H_spec_l12Letters Tryz.f27=some R_spec_l12Letters:=by kernel_rfl
theorem EN_spec_l12Letters:ENT Tryz.prog B_spec_l12Letters [(1,none)] 1 4 fn_spec_l12Letters:=fun hargs hw=>enter Tryz.func27 rfl IR_spec_l12Letters hargs hw
def H_spec_l12Only:Hint:=⟨[(0,false),(1,false),(4,false),(5,false),(6,false)],[[2]]⟩
abbrev K108_1:C:=.seq (.pl <| .e 5 1 <|
 .m 5 3 <|
 .m 2 5 .done) (.ret)
abbrev K108_2:C:=.pl <| .e 5 2 <|
 .m 5 4 <|
 .x 6 (.bin .add (.v 5) (.c (.int .i64 1))) <|
 .m 4 6 .done
abbrev K108_3:Pl:=.m 3 11 .done
abbrev K108_4:C:=.pl <| .e 5 7 <|
 .m 5 3 <|
 .m 6 0 <|
 .m 7 4 <|
 .x 8 (.ia 1 (.v 6) (.v 7)) <|
 .l 9 8 <|
 .o (.psl 10 [.int .i64 0] [(0,1,.v 9)]) <|
 .c 11 (.app 8 1 [.int .i64 0] (.o (.v 5)) (.p 1 10)) K108_3
abbrev K108_5:C:=.cond 5 (.v 11) K108_4 (.skip)
abbrev K108_6:C:=.seq (.block 1 (.seq (.pl <| .e 5 7 <|
 .m 5 1 <|
 .m 6 0 <|
 .m 7 4 <|
 .x 8 (.ia 1 (.v 6) (.v 7)) <|
 .l 9 8 <|
 .x 10 (.ia 1 (.v 5) (.v 9)) <|
 .l 11 10 .done) K108_5)) K108_2
abbrev K108_7:C:=.cond 5 (.v 8) (.skip) (.exit 0)
abbrev K108_8:C:=.seq (.seq (.pl <| .e 5 4 <|
 .m 5 4 <|
 .m 6 0 <|
 .x 7 (.lenV (.v 6)) <|
 .x 8 (.bin .lss (.v 5) (.v 7)) .done) K108_7) K108_6
abbrev K108_9:C:=.block 0 (.loop 5 [2] K108_8)
abbrev K108_10:C:=.seq (.seq (.pl <| .e 5 0 <|
 .x 4 (.mv (.c (.int .i64 0))) .done) K108_9) K108_1
abbrev K108_11:Pl:=.m 3 5 .done
abbrev K108_12:C:=.seq (.pl <| .e 5 1 <|
 .c 5 (.bls 1 0 [.int .i64 0] []) K108_11) K108_10
abbrev B_spec_l12Only:C:=.seq (.pl <| .e 5 0 <|
 .x 2 (.mv (.c (.slice none 0 0))) .done) K108_12
def R_spec_l12Only:FIR:=⟨B_spec_l12Only,5,[(2,none)]⟩
theorem IR_spec_l12Only:cfun Tryz.prog H_spec_l12Only Tryz.f108=some R_spec_l12Only:=by kernel_rfl
theorem EN_spec_l12Only:ENT Tryz.prog B_spec_l12Only [(2,none)] 2 5 fn_spec_l12Only:=fun hargs hw=>enter Tryz.func108 rfl IR_spec_l12Only hargs hw
def H_spec_l12States:Hint:=⟨[(0,false),(1,false),(2,true),(4,false),(5,false),(6,false),(7,false)],[[0,3]]⟩
abbrev K57_1:Pl:=.m 3 9 .done
abbrev K57_2:C:=.seq (.pl <| .e 7 3 <|
 .o (.psl 7 [] []) <|
 .m 8 5 <|
 .c 9 (.app 8 1 [.int .i64 0] (.p 0 7) (.o (.v 8))) K57_1) (.ret)
abbrev K57_3:C:=.pl <| .e 7 2 <|
 .m 7 6 <|
 .x 8 (.bin .add (.v 7) (.c (.int .i64 1))) <|
 .m 6 8 .done
abbrev K57_4:Pl:=.m 5 15 .done
abbrev K57_5:Pl:=.c 15 (.call fn_spec_l12Only [.v 13,.v 14]) K57_4
abbrev K57_6:C:=.seq (.block 1 (.pl <| .e 7 9 <|
 .o (.pget (some 7) none 2 0 (some 3)) <|
 .m 8 5 <|
 .m 9 1 <|
 .m 10 6 <|
 .x 11 (.ia 1 (.v 9) (.v 10)) <|
 .l 12 11 <|
 .m 14 4 <|
 .c 13 (.call fn_spec_l12Step [.v 7,.v 8,.v 12]) K57_5)) K57_3
abbrev K57_7:C:=.cond 7 (.v 10) (.skip) (.exit 0)
abbrev K57_8:C:=.seq (.seq (.pl <| .e 7 4 <|
 .m 7 6 <|
 .m 8 1 <|
 .x 9 (.lenV (.v 8)) <|
 .x 10 (.bin .lss (.v 7) (.v 9)) .done) K57_7) K57_6
abbrev K57_9:C:=.block 0 (.loop 7 [0,3] K57_8)
abbrev K57_10:C:=.seq (.seq (.pl <| .e 7 0 <|
 .x 6 (.mv (.c (.int .i64 0))) .done) K57_9) K57_2
abbrev K57_11:Pl:=.m 5 10 .done
abbrev K57_12:C:=.seq (.pl <| .e 7 4 <|
 .a 7 2 <|
 .g 8 7 2 0 <|
 .m 9 4 <|
 .c 10 (.call fn_spec_l12Only [.v 8,.v 9]) K57_11) K57_10
abbrev K57_13:Pl:=.m 4 8 .done
abbrev K57_14:C:=.seq (.pl <| .e 7 2 <|
 .o (.pget (some 7) none 2 0 (some 3)) <|
 .c 8 (.call fn_spec_LiveStates [.v 7]) K57_13) K57_12
abbrev B_spec_l12States:C:=.seq (.pl <| .e 7 0 <|
 .o (.pnew 2 (.v 0) []) <|
 .x 3 (.mv (.c (.slice none 0 0))) .done) K57_14
def R_spec_l12States:FIR:=⟨B_spec_l12States,7,[(3,none)]⟩
theorem IR_spec_l12States:cfun Tryz.prog H_spec_l12States Tryz.f57=some R_spec_l12States:=by kernel_rfl
theorem EN_spec_l12States:ENT Tryz.prog B_spec_l12States [(3,none)] 2 7 fn_spec_l12States:=fun hargs hw=>enter Tryz.func57 rfl IR_spec_l12States hargs hw
def H_spec_l12Step:Hint:=⟨[(0,false),(1,false),(2,false),(3,true),(6,false),(7,false),(8,false)],[[0,4]]⟩
abbrev K109_1:C:=.seq (.pl <| .e 7 1 <|
 .m 7 5 <|
 .m 4 7 .done) (.ret)
abbrev K109_2:C:=.pl <| .e 7 2 <|
 .m 7 6 <|
 .x 8 (.bin .add (.v 7) (.c (.int .i64 1))) <|
 .m 6 8 .done
abbrev K109_3:Pl:=.m 5 14 .done
abbrev K109_4:C:=.pl <| .e 7 8 <|
 .m 7 5 <|
 .a 8 3 <|
 .g 9 8 3 2 <|
 .m 10 6 <|
 .x 11 (.ia 4 (.v 9) (.v 10)) <|
 .x 12 (.fa 3 (.v 11)) <|
 .l 13 12 <|
 .c 14 (.call fn_spec_l10Sorted [.v 7,.v 13]) K109_3
abbrev K109_5:C:=.cond 7 (.v 23) K109_4 (.skip)
abbrev K109_6:Pl:=.x 23 (.pick (.v 15) (.v 22) (.c (.bool false))) .done
abbrev K109_7:Pl:=.m 15 14 <|
 .y 15 (.als 16 none 3) <|
 .y 15 (.pget (some 17) (some 16) 3 2 none) <|
 .y 15 (.px (some 18) (.mv (.v 6))) <|
 .y 15 (.px (some 19) (.ia 4 (.v 17) (.v 18))) <|
 .y 15 (.ld (some 20) (.v 19) (some 4)) <|
 .y 15 (.px (some 21) (.mv (.v 2))) <|
 .st (.act (some (.v 15,true)) (.ex (some 22) (.call fn_spec_l7On [.v 20,.v 21]))) K109_6
abbrev K109_8:C:=.seq (.block 1 (.seq (.pl <| .e 7 17 <|
 .m 7 1 <|
 .a 8 3 <|
 .g 9 8 3 2 <|
 .m 10 6 <|
 .x 11 (.ia 4 (.v 9) (.v 10)) <|
 .x 12 (.fa 0 (.v 11)) <|
 .l 13 12 <|
 .c 14 (.call fn_spec_l4In [.v 7,.v 13]) K109_7) K109_5)) K109_2
abbrev K109_9:C:=.cond 7 (.v 11) (.skip) (.exit 0)
abbrev K109_10:C:=.seq (.seq (.pl <| .e 7 5 <|
 .m 7 6 <|
 .a 8 3 <|
 .g 9 8 3 2 <|
 .x 10 (.lenV (.v 9)) <|
 .x 11 (.bin .lss (.v 7) (.v 10)) .done) K109_9) K109_8
abbrev K109_11:C:=.block 0 (.loop 7 [0,4] K109_10)
abbrev K109_12:C:=.seq (.seq (.pl <| .e 7 0 <|
 .x 6 (.mv (.c (.int .i64 0))) .done) K109_11) K109_1
abbrev K109_13:Pl:=.m 5 7 .done
abbrev K109_14:C:=.seq (.pl <| .e 7 1 <|
 .c 7 (.bls 1 0 [.int .i64 0] []) K109_13) K109_12
abbrev B_spec_l12Step:C:=.seq (.pl <| .e 7 0 <|
 .o (.pnew 3 (.v 0) []) <|
 .x 4 (.mv (.c (.slice none 0 0))) .done) K109_14
def R_spec_l12Step:FIR:=⟨B_spec_l12Step,7,[(4,none)]⟩
theorem IR_spec_l12Step:cfun Tryz.prog H_spec_l12Step Tryz.f109=some R_spec_l12Step:=by kernel_rfl
theorem EN_spec_l12Step:ENT Tryz.prog B_spec_l12Step [(4,none)] 3 7 fn_spec_l12Step:=fun hargs hw=>enter Tryz.func109 rfl IR_spec_l12Step hargs hw
def H_spec_l12Verdict:Hint:=⟨[(0,false),(1,false),(2,false),(3,true),(4,true),(6,false)],[]⟩
abbrev K23_1:C:=.seq (.pl <| .e 6 0 <|
 .x 5 (.mv (.c (.int .i64 0))) .done) (.ret)
abbrev K23_2:C:=.seq (.pl <| .e 6 0 <|
 .x 5 (.mv (.c (.int .i64 1))) .done) (.ret)
abbrev K23_3:C:=.cond 6 (.v 10) K23_2 (.skip)
abbrev K23_4:Pl:=.x 9 (.lenV (.v 8)) <|
 .x 10 (.bin .eql (.v 9) (.c (.int .i64 0))) .done
abbrev K23_5:C:=.seq (.seq (.pl <| .e 6 5 <|
 .o (.pget (some 6) none 4 0 (some 3)) <|
 .m 7 2 <|
 .c 8 (.call fn_spec_l12States [.v 6,.v 7]) K23_4) K23_3) K23_1
abbrev K23_6:C:=.seq (.pl <| .e 6 0 <|
 .x 5 (.mv (.c (.int .i64 2))) .done) (.ret)
abbrev K23_7:C:=.cond 6 (.v 10) K23_6 (.skip)
abbrev K23_8:Pl:=.x 9 (.lenV (.v 8)) <|
 .x 10 (.bin .eql (.v 9) (.c (.int .i64 0))) .done
abbrev K23_9:C:=.seq (.seq (.pl <| .e 6 5 <|
 .o (.pget (some 6) none 3 0 (some 3)) <|
 .m 7 2 <|
 .c 8 (.call fn_spec_l12States [.v 6,.v 7]) K23_8) K23_7) K23_5
abbrev B_spec_l12Verdict:C:=.seq (.pl <| .e 6 0 <|
 .o (.pnew 3 (.v 0) []) <|
 .o (.pnew 4 (.v 1) []) <|
 .x 5 (.mv (.c (.int .i64 0))) .done) K23_9
def R_spec_l12Verdict:FIR:=⟨B_spec_l12Verdict,6,[(5,none)]⟩
theorem IR_spec_l12Verdict:cfun Tryz.prog H_spec_l12Verdict Tryz.f23=some R_spec_l12Verdict:=by kernel_rfl
theorem EN_spec_l12Verdict:ENT Tryz.prog B_spec_l12Verdict [(5,none)] 3 6 fn_spec_l12Verdict:=fun hargs hw=>enter Tryz.func23 rfl IR_spec_l12Verdict hargs hw
def H_spec_l12Word:Hint:=⟨[(0,false),(2,false)],[]⟩
abbrev K21_1:Pl:=.m 4 3 <|
 .y 4 (.px (some 5) (.mv (.v 0))) <|
 .y 4 (.px (some 6) (.lenV (.v 5))) <|
 .y 4 (.px (some 7) (.bin .leq (.v 6) (.c (.int .i64 200)))) <|
 .x 8 (.pick (.v 4) (.v 7) (.c (.bool false))) <|
 .m 1 8 .done
abbrev K21_2:C:=.seq (.pl <| .e 2 7 <|
 .m 2 0 <|
 .c 3 (.call fn_spec_l6Letters [.v 2]) K21_1) (.ret)
abbrev B_spec_l12Word:C:=.seq (.pl <| .e 2 0 <|
 .x 1 (.mv (.c (.bool false))) .done) K21_2
def R_spec_l12Word:FIR:=⟨B_spec_l12Word,2,[(1,none)]⟩
theorem IR_spec_l12Word:cfun Tryz.prog H_spec_l12Word Tryz.f21=some R_spec_l12Word:=by kernel_rfl
theorem EN_spec_l12Word:ENT Tryz.prog B_spec_l12Word [(1,none)] 1 2 fn_spec_l12Word:=fun hargs hw=>enter Tryz.func21 rfl IR_spec_l12Word hargs hw
def H_spec_l16Open:Hint:=⟨[(0,false),(2,false)],[]⟩
abbrev K24_1:Pl:=.m 1 4 .done
abbrev K24_2:C:=.seq (.pl <| .e 2 3 <|
 .m 2 0 <|
 .x 3 (.build [.slice none 0 0,.int .i64 0] [(0,1,.v 2)]) <|
 .c 4 (.alloc (.v 3)) K24_1) (.ret)
abbrev K24_3:C:=.pl <| .e 2 2 <|
 .m 2 0 <|
 .x 3 (.sliceV 1 (.v 2) none (some (.c (.int .i64 2000))) none) <|
 .m 0 3 .done
abbrev K24_4:C:=.cond 2 (.v 4) K24_3 (.skip)
abbrev K24_5:C:=.seq (.seq (.pl <| .e 2 3 <|
 .m 2 0 <|
 .x 3 (.lenV (.v 2)) <|
 .x 4 (.bin .gtr (.v 3) (.c (.int .i64 2000))) .done) K24_4) K24_2
abbrev B_spec_l16Open:C:=.seq (.pl <| .e 2 0 <|
 .x 1 (.mv (.c (.pointer none))) .done) K24_5
def R_spec_l16Open:FIR:=⟨B_spec_l16Open,2,[(1,none)]⟩
theorem IR_spec_l16Open:cfun Tryz.prog H_spec_l16Open Tryz.f24=some R_spec_l16Open:=by kernel_rfl
theorem EN_spec_l16Open:ENT Tryz.prog B_spec_l16Open [(1,none)] 1 2 fn_spec_l16Open:=fun hargs hw=>enter Tryz.func24 rfl IR_spec_l16Open hargs hw
def H_spec_l16Rd_num:Hint:=⟨[(0,false),(1,false),(4,false)],[]⟩
abbrev K60_1:Pl:=.x 8 (.ia 1 (.v 3) (.v 7)) <|
 .l 9 8 <|
 .m 2 9 .done
abbrev K60_2:C:=.seq (.pl <| .e 3 7 <|
 .m 3 1 <|
 .m 4 0 <|
 .m 5 1 <|
 .x 6 (.lenV (.v 5)) <|
 .c 7 (.call fn_spec_l16Rd_pick [.v 4,.v 6]) K60_1) (.ret)
abbrev B_spec_l16Rd_num:C:=.seq (.pl <| .e 3 0 <|
 .x 2 (.mv (.c (.int .i64 0))) .done) K60_2
def R_spec_l16Rd_num:FIR:=⟨B_spec_l16Rd_num,3,[(2,none)]⟩
theorem IR_spec_l16Rd_num:cfun Tryz.prog H_spec_l16Rd_num Tryz.f60=some R_spec_l16Rd_num:=by kernel_rfl
theorem EN_spec_l16Rd_num:ENT Tryz.prog B_spec_l16Rd_num [(2,none)] 2 3 fn_spec_l16Rd_num:=fun hargs hw=>enter Tryz.func60 rfl IR_spec_l16Rd_num hargs hw
def H_spec_l16Rd_pick:Hint:=⟨[(0,false),(1,false),(4,false),(5,false),(6,false)],[]⟩
abbrev K59_1:C:=.seq (.pl <| .e 5 3 <|
 .m 5 4 <|
 .m 6 1 <|
 .x 7 (.bin .rem (.v 5) (.v 6)) <|
 .m 2 7 .done) (.ret)
abbrev K59_2:C:=.seq (.pl <| .e 5 4 <|
 .m 5 4 <|
 .m 6 4 <|
 .x 7 (.bin .quo (.v 6) (.c (.int .i64 64))) <|
 .x 8 (.bin .xor (.v 5) (.v 7)) <|
 .m 4 8 .done) K59_1
abbrev K59_3:C:=.seq (.pl <| .e 5 45 <|
 .m 5 0 <|
 .x 6 (.nilc (.v 5)) <|
 .x 7 (.fa 0 (.v 6)) <|
 .l 8 7 <|
 .m 9 3 <|
 .m 10 0 <|
 .x 11 (.nilc (.v 10)) <|
 .x 12 (.fa 0 (.v 11)) <|
 .l 13 12 <|
 .x 14 (.lenV (.v 13)) <|
 .x 15 (.bin .rem (.v 9) (.v 14)) <|
 .x 16 (.ia 1 (.v 8) (.v 15)) <|
 .l 17 16 <|
 .x 18 (.conv .i64 (.v 17)) <|
 .x 19 (.bin .mul (.v 18) (.c (.int .i64 131))) <|
 .m 20 0 <|
 .x 21 (.nilc (.v 20)) <|
 .x 22 (.fa 0 (.v 21)) <|
 .l 23 22 <|
 .m 24 3 <|
 .x 25 (.bin .mul (.v 24) (.c (.int .i64 7))) <|
 .x 26 (.bin .add (.v 25) (.c (.int .i64 3))) <|
 .m 27 0 <|
 .x 28 (.nilc (.v 27)) <|
 .x 29 (.fa 0 (.v 28)) <|
 .l 30 29 <|
 .x 31 (.lenV (.v 30)) <|
 .x 32 (.bin .rem (.v 26) (.v 31)) <|
 .x 33 (.ia 1 (.v 23) (.v 32)) <|
 .l 34 33 <|
 .x 35 (.conv .i64 (.v 34)) <|
 .x 36 (.bin .mul (.v 35) (.c (.int .i64 1117))) <|
 .x 37 (.bin .add (.v 19) (.v 36)) <|
 .m 38 3 <|
 .x 39 (.bin .mul (.v 38) (.c (.int .i64 29))) <|
 .x 40 (.bin .add (.v 37) (.v 39)) <|
 .m 41 3 <|
 .m 42 0 <|
 .x 43 (.nilc (.v 42)) <|
 .x 44 (.fa 0 (.v 43)) <|
 .l 45 44 <|
 .x 46 (.lenV (.v 45)) <|
 .x 47 (.bin .quo (.v 41) (.v 46)) <|
 .x 48 (.bin .mul (.v 47) (.c (.int .i64 53))) <|
 .x 49 (.bin .add (.v 40) (.v 48)) <|
 .m 4 49 .done) K59_2
abbrev K59_4:C:=.seq (.pl <| .e 5 10 <|
 .m 5 0 <|
 .x 6 (.nilc (.v 5)) <|
 .x 7 (.fa 0 (.v 6)) <|
 .l 8 7 <|
 .m 9 3 <|
 .x 10 (.ia 1 (.v 8) (.v 9)) <|
 .l 11 10 <|
 .x 12 (.conv .i64 (.v 11)) <|
 .m 13 1 <|
 .x 14 (.bin .rem (.v 12) (.v 13)) <|
 .m 2 14 .done) (.ret)
abbrev K59_5:C:=.cond 5 (.v 11) K59_4 (.skip)
abbrev K59_6:C:=.seq (.seq (.pl <| .e 5 7 <|
 .m 5 3 <|
 .m 6 0 <|
 .x 7 (.nilc (.v 6)) <|
 .x 8 (.fa 0 (.v 7)) <|
 .l 9 8 <|
 .x 10 (.lenV (.v 9)) <|
 .x 11 (.bin .lss (.v 5) (.v 10)) .done) K59_5) K59_3
abbrev K59_7:C:=.seq (.pl <| .e 5 5 <|
 .m 5 0 <|
 .x 6 (.nilc (.v 5)) <|
 .x 7 (.fa 1 (.v 6)) <|
 .l 8 7 <|
 .x 9 (.bin .sub (.v 8) (.c (.int .i64 1))) <|
 .m 3 9 .done) K59_6
abbrev K59_8:C:=.seq (.pl <| .e 5 0 <|
 .x 2 (.mv (.c (.int .i64 0))) .done) (.ret)
abbrev K59_9:C:=.cond 5 (.v 14) K59_8 (.skip)
abbrev K59_10:C:=.seq (.seq (.pl <| .e 5 10 <|
 .m 5 1 <|
 .x 6 (.bin .lss (.v 5) (.c (.int .i64 1))) <|
 .m 7 6 <|
 .n 7 (.px (some 8) (.mv (.v 0))) <|
 .n 7 (.px (some 9) (.nilc (.v 8))) <|
 .n 7 (.px (some 10) (.fa 0 (.v 9))) <|
 .n 7 (.ld (some 11) (.v 10) none) <|
 .n 7 (.px (some 12) (.lenV (.v 11))) <|
 .n 7 (.px (some 13) (.bin .eql (.v 12) (.c (.int .i64 0)))) <|
 .x 14 (.pick (.v 7) (.c (.bool true)) (.v 13)) .done) K59_9) K59_7
abbrev K59_11:C:=.seq (.pl <| .e 5 8 <|
 .m 5 0 <|
 .m 6 0 <|
 .x 7 (.nilc (.v 6)) <|
 .x 8 (.fa 1 (.v 7)) <|
 .l 9 8 <|
 .x 10 (.bin .add (.v 9) (.c (.int .i64 1))) <|
 .x 11 (.nilc (.v 5)) <|
 .x 12 (.fa 1 (.v 11)) <|
 .o (.ex none (.store 1 (.v 12) (.v 10))) .done) K59_10
abbrev B_spec_l16Rd_pick:C:=.seq (.pl <| .e 5 0 <|
 .x 2 (.mv (.c (.int .i64 0))) .done) K59_11
def R_spec_l16Rd_pick:FIR:=⟨B_spec_l16Rd_pick,5,[(2,none)]⟩
theorem IR_spec_l16Rd_pick:cfun Tryz.prog H_spec_l16Rd_pick Tryz.f59=some R_spec_l16Rd_pick:=by kernel_rfl
theorem EN_spec_l16Rd_pick:ENT Tryz.prog B_spec_l16Rd_pick [(2,none)] 2 5 fn_spec_l16Rd_pick:=fun hargs hw=>enter Tryz.func59 rfl IR_spec_l16Rd_pick hargs hw
def H_spec_l2Ints:Hint:=⟨[(0,false),(1,false),(4,false),(5,false)],[[2]]⟩
abbrev K141_1:C:=.seq (.pl <| .e 4 0 <|
 .x 2 (.mv (.c (.bool true))) .done) (.ret)
abbrev K141_2:C:=.pl <| .e 4 2 <|
 .m 4 3 <|
 .x 5 (.bin .add (.v 4) (.c (.int .i64 1))) <|
 .m 3 5 .done
abbrev K141_3:C:=.seq (.pl <| .e 4 0 <|
 .x 2 (.mv (.c (.bool false))) .done) (.ret)
abbrev K141_4:C:=.cond 4 (.v 12) K141_3 (.skip)
abbrev K141_5:C:=.seq (.block 1 (.seq (.pl <| .e 4 9 <|
 .m 4 0 <|
 .m 5 3 <|
 .x 6 (.ia 1 (.v 4) (.v 5)) <|
 .l 7 6 <|
 .m 8 1 <|
 .m 9 3 <|
 .x 10 (.ia 1 (.v 8) (.v 9)) <|
 .l 11 10 <|
 .x 12 (.bin .neq (.v 7) (.v 11)) .done) K141_4)) K141_2
abbrev K141_6:C:=.cond 4 (.v 7) (.skip) (.exit 0)
abbrev K141_7:C:=.seq (.seq (.pl <| .e 4 4 <|
 .m 4 3 <|
 .m 5 0 <|
 .x 6 (.lenV (.v 5)) <|
 .x 7 (.bin .lss (.v 4) (.v 6)) .done) K141_6) K141_5
abbrev K141_8:C:=.block 0 (.loop 4 [2] K141_7)
abbrev K141_9:C:=.seq (.seq (.pl <| .e 4 0 <|
 .x 3 (.mv (.c (.int .i64 0))) .done) K141_8) K141_1
abbrev K141_10:C:=.seq (.pl <| .e 4 0 <|
 .x 2 (.mv (.c (.bool false))) .done) (.ret)
abbrev K141_11:C:=.cond 4 (.v 8) K141_10 (.skip)
abbrev K141_12:C:=.seq (.seq (.pl <| .e 4 5 <|
 .m 4 0 <|
 .x 5 (.lenV (.v 4)) <|
 .m 6 1 <|
 .x 7 (.lenV (.v 6)) <|
 .x 8 (.bin .neq (.v 5) (.v 7)) .done) K141_11) K141_9
abbrev B_spec_l2Ints:C:=.seq (.pl <| .e 4 0 <|
 .x 2 (.mv (.c (.bool false))) .done) K141_12
def R_spec_l2Ints:FIR:=⟨B_spec_l2Ints,4,[(2,none)]⟩
theorem IR_spec_l2Ints:cfun Tryz.prog H_spec_l2Ints Tryz.f141=some R_spec_l2Ints:=by kernel_rfl
theorem EN_spec_l2Ints:ENT Tryz.prog B_spec_l2Ints [(2,none)] 2 4 fn_spec_l2Ints:=fun hargs hw=>enter Tryz.func141 rfl IR_spec_l2Ints hargs hw
def H_spec_l4In:Hint:=⟨[(0,false),(1,false),(4,false),(5,false)],[[2]]⟩
abbrev K147_1:C:=.seq (.pl <| .e 4 0 <|
 .x 2 (.mv (.c (.bool false))) .done) (.ret)
abbrev K147_2:C:=.pl <| .e 4 2 <|
 .m 4 3 <|
 .x 5 (.bin .add (.v 4) (.c (.int .i64 1))) <|
 .m 3 5 .done
abbrev K147_3:C:=.seq (.pl <| .e 4 0 <|
 .x 2 (.mv (.c (.bool true))) .done) (.ret)
abbrev K147_4:C:=.cond 4 (.v 9) K147_3 (.skip)
abbrev K147_5:C:=.seq (.block 1 (.seq (.pl <| .e 4 6 <|
 .m 4 0 <|
 .m 5 3 <|
 .x 6 (.ia 1 (.v 4) (.v 5)) <|
 .l 7 6 <|
 .m 8 1 <|
 .x 9 (.bin .eql (.v 7) (.v 8)) .done) K147_4)) K147_2
abbrev K147_6:C:=.cond 4 (.v 7) (.skip) (.exit 0)
abbrev K147_7:C:=.seq (.seq (.pl <| .e 4 4 <|
 .m 4 3 <|
 .m 5 0 <|
 .x 6 (.lenV (.v 5)) <|
 .x 7 (.bin .lss (.v 4) (.v 6)) .done) K147_6) K147_5
abbrev K147_8:C:=.block 0 (.loop 4 [2] K147_7)
abbrev K147_9:C:=.seq (.seq (.pl <| .e 4 0 <|
 .x 3 (.mv (.c (.int .i64 0))) .done) K147_8) K147_1
abbrev B_spec_l4In:C:=.seq (.pl <| .e 4 0 <|
 .x 2 (.mv (.c (.bool false))) .done) K147_9
def R_spec_l4In:FIR:=⟨B_spec_l4In,4,[(2,none)]⟩
theorem IR_spec_l4In:cfun Tryz.prog H_spec_l4In Tryz.f147=some R_spec_l4In:=by kernel_rfl
theorem EN_spec_l4In:ENT Tryz.prog B_spec_l4In [(2,none)] 2 4 fn_spec_l4In:=fun hargs hw=>enter Tryz.func147 rfl IR_spec_l4In hargs hw
def H_spec_l5Arity:Hint:=⟨[(0,false),(2,false),(3,false),(4,false),(7,false),(12,false)],[]⟩
abbrev K97_1:C:=.seq (.pl <| .e 6 0 <|
 .x 1 (.mv (.c (.int .i64 (-1)))) .done) (.ret)
abbrev K97_2:C:=.seq (.pl <| .e 6 0 <|
 .x 1 (.mv (.c (.int .i64 0))) .done) (.ret)
abbrev K97_3:C:=.seq (.pl <| .e 6 0 <|
 .x 1 (.mv (.c (.int .i64 1))) .done) (.ret)
abbrev K97_4:C:=.seq (.pl <| .e 6 0 <|
 .x 1 (.mv (.c (.int .i64 2))) .done) (.ret)
abbrev K97_5:C:=.cond 6 (.v 5) K97_4 (.skip)
abbrev K97_6:C:=.pl <| .e 6 1 <|
 .x 6 (.bin .eql (.v 2) (.c (.int .i64 8))) <|
 .m 5 6 .done
abbrev K97_7:C:=.cond 6 (.v 5) (.skip) K97_6
abbrev K97_8:C:=.seq (.pl <| .e 6 1 <|
 .x 6 (.bin .eql (.v 2) (.c (.int .i64 7))) <|
 .m 5 6 .done) K97_7
abbrev K97_9:C:=.cond 6 (.v 5) (.skip) K97_8
abbrev K97_10:C:=.seq (.pl <| .e 6 1 <|
 .x 6 (.bin .eql (.v 2) (.c (.int .i64 5))) <|
 .m 5 6 .done) K97_9
abbrev K97_11:C:=.cond 6 (.v 5) (.skip) K97_10
abbrev K97_12:C:=.seq (.seq (.pl <| .e 6 1 <|
 .x 6 (.bin .eql (.v 2) (.c (.int .i64 4))) <|
 .m 5 6 .done) K97_11) K97_5
abbrev K97_13:C:=.cond 6 (.v 4) K97_3 K97_12
abbrev K97_14:C:=.pl <| .e 6 1 <|
 .x 6 (.bin .eql (.v 2) (.c (.int .i64 10))) <|
 .m 4 6 .done
abbrev K97_15:C:=.cond 6 (.v 4) (.skip) K97_14
abbrev K97_16:C:=.seq (.pl <| .e 6 1 <|
 .x 6 (.bin .eql (.v 2) (.c (.int .i64 9))) <|
 .m 4 6 .done) K97_15
abbrev K97_17:C:=.cond 6 (.v 4) (.skip) K97_16
abbrev K97_18:C:=.seq (.pl <| .e 6 1 <|
 .x 6 (.bin .eql (.v 2) (.c (.int .i64 6))) <|
 .m 4 6 .done) K97_17
abbrev K97_19:C:=.cond 6 (.v 4) (.skip) K97_18
abbrev K97_20:C:=.seq (.seq (.pl <| .e 6 1 <|
 .x 6 (.bin .eql (.v 2) (.c (.int .i64 3))) <|
 .m 4 6 .done) K97_19) K97_13
abbrev K97_21:C:=.cond 6 (.v 3) K97_2 K97_20
abbrev K97_22:C:=.pl <| .e 6 1 <|
 .x 6 (.bin .eql (.v 2) (.c (.int .i64 2))) <|
 .m 3 6 .done
abbrev K97_23:C:=.cond 6 (.v 3) (.skip) K97_22
abbrev K97_24:C:=.block 0 (.seq (.seq (.pl <| .e 6 1 <|
 .x 6 (.bin .eql (.v 2) (.c (.int .i64 1))) <|
 .m 3 6 .done) K97_23) K97_21)
abbrev K97_25:C:=.seq (.seq (.pl <| .e 6 0 <|
 .m 2 0 .done) K97_24) K97_1
abbrev B_spec_l5Arity:C:=.seq (.pl <| .e 6 0 <|
 .x 1 (.mv (.c (.int .i64 0))) .done) K97_25
def R_spec_l5Arity:FIR:=⟨B_spec_l5Arity,6,[(1,none)]⟩
theorem IR_spec_l5Arity:cfun Tryz.prog H_spec_l5Arity Tryz.f97=some R_spec_l5Arity:=by kernel_rfl
theorem EN_spec_l5Arity:ENT Tryz.prog B_spec_l5Arity [(1,none)] 1 6 fn_spec_l5Arity:=fun hargs hw=>enter Tryz.func97 rfl IR_spec_l5Arity hargs hw
def H_spec_l5Copy:Hint:=⟨[(0,false),(1,true),(2,true),(3,true),(4,false)],[[0]]⟩
abbrev K58_1:C:=.seq (.pl <| .e 5 1 <|
 .o (.pget (some 5) none 3 0 (some 3)) <|
 .o (.pset none 2 0 3 (.v 5)) .done) (.ret)
abbrev K58_2:C:=.pl <| .e 5 2 <|
 .m 5 4 <|
 .x 6 (.bin .add (.v 5) (.c (.int .i64 1))) <|
 .m 4 6 .done
abbrev K58_3:Pl:=.a 15 3 <|
 .o (.pset (some 15) 3 2 1 (.v 14)) .done
abbrev K58_4:Pl:=.o (.psl 13 [.int .i64 0,.int .i64 0,.slice none 0 0] [(0,3,.v 12)]) <|
 .c 14 (.app 40 3 [.int .i64 0,.int .i64 0,.slice none 0 0] (.o (.v 6)) (.p 1 13)) K58_3
abbrev K58_5:C:=.seq (.block 1 (.pl <| .e 5 11 <|
 .a 5 3 <|
 .g 6 5 3 2 <|
 .a 7 1 <|
 .g 8 7 1 2 <|
 .m 9 4 <|
 .x 10 (.ia 3 (.v 8) (.v 9)) <|
 .o (.ld (some 11) (.v 10) (some 3)) <|
 .c 12 (.call fn_spec_l5Copy [.v 11]) K58_4)) K58_2
abbrev K58_6:C:=.cond 5 (.v 9) (.skip) (.exit 0)
abbrev K58_7:C:=.seq (.seq (.pl <| .e 5 5 <|
 .m 5 4 <|
 .a 6 1 <|
 .g 7 6 1 2 <|
 .x 8 (.lenV (.v 7)) <|
 .x 9 (.bin .lss (.v 5) (.v 8)) .done) K58_6) K58_5
abbrev K58_8:C:=.block 0 (.loop 5 [0] K58_7)
abbrev K58_9:C:=.seq (.seq (.pl <| .e 5 0 <|
 .x 4 (.mv (.c (.int .i64 0))) .done) K58_8) K58_1
abbrev K58_10:C:=.seq (.pl <| .e 5 5 <|
 .a 5 1 <|
 .g 6 5 1 0 <|
 .a 7 1 <|
 .g 8 7 1 1 <|
 .x 9 (.build [.int .i64 0,.int .i64 0,.slice none 0 0] [(0,1,.v 6),(1,1,.v 8)]) <|
 .o (.pnew 3 (.c (.agg #[.int .i64 0,.int .i64 0,.slice none 0 0])) []) <|
 .o (.pset none 3 0 3 (.v 9)) .done) K58_9
abbrev B_spec_l5Copy:C:=.seq (.pl <| .e 5 0 <|
 .o (.pnew 1 (.v 0) []) <|
 .o (.pnew 2 (.c (.agg #[.int .i64 0,.int .i64 0,.slice none 0 0])) []) .done) K58_10
def R_spec_l5Copy:FIR:=⟨B_spec_l5Copy,5,[(2,some (some 3))]⟩
theorem IR_spec_l5Copy:cfun Tryz.prog H_spec_l5Copy Tryz.f58=some R_spec_l5Copy:=by kernel_rfl
theorem EN_spec_l5Copy:ENT Tryz.prog B_spec_l5Copy [(2,some (some 3))] 1 5 fn_spec_l5Copy:=fun hargs hw=>enter Tryz.func58 rfl IR_spec_l5Copy hargs hw
def H_spec_l5Count:Hint:=⟨[(0,false),(1,false),(2,true),(4,false),(5,false),(6,false)],[[0,3]]⟩
abbrev K53_1:C:=.seq (.pl <| .e 6 1 <|
 .m 6 4 <|
 .m 3 6 .done) (.ret)
abbrev K53_2:C:=.pl <| .e 6 2 <|
 .m 6 5 <|
 .x 7 (.bin .add (.v 6) (.c (.int .i64 1))) <|
 .m 5 7 .done
abbrev K53_3:Pl:=.x 15 (.bin .add (.v 6) (.v 14)) <|
 .m 4 15 .done
abbrev K53_4:C:=.seq (.block 1 (.pl <| .e 6 10 <|
 .m 6 4 <|
 .a 7 2 <|
 .g 8 7 2 2 <|
 .m 9 5 <|
 .x 10 (.ia 3 (.v 8) (.v 9)) <|
 .o (.ld (some 11) (.v 10) (some 3)) <|
 .m 12 1 <|
 .x 13 (.bin .sub (.v 12) (.c (.int .i64 1))) <|
 .c 14 (.call fn_spec_l5Count [.v 11,.v 13]) K53_3)) K53_2
abbrev K53_5:C:=.cond 6 (.v 14) (.skip) (.exit 0)
abbrev K53_6:C:=.seq (.seq (.pl <| .e 6 9 <|
 .m 6 5 <|
 .a 7 2 <|
 .g 8 7 2 2 <|
 .x 9 (.lenV (.v 8)) <|
 .x 10 (.bin .lss (.v 6) (.v 9)) <|
 .m 11 10 <|
 .y 11 (.px (some 12) (.mv (.v 1))) <|
 .y 11 (.px (some 13) (.bin .gtr (.v 12) (.c (.int .i64 0)))) <|
 .x 14 (.pick (.v 11) (.v 13) (.c (.bool false))) .done) K53_5) K53_4
abbrev K53_7:C:=.block 0 (.loop 6 [0,3] K53_6)
abbrev K53_8:C:=.seq (.seq (.pl <| .e 6 0 <|
 .x 5 (.mv (.c (.int .i64 0))) .done) K53_7) K53_1
abbrev K53_9:C:=.seq (.pl <| .e 6 0 <|
 .x 4 (.mv (.c (.int .i64 1))) .done) K53_8
abbrev B_spec_l5Count:C:=.seq (.pl <| .e 6 0 <|
 .o (.pnew 2 (.v 0) []) <|
 .x 3 (.mv (.c (.int .i64 0))) .done) K53_9
def R_spec_l5Count:FIR:=⟨B_spec_l5Count,6,[(3,none)]⟩
theorem IR_spec_l5Count:cfun Tryz.prog H_spec_l5Count Tryz.f53=some R_spec_l5Count:=by kernel_rfl
theorem EN_spec_l5Count:ENT Tryz.prog B_spec_l5Count [(3,none)] 2 6 fn_spec_l5Count:=fun hargs hw=>enter Tryz.func53 rfl IR_spec_l5Count hargs hw
def H_spec_l5Dual:Hint:=⟨[(0,false),(2,false),(3,false)],[]⟩
abbrev K166_1:C:=.seq (.pl <| .e 3 0 <|
 .x 1 (.mv (.c (.int .i64 7))) .done) (.ret)
abbrev K166_2:C:=.seq (.pl <| .e 3 0 <|
 .x 1 (.mv (.c (.int .i64 5))) .done) (.ret)
abbrev K166_3:C:=.seq (.pl <| .e 3 0 <|
 .x 1 (.mv (.c (.int .i64 4))) .done) (.ret)
abbrev K166_4:C:=.seq (.pl <| .e 3 0 <|
 .x 1 (.mv (.c (.int .i64 8))) .done) (.ret)
abbrev K166_5:C:=.cond 3 (.v 4) K166_4 (.skip)
abbrev K166_6:C:=.seq (.pl <| .e 3 2 <|
 .x 3 (.bin .eql (.v 2) (.c (.int .i64 7))) <|
 .m 4 3 .done) K166_5
abbrev K166_7:C:=.cond 3 (.v 4) K166_3 K166_6
abbrev K166_8:C:=.seq (.pl <| .e 3 2 <|
 .x 3 (.bin .eql (.v 2) (.c (.int .i64 5))) <|
 .m 4 3 .done) K166_7
abbrev K166_9:C:=.cond 3 (.v 4) K166_2 K166_8
abbrev K166_10:C:=.block 0 (.seq (.pl <| .e 3 2 <|
 .x 3 (.bin .eql (.v 2) (.c (.int .i64 4))) <|
 .m 4 3 .done) K166_9)
abbrev K166_11:C:=.seq (.seq (.pl <| .e 3 0 <|
 .m 2 0 .done) K166_10) K166_1
abbrev B_spec_l5Dual:C:=.seq (.pl <| .e 3 0 <|
 .x 1 (.mv (.c (.int .i64 0))) .done) K166_11
def R_spec_l5Dual:FIR:=⟨B_spec_l5Dual,3,[(1,none)]⟩
theorem IR_spec_l5Dual:cfun Tryz.prog H_spec_l5Dual Tryz.f166=some R_spec_l5Dual:=by kernel_rfl
theorem EN_spec_l5Dual:ENT Tryz.prog B_spec_l5Dual [(1,none)] 1 3 fn_spec_l5Dual:=fun hargs hw=>enter Tryz.func166 rfl IR_spec_l5Dual hargs hw
def H_spec_l5Find:Hint:=⟨[(0,false),(1,false),(3,true),(4,false),(5,false)],[[1,3]]⟩
abbrev K139_1:C:=.seq (.pl <| .e 5 0 <|
 .x 3 (.mv (.c (.int .i64 (-1)))) .done) (.ret)
abbrev K139_2:C:=.pl <| .e 5 2 <|
 .m 5 4 <|
 .x 6 (.bin .add (.v 5) (.c (.int .i64 1))) <|
 .m 4 6 .done
abbrev K139_3:C:=.seq (.pl <| .e 5 1 <|
 .m 5 4 <|
 .m 3 5 .done) (.ret)
abbrev K139_4:C:=.cond 5 (.v 10) K139_3 (.skip)
abbrev K139_5:C:=.seq (.block 1 (.seq (.pl <| .e 5 6 <|
 .m 5 0 <|
 .m 6 4 <|
 .x 7 (.ia 3 (.v 5) (.v 6)) <|
 .o (.ld (some 8) (.v 7) (some 3)) <|
 .o (.pget (some 9) none 2 0 (some 3)) <|
 .c 10 (.call fn_spec_FormulaSame [.v 8,.v 9]) .done) K139_4)) K139_2
abbrev K139_6:C:=.cond 5 (.v 8) (.skip) (.exit 0)
abbrev K139_7:C:=.seq (.seq (.pl <| .e 5 4 <|
 .m 5 4 <|
 .m 6 0 <|
 .x 7 (.lenV (.v 6)) <|
 .x 8 (.bin .lss (.v 5) (.v 7)) .done) K139_6) K139_5
abbrev K139_8:C:=.block 0 (.loop 5 [1,3] K139_7)
abbrev K139_9:C:=.seq (.seq (.pl <| .e 5 0 <|
 .x 4 (.mv (.c (.int .i64 0))) .done) K139_8) K139_1
abbrev B_spec_l5Find:C:=.seq (.pl <| .e 5 0 <|
 .o (.pnew 2 (.v 1) []) <|
 .x 3 (.mv (.c (.int .i64 0))) .done) K139_9
def R_spec_l5Find:FIR:=⟨B_spec_l5Find,5,[(3,none)]⟩
theorem IR_spec_l5Find:cfun Tryz.prog H_spec_l5Find Tryz.f139=some R_spec_l5Find:=by kernel_rfl
theorem EN_spec_l5Find:ENT Tryz.prog B_spec_l5Find [(3,none)] 2 5 fn_spec_l5Find:=fun hargs hw=>enter Tryz.func139 rfl IR_spec_l5Find hargs hw
def H_spec_l5Formula:Hint:=⟨[(0,false),(2,true),(3,true)],[]⟩
abbrev K26_1:Pl:=.x 5 (.build [.int .i64 0,.int .i64 0,.slice none 0 0] [(0,1,.c (.int .i64 10)),(2,1,.v 4)]) <|
 .o (.pset none 1 0 3 (.v 5)) .done
abbrev K26_2:C:=.seq (.pl <| .e 3 3 <|
 .x 3 (.build [.int .i64 0,.int .i64 0,.slice none 0 0] [(0,1,.c (.int .i64 2))]) <|
 .c 4 (.bls 3 1 [.int .i64 0,.int .i64 0,.slice none 0 0] [(0,3,.v 3)]) K26_1) (.ret)
abbrev K26_3:C:=.seq (.pl <| .e 3 1 <|
 .o (.pget (some 3) none 2 0 (some 3)) <|
 .o (.pset none 1 0 3 (.v 3)) .done) (.ret)
abbrev K26_4:C:=.cond 3 (.v 4) K26_3 (.skip)
abbrev K26_5:C:=.seq (.seq (.pl <| .e 3 2 <|
 .o (.pget (some 3) none 2 0 (some 3)) <|
 .c 4 (.call fn_spec_FormulaValid [.v 3]) .done) K26_4) K26_2
abbrev K26_6:Pl:=.o (.pnew 2 (.c (.agg #[.int .i64 0,.int .i64 0,.slice none 0 0])) []) <|
 .o (.pset none 2 0 3 (.v 7)) .done
abbrev K26_7:Pl:=.c 7 (.call fn_spec_l5Random [.v 3,.v 6]) K26_6
abbrev K26_8:Pl:=.c 6 (.call fn_spec_l16Rd_num [.v 4,.v 5]) K26_7
abbrev K26_9:C:=.seq (.pl <| .e 3 5 <|
 .m 3 0 <|
 .m 4 0 <|
 .c 5 (.bls 1 4 [.int .i64 0] [(0,1,.c (.int .i64 3)),(1,1,.c (.int .i64 2)),(2,1,.c (.int .i64 4)),(3,1,.c (.int .i64 3))]) K26_8) K26_5
abbrev B_spec_l5Formula:C:=.seq (.pl <| .e 3 0 <|
 .o (.pnew 1 (.c (.agg #[.int .i64 0,.int .i64 0,.slice none 0 0])) []) .done) K26_9
def R_spec_l5Formula:FIR:=⟨B_spec_l5Formula,3,[(1,some (some 3))]⟩
theorem IR_spec_l5Formula:cfun Tryz.prog H_spec_l5Formula Tryz.f26=some R_spec_l5Formula:=by kernel_rfl
theorem EN_spec_l5Formula:ENT Tryz.prog B_spec_l5Formula [(1,some (some 3))] 1 3 fn_spec_l5Formula:=fun hargs hw=>enter Tryz.func26 rfl IR_spec_l5Formula hargs hw
def H_spec_l5Mutate:Hint:=⟨[(0,false),(1,false),(3,true),(4,true),(5,true),(9,false)],[]⟩
abbrev K25_1:C:=.seq (.pl <| .e 6 1 <|
 .o (.pget (some 6) none 4 0 (some 3)) <|
 .o (.pset none 3 0 3 (.v 6)) .done) (.ret)
abbrev K25_2:Pl:=.a 9 4 <|
 .o (.pset (some 9) 4 0 1 (.v 8)) .done
abbrev K25_3:Pl:=.c 8 (.call fn_spec_l16Rd_num [.v 6,.v 7]) K25_2
abbrev K25_4:C:=.pl <| .e 6 4 <|
 .m 6 0 <|
 .c 7 (.bls 1 6 [.int .i64 0] [(0,1,.c (.int .i64 0)),(1,1,.c (.int .i64 11)),(2,1,.c (.int .i64 (-1))),(3,1,.c (.int .i64 2)),(4,1,.c (.int .i64 3)),(5,1,.c (.int .i64 4))]) K25_3
abbrev K25_5:Pl:=.a 9 4 <|
 .o (.pset (some 9) 4 1 1 (.v 8)) .done
abbrev K25_6:Pl:=.c 8 (.call fn_spec_l16Rd_num [.v 6,.v 7]) K25_5
abbrev K25_7:C:=.pl <| .e 6 4 <|
 .m 6 0 <|
 .c 7 (.bls 1 4 [.int .i64 0] [(0,1,.c (.int .i64 (-1))),(1,1,.c (.int .i64 3)),(2,1,.c (.int .i64 2)),(3,1,.c (.int .i64 9223372036854775807))]) K25_6
abbrev K25_8:Pl:=.a 11 4 <|
 .o (.pset (some 11) 4 2 1 (.v 10)) .done
abbrev K25_9:Pl:=.o (.psl 9 [.int .i64 0,.int .i64 0,.slice none 0 0] [(0,3,.v 8)]) <|
 .c 10 (.app 40 3 [.int .i64 0,.int .i64 0,.slice none 0 0] (.o (.v 7)) (.p 1 9)) K25_8
abbrev K25_10:C:=.pl <| .e 6 6 <|
 .a 6 4 <|
 .g 7 6 4 2 <|
 .c 8 (.call fn_spec_l5True []) K25_9
abbrev K25_11:C:=.seq (.pl <| .e 6 1 <|
 .x 6 (.build [.int .i64 0,.int .i64 0,.slice none 0 0] []) <|
 .o (.pset none 3 0 3 (.v 6)) .done) (.ret)
abbrev K25_12:C:=.cond 6 (.v 7) K25_11 (.skip)
abbrev K25_13:C:=.seq (.pl <| .e 6 2 <|
 .x 6 (.bin .eql (.v 5) (.c (.int .i64 3))) <|
 .m 7 6 .done) K25_12
abbrev K25_14:C:=.cond 6 (.v 7) K25_10 K25_13
abbrev K25_15:C:=.seq (.pl <| .e 6 2 <|
 .x 6 (.bin .eql (.v 5) (.c (.int .i64 2))) <|
 .m 7 6 .done) K25_14
abbrev K25_16:C:=.cond 6 (.v 7) K25_7 K25_15
abbrev K25_17:C:=.seq (.pl <| .e 6 2 <|
 .x 6 (.bin .eql (.v 5) (.c (.int .i64 1))) <|
 .m 7 6 .done) K25_16
abbrev K25_18:C:=.cond 6 (.v 7) K25_4 K25_17
abbrev K25_19:C:=.block 0 (.seq (.pl <| .e 6 2 <|
 .x 6 (.bin .eql (.v 5) (.c (.int .i64 0))) <|
 .m 7 6 .done) K25_18)
abbrev K25_20:C:=.seq (.seq (.pl <| .e 6 1 <|
 .m 6 0 <|
 .c 5 (.call fn_spec_l16Rd_pick [.v 6,.c (.int .i64 50)]) .done) K25_19) K25_1
abbrev K25_21:Pl:=.o (.pnew 4 (.c (.agg #[.int .i64 0,.int .i64 0,.slice none 0 0])) []) <|
 .o (.pset none 4 0 3 (.v 7)) .done
abbrev K25_22:C:=.seq (.pl <| .e 6 2 <|
 .o (.pget (some 6) none 2 0 (some 3)) <|
 .c 7 (.call fn_spec_l5Copy [.v 6]) K25_21) K25_20
abbrev B_spec_l5Mutate:C:=.seq (.pl <| .e 6 0 <|
 .o (.pnew 2 (.v 1) []) <|
 .o (.pnew 3 (.c (.agg #[.int .i64 0,.int .i64 0,.slice none 0 0])) []) .done) K25_22
def R_spec_l5Mutate:FIR:=⟨B_spec_l5Mutate,6,[(3,some (some 3))]⟩
theorem IR_spec_l5Mutate:cfun Tryz.prog H_spec_l5Mutate Tryz.f25=some R_spec_l5Mutate:=by kernel_rfl
theorem EN_spec_l5Mutate:ENT Tryz.prog B_spec_l5Mutate [(3,some (some 3))] 2 6 fn_spec_l5Mutate:=fun hargs hw=>enter Tryz.func25 rfl IR_spec_l5Mutate hargs hw
def H_spec_l5Not:Hint:=⟨[(0,false),(1,true),(2,true)],[]⟩
abbrev K142_1:Pl:=.x 5 (.build [.int .i64 0,.int .i64 0,.slice none 0 0] [(0,1,.c (.int .i64 3)),(2,1,.v 4)]) <|
 .o (.pset none 2 0 3 (.v 5)) .done
abbrev K142_2:C:=.seq (.pl <| .e 3 3 <|
 .o (.pget (some 3) none 1 0 (some 3)) <|
 .c 4 (.bls 3 1 [.int .i64 0,.int .i64 0,.slice none 0 0] [(0,3,.v 3)]) K142_1) (.ret)
abbrev B_spec_l5Not:C:=.seq (.pl <| .e 3 0 <|
 .o (.pnew 1 (.v 0) []) <|
 .o (.pnew 2 (.c (.agg #[.int .i64 0,.int .i64 0,.slice none 0 0])) []) .done) K142_2
def R_spec_l5Not:FIR:=⟨B_spec_l5Not,3,[(2,some (some 3))]⟩
theorem IR_spec_l5Not:cfun Tryz.prog H_spec_l5Not Tryz.f142=some R_spec_l5Not:=by kernel_rfl
theorem EN_spec_l5Not:ENT Tryz.prog B_spec_l5Not [(2,some (some 3))] 1 3 fn_spec_l5Not:=fun hargs hw=>enter Tryz.func142 rfl IR_spec_l5Not hargs hw
section
variable {α:Type} [Ty α] {h:Heap}{v:Value}
theorem Rep.X {l:List α}(hr:Rep h v l) {n:Nat}(hn:n=Ty.sz α):(∀(kd:IntKind) (i:Nat),i<l.length→iaV n v (.int kd i)=some (elp n v i))∧(∀(kd:IntKind) (i:Int),0≤i→i<l.length→iaV n v (.int kd i)=some (elp n v i.toNat))∧lenVV v=some (.int .i64 l.length):=
 ⟨fun _ _ h1=>hr.ian hn h1,fun _ _ h0 h1=>hr.ia' hn h0 h1,hr.len⟩
end
section
variable {h:Heap}{v:Value}
theorem Rep.I {l:List Int}(hr:Rep h v l):((∀(kd:IntKind) (i:Nat),i<l.length→iaV 1 v (.int kd i)=some (elp 1 v i))∧(∀(kd:IntKind) (i:Int),0≤i→i<l.length→iaV 1 v (.int kd i)=some (elp 1 v i.toNat))∧lenVV v=some (.int .i64 l.length)) ∧
  ∀(i:Nat) (hi:i<l.length),hload h (some (elp 1 v i)) none=some (.int .i64 l[i]):=⟨hr.X rfl,fun _ hi=>hr.ldI hi⟩
theorem Rep.B {l:List Bool}(hr:Rep h v l):((∀(kd:IntKind) (i:Nat),i<l.length→iaV 1 v (.int kd i)=some (elp 1 v i))∧(∀(kd:IntKind) (i:Int),0≤i→i<l.length→iaV 1 v (.int kd i)=some (elp 1 v i.toNat))∧lenVV v=some (.int .i64 l.length)) ∧
  ∀(i:Nat) (hi:i<l.length),hload h (some (elp 1 v i)) none=some (.bool l[i]):=⟨hr.X rfl,fun _ hi=>hr.ldB hi⟩
theorem Rep.S {l:List ByteArray}(hr:Rep h v l):((∀(kd:IntKind) (i:Nat),i<l.length→iaV 1 v (.int kd i)=some (elp 1 v i))∧(∀(kd:IntKind) (i:Int),0≤i→i<l.length→iaV 1 v (.int kd i)=some (elp 1 v i.toNat))∧lenVV v=some (.int .i64 l.length)) ∧
  ∀(i:Nat) (hi:i<l.length),hload h (some (elp 1 v i)) none=some (.string l[i]):=⟨hr.X rfl,fun _ hi=>hr.ldS hi⟩
theorem Rep.U {l:List (BitVec 64)}(hr:Rep h v l):((∀(kd:IntKind) (i:Nat),i<l.length→iaV 1 v (.int kd i)=some (elp 1 v i))∧(∀(kd:IntKind) (i:Int),0≤i→i<l.length→iaV 1 v (.int kd i)=some (elp 1 v i.toNat))∧lenVV v=some (.int .i64 l.length)) ∧
  ∀(i:Nat) (hi:i<l.length),hload h (some (elp 1 v i)) none=some (.int .u64 l[i].toNat):=⟨hr.X rfl,fun _ hi=>hr.ldU hi⟩
theorem Rep.ldL {α:Type} [Ty α] {l:List (List α)}(hr:Rep h v l) {i:Nat}(hi:i<l.length):∃u,hload h (some (elp 1 v i)) none=some u∧Rep h u l[i]:=hr.ld hi
end
theorem IteW.mkr {p A B:Prop}(h2:¬p→B) (h1:p→A):IteW p A B:=⟨h1,h2⟩
theorem wp_while {P:Program}{Q:Ex→Env→Heap→Prop}{e:Env}{h:Heap}{n:Nat}{fg:List Nat}{a:C}{σ:Type}(Enc:σ→Env→Heap→Prop) (m:σ→Nat) (s0:σ) (h0:Enc s0 (efgt (e.take n) fg) h)
  (hs:∀(J:Env→Heap→Prop) s e h,(∀s' e h,m s'<m s→Enc s' e h→J e h)→Enc s e h→a.wp P (loopQ n fg J Q) e h):(C.loop n fg a).wp P Q e h:=by
 refine wp_loop (fun k e h=>∃s,m s=k∧Enc s e h) ⟨_,s0,rfl,h0⟩ ?_
 rintro I' k e h hI ⟨s,rfl,hE⟩
 exact hs I' s e h (fun s' e h hlt hE=>hI (m s') e h hlt ⟨s',rfl,hE⟩) hE
theorem own1 {α:Type} [Ty α] (ha:Ty.agg α=false) {r:Heap}{cs:List Value}{x:α}:Ty.own r cs x↔∃v,cs=[v]∧Own r v x:=by
 constructor
 ·intro ho
  have hl:=Ty.len (Ty.own_rep ho)
  rw[Ty.one ha] at hl
  match cs,hl with
  | [v],_=>exact⟨v,rfl,[v],by simp[valC,ha],ho⟩
 ·rintro⟨v,rfl,c,h1,h2⟩
  have hl:=Ty.len (Ty.own_rep h2)
  rw[Ty.one ha] at hl
  match c,hl with
  | [u],_=>simp[valC,ha] at h1;subst h1;exact h2
theorem rep1 {α:Type} [Ty α] (ha:Ty.agg α=false) {r:Heap}{cs:List Value}{x:α}:Ty.rep r cs x↔∃v,cs=[v]∧Rep r v x:=by
 constructor
 ·intro ho
  have hl:=Ty.len ho
  rw[Ty.one ha] at hl
  match cs,hl with
  | [v],_=>exact⟨v,rfl,[v],by simp[valC,ha],ho⟩
 ·rintro⟨v,rfl,c,h1,h2⟩
  have hl:=Ty.len h2
  rw[Ty.one ha] at hl
  match c,hl with
  | [u],_=>simp[valC,ha] at h1;subst h1;exact h2
section
variable {α:Type} [Ty α] {h:Heap}{v:Value}{l:List α}{i:Nat}
theorem Rep.fld [Flat α] (hr:Rep h v l) (hi:i<l.length) {n j:Nat}(hn:n=Ty.sz α) {u:Value}(hj:(Flat.enc l[i])[j]? = some u):hload h (some (elpo n v i j)) none=some u:=by
 subst hn
 obtain⟨p,cap,rfl,hc,hp,hl⟩:=Rep_list.1 hr
 obtain⟨b,off,vs,rfl,h1,h2⟩:=hl i hi
 rw[← (Flat.rep_iff.1 h2).1] at hj
 have:=(hcells_get h1).2 j u hj
 simp[elpo,add_none,hload,this]
end
theorem Rep.A {α:Type} [Ty α] {h:Heap}{v:Value}{x:α}(hr:Rep h v x) (ha:Ty.agg α=true) {n:Nat}(hn:n=Ty.sz α):pgetV (some v) 0 (some n)=some v∧v.cells.size=n∧allOne v.cells.toList=true∧Value.agg v.cells=v:=by
 obtain⟨cs,rfl,h1⟩:=hr
 have h2:=Ty.len h1
 have h3:=Ty.cell h1
 subst hn
 simp only[valC,ha,if_true]
 refine⟨?_,by simpa using h2,?_,rfl⟩
 ·simp[h2]
 ·rw[← allOne_eq];simpa using h3
def owC {α:Type} [Ty α] (cs:List Value) (x:α):HP:=fun r=>Ty.own r cs x
section
variable {g h:Heap}{Γ:List HP}
theorem HS.join2 {p p1 p2:HP}(H:HS g (p1::p2::Γ) h) (hp:∀r1 r2,Dj r1 r2→p1 r1→p2 r2→p (r1.add r2)):HS g (p::Γ) h:=by
 obtain⟨g1,r1,rfl,d1,h1,g',r2,rfl,d2,h2,H⟩:=H
 obtain⟨d3,d4⟩:=add_Dj.1 d1
 refine⟨g',r1.add r2,?_,Dj_add.2 ⟨d3,d2⟩,hp r1 r2 d4.symm h1 h2,H⟩
 rw[add_assoc,d4.comm]
theorem HS.unvia {α β:Type} [Ty β] (f:α→β) {v:Value}{x:α}(H:HS g (@ow α (Ty.via f) v x::Γ) h):∃cs:List Value,v=.agg cs.toArray∧HS g (owC cs (f x)::Γ) h:=by
 obtain⟨g',r,rfl,d,⟨cs,rfl,ho⟩,H⟩:=H
 exact⟨cs,rfl,g',r,rfl,d,ho,H⟩
theorem HS.via {α β:Type} [Ty β] (f:α→β) {cs:List Value}{x:α}(H:HS g (owC cs (f x)::Γ) h):HS g (@ow α (Ty.via f) (.agg cs.toArray) x::Γ) h:=
 H.imp fun _ ho=>⟨cs,rfl,ho⟩
theorem HS.unprod {α β:Type} [Ty α] [Ty β] {cs:List Value}{x:α}{y:β}(H:HS g (owC cs (x,y)::Γ) h):∃c1 c2,cs=c1++c2∧HS g (owC c1 x::owC c2 y::Γ) h:=by
 obtain⟨g',r,rfl,d,⟨c1,c2,r1,r2,rfl,rfl,d2,h1,h2⟩,H⟩:=H
 obtain⟨d3,d4⟩:=Dj_add.1 d
 exact⟨c1,c2,rfl,g'.add r2,r1,by rw[add_assoc,d2.comm],add_Dj.2 ⟨d3,d2.symm⟩,h1,g',r2,rfl,d4,h2,H⟩
theorem HS.unone {α:Type} [Ty α] (ha:Ty.agg α=false) {cs:List Value}{x:α}(H:HS g (owC cs x::Γ) h):∃v,cs=[v]∧HS g (ow v x::Γ) h:=by
 obtain⟨g',r,rfl,d,ho,H⟩:=H
 have ho2:Ty.own r cs x:=ho
 obtain⟨v,rfl,h3⟩:=(own1 ha).1 ho2
 exact⟨v,rfl,g',r,rfl,d,h3,H⟩
theorem HS.one {α:Type} [Ty α] (ha:Ty.agg α=false) {v:Value}{x:α}(H:HS g (ow v x::Γ) h):HS g (owC [v] x::Γ) h:=H.imp fun _ ho=>(own1 ha).2 ⟨v,rfl,ho⟩
theorem HS.prod {α β:Type} [Ty α] [Ty β] (ha:Ty.agg α=false) {v:Value}{cs:List Value}{x:α}{y:β}(H:HS g (ow v x::owC cs y::Γ) h):HS g (owC (v::cs) (x,y)::Γ) h:=
 H.join2 fun r1 r2 d h1 h2=>⟨[v],cs,r1,r2,rfl,rfl,d,(own1 ha).2 ⟨v,rfl,h1⟩,h2⟩
end
class Sz (α:Type) where
 sz:α→Nat
instance:Sz Int:=⟨fun _=>0⟩
instance:Sz Bool:=⟨fun _=>0⟩
def szL {α:Type} [Sz α]:List α→Nat
 | []=>0
 | x::l=>Sz.sz x+szL l
instance instSzList {α:Type} [Sz α]:Sz (List α):=⟨fun l=>l.length+szL l⟩
theorem sz_list {α:Type} [Sz α] (l:List α):Sz.sz l=l.length+szL l:=rfl
theorem szL_get {α:Type} [Sz α]:∀{l:List α}{i:Nat}(hi:i<l.length),Sz.sz l[i]≤szL l
 | x::l,0,_=>by simp[szL]
 | x::l,i+1,hi=>by
  have:=szL_get (l:=l) (i:=i) (by simpa using hi)
  simp[szL];omega
class Mk (α:Type) where
 cnt:α→Nat
 wr:Int→α→α
 cnt_wr:∀k x,cnt (wr k x)=cnt x
 wr_wr:∀k j x,wr k (wr j x)=wr k x
def cntL {α:Type} [Mk α]:List α→Nat
 | []=>0
 | x::l=>Mk.cnt x+cntL l
def mkL {α:Type} [Mk α]:Int→List α→List α
 | _,[]=>[]
 | k,x::l=>Mk.wr k x::mkL (k+Mk.cnt x) l
section
variable {α:Type} [Mk α]
theorem cntL_mk:∀(k:Int) (l:List α),cntL (mkL k l)=cntL l
 | _,[]=>rfl
 | k,x::l=>by simp[cntL,mkL,Mk.cnt_wr,cntL_mk (k+Mk.cnt x) l]
theorem mkL_mk:∀(k j:Int) (l:List α),mkL k (mkL j l)=mkL k l
 | _,_,[]=>rfl
 | k,j,x::l=>by simp[mkL,Mk.cnt_wr,Mk.wr_wr,mkL_mk (k+Mk.cnt x) (j+Mk.cnt x) l]
@[simp] theorem mkL_length:∀(k:Int) (l:List α),(mkL k l).length=l.length
 | _,[]=>rfl
 | k,x::l=>by simp[mkL,mkL_length (k+Mk.cnt x) l]
theorem mkL_get:∀(k:Int) (l:List α) (i:Nat) (hi:i<l.length),(mkL k l)[i]'(by simpa using hi)=Mk.wr (k+cntL (l.take i)) l[i]
 | _,[],i,hi=>by simp at hi
 | k,x::l,0,_=>by simp[mkL,cntL]
 | k,x::l,i+1,hi=>by
  simp only[mkL,List.getElem_cons_succ,List.take_succ_cons,cntL]
  rw[mkL_get (k+Mk.cnt x) l i (by simpa using hi)]
  congr 1
  push_cast
  omega
instance instMkList:Mk (List α):=⟨cntL,mkL,cntL_mk,mkL_mk⟩
end
instance instMkInt:Mk Int:=⟨fun _=>1,fun k _=>k,fun _ _=>rfl,fun _ _ _=>rfl⟩
instance instMkBool:Mk Bool:=⟨fun _=>1,fun k _=>decide (k.tmod 3=0),fun _ _=>rfl,fun _ _ _=>rfl⟩
structure Mkd {α:Type} [Mk α] (k:Int) (x y:List α) (i:Nat):Prop where
 len:y.length=x.length
 done:y.take i=(mkL k x).take i
 rest:y.drop i=x.drop i
section
variable {α:Type} [Mk α] {k:Int}{x y:List α}{i:Nat}
theorem Mkd.zero:Mkd k x x 0:=⟨rfl,rfl,rfl⟩
theorem Mkd.get (h:Mkd k x y i) (hi:i<x.length):y[i]'(by rw[h.len];exact hi)=x[i]:=by
 have:=congrArg (fun l=>l[0]?) h.rest
 simp[List.getElem?_drop,hi,h.len] at this
 exact this
theorem Mkd.step (h:Mkd k x y i) (hi:i<x.length):Mkd k x (y.set i (Mk.wr (k+cntL (x.take i)) x[i])) (i+1):=by
 refine⟨by simp[h.len],?_,?_⟩
 ·have:=take_set_succ (x:=mkL k x) h.done (by simpa using hi) (by simpa using h.len)
  rwa [mkL_get k x i hi] at this
 ·rw[List.drop_set_of_lt (by omega)]
  have:=congrArg (List.drop 1) h.rest
  simpa[List.drop_drop] using this
theorem Mkd.all (h:Mkd k x y i) (hi:x.length≤i):y=mkL k x:=eq_of_take h.done (by simpa using hi) (by simpa using h.len)
end
theorem take_step {α:Type}{x y:List α}{i:Nat}(h:x.take i=y.take i) (h1:i<x.length) (h2:i<y.length) (he:x[i]=y[i]):x.take (i+1)=y.take (i+1):=by
 rw[List.take_add_one,List.take_add_one,h,List.getElem?_eq_getElem h1,List.getElem?_eq_getElem h2,he]
theorem HS.storeFld {α:Type} [Ty α] [Flat α] {P:Program}{k:Env→Heap→Prop}{e:Env}{g h:Heap}{Γ:List HP}{v:Value}{l:List α}{i:Nat}(H:HS g (ow v l::Γ) h) (y:α) {a x:O}{fo:Nat}{u:Value}(hi:i<l.length) (hp:a.get e=some (elpo (Ty.sz α) v i fo)) (hx:x.get e=some u) (hu:u.cells = #[u]) (hu1:u.oneCell'=true)
  (hfo:fo<Ty.sz α) (hy:Flat.enc y=(Flat.enc l[i]).set fo u) (hok:Flat.ok y) (K:∀h',HS g (ow v (l.set i y)::Γ) h'→k e h'):(A.ex none (.store 1 a x)).wp P k e h:=by
 obtain⟨g',r,rfl,d,O,H⟩:=H
 exact a_store_fldF y O hi d rfl hp hx hu hu1 hfo hy hok fun r' d' O'=>K _ ⟨g',r',rfl,d',O',H⟩
@[simp] theorem ite_lt_zero {α:Type}{b:Int}{x y:α}(h:0≤b):(if b<0 then x else y)=y:=if_neg (by omega)
def setB (a:BitVec 64) (j:Nat):BitVec 64:=a|||(1#64<<<j)
theorem one_bit {j i:Nat}(hj:j<64):(1#64<<<j).getLsbD i=decide (i=j):=by
 rw[BitVec.getLsbD_shiftLeft,BitVec.getLsbD_one]
 by_cases h1:i=j
 ·subst h1;simp[hj]
 ·by_cases h2:i<j
  ·simp[h1,h2]
  ·have h3:¬(i-j=0):=by omega
   simp[h1,h3]
theorem setB_get {a:BitVec 64}{j i:Nat}(hj:j<64):(setB a j).getLsbD i=(a.getLsbD i||decide (i=j)):=by
 rw[setB,BitVec.getLsbD_or,one_bit hj]
structure W8 where
 l:List (BitVec 64)
 len:l.length=8
def W8.zero:W8:=⟨List.replicate 8 0,rfl⟩
def W8.put (w:W8) (j:Nat) (x:BitVec 64):W8:=⟨w.l.set j x,by simp[w.len]⟩
def W8.at (w:W8) (j:Nat):BitVec 64:=w.l.getD j 0
def W8.enc (w:W8):List Value:=w.l.map fun b=>.int .u64 b.toNat
instance instTyW8:Ty W8 where
 agg:=true
 sz:=8
 rep:=fun _ cs x=>cs=x.enc
 own:=fun r cs x=>r=Heap.nil∧cs=x.enc
 one:=fun h=>by simp at h
 len:=by rintro h cs x rfl;simp[W8.enc,x.len]
 cell:=by
  rintro h cs x rfl v hv
  simp only[W8.enc,List.mem_map] at hv
  obtain⟨b,_,rfl⟩:=hv
  rfl
 mono:=fun _ hr=>hr
 own_rep:=fun ho=>ho.2
instance instFlatW8:Flat W8:=⟨W8.enc,fun _=>True,by simp[Ty.rep],by simp[Ty.own]⟩
theorem W8.enc_at (w:W8) {j:Nat}(hj:j<8):w.enc[j]? = some (.int .u64 (w.at j).toNat):=by
 have:j<w.l.length:=by rw[w.len];exact hj
 simp[W8.enc,W8.at,this]
theorem W8.put_at (w:W8) {j i:Nat}{x:BitVec 64}(hj:j<8):(w.put j x).at i=if i=j then x else w.at i:=by
 have:j<w.l.length:=by rw[w.len];exact hj
 simp only[W8.at,W8.put,List.getD_eq_getElem?_getD,List.getElem?_set]
 split
 ·rename_i h;subst h;simp[this]
 ·rename_i h;rw[if_neg (fun h2=>h h2.symm)]
section
variable {α:Type} [Ty α] {h:Heap}{v:Value}{l:List α}{i:Nat}
theorem Rep.iaA (hr:Rep h v l) (hi:i<l.length) {n m:Nat}{kd:IntKind}{j:Nat}(hj:j<m):iaAV m 1 (elp n v i) (.int kd j)=some (elpo n v i j):=by
 obtain⟨p,cap,rfl,hc,hp,hl⟩:=Rep_list.1 hr
 obtain⟨b,off,vs,rfl,_⟩:=hl i hi
 have:(j:Int)<m:=by omega
 simp[iaAV,elp,elpo,this]
theorem Rep.W {l:List W8}(hr:Rep h v l):((∀(kd:IntKind) (i:Nat),i<l.length→iaV 8 v (.int kd i)=some (elp 8 v i))∧(∀(kd:IntKind) (i:Int),0≤i→i<l.length→iaV 8 v (.int kd i)=some (elp 8 v i.toNat))∧lenVV v=some (.int .i64 l.length)) ∧
  (∀(kd:IntKind) (i j:Nat),i<l.length→j<8→iaAV 8 1 (elp 8 v i) (.int kd j)=some (elpo 8 v i j)) ∧
  ∀(i j:Nat) (hi:i<l.length),j<8→hload h (some (elpo 8 v i j)) none=some (.int .u64 (l[i].at j).toNat):=
 ⟨hr.X rfl,fun _ _ _ hi hj=>hr.iaA hi hj,fun _ _ hi hj=>hr.fld hi rfl (W8.enc_at _ hj)⟩
end
theorem Rep.isNil {α:Type} [Ty α] {h:Heap}{v:Value}{l:List α}(hr:Rep h v l):∃b,isNilV false v=some (.bool b)∧(b=true→l=[]):=by
 obtain⟨p,cap,rfl,h1,h2,h3⟩:=Rep_list.1 hr
 refine⟨p.isNone,rfl,fun hp=>?_⟩
 cases l with
 | nil=>rfl
 | cons x l=>obtain⟨b,off,vs,h4,_⟩:=h3 0 (by simp);subst h4;simp at hp
theorem Own.clip {α:Type} [Ty α] {r:Heap}{v:Value}{l:List α}(O:Own r v l) {esz:Nat}{k:IntKind} :
  ∃v',sliceVV esz v none (some (some (.int k l.length))) (some (some (.int k l.length)))=some v'∧Own r v' l:=by
 rcases Own_list.1 O with ⟨p,rfl,rfl,rfl,hp⟩ | ⟨b,off,cap,cells,el,r',rfl,⟨h1,hM⟩,h2,rfl,h4,h5⟩
 ·refine⟨.slice p 0 0,?_,Own_list.2 (.inl ⟨p,rfl,rfl,rfl,hp⟩)⟩
  simp[sliceVV,bndV]
 ·refine⟨.slice (some ⟨b,off,none⟩) l.length l.length,?_,Own_list.2 (.inr ⟨b,off,l.length,cells,el,r',rfl,⟨Nat.le_refl _,hM⟩,?_,rfl,h4,h5⟩)⟩
  ·simp[sliceVV,bndV,add_none,h1]
  ·have:l.length*Ty.sz α≤cap*Ty.sz α:=Nat.mul_le_mul_right _ h1
   omega
theorem HS.clip {α:Type} [Ty α] {g h:Heap}{Γ:List HP}{v:Value}{l:List α}(H:HS g (ow v l::Γ) h) {esz:Nat}{k:IntKind} :
  ∃v',sliceVV esz v none (some (some (.int k l.length))) (some (some (.int k l.length)))=some v'∧HS g (ow v' l::Γ) h:=by
 obtain⟨g',r,rfl,d,O,H⟩:=H
 obtain⟨v',h1,O'⟩:=O.clip (esz:=esz) (k:=k)
 exact⟨v',h1,g',r,rfl,d,O',H⟩
theorem HS.bls0 {P:Program}{k:Env→Heap→Prop}{e:Env}{g h:Heap}{Γ:List HP}(H:HS g Γ h) (α:Type) [Ty α] {esz:Nat}{zero:List Value}{dst:Nat}
  (K:∀v' h',HS g (ow v' ([]:List α)::Γ) h'→k (eset e dst (some v')) h'):(A.ex (some dst) (.bls esz 0 zero [])).wp P k e h:=by
 refine⟨[],rfl,fun b el hb=>Fgt.keep ?_⟩
 rw[set_new hb]
 exact K _ _ ⟨h,_,rfl,Dj_one.2 hb,Own_list.2 (.inr ⟨b,0,0,[],el,Heap.nil,rfl,⟨Nat.le_refl _,by simp⟩,by simp,by simp,rfl,rfl⟩),H⟩
@[simp] theorem faV_ptr {b o off:Nat}:faV off (.pointer (some ⟨b,o,none⟩))=some (.pointer (some ⟨b,o+off,none⟩)):=by simp[faV,add_none]
attribute [simp] Option.bind_some
section
variable {g h:Heap}{Γ:List HP}
theorem HS.bk5 {a b c d f f':HP}(H:HS g (f'::a::b::c::d::f::Γ) h):HS g (a::b::c::d::f::f'::Γ) h:=H.sw5.sw5.sw5.sw5.sw5
theorem HS.bk6 {a b c d f f' f2:HP}(H:HS g (f2::a::b::c::d::f::f'::Γ) h):HS g (a::b::c::d::f::f'::f2::Γ) h:=H.sw6.sw6.sw6.sw6.sw6.sw6
theorem HS.sw7 {a b c d f f' f2 f3:HP}(H:HS g (a::b::c::d::f::f'::f2::f3::Γ) h):HS g (f3::a::b::c::d::f::f'::f2::Γ) h:=(H.under fun _=>HS.sw6).sw1
theorem HS.sw8 {a b c d f f' f2 f3 f4:HP}(H:HS g (a::b::c::d::f::f'::f2::f3::f4::Γ) h):HS g (f4::a::b::c::d::f::f'::f2::f3::Γ) h:=(H.under fun _=>HS.sw7).sw1
theorem HS.sw9 {a b c d f f' f2 f3 f4 f5:HP}(H:HS g (a::b::c::d::f::f'::f2::f3::f4::f5::Γ) h):HS g (f5::a::b::c::d::f::f'::f2::f3::f4::Γ) h:=(H.under fun _=>HS.sw8).sw1
theorem HS.sw10 {a b c d f f' f2 f3 f4 f5 f6:HP}(H:HS g (a::b::c::d::f::f'::f2::f3::f4::f5::f6::Γ) h):HS g (f6::a::b::c::d::f::f'::f2::f3::f4::f5::Γ) h:=(H.under fun _=>HS.sw9).sw1
theorem HS.sw11 {a b c d f f' f2 f3 f4 f5 f6 f7:HP}(H:HS g (a::b::c::d::f::f'::f2::f3::f4::f5::f6::f7::Γ) h):HS g (f7::a::b::c::d::f::f'::f2::f3::f4::f5::f6::Γ) h:=(H.under fun _=>HS.sw10).sw1
theorem HS.rebase:∀{Δ Γ:List HP}{h:Heap},HS g (Δ++Γ) h→∃g1,HS g Γ g1∧HS g1 Δ h
 | [],_,h,H=>⟨h,H,HS.init⟩
 | _::_,_,_,⟨g',r,e,d,hp,H⟩=>by
  obtain⟨g1,h1,h2⟩:=H.rebase
  exact⟨g1,h1,g',r,e,d,hp,h2⟩
end
def mpo {κ ν:Type}(kf:κ→Value) (vf:ν→Value) (b:Nat) (l:List (κ×ν)):HP:=fun r=>∃es clock,r=Heap.one b (.map es clock)∧es.toList.map (fun e=>(e.key,e.val))=l.map fun p=>(kf p.1,vf p.2)
def mlk {κ ν:Type} [DecidableEq κ] (l:List (κ×ν)) (a:κ):Option ν:=(l.find? fun p=>decide (p.1=a)).map (·.2)
theorem mlk_nil {κ ν:Type} [DecidableEq κ] {a:κ}:mlk ([]:List (κ×ν)) a=none:=rfl
theorem mlk_snoc {κ ν:Type} [DecidableEq κ] {l:List (κ×ν)}{a b:κ}{y:ν}(hn:mlk l a=none):mlk (l++[(a,y)]) b=if a=b then some y else mlk l b:=by
 unfold mlk at hn ⊢
 rw[List.find?_append]
 by_cases h:a=b
 ·subst h
  simp at hn
  rw[if_pos rfl,List.find?_eq_none.2 (by simpa using hn)]
  simp
 ·rw[if_neg h]
  simp[h]
theorem mfind_spec {κ ν:Type} [DecidableEq κ] {kf:κ→Value}{vf:ν→Value}{kt:KT}(hkt:∀a b,keyEq kt (kf a) (kf b)=some (decide (a=b))) {a:κ}:∀{es:List MapEntry}{l:List (κ×ν)}{i0:Nat},es.map (fun e=>(e.key,e.val))=l.map (fun p=>(kf p.1,vf p.2)) →
  ∃i,mfind kt (kf a) es i0=some ((mlk l a).map fun y=>(i,vf y))
 | [],[],_,_=>⟨0,rfl⟩
 | [],_::_,_,h=>by simp at h
 | _::_,[],_,h=>by simp at h
 | x::es,p::l,i0,h=>by
  simp only[List.map_cons,List.cons.injEq,Prod.mk.injEq] at h
  obtain⟨⟨h1,h2⟩,h3⟩:=h
  obtain⟨i,hi⟩:=mfind_spec hkt (a:=a) (i0:=i0+1) h3
  unfold mfind
  rw[h1,hkt,h2]
  by_cases he:a=p.1
  ·subst he
   refine⟨i0,?_⟩
   simp[mlk]
  ·refine⟨i,?_⟩
   simp only[he,decide_false]
   rw[hi]
   simp[mlk,List.find?_cons,Ne.symm he,show ¬p.1=a from fun e=>he e.symm]
section
variable {P:Program}{k:Env→Heap→Prop}{e:Env}{g h:Heap}{Γ:List HP}{κ ν:Type} [DecidableEq κ] {kf:κ→Value}{vf:ν→Value}{b:Nat}{l:List (κ×ν)}{kt:KT}
theorem HS.mkm (H:HS g Γ h) (kf:κ→Value) (vf:ν→Value) {dst:Nat}(K:∀b h',HS g (mpo kf vf b []::Γ) h'→k (eset e dst (some (.map (some b)))) h'):(A.ex (some dst) .mkm).wp P k e h:=by
 intro b hb
 refine Fgt.keep ?_
 rw[set_new hb]
 exact K _ _ ⟨h,_,rfl,Dj_one.2 hb,⟨_,_,rfl,rfl⟩,H⟩
theorem HS.mget (H:HS g (mpo kf vf b l::Γ) h) {zero:Value}{ok:Bool}{m x:O}{a:κ}{dst:Nat}(hm:m.get e=some (.map (some b))) (hx:x.get e=some (kf a)) (hkt:∀a b,keyEq kt (kf a) (kf b)=some (decide (a=b)))
  (K:k (eset e dst (some (if ok then .tuple #[((mlk l a).map vf).getD zero,.bool (mlk l a).isSome] else ((mlk l a).map vf).getD zero))) h):(A.ex (some dst) (.mget kt zero ok m x)).wp P k e h:=by
 obtain⟨g',r,rfl,d,⟨es,clock,rfl,hes⟩,H⟩:=H
 obtain⟨i,hi⟩:=mfind_spec hkt (a:=a) (i0:=0) hes
 refine⟨b,es,clock,kf a,_,hm,le_add' d _ _ (by simp[Heap.one]),hx,by rw[hkt];rfl,hi,Fgt.keep ?_⟩
 cases hl:mlk l a with
 | none=>rw[hl] at K;cases ok<;>exact K
 | some y=>rw[hl] at K;cases ok<;>exact K
theorem HS.mput (H:HS g (mpo kf vf b l::Γ) h) {m x y:O}{a:κ}{v:ν}(hm:m.get e=some (.map (some b))) (hx:x.get e=some (kf a)) (hy:y.get e=some (vf v)) (hkt:∀a b,keyEq kt (kf a) (kf b)=some (decide (a=b))) (hn:mlk l a=none)
  (K:∀h',HS g (mpo kf vf b (l++[(a,v)])::Γ) h'→k e h'):(A.ex none (.mput kt m x y)).wp P k e h:=by
 obtain⟨g',r,rfl,d,⟨es,clock,rfl,hes⟩,H⟩:=H
 obtain⟨i,hi⟩:=mfind_spec hkt (a:=a) (i0:=0) hes
 rw[hn] at hi
 refine⟨b,es,clock,kf a,vf v,none,hm,le_add' d _ _ (by simp[Heap.one]),hx,hy,by rw[hkt];rfl,hi,Fgt.keep ?_⟩
 refine K _ ⟨g',Heap.one b (.map (es.push { key:=kf a,val:=vf v,born:=clock }) (clock+1)),?_,?_,⟨_,_,rfl,?_⟩,H⟩
 ·have hb:=Dj_one.1 d
  rw[← set_new hb]
  rw[← set_new hb]
  funext z
  simp only[Heap.set]
  split<;>rfl
 ·exact Dj_one.2 (Dj_one.1 d)
 ·simp[hes]
theorem HS.mlen (H:HS g (mpo kf vf b l::Γ) h) {m:O}{dst:Nat}(hm:m.get e=some (.map (some b))) (K:k (eset e dst (some (.int .i64 l.length))) h):(A.ex (some dst) (.mlen m)).wp P k e h:=by
 obtain⟨g',r,rfl,d,⟨es,clock,rfl,hes⟩,H⟩:=H
 have hl:es.size=l.length:=by
  have:=congrArg List.length hes
  simpa using this
 refine⟨b,es,clock,hm,le_add' d _ _ (by simp[Heap.one]),Fgt.keep ?_⟩
 rw[hl]
 exact K
end
theorem keyEq_int:∀a b:Int,keyEq (.one .i) (.int .i64 a) (.int .i64 b)=some (decide (a=b)):=by
 intro a b
 simp[keyEq,eqB]
theorem HS.blsO1 {α:Type} [Ty α] {P:Program}{k:Env→Heap→Prop}{e:Env}{g h:Heap}{Γ:List HP}{u:Value}{y:α}(H:HS g (ow u y::Γ) h) {esz:Nat}{zero:List Value}{parts:List (Nat×Nat×O)}{dst:Nat}(hf:fillP e (reps 1 zero) parts=some u.cells.toList)
  (K:∀v' h',HS g (ow v' [y]::Γ) h'→k (eset e dst (some v')) h'):(A.ex (some dst) (.bls esz 1 zero parts)).wp P k e h:=by
 obtain⟨g1,ru,rfl,d2,⟨cs,rfl,ho⟩,H⟩:=H
 have h1:=Ty.len (Ty.own_rep ho)
 rw[rep_cells (Ty.own_rep ho)] at hf
 refine⟨_,hf,fun b el hb=>Fgt.keep ?_⟩
 rw[set_new hb]
 have n1:g1 b=none∧ru b=none:=by simpa[Heap.add] using hb
 rw[add_assoc]
 refine K _ _ ⟨g1,_,rfl,Dj_add.2 ⟨d2,Dj_one.2 n1.1⟩,?_,H⟩
 rw[(Dj_one.2 n1.2).comm]
 refine Own_list.2 (.inr ⟨b,0,1,cs,el,ru,rfl,⟨Nat.le_refl _,by simp⟩,by simp[h1],rfl,n1.2,?_⟩)
 exact⟨ru,Heap.nil,by simp,by simp,by simpa[← h1] using ho,rfl⟩
theorem HS.blsO2 {α:Type} [Ty α] {P:Program}{k:Env→Heap→Prop}{e:Env}{g h:Heap}{Γ:List HP}{u u2:Value}{y y2:α}(H:HS g (ow u y::ow u2 y2::Γ) h) {esz:Nat}{zero:List Value}{parts:List (Nat×Nat×O)}{dst:Nat}(hf:fillP e (reps 2 zero) parts=some (u.cells.toList++u2.cells.toList))
  (K:∀v' h',HS g (ow v' [y,y2]::Γ) h'→k (eset e dst (some v')) h'):(A.ex (some dst) (.bls esz 2 zero parts)).wp P k e h:=by
 obtain⟨g0,ru,rfl,d2,⟨cs,rfl,ho⟩,g1,ru2,rfl,d3,⟨cs2,rfl,ho2⟩,H⟩:=H
 have h1:=Ty.len (Ty.own_rep ho)
 have h2:=Ty.len (Ty.own_rep ho2)
 rw[rep_cells (Ty.own_rep ho),rep_cells (Ty.own_rep ho2)] at hf
 obtain⟨d4,d5⟩:=add_Dj.1 d2
 refine⟨_,hf,fun b el hb=>Fgt.keep ?_⟩
 rw[set_new hb]
 have n1:(g1 b=none∧ru2 b=none)∧ru b=none:=by simpa[Heap.add] using hb
 rw[add_assoc,add_assoc]
 refine K _ _ ⟨g1,_,rfl,Dj_add.2 ⟨d3,Dj_add.2 ⟨d4,Dj_one.2 n1.1.1⟩⟩,?_,H⟩
 rw[← add_assoc,(Dj_one.2 (show (ru2.add ru) b=none by simp[Heap.add,n1])).comm]
 refine Own_list.2 (.inr ⟨b,0,2,cs++cs2,el,ru2.add ru,rfl,⟨Nat.le_refl _,by simp⟩,by simp[h1,h2];omega,rfl,by simp[Heap.add,n1],?_⟩)
 rw[d5.comm]
 refine⟨ru,ru2,rfl,d5.symm,by simpa[← h1] using ho,ru2,Heap.nil,by simp,by simp,?_,rfl⟩
 have e1:List.drop (Ty.sz α) (cs++cs2)=cs2:=by rw[← h1,List.drop_left]
 simp only[List.drop_zero]
 rw[e1,List.take_of_length_le (by omega)]
 exact ho2
section
variable {α:Type}
theorem repL_map {t t':Ty α}{h:Heap}{p:Option Addr}{l:List α}(hs:t.sz=t'.sz) (hr:∀cs x,x∈l→t.rep h cs x→t'.rep h cs x) (H:@repL α t h p l):@repL α t' h p l:=by
 intro i hi
 obtain⟨b,off,vs,h1,h2,h3⟩:=H i hi
 refine⟨b,off,vs,h1,?_,hr _ _ (List.getElem_mem hi) h3⟩
 have h2:hcells h b (off+i*t.sz) t.sz=some vs:=h2
 show hcells h b (off+i*t'.sz) t'.sz=some vs
 rw[← hs];exact h2
theorem repS_map {t t':Ty α}{h:Heap}{cs:List Value}{l:List α}(hs:t.sz=t'.sz) (hr:∀cs x,x∈l→t.rep h cs x→t'.rep h cs x) (H:@repS α t h cs l):@repS α t' h cs l:=by
 obtain⟨p,cap,h1,h2,h3,h4⟩:=H
 exact⟨p,cap,h1,h2,h3,repL_map hs hr h4⟩
theorem ownL_map {t t':Ty α}(hs:t.sz=t'.sz):∀{l:List α}{cs:List Value}{r:Heap},(∀r cs x,x∈l→t.own r cs x→t'.own r cs x)→@ownL α t l cs r→@ownL α t' l cs r
 | [],_,_,_,H=>H
 | x::l,cs,r,ho,⟨r1,r2,h1,h2,h3,h4⟩=>by
  refine⟨r1,r2,h1,h2,?_,?_⟩
  ·have:=ho r1 _ x (by simp) h3
   show t'.own r1 (cs.take t'.sz) x
   rw[← hs];exact this
  ·have:=ownL_map hs (fun r cs x hx=>ho r cs x (by simp[hx])) h4
   show @ownL α t' l (cs.drop t'.sz) r2
   rw[← hs];exact this
theorem ownS_map {t t':Ty α}(hs:t.sz=t'.sz) {l:List α}{cs:List Value}{r:Heap}(ho:∀r cs x,x∈l→t.own r cs x→t'.own r cs x) (H:@ownS α t r cs l):@ownS α t' r cs l:=by
 rcases H with h1 | ⟨b,off,cap,cells,el,r',h1,h2,h3,h4,h5,h6⟩
 ·exact .inl h1
 ·refine .inr ⟨b,off,cap,cells,el,r',h1,h2,?_,h4,h5,ownL_map hs ho h6⟩
  have h3:off+cap*t.sz≤cells.length:=h3
  show off+cap*t'.sz≤cells.length
  rw[← hs];exact h3
end
theorem exists_max {P:Nat→Nat→Prop}(hu:∀i n,P i n→P i (n+1)):∀m,(∀i,i<m→∃n,P i n)→∃N,∀i,i<m→P i N
 | 0,_=>⟨0,fun i hi=>absurd hi (Nat.not_lt_zero i)⟩
 | m+1,h=>by
  have up:∀i n k,P i n→P i (n+k):=by
   intro i n k hp
   induction k with
   | zero=>exact hp
   | succ k ih=>exact hu _ _ ih
  obtain⟨N,hN⟩:=exists_max hu m fun i hi=>h i (by omega)
  obtain⟨M,hM⟩:=h m (by omega)
  refine⟨N+M,fun i hi=>?_⟩
  by_cases e:i=m
  ·subst e;rw[Nat.add_comm];exact up _ _ _ hM
  ·exact up _ _ _ (hN i (by omega))
inductive Exq where
 | mk (kind val:Int) (kids:List Exq)
namespace Exq
def kind:Exq→Int | .mk k _ _=>k
def val:Exq→Int | .mk _ v _=>v
def kids:Exq→List Exq | .mk _ _ l=>l
@[simp] theorem kind_mk {k v:Int}{l:List Exq}:(Exq.mk k v l).kind=k:=rfl
@[simp] theorem val_mk {k v:Int}{l:List Exq}:(Exq.mk k v l).val=v:=rfl
@[simp] theorem kids_mk {k v:Int}{l:List Exq}:(Exq.mk k v l).kids=l:=rfl
theorem ext_iff' {a b:Exq}:a=b↔a.kind=b.kind∧a.val=b.val∧a.kids=b.kids:=by
 cases a;cases b;simp
theorem ind {p:Exq→Prop}(h:∀x:Exq,(∀y∈x.kids,p y)→p x):∀x,p x
 | .mk k v l=>h _ fun y hy=>ind h y
termination_by x=>SizeOf.sizeOf x
decreasing_by
 have h1:y∈l:=hy
 have:=List.sizeOf_lt_of_mem h1
 simp only[Exq.mk.sizeOf_spec]
 omega
def tup (x:Exq):Int×Int×List Exq:=(x.kind,x.val,x.kids)
@[reducible] def T0:Ty Exq where
 agg:=true
 sz:=3
 rep:=fun _ _ _=>False
 own:=fun _ _ _=>False
 one:=fun h=>by simp at h
 len:=fun h=>h.elim
 cell:=fun h=>h.elim
 mono:=fun _ h=>h
 own_rep:=fun h=>h.elim
@[reducible] def tyTup (t:Ty Exq):Ty (Int×Int×List Exq):=@instTyProd Int (Int×List Exq) instTyInt (@instTyProd Int (List Exq) instTyInt (@instTyList Exq t))
@[reducible] def T:Nat→Ty Exq
 | 0=>T0
 | n+1=>@Ty.via Exq (Int×Int×List Exq) (tyTup (T n)) tup
theorem T_sz:∀n,(T n).sz=3
 | 0=>rfl
 | _+1=>rfl
theorem tup_rep {t t':Ty Exq}(hs:t.sz=t'.sz) {h:Heap}{cs:List Value}{x:Exq}(hr:∀cs y,y∈x.kids→t.rep h cs y→t'.rep h cs y) (H:(tyTup t).rep h cs x.tup):(tyTup t').rep h cs x.tup:=by
 obtain⟨c1,c2,e1,h1,c3,c4,e2,h2,h3⟩:=H
 exact⟨c1,c2,e1,h1,c3,c4,e2,h2,repS_map hs hr h3⟩
theorem tup_own {t t':Ty Exq}(hs:t.sz=t'.sz) {r:Heap}{cs:List Value}{x:Exq}(hr:∀r cs y,y∈x.kids→t.own r cs y→t'.own r cs y) (H:(tyTup t).own r cs x.tup):(tyTup t').own r cs x.tup:=by
 obtain⟨c1,c2,r1,r2,e1,e2,d1,h1,c3,c4,r3,r4,e3,e4,d2,h2,h3⟩:=H
 exact⟨c1,c2,r1,r2,e1,e2,d1,h1,c3,c4,r3,r4,e3,e4,d2,h2,ownS_map hs hr h3⟩
theorem rep_up:∀(n:Nat) {h:Heap}{cs:List Value}{x:Exq},(T n).rep h cs x→(T (n+1)).rep h cs x
 | 0,_,_,_,H=>H.elim
 | n+1,h,cs,x,H=>tup_rep (t:=T n) (t':=T (n+1)) (by rw[T_sz,T_sz]) (fun _ _ _=>rep_up n) H
theorem own_up:∀(n:Nat) {r:Heap}{cs:List Value}{x:Exq},(T n).own r cs x→(T (n+1)).own r cs x
 | 0,_,_,_,H=>H.elim
 | n+1,h,cs,x,H=>tup_own (t:=T n) (t':=T (n+1)) (by rw[T_sz,T_sz]) (fun _ _ _ _=>own_up n) H
theorem own_le {n m:Nat}(hle:n≤m) {r:Heap}{cs:List Value}{x:Exq}(H:(T n).own r cs x):(T m).own r cs x:=by
 obtain⟨k,rfl⟩:=Nat.exists_eq_add_of_le hle
 induction k with
 | zero=>exact H
 | succ k ih=>exact own_up _ (ih (by omega))
end Exq
instance instTyExq:Ty Exq where
 agg:=true
 sz:=3
 rep:=fun h cs x=>∃n,(Exq.T n).rep h cs x
 own:=fun r cs x=>∃n,(Exq.T n).own r cs x
 one:=fun h=>by simp at h
 len:=fun ⟨n,h⟩=>((Exq.T n).len h).trans (Exq.T_sz n)
 cell:=fun ⟨n,h⟩=>(Exq.T n).cell h
 mono:=fun hl ⟨n,h⟩=>⟨n,(Exq.T n).mono hl h⟩
 own_rep:=fun ⟨n,h⟩=>⟨n,(Exq.T n).own_rep h⟩
namespace Exq
theorem rep_iff {h:Heap}{cs:List Value}{x:Exq}:Ty.rep h cs x↔Ty.rep h cs x.tup:=by
 constructor
 ·rintro⟨n,H⟩
  cases n with
  | zero=>exact H.elim
  | succ n=>exact tup_rep (t:=T n) (t':=instTyExq) (T_sz n) (fun _ _ _ h=>⟨n,h⟩) H
 ·rintro⟨c1,c2,e1,h1,c3,c4,e2,h2,p,cap,e3,h3,h4,hl⟩
  have hl:∀i,i<x.kids.length→∃n,∃(hi:i<x.kids.length),∃b off vs,p=some ⟨b,off,none⟩∧hcells h b (off+i*3) 3=some vs∧(T n).rep h vs x.kids[i]:=by
   intro i hi
   obtain⟨b,off,vs,g1,g2,n,g3⟩:=hl i hi
   exact⟨n,hi,b,off,vs,g1,g2,g3⟩
  obtain⟨N,hN⟩:=exists_max (P:=fun i n=>∃(hi:i<x.kids.length),∃b off vs,p=some ⟨b,off,none⟩∧hcells h b (off+i*3) 3=some vs∧(T n).rep h vs x.kids[i]) (fun i n ⟨hi,b,off,vs,g1,g2,g3⟩=>⟨hi,b,off,vs,g1,g2,rep_up n g3⟩) _ hl
  refine⟨N+1,c1,c2,e1,h1,c3,c4,e2,h2,p,cap,e3,h3,h4,fun i hi=>?_⟩
  obtain⟨_,b,off,vs,g1,g2,g3⟩:=hN i hi
  refine⟨b,off,vs,g1,?_,g3⟩
  show hcells h b (off+i*(T N).sz) (T N).sz=some vs
  rw[T_sz];exact g2
theorem ownL_max:∀{l:List Exq}{cs:List Value}{r:Heap},ownL l cs r→∃N,@ownL Exq (T N) l cs r
 | [],_,_,H=>⟨0,H⟩
 | x::l,cs,r,⟨r1,r2,h1,h2,⟨n,h3⟩,h4⟩=>by
  obtain⟨N,h5⟩:=ownL_max h4
  refine⟨n+N,r1,r2,h1,h2,?_,?_⟩
  ·show (T (n+N)).own r1 (cs.take (T (n+N)).sz) x
   rw[T_sz];exact own_le (by omega) h3
  ·show @ownL Exq (T (n+N)) l (cs.drop (T (n+N)).sz) r2
   rw[T_sz];exact ownL_map (t:=T N) (t':=T (n+N)) (by rw[T_sz,T_sz]) (fun _ _ _ _=>own_le (by omega)) h5
theorem own_iff {r:Heap}{cs:List Value}{x:Exq}:Ty.own r cs x↔Ty.own r cs x.tup:=by
 constructor
 ·rintro⟨n,H⟩
  cases n with
  | zero=>exact H.elim
  | succ n=>exact tup_own (t:=T n) (t':=instTyExq) (T_sz n) (fun _ _ _ _ h=>⟨n,h⟩) H
 ·rintro⟨c1,c2,r1,r2,e1,e2,d1,h1,c3,c4,r3,r4,e3,e4,d2,h2,h3⟩
  rcases h3 with h3 | ⟨b,off,cap,cells,el,r',g1,g2,g3,g4,g5,g6⟩
  ·exact⟨1,c1,c2,r1,r2,e1,e2,d1,h1,c3,c4,r3,r4,e3,e4,d2,h2,.inl h3⟩
  ·obtain⟨N,h7⟩:=ownL_max g6
   refine⟨N+1,c1,c2,r1,r2,e1,e2,d1,h1,c3,c4,r3,r4,e3,e4,d2,h2,.inr ⟨b,off,cap,cells,el,r',g1,g2,?_,g4,g5,h7⟩⟩
   show off+cap*(T N).sz≤cells.length
   rw[T_sz];exact g3
end Exq
def I64 (n:Int):Prop:=-9223372036854775808≤n∧n<9223372036854775808
theorem I64.lo {n:Int}(h:I64 n):-9223372036854775808≤n:=h.1
theorem I64.hi {n:Int}(h:I64 n):n<9223372036854775808:=h.2
section
variable {g h r:Heap}{Γ:List HP}{v:Value}{cs:List Value}
theorem repExq {x:Exq}:Ty.rep h cs x↔∃w,cs=[.int .i64 x.kind,.int .i64 x.val,w]∧I64 x.kind∧I64 x.val∧Rep h w x.kids:=by
 rw[Exq.rep_iff]
 constructor
 ·rintro⟨c1,c2,rfl,⟨rfl,h1⟩,c3,c4,rfl,⟨rfl,h2⟩,h3⟩
  obtain⟨w,rfl,h4⟩:=(rep1 (α:=List Exq) rfl).1 h3
  exact⟨w,rfl,h1,h2,h4⟩
 ·rintro⟨w,rfl,h1,h2,h3⟩
  exact⟨[_],[_,_],rfl,⟨rfl,h1⟩,[_],[_],rfl,⟨rfl,h2⟩,(rep1 (α:=List Exq) rfl).2 ⟨w,rfl,h3⟩⟩
theorem ownExq {x:Exq}:Ty.own r cs x↔∃w,cs=[.int .i64 x.kind,.int .i64 x.val,w]∧I64 x.kind∧I64 x.val∧Own r w x.kids:=by
 rw[Exq.own_iff]
 constructor
 ·rintro⟨c1,c2,r1,r2,rfl,rfl,d1,⟨rfl,rfl,h1⟩,c3,c4,r3,r4,rfl,rfl,d2,⟨rfl,rfl,h2⟩,h3⟩
  obtain⟨w,rfl,h4⟩:=(own1 (α:=List Exq) rfl).1 h3
  exact⟨w,rfl,h1,h2,by rw[nil_add,nil_add];exact h4⟩
 ·rintro⟨w,rfl,h1,h2,h3⟩
  exact⟨[_],[_,_],Heap.nil,r,rfl,by simp,by simp,⟨rfl,rfl,h1⟩,[_],[_],Heap.nil,r,rfl,by simp,by simp,⟨rfl,rfl,h2⟩,(own1 (α:=List Exq) rfl).2 ⟨w,rfl,h3⟩⟩
theorem Rep_Exq {x:Exq}:Rep h v x↔∃w,v=.agg #[.int .i64 x.kind,.int .i64 x.val,w]∧I64 x.kind∧I64 x.val∧Rep h w x.kids:=by
 constructor
 ·rintro⟨cs,rfl,H⟩
  obtain⟨w,rfl,h1⟩:=repExq.1 H
  exact⟨w,rfl,h1⟩
 ·rintro⟨w,rfl,h1⟩
  exact⟨_,rfl,repExq.2 ⟨w,rfl,h1⟩⟩
theorem HS.unExq {x:Exq}(H:HS g (ow v x::Γ) h):∃w,v=.agg #[.int .i64 x.kind,.int .i64 x.val,w]∧I64 x.kind∧I64 x.val∧HS g (ow w x.kids::Γ) h:=by
 obtain⟨g',r,rfl,d,⟨cs,rfl,O⟩,H⟩:=H
 obtain⟨w,rfl,h1,h2,h3⟩:=ownExq.1 O
 exact⟨w,rfl,h1,h2,g',r,rfl,d,h3,H⟩
theorem HS.mkExq {x:Exq}{w:Value}(H:HS g (ow w x.kids::Γ) h) (h1:I64 x.kind) (h2:I64 x.val):HS g (ow (.agg #[.int .i64 x.kind,.int .i64 x.val,w]) x::Γ) h:=
 H.imp fun _ O=>⟨_,rfl,ownExq.2 ⟨w,rfl,h1,h2,O⟩⟩
theorem HS.mkExq' {kd vl:Int}{l:List Exq}{w:Value}(H:HS g (ow w l::Γ) h) (h1:I64 kd) (h2:I64 vl):HS g (ow (.agg #[.int .i64 kd,.int .i64 vl,w]) (Exq.mk kd vl l)::Γ) h:=
 HS.mkExq (x:=Exq.mk kd vl l) H h1 h2
theorem Rep.aExq {x:Exq}(hr:Rep h v x):pgetV (some v) 0 (some 3)=some v∧v.cells.size=3∧allOne v.cells.toList=true∧Value.agg v.cells=v:=hr.A rfl rfl
end
noncomputable instance:DecidableEq Exq:=fun _ _=>Classical.propDecidable _
structure Ed where
 frm:Int
 to:Int
 guard:Exq
 var:Int
 value:Exq
 sync:Int
instance instTyEd:Ty Ed:=Ty.via fun (e:Ed)=>(e.frm,e.to,e.guard,e.var,e.value,e.sync)
noncomputable instance:DecidableEq Ed:=fun _ _=>Classical.propDecidable _
structure Pr where
 locs:Int
 edges:List Ed
instance instTyPr:Ty Pr:=Ty.via fun (p:Pr)=>(p.locs,p.edges)
noncomputable instance:DecidableEq Pr:=fun _ _=>Classical.propDecidable _
structure Sy where
 init:List Int
 procs:List Pr
instance instTySy:Ty Sy:=Ty.via fun (s:Sy)=>(s.init,s.procs)
noncomputable instance:DecidableEq Sy:=fun _ _=>Classical.propDecidable _
theorem Ed.ext_iff' {a b:Ed}:a=b↔a.frm=b.frm∧a.to=b.to∧a.guard=b.guard∧a.var=b.var∧a.value=b.value∧a.sync=b.sync:=by
 cases a;cases b;simp
theorem Pr.ext_iff' {a b:Pr}:a=b↔a.locs=b.locs∧a.edges=b.edges:=by
 cases a;cases b;simp
theorem Sy.ext_iff' {a b:Sy}:a=b↔a.init=b.init∧a.procs=b.procs:=by
 cases a;cases b;simp
def Ed.cs (e:Ed) (w1 w2:Value):List Value:=[.int .i64 e.frm,.int .i64 e.to,.int .i64 e.guard.kind,.int .i64 e.guard.val,w1,.int .i64 e.var,.int .i64 e.value.kind,.int .i64 e.value.val,w2,.int .i64 e.sync]
structure Ed.ok (e:Ed):Prop where
 frm:I64 e.frm
 to:I64 e.to
 gk:I64 e.guard.kind
 gv:I64 e.guard.val
 var:I64 e.var
 vk:I64 e.value.kind
 vv:I64 e.value.val
 sync:I64 e.sync
section
variable {g h r:Heap}{Γ:List HP}{v:Value}{cs:List Value}
end
section
variable {α:Type} [Ty α] {P:Program}{k:Env→Heap→Prop}{e:Env}{g h:Heap}{Γ:List HP}{v w:Value}{l:List α}{i:Nat}{cs:List Value}
theorem hld_parts {n:Nat}(hv:hload h (some (elp n v i)) (some n)=some (.agg cs.toArray)):(∀fo,faV fo (elp n v i)=some (elpo n v i fo))∧(∀a b,faV b (elpo n v i a)=some (elpo n v i (a+b))) ∧
  (∀fo,fo<n→hload h (some (elpo n v i fo)) none=cs[fo]?)∧(∀fo m,fo+m≤n→hload h (some (elpo n v i fo)) (some m)=some (.agg ((cs.drop fo).take m).toArray)):=by
 unfold elp at hv
 split at hv
 case h_2=>simp[undef,hload] at hv
 case h_1 p c d=>
  have hz:∃b off,p.add (i*n)=⟨b,off,none⟩:=by
   generalize hq:p.add (i*n)=q at hv
   obtain⟨b,off,sp⟩:=q
   cases sp with
   | none=>exact⟨b,off,rfl⟩
   | some s=>simp[hload] at hv
  obtain⟨b,off,hz⟩:=hz
  rw[hz] at hv
  simp only[hload,Option.map_eq_some_iff] at hv
  obtain⟨l,h1,h2⟩:=hv
  have h2:l=cs:=by simpa using h2
  subst h2
  have h3:=hcells_get h1
  have hsub:∀m fo,fo+m≤n→hcells h b (off+fo) m=some ((l.drop fo).take m):=by
   intro m
   induction m with
   | zero=>intro fo _;simp[hcells]
   | succ m ih=>
    intro fo hf
    have h4:=ih (fo+1) (by omega)
    have h5:=h3.2 fo (l[fo]'(by rw[h3.1];omega)) (List.getElem?_eq_getElem _)
    simp only[hcells,h5]
    rw[show off+fo+1=off+(fo+1) by omega,h4]
    simp only[Option.some.injEq]
    rw[List.drop_eq_getElem_cons (by rw[h3.1];omega:fo<l.length),List.take_succ_cons]
  refine⟨fun fo=>?_,fun a c=>?_,fun fo hf=>?_,fun fo m hf=>?_⟩
  ·simp only[elp,elpo,hz,add_none,faV]
  ·simp only[elpo,hz,add_none,faV]
   simp[Nat.add_assoc]
  ·have h5:=h3.2 fo (l[fo]'(by rw[h3.1];omega)) (List.getElem?_eq_getElem _)
   simp only[elpo,hz,add_none,hload,h5]
   exact (List.getElem?_eq_getElem _).symm
  ·simp only[elpo,hz,add_none,hload,hsub m fo hf]
   rfl
end
inductive Mix (α:Type) where
 | raw (cs:List Value)
 | new (x:α)
section
variable {α:Type} [Ty α]
def Mix.rep (h:Heap) (cs:List Value):Mix α→Prop
 | .raw c=>cs=c∧c.length=Ty.sz α∧∀v∈c,v.oneCell'=true
 | .new x=>Ty.rep h cs x
def Mix.own (r:Heap) (cs:List Value):Mix α→Prop
 | .raw c=>r=Heap.nil∧cs=c∧c.length=Ty.sz α∧∀v∈c,v.oneCell'=true
 | .new x=>Ty.own r cs x
instance instTyMix:Ty (Mix α) where
 agg:=Ty.agg α
 sz:=Ty.sz α
 rep:=Mix.rep
 own:=Mix.own
 one:=Ty.one
 len:=by
  intro h cs x hx
  cases x with
  | raw c=>obtain⟨rfl,h1,_⟩:=hx;exact h1
  | new x=>exact Ty.len (x:=x) hx
 cell:=by
  intro h cs x hx
  cases x with
  | raw c=>obtain⟨rfl,_,h1⟩:=hx;exact h1
  | new x=>exact Ty.cell (x:=x) hx
 mono:=by
  intro h h' cs x hl hx
  cases x with
  | raw c=>exact hx
  | new x=>exact Ty.mono (x:=x) hl hx
 own_rep:=by
  intro r cs x hx
  cases x with
  | raw c=>exact hx.2
  | new x=>exact Ty.own_rep (x:=x) hx
theorem ownL_new:∀{l:List α}{cs:List Value}{r:Heap},ownL (l.map Mix.new) cs r→ownL l cs r
 | [],_,_,H=>H
 | x::l,cs,r,⟨r1,r2,h1,h2,h3,h4⟩=>⟨r1,r2,h1,h2,h3,ownL_new h4⟩
theorem HS.mixed {g h:Heap}{Γ:List HP}{v:Value}{l:List α}(H:HS g (ow v (l.map Mix.new)::Γ) h):HS g (ow v l::Γ) h:=by
 refine H.imp fun r O=>?_
 have O:Own r v (l.map (Mix.new (α:=α))):=O
 rcases Own_list.1 O with ⟨p,rfl,h1,h2,h3⟩ | ⟨b,off,cap,cells,el,r',rfl,h1,h2,h3,h4,h5⟩
 ·exact Own_list.2 (.inl ⟨p,rfl,by simpa using h1,h2,h3⟩)
 ·exact Own_list.2 (.inr ⟨b,off,cap,cells,el,r',by simp,by simpa using h1,h2,h3,h4,ownL_new h5⟩)
theorem HS.newO {g h:Heap}{Γ:List HP}{v:Value}{x:α}(H:HS g (ow v x::Γ) h):HS g (ow v (Mix.new x)::Γ) h:=H.imp fun _ O=>O
structure Raws (h:Heap) (l:List α) (M:List (Mix α)):Prop where
 len:M.length=l.length
 at':∀(i:Nat) (hi:i<l.length),∃c,M[i]? = some (.raw c)∧Ty.rep h c l[i]
theorem Rep.srcR {h:Heap}{v:Value}{l:List α}(hr:Rep h v l):∃(M:List (Mix α)) (cs:List Value),Raws h l M∧srcV h (Ty.sz α) (some v)=some (l.length,cs)∧cs.length=l.length*Ty.sz α∧ownL M cs Heap.nil:=by
 obtain⟨p,cap,rfl,h1,h2,h3⟩:=Rep_list.1 hr
 cases hl:l with
 | nil=>subst hl;exact⟨[],[],⟨rfl,fun i hi=>absurd hi (Nat.not_lt_zero i)⟩,rfl,by simp,rfl⟩
 | cons y l'=>
  rw[← hl]
  obtain⟨b,off,vs,rfl,_⟩:=h3 0 (by rw[hl];simp)
  have key:∀n,n≤l.length→∃(M:List (Mix α)) (cs:List Value),M.length=n∧(∀(i:Nat) (hi:i<l.length),i<n→∃c,M[i]? = some (.raw c)∧Ty.rep h c l[i])∧hcells h b off (n*Ty.sz α)=some cs∧cs.length=n*Ty.sz α∧ownL M cs Heap.nil:=by
   intro n
   induction n with
   | zero=>intro _;exact⟨[],[],rfl,fun i _ hi=>absurd hi (Nat.not_lt_zero i),by simp[hcells],by simp,rfl⟩
   | succ n ih=>
    intro hn
    obtain⟨M,cs,g1,g2,g3,g4,g5⟩:=ih (by omega)
    obtain⟨b',off',vs,e1,e2,e3⟩:=h3 n (by omega)
    simp only[Option.some.injEq,Addr.mk.injEq] at e1
    obtain⟨rfl,rfl,_⟩:=e1
    have hlen:=Ty.len e3
    refine⟨M++[.raw vs],cs++vs,by simp[g1],?_,?_,?_,?_⟩
    ·intro i hi hin
     by_cases hh:i<n
     ·obtain⟨c,f1,f2⟩:=g2 i hi hh
      exact⟨c,by rw[List.getElem?_append_left (by omega)];exact f1,f2⟩
     ·obtain rfl:i=n:=by omega
      exact⟨vs,by rw[← g1,List.getElem?_append_right (Nat.le_refl _)];simp,e3⟩
    ·rw[show (n+1)*Ty.sz α=n*Ty.sz α+Ty.sz α by rw[Nat.add_mul];omega]
     exact hcells_add g3 e2
    ·rw[List.length_append,g4,hlen,Nat.add_mul];omega
    ·have:=ownL_append (l2:=[Mix.raw vs]) (cs2:=vs) (r2:=Heap.nil) g5 (by rw[g4,g1];rfl) ⟨Heap.nil,Heap.nil,by simp,by simp,⟨rfl,?_,hlen,Ty.cell e3⟩,rfl⟩ (by simp)
     ·simpa using this
     ·show List.take (Ty.sz α) vs=vs
      rw[List.take_of_length_le (by omega)]
  obtain⟨M,cs,g1,g2,g3,g4,g5⟩:=key l.length (Nat.le_refl _)
  exact⟨M,cs,⟨g1,fun i hi=>g2 i hi hi⟩,srcV_slice g3,g4,g5⟩
theorem HS.appPLr {P:Program}{k:Env→Heap→Prop}{e:Env}{g h:Heap}{Γ:List HP}{u:Value}{l2:List α}(H:HS g Γ h) {bytes esz:Nat}{zero:List Value}{j:Nat}{x:O}{dst:Nat}{c0:Array Value}(hp:eget e j=some (.agg c0)) (hx:x.get e=some u) (hr:Rep h u l2) (hsz:esz=Ty.sz α) (hz:zero.length=Ty.sz α) (hb:l2.length*bytes≤140737488355328)
  (K:∀v' h' (M:List (Mix α)),Raws h l2 M→HS g (ow v' M::Γ) h'→k (eset e dst (some v')) h'):(A.ex (some dst) (.app bytes esz zero (.p 0 j) (.o x))).wp P k e h:=by
 subst hsz
 obtain⟨M,cs,hM,h1,h2,h3⟩:=hr.srcR
 have hl:=hM.len
 refine a_appP (α:=Mix α) (rs:=Heap.nil) (l2:=M) hp ?_ (by rw[hl];exact h2) h3 Dj_nil (by simp) hz (by rw[hl];exact hb) (by have:=hr.lt;omega) fun v' r' d' O'=>K _ _ M hM ⟨h,r',rfl,d',O',H⟩
 simp only[AO.src,hx,hl]
 exact h1
end
structure Mixed {α:Type} [Ty α] (h:Heap) (l:List α) (f:α→α) (M:List (Mix α)) (i:Nat):Prop where
 len:M.length=l.length
 done:M.take i=((l.map f).take i).map Mix.new
 rest:∀(j:Nat) (hj:j<l.length),i≤j→∃c,M[j]? = some (.raw c)∧Ty.rep h c l[j]
section
variable {α:Type} [Ty α] {h:Heap}{l:List α}{f:α→α}{M:List (Mix α)}{i:Nat}
theorem Mixed.zero (R:Raws h l M):Mixed h l f M 0:=⟨R.len,rfl,fun j hj _=>R.at' j hj⟩
theorem Mixed.le {h':Heap}(H:Mixed h l f M i) (hl:h.le h'):Mixed h' l f M i:=⟨H.len,H.done,fun j hj hij=>by
 obtain⟨c,h1,h2⟩:=H.rest j hj hij
 exact⟨c,h1,Ty.mono hl h2⟩⟩
theorem Mixed.get (H:Mixed h l f M i) (hi:i<l.length):∃c,M[i]'(by rw[H.len];exact hi)=.raw c∧Ty.rep h c l[i]:=by
 obtain⟨c,h1,h2⟩:=H.rest i hi (Nat.le_refl i)
 refine⟨c,?_,h2⟩
 rw[List.getElem?_eq_getElem (by rw[H.len];exact hi)] at h1
 exact Option.some.inj h1
theorem Mixed.step (H:Mixed h l f M i) (hi:i<l.length):Mixed h l f (M.set i (.new (f l[i]))) (i+1):=by
 refine⟨by simp[H.len],?_,fun j hj hij=>?_⟩
 ·have h1:M.take i=(l.map fun x=>Mix.new (f x)).take i:=by rw[H.done,List.map_take,List.map_map];rfl
  have:=take_set_succ (x:=l.map fun x=>Mix.new (f x)) h1 (by simpa using hi) (by simp[H.len])
  rw[List.getElem_map] at this
  rw[this,List.map_take,List.map_map]
  rfl
 ·rw[List.getElem?_set_ne (by omega)]
  exact H.rest j hj (by omega)
theorem Mixed.all (H:Mixed h l f M i) (hi:l.length≤i):M=(l.map f).map Mix.new:=by
 have:=H.done
 rw[List.take_of_length_le (by rw[H.len];exact hi),List.take_of_length_le (by simpa using hi)] at this
 exact this
end
mutual
def Exq.size:Exq→Nat
 | .mk _ _ l=>Exq.sizes l
def Exq.sizes:List Exq→Nat
 | []=>0
 | x::l=>1+x.size+Exq.sizes l
end
instance instSzExq:Sz Exq:=⟨Exq.size⟩
theorem Exq.sizes_eq:∀l,Exq.sizes l=Sz.sz l
 | []=>by simp[Exq.sizes,sz_list,szL]
 | x::l=>by
  have:=Exq.sizes_eq l
  rw[sz_list] at this ⊢
  simp only[Exq.sizes,szL,List.length_cons,this]
  show 1+Sz.sz x+_=_
  omega
theorem sz_Exq (x:Exq):Sz.sz x=Sz.sz x.kids:=by
 cases x with
 | mk k v l=>exact Exq.sizes_eq l
instance instSzEd:Sz Ed:=⟨fun e=>Sz.sz e.guard+Sz.sz e.value⟩
instance instSzPr:Sz Pr:=⟨fun p=>Sz.sz p.edges⟩
instance instSzSy:Sz Sy:=⟨fun s=>Sz.sz s.init+Sz.sz s.procs⟩
mutual
def Exq.cnt:Exq→Nat
 | .mk _ _ l=>2+Exq.cnts l
def Exq.cnts:List Exq→Nat
 | []=>0
 | x::l=>x.cnt+Exq.cnts l
end
mutual
def Exq.wr:Int→Exq→Exq
 | k,.mk _ _ l=>.mk k (k+1) (Exq.wrs (k+2) l)
def Exq.wrs:Int→List Exq→List Exq
 | _,[]=>[]
 | k,x::l=>x.wr k::Exq.wrs (k+x.cnt) l
end
mutual
theorem Exq.cnt_wr:∀(k:Int) (x:Exq),(Exq.wr k x).cnt=x.cnt
 | k,.mk _ _ l=>by simp only[Exq.wr,Exq.cnt,Exq.cnts_wrs (k+2) l]
theorem Exq.cnts_wrs:∀(k:Int) (l:List Exq),Exq.cnts (Exq.wrs k l)=Exq.cnts l
 | _,[]=>rfl
 | k,x::l=>by simp only[Exq.wrs,Exq.cnts,Exq.cnt_wr k x,Exq.cnts_wrs (k+x.cnt) l]
end
mutual
theorem Exq.wr_wr:∀(k j:Int) (x:Exq),Exq.wr k (Exq.wr j x)=Exq.wr k x
 | k,j,.mk _ _ l=>by simp only[Exq.wr,Exq.wrs_wrs (k+2) (j+2) l]
theorem Exq.wrs_wrs:∀(k j:Int) (l:List Exq),Exq.wrs k (Exq.wrs j l)=Exq.wrs k l
 | _,_,[]=>rfl
 | k,j,x::l=>by simp only[Exq.wrs,Exq.cnt_wr j x,Exq.wr_wr k j x,Exq.wrs_wrs (k+x.cnt) (j+x.cnt) l]
end
instance instMkExq:Mk Exq:=⟨Exq.cnt,Exq.wr,Exq.cnt_wr,Exq.wr_wr⟩
instance instMkEd:Mk Ed:=⟨fun e=>Mk.cnt e.frm+Mk.cnt e.to+Mk.cnt e.guard+Mk.cnt e.var+Mk.cnt e.value+Mk.cnt e.sync,
 fun k e=>⟨Mk.wr k e.frm,Mk.wr (k+Mk.cnt e.frm) e.to,Mk.wr (k+Mk.cnt e.frm+Mk.cnt e.to) e.guard,Mk.wr (k+Mk.cnt e.frm+Mk.cnt e.to+Mk.cnt e.guard) e.var,
  Mk.wr (k+Mk.cnt e.frm+Mk.cnt e.to+Mk.cnt e.guard+Mk.cnt e.var) e.value,Mk.wr (k+Mk.cnt e.frm+Mk.cnt e.to+Mk.cnt e.guard+Mk.cnt e.var+Mk.cnt e.value) e.sync⟩,
 fun k a=>by simp[Mk.cnt_wr],fun k j a=>by simp[Mk.cnt_wr,Mk.wr_wr]⟩
instance instMkPr:Mk Pr:=⟨fun p=>Mk.cnt p.locs+Mk.cnt p.edges,fun k p=>⟨Mk.wr k p.locs,Mk.wr (k+Mk.cnt p.locs) p.edges⟩,fun k a=>by simp[Mk.cnt_wr],fun k j a=>by simp[Mk.cnt_wr,Mk.wr_wr]⟩
instance instMkSy:Mk Sy:=⟨fun p=>Mk.cnt p.init+Mk.cnt p.procs,fun k p=>⟨Mk.wr k p.init,Mk.wr (k+Mk.cnt p.init) p.procs⟩,fun k a=>by simp[Mk.cnt_wr],fun k j a=>by simp[Mk.cnt_wr,Mk.wr_wr]⟩
theorem foldl_tk {α β:Type}{f:β→α→β}{b:β}{l:List α}{i:Nat}(hi:i<l.length):(l.take (i+1)).foldl f b=f ((l.take i).foldl f b) l[i]:=by
 rw[List.take_add_one,List.getElem?_eq_getElem hi,List.foldl_append];rfl
def VOk (vs:List Int):Prop:=vs.length=3∧∀x∈vs,0≤x∧x≤3
theorem VOk.len {vs:List Int}(h:VOk vs):vs.length=3:=h.1
theorem VOk.at {vs:List Int}(h:VOk vs) {i:Nat}(hi:i<vs.length):0≤vs[i]∧vs[i]≤3:=h.2 _ (List.getElem_mem hi)
noncomputable instance {vs:List Int}:Decidable (VOk vs):=Classical.propDecidable _
namespace Exq
def arity (k:Int):Int:=if k=1∨k=2 then 0 else if k=3 then 1 else if 4≤k∧k≤9 then 2 else -1
def most (k:Int):Int:=if k=1 then 3 else if k=2 then 2 else 0
structure Nd (x:Exq):Prop where
 ar:(x.kids.length:Int)=arity x.kind
 lo:0≤x.val
 hi:x.val≤most x.kind
def Shp:Nat→Exq→Prop
 | 0,_=>False
 | n+1,x=>x.Nd∧∀y∈x.kids,Shp n y
mutual
def nod:Exq→Nat
 | .mk _ _ l=>1+nods l
def nods:List Exq→Nat
 | []=>0
 | x::l=>x.nod+nods l
end
theorem nod_eq (x:Exq):x.nod=1+nods x.kids:=by cases x;rfl
theorem nods_take:∀{l:List Exq}{i:Nat}(hi:i<l.length),nods (l.take (i+1))=nods (l.take i)+l[i].nod
 | x::l,0,_=>by simp[nods]
 | x::l,i+1,hi=>by
  have:=nods_take (l:=l) (i:=i) (by simpa using hi)
  simp only[List.take_succ_cons,nods,List.getElem_cons_succ,this];omega
theorem nods_le:∀(l:List Exq) (i:Nat),nods (l.take i)≤nods l
 | [],i=>by simp
 | x::l,0=>by simp[nods]
 | x::l,i+1=>by
  simp only[List.take_succ_cons,nods]
  have:=nods_le l i
  omega
def Ok (x:Exq):Prop:=x.Shp 6∧x.nod≤15
noncomputable instance {x:Exq}:Decidable x.Ok:=Classical.propDecidable _
def zero:Exq:=.mk 0 0 []
theorem Nd.kind {x:Exq}(h:x.Nd):1≤x.kind∧x.kind≤9:=by
 have:=h.ar
 unfold arity at this
 split at this<;>(try split at this)<;>(try split at this)<;>omega
theorem Shp.nd {n:Nat}{x:Exq}(h:x.Shp n):x.Nd:=by
 cases n with
 | zero=>exact h.elim
 | succ n=>exact h.1
theorem Shp.kid {n:Nat}{x:Exq}(h:x.Shp (n+1)) {i:Nat}(hi:i<x.kids.length):x.kids[i].Shp n:=h.2 _ (List.getElem_mem hi)
theorem Shp.bnd:∀{n:Nat}{x:Exq},x.Shp n→x.nod<2^n
 | 0,_,h=>h.elim
 | n+1,x,h=>by
  have h1:=h.1.ar
  have h2:x.kids.length≤2:=by
   unfold arity at h1
   split at h1<;>(try split at h1)<;>(try split at h1)<;>omega
  have h3:nods x.kids+x.kids.length≤x.kids.length*2^n:=by
   have key:∀l:List Exq,(∀y∈l,Shp n y)→nods l+l.length≤l.length*2^n:=by
    intro l
    induction l with
    | nil=>intro _;simp[nods]
    | cons y l ih=>
     intro hl
     have g1:=Shp.bnd (hl y (by simp))
     have g2:=ih fun z hz=>hl z (by simp[hz])
     simp only[nods,List.length_cons,Nat.add_mul]
     omega
   exact key _ h.2
  have h4:x.kids.length*2^n≤2*2^n:=Nat.mul_le_mul_right _ h2
  have h5:0<2^n:=Nat.pow_pos (by decide)
  rw[nod_eq,Nat.pow_succ]
  by_cases h6:x.kids.length=0
  ·have:x.kids=[]:=List.length_eq_zero_iff.1 h6
   rw[this];simp only[nods];omega
  ·rcases (show x.kids.length=1∨x.kids.length=2 by omega) with h7 | h7<;>rw[h7] at h3 h4<;>omega
def tr (p:Prop) [Decidable p]:Int:=if p then 1 else 0
def evk (vs:List Int) (k v a b:Int):Int:=
 if k=1 then v else if k=2 then vs.getD v.toNat 0 else if k=3 then tr (a=0) else if k=4 then tr (a≠0∧b≠0) else if k=5 then tr (a≠0∨b≠0)
 else if k=6 then tr (a=b) else if k=7 then tr (a<b) else if k=8 then (a+b).tmod 4 else (a-b+4).tmod 4
mutual
def ev (vs:List Int):Exq→Int
 | .mk k v l=>evk vs k v ((evs vs l).getD 0 0) ((evs vs l).getD 1 0)
def evs (vs:List Int):List Exq→List Int
 | []=>[]
 | x::l=>x.ev vs::evs vs l
end
def kev (x:Exq) (vs:List Int) (j:Nat):Int:=(x.kids.map (ev vs)).getD j 0
mutual
def mkv:Exq→List Bool→List Bool
 | .mk k v l,M=>mkvs l (if k=2 then M.set v.toNat true else M)
def mkvs:List Exq→List Bool→List Bool
 | [],M=>M
 | x::l,M=>mkvs l (x.mkv M)
end
end Exq
structure Ed.Ok (e:Ed) (n:Int):Prop where
 n1:1≤n
 n4:n≤4
 f0:0≤e.frm
 f1:e.frm<n
 t0:0≤e.to
 t1:e.to<n
 gd:e.guard.Ok
 v0:-1≤e.var
 v1:e.var≤2
 vl:(0≤e.var∧e.value.Ok)∨(e.var<0∧e.value=Exq.zero)
 s0:-2≤e.sync
 s1:e.sync≤2
noncomputable instance {e:Ed}{n:Int}:Decidable (e.Ok n):=Classical.propDecidable _
structure Pr.Ok (p:Pr):Prop where
 n1:1≤p.locs
 n4:p.locs≤4
 el:p.edges.length≤6
 ed:∀e∈p.edges,e.Ok p.locs
noncomputable instance {p:Pr}:Decidable p.Ok:=Classical.propDecidable _
structure Sy.Ok (s:Sy):Prop where
 vs:VOk s.init
 p1:1≤s.procs.length
 p3:s.procs.length≤3
 pr:∀p∈s.procs,p.Ok
noncomputable instance {s:Sy}:Decidable s.Ok:=Classical.propDecidable _
theorem Sy.Ok.at {s:Sy}(h:s.Ok) {i:Nat}(hi:i<s.procs.length):s.procs[i].Ok:=h.pr _ (List.getElem_mem hi)
theorem Pr.Ok.at {p:Pr}(h:p.Ok) {i:Nat}(hi:i<p.edges.length):p.edges[i].Ok p.locs:=h.ed _ (List.getElem_mem hi)
structure LOk (l:List Exq):Prop where
 len:l.length=3
 ok:∀x∈l,x.Ok
noncomputable instance {l:List Exq}:Decidable (LOk l):=Classical.propDecidable _
def relL (labels:List Exq) (M:List Bool):List Bool:=labels.foldl (fun M x=>x.mkv M) M
def relG (s:Sy) (M:List Bool):List Bool:=s.procs.foldl (fun M p=>p.edges.foldl (fun M e=>e.guard.mkv M) M) M
def Ed.relv (M:List Bool) (e:Ed):List Bool:=if 0≤e.var∧M.getD e.var.toNat false=true then e.value.mkv M else M
def relV (s:Sy) (M:List Bool):List Bool:=s.procs.foldl (fun M p=>p.edges.foldl Ed.relv M) M
def Sy.rel (s:Sy) (labels:List Exq):List Bool:=relV s (relV s (relV s (relG s (relL labels [false,false,false]))))
theorem Rep.cut {α:Type} [Ty α] {h:Heap}{v:Value}{l:List α}(R:Rep h v l) {n esz:Nat}{k:IntKind}(hn:n≤l.length):∃v',sliceVV esz v none (some (some (.int k n))) none=some v'∧Rep h v' (l.take n):=by
 obtain⟨p,cap,rfl,h1,h2,h3⟩:=Rep_list.1 R
 have hl:(l.take n).length=n:=by simp;omega
 have hc:n≤cap:=by omega
 cases n with
 | zero=>
  cases p with
  | none=>
   refine⟨.slice none 0 cap,?_,Rep_list.2 ⟨none,cap,by simp,by simp,trivial,fun i hi=>by simp at hi⟩⟩
   simp[sliceVV,bndV]
  | some a=>
   by_cases hz:cap=0
   ·refine⟨.slice (some a) 0 cap,?_,Rep_list.2 ⟨some a,cap,by simp,by simp,trivial,fun i hi=>by simp at hi⟩⟩
    simp[sliceVV,bndV,hz]
   ·refine⟨.slice (some (a.add 0)) 0 cap,?_,Rep_list.2 ⟨some (a.add 0),cap,by simp,by simp,trivial,fun i hi=>by simp at hi⟩⟩
    simp[sliceVV,bndV,hz]
 | succ n=>
  obtain⟨b,off,vs,rfl,_⟩:=h3 0 (by omega)
  refine⟨.slice (some ⟨b,off,none⟩) (n+1) cap,?_,Rep_list.2 ⟨_,cap,by rw[hl],by rw[hl];omega,trivial,fun i hi=>?_⟩⟩
  ·simp[sliceVV,bndV,add_none]
   rw[if_pos (by omega)]
  ·rw[hl] at hi
   obtain⟨b',off',vs,e1,e2,e3⟩:=h3 i (by omega)
   exact⟨b',off',vs,e1,e2,by simpa using e3⟩
@[simp] theorem nilcV_ptr {a:Addr}:nilcV (.pointer (some a))=some (.pointer (some a)):=rfl
instance instTyU8:Ty (BitVec 8) where
 agg:=false
 sz:=1
 rep:=fun _ cs n=>cs=[.int .u8 n.toNat]
 own:=fun r cs n=>r=Heap.nil∧cs=[.int .u8 n.toNat]
 one:=fun _=>rfl
 len:=by rintro h cs x rfl;rfl
 cell:=by rintro h cs x rfl v hv;simp at hv;subst hv;rfl
 mono:=fun _ hr=>hr
 own_rep:=fun ho=>ho.2
instance instFlatU8:Flat (BitVec 8):=⟨fun n=>[.int .u8 n.toNat],fun _=>True,by simp[Ty.rep],by simp[Ty.own]⟩
theorem Rep.Y {h:Heap}{v:Value}{l:List (BitVec 8)}(hr:Rep h v l):((∀(kd:IntKind) (i:Nat),i<l.length→iaV 1 v (.int kd i)=some (elp 1 v i))∧(∀(kd:IntKind) (i:Int),0≤i→i<l.length→iaV 1 v (.int kd i)=some (elp 1 v i.toNat))∧lenVV v=some (.int .i64 l.length)) ∧
  ∀(i:Nat) (hi:i<l.length),hload h (some (elp 1 v i)) none=some (.int .u8 l[i].toNat):=⟨hr.X rfl,fun _ hi=>hr.ldF hi⟩
theorem xor_nn {a b:Int}(ha:0≤a) (ha2:a<9223372036854775808) (hb:0≤b) (hb2:b<9223372036854775808):0≤xorI .i64 a b∧xorI .i64 a b<9223372036854775808:=by
 have e1:(BitVec.ofInt 64 a).toNat=a.toNat:=by rw[BitVec.toNat_ofInt];congr 1;exact Int.emod_eq_of_lt ha (by omega)
 have e2:(BitVec.ofInt 64 b).toNat=b.toNat:=by rw[BitVec.toNat_ofInt];congr 1;exact Int.emod_eq_of_lt hb (by omega)
 have h:a.toNat^^^b.toNat<2^63:=Nat.xor_lt_two_pow (by omega) (by omega)
 have e3:xorI .i64 a b=((a.toNat^^^b.toNat:Nat):Int):=by
  unfold xorI
  rw[show IntKind.i64.bits=64 from rfl,BitVec.toNat_xor,e1,e2]
  exact wrap64 (by omega) (by omega)
 rw[e3]
 omega
abbrev rb (b:Nat) (sl:Value) (p:Int):HP:=bx b [sl,.int .i64 p]
theorem tmod_rng {a b:Int}(ha:0≤a) (hb:0<b):0≤a.tmod b∧a.tmod b<b:=by
 rw[Int.tmod_eq_emod_of_nonneg ha]
 exact⟨Int.emod_nonneg _ (by omega),Int.emod_lt_of_pos _ hb⟩
theorem tdiv_rng {a b:Int}(ha:0≤a) (hb:0<b):0≤a.tdiv b∧a.tdiv b≤a:=by
 rw[Int.tdiv_eq_ediv_of_nonneg ha]
 exact⟨Int.ediv_nonneg ha (by omega),Int.ediv_le_self _ ha⟩
theorem c_pick {g h:Heap}{Γ:List HP}{b:Nat}{sl:Value}{l:List (BitVec 8)}{p n:Int}(R:Rep g sl l) (H:HS g (rb b sl p::Γ) h) (hp:0≤p) (hp2:p<1099511627776) (hn:I64 n) :
  CallE Tryz.prog fn_spec_l16Rd_pick [.pointer (some ⟨b,0,none⟩),.int .i64 n] h (fun u h'=>∃r,u=.int .i64 r∧I64 r∧0≤r∧(1≤n→r<n)∧HS g (rb b sl (p+1)::Γ) h'):=by
 have hL:=R.lt
 have hn1:=hn.1
 have hn2:=hn.2
 refine CallE.gen fun k hk=>EN_spec_l16Rd_pick rfl ?_
 have hb0:hload h (some (.pointer (some ⟨b,0,none⟩))) none=some sl:=H.bxld rfl
 have hb1:hload h (some (.pointer (some ⟨b,1,none⟩))) none=some (.int .i64 p):=H.bxld rfl
 simp -implicitDefEqProofs (disch:=first|omega|(simp only[LnZ];omega))[wrap64,hb0,hb1]
 refine HS.bxst (o:=1) (sz:=1) (u:=.int .i64 (p+1)) H rfl rfl rfl rfl (by simp) fun h2 H=>?_
 replace H:HS g (rb b sl (p+1)::Γ) h2:=H
 have hb0:hload h2 (some (.pointer (some ⟨b,0,none⟩))) none=some sl:=H.bxld rfl
 have hb1:hload h2 (some (.pointer (some ⟨b,1,none⟩))) none=some (.int .i64 (p+1)):=H.bxld rfl
 by_cases a1:n<1
 ·simp -implicitDefEqProofs (disch:=first|omega|(simp only[LnZ];omega))[wrap64,hb0,hb1,a1]
  exact RetK.keep (hk _ _ ⟨0,rfl,⟨by omega,by omega⟩,by omega,fun h=>absurd h (by omega),H⟩)
 obtain⟨ln,hln⟩:∃ln:Int,ln=l.length:=⟨_,rfl⟩
 have hlen:=(R.on H).len
 rw[← hln] at hlen
 by_cases a2:ln=0
 ·simp -implicitDefEqProofs (disch:=first|omega|(simp only[LnZ];omega))[wrap64,hb0,hb1,a1,hlen,a2]
  exact RetK.keep (hk _ _ ⟨0,rfl,⟨by omega,by omega⟩,by omega,fun h=>by omega,H⟩)
 obtain⟨m,rfl⟩:∃m:Nat,p=m:=⟨p.toNat,(Int.toNat_of_nonneg hp).symm⟩
 have hn0:¬n=0:=by omega
 by_cases a3:(m:Int)<ln
 ·have hk3:m<l.length:=by omega
  obtain⟨c,hc⟩:∃c:Int,c=l[m].toNat:=⟨_,rfl⟩
  have hc2:c<256:=by have:=l[m].isLt;omega
  have hc0:0≤c:=by omega
  have hld:=(R.on H).Y.2 m hk3
  rw[← hc] at hld
  obtain⟨r1,r2⟩:=tmod_rng hc0 (show 0<n by omega)
  simp -implicitDefEqProofs (disch:=first|omega|(simp only[LnZ];omega))[wrap64,hb0,hb1,a1,hlen,a2,a3,(R.on H).Y.1.1,hld,hn0]
  exact RetK.keep (hk _ _ ⟨c.tmod n,rfl,⟨by omega,by omega⟩,r1,fun _=>r2,H⟩)
 ·obtain⟨s1,s2⟩:=tmod_rng (a:=(m:Int)) (b:=ln) (by omega) (by omega)
  obtain⟨i1,hi1⟩:∃i1:Nat,(m:Int).tmod ln=i1:=⟨_,(Int.toNat_of_nonneg s1).symm⟩
  obtain⟨t1,t2⟩:=tmod_rng (a:=(m:Int)*7+3) (b:=ln) (by omega) (by omega)
  obtain⟨i2,hi2⟩:∃i2:Nat,((m:Int)*7+3).tmod ln=i2:=⟨_,(Int.toNat_of_nonneg t1).symm⟩
  obtain⟨q1,q2⟩:=tdiv_rng (a:=(m:Int)) (b:=ln) (by omega) (by omega)
  obtain⟨q,hq⟩:∃q:Int,(m:Int).tdiv ln=q:=⟨_,rfl⟩
  rw[hi1] at s1 s2
  rw[hi2] at t1 t2
  rw[hq] at q1 q2
  have hl1:i1<l.length:=by omega
  have hl2:i2<l.length:=by omega
  obtain⟨c,hc⟩:∃c:Int,c=l[i1].toNat:=⟨_,rfl⟩
  have hc2:c<256:=by have:=l[i1].isLt;omega
  have hc0:0≤c:=by omega
  have hld:=(R.on H).Y.2 i1 hl1
  rw[← hc] at hld
  obtain⟨d,hd⟩:∃d:Int,d=l[i2].toNat:=⟨_,rfl⟩
  have hd2:d<256:=by have:=l[i2].isLt;omega
  have hd0:0≤d:=by omega
  have hld2:=(R.on H).Y.2 i2 hl2
  rw[← hd] at hld2
  obtain⟨x,hx⟩:∃x:Int,x=c*131+d*1117+(m:Int)*29+q*53:=⟨_,rfl⟩
  have hx0:0≤x:=by omega
  have hx1:x<9223372036854775808:=by omega
  obtain⟨y1,y2⟩:=tdiv_rng (a:=x) (b:=64) hx0 (by omega)
  obtain⟨z1,z2⟩:=xor_nn hx0 hx1 y1 (by omega)
  obtain⟨w1,w2⟩:=tmod_rng z1 (show 0<n by omega)
  simp -implicitDefEqProofs (disch:=first|omega|(simp only[LnZ];omega))[wrap64,hb0,hb1,a1,hlen,a2,a3,(R.on H).Y.1.1,hi1,hi2,hq,hld,hld2,hn0,← hx]
  exact RetK.keep (hk _ _ ⟨_,rfl,⟨by omega,by omega⟩,w1,fun _=>w2,H⟩)
theorem c_num {g h:Heap}{Γ:List HP}{b:Nat}{sl v:Value}{l:List (BitVec 8)}{p:Int}{xs:List Int}(R:Rep g sl l) (H:HS g (ow v xs::rb b sl p::Γ) h) (hp:0≤p) (hp2:p<1099511627776) (hx:xs≠[]) :
  CallE Tryz.prog fn_spec_l16Rd_num [.pointer (some ⟨b,0,none⟩),v] h (fun u h'=>∃r,u=.int .i64 r∧I64 r∧r∈xs∧HS g (rb b sl (p+1)::Γ) h'):=by
 have hL:=H.rep.lt
 have hpos:0<xs.length:=List.length_pos_iff.2 hx
 refine CallE.gen fun k hk=>EN_spec_l16Rd_num rfl ?_
 simp -implicitDefEqProofs (disch:=first|omega|(simp only[LnZ];omega))[wrap64,H.rep.len]
 refine (c_pick R H.sw1 hp hp2 ⟨by omega,by omega⟩).go ?_
 rintro _ h1 ⟨r,rfl,hr,hr0,hr1,H⟩
 obtain⟨i,rfl⟩:∃i:Nat,r=i:=⟨r.toNat,(Int.toNat_of_nonneg hr0).symm⟩
 have hi:i<xs.length:=by have:=hr1 (by omega);omega
 have hok:=H.sw1.rep.okI hi
 simp -implicitDefEqProofs (disch:=first|omega|(simp only[LnZ];omega))[wrap64,H.sw1.rep.I]
 exact RetK.keep (hk _ _ ⟨xs[i],rfl,⟨hok.1,hok.2⟩,List.getElem_mem hi,H.sw1.drop⟩)
theorem c_l16Open {h:Heap}{v:Value}{l:List (BitVec 8)}(R:Rep h v l):CallE Tryz.prog fn_spec_l16Open [v] h (fun u h'=>∃b sl,∃l':List (BitVec 8),u=.pointer (some ⟨b,0,none⟩)∧Rep h sl l'∧HS h [rb b sl 0] h'):=by
 have hL:=R.lt
 refine CallE.gen fun k hk=>EN_spec_l16Open rfl ?_
 by_cases a1:(2000:Int)<l.length
 ·obtain⟨v',e1,R'⟩:=R.cut (n:=2000) (esz:=1) (k:=.i64) (by omega)
  have hO:=R'.one
  have e2:sliceVV 1 v none (some (some (.int .i64 2000))) none=some v':=e1
  simp -implicitDefEqProofs (disch:=first|omega|(simp only[LnZ];omega))[wrap64,R.len,a1,e2,setC,hO,R'.cells]
  refine HS.init.alloc rfl fun b h1 H=>?_
  simp -implicitDefEqProofs (disch:=omega)[wrap64]
  exact RetK.keep (hk _ _ ⟨b,v',_,rfl,R',H⟩)
 ·have hO:=R.one
  simp -implicitDefEqProofs (disch:=first|omega|(simp only[LnZ];omega))[wrap64,R.len,a1,setC,hO,R.cells]
  refine HS.init.alloc rfl fun b h1 H=>?_
  simp -implicitDefEqProofs (disch:=omega)[wrap64]
  exact RetK.keep (hk _ _ ⟨b,v,_,rfl,R,H⟩)
end Go.Proofs.YtedbaenahnfhfaaGreat

namespace Go.Proofs.YtedbaenahnfhfaaGreat
open Go Go.RowKit
def whole (w:World):Heap:=fun b=>w.heap[b]?
theorem calls_law {P:Program}{f:FuncId}{fn:Func}{args:List Value}{W:World}(hf:P.funcs[f]? = some fn) (hname:(fn.name == "runtime.NumGoroutine")=false) (hb:fn.body.isSome=true)
  (h:CallE P f args (whole W) (fun u h'=>(whole W).le h'∧u=.bool true)):Calls P f args.toArray W fun e W'=>e=.returned (.bool true)∧Below W.heap.size W W':=by
 have h1:=h W (fun b o hb=>hb)
 obtain⟨bd,hbd⟩:=Option.isSome_iff_exists.1 hb
 have hname':¬fn.name = "runtime.NumGoroutine":=by simpa using hname
 have hcall:(callFunc f args.toArray).run P W=.ok (.enter f args.toArray) W:=by
  simp[callFunc,hf,hname',hbd]
 rw[hcall] at h1
 refine Calls.mono h1 ?_
 rintro e W' ⟨v,h',rfl,⟨hl,rfl⟩,hs,hF⟩
 refine⟨rfl,hF.os,hF.tape,hF.output,hF.size,?_⟩
 intro k hk
 have h2:whole W k=some W.heap[k]:=by simp[whole,hk]
 rw[hs _ _ (hl _ _ h2)]
 simp[hk]
section
variable {H:Type}{enc:TypeId×Value→H}{P:Program}
theorem trodAll_below (hl:laidOutB P=true) {W W':World}:∀{ts:List TypeId}{vs:List Value}{ds:List (DataW H)}{ps:List MemPlace},(∀t∈ts,P.readableRec t=true∧t<P.types.size) →
  DataW.TrodAll enc P W 0 (fun _=>true) true ts vs ds ps→Below W.heap.size W W'→(∀x∈ps,x.block<W.heap.size)→DataW.TrodAll enc P W' 0 (fun b=>decide (b<W.heap.size)) true ts vs ds ps
 | [],[],[],_,_,h,_,_=>h
 | _::_,_::_,_::_,_,ht,⟨p,q,h1,h2,e⟩,hb,hlt=>
  ⟨p,q,Below.trod hl (ht _ (by simp)).1 (ht _ (by simp)).2 h1 hb (fun x hx=>hlt x (by rw[e];exact List.mem_append_left _ hx)),
   trodAll_below hl (fun t h=>ht t (by simp[h])) h2 hb (fun x hx=>hlt x (by rw[e];exact List.mem_append_right _ hx)),e⟩
theorem kept_below {W W':World}(hb:Below W.heap.size W W') (may:MemPlace→Prop):W.keptBut W' may:=by
 refine⟨hb.os,hb.output,fun i hi=>?_⟩
 rw[hb.block i hi]
 split
 ·rename_i h1 h2;rw[h1] at h2;simp only[Option.some.injEq,Obj.cells.injEq] at h2;obtain⟨rfl,rfl,rfl⟩:=h2;exact⟨rfl,rfl,rfl,fun _ _=>rfl⟩
 ·rename_i h1 h2;rw[h1] at h2;simp only[Option.some.injEq,Obj.map.injEq] at h2;obtain⟨rfl,rfl⟩:=h2;exact .inr ⟨rfl,rfl⟩
 ·rfl
theorem post_law {f:Func}{s:ChangeSpec}{W W':World}{args:Array Value}{ds gs:List (DataW H)}{before:List MemPlace}(hl:laidOutB P=true) (hvars:s.vars=[]) (ht:∀t∈f.params.toList,P.readableRec t=true∧t<P.types.size)
  (hr:∃t,f.resultTypes = #[t]∧P.underlying t=some .bool) (hspec:(s.fn H (ds++gs)).results=[.lit (.bool true)]∧(s.fn H (ds++gs)).args=ds∧(s.fn H (ds++gs)).vars=[])
  (hW:DataW.Whole enc P f.params.toList s.vars false W args.toList ds gs before) (hb:Below W.heap.size W W'):s.post enc P f false true false false W args (.bool true) W':=by
 obtain⟨t,ht1,ht2⟩:=hr
 obtain⟨h1,h2,h3⟩:=hspec
 have hW':=hW
 obtain⟨p,q,hA,hV,rfl,hz,hn⟩:=hW
 rw[hvars] at hV
 obtain⟨rfl,rfl⟩:=Go.ChangeShapes.trodVars_none hV
 have hlt:∀x∈p++[],x.block<W.heap.size:=fun x hx=>by simpa using hW'.lt x hx
 refine⟨ds,[],p++[],[],p,[],hW',?_,?_,?_,World.keptBut_mono (fun x hx=>⟨by simpa using hx,.inr (.inl (by simpa using hx))⟩) (kept_below hb (fun x=>x∈p)),by simp⟩
 ·rw[h1,ht1]
  exact trodAll_cons_mk (shut_bool ht2 _) Go.ChangeShapes.trodAll_mk0
 ·rw[h2]
  exact trodAll_below hl ht hA hb (fun x hx=>hlt x (by simpa using hx))
 ·rw[h3,hvars];rfl
end
def wOk {H:Type}(P:Program) (t:TypeId) (d:DataW H):Prop:=∀n∈d.weights P t,n≤reachBytes
theorem wOk_all {H:Type}{P:Program}{e:TypeId}:∀{l:List (DataW H)},(∀n∈DataW.weightsAll P e l,n≤reachBytes)→∀d∈l,wOk P e d
 | [],_,d,hd=>by simp at hd
 | x::l,h,d,hd=>by
  simp only[DataW.weightsAll,List.mem_append] at h
  rcases List.mem_cons.1 hd with rfl | hd
  ·exact fun n hn=>h n (.inl hn)
  ·exact wOk_all (fun n hn=>h n (.inr hn)) d hd
theorem wOk_each {H:Type}{P:Program}:∀{ts:List TypeId}{l:List (DataW H)},(∀n∈DataW.weightsEach P ts l,n≤reachBytes)→∀(i:Nat) t d,ts[i]? = some t→l[i]? = some d→wOk P t d
 | [],_,_,i,t,d,h1,_=>by simp at h1
 | _::_,[],_,i,t,d,_,h2=>by simp at h2
 | t0::ts,x::l,h,0,t,d,h1,h2=>by
  simp at h1 h2;subst h1 h2
  exact fun n hn=>h n (by simp only[DataW.weightsEach,List.mem_append];exact .inl hn)
 | t0::ts,x::l,h,i+1,t,d,h1,h2=>wOk_each (ts:=ts) (l:=l) (fun n hn=>h n (by simp only[DataW.weightsEach,List.mem_append];exact .inr hn)) i t d (by simpa using h1) (by simpa using h2)
def RdT (P:Program) (t:TypeId) (α:Type) [Ty α]:Prop:=∀{H:Type}(enc:TypeId×Value→H) (W:World) (sp:Nat→Bool) (fuel:Nat) (cs:List Value) (x:DataW H×List MemPlace),
 DataW.trod enc P W 0 sp true fuel t cs=some x→wOk P t x.1→∃y:α,Ty.rep (whole W) cs y
section
variable {P:Program}{t:TypeId}
theorem cells_whole {W:World}{b off:Nat}:∀{n:Nat}{l:List Value},W.cells? 0 ⟨b,off,none⟩ n=some l→hcells (whole W) b off n=some l:=by
 have key:∀n o l,(List.range' o n).mapM (fun i=>W.cell? ((⟨b,off,none⟩:Addr).add i))=some l→hcells (whole W) b (off+o) n=some l:=by
  intro n
  induction n with
  | zero=>intro o l h;simpa[hcells] using h
  | succ n ih=>
   intro o l h
   rw[List.range'_succ,List.mapM_cons] at h
   simp only[Option.bind_eq_bind,Option.bind_eq_some_iff,Option.pure_def,Option.some.injEq] at h
   obtain⟨v,h1,r,h2,rfl⟩:=h
   have h3:=ih (o+1) r h2
   have h4:hcell (whole W) b (off+o)=some v:=by
    rw[addr_add0] at h1
    simp only[World.cell?,Option.isSome_none,Bool.false_eq_true,if_false] at h1
    simp only[hcell,whole]
    split at h1
    ·rename_i hb;rw[hb];exact h1
    ·simp at h1
   simp only[hcells,h4]
   rw[show off+o+1=off+(o+1) by omega,h3]
 intro n l h
 simp only[World.cells?,Nat.zero_le,if_true] at h
 rw[List.range_eq_range'] at h
 exact key n 0 l h
theorem cells_spot {W:World}{b off s n:Nat}(hn:0<n):W.cells? 0 ⟨b,off,some s⟩ n=none:=by
 simp only[World.cells?,Nat.zero_le,if_true]
 cases n with
 | zero=>omega
 | succ n=>
  rw[List.range_succ_eq_map,List.mapM_cons]
  have:W.cell? ((⟨b,off,some s⟩:Addr).add 0)=none:=by
   simp only[Addr.add,if_true,World.cell?]
   split<;>simp
  rw[this];rfl
theorem rd_list {α:Type} [Ty α] {e:TypeId}(ht:P.underlying t=some (.slice e)) (hc:P.cellsOf e=Ty.sz α) (hpos:0<Ty.sz α) (hby:0<P.bytesOf e) (he:RdT P e α):RdT P t (List α):=by
 intro H enc W sp fuel cs x h hwt
 rcases Go.Deep.open_slice ht h with ⟨rfl,_⟩ | ⟨a,len,cap,m,n,D,Pl,rfl,_,hlen,hcap,hm,rfl,hel⟩
 ·exact⟨[],none,0,rfl,by simp,trivial,fun i hi=>by simp at hi⟩
 ·have hle:len≤m:=by rw[hm];split<;>omega
  simp only[wOk,DataW.weights,ht,List.mem_cons,List.mem_append] at hwt
  have hsz:len≤reachBytes:=by
   have h1:=hwt _ (.inl rfl)
   simp only[List.length_map,List.length_range] at h1
   have h2:len*1≤(len+(m-len))*P.bytesOf e:=Nat.mul_le_mul (by omega) hby
   omega
  have hwe:=wOk_all (fun n hn=>hwt n (.inr (.inl hn)))
  have hall:∀i,i<len→∃y:α,∃b off vs,some a=some (⟨b,off,none⟩:Addr)∧hcells (whole W) b (off+i*Ty.sz α) (Ty.sz α)=some vs∧Ty.rep (whole W) vs y:=by
   intro i hi
   obtain⟨cs',h1,h2⟩:=hel i (by omega)
   obtain⟨y,hy⟩:=he enc W sp n cs' _ h2 (hwe _ (List.mem_map.2 ⟨i,by simpa using hi,rfl⟩))
   obtain⟨b,off,spot⟩:=a
   rw[hc] at h1
   -- the address is plain: its first element could be read
   have h0:spot=none:=by
    cases spot with
    | none=>rfl
    | some s=>
     obtain⟨cs0,g1,_⟩:=hel 0 (by omega)
     rw[hc] at g1
     simp only[Nat.zero_mul,Addr.add,if_true] at g1
     rw[cells_spot hpos] at g1
     simp at g1
   subst h0
   rw[addr_add0] at h1
   exact⟨y,b,off,cs',rfl,cells_whole h1,hy⟩
  have hch:∃l:List α,l.length=len∧∀i (hi:i<l.length),∃b off vs,some a=some (⟨b,off,none⟩:Addr)∧hcells (whole W) b (off+i*Ty.sz α) (Ty.sz α)=some vs∧Ty.rep (whole W) vs l[i]:=by
   refine⟨(List.finRange len).map fun i=>Classical.choose (hall i.1 i.2),by simp,fun i hi=>?_⟩
   have hi':i<len:=by simpa using hi
   have:=Classical.choose_spec (hall i hi')
   simpa using this
  obtain⟨l,hl,hr⟩:=hch
  refine⟨l,some a,cap,by rw[hl],⟨by omega,?_⟩,trivial,hr⟩
  have:reachBytes<4611686018427387904:=by decide
  omega
end
section
variable {P:Program}{W:World}{r:Reach}{base:Nat}{t e:TypeId}{v:Value}
theorem okWide_slice (ht:P.underlying t=some (.slice e)) (h:Value.okWide P W r base t v):∃a n c,v=.slice a n c:=by
 unfold Value.okWide at h
 rw[ht] at h
 simp only[Cell.okWide,ht] at h
 cases v<;>simp[Cell.ok,ht] at h ⊢
end
theorem rd_u8 {P:Program}{t:TypeId}(ht:P.underlying t=some (.int .u8)):RdT P t (BitVec 8):=by
 intro H enc W sp fuel cs x h hwt
 cases fuel with
 | zero=>simp[DataW.trod] at h
 | succ n=>
  unfold DataW.trod at h
  rw[ht] at h
  split at h
  case h_2 k k' m h1=>
   simp only[Option.some.injEq,TypeDesc.int.injEq] at h1
   subst h1
   split at h
   case isTrue hc=>
    obtain⟨rfl,hw⟩:=hc
    have:=bounds_u8 hw
    refine⟨BitVec.ofNat 8 m.toNat,?_⟩
    show _=[Value.int .u8 ((BitVec.ofNat 8 m.toNat).toNat:Int)]
    have e:((BitVec.ofNat 8 m.toNat).toNat:Int)=m:=by
     rw[BitVec.toNat_ofNat,Nat.mod_eq_of_lt (by omega)];omega
    rw[e]
   case isFalse=>simp at h
  all_goals simp_all
def H_laws_FnMonitorFormula:Hint:=⟨[(0,false),(1,false),(4,false),(5,true),(6,false),(7,true),(8,true),(9,false),(10,false),(11,false)],[]⟩
abbrev K4_1:C:=.seq (.pl <| .e 10 8 <|
 .m 10 9 <|
 .x 11 (.un .not (.v 10)) <|
 .m 12 11 <|
 .n 12 (.px (some 13) (.mv (.v 8))) <|
 .n 12 (.px (some 14) (.mv (.v 7))) <|
 .n 12 (.px (some 15) (.bin .eql (.v 14) (.c (.int .i64 1)))) <|
 .n 12 (.px (some 16) (.eqb false (.v 13) (.v 15))) <|
 .x 17 (.pick (.v 12) (.c (.bool true)) (.v 16)) <|
 .m 2 17 .done) (.ret)
abbrev K4_2:Pl:=.m 21 20 <|
 .x 22 (.extract 0 (.v 21)) <|
 .x 23 (.extract 1 (.v 21)) <|
 .m 8 22 <|
 .m 9 23 .done
abbrev K4_3:Pl:=.x 18 (.build [.slice none 0 0,.slice none 0 0] [(0,1,.v 15),(1,1,.v 17)]) <|
 .c 20 (.call fn_impl_Satisfies [.v 18,.v 19]) K4_2
abbrev K4_4:Pl:=.c 15 (.app 8 1 [.int .i64 0] (.o (.v 12)) (.o (.v 14))) K4_3
abbrev K4_5:C:=.seq (.pl <| .e 10 14 <|
 .o (.psl 10 [] []) <|
 .m 11 4 <|
 .a 13 6 <|
 .g 14 13 6 0 <|
 .a 16 6 <|
 .g 17 16 6 1 <|
 .o (.pget (some 19) none 3 0 (some 3)) <|
 .c 12 (.app 8 1 [.int .i64 0] (.p 0 10) (.o (.v 11))) K4_4) K4_1
abbrev K4_6:Pl:=.x 14 (.bin .eql (.v 10) (.v 13)) <|
 .m 2 14 .done
abbrev K4_7:C:=.seq (.pl <| .e 10 5 <|
 .m 10 7 <|
 .o (.pget (some 11) none 3 0 (some 3)) <|
 .m 12 4 <|
 .c 13 (.call fn_spec_MonitorFormula [.v 11,.v 12]) K4_6) (.ret)
abbrev K4_8:C:=.cond 10 (.v 22) K4_7 (.skip)
abbrev K4_9:Pl:=.x 14 (.bin .neq (.v 10) (.v 13)) <|
 .m 15 14 <|
 .n 15 (.px (some 16) (.mv (.v 7))) <|
 .n 15 (.px (some 17) (.bin .eql (.v 16) (.c (.int .i64 0)))) <|
 .x 18 (.pick (.v 15) (.c (.bool true)) (.v 17)) <|
 .m 19 18 <|
 .n 19 (.px (some 20) (.mv (.v 7))) <|
 .n 19 (.px (some 21) (.bin .geq (.v 20) (.c (.int .i64 3)))) <|
 .x 22 (.pick (.v 19) (.c (.bool true)) (.v 21)) .done
abbrev K4_10:C:=.seq (.seq (.pl <| .e 10 13 <|
 .m 10 7 <|
 .o (.pget (some 11) none 3 0 (some 3)) <|
 .m 12 4 <|
 .c 13 (.call fn_spec_MonitorFormula [.v 11,.v 12]) K4_9) K4_8) K4_5
abbrev K4_11:Pl:=.m 7 12 .done
abbrev K4_12:C:=.seq (.pl <| .e 10 3 <|
 .o (.pget (some 10) none 3 0 (some 3)) <|
 .m 11 4 <|
 .c 12 (.call fn_impl_MonitorFormula [.v 10,.v 11]) K4_11) K4_10
abbrev K4_13:Pl:=.m 12 11 <|
 .x 13 (.extract 0 (.v 12)) <|
 .x 14 (.extract 1 (.v 12)) <|
 .o (.pnew 5 (.c (.agg #[.slice none 0 0,.slice none 0 0,.slice none 0 0])) []) <|
 .o (.pnew 6 (.c (.agg #[.slice none 0 0,.slice none 0 0])) []) <|
 .o (.pset none 5 0 3 (.v 13)) <|
 .o (.pset none 6 0 2 (.v 14)) .done
abbrev K4_14:C:=.seq (.pl <| .e 10 5 <|
 .m 10 1 <|
 .c 11 (.call fn_spec_DrawAccepts [.v 10]) K4_13) K4_12
abbrev K4_15:Pl:=.m 12 11 <|
 .x 13 (.extract 0 (.v 12)) <|
 .x 14 (.extract 1 (.v 12)) <|
 .o (.pnew 3 (.c (.agg #[.int .i64 0,.int .i64 0,.slice none 0 0])) []) <|
 .o (.pset none 3 0 3 (.v 13)) <|
 .m 4 14 .done
abbrev K4_16:C:=.seq (.pl <| .e 10 5 <|
 .m 10 0 <|
 .c 11 (.call fn_spec_DrawMonitorFormula [.v 10]) K4_15) K4_14
abbrev K4_17:C:=.seq (.pl <| .e 10 0 <|
 .x 2 (.mv (.c (.bool true))) .done) (.ret)
abbrev K4_18:C:=.cond 10 (.v 17) K4_17 (.skip)
abbrev K4_19:C:=.seq (.seq (.pl <| .e 10 8 <|
 .m 10 0 <|
 .x 11 (.lenV (.v 10)) <|
 .x 12 (.bin .gtr (.v 11) (.c (.int .i64 1048576))) <|
 .m 13 12 <|
 .n 13 (.px (some 14) (.mv (.v 1))) <|
 .n 13 (.px (some 15) (.lenV (.v 14))) <|
 .n 13 (.px (some 16) (.bin .gtr (.v 15) (.c (.int .i64 1048576)))) <|
 .x 17 (.pick (.v 13) (.c (.bool true)) (.v 16)) .done) K4_18) K4_16
abbrev B_laws_FnMonitorFormula:C:=.seq (.pl <| .e 10 0 <|
 .x 2 (.mv (.c (.bool false))) .done) K4_19
def R_laws_FnMonitorFormula:FIR:=⟨B_laws_FnMonitorFormula,10,[(2,none)]⟩
theorem IR_laws_FnMonitorFormula:cfun Tryz.prog H_laws_FnMonitorFormula Tryz.f4=some R_laws_FnMonitorFormula:=by kernel_rfl
theorem EN_laws_FnMonitorFormula:ENT Tryz.prog B_laws_FnMonitorFormula [(2,none)] 2 10 fn_laws_FnMonitorFormula:=fun hargs hw=>enter Tryz.func4 rfl IR_laws_FnMonitorFormula hargs hw
def H_spec_DrawAccepts:Hint:=⟨[(0,false),(2,true),(3,true),(4,false),(5,true)],[]⟩
abbrev K13_1:Pl:=.o (.pset none 1 0 3 (.v 5)) <|
 .o (.pset none 2 0 2 (.v 9)) .done
abbrev K13_2:Pl:=.c 9 (.call fn_spec_l6Mutate [.v 6,.v 8]) K13_1
abbrev K13_3:C:=.seq (.pl <| .e 5 5 <|
 .o (.pget (some 5) none 4 0 (some 3)) <|
 .m 6 3 <|
 .m 7 3 <|
 .c 8 (.call fn_spec_l6Lasso [.v 7]) K13_2) (.ret)
abbrev K13_4:Pl:=.o (.pnew 4 (.c (.agg #[.slice none 0 0,.slice none 0 0,.slice none 0 0])) []) <|
 .o (.pset none 4 0 3 (.v 8)) .done
abbrev K13_5:Pl:=.c 8 (.call fn_spec_l7Mutate [.v 5,.v 7]) K13_4
abbrev K13_6:C:=.seq (.pl <| .e 5 4 <|
 .m 5 3 <|
 .m 6 3 <|
 .c 7 (.call fn_spec_l7Automaton [.v 6]) K13_5) K13_3
abbrev K13_7:Pl:=.m 3 6 .done
abbrev K13_8:C:=.seq (.pl <| .e 5 2 <|
 .m 5 0 <|
 .c 6 (.call fn_spec_l16Open [.v 5]) K13_7) K13_6
abbrev B_spec_DrawAccepts:C:=.seq (.pl <| .e 5 0 <|
 .o (.pnew 1 (.c (.agg #[.slice none 0 0,.slice none 0 0,.slice none 0 0])) []) <|
 .o (.pnew 2 (.c (.agg #[.slice none 0 0,.slice none 0 0])) []) .done) K13_8
def R_spec_DrawAccepts:FIR:=⟨B_spec_DrawAccepts,5,[(1,some (some 3)),(2,some (some 2))]⟩
theorem IR_spec_DrawAccepts:cfun Tryz.prog H_spec_DrawAccepts Tryz.f13=some R_spec_DrawAccepts:=by kernel_rfl
theorem EN_spec_DrawAccepts:ENT Tryz.prog B_spec_DrawAccepts [(1,some (some 3)),(2,some (some 2))] 1 5 fn_spec_DrawAccepts:=fun hargs hw=>enter Tryz.func13 rfl IR_spec_DrawAccepts hargs hw
def H_spec_l6Lasso:Hint:=⟨[(0,false),(2,true),(3,true)],[]⟩
abbrev K31_1:C:=.seq (.pl <| .e 3 1 <|
 .o (.pget (some 3) none 2 0 (some 2)) <|
 .o (.pset none 1 0 2 (.v 3)) .done) (.ret)
abbrev K31_2:Pl:=.a 10 2 <|
 .o (.pset (some 10) 2 1 1 (.v 9)) .done
abbrev K31_3:Pl:=.c 9 (.app 8 1 [.int .i64 0] (.o (.v 6)) (.o (.v 8))) K31_2
abbrev K31_4:C:=.pl <| .e 3 8 <|
 .o (.psl 3 [] []) <|
 .a 4 2 <|
 .g 5 4 2 1 <|
 .a 7 2 <|
 .g 8 7 2 1 <|
 .c 6 (.app 8 1 [.int .i64 0] (.p 0 3) (.o (.v 5))) K31_3
abbrev K31_5:C:=.cond 3 (.v 5) K31_4 (.skip)
abbrev K31_6:Pl:=.x 5 (.bin .eql (.v 4) (.c (.int .i64 0))) .done
abbrev K31_7:C:=.seq (.seq (.pl <| .e 3 3 <|
 .m 3 0 <|
 .c 4 (.call fn_spec_l16Rd_pick [.v 3,.c (.int .i64 4)]) K31_6) K31_5) K31_1
abbrev K31_8:Pl:=.x 13 (.build [.slice none 0 0,.slice none 0 0] [(0,1,.v 7),(1,1,.v 12)]) <|
 .o (.pnew 2 (.c (.agg #[.slice none 0 0,.slice none 0 0])) []) <|
 .o (.pset none 2 0 2 (.v 13)) .done
abbrev K31_9:Pl:=.c 12 (.call fn_spec_l6Word [.v 8,.v 11]) K31_8
abbrev K31_10:Pl:=.c 11 (.call fn_spec_l16Rd_num [.v 9,.v 10]) K31_9
abbrev K31_11:Pl:=.m 8 0 <|
 .m 9 0 <|
 .c 10 (.bls 1 4 [.int .i64 0] [(0,1,.c (.int .i64 2)),(1,1,.c (.int .i64 1)),(2,1,.c (.int .i64 3)),(3,1,.c (.int .i64 4))]) K31_10
abbrev K31_12:Pl:=.c 7 (.call fn_spec_l6Word [.v 3,.v 6]) K31_11
abbrev K31_13:Pl:=.c 6 (.call fn_spec_l16Rd_num [.v 4,.v 5]) K31_12
abbrev K31_14:C:=.seq (.pl <| .e 3 11 <|
 .m 3 0 <|
 .m 4 0 <|
 .c 5 (.bls 1 5 [.int .i64 0] [(0,1,.c (.int .i64 2)),(1,1,.c (.int .i64 0)),(2,1,.c (.int .i64 3)),(3,1,.c (.int .i64 1)),(4,1,.c (.int .i64 5))]) K31_13) K31_7
abbrev B_spec_l6Lasso:C:=.seq (.pl <| .e 3 0 <|
 .o (.pnew 1 (.c (.agg #[.slice none 0 0,.slice none 0 0])) []) .done) K31_14
def R_spec_l6Lasso:FIR:=⟨B_spec_l6Lasso,3,[(1,some (some 2))]⟩
theorem IR_spec_l6Lasso:cfun Tryz.prog H_spec_l6Lasso Tryz.f31=some R_spec_l6Lasso:=by kernel_rfl
theorem EN_spec_l6Lasso:ENT Tryz.prog B_spec_l6Lasso [(1,some (some 2))] 1 3 fn_spec_l6Lasso:=fun hargs hw=>enter Tryz.func31 rfl IR_spec_l6Lasso hargs hw
def H_spec_l6Mutate:Hint:=⟨[(0,false),(1,false),(3,true),(4,true),(5,true),(16,false)],[[1,2,5]]⟩
abbrev K30_1:C:=.seq (.pl <| .e 6 1 <|
 .o (.pget (some 6) none 4 0 (some 2)) <|
 .o (.pset none 3 0 2 (.v 6)) .done) (.ret)
abbrev K30_2:Pl:=.a 7 4 <|
 .o (.pset (some 7) 4 1 1 (.v 6)) .done
abbrev K30_3:C:=.pl <| .e 6 2 <|
 .c 6 (.bls 1 0 [.int .i64 0] []) K30_2
abbrev K30_4:Pl:=.x 11 (.ia 1 (.v 7) (.c (.int .i64 0))) <|
 .o (.ex none (.store 1 (.v 11) (.v 10))) .done
abbrev K30_5:Pl:=.c 10 (.call fn_spec_l16Rd_num [.v 8,.v 9]) K30_4
abbrev K30_6:C:=.pl <| .e 6 6 <|
 .a 6 4 <|
 .g 7 6 4 1 <|
 .m 8 0 <|
 .c 9 (.bls 1 4 [.int .i64 0] [(0,1,.c (.int .i64 8)),(1,1,.c (.int .i64 (-1))),(2,1,.c (.int .i64 7)),(3,1,.c (.int .i64 9223372036854775807))]) K30_5
abbrev K30_7:Pl:=.a 13 4 <|
 .o (.pset (some 13) 4 0 1 (.v 12)) .done
abbrev K30_8:Pl:=.o (.psl 11 [.int .i64 0] [(0,1,.v 10)]) <|
 .c 12 (.app 8 1 [.int .i64 0] (.o (.v 7)) (.p 1 11)) K30_7
abbrev K30_9:Pl:=.c 10 (.call fn_spec_l16Rd_num [.v 8,.v 9]) K30_8
abbrev K30_10:C:=.pl <| .e 6 8 <|
 .a 6 4 <|
 .g 7 6 4 0 <|
 .m 8 0 <|
 .c 9 (.bls 1 3 [.int .i64 0] [(0,1,.c (.int .i64 8)),(1,1,.c (.int .i64 0)),(2,1,.c (.int .i64 (-9223372036854775808)))]) K30_9
abbrev K30_11:Pl:=.a 10 4 <|
 .o (.pset (some 10) 4 0 1 (.v 9)) .done
abbrev K30_12:C:=.block 2 (.pl <| .e 6 5 <|
 .a 6 4 <|
 .g 7 6 4 0 <|
 .o (.psl 8 [.int .i64 0] [(0,1,.c (.int .i64 1))]) <|
 .c 9 (.app 8 1 [.int .i64 0] (.o (.v 7)) (.p 1 8)) K30_11)
abbrev K30_13:C:=.cond 6 (.v 12) (.skip) (.exit 1)
abbrev K30_14:Pl:=.x 11 (.bin .add (.c (.int .i64 80)) (.v 10)) <|
 .x 12 (.bin .lss (.v 8) (.v 11)) .done
abbrev K30_15:C:=.seq (.seq (.pl <| .e 6 7 <|
 .a 6 4 <|
 .g 7 6 4 0 <|
 .x 8 (.lenV (.v 7)) <|
 .m 9 0 <|
 .c 10 (.call fn_spec_l16Rd_pick [.v 9,.c (.int .i64 2)]) K30_14) K30_13) K30_12
abbrev K30_16:C:=.block 1 (.loop 6 [1,2,5] K30_15)
abbrev K30_17:C:=.cond 6 (.v 7) K30_16 (.skip)
abbrev K30_18:C:=.seq (.pl <| .e 6 2 <|
 .x 6 (.bin .eql (.v 5) (.c (.int .i64 3))) <|
 .m 7 6 .done) K30_17
abbrev K30_19:C:=.cond 6 (.v 7) K30_10 K30_18
abbrev K30_20:C:=.seq (.pl <| .e 6 2 <|
 .x 6 (.bin .eql (.v 5) (.c (.int .i64 2))) <|
 .m 7 6 .done) K30_19
abbrev K30_21:C:=.cond 6 (.v 7) K30_6 K30_20
abbrev K30_22:C:=.seq (.pl <| .e 6 2 <|
 .x 6 (.bin .eql (.v 5) (.c (.int .i64 1))) <|
 .m 7 6 .done) K30_21
abbrev K30_23:C:=.cond 6 (.v 7) K30_3 K30_22
abbrev K30_24:C:=.block 0 (.seq (.pl <| .e 6 2 <|
 .x 6 (.bin .eql (.v 5) (.c (.int .i64 0))) <|
 .m 7 6 .done) K30_23)
abbrev K30_25:C:=.seq (.seq (.pl <| .e 6 1 <|
 .m 6 0 <|
 .c 5 (.call fn_spec_l16Rd_pick [.v 6,.c (.int .i64 40)]) .done) K30_24) K30_1
abbrev K30_26:Pl:=.x 14 (.build [.slice none 0 0,.slice none 0 0] [(0,1,.v 9),(1,1,.v 13)]) <|
 .o (.pset none 4 0 2 (.v 14)) .done
abbrev K30_27:Pl:=.c 13 (.app 8 1 [.int .i64 0] (.p 0 10) (.o (.v 12))) K30_26
abbrev K30_28:C:=.seq (.pl <| .e 6 9 <|
 .o (.psl 6 [] []) <|
 .a 7 2 <|
 .g 8 7 2 0 <|
 .o (.psl 10 [] []) <|
 .a 11 2 <|
 .g 12 11 2 1 <|
 .o (.pnew 4 (.c (.agg #[.slice none 0 0,.slice none 0 0])) []) <|
 .c 9 (.app 8 1 [.int .i64 0] (.p 0 6) (.o (.v 8))) K30_27) K30_25
abbrev B_spec_l6Mutate:C:=.seq (.pl <| .e 6 0 <|
 .o (.pnew 2 (.v 1) []) <|
 .o (.pnew 3 (.c (.agg #[.slice none 0 0,.slice none 0 0])) []) .done) K30_28
def R_spec_l6Mutate:FIR:=⟨B_spec_l6Mutate,6,[(3,some (some 2))]⟩
theorem IR_spec_l6Mutate:cfun Tryz.prog H_spec_l6Mutate Tryz.f30=some R_spec_l6Mutate:=by kernel_rfl
theorem EN_spec_l6Mutate:ENT Tryz.prog B_spec_l6Mutate [(3,some (some 2))] 2 6 fn_spec_l6Mutate:=fun hargs hw=>enter Tryz.func30 rfl IR_spec_l6Mutate hargs hw
def H_spec_l7Automaton:Hint:=⟨[(0,false),(2,true),(3,true),(4,false),(5,false),(6,true),(7,false),(8,false),(9,false)],[[2,3,7,8],[2,3,6,8]]⟩
abbrev K29_1:C:=.seq (.pl <| .e 9 1 <|
 .o (.pget (some 9) none 5 0 (some 3)) <|
 .o (.pset none 1 0 3 (.v 9)) .done) (.ret)
abbrev K29_2:C:=.pl <| .e 9 2 <|
 .m 9 7 <|
 .x 10 (.bin .sub (.v 9) (.c (.int .i64 1))) <|
 .m 7 10 .done
abbrev K29_3:Pl:=.a 25 5 <|
 .o (.pset (some 25) 5 2 1 (.v 24)) .done
abbrev K29_4:Pl:=.x 22 (.build [.int .i64 0,.int .i64 0,.int .i64 0,.int .i64 0] [(0,1,.v 13),(1,1,.v 14),(2,1,.v 18),(3,1,.v 21)]) <|
 .o (.psl 23 [.int .i64 0,.int .i64 0,.int .i64 0,.int .i64 0] [(0,4,.v 22)]) <|
 .c 24 (.app 32 4 [.int .i64 0,.int .i64 0,.int .i64 0,.int .i64 0] (.o (.v 10)) (.p 1 23)) K29_3
abbrev K29_5:Pl:=.x 18 (.bin .and (.v 16) (.v 17)) <|
 .c 21 (.call fn_spec_l16Rd_pick [.v 19,.v 20]) K29_4
abbrev K29_6:Pl:=.c 16 (.call fn_spec_l16Rd_pick [.v 15,.c (.int .i64 8)]) K29_5
abbrev K29_7:C:=.pl <| .e 9 17 <|
 .a 9 5 <|
 .g 10 9 5 2 <|
 .m 11 0 <|
 .m 12 4 <|
 .m 14 8 <|
 .m 15 0 <|
 .m 17 8 <|
 .m 19 0 <|
 .m 20 4 <|
 .c 13 (.call fn_spec_l16Rd_pick [.v 11,.v 12]) K29_6
abbrev K29_8:Pl:=.m 8 11 .done
abbrev K29_9:Pl:=.c 11 (.call fn_spec_l16Rd_num [.v 9,.v 10]) K29_8
abbrev K29_10:C:=.seq (.block 3 (.seq (.pl <| .e 9 3 <|
 .m 9 0 <|
 .c 10 (.bls 1 5 [.int .i64 0] [(0,1,.c (.int .i64 1)),(1,1,.c (.int .i64 3)),(2,1,.c (.int .i64 0)),(3,1,.c (.int .i64 2)),(4,1,.c (.int .i64 7))]) K29_9) K29_7)) K29_2
abbrev K29_11:C:=.cond 9 (.v 10) (.skip) (.exit 2)
abbrev K29_12:C:=.seq (.seq (.pl <| .e 9 2 <|
 .m 9 7 <|
 .x 10 (.bin .gtr (.v 9) (.c (.int .i64 0))) .done) K29_11) K29_10
abbrev K29_13:C:=.block 2 (.loop 9 [2,3,6,8] K29_12)
abbrev K29_14:Pl:=.m 7 11 .done
abbrev K29_15:Pl:=.c 11 (.call fn_spec_l16Rd_num [.v 9,.v 10]) K29_14
abbrev K29_16:C:=.seq (.seq (.pl <| .e 9 3 <|
 .m 9 0 <|
 .c 10 (.bls 1 5 [.int .i64 0] [(0,1,.c (.int .i64 6)),(1,1,.c (.int .i64 4)),(2,1,.c (.int .i64 8)),(3,1,.c (.int .i64 3)),(4,1,.c (.int .i64 10))]) K29_15) K29_13) K29_1
abbrev K29_17:C:=.pl <| .e 9 2 <|
 .m 9 6 <|
 .x 10 (.bin .add (.v 9) (.c (.int .i64 1))) <|
 .m 6 10 .done
abbrev K29_18:Pl:=.a 14 5 <|
 .o (.pset (some 14) 5 0 1 (.v 13)) .done
abbrev K29_19:C:=.pl <| .e 9 6 <|
 .a 9 5 <|
 .g 10 9 5 0 <|
 .m 11 6 <|
 .o (.psl 12 [.int .i64 0] [(0,1,.v 11)]) <|
 .c 13 (.app 8 1 [.int .i64 0] (.o (.v 10)) (.p 1 12)) K29_18
abbrev K29_20:C:=.cond 9 (.v 20) K29_19 (.skip)
abbrev K29_21:Pl:=.n 16 (.px (some 19) (.bin .eql (.v 18) (.c (.int .i64 0)))) <|
 .x 20 (.pick (.v 16) (.c (.bool true)) (.v 19)) .done
abbrev K29_22:Pl:=.y 11 (.px (some 14) (.bin .gtr (.v 13) (.c (.int .i64 0)))) <|
 .x 15 (.pick (.v 11) (.v 14) (.c (.bool false))) <|
 .m 16 15 <|
 .n 16 (.px (some 17) (.mv (.v 0))) <|
 .st (.act (some (.v 16,false)) (.ex (some 18) (.call fn_spec_l16Rd_pick [.v 17,.c (.int .i64 5)]))) K29_21
abbrev K29_23:C:=.seq (.pl <| .e 9 12 <|
 .m 9 6 <|
 .x 10 (.bin .eql (.v 9) (.c (.int .i64 0))) <|
 .m 11 10 <|
 .y 11 (.px (some 12) (.mv (.v 0))) <|
 .st (.act (some (.v 11,true)) (.ex (some 13) (.call fn_spec_l16Rd_pick [.v 12,.c (.int .i64 12)]))) K29_22) K29_20
abbrev K29_24:Pl:=.x 14 (.bin .eql (.v 13) (.c (.int .i64 0))) <|
 .x 15 (.ia 1 (.v 10) (.v 11)) <|
 .o (.ex none (.store 1 (.v 15) (.v 14))) .done
abbrev K29_25:C:=.seq (.block 1 (.seq (.pl <| .e 9 7 <|
 .a 9 5 <|
 .g 10 9 5 1 <|
 .m 11 6 <|
 .m 12 0 <|
 .c 13 (.call fn_spec_l16Rd_pick [.v 12,.c (.int .i64 3)]) K29_24) K29_23)) K29_17
abbrev K29_26:C:=.cond 9 (.v 11) (.skip) (.exit 0)
abbrev K29_27:C:=.seq (.seq (.pl <| .e 9 3 <|
 .m 9 6 <|
 .m 10 4 <|
 .x 11 (.bin .lss (.v 9) (.v 10)) .done) K29_26) K29_25
abbrev K29_28:C:=.block 0 (.loop 9 [2,3,7,8] K29_27)
abbrev K29_29:C:=.seq (.seq (.pl <| .e 9 0 <|
 .x 6 (.mv (.c (.int .i64 0))) .done) K29_28) K29_16
abbrev K29_30:Pl:=.x 11 (.build [.slice none 0 0,.slice none 0 0,.slice none 0 0] [(1,1,.v 10)]) <|
 .o (.pnew 5 (.c (.agg #[.slice none 0 0,.slice none 0 0,.slice none 0 0])) []) <|
 .o (.pset none 5 0 3 (.v 11)) .done
abbrev K29_31:C:=.seq (.pl <| .e 9 3 <|
 .m 9 4 <|
 .c 10 (.mks 1 1 [.bool false] (.v 9) (.v 9)) K29_30) K29_29
abbrev K29_32:Pl:=.m 4 11 .done
abbrev K29_33:Pl:=.c 11 (.call fn_spec_l16Rd_num [.v 9,.v 10]) K29_32
abbrev K29_34:C:=.seq (.pl <| .e 9 3 <|
 .m 9 0 <|
 .c 10 (.bls 1 5 [.int .i64 0] [(0,1,.c (.int .i64 3)),(1,1,.c (.int .i64 2)),(2,1,.c (.int .i64 4)),(3,1,.c (.int .i64 1)),(4,1,.c (.int .i64 5))]) K29_33) K29_31
abbrev K29_35:C:=.seq (.pl <| .e 9 1 <|
 .o (.pget (some 9) none 2 0 (some 3)) <|
 .o (.pset none 1 0 3 (.v 9)) .done) (.ret)
abbrev K29_36:C:=.cond 9 (.v 15) K29_35 (.skip)
abbrev K29_37:C:=.seq (.pl <| .e 9 7 <|
 .m 9 3 <|
 .m 10 9 <|
 .y 10 (.als 11 none 2) <|
 .y 10 (.pget (some 12) (some 11) 2 1 none) <|
 .y 10 (.px (some 13) (.lenV (.v 12))) <|
 .y 10 (.px (some 14) (.bin .leq (.v 13) (.c (.int .i64 16)))) <|
 .x 15 (.pick (.v 10) (.v 14) (.c (.bool false))) .done) K29_36
abbrev K29_38:Pl:=.m 12 11 <|
 .x 13 (.extract 0 (.v 12)) <|
 .x 14 (.extract 1 (.v 12)) <|
 .o (.pnew 2 (.c (.agg #[.slice none 0 0,.slice none 0 0,.slice none 0 0])) []) <|
 .o (.pset none 2 0 3 (.v 13)) <|
 .m 3 14 .done
abbrev K29_39:Pl:=.c 11 (.call fn_spec_TranslateFormula [.v 10]) K29_38
abbrev K29_40:C:=.seq (.pl <| .e 9 6 <|
 .m 9 0 <|
 .c 10 (.call fn_spec_l5Formula [.v 9]) K29_39) K29_37
abbrev K29_41:C:=.cond 9 (.v 11) K29_40 (.skip)
abbrev K29_42:Pl:=.x 11 (.bin .eql (.v 10) (.c (.int .i64 0))) .done
abbrev K29_43:C:=.seq (.seq (.pl <| .e 9 3 <|
 .m 9 0 <|
 .c 10 (.call fn_spec_l16Rd_pick [.v 9,.c (.int .i64 3)]) K29_42) K29_41) K29_34
abbrev B_spec_l7Automaton:C:=.seq (.pl <| .e 9 0 <|
 .o (.pnew 1 (.c (.agg #[.slice none 0 0,.slice none 0 0,.slice none 0 0])) []) .done) K29_43
def R_spec_l7Automaton:FIR:=⟨B_spec_l7Automaton,9,[(1,some (some 3))]⟩
theorem IR_spec_l7Automaton:cfun Tryz.prog H_spec_l7Automaton Tryz.f29=some R_spec_l7Automaton:=by kernel_rfl
theorem EN_spec_l7Automaton:ENT Tryz.prog B_spec_l7Automaton [(1,some (some 3))] 1 9 fn_spec_l7Automaton:=fun hargs hw=>enter Tryz.func29 rfl IR_spec_l7Automaton hargs hw
def H_spec_l7Mutate:Hint:=⟨[(0,false),(1,false),(3,true),(4,true),(5,true),(20,false)],[]⟩
abbrev K28_1:C:=.seq (.pl <| .e 6 1 <|
 .o (.pget (some 6) none 4 0 (some 3)) <|
 .o (.pset none 3 0 3 (.v 6)) .done) (.ret)
abbrev K28_2:Pl:=.a 13 4 <|
 .o (.pset (some 13) 4 0 1 (.v 12)) .done
abbrev K28_3:Pl:=.o (.psl 11 [.int .i64 0] [(0,1,.v 10)]) <|
 .c 12 (.app 8 1 [.int .i64 0] (.o (.v 7)) (.p 1 11)) K28_2
abbrev K28_4:Pl:=.c 10 (.call fn_spec_l16Rd_num [.v 8,.v 9]) K28_3
abbrev K28_5:C:=.pl <| .e 6 8 <|
 .a 6 4 <|
 .g 7 6 4 0 <|
 .m 8 0 <|
 .c 9 (.bls 1 4 [.int .i64 0] [(0,1,.c (.int .i64 0)),(1,1,.c (.int .i64 (-1))),(2,1,.c (.int .i64 64)),(3,1,.c (.int .i64 3))]) K28_4
abbrev K28_6:Pl:=.x 11 (.ia 4 (.v 7) (.c (.int .i64 0))) <|
 .x 12 (.fa 2 (.v 11)) <|
 .o (.ex none (.store 1 (.v 12) (.v 10))) .done
abbrev K28_7:Pl:=.c 10 (.call fn_spec_l16Rd_num [.v 8,.v 9]) K28_6
abbrev K28_8:C:=.pl <| .e 6 7 <|
 .a 6 4 <|
 .g 7 6 4 2 <|
 .m 8 0 <|
 .c 9 (.bls 1 3 [.int .i64 0] [(0,1,.c (.int .i64 8)),(1,1,.c (.int .i64 (-1))),(2,1,.c (.int .i64 7))]) K28_7
abbrev K28_9:C:=.cond 6 (.v 9) K28_8 (.skip)
abbrev K28_10:C:=.seq (.pl <| .e 6 4 <|
 .a 6 4 <|
 .g 7 6 4 2 <|
 .x 8 (.lenV (.v 7)) <|
 .x 9 (.bin .gtr (.v 8) (.c (.int .i64 0))) .done) K28_9
abbrev K28_11:Pl:=.x 11 (.ia 4 (.v 7) (.c (.int .i64 0))) <|
 .x 12 (.fa 3 (.v 11)) <|
 .o (.ex none (.store 1 (.v 12) (.v 10))) .done
abbrev K28_12:Pl:=.c 10 (.call fn_spec_l16Rd_num [.v 8,.v 9]) K28_11
abbrev K28_13:C:=.pl <| .e 6 7 <|
 .a 6 4 <|
 .g 7 6 4 2 <|
 .m 8 0 <|
 .c 9 (.bls 1 4 [.int .i64 0] [(0,1,.c (.int .i64 (-1))),(1,1,.c (.int .i64 0)),(2,1,.c (.int .i64 64)),(3,1,.c (.int .i64 9223372036854775807))]) K28_12
abbrev K28_14:C:=.cond 6 (.v 9) K28_13 (.skip)
abbrev K28_15:C:=.seq (.pl <| .e 6 4 <|
 .a 6 4 <|
 .g 7 6 4 2 <|
 .x 8 (.lenV (.v 7)) <|
 .x 9 (.bin .gtr (.v 8) (.c (.int .i64 0))) .done) K28_14
abbrev K28_16:C:=.seq (.pl <| .e 6 1 <|
 .x 6 (.build [.slice none 0 0,.slice none 0 0,.slice none 0 0] []) <|
 .o (.pset none 3 0 3 (.v 6)) .done) (.ret)
abbrev K28_17:Pl:=.x 15 (.ia 4 (.v 7) (.v 11)) <|
 .x 16 (.fa 1 (.v 15)) <|
 .o (.ex none (.store 1 (.v 16) (.v 14))) .done
abbrev K28_18:Pl:=.c 14 (.call fn_spec_l16Rd_num [.v 12,.v 13]) K28_17
abbrev K28_19:C:=.pl <| .e 6 11 <|
 .a 6 4 <|
 .g 7 6 4 2 <|
 .a 8 4 <|
 .g 9 8 4 2 <|
 .x 10 (.lenV (.v 9)) <|
 .x 11 (.bin .sub (.v 10) (.c (.int .i64 1))) <|
 .m 12 0 <|
 .c 13 (.bls 1 3 [.int .i64 0] [(0,1,.c (.int .i64 8)),(1,1,.c (.int .i64 (-1))),(2,1,.c (.int .i64 0))]) K28_18
abbrev K28_20:C:=.cond 6 (.v 9) K28_19 (.skip)
abbrev K28_21:C:=.seq (.pl <| .e 6 4 <|
 .a 6 4 <|
 .g 7 6 4 2 <|
 .x 8 (.lenV (.v 7)) <|
 .x 9 (.bin .gtr (.v 8) (.c (.int .i64 0))) .done) K28_20
abbrev K28_22:C:=.cond 6 (.v 7) K28_21 (.skip)
abbrev K28_23:C:=.seq (.pl <| .e 6 2 <|
 .x 6 (.bin .eql (.v 5) (.c (.int .i64 4))) <|
 .m 7 6 .done) K28_22
abbrev K28_24:C:=.cond 6 (.v 7) K28_16 K28_23
abbrev K28_25:C:=.seq (.pl <| .e 6 2 <|
 .x 6 (.bin .eql (.v 5) (.c (.int .i64 3))) <|
 .m 7 6 .done) K28_24
abbrev K28_26:C:=.cond 6 (.v 7) K28_15 K28_25
abbrev K28_27:C:=.seq (.pl <| .e 6 2 <|
 .x 6 (.bin .eql (.v 5) (.c (.int .i64 2))) <|
 .m 7 6 .done) K28_26
abbrev K28_28:C:=.cond 6 (.v 7) K28_10 K28_27
abbrev K28_29:C:=.seq (.pl <| .e 6 2 <|
 .x 6 (.bin .eql (.v 5) (.c (.int .i64 1))) <|
 .m 7 6 .done) K28_28
abbrev K28_30:C:=.cond 6 (.v 7) K28_5 K28_29
abbrev K28_31:C:=.block 0 (.seq (.pl <| .e 6 2 <|
 .x 6 (.bin .eql (.v 5) (.c (.int .i64 0))) <|
 .m 7 6 .done) K28_30)
abbrev K28_32:C:=.seq (.seq (.pl <| .e 6 1 <|
 .m 6 0 <|
 .c 5 (.call fn_spec_l16Rd_pick [.v 6,.c (.int .i64 40)]) .done) K28_31) K28_1
abbrev K28_33:Pl:=.x 18 (.build [.slice none 0 0,.slice none 0 0,.slice none 0 0] [(0,1,.v 9),(1,1,.v 13),(2,1,.v 17)]) <|
 .o (.pset none 4 0 3 (.v 18)) .done
abbrev K28_34:Pl:=.c 17 (.app 32 4 [.int .i64 0,.int .i64 0,.int .i64 0,.int .i64 0] (.p 0 14) (.o (.v 16))) K28_33
abbrev K28_35:Pl:=.c 13 (.app 1 1 [.bool false] (.p 0 10) (.o (.v 12))) K28_34
abbrev K28_36:C:=.seq (.pl <| .e 6 13 <|
 .o (.psl 6 [] []) <|
 .a 7 2 <|
 .g 8 7 2 0 <|
 .o (.psl 10 [] []) <|
 .a 11 2 <|
 .g 12 11 2 1 <|
 .o (.psl 14 [] []) <|
 .a 15 2 <|
 .g 16 15 2 2 <|
 .o (.pnew 4 (.c (.agg #[.slice none 0 0,.slice none 0 0,.slice none 0 0])) []) <|
 .c 9 (.app 8 1 [.int .i64 0] (.p 0 6) (.o (.v 8))) K28_35) K28_32
abbrev B_spec_l7Mutate:C:=.seq (.pl <| .e 6 0 <|
 .o (.pnew 2 (.v 1) []) <|
 .o (.pnew 3 (.c (.agg #[.slice none 0 0,.slice none 0 0,.slice none 0 0])) []) .done) K28_36
def R_spec_l7Mutate:FIR:=⟨B_spec_l7Mutate,6,[(3,some (some 3))]⟩
theorem IR_spec_l7Mutate:cfun Tryz.prog H_spec_l7Mutate Tryz.f28=some R_spec_l7Mutate:=by kernel_rfl
theorem EN_spec_l7Mutate:ENT Tryz.prog B_spec_l7Mutate [(3,some (some 3))] 2 6 fn_spec_l7Mutate:=fun hargs hw=>enter Tryz.func28 rfl IR_spec_l7Mutate hargs hw
end Go.Proofs.YtedbaenahnfhfaaGreat
