/-
  Texts of this proof, one behind the other.
-/
import Derived.WalkKit
import Derived.ProofKit
import Derived.OpenShut
import Derived.Carry
import Derived.Deep.Slices
import Derived.SizedLaws
import Derived.Test.YtjbjnicobdpdhaaGreatDoorRows
import Derived.Test.YtjbjnicobdpdhaaGreatDoorYF2
set_option linter.all false
set_option linter.unusedVariables false
set_option linter.unusedSimpArgs false
set_option linter.defProp false
set_option maxRecDepth 1000000
namespace Go.Proofs.YtjbjnicobdpdhaaGreatDoor
open Go
universe u
section
variable {α:Type} [Ty α] {h:Heap}{v:Value}
theorem Rep.X {l:List α}(hr:Rep h v l) {n:Nat}(hn:n=Ty.sz α):(∀(kd:IntKind) (i:Nat),i<l.length→iaV n v (.int kd i)=some (elp n v i))∧(∀(kd:IntKind) (i:Int),0≤i→i<l.length→iaV n v (.int kd i)=some (elp n v i.toNat))∧lenVV v=some (.int .i64 l.length):=
 ⟨fun _ _ h1=>hr.ian hn h1,fun _ _ h0 h1=>hr.ia' hn h0 h1,hr.len⟩
end
section
variable {h:Heap}{v:Value}
theorem Rep.I {l:List Int}(hr:Rep h v l):((∀(kd:IntKind) (i:Nat),i<l.length→iaV 1 v (.int kd i)=some (elp 1 v i))∧(∀(kd:IntKind) (i:Int),0≤i→i<l.length→iaV 1 v (.int kd i)=some (elp 1 v i.toNat))∧lenVV v=some (.int .i64 l.length)) ∧
  ∀(i:Nat) (hi:i<l.length),hload h (some (elp 1 v i)) none=some (.int .i64 l[i]):=⟨hr.X rfl,fun _ hi=>hr.ldI hi⟩
theorem Rep.B {l:List Bool}(hr:Rep h v l):((∀(kd:IntKind) (i:Nat),i<l.length→iaV 1 v (.int kd i)=some (elp 1 v i))∧(∀(kd:IntKind) (i:Int),0≤i→i<l.length→iaV 1 v (.int kd i)=some (elp 1 v i.toNat))∧lenVV v=some (.int .i64 l.length)) ∧
  ∀(i:Nat) (hi:i<l.length),hload h (some (elp 1 v i)) none=some (.bool l[i]):=⟨hr.X rfl,fun _ hi=>hr.ldB hi⟩
theorem Rep.S {l:List ByteArray}(hr:Rep h v l):((∀(kd:IntKind) (i:Nat),i<l.length→iaV 1 v (.int kd i)=some (elp 1 v i))∧(∀(kd:IntKind) (i:Int),0≤i→i<l.length→iaV 1 v (.int kd i)=some (elp 1 v i.toNat))∧lenVV v=some (.int .i64 l.length)) ∧
  ∀(i:Nat) (hi:i<l.length),hload h (some (elp 1 v i)) none=some (.string l[i]):=⟨hr.X rfl,fun _ hi=>hr.ldS hi⟩
end
theorem IteW.mkr {p A B:Prop}(h2:¬p→B) (h1:p→A):IteW p A B:=⟨h1,h2⟩
theorem own1 {α:Type} [Ty α] (ha:Ty.agg α=false) {r:Heap}{cs:List Value}{x:α}:Ty.own r cs x↔∃v,cs=[v]∧Own r v x:=by
 constructor
 ·intro ho
  have hl:=Ty.len (Ty.own_rep ho)
  rw[Ty.one ha] at hl
  match cs,hl with
  | [v],_=>exact⟨v,rfl,[v],by simp[valC,ha],ho⟩
 ·rintro⟨v,rfl,c,h1,h2⟩
  have hl:=Ty.len (Ty.own_rep h2)
  rw[Ty.one ha] at hl
  match c,hl with
  | [u],_=>simp[valC,ha] at h1;subst h1;exact h2
theorem rep1 {α:Type} [Ty α] (ha:Ty.agg α=false) {r:Heap}{cs:List Value}{x:α}:Ty.rep r cs x↔∃v,cs=[v]∧Rep r v x:=by
 constructor
 ·intro ho
  have hl:=Ty.len ho
  rw[Ty.one ha] at hl
  match cs,hl with
  | [v],_=>exact⟨v,rfl,[v],by simp[valC,ha],ho⟩
 ·rintro⟨v,rfl,c,h1,h2⟩
  have hl:=Ty.len h2
  rw[Ty.one ha] at hl
  match c,hl with
  | [u],_=>simp[valC,ha] at h1;subst h1;exact h2
section
variable {α:Type} [Ty α] {h:Heap}{v:Value}{l:List α}{i:Nat}
theorem Rep.fld [Flat α] (hr:Rep h v l) (hi:i<l.length) {n j:Nat}(hn:n=Ty.sz α) {u:Value}(hj:(Flat.enc l[i])[j]? = some u):hload h (some (elpo n v i j)) none=some u:=by
 subst hn
 obtain⟨p,cap,rfl,hc,hp,hl⟩:=Rep_list.1 hr
 obtain⟨b,off,vs,rfl,h1,h2⟩:=hl i hi
 rw[← (Flat.rep_iff.1 h2).1] at hj
 have:=(hcells_get h1).2 j u hj
 simp[elpo,add_none,hload,this]
end
theorem Rep.A {α:Type} [Ty α] {h:Heap}{v:Value}{x:α}(hr:Rep h v x) (ha:Ty.agg α=true) {n:Nat}(hn:n=Ty.sz α):pgetV (some v) 0 (some n)=some v∧v.cells.size=n∧allOne v.cells.toList=true∧Value.agg v.cells=v:=by
 obtain⟨cs,rfl,h1⟩:=hr
 have h2:=Ty.len h1
 have h3:=Ty.cell h1
 subst hn
 simp only[valC,ha,if_true]
 refine⟨?_,by simpa using h2,?_,rfl⟩
 ·simp[h2]
 ·rw[← allOne_eq];simpa using h3
def owC {α:Type} [Ty α] (cs:List Value) (x:α):HP:=fun r=>Ty.own r cs x
section
variable {g h:Heap}{Γ:List HP}
theorem HS.join2 {p p1 p2:HP}(H:HS g (p1::p2::Γ) h) (hp:∀r1 r2,Dj r1 r2→p1 r1→p2 r2→p (r1.add r2)):HS g (p::Γ) h:=by
 obtain⟨g1,r1,rfl,d1,h1,g',r2,rfl,d2,h2,H⟩:=H
 obtain⟨d3,d4⟩:=add_Dj.1 d1
 refine⟨g',r1.add r2,?_,Dj_add.2 ⟨d3,d2⟩,hp r1 r2 d4.symm h1 h2,H⟩
 rw[add_assoc,d4.comm]
theorem HS.via {α β:Type} [Ty β] (f:α→β) {cs:List Value}{x:α}(H:HS g (owC cs (f x)::Γ) h):HS g (@ow α (Ty.via f) (.agg cs.toArray) x::Γ) h:=
 H.imp fun _ ho=>⟨cs,rfl,ho⟩
theorem HS.one {α:Type} [Ty α] (ha:Ty.agg α=false) {v:Value}{x:α}(H:HS g (ow v x::Γ) h):HS g (owC [v] x::Γ) h:=H.imp fun _ ho=>(own1 ha).2 ⟨v,rfl,ho⟩
end
class Sz (α:Type) where
 sz:α→Nat
instance:Sz Int:=⟨fun _=>0⟩
instance:Sz Bool:=⟨fun _=>0⟩
def szL {α:Type} [Sz α]:List α→Nat
 | []=>0
 | x::l=>Sz.sz x+szL l
instance instSzList {α:Type} [Sz α]:Sz (List α):=⟨fun l=>l.length+szL l⟩
theorem sz_list {α:Type} [Sz α] (l:List α):Sz.sz l=l.length+szL l:=rfl
theorem szL_get {α:Type} [Sz α]:∀{l:List α}{i:Nat}(hi:i<l.length),Sz.sz l[i]≤szL l
 | x::l,0,_=>by simp[szL]
 | x::l,i+1,hi=>by
  have:=szL_get (l:=l) (i:=i) (by simpa using hi)
  simp[szL];omega
class Mk (α:Type) where
 cnt:α→Nat
 wr:Int→α→α
 cnt_wr:∀k x,cnt (wr k x)=cnt x
 wr_wr:∀k j x,wr k (wr j x)=wr k x
def cntL {α:Type} [Mk α]:List α→Nat
 | []=>0
 | x::l=>Mk.cnt x+cntL l
def mkL {α:Type} [Mk α]:Int→List α→List α
 | _,[]=>[]
 | k,x::l=>Mk.wr k x::mkL (k+Mk.cnt x) l
section
variable {α:Type} [Mk α]
theorem cntL_mk:∀(k:Int) (l:List α),cntL (mkL k l)=cntL l
 | _,[]=>rfl
 | k,x::l=>by simp[cntL,mkL,Mk.cnt_wr,cntL_mk (k+Mk.cnt x) l]
theorem mkL_mk:∀(k j:Int) (l:List α),mkL k (mkL j l)=mkL k l
 | _,_,[]=>rfl
 | k,j,x::l=>by simp[mkL,Mk.cnt_wr,Mk.wr_wr,mkL_mk (k+Mk.cnt x) (j+Mk.cnt x) l]
@[simp] theorem mkL_length:∀(k:Int) (l:List α),(mkL k l).length=l.length
 | _,[]=>rfl
 | k,x::l=>by simp[mkL,mkL_length (k+Mk.cnt x) l]
theorem mkL_get:∀(k:Int) (l:List α) (i:Nat) (hi:i<l.length),(mkL k l)[i]'(by simpa using hi)=Mk.wr (k+cntL (l.take i)) l[i]
 | _,[],i,hi=>by simp at hi
 | k,x::l,0,_=>by simp[mkL,cntL]
 | k,x::l,i+1,hi=>by
  simp only[mkL,List.getElem_cons_succ,List.take_succ_cons,cntL]
  rw[mkL_get (k+Mk.cnt x) l i (by simpa using hi)]
  congr 1
  push_cast
  omega
theorem cntL_take:∀(l:List α) (i:Nat) (hi:i<l.length),cntL (l.take (i+1))=cntL (l.take i)+Mk.cnt l[i]
 | [],i,hi=>by simp at hi
 | x::l,0,_=>by simp[cntL]
 | x::l,i+1,hi=>by
  simp only[List.take_succ_cons,cntL,List.getElem_cons_succ]
  rw[cntL_take l i (by simpa using hi)]
  omega
theorem cntL_le:∀(l:List α) (i:Nat),cntL (l.take i)≤cntL l
 | [],i=>by simp[cntL]
 | x::l,0=>by simp[cntL]
 | x::l,i+1=>by
  simp only[List.take_succ_cons,cntL]
  have:=cntL_le l i
  omega
instance instMkList:Mk (List α):=⟨cntL,mkL,cntL_mk,mkL_mk⟩
end
instance instMkInt:Mk Int:=⟨fun _=>1,fun k _=>k,fun _ _=>rfl,fun _ _ _=>rfl⟩
instance instMkBool:Mk Bool:=⟨fun _=>1,fun k _=>decide (k.tmod 3=0),fun _ _=>rfl,fun _ _ _=>rfl⟩
structure Mkd {α:Type} [Mk α] (k:Int) (x y:List α) (i:Nat):Prop where
 len:y.length=x.length
 done:y.take i=(mkL k x).take i
 rest:y.drop i=x.drop i
section
variable {α:Type} [Mk α] {k:Int}{x y:List α}{i:Nat}
theorem Mkd.zero:Mkd k x x 0:=⟨rfl,rfl,rfl⟩
theorem Mkd.get (h:Mkd k x y i) (hi:i<x.length):y[i]'(by rw[h.len];exact hi)=x[i]:=by
 have:=congrArg (fun l=>l[0]?) h.rest
 simp[List.getElem?_drop,hi,h.len] at this
 exact this
theorem Mkd.step (h:Mkd k x y i) (hi:i<x.length):Mkd k x (y.set i (Mk.wr (k+cntL (x.take i)) x[i])) (i+1):=by
 refine⟨by simp[h.len],?_,?_⟩
 ·have:=take_set_succ (x:=mkL k x) h.done (by simpa using hi) (by simpa using h.len)
  rwa [mkL_get k x i hi] at this
 ·rw[List.drop_set_of_lt (by omega)]
  have:=congrArg (List.drop 1) h.rest
  simpa[List.drop_drop] using this
theorem Mkd.all (h:Mkd k x y i) (hi:x.length≤i):y=mkL k x:=eq_of_take h.done (by simpa using hi) (by simpa using h.len)
end
theorem take_step {α:Type}{x y:List α}{i:Nat}(h:x.take i=y.take i) (h1:i<x.length) (h2:i<y.length) (he:x[i]=y[i]):x.take (i+1)=y.take (i+1):=by
 rw[List.take_add_one,List.take_add_one,h,List.getElem?_eq_getElem h1,List.getElem?_eq_getElem h2,he]
@[simp] theorem ite_lt_zero {α:Type}{b:Int}{x y:α}(h:0≤b):(if b<0 then x else y)=y:=if_neg (by omega)
structure W8 where
 l:List (BitVec 64)
 len:l.length=8
def W8.zero:W8:=⟨List.replicate 8 0,rfl⟩
def W8.put (w:W8) (j:Nat) (x:BitVec 64):W8:=⟨w.l.set j x,by simp[w.len]⟩
def W8.at (w:W8) (j:Nat):BitVec 64:=w.l.getD j 0
def W8.enc (w:W8):List Value:=w.l.map fun b=>.int .u64 b.toNat
instance instTyW8:Ty W8 where
 agg:=true
 sz:=8
 rep:=fun _ cs x=>cs=x.enc
 own:=fun r cs x=>r=Heap.nil∧cs=x.enc
 one:=fun h=>by simp at h
 len:=by rintro h cs x rfl;simp[W8.enc,x.len]
 cell:=by
  rintro h cs x rfl v hv
  simp only[W8.enc,List.mem_map] at hv
  obtain⟨b,_,rfl⟩:=hv
  rfl
 mono:=fun _ hr=>hr
 own_rep:=fun ho=>ho.2
instance instFlatW8:Flat W8:=⟨W8.enc,fun _=>True,by simp[Ty.rep],by simp[Ty.own]⟩
theorem W8.enc_at (w:W8) {j:Nat}(hj:j<8):w.enc[j]? = some (.int .u64 (w.at j).toNat):=by
 have:j<w.l.length:=by rw[w.len];exact hj
 simp[W8.enc,W8.at,this]
section
variable {α:Type} [Ty α] {h:Heap}{v:Value}{l:List α}{i:Nat}
theorem Rep.iaA (hr:Rep h v l) (hi:i<l.length) {n m:Nat}{kd:IntKind}{j:Nat}(hj:j<m):iaAV m 1 (elp n v i) (.int kd j)=some (elpo n v i j):=by
 obtain⟨p,cap,rfl,hc,hp,hl⟩:=Rep_list.1 hr
 obtain⟨b,off,vs,rfl,_⟩:=hl i hi
 have:(j:Int)<m:=by omega
 simp[iaAV,elp,elpo,this]
theorem Rep.W {l:List W8}(hr:Rep h v l):((∀(kd:IntKind) (i:Nat),i<l.length→iaV 8 v (.int kd i)=some (elp 8 v i))∧(∀(kd:IntKind) (i:Int),0≤i→i<l.length→iaV 8 v (.int kd i)=some (elp 8 v i.toNat))∧lenVV v=some (.int .i64 l.length)) ∧
  (∀(kd:IntKind) (i j:Nat),i<l.length→j<8→iaAV 8 1 (elp 8 v i) (.int kd j)=some (elpo 8 v i j)) ∧
  ∀(i j:Nat) (hi:i<l.length),j<8→hload h (some (elpo 8 v i j)) none=some (.int .u64 (l[i].at j).toNat):=
 ⟨hr.X rfl,fun _ _ _ hi hj=>hr.iaA hi hj,fun _ _ hi hj=>hr.fld hi rfl (W8.enc_at _ hj)⟩
end
theorem Rep.isNil {α:Type} [Ty α] {h:Heap}{v:Value}{l:List α}(hr:Rep h v l):∃b,isNilV false v=some (.bool b)∧(b=true→l=[]):=by
 obtain⟨p,cap,rfl,h1,h2,h3⟩:=Rep_list.1 hr
 refine⟨p.isNone,rfl,fun hp=>?_⟩
 cases l with
 | nil=>rfl
 | cons x l=>obtain⟨b,off,vs,h4,_⟩:=h3 0 (by simp);subst h4;simp at hp
theorem Own.clip {α:Type} [Ty α] {r:Heap}{v:Value}{l:List α}(O:Own r v l) {esz:Nat}{k:IntKind} :
  ∃v',sliceVV esz v none (some (some (.int k l.length))) (some (some (.int k l.length)))=some v'∧Own r v' l:=by
 rcases Own_list.1 O with ⟨p,rfl,rfl,rfl,hp⟩ | ⟨b,off,cap,cells,el,r',rfl,⟨h1,hM⟩,h2,rfl,h4,h5⟩
 ·refine⟨.slice p 0 0,?_,Own_list.2 (.inl ⟨p,rfl,rfl,rfl,hp⟩)⟩
  simp[sliceVV,bndV]
 ·refine⟨.slice (some ⟨b,off,none⟩) l.length l.length,?_,Own_list.2 (.inr ⟨b,off,l.length,cells,el,r',rfl,⟨Nat.le_refl _,hM⟩,?_,rfl,h4,h5⟩)⟩
  ·simp[sliceVV,bndV,add_none,h1]
  ·have:l.length*Ty.sz α≤cap*Ty.sz α:=Nat.mul_le_mul_right _ h1
   omega
theorem HS.clip {α:Type} [Ty α] {g h:Heap}{Γ:List HP}{v:Value}{l:List α}(H:HS g (ow v l::Γ) h) {esz:Nat}{k:IntKind} :
  ∃v',sliceVV esz v none (some (some (.int k l.length))) (some (some (.int k l.length)))=some v'∧HS g (ow v' l::Γ) h:=by
 obtain⟨g',r,rfl,d,O,H⟩:=H
 obtain⟨v',h1,O'⟩:=O.clip (esz:=esz) (k:=k)
 exact⟨v',h1,g',r,rfl,d,O',H⟩
theorem HS.bls0 {P:Program}{k:Env→Heap→Prop}{e:Env}{g h:Heap}{Γ:List HP}(H:HS g Γ h) (α:Type) [Ty α] {esz:Nat}{zero:List Value}{dst:Nat}
  (K:∀v' h',HS g (ow v' ([]:List α)::Γ) h'→k (eset e dst (some v')) h'):(A.ex (some dst) (.bls esz 0 zero [])).wp P k e h:=by
 refine⟨[],rfl,fun b el hb=>Fgt.keep ?_⟩
 rw[set_new hb]
 exact K _ _ ⟨h,_,rfl,Dj_one.2 hb,Own_list.2 (.inr ⟨b,0,0,[],el,Heap.nil,rfl,⟨Nat.le_refl _,by simp⟩,by simp,by simp,rfl,rfl⟩),H⟩
@[simp] theorem faV_ptr {b o off:Nat}:faV off (.pointer (some ⟨b,o,none⟩))=some (.pointer (some ⟨b,o+off,none⟩)):=by simp[faV,add_none]
attribute [simp] Option.bind_some
end Go.Proofs.YtjbjnicobdpdhaaGreatDoor

namespace Go.Proofs.YtjbjnicobdpdhaaGreatDoor
open Go Go.RowKit
def whole (w:World):Heap:=fun b=>w.heap[b]?
theorem calls_law {P:Program}{f:FuncId}{fn:Func}{args:List Value}{W:World}(hf:P.funcs[f]? = some fn) (hname:(fn.name == "runtime.NumGoroutine")=false) (hb:fn.body.isSome=true)
  (h:CallE P f args (whole W) (fun u h'=>(whole W).le h'∧u=.bool true)):Calls P f args.toArray W fun e W'=>e=.returned (.bool true)∧Below W.heap.size W W':=by
 have h1:=h W (fun b o hb=>hb)
 obtain⟨bd,hbd⟩:=Option.isSome_iff_exists.1 hb
 have hname':¬fn.name = "runtime.NumGoroutine":=by simpa using hname
 have hcall:(callFunc f args.toArray).run P W=.ok (.enter f args.toArray) W:=by
  simp[callFunc,hf,hname',hbd]
 rw[hcall] at h1
 refine Calls.mono h1 ?_
 rintro e W' ⟨v,h',rfl,⟨hl,rfl⟩,hs,hF⟩
 refine⟨rfl,hF.os,hF.tape,hF.output,hF.size,?_⟩
 intro k hk
 have h2:whole W k=some W.heap[k]:=by simp[whole,hk]
 rw[hs _ _ (hl _ _ h2)]
 simp[hk]
section
variable {H:Type}{enc:TypeId×Value→H}{P:Program}
theorem trodAll_below (hl:laidOutB P=true) {W W':World}:∀{ts:List TypeId}{vs:List Value}{ds:List (DataW H)}{ps:List MemPlace},(∀t∈ts,P.readableRec t=true∧t<P.types.size) →
  DataW.TrodAll enc P W 0 (fun _=>true) true ts vs ds ps→Below W.heap.size W W'→(∀x∈ps,x.block<W.heap.size)→DataW.TrodAll enc P W' 0 (fun b=>decide (b<W.heap.size)) true ts vs ds ps
 | [],[],[],_,_,h,_,_=>h
 | _::_,_::_,_::_,_,ht,⟨p,q,h1,h2,e⟩,hb,hlt=>
  ⟨p,q,Below.trod hl (ht _ (by simp)).1 (ht _ (by simp)).2 h1 hb (fun x hx=>hlt x (by rw[e];exact List.mem_append_left _ hx)),
   trodAll_below hl (fun t h=>ht t (by simp[h])) h2 hb (fun x hx=>hlt x (by rw[e];exact List.mem_append_right _ hx)),e⟩
theorem kept_below {W W':World}(hb:Below W.heap.size W W') (may:MemPlace→Prop):W.keptBut W' may:=by
 refine⟨hb.os,hb.output,fun i hi=>?_⟩
 rw[hb.block i hi]
 split
 ·rename_i h1 h2;rw[h1] at h2;simp only[Option.some.injEq,Obj.cells.injEq] at h2;obtain⟨rfl,rfl,rfl⟩:=h2;exact⟨rfl,rfl,rfl,fun _ _=>rfl⟩
 ·rename_i h1 h2;rw[h1] at h2;simp only[Option.some.injEq,Obj.map.injEq] at h2;obtain⟨rfl,rfl⟩:=h2;exact .inr ⟨rfl,rfl⟩
 ·rfl
end
def wOk {H:Type}(P:Program) (t:TypeId) (d:DataW H):Prop:=∀n∈d.weights P t,n≤reachBytes
theorem wOk_each {H:Type}{P:Program}:∀{ts:List TypeId}{l:List (DataW H)},(∀n∈DataW.weightsEach P ts l,n≤reachBytes)→∀(i:Nat) t d,ts[i]? = some t→l[i]? = some d→wOk P t d
 | [],_,_,i,t,d,h1,_=>by simp at h1
 | _::_,[],_,i,t,d,_,h2=>by simp at h2
 | t0::ts,x::l,h,0,t,d,h1,h2=>by
  simp at h1 h2;subst h1 h2
  exact fun n hn=>h n (by simp only[DataW.weightsEach,List.mem_append];exact .inl hn)
 | t0::ts,x::l,h,i+1,t,d,h1,h2=>wOk_each (ts:=ts) (l:=l) (fun n hn=>h n (by simp only[DataW.weightsEach,List.mem_append];exact .inr hn)) i t d (by simpa using h1) (by simpa using h2)
def RdT (P:Program) (t:TypeId) (α:Type) [Ty α]:Prop:=∀{H:Type}(enc:TypeId×Value→H) (W:World) (sp:Nat→Bool) (fuel:Nat) (cs:List Value) (x:DataW H×List MemPlace),
 DataW.trod enc P W 0 sp true fuel t cs=some x→wOk P t x.1→∃y:α,Ty.rep (whole W) cs y
section
variable {P:Program}{t:TypeId}
theorem rd_str (ht:P.underlying t=some .string):RdT P t ByteArray:=by
 intro H enc W sp fuel cs x h hwt
 cases fuel with
 | zero=>simp[DataW.trod] at h
 | succ n=>
  unfold DataW.trod at h
  rw[ht] at h
  split at h<;>simp_all
  exact⟨_,rfl⟩
end
section
variable {P:Program}{W:World}{r:Reach}{base:Nat}{t e:TypeId}{v:Value}
end
abbrev fn_main_main:Nat:=0
abbrev fn_gosem_cut:Nat:=1
abbrev fn_gosem_cut_init:Nat:=2
abbrev fn_laws_FnExactParseSystem:Nat:=3
abbrev fn_laws_FnSystemText:Nat:=4
abbrev fn_spec_ParseSystem:Nat:=5
abbrev fn_impl_ParseSystem:Nat:=6
abbrev fn_laws_eqSystem:Nat:=7
abbrev fn_laws_markSystem:Nat:=8
abbrev fn_laws_heldSystem:Nat:=9
abbrev fn_spec_DrawFormatSystem:Nat:=10
abbrev fn_impl_FormatSystem:Nat:=11
abbrev fn_spec_FormatSystem:Nat:=12
abbrev fn_spec_SystemValid:Nat:=13
abbrev fn_impl_SystemSame:Nat:=14
abbrev fn_spec_DrawParseSystem:Nat:=15
abbrev fn_spec_l16Cut:Nat:=16
abbrev fn_spec_l16Num:Nat:=17
abbrev fn_spec_l2ScanEdge:Nat:=18
abbrev fn_strings_Split:Nat:=19
abbrev fn_strings_TrimSuffix:Nat:=20
abbrev fn_impl_small:Nat:=21
abbrev fn_impl_parseEdge:Nat:=22
abbrev fn_impl_SystemValid:Nat:=23
abbrev fn_impl_System_copyOf:Nat:=24
abbrev fn_laws_eqIntS:Nat:=25
abbrev fn_laws_eqProcessS:Nat:=26
abbrev fn_laws_markIntS:Nat:=27
abbrev fn_laws_markProcessS:Nat:=28
abbrev fn_laws_heldIntS:Nat:=29
abbrev fn_laws_heldProcessS:Nat:=30
abbrev fn_spec_DrawSystemValid:Nat:=31
abbrev fn_impl_row:Nat:=32
abbrev fn_strconv_Itoa:Nat:=33
abbrev fn_impl_Expr_text:Nat:=34
abbrev fn_impl_syncText:Nat:=35
abbrev fn_spec_l16Dec:Nat:=36
abbrev fn_spec_l2Line:Nat:=37
abbrev fn_spec_l2Process:Nat:=38
abbrev fn_spec_l1Vals:Nat:=39
abbrev fn_slices_Equal_S_int_int:Nat:=40
abbrev fn_slices_EqualFunc_S_impl_Process_S_impl_Process_impl_Process_impl_Process:Nat:=41
abbrev fn_impl_SystemSame_1:Nat:=42
abbrev fn_slices_EqualFunc_S_impl_Edge_S_impl_Edge_impl_Edge_impl_Edge:Nat:=43
abbrev fn_impl_Edge_same:Nat:=44
abbrev fn_spec_l16Open:Nat:=45
abbrev fn_spec_l1Bend:Nat:=46
abbrev fn_spec_l2System:Nat:=47
abbrev fn_spec_ParseExpr:Nat:=48
abbrev fn_strings_genSplit:Nat:=49
abbrev fn_internal_stringslite_TrimSuffix:Nat:=50
abbrev fn_impl_ParseExpr:Nat:=51
abbrev fn_strings_Cut:Nat:=52
abbrev fn_strings_Index:Nat:=53
abbrev fn_impl_valsOk:Nat:=54
abbrev fn_impl_in:Nat:=55
abbrev fn_slices_ContainsFunc_S_impl_Edge_impl_Edge:Nat:=56
abbrev fn_impl_SystemValid_1:Nat:=57
abbrev fn_impl_EdgeValid:Nat:=58
abbrev fn_impl_clone_int:Nat:=59
abbrev fn_impl_clone_impl_Process:Nat:=60
abbrev fn_impl_clone_impl_Edge:Nat:=61
abbrev fn_impl_Expr_copyOf:Nat:=62
abbrev fn_laws_eqProcess:Nat:=63
abbrev fn_laws_markEdgeS:Nat:=64
abbrev fn_laws_heldEdgeS:Nat:=65
abbrev fn_spec_l2Mutate:Nat:=66
abbrev fn_strings_Join:Nat:=67
abbrev fn_internal_strconv_Itoa:Nat:=68
abbrev fn_spec_l1Format:Nat:=69
abbrev fn_spec_EdgeValid:Nat:=70
abbrev fn_impl_ExprSame:Nat:=71
abbrev fn_spec_l16Rd_pick:Nat:=72
abbrev fn_spec_l16Rd_of:Nat:=73
abbrev fn_spec_l16Rd_num:Nat:=74
abbrev fn_spec_l2DrawEdge:Nat:=75
abbrev fn_spec_l1Parse:Nat:=76
abbrev fn_spec_FormatExpr:Nat:=77
abbrev fn_strings_explode:Nat:=78
abbrev fn_strings_Count:Nat:=79
abbrev fn_internal_stringslite_HasSuffix:Nat:=80
abbrev fn_impl_reader_expr:Nat:=81
abbrev fn_impl_ExprValid:Nat:=82
abbrev fn_internal_stringslite_Cut:Nat:=83
abbrev fn_internal_stringslite_Index:Nat:=84
abbrev fn_slices_ContainsFunc_S_int_int:Nat:=85
abbrev fn_impl_valsOk_1:Nat:=86
abbrev fn_slices_IndexFunc_S_impl_Edge_impl_Edge:Nat:=87
abbrev fn_slices_Clip_S_int_int:Nat:=88
abbrev fn_slices_Clone_S_int_int:Nat:=89
abbrev fn_slices_Clip_S_impl_Process_impl_Process:Nat:=90
abbrev fn_slices_Clone_S_impl_Process_impl_Process:Nat:=91
abbrev fn_slices_Clip_S_impl_Edge_impl_Edge:Nat:=92
abbrev fn_slices_Clone_S_impl_Edge_impl_Edge:Nat:=93
abbrev fn_impl_clone_impl_Expr:Nat:=94
abbrev fn_laws_eqEdgeS:Nat:=95
abbrev fn_laws_markExprS:Nat:=96
abbrev fn_laws_heldExprS:Nat:=97
abbrev fn_spec_l2Copy:Nat:=98
abbrev fn_spec_l1Mutate:Nat:=99
abbrev fn_spec_l1Expr:Nat:=100
abbrev fn_strings_Builder_Grow:Nat:=101
abbrev fn_strings_Builder_WriteString:Nat:=102
abbrev fn_strings_Builder_String:Nat:=103
abbrev fn_internal_strconv_FormatInt:Nat:=104
abbrev fn_spec_l1Sign:Nat:=105
abbrev fn_spec_ExprValid:Nat:=106
abbrev fn_spec_l2None:Nat:=107
abbrev fn_slices_EqualFunc_S_impl_Expr_S_impl_Expr_impl_Expr_impl_Expr:Nat:=108
abbrev fn_spec_l2Guard:Nat:=109
abbrev fn_unicode_utf8_RuneCountInString:Nat:=110
abbrev fn_unicode_utf8_DecodeRuneInString:Nat:=111
abbrev fn_internal_bytealg_CountString:Nat:=112
abbrev fn_impl_reader_take:Nat:=113
abbrev fn_impl_ExprNodes:Nat:=114
abbrev fn_internal_stringslite_IndexByte:Nat:=115
abbrev fn_internal_bytealg_IndexString:Nat:=116
abbrev fn_internal_bytealg_Cutover:Nat:=117
abbrev fn_internal_bytealg_IndexRabinKarp_string:Nat:=118
abbrev fn_slices_IndexFunc_S_int_int:Nat:=119
abbrev fn_slices_Clip_S_impl_Expr_impl_Expr:Nat:=120
abbrev fn_slices_Clone_S_impl_Expr_impl_Expr:Nat:=121
abbrev fn_laws_eqEdge:Nat:=122
abbrev fn_spec_l1Subst:Nat:=123
abbrev fn_spec_l1Random:Nat:=124
abbrev fn_strings_Builder_copyCheck:Nat:=125
abbrev fn_strings_Builder_grow:Nat:=126
abbrev fn_internal_strconv_small:Nat:=127
abbrev fn_internal_strconv_numDigits:Nat:=128
abbrev fn_internal_strconv_formatBase10:Nat:=129
abbrev fn_internal_strconv_formatBits:Nat:=130
abbrev fn_spec_l1Shape:Nat:=131
abbrev fn_spec_l1Count:Nat:=132
abbrev fn_unicode_utf8_decodeRuneInStringSlow:Nat:=133
abbrev fn_strings_IndexByte:Nat:=134
abbrev fn_impl_Expr_walk:Nat:=135
abbrev fn_internal_bytealg_IndexByteString:Nat:=136
abbrev fn_internal_bytealg_hashStr_string:Nat:=137
abbrev fn_laws_eqExpr:Nat:=138
abbrev fn_spec_l1Arity:Nat:=139
abbrev fn_internal_abi_NoEscape:Nat:=140
abbrev fn_internal_bytealg_MakeNoZero:Nat:=141
abbrev fn_internal_strconv_log10Pow2:Nat:=142
abbrev fn_math_bits_Len64:Nat:=143
abbrev fn_internal_strconv_bool2_int:Nat:=144
abbrev fn_internal_strconv_isPowerOfTwo:Nat:=145
abbrev fn_math_bits_TrailingZeros:Nat:=146
abbrev fn_slices_ContainsFunc_S_impl_Expr_impl_Expr:Nat:=147
abbrev fn_impl_Expr_walk_1:Nat:=148
abbrev fn_laws_eqExprS:Nat:=149
abbrev fn_math_bits_TrailingZeros32:Nat:=150
abbrev fn_math_bits_TrailingZeros64:Nat:=151
abbrev fn_slices_IndexFunc_S_impl_Expr_impl_Expr:Nat:=152
abbrev fn_runtime_boundsError_Error:Nat:=153
abbrev fn_runtime_boundsError_RuntimeError:Nat:=154
abbrev fn_runtime_errorString_Error:Nat:=155
abbrev fn_runtime_errorString_RuntimeError:Nat:=156
abbrev fn_runtime_plainError_Error:Nat:=157
abbrev fn_runtime_plainError_RuntimeError:Nat:=158
abbrev fn_runtime_errorAddressString_Error:Nat:=159
abbrev fn_runtime_errorAddressString_RuntimeError:Nat:=160
abbrev fn_runtime_TypeAssertionError_Error:Nat:=161
abbrev fn_runtime_TypeAssertionError_RuntimeError:Nat:=162
abbrev fn_runtime_PanicNilError_Error:Nat:=163
abbrev fn_runtime_PanicNilError_RuntimeError:Nat:=164
abbrev fn_internal_abi_Type_Align:Nat:=165
abbrev fn_internal_runtime_maps_unhashableTypeError_Error:Nat:=166
abbrev fn_internal_runtime_maps_unhashableTypeError_RuntimeError:Nat:=167
abbrev fn_impl_Process_reach:Nat:=168
abbrev fn_spec_l16Rd_word:Nat:=169
abbrev fn_strings_Builder_Reset:Nat:=170
abbrev fn_internal_abi_Kind_String:Nat:=171
abbrev fn_var_s_door_gosem_cut_vars_holds_initialisers_alone_see_the_manifest_s_row_cutvarsword_look_11_test_files_too:Nat:=172
abbrev fn_var_s_door_internal_strconv_uint64pow10_is_laid_by_its_own_initialiser_plain_data_look_11:Nat:=173
abbrev fn_var_s_door_impl_exprSigns_is_laid_by_its_own_initialiser_plain_data_look_11:Nat:=174
abbrev fn_var_s_door_math_bits_deBruijn32tab_is_laid_by_its_own_initialiser_plain_data_look_11:Nat:=175
abbrev fn_var_s_door_math_bits_deBruijn64tab_is_laid_by_its_own_initialiser_plain_data_look_11:Nat:=176
abbrev fn_var_s_door_the_look_of_gosem_cut_vars_went_over_the_folder_that_the_caller_named_as_the_repository_s_root_look_11:Nat:=177
abbrev fn_var_s_door_unicode_utf8_acceptRanges_is_laid_by_its_own_initialiser_plain_data_look_11:Nat:=178
abbrev fn_var_s_door_unicode_utf8_first_is_laid_by_its_text_alone_pinned_1:Nat:=179
abbrev fn_gosem_cut_vars:Nat:=180
def H_slices_Clip_S_impl_Edge_impl_Edge:Hint:=⟨[(0,false),(2,false)],[]⟩
abbrev K92_1:C:=.seq (.pl <| .e 2 6 <|
 .m 2 0 <|
 .m 3 0 <|
 .x 4 (.lenV (.v 3)) <|
 .m 5 0 <|
 .x 6 (.lenV (.v 5)) <|
 .x 7 (.sliceV 10 (.v 2) none (some (.v 4)) (some (.v 6))) <|
 .m 1 7 .done) (.ret)
abbrev B_slices_Clip_S_impl_Edge_impl_Edge:C:=.seq (.pl <| .e 2 0 <|
 .x 1 (.mv (.c (.slice none 0 0))) .done) K92_1
def R_slices_Clip_S_impl_Edge_impl_Edge:FIR:=⟨B_slices_Clip_S_impl_Edge_impl_Edge,2,[(1,none)]⟩
theorem IR_slices_Clip_S_impl_Edge_impl_Edge:cfun Tryz.prog H_slices_Clip_S_impl_Edge_impl_Edge Tryz.f92=some R_slices_Clip_S_impl_Edge_impl_Edge:=by kernel_rfl
theorem EN_slices_Clip_S_impl_Edge_impl_Edge:ENT Tryz.prog B_slices_Clip_S_impl_Edge_impl_Edge [(1,none)] 1 2 fn_slices_Clip_S_impl_Edge_impl_Edge:=fun hargs hw=>enter Tryz.func92 rfl IR_slices_Clip_S_impl_Edge_impl_Edge hargs hw
def H_slices_Clip_S_impl_Expr_impl_Expr:Hint:=⟨[(0,false),(2,false)],[]⟩
abbrev K120_1:C:=.seq (.pl <| .e 2 6 <|
 .m 2 0 <|
 .m 3 0 <|
 .x 4 (.lenV (.v 3)) <|
 .m 5 0 <|
 .x 6 (.lenV (.v 5)) <|
 .x 7 (.sliceV 3 (.v 2) none (some (.v 4)) (some (.v 6))) <|
 .m 1 7 .done) (.ret)
abbrev B_slices_Clip_S_impl_Expr_impl_Expr:C:=.seq (.pl <| .e 2 0 <|
 .x 1 (.mv (.c (.slice none 0 0))) .done) K120_1
def R_slices_Clip_S_impl_Expr_impl_Expr:FIR:=⟨B_slices_Clip_S_impl_Expr_impl_Expr,2,[(1,none)]⟩
theorem IR_slices_Clip_S_impl_Expr_impl_Expr:cfun Tryz.prog H_slices_Clip_S_impl_Expr_impl_Expr Tryz.f120=some R_slices_Clip_S_impl_Expr_impl_Expr:=by kernel_rfl
theorem EN_slices_Clip_S_impl_Expr_impl_Expr:ENT Tryz.prog B_slices_Clip_S_impl_Expr_impl_Expr [(1,none)] 1 2 fn_slices_Clip_S_impl_Expr_impl_Expr:=fun hargs hw=>enter Tryz.func120 rfl IR_slices_Clip_S_impl_Expr_impl_Expr hargs hw
def H_slices_Clip_S_impl_Process_impl_Process:Hint:=⟨[(0,false),(2,false)],[]⟩
abbrev K90_1:C:=.seq (.pl <| .e 2 6 <|
 .m 2 0 <|
 .m 3 0 <|
 .x 4 (.lenV (.v 3)) <|
 .m 5 0 <|
 .x 6 (.lenV (.v 5)) <|
 .x 7 (.sliceV 2 (.v 2) none (some (.v 4)) (some (.v 6))) <|
 .m 1 7 .done) (.ret)
abbrev B_slices_Clip_S_impl_Process_impl_Process:C:=.seq (.pl <| .e 2 0 <|
 .x 1 (.mv (.c (.slice none 0 0))) .done) K90_1
def R_slices_Clip_S_impl_Process_impl_Process:FIR:=⟨B_slices_Clip_S_impl_Process_impl_Process,2,[(1,none)]⟩
theorem IR_slices_Clip_S_impl_Process_impl_Process:cfun Tryz.prog H_slices_Clip_S_impl_Process_impl_Process Tryz.f90=some R_slices_Clip_S_impl_Process_impl_Process:=by kernel_rfl
theorem EN_slices_Clip_S_impl_Process_impl_Process:ENT Tryz.prog B_slices_Clip_S_impl_Process_impl_Process [(1,none)] 1 2 fn_slices_Clip_S_impl_Process_impl_Process:=fun hargs hw=>enter Tryz.func90 rfl IR_slices_Clip_S_impl_Process_impl_Process hargs hw
def H_slices_Clip_S_int_int:Hint:=⟨[(0,false),(2,false)],[]⟩
abbrev K88_1:C:=.seq (.pl <| .e 2 6 <|
 .m 2 0 <|
 .m 3 0 <|
 .x 4 (.lenV (.v 3)) <|
 .m 5 0 <|
 .x 6 (.lenV (.v 5)) <|
 .x 7 (.sliceV 1 (.v 2) none (some (.v 4)) (some (.v 6))) <|
 .m 1 7 .done) (.ret)
abbrev B_slices_Clip_S_int_int:C:=.seq (.pl <| .e 2 0 <|
 .x 1 (.mv (.c (.slice none 0 0))) .done) K88_1
def R_slices_Clip_S_int_int:FIR:=⟨B_slices_Clip_S_int_int,2,[(1,none)]⟩
theorem IR_slices_Clip_S_int_int:cfun Tryz.prog H_slices_Clip_S_int_int Tryz.f88=some R_slices_Clip_S_int_int:=by kernel_rfl
theorem EN_slices_Clip_S_int_int:ENT Tryz.prog B_slices_Clip_S_int_int [(1,none)] 1 2 fn_slices_Clip_S_int_int:=fun hargs hw=>enter Tryz.func88 rfl IR_slices_Clip_S_int_int hargs hw
def H_slices_Clone_S_impl_Edge_impl_Edge:Hint:=⟨[(0,false),(2,false)],[]⟩
abbrev K93_1:Pl:=.m 1 4 .done
abbrev K93_2:C:=.seq (.pl <| .e 2 3 <|
 .o (.psl 2 [] []) <|
 .m 3 0 <|
 .c 4 (.app 112 10 [.int .i64 0,.int .i64 0,.int .i64 0,.int .i64 0,.slice none 0 0,.int .i64 0,.int .i64 0,.int .i64 0,.slice none 0 0,.int .i64 0] (.p 0 2) (.o (.v 3))) K93_1) (.ret)
abbrev K93_3:C:=.seq (.pl <| .e 2 0 <|
 .x 1 (.mv (.c (.slice none 0 0))) .done) (.ret)
abbrev K93_4:C:=.cond 2 (.v 3) K93_3 (.skip)
abbrev K93_5:C:=.seq (.seq (.pl <| .e 2 2 <|
 .m 2 0 <|
 .x 3 (.isNil false (.v 2)) .done) K93_4) K93_2
abbrev B_slices_Clone_S_impl_Edge_impl_Edge:C:=.seq (.pl <| .e 2 0 <|
 .x 1 (.mv (.c (.slice none 0 0))) .done) K93_5
def R_slices_Clone_S_impl_Edge_impl_Edge:FIR:=⟨B_slices_Clone_S_impl_Edge_impl_Edge,2,[(1,none)]⟩
theorem IR_slices_Clone_S_impl_Edge_impl_Edge:cfun Tryz.prog H_slices_Clone_S_impl_Edge_impl_Edge Tryz.f93=some R_slices_Clone_S_impl_Edge_impl_Edge:=by kernel_rfl
theorem EN_slices_Clone_S_impl_Edge_impl_Edge:ENT Tryz.prog B_slices_Clone_S_impl_Edge_impl_Edge [(1,none)] 1 2 fn_slices_Clone_S_impl_Edge_impl_Edge:=fun hargs hw=>enter Tryz.func93 rfl IR_slices_Clone_S_impl_Edge_impl_Edge hargs hw
def H_slices_Clone_S_impl_Expr_impl_Expr:Hint:=⟨[(0,false),(2,false)],[]⟩
abbrev K121_1:Pl:=.m 1 4 .done
abbrev K121_2:C:=.seq (.pl <| .e 2 3 <|
 .o (.psl 2 [] []) <|
 .m 3 0 <|
 .c 4 (.app 40 3 [.int .i64 0,.int .i64 0,.slice none 0 0] (.p 0 2) (.o (.v 3))) K121_1) (.ret)
abbrev K121_3:C:=.seq (.pl <| .e 2 0 <|
 .x 1 (.mv (.c (.slice none 0 0))) .done) (.ret)
abbrev K121_4:C:=.cond 2 (.v 3) K121_3 (.skip)
abbrev K121_5:C:=.seq (.seq (.pl <| .e 2 2 <|
 .m 2 0 <|
 .x 3 (.isNil false (.v 2)) .done) K121_4) K121_2
abbrev B_slices_Clone_S_impl_Expr_impl_Expr:C:=.seq (.pl <| .e 2 0 <|
 .x 1 (.mv (.c (.slice none 0 0))) .done) K121_5
def R_slices_Clone_S_impl_Expr_impl_Expr:FIR:=⟨B_slices_Clone_S_impl_Expr_impl_Expr,2,[(1,none)]⟩
theorem IR_slices_Clone_S_impl_Expr_impl_Expr:cfun Tryz.prog H_slices_Clone_S_impl_Expr_impl_Expr Tryz.f121=some R_slices_Clone_S_impl_Expr_impl_Expr:=by kernel_rfl
theorem EN_slices_Clone_S_impl_Expr_impl_Expr:ENT Tryz.prog B_slices_Clone_S_impl_Expr_impl_Expr [(1,none)] 1 2 fn_slices_Clone_S_impl_Expr_impl_Expr:=fun hargs hw=>enter Tryz.func121 rfl IR_slices_Clone_S_impl_Expr_impl_Expr hargs hw
def H_slices_Clone_S_impl_Process_impl_Process:Hint:=⟨[(0,false),(2,false)],[]⟩
abbrev K91_1:Pl:=.m 1 4 .done
abbrev K91_2:C:=.seq (.pl <| .e 2 3 <|
 .o (.psl 2 [] []) <|
 .m 3 0 <|
 .c 4 (.app 32 2 [.int .i64 0,.slice none 0 0] (.p 0 2) (.o (.v 3))) K91_1) (.ret)
abbrev K91_3:C:=.seq (.pl <| .e 2 0 <|
 .x 1 (.mv (.c (.slice none 0 0))) .done) (.ret)
abbrev K91_4:C:=.cond 2 (.v 3) K91_3 (.skip)
abbrev K91_5:C:=.seq (.seq (.pl <| .e 2 2 <|
 .m 2 0 <|
 .x 3 (.isNil false (.v 2)) .done) K91_4) K91_2
abbrev B_slices_Clone_S_impl_Process_impl_Process:C:=.seq (.pl <| .e 2 0 <|
 .x 1 (.mv (.c (.slice none 0 0))) .done) K91_5
def R_slices_Clone_S_impl_Process_impl_Process:FIR:=⟨B_slices_Clone_S_impl_Process_impl_Process,2,[(1,none)]⟩
theorem IR_slices_Clone_S_impl_Process_impl_Process:cfun Tryz.prog H_slices_Clone_S_impl_Process_impl_Process Tryz.f91=some R_slices_Clone_S_impl_Process_impl_Process:=by kernel_rfl
theorem EN_slices_Clone_S_impl_Process_impl_Process:ENT Tryz.prog B_slices_Clone_S_impl_Process_impl_Process [(1,none)] 1 2 fn_slices_Clone_S_impl_Process_impl_Process:=fun hargs hw=>enter Tryz.func91 rfl IR_slices_Clone_S_impl_Process_impl_Process hargs hw
def H_slices_Clone_S_int_int:Hint:=⟨[(0,false),(2,false)],[]⟩
abbrev K89_1:Pl:=.m 1 4 .done
abbrev K89_2:C:=.seq (.pl <| .e 2 3 <|
 .o (.psl 2 [] []) <|
 .m 3 0 <|
 .c 4 (.app 8 1 [.int .i64 0] (.p 0 2) (.o (.v 3))) K89_1) (.ret)
abbrev K89_3:C:=.seq (.pl <| .e 2 0 <|
 .x 1 (.mv (.c (.slice none 0 0))) .done) (.ret)
abbrev K89_4:C:=.cond 2 (.v 3) K89_3 (.skip)
abbrev K89_5:C:=.seq (.seq (.pl <| .e 2 2 <|
 .m 2 0 <|
 .x 3 (.isNil false (.v 2)) .done) K89_4) K89_2
abbrev B_slices_Clone_S_int_int:C:=.seq (.pl <| .e 2 0 <|
 .x 1 (.mv (.c (.slice none 0 0))) .done) K89_5
def R_slices_Clone_S_int_int:FIR:=⟨B_slices_Clone_S_int_int,2,[(1,none)]⟩
theorem IR_slices_Clone_S_int_int:cfun Tryz.prog H_slices_Clone_S_int_int Tryz.f89=some R_slices_Clone_S_int_int:=by kernel_rfl
theorem EN_slices_Clone_S_int_int:ENT Tryz.prog B_slices_Clone_S_int_int [(1,none)] 1 2 fn_slices_Clone_S_int_int:=fun hargs hw=>enter Tryz.func89 rfl IR_slices_Clone_S_int_int hargs hw
def H_slices_ContainsFunc_S_impl_Edge_impl_Edge:Hint:=⟨[(0,false),(1,false),(4,false)],[]⟩
abbrev K56_1:Pl:=.x 6 (.bin .geq (.v 5) (.c (.int .i64 0))) <|
 .m 2 6 .done
abbrev K56_2:C:=.seq (.pl <| .e 3 4 <|
 .m 3 0 <|
 .m 4 1 <|
 .c 5 (.call fn_slices_IndexFunc_S_impl_Edge_impl_Edge [.v 3,.v 4]) K56_1) (.ret)
abbrev B_slices_ContainsFunc_S_impl_Edge_impl_Edge:C:=.seq (.pl <| .e 3 0 <|
 .x 2 (.mv (.c (.bool false))) .done) K56_2
def R_slices_ContainsFunc_S_impl_Edge_impl_Edge:FIR:=⟨B_slices_ContainsFunc_S_impl_Edge_impl_Edge,3,[(2,none)]⟩
theorem IR_slices_ContainsFunc_S_impl_Edge_impl_Edge:cfun Tryz.prog H_slices_ContainsFunc_S_impl_Edge_impl_Edge Tryz.f56=some R_slices_ContainsFunc_S_impl_Edge_impl_Edge:=by kernel_rfl
theorem EN_slices_ContainsFunc_S_impl_Edge_impl_Edge:ENT Tryz.prog B_slices_ContainsFunc_S_impl_Edge_impl_Edge [(2,none)] 2 3 fn_slices_ContainsFunc_S_impl_Edge_impl_Edge:=fun hargs hw=>enter Tryz.func56 rfl IR_slices_ContainsFunc_S_impl_Edge_impl_Edge hargs hw
def H_slices_ContainsFunc_S_impl_Expr_impl_Expr:Hint:=⟨[(0,false),(1,false),(4,false)],[]⟩
abbrev K147_1:Pl:=.x 6 (.bin .geq (.v 5) (.c (.int .i64 0))) <|
 .m 2 6 .done
abbrev K147_2:C:=.seq (.pl <| .e 3 4 <|
 .m 3 0 <|
 .m 4 1 <|
 .c 5 (.call fn_slices_IndexFunc_S_impl_Expr_impl_Expr [.v 3,.v 4]) K147_1) (.ret)
abbrev B_slices_ContainsFunc_S_impl_Expr_impl_Expr:C:=.seq (.pl <| .e 3 0 <|
 .x 2 (.mv (.c (.bool false))) .done) K147_2
def R_slices_ContainsFunc_S_impl_Expr_impl_Expr:FIR:=⟨B_slices_ContainsFunc_S_impl_Expr_impl_Expr,3,[(2,none)]⟩
theorem IR_slices_ContainsFunc_S_impl_Expr_impl_Expr:cfun Tryz.prog H_slices_ContainsFunc_S_impl_Expr_impl_Expr Tryz.f147=some R_slices_ContainsFunc_S_impl_Expr_impl_Expr:=by kernel_rfl
theorem EN_slices_ContainsFunc_S_impl_Expr_impl_Expr:ENT Tryz.prog B_slices_ContainsFunc_S_impl_Expr_impl_Expr [(2,none)] 2 3 fn_slices_ContainsFunc_S_impl_Expr_impl_Expr:=fun hargs hw=>enter Tryz.func147 rfl IR_slices_ContainsFunc_S_impl_Expr_impl_Expr hargs hw
def H_slices_ContainsFunc_S_int_int:Hint:=⟨[(0,false),(1,false),(4,false)],[]⟩
abbrev K85_1:Pl:=.x 6 (.bin .geq (.v 5) (.c (.int .i64 0))) <|
 .m 2 6 .done
abbrev K85_2:C:=.seq (.pl <| .e 3 4 <|
 .m 3 0 <|
 .m 4 1 <|
 .c 5 (.call fn_slices_IndexFunc_S_int_int [.v 3,.v 4]) K85_1) (.ret)
abbrev B_slices_ContainsFunc_S_int_int:C:=.seq (.pl <| .e 3 0 <|
 .x 2 (.mv (.c (.bool false))) .done) K85_2
def R_slices_ContainsFunc_S_int_int:FIR:=⟨B_slices_ContainsFunc_S_int_int,3,[(2,none)]⟩
theorem IR_slices_ContainsFunc_S_int_int:cfun Tryz.prog H_slices_ContainsFunc_S_int_int Tryz.f85=some R_slices_ContainsFunc_S_int_int:=by kernel_rfl
theorem EN_slices_ContainsFunc_S_int_int:ENT Tryz.prog B_slices_ContainsFunc_S_int_int [(2,none)] 2 3 fn_slices_ContainsFunc_S_int_int:=fun hargs hw=>enter Tryz.func85 rfl IR_slices_ContainsFunc_S_int_int hargs hw
def H_slices_EqualFunc_S_impl_Expr_S_impl_Expr_impl_Expr_impl_Expr:Hint:=⟨[(0,false),(1,false),(2,false),(6,false),(7,false),(8,true),(9,true),(15,false),(16,false),(17,false)],[[0,3,4,5,6]]⟩
abbrev K108_1:C:=.seq (.pl <| .e 10 0 <|
 .x 3 (.mv (.c (.bool true))) .done) (.ret)
abbrev K108_2:C:=.pl <| .e 10 1 <|
 .x 10 (.bin .add (.v 9) (.c (.int .i64 1))) <|
 .m 9 10 .done
abbrev K108_3:C:=.seq (.pl <| .e 10 0 <|
 .x 3 (.mv (.c (.bool false))) .done) (.ret)
abbrev K108_4:C:=.cond 10 (.v 14) K108_3 (.skip)
abbrev K108_5:Pl:=.x 14 (.un .not (.v 13)) .done
abbrev K108_6:C:=.seq (.pl <| .e 10 5 <|
 .m 10 2 <|
 .o (.pget (some 11) none 5 0 (some 3)) <|
 .o (.pget (some 12) none 6 0 (some 3)) <|
 .c 13 (.callv (.v 10) [.v 11,.v 12]) K108_5) K108_4
abbrev K108_7:C:=.seq (.pl <| .e 10 4 <|
 .m 10 1 <|
 .m 11 4 <|
 .x 12 (.ia 3 (.v 10) (.v 11)) <|
 .o (.ld (some 13) (.v 12) (some 3)) <|
 .o (.pnew 6 (.c (.agg #[.int .i64 0,.int .i64 0,.slice none 0 0])) []) <|
 .o (.pset none 6 0 3 (.v 13)) .done) K108_6
abbrev K108_8:C:=.seq (.block 1 (.seq (.pl <| .e 10 3 <|
 .m 10 9 <|
 .x 11 (.ia 3 (.v 7) (.v 9)) <|
 .o (.ld (some 12) (.v 11) (some 3)) <|
 .o (.pnew 5 (.c (.agg #[.int .i64 0,.int .i64 0,.slice none 0 0])) []) <|
 .m 4 10 <|
 .o (.pset none 5 0 3 (.v 12)) .done) K108_7)) K108_2
abbrev K108_9:C:=.seq (.cond 10 (.v 10) (.skip) (.exit 0)) K108_8
abbrev K108_10:C:=.seq (.pl <| .e 10 1 <|
 .x 10 (.bin .lss (.v 9) (.v 8)) .done) K108_9
abbrev K108_11:C:=.block 0 (.loop 10 [0,3,4,5,6] K108_10)
abbrev K108_12:C:=.seq (.seq (.pl <| .e 10 0 <|
 .m 7 0 <|
 .x 8 (.lenV (.v 7)) <|
 .x 9 (.mv (.c (.int .i64 0))) .done) K108_11) K108_1
abbrev K108_13:C:=.seq (.pl <| .e 10 0 <|
 .x 3 (.mv (.c (.bool false))) .done) (.ret)
abbrev K108_14:C:=.cond 10 (.v 14) K108_13 (.skip)
abbrev K108_15:C:=.seq (.seq (.pl <| .e 10 5 <|
 .m 10 0 <|
 .x 11 (.lenV (.v 10)) <|
 .m 12 1 <|
 .x 13 (.lenV (.v 12)) <|
 .x 14 (.bin .neq (.v 11) (.v 13)) .done) K108_14) K108_12
abbrev B_slices_EqualFunc_S_impl_Expr_S_impl_Expr_impl_Expr_impl_Expr:C:=.seq (.pl <| .e 10 0 <|
 .x 3 (.mv (.c (.bool false))) .done) K108_15
def R_slices_EqualFunc_S_impl_Expr_S_impl_Expr_impl_Expr_impl_Expr:FIR:=⟨B_slices_EqualFunc_S_impl_Expr_S_impl_Expr_impl_Expr_impl_Expr,10,[(3,none)]⟩
theorem IR_slices_EqualFunc_S_impl_Expr_S_impl_Expr_impl_Expr_impl_Expr:cfun Tryz.prog H_slices_EqualFunc_S_impl_Expr_S_impl_Expr_impl_Expr_impl_Expr Tryz.f108=some R_slices_EqualFunc_S_impl_Expr_S_impl_Expr_impl_Expr_impl_Expr:=by kernel_rfl
theorem EN_slices_EqualFunc_S_impl_Expr_S_impl_Expr_impl_Expr_impl_Expr:ENT Tryz.prog B_slices_EqualFunc_S_impl_Expr_S_impl_Expr_impl_Expr_impl_Expr [(3,none)] 3 10 fn_slices_EqualFunc_S_impl_Expr_S_impl_Expr_impl_Expr_impl_Expr:=fun hargs hw=>enter Tryz.func108 rfl IR_slices_EqualFunc_S_impl_Expr_S_impl_Expr_impl_Expr_impl_Expr hargs hw
def H_slices_IndexFunc_S_impl_Edge_impl_Edge:Hint:=⟨[(0,false),(1,false),(4,false),(5,false),(7,false),(8,false)],[[2,3]]⟩
abbrev K87_1:C:=.seq (.pl <| .e 6 0 <|
 .x 2 (.mv (.c (.int .i64 (-1)))) .done) (.ret)
abbrev K87_2:C:=.pl <| .e 6 1 <|
 .x 6 (.bin .add (.v 5) (.c (.int .i64 1))) <|
 .m 5 6 .done
abbrev K87_3:C:=.seq (.pl <| .e 6 1 <|
 .m 6 3 <|
 .m 2 6 .done) (.ret)
abbrev K87_4:C:=.cond 6 (.v 11) K87_3 (.skip)
abbrev K87_5:C:=.seq (.pl <| .e 6 6 <|
 .m 6 1 <|
 .m 7 0 <|
 .m 8 3 <|
 .x 9 (.ia 10 (.v 7) (.v 8)) <|
 .o (.ld (some 10) (.v 9) (some 10)) <|
 .c 11 (.callv (.v 6) [.v 10]) .done) K87_4
abbrev K87_6:C:=.seq (.block 1 (.seq (.pl <| .e 6 1 <|
 .m 6 5 <|
 .m 3 6 .done) K87_5)) K87_2
abbrev K87_7:C:=.seq (.cond 6 (.v 6) (.skip) (.exit 0)) K87_6
abbrev K87_8:C:=.seq (.pl <| .e 6 1 <|
 .x 6 (.bin .lss (.v 5) (.v 4)) .done) K87_7
abbrev K87_9:C:=.block 0 (.loop 6 [2,3] K87_8)
abbrev K87_10:C:=.seq (.seq (.pl <| .e 6 1 <|
 .m 6 0 <|
 .x 4 (.lenV (.v 6)) <|
 .x 5 (.mv (.c (.int .i64 0))) .done) K87_9) K87_1
abbrev B_slices_IndexFunc_S_impl_Edge_impl_Edge:C:=.seq (.pl <| .e 6 0 <|
 .x 2 (.mv (.c (.int .i64 0))) .done) K87_10
def R_slices_IndexFunc_S_impl_Edge_impl_Edge:FIR:=⟨B_slices_IndexFunc_S_impl_Edge_impl_Edge,6,[(2,none)]⟩
theorem IR_slices_IndexFunc_S_impl_Edge_impl_Edge:cfun Tryz.prog H_slices_IndexFunc_S_impl_Edge_impl_Edge Tryz.f87=some R_slices_IndexFunc_S_impl_Edge_impl_Edge:=by kernel_rfl
theorem EN_slices_IndexFunc_S_impl_Edge_impl_Edge:ENT Tryz.prog B_slices_IndexFunc_S_impl_Edge_impl_Edge [(2,none)] 2 6 fn_slices_IndexFunc_S_impl_Edge_impl_Edge:=fun hargs hw=>enter Tryz.func87 rfl IR_slices_IndexFunc_S_impl_Edge_impl_Edge hargs hw
def H_slices_IndexFunc_S_impl_Expr_impl_Expr:Hint:=⟨[(0,false),(1,false),(4,false),(5,false),(7,false),(8,false)],[[2,3]]⟩
abbrev K152_1:C:=.seq (.pl <| .e 6 0 <|
 .x 2 (.mv (.c (.int .i64 (-1)))) .done) (.ret)
abbrev K152_2:C:=.pl <| .e 6 1 <|
 .x 6 (.bin .add (.v 5) (.c (.int .i64 1))) <|
 .m 5 6 .done
abbrev K152_3:C:=.seq (.pl <| .e 6 1 <|
 .m 6 3 <|
 .m 2 6 .done) (.ret)
abbrev K152_4:C:=.cond 6 (.v 11) K152_3 (.skip)
abbrev K152_5:C:=.seq (.pl <| .e 6 6 <|
 .m 6 1 <|
 .m 7 0 <|
 .m 8 3 <|
 .x 9 (.ia 3 (.v 7) (.v 8)) <|
 .o (.ld (some 10) (.v 9) (some 3)) <|
 .c 11 (.callv (.v 6) [.v 10]) .done) K152_4
abbrev K152_6:C:=.seq (.block 1 (.seq (.pl <| .e 6 1 <|
 .m 6 5 <|
 .m 3 6 .done) K152_5)) K152_2
abbrev K152_7:C:=.seq (.cond 6 (.v 6) (.skip) (.exit 0)) K152_6
abbrev K152_8:C:=.seq (.pl <| .e 6 1 <|
 .x 6 (.bin .lss (.v 5) (.v 4)) .done) K152_7
abbrev K152_9:C:=.block 0 (.loop 6 [2,3] K152_8)
abbrev K152_10:C:=.seq (.seq (.pl <| .e 6 1 <|
 .m 6 0 <|
 .x 4 (.lenV (.v 6)) <|
 .x 5 (.mv (.c (.int .i64 0))) .done) K152_9) K152_1
abbrev B_slices_IndexFunc_S_impl_Expr_impl_Expr:C:=.seq (.pl <| .e 6 0 <|
 .x 2 (.mv (.c (.int .i64 0))) .done) K152_10
def R_slices_IndexFunc_S_impl_Expr_impl_Expr:FIR:=⟨B_slices_IndexFunc_S_impl_Expr_impl_Expr,6,[(2,none)]⟩
theorem IR_slices_IndexFunc_S_impl_Expr_impl_Expr:cfun Tryz.prog H_slices_IndexFunc_S_impl_Expr_impl_Expr Tryz.f152=some R_slices_IndexFunc_S_impl_Expr_impl_Expr:=by kernel_rfl
theorem EN_slices_IndexFunc_S_impl_Expr_impl_Expr:ENT Tryz.prog B_slices_IndexFunc_S_impl_Expr_impl_Expr [(2,none)] 2 6 fn_slices_IndexFunc_S_impl_Expr_impl_Expr:=fun hargs hw=>enter Tryz.func152 rfl IR_slices_IndexFunc_S_impl_Expr_impl_Expr hargs hw
def H_slices_IndexFunc_S_int_int:Hint:=⟨[(0,false),(1,false),(4,false),(5,false),(7,false),(8,false)],[[2,3]]⟩
abbrev K119_1:C:=.seq (.pl <| .e 6 0 <|
 .x 2 (.mv (.c (.int .i64 (-1)))) .done) (.ret)
abbrev K119_2:C:=.pl <| .e 6 1 <|
 .x 6 (.bin .add (.v 5) (.c (.int .i64 1))) <|
 .m 5 6 .done
abbrev K119_3:C:=.seq (.pl <| .e 6 1 <|
 .m 6 3 <|
 .m 2 6 .done) (.ret)
abbrev K119_4:C:=.cond 6 (.v 11) K119_3 (.skip)
abbrev K119_5:C:=.seq (.pl <| .e 6 6 <|
 .m 6 1 <|
 .m 7 0 <|
 .m 8 3 <|
 .x 9 (.ia 1 (.v 7) (.v 8)) <|
 .l 10 9 <|
 .c 11 (.callv (.v 6) [.v 10]) .done) K119_4
abbrev K119_6:C:=.seq (.block 1 (.seq (.pl <| .e 6 1 <|
 .m 6 5 <|
 .m 3 6 .done) K119_5)) K119_2
abbrev K119_7:C:=.seq (.cond 6 (.v 6) (.skip) (.exit 0)) K119_6
abbrev K119_8:C:=.seq (.pl <| .e 6 1 <|
 .x 6 (.bin .lss (.v 5) (.v 4)) .done) K119_7
abbrev K119_9:C:=.block 0 (.loop 6 [2,3] K119_8)
abbrev K119_10:C:=.seq (.seq (.pl <| .e 6 1 <|
 .m 6 0 <|
 .x 4 (.lenV (.v 6)) <|
 .x 5 (.mv (.c (.int .i64 0))) .done) K119_9) K119_1
abbrev B_slices_IndexFunc_S_int_int:C:=.seq (.pl <| .e 6 0 <|
 .x 2 (.mv (.c (.int .i64 0))) .done) K119_10
def R_slices_IndexFunc_S_int_int:FIR:=⟨B_slices_IndexFunc_S_int_int,6,[(2,none)]⟩
theorem IR_slices_IndexFunc_S_int_int:cfun Tryz.prog H_slices_IndexFunc_S_int_int Tryz.f119=some R_slices_IndexFunc_S_int_int:=by kernel_rfl
theorem EN_slices_IndexFunc_S_int_int:ENT Tryz.prog B_slices_IndexFunc_S_int_int [(2,none)] 2 6 fn_slices_IndexFunc_S_int_int:=fun hargs hw=>enter Tryz.func119 rfl IR_slices_IndexFunc_S_int_int hargs hw
def H_spec_EdgeValid:Hint:=⟨[(0,false),(1,false),(2,true),(4,false)],[]⟩
abbrev K70_1:Pl:=.n 12 (.px (some 20) (.pick (.v 16) (.v 19) (.c (.bool false)))) <|
 .x 21 (.pick (.v 12) (.c (.bool true)) (.v 20)) <|
 .m 3 21 .done
abbrev K70_2:Pl:=.x 11 (.pick (.v 7) (.v 10) (.c (.bool false))) <|
 .m 12 11 <|
 .n 12 (.als 13 none 2) <|
 .n 12 (.pget (some 14) (some 13) 2 5 none) <|
 .n 12 (.px (some 15) (.bin .geq (.v 14) (.c (.int .i64 0)))) <|
 .n 12 (.px (some 16) (.mv (.v 15))) <|
 .y 16 (.als 17 none 2) <|
 .y 16 (.pget (some 18) (some 17) 2 6 (some 3)) <|
 .st (.act (some (.v 16,true)) (.ex (some 19) (.call fn_spec_ExprValid [.v 18]))) K70_1
abbrev K70_3:C:=.seq (.pl <| .e 4 18 <|
 .a 4 2 <|
 .g 5 4 2 5 <|
 .x 6 (.bin .lss (.v 5) (.c (.int .i64 0))) <|
 .m 7 6 <|
 .y 7 (.als 8 none 2) <|
 .y 7 (.pget (some 9) (some 8) 2 6 (some 3)) <|
 .st (.act (some (.v 7,true)) (.ex (some 10) (.call fn_spec_l2None [.v 9]))) K70_2) (.ret)
abbrev K70_4:C:=.seq (.pl <| .e 4 0 <|
 .x 3 (.mv (.c (.bool false))) .done) (.ret)
abbrev K70_5:C:=.cond 4 (.v 21) K70_4 (.skip)
abbrev K70_6:C:=.seq (.seq (.pl <| .e 4 18 <|
 .a 4 2 <|
 .g 5 4 2 9 <|
 .x 6 (.bin .lss (.v 5) (.c (.int .i64 (-2)))) <|
 .m 7 6 <|
 .n 7 (.als 8 none 2) <|
 .n 7 (.pget (some 9) (some 8) 2 9 none) <|
 .n 7 (.px (some 10) (.bin .gtr (.v 9) (.c (.int .i64 2)))) <|
 .x 11 (.pick (.v 7) (.c (.bool true)) (.v 10)) <|
 .m 12 11 <|
 .n 12 (.als 13 none 2) <|
 .n 12 (.pget (some 14) (some 13) 2 5 none) <|
 .n 12 (.px (some 15) (.bin .lss (.v 14) (.c (.int .i64 (-1))))) <|
 .x 16 (.pick (.v 12) (.c (.bool true)) (.v 15)) <|
 .m 17 16 <|
 .n 17 (.als 18 none 2) <|
 .n 17 (.pget (some 19) (some 18) 2 5 none) <|
 .n 17 (.px (some 20) (.bin .geq (.v 19) (.c (.int .i64 3)))) <|
 .x 21 (.pick (.v 17) (.c (.bool true)) (.v 20)) .done) K70_5) K70_3
abbrev K70_7:C:=.seq (.pl <| .e 4 0 <|
 .x 3 (.mv (.c (.bool false))) .done) (.ret)
abbrev K70_8:C:=.cond 4 (.v 33) K70_7 (.skip)
abbrev K70_9:Pl:=.n 28 (.px (some 32) (.un .not (.v 31))) <|
 .x 33 (.pick (.v 28) (.c (.bool true)) (.v 32)) .done
abbrev K70_10:C:=.seq (.seq (.pl <| .e 4 30 <|
 .a 4 2 <|
 .g 5 4 2 0 <|
 .x 6 (.bin .lss (.v 5) (.c (.int .i64 0))) <|
 .m 7 6 <|
 .n 7 (.als 8 none 2) <|
 .n 7 (.pget (some 9) (some 8) 2 0 none) <|
 .n 7 (.px (some 10) (.mv (.v 1))) <|
 .n 7 (.px (some 11) (.bin .geq (.v 9) (.v 10))) <|
 .x 12 (.pick (.v 7) (.c (.bool true)) (.v 11)) <|
 .m 13 12 <|
 .n 13 (.als 14 none 2) <|
 .n 13 (.pget (some 15) (some 14) 2 1 none) <|
 .n 13 (.px (some 16) (.bin .lss (.v 15) (.c (.int .i64 0)))) <|
 .x 17 (.pick (.v 13) (.c (.bool true)) (.v 16)) <|
 .m 18 17 <|
 .n 18 (.als 19 none 2) <|
 .n 18 (.pget (some 20) (some 19) 2 1 none) <|
 .n 18 (.px (some 21) (.mv (.v 1))) <|
 .n 18 (.px (some 22) (.bin .geq (.v 20) (.v 21))) <|
 .x 23 (.pick (.v 18) (.c (.bool true)) (.v 22)) <|
 .m 24 23 <|
 .n 24 (.px (some 25) (.mv (.v 1))) <|
 .n 24 (.px (some 26) (.bin .gtr (.v 25) (.c (.int .i64 4)))) <|
 .x 27 (.pick (.v 24) (.c (.bool true)) (.v 26)) <|
 .m 28 27 <|
 .n 28 (.als 29 none 2) <|
 .n 28 (.pget (some 30) (some 29) 2 2 (some 3)) <|
 .st (.act (some (.v 28,false)) (.ex (some 31) (.call fn_spec_ExprValid [.v 30]))) K70_9) K70_8) K70_6
abbrev B_spec_EdgeValid:C:=.seq (.pl <| .e 4 0 <|
 .o (.pnew 2 (.v 0) []) <|
 .x 3 (.mv (.c (.bool false))) .done) K70_10
def R_spec_EdgeValid:FIR:=⟨B_spec_EdgeValid,4,[(3,none)]⟩
theorem IR_spec_EdgeValid:cfun Tryz.prog H_spec_EdgeValid Tryz.f70=some R_spec_EdgeValid:=by kernel_rfl
theorem EN_spec_EdgeValid:ENT Tryz.prog B_spec_EdgeValid [(3,none)] 2 4 fn_spec_EdgeValid:=fun hargs hw=>enter Tryz.func70 rfl IR_spec_EdgeValid hargs hw
def H_spec_ExprValid:Hint:=⟨[(0,false),(1,true),(2,false)],[]⟩
abbrev K106_1:Pl:=.y 5 (.px (some 8) (.bin .leq (.v 7) (.c (.int .i64 15)))) <|
 .x 9 (.pick (.v 5) (.v 8) (.c (.bool false))) <|
 .m 2 9 .done
abbrev K106_2:Pl:=.m 5 4 <|
 .y 5 (.pget (some 6) none 1 0 (some 3)) <|
 .st (.act (some (.v 5,true)) (.ex (some 7) (.call fn_spec_l1Count [.v 6,.c (.int .i64 6)]))) K106_1
abbrev K106_3:C:=.seq (.pl <| .e 3 7 <|
 .o (.pget (some 3) none 1 0 (some 3)) <|
 .c 4 (.call fn_spec_l1Shape [.v 3,.c (.int .i64 6)]) K106_2) (.ret)
abbrev B_spec_ExprValid:C:=.seq (.pl <| .e 3 0 <|
 .o (.pnew 1 (.v 0) []) <|
 .x 2 (.mv (.c (.bool false))) .done) K106_3
def R_spec_ExprValid:FIR:=⟨B_spec_ExprValid,3,[(2,none)]⟩
theorem IR_spec_ExprValid:cfun Tryz.prog H_spec_ExprValid Tryz.f106=some R_spec_ExprValid:=by kernel_rfl
theorem EN_spec_ExprValid:ENT Tryz.prog B_spec_ExprValid [(2,none)] 1 3 fn_spec_ExprValid:=fun hargs hw=>enter Tryz.func106 rfl IR_spec_ExprValid hargs hw
def H_spec_FormatExpr:Hint:=⟨[(0,false),(1,true),(2,false)],[]⟩
abbrev K77_1:Pl:=.m 2 4 .done
abbrev K77_2:C:=.seq (.pl <| .e 3 2 <|
 .o (.pget (some 3) none 1 0 (some 3)) <|
 .c 4 (.call fn_spec_l1Format [.v 3]) K77_1) (.ret)
abbrev K77_3:C:=.seq (.pl <| .e 3 0 <|
 .x 2 (.mv (.c (.string ⟨#[]⟩))) .done) (.ret)
abbrev K77_4:C:=.cond 3 (.v 5) K77_3 (.skip)
abbrev K77_5:Pl:=.x 5 (.un .not (.v 4)) .done
abbrev K77_6:C:=.seq (.seq (.pl <| .e 3 3 <|
 .o (.pget (some 3) none 1 0 (some 3)) <|
 .c 4 (.call fn_spec_ExprValid [.v 3]) K77_5) K77_4) K77_2
abbrev B_spec_FormatExpr:C:=.seq (.pl <| .e 3 0 <|
 .o (.pnew 1 (.v 0) []) <|
 .x 2 (.mv (.c (.string ⟨#[]⟩))) .done) K77_6
def R_spec_FormatExpr:FIR:=⟨B_spec_FormatExpr,3,[(2,none)]⟩
theorem IR_spec_FormatExpr:cfun Tryz.prog H_spec_FormatExpr Tryz.f77=some R_spec_FormatExpr:=by kernel_rfl
theorem EN_spec_FormatExpr:ENT Tryz.prog B_spec_FormatExpr [(2,none)] 1 3 fn_spec_FormatExpr:=fun hargs hw=>enter Tryz.func77 rfl IR_spec_FormatExpr hargs hw
def H_spec_FormatSystem:Hint:=⟨[(0,false),(1,true),(2,false),(3,false),(4,false),(5,false),(6,false)],[[0,2,5,6],[0,2,4,6],[0,2,4]]⟩
abbrev K12_1:C:=.seq (.pl <| .e 7 1 <|
 .m 7 3 <|
 .m 2 7 .done) (.ret)
abbrev K12_2:C:=.pl <| .e 7 2 <|
 .m 7 5 <|
 .x 8 (.bin .add (.v 7) (.c (.int .i64 1))) <|
 .m 5 8 .done
abbrev K12_3:C:=.pl <| .e 7 2 <|
 .m 7 6 <|
 .x 8 (.bin .add (.v 7) (.c (.int .i64 1))) <|
 .m 6 8 .done
abbrev K12_4:Pl:=.x 18 (.bin .add (.v 7) (.v 17)) <|
 .m 3 18 .done
abbrev K12_5:C:=.seq (.block 5 (.pl <| .e 7 12 <|
 .m 7 3 <|
 .a 8 1 <|
 .g 9 8 1 1 <|
 .m 10 5 <|
 .x 11 (.ia 2 (.v 9) (.v 10)) <|
 .x 12 (.fa 1 (.v 11)) <|
 .l 13 12 <|
 .m 14 6 <|
 .x 15 (.ia 10 (.v 13) (.v 14)) <|
 .o (.ld (some 16) (.v 15) (some 10)) <|
 .c 17 (.call fn_spec_l2Line [.v 16]) K12_4)) K12_3
abbrev K12_6:C:=.cond 7 (.v 15) (.skip) (.exit 4)
abbrev K12_7:C:=.seq (.seq (.pl <| .e 7 9 <|
 .m 7 6 <|
 .a 8 1 <|
 .g 9 8 1 1 <|
 .m 10 5 <|
 .x 11 (.ia 2 (.v 9) (.v 10)) <|
 .x 12 (.fa 1 (.v 11)) <|
 .l 13 12 <|
 .x 14 (.lenV (.v 13)) <|
 .x 15 (.bin .lss (.v 7) (.v 14)) .done) K12_6) K12_5
abbrev K12_8:C:=.block 4 (.loop 7 [0,2,4] K12_7)
abbrev K12_9:C:=.seq (.pl <| .e 7 0 <|
 .x 6 (.mv (.c (.int .i64 0))) .done) K12_8
abbrev K12_10:Pl:=.x 16 (.bin .add (.v 8) (.v 15)) <|
 .x 17 (.bin .add (.v 16) (.c (.string ⟨#[10]⟩))) <|
 .m 3 17 .done
abbrev K12_11:C:=.seq (.block 3 (.seq (.pl <| .e 7 11 <|
 .m 7 3 <|
 .x 8 (.bin .add (.v 7) (.c (.string ⟨#[112,114,111,99,101,115,115,32]⟩))) <|
 .a 9 1 <|
 .g 10 9 1 1 <|
 .m 11 5 <|
 .x 12 (.ia 2 (.v 10) (.v 11)) <|
 .x 13 (.fa 0 (.v 12)) <|
 .l 14 13 <|
 .c 15 (.call fn_spec_l16Dec [.v 14]) K12_10) K12_9)) K12_2
abbrev K12_12:C:=.cond 7 (.v 11) (.skip) (.exit 2)
abbrev K12_13:C:=.seq (.seq (.pl <| .e 7 5 <|
 .m 7 5 <|
 .a 8 1 <|
 .g 9 8 1 1 <|
 .x 10 (.lenV (.v 9)) <|
 .x 11 (.bin .lss (.v 7) (.v 10)) .done) K12_12) K12_11
abbrev K12_14:C:=.block 2 (.loop 7 [0,2,4,6] K12_13)
abbrev K12_15:C:=.seq (.seq (.pl <| .e 7 0 <|
 .x 5 (.mv (.c (.int .i64 0))) .done) K12_14) K12_1
abbrev K12_16:C:=.seq (.pl <| .e 7 2 <|
 .m 7 3 <|
 .x 8 (.bin .add (.v 7) (.c (.string ⟨#[10]⟩))) <|
 .m 3 8 .done) K12_15
abbrev K12_17:C:=.pl <| .e 7 2 <|
 .m 7 4 <|
 .x 8 (.bin .add (.v 7) (.c (.int .i64 1))) <|
 .m 4 8 .done
abbrev K12_18:Pl:=.x 15 (.bin .add (.v 8) (.v 14)) <|
 .m 3 15 .done
abbrev K12_19:C:=.seq (.block 1 (.pl <| .e 7 9 <|
 .m 7 3 <|
 .x 8 (.bin .add (.v 7) (.c (.string ⟨#[32]⟩))) <|
 .a 9 1 <|
 .g 10 9 1 0 <|
 .m 11 4 <|
 .x 12 (.ia 1 (.v 10) (.v 11)) <|
 .l 13 12 <|
 .c 14 (.call fn_spec_l16Dec [.v 13]) K12_18)) K12_17
abbrev K12_20:C:=.cond 7 (.v 11) (.skip) (.exit 0)
abbrev K12_21:C:=.seq (.seq (.pl <| .e 7 5 <|
 .m 7 4 <|
 .a 8 1 <|
 .g 9 8 1 0 <|
 .x 10 (.lenV (.v 9)) <|
 .x 11 (.bin .lss (.v 7) (.v 10)) .done) K12_20) K12_19
abbrev K12_22:C:=.block 0 (.loop 7 [0,2,5,6] K12_21)
abbrev K12_23:C:=.seq (.seq (.pl <| .e 7 0 <|
 .x 4 (.mv (.c (.int .i64 0))) .done) K12_22) K12_16
abbrev K12_24:C:=.seq (.pl <| .e 7 0 <|
 .x 3 (.mv (.c (.string ⟨#[115,121,115,116,101,109]⟩))) .done) K12_23
abbrev K12_25:C:=.seq (.pl <| .e 7 0 <|
 .x 2 (.mv (.c (.string ⟨#[]⟩))) .done) (.ret)
abbrev K12_26:C:=.cond 7 (.v 9) K12_25 (.skip)
abbrev K12_27:Pl:=.x 9 (.un .not (.v 8)) .done
abbrev K12_28:C:=.seq (.seq (.pl <| .e 7 3 <|
 .o (.pget (some 7) none 1 0 (some 2)) <|
 .c 8 (.call fn_spec_SystemValid [.v 7]) K12_27) K12_26) K12_24
abbrev B_spec_FormatSystem:C:=.seq (.pl <| .e 7 0 <|
 .o (.pnew 1 (.v 0) []) <|
 .x 2 (.mv (.c (.string ⟨#[]⟩))) .done) K12_28
def R_spec_FormatSystem:FIR:=⟨B_spec_FormatSystem,7,[(2,none)]⟩
theorem IR_spec_FormatSystem:cfun Tryz.prog H_spec_FormatSystem Tryz.f12=some R_spec_FormatSystem:=by kernel_rfl
theorem EN_spec_FormatSystem:ENT Tryz.prog B_spec_FormatSystem [(2,none)] 1 7 fn_spec_FormatSystem:=fun hargs hw=>enter Tryz.func12 rfl IR_spec_FormatSystem hargs hw
def H_spec_ParseExpr:Hint:=⟨[(0,false),(2,true),(3,false),(4,true),(5,false)],[]⟩
abbrev K48_1:C:=.seq (.pl <| .e 5 1 <|
 .o (.pget (some 5) none 3 0 (some 3)) <|
 .o (.pset none 1 0 3 (.v 5)) <|
 .x 2 (.mv (.c (.bool true))) .done) (.ret)
abbrev K48_2:C:=.seq (.pl <| .e 5 1 <|
 .x 5 (.build [.int .i64 0,.int .i64 0,.slice none 0 0] []) <|
 .o (.pset none 1 0 3 (.v 5)) <|
 .x 2 (.mv (.c (.bool false))) .done) (.ret)
abbrev K48_3:C:=.cond 5 (.v 18) K48_2 (.skip)
abbrev K48_4:Pl:=.n 13 (.px (some 16) (.mv (.v 0))) <|
 .n 13 (.px (some 17) (.bin .neq (.v 15) (.v 16))) <|
 .x 18 (.pick (.v 13) (.c (.bool true)) (.v 17)) .done
abbrev K48_5:C:=.seq (.seq (.pl <| .e 5 14 <|
 .m 5 0 <|
 .x 6 (.bin .eql (.v 5) (.c (.string ⟨#[]⟩))) <|
 .m 7 6 <|
 .n 7 (.px (some 8) (.mv (.v 4))) <|
 .n 7 (.px (some 9) (.mv (.v 0))) <|
 .n 7 (.px (some 10) (.lenS (.v 9))) <|
 .n 7 (.px (some 11) (.bin .neq (.v 8) (.v 10))) <|
 .x 12 (.pick (.v 7) (.c (.bool true)) (.v 11)) <|
 .m 13 12 <|
 .n 13 (.pget (some 14) none 3 0 (some 3)) <|
 .st (.act (some (.v 13,false)) (.ex (some 15) (.call fn_spec_FormatExpr [.v 14]))) K48_4) K48_3) K48_1
abbrev K48_6:Pl:=.m 7 6 <|
 .x 8 (.extract 0 (.v 7)) <|
 .x 9 (.extract 1 (.v 7)) <|
 .o (.pnew 3 (.c (.agg #[.int .i64 0,.int .i64 0,.slice none 0 0])) []) <|
 .o (.pset none 3 0 3 (.v 8)) <|
 .m 4 9 .done
abbrev K48_7:C:=.seq (.pl <| .e 5 5 <|
 .m 5 0 <|
 .c 6 (.call fn_spec_l1Parse [.v 5,.c (.int .i64 0),.c (.int .i64 6)]) K48_6) K48_5
abbrev B_spec_ParseExpr:C:=.seq (.pl <| .e 5 0 <|
 .o (.pnew 1 (.c (.agg #[.int .i64 0,.int .i64 0,.slice none 0 0])) []) <|
 .x 2 (.mv (.c (.bool false))) .done) K48_7
def R_spec_ParseExpr:FIR:=⟨B_spec_ParseExpr,5,[(1,some (some 3)),(2,none)]⟩
theorem IR_spec_ParseExpr:cfun Tryz.prog H_spec_ParseExpr Tryz.f48=some R_spec_ParseExpr:=by kernel_rfl
theorem EN_spec_ParseExpr:ENT Tryz.prog B_spec_ParseExpr [(1,some (some 3)),(2,none)] 1 5 fn_spec_ParseExpr:=fun hargs hw=>enter Tryz.func48 rfl IR_spec_ParseExpr hargs hw
def H_spec_ParseSystem:Hint:=⟨[(0,false),(2,true),(3,false),(4,false),(5,true),(6,false),(7,false),(8,false),(9,false),(10,false),(12,false)],[[2,6,7,8,9,10],[2,7,9,10]]⟩
abbrev K5_1:C:=.seq (.pl <| .e 11 1 <|
 .o (.pget (some 11) none 4 0 (some 2)) <|
 .o (.pset none 1 0 2 (.v 11)) <|
 .x 2 (.mv (.c (.bool true))) .done) (.ret)
abbrev K5_2:C:=.seq (.pl <| .e 11 1 <|
 .x 11 (.build [.slice none 0 0,.slice none 0 0] []) <|
 .o (.pset none 1 0 2 (.v 11)) <|
 .x 2 (.mv (.c (.bool false))) .done) (.ret)
abbrev K5_3:C:=.cond 11 (.v 18) K5_2 (.skip)
abbrev K5_4:Pl:=.n 13 (.px (some 16) (.mv (.v 0))) <|
 .n 13 (.px (some 17) (.bin .neq (.v 15) (.v 16))) <|
 .x 18 (.pick (.v 13) (.c (.bool true)) (.v 17)) .done
abbrev K5_5:C:=.seq (.seq (.pl <| .e 11 8 <|
 .m 11 0 <|
 .x 12 (.bin .eql (.v 11) (.c (.string ⟨#[]⟩))) <|
 .m 13 12 <|
 .n 13 (.pget (some 14) none 4 0 (some 2)) <|
 .st (.act (some (.v 13,false)) (.ex (some 15) (.call fn_spec_FormatSystem [.v 14]))) K5_4) K5_3) K5_1
abbrev K5_6:C:=.pl <| .e 11 2 <|
 .m 11 5 <|
 .x 12 (.bin .add (.v 11) (.c (.int .i64 1))) <|
 .m 5 12 .done
abbrev K5_7:C:=.pl <| .e 11 2 <|
 .m 11 8 <|
 .x 12 (.bin .add (.v 11) (.c (.int .i64 1))) <|
 .m 8 12 .done
abbrev K5_8:Pl:=.a 16 4 <|
 .o (.pset (some 16) 4 0 1 (.v 15)) .done
abbrev K5_9:C:=.pl <| .e 11 6 <|
 .a 11 4 <|
 .g 12 11 4 0 <|
 .m 13 9 <|
 .o (.psl 14 [.int .i64 0] [(0,1,.v 13)]) <|
 .c 15 (.app 8 1 [.int .i64 0] (.o (.v 12)) (.p 1 14)) K5_8
abbrev K5_10:Pl:=.m 16 15 <|
 .x 17 (.extract 0 (.v 16)) <|
 .x 18 (.extract 1 (.v 16)) <|
 .m 9 17 <|
 .m 19 18 .done
abbrev K5_11:C:=.seq (.block 4 (.seq (.pl <| .e 11 9 <|
 .m 11 6 <|
 .m 12 8 <|
 .x 13 (.ia 1 (.v 11) (.v 12)) <|
 .l 14 13 <|
 .c 15 (.call fn_spec_l16Num [.v 14]) K5_10) K5_9)) K5_7
abbrev K5_12:C:=.cond 11 (.v 14) (.skip) (.exit 3)
abbrev K5_13:C:=.seq (.seq (.pl <| .e 11 4 <|
 .m 11 8 <|
 .m 12 6 <|
 .x 13 (.lenV (.v 12)) <|
 .x 14 (.bin .lss (.v 11) (.v 13)) .done) K5_12) K5_11
abbrev K5_14:C:=.block 3 (.loop 11 [2,7,9,10] K5_13)
abbrev K5_15:C:=.seq (.pl <| .e 11 0 <|
 .x 8 (.mv (.c (.int .i64 1))) .done) K5_14
abbrev K5_16:Pl:=.a 17 4 <|
 .o (.pset (some 17) 4 1 1 (.v 16)) .done
abbrev K5_17:C:=.pl <| .e 11 7 <|
 .a 11 4 <|
 .g 12 11 4 1 <|
 .m 13 10 <|
 .x 14 (.build [.int .i64 0,.slice none 0 0] [(0,1,.v 13)]) <|
 .o (.psl 15 [.int .i64 0,.slice none 0 0] [(0,2,.v 14)]) <|
 .c 16 (.app 32 2 [.int .i64 0,.slice none 0 0] (.o (.v 12)) (.p 1 15)) K5_16
abbrev K5_18:Pl:=.m 15 14 <|
 .x 16 (.extract 0 (.v 15)) <|
 .x 17 (.extract 1 (.v 15)) <|
 .m 10 16 <|
 .m 18 17 .done
abbrev K5_19:C:=.seq (.pl <| .e 11 8 <|
 .m 11 6 <|
 .x 12 (.ia 1 (.v 11) (.c (.int .i64 1))) <|
 .l 13 12 <|
 .c 14 (.call fn_spec_l16Num [.v 13]) K5_18) K5_17
abbrev K5_20:Pl:=.x 26 (.ia 2 (.v 12) (.v 14)) <|
 .x 27 (.fa 1 (.v 26)) <|
 .o (.ex none (.store 1 (.v 27) (.v 25))) .done
abbrev K5_21:Pl:=.st (.re 21 (.v 20) none none) <|
 .o (.psl 24 [.int .i64 0,.int .i64 0,.int .i64 0,.int .i64 0,.slice none 0 0,.int .i64 0,.int .i64 0,.int .i64 0,.slice none 0 0,.int .i64 0] [(0,10,.v 23)]) <|
 .c 25 (.app 112 10 [.int .i64 0,.int .i64 0,.int .i64 0,.int .i64 0,.slice none 0 0,.int .i64 0,.int .i64 0,.int .i64 0,.slice none 0 0,.int .i64 0] (.o (.v 21)) (.p 1 24)) K5_20
abbrev K5_22:C:=.pl <| .e 11 17 <|
 .a 11 4 <|
 .g 12 11 4 1 <|
 .m 13 7 <|
 .x 14 (.bin .sub (.v 13) (.c (.int .i64 1))) <|
 .a 15 4 <|
 .g 16 15 4 1 <|
 .m 17 7 <|
 .x 18 (.bin .sub (.v 17) (.c (.int .i64 1))) <|
 .x 19 (.ia 2 (.v 16) (.v 18)) <|
 .x 20 (.fa 1 (.v 19)) <|
 .l 21 20 <|
 .m 22 6 <|
 .c 23 (.call fn_spec_l2ScanEdge [.v 22]) K5_21
abbrev K5_23:C:=.cond 11 (.v 24) K5_22 (.skip)
abbrev K5_24:C:=.seq (.pl <| .e 11 14 <|
 .m 11 6 <|
 .x 12 (.ia 1 (.v 11) (.c (.int .i64 0))) <|
 .l 13 12 <|
 .x 14 (.bin .eql (.v 13) (.c (.string ⟨#[101,100,103,101]⟩))) <|
 .m 15 14 <|
 .y 15 (.px (some 16) (.mv (.v 6))) <|
 .y 15 (.px (some 17) (.lenV (.v 16))) <|
 .y 15 (.px (some 18) (.bin .eql (.v 17) (.c (.int .i64 6)))) <|
 .x 19 (.pick (.v 15) (.v 18) (.c (.bool false))) <|
 .m 20 19 <|
 .y 20 (.px (some 21) (.mv (.v 7))) <|
 .y 20 (.px (some 22) (.bin .gtr (.v 21) (.c (.int .i64 0)))) <|
 .x 23 (.pick (.v 20) (.v 22) (.c (.bool false))) <|
 .m 24 23 .done) K5_23
abbrev K5_25:C:=.cond 11 (.v 20) K5_19 K5_24
abbrev K5_26:C:=.seq (.pl <| .e 11 10 <|
 .m 11 6 <|
 .x 12 (.ia 1 (.v 11) (.c (.int .i64 0))) <|
 .l 13 12 <|
 .x 14 (.bin .eql (.v 13) (.c (.string ⟨#[112,114,111,99,101,115,115]⟩))) <|
 .m 15 14 <|
 .y 15 (.px (some 16) (.mv (.v 6))) <|
 .y 15 (.px (some 17) (.lenV (.v 16))) <|
 .y 15 (.px (some 18) (.bin .eql (.v 17) (.c (.int .i64 2)))) <|
 .x 19 (.pick (.v 15) (.v 18) (.c (.bool false))) <|
 .m 20 19 .done) K5_25
abbrev K5_27:C:=.cond 11 (.v 13) K5_15 K5_26
abbrev K5_28:C:=.block 2 (.seq (.pl <| .e 11 3 <|
 .m 11 5 <|
 .x 12 (.bin .eql (.v 11) (.c (.int .i64 0))) <|
 .m 13 12 .done) K5_27)
abbrev K5_29:C:=.seq (.pl <| .e 11 3 <|
 .a 11 4 <|
 .g 12 11 4 1 <|
 .x 13 (.lenV (.v 12)) <|
 .m 7 13 .done) K5_28
abbrev K5_30:Pl:=.m 6 15 .done
abbrev K5_31:C:=.seq (.block 1 (.seq (.pl <| .e 11 5 <|
 .m 11 3 <|
 .m 12 5 <|
 .x 13 (.ia 1 (.v 11) (.v 12)) <|
 .l 14 13 <|
 .c 15 (.call fn_spec_l16Cut [.v 14,.c (.int .u8 32)]) K5_30) K5_29)) K5_6
abbrev K5_32:C:=.cond 11 (.v 19) (.skip) (.exit 0)
abbrev K5_33:C:=.seq (.seq (.pl <| .e 11 9 <|
 .m 11 5 <|
 .x 12 (.bin .add (.v 11) (.c (.int .i64 1))) <|
 .m 13 3 <|
 .x 14 (.lenV (.v 13)) <|
 .x 15 (.bin .lss (.v 12) (.v 14)) <|
 .m 16 15 <|
 .y 16 (.px (some 17) (.mv (.v 5))) <|
 .y 16 (.px (some 18) (.bin .leq (.v 17) (.c (.int .i64 40)))) <|
 .x 19 (.pick (.v 16) (.v 18) (.c (.bool false))) .done) K5_32) K5_31
abbrev K5_34:C:=.block 0 (.loop 11 [2,6,7,8,9,10] K5_33)
abbrev K5_35:C:=.seq (.seq (.pl <| .e 11 0 <|
 .x 5 (.mv (.c (.int .i64 0))) .done) K5_34) K5_5
abbrev K5_36:C:=.seq (.pl <| .e 11 1 <|
 .x 11 (.build [.slice none 0 0,.slice none 0 0] []) <|
 .o (.pnew 4 (.c (.agg #[.slice none 0 0,.slice none 0 0])) []) <|
 .o (.pset none 4 0 2 (.v 11)) .done) K5_35
abbrev K5_37:Pl:=.m 3 12 .done
abbrev K5_38:C:=.seq (.pl <| .e 11 2 <|
 .m 11 0 <|
 .c 12 (.call fn_spec_l16Cut [.v 11,.c (.int .u8 10)]) K5_37) K5_36
abbrev B_spec_ParseSystem:C:=.seq (.pl <| .e 11 0 <|
 .o (.pnew 1 (.c (.agg #[.slice none 0 0,.slice none 0 0])) []) <|
 .x 2 (.mv (.c (.bool false))) .done) K5_38
def R_spec_ParseSystem:FIR:=⟨B_spec_ParseSystem,11,[(1,some (some 2)),(2,none)]⟩
theorem IR_spec_ParseSystem:cfun Tryz.prog H_spec_ParseSystem Tryz.f5=some R_spec_ParseSystem:=by kernel_rfl
theorem EN_spec_ParseSystem:ENT Tryz.prog B_spec_ParseSystem [(1,some (some 2)),(2,none)] 1 11 fn_spec_ParseSystem:=fun hargs hw=>enter Tryz.func5 rfl IR_spec_ParseSystem hargs hw
def H_spec_SystemValid:Hint:=⟨[(0,false),(1,true),(2,false),(3,false)],[[0,2]]⟩
abbrev K13_1:Pl:=.m 7 6 <|
 .y 7 (.als 8 none 1) <|
 .y 7 (.pget (some 9) (some 8) 1 1 none) <|
 .y 7 (.px (some 10) (.lenV (.v 9))) <|
 .y 7 (.px (some 11) (.bin .geq (.v 10) (.c (.int .i64 1)))) <|
 .x 12 (.pick (.v 7) (.v 11) (.c (.bool false))) <|
 .m 13 12 <|
 .y 13 (.als 14 none 1) <|
 .y 13 (.pget (some 15) (some 14) 1 1 none) <|
 .y 13 (.px (some 16) (.lenV (.v 15))) <|
 .y 13 (.px (some 17) (.bin .leq (.v 16) (.c (.int .i64 3)))) <|
 .x 18 (.pick (.v 13) (.v 17) (.c (.bool false))) <|
 .m 2 18 .done
abbrev K13_2:C:=.seq (.pl <| .e 4 15 <|
 .a 4 1 <|
 .g 5 4 1 0 <|
 .c 6 (.call fn_spec_l1Vals [.v 5]) K13_1) (.ret)
abbrev K13_3:C:=.pl <| .e 4 2 <|
 .m 4 3 <|
 .x 5 (.bin .add (.v 4) (.c (.int .i64 1))) <|
 .m 3 5 .done
abbrev K13_4:C:=.seq (.pl <| .e 4 0 <|
 .x 2 (.mv (.c (.bool false))) .done) (.ret)
abbrev K13_5:C:=.cond 4 (.v 10) K13_4 (.skip)
abbrev K13_6:Pl:=.x 10 (.un .not (.v 9)) .done
abbrev K13_7:C:=.seq (.block 1 (.seq (.pl <| .e 4 7 <|
 .a 4 1 <|
 .g 5 4 1 1 <|
 .m 6 3 <|
 .x 7 (.ia 2 (.v 5) (.v 6)) <|
 .o (.ld (some 8) (.v 7) (some 2)) <|
 .c 9 (.call fn_spec_l2Process [.v 8]) K13_6) K13_5)) K13_3
abbrev K13_8:C:=.cond 4 (.v 8) (.skip) (.exit 0)
abbrev K13_9:C:=.seq (.seq (.pl <| .e 4 5 <|
 .m 4 3 <|
 .a 5 1 <|
 .g 6 5 1 1 <|
 .x 7 (.lenV (.v 6)) <|
 .x 8 (.bin .lss (.v 4) (.v 7)) .done) K13_8) K13_7
abbrev K13_10:C:=.block 0 (.loop 4 [0,2] K13_9)
abbrev K13_11:C:=.seq (.seq (.pl <| .e 4 0 <|
 .x 3 (.mv (.c (.int .i64 0))) .done) K13_10) K13_2
abbrev B_spec_SystemValid:C:=.seq (.pl <| .e 4 0 <|
 .o (.pnew 1 (.v 0) []) <|
 .x 2 (.mv (.c (.bool false))) .done) K13_11
def R_spec_SystemValid:FIR:=⟨B_spec_SystemValid,4,[(2,none)]⟩
theorem IR_spec_SystemValid:cfun Tryz.prog H_spec_SystemValid Tryz.f13=some R_spec_SystemValid:=by kernel_rfl
theorem EN_spec_SystemValid:ENT Tryz.prog B_spec_SystemValid [(2,none)] 1 4 fn_spec_SystemValid:=fun hargs hw=>enter Tryz.func13 rfl IR_spec_SystemValid hargs hw
def H_spec_l16Cut:Hint:=⟨[(0,false),(1,false),(4,false),(5,false),(6,false),(7,false)],[[2]]⟩
abbrev K16_1:C:=.seq (.pl <| .e 6 1 <|
 .m 6 3 <|
 .m 2 6 .done) (.ret)
abbrev K16_2:C:=.pl <| .e 6 2 <|
 .m 6 5 <|
 .x 7 (.bin .add (.v 6) (.c (.int .i64 1))) <|
 .m 5 7 .done
abbrev K16_3:C:=.pl <| .e 6 2 <|
 .m 6 5 <|
 .x 7 (.bin .add (.v 6) (.c (.int .i64 1))) <|
 .m 4 7 .done
abbrev K16_4:Pl:=.m 3 12 .done
abbrev K16_5:C:=.seq (.pl <| .e 6 7 <|
 .m 6 3 <|
 .m 7 0 <|
 .m 8 4 <|
 .m 9 5 <|
 .x 10 (.sliceS (.v 7) (some (.v 8)) (some (.v 9))) <|
 .o (.psl 11 [.string ⟨#[]⟩] [(0,1,.v 10)]) <|
 .c 12 (.app 16 1 [.string ⟨#[]⟩] (.o (.v 6)) (.p 1 11)) K16_4) K16_3
abbrev K16_6:C:=.cond 6 (.v 16) K16_5 (.skip)
abbrev K16_7:C:=.seq (.block 1 (.seq (.pl <| .e 6 11 <|
 .m 6 5 <|
 .m 7 0 <|
 .x 8 (.lenS (.v 7)) <|
 .x 9 (.bin .eql (.v 6) (.v 8)) <|
 .m 10 9 <|
 .n 10 (.px (some 11) (.mv (.v 0))) <|
 .n 10 (.px (some 12) (.mv (.v 5))) <|
 .n 10 (.px (some 13) (.idxS (.v 11) (.v 12))) <|
 .n 10 (.px (some 14) (.mv (.v 1))) <|
 .n 10 (.px (some 15) (.bin .eql (.v 13) (.v 14))) <|
 .x 16 (.pick (.v 10) (.c (.bool true)) (.v 15)) .done) K16_6)) K16_2
abbrev K16_8:C:=.cond 6 (.v 9) (.skip) (.exit 0)
abbrev K16_9:C:=.seq (.seq (.pl <| .e 6 4 <|
 .m 6 5 <|
 .m 7 0 <|
 .x 8 (.lenS (.v 7)) <|
 .x 9 (.bin .leq (.v 6) (.v 8)) .done) K16_8) K16_7
abbrev K16_10:C:=.block 0 (.loop 6 [2] K16_9)
abbrev K16_11:C:=.seq (.seq (.pl <| .e 6 0 <|
 .x 5 (.mv (.c (.int .i64 0))) .done) K16_10) K16_1
abbrev K16_12:C:=.seq (.pl <| .e 6 0 <|
 .x 4 (.mv (.c (.int .i64 0))) .done) K16_11
abbrev K16_13:Pl:=.m 3 6 .done
abbrev K16_14:C:=.seq (.pl <| .e 6 1 <|
 .c 6 (.bls 1 0 [.string ⟨#[]⟩] []) K16_13) K16_12
abbrev B_spec_l16Cut:C:=.seq (.pl <| .e 6 0 <|
 .x 2 (.mv (.c (.slice none 0 0))) .done) K16_14
def R_spec_l16Cut:FIR:=⟨B_spec_l16Cut,6,[(2,none)]⟩
theorem IR_spec_l16Cut:cfun Tryz.prog H_spec_l16Cut Tryz.f16=some R_spec_l16Cut:=by kernel_rfl
theorem EN_spec_l16Cut:ENT Tryz.prog B_spec_l16Cut [(2,none)] 2 6 fn_spec_l16Cut:=fun hargs hw=>enter Tryz.func16 rfl IR_spec_l16Cut hargs hw
def H_spec_l16Dec:Hint:=⟨[(0,false),(2,false),(3,false)],[[1]]⟩
abbrev K36_1:Pl:=.m 8 2 <|
 .x 9 (.bin .add (.v 7) (.v 8)) <|
 .m 1 9 .done
abbrev K36_2:Pl:=.c 7 (.bstr (.v 6)) K36_1
abbrev K36_3:C:=.seq (.pl <| .e 3 7 <|
 .m 3 0 <|
 .x 4 (.bin .add (.c (.int .i64 48)) (.v 3)) <|
 .x 5 (.conv .u8 (.v 4)) <|
 .c 6 (.bls 1 1 [.int .u8 0] [(0,1,.v 5)]) K36_2) (.ret)
abbrev K36_4:C:=.pl <| .e 3 2 <|
 .m 3 0 <|
 .x 4 (.bin .quo (.v 3) (.c (.int .i64 10))) <|
 .m 0 4 .done
abbrev K36_5:Pl:=.m 9 2 <|
 .x 10 (.bin .add (.v 8) (.v 9)) <|
 .m 2 10 .done
abbrev K36_6:Pl:=.c 8 (.bstr (.v 7)) K36_5
abbrev K36_7:C:=.block 1 (.seq (.pl <| .e 3 8 <|
 .m 3 0 <|
 .x 4 (.bin .rem (.v 3) (.c (.int .i64 10))) <|
 .x 5 (.bin .add (.c (.int .i64 48)) (.v 4)) <|
 .x 6 (.conv .u8 (.v 5)) <|
 .c 7 (.bls 1 1 [.int .u8 0] [(0,1,.v 6)]) K36_6) K36_4)
abbrev K36_8:C:=.cond 3 (.v 4) (.skip) (.exit 0)
abbrev K36_9:C:=.seq (.seq (.pl <| .e 3 2 <|
 .m 3 0 <|
 .x 4 (.bin .gtr (.v 3) (.c (.int .i64 9))) .done) K36_8) K36_7
abbrev K36_10:C:=.seq (.block 0 (.loop 3 [1] K36_9)) K36_3
abbrev K36_11:C:=.seq (.pl <| .e 3 0 <|
 .x 2 (.mv (.c (.string ⟨#[]⟩))) .done) K36_10
abbrev K36_12:Pl:=.x 6 (.bin .add (.c (.string ⟨#[45]⟩)) (.v 5)) <|
 .m 1 6 .done
abbrev K36_13:C:=.seq (.pl <| .e 3 4 <|
 .m 3 0 <|
 .x 4 (.un .neg (.v 3)) <|
 .c 5 (.call fn_spec_l16Dec [.v 4]) K36_12) (.ret)
abbrev K36_14:C:=.cond 3 (.v 4) K36_13 (.skip)
abbrev K36_15:C:=.seq (.seq (.pl <| .e 3 2 <|
 .m 3 0 <|
 .x 4 (.bin .lss (.v 3) (.c (.int .i64 0))) .done) K36_14) K36_11
abbrev K36_16:C:=.seq (.pl <| .e 3 0 <|
 .x 1 (.mv (.c (.string ⟨#[45,57,50,50,51,51,55,50,48,51,54,56,53,52,55,55,53,56,48,56]⟩))) .done) (.ret)
abbrev K36_17:C:=.cond 3 (.v 4) K36_16 (.skip)
abbrev K36_18:C:=.seq (.seq (.pl <| .e 3 2 <|
 .m 3 0 <|
 .x 4 (.bin .lss (.v 3) (.c (.int .i64 (-9223372036854775807)))) .done) K36_17) K36_15
abbrev B_spec_l16Dec:C:=.seq (.pl <| .e 3 0 <|
 .x 1 (.mv (.c (.string ⟨#[]⟩))) .done) K36_18
def R_spec_l16Dec:FIR:=⟨B_spec_l16Dec,3,[(1,none)]⟩
theorem IR_spec_l16Dec:cfun Tryz.prog H_spec_l16Dec Tryz.f36=some R_spec_l16Dec:=by kernel_rfl
theorem EN_spec_l16Dec:ENT Tryz.prog B_spec_l16Dec [(1,none)] 1 3 fn_spec_l16Dec:=fun hargs hw=>enter Tryz.func36 rfl IR_spec_l16Dec hargs hw
section
variable {g h:Heap}{Γ:List HP}
end
def mpo {κ ν:Type}(kf:κ→Value) (vf:ν→Value) (b:Nat) (l:List (κ×ν)):HP:=fun r=>∃es clock,r=Heap.one b (.map es clock)∧es.toList.map (fun e=>(e.key,e.val))=l.map fun p=>(kf p.1,vf p.2)
def mlk {κ ν:Type} [DecidableEq κ] (l:List (κ×ν)) (a:κ):Option ν:=(l.find? fun p=>decide (p.1=a)).map (·.2)
theorem mfind_spec {κ ν:Type} [DecidableEq κ] {kf:κ→Value}{vf:ν→Value}{kt:KT}(hkt:∀a b,keyEq kt (kf a) (kf b)=some (decide (a=b))) {a:κ}:∀{es:List MapEntry}{l:List (κ×ν)}{i0:Nat},es.map (fun e=>(e.key,e.val))=l.map (fun p=>(kf p.1,vf p.2)) →
  ∃i,mfind kt (kf a) es i0=some ((mlk l a).map fun y=>(i,vf y))
 | [],[],_,_=>⟨0,rfl⟩
 | [],_::_,_,h=>by simp at h
 | _::_,[],_,h=>by simp at h
 | x::es,p::l,i0,h=>by
  simp only[List.map_cons,List.cons.injEq,Prod.mk.injEq] at h
  obtain⟨⟨h1,h2⟩,h3⟩:=h
  obtain⟨i,hi⟩:=mfind_spec hkt (a:=a) (i0:=i0+1) h3
  unfold mfind
  rw[h1,hkt,h2]
  by_cases he:a=p.1
  ·subst he
   refine⟨i0,?_⟩
   simp[mlk]
  ·refine⟨i,?_⟩
   simp only[he,decide_false]
   rw[hi]
   simp[mlk,List.find?_cons,Ne.symm he,show ¬p.1=a from fun e=>he e.symm]
section
variable {P:Program}{k:Env→Heap→Prop}{e:Env}{g h:Heap}{Γ:List HP}{κ ν:Type} [DecidableEq κ] {kf:κ→Value}{vf:ν→Value}{b:Nat}{l:List (κ×ν)}{kt:KT}
theorem HS.mkm (H:HS g Γ h) (kf:κ→Value) (vf:ν→Value) {dst:Nat}(K:∀b h',HS g (mpo kf vf b []::Γ) h'→k (eset e dst (some (.map (some b)))) h'):(A.ex (some dst) .mkm).wp P k e h:=by
 intro b hb
 refine Fgt.keep ?_
 rw[set_new hb]
 exact K _ _ ⟨h,_,rfl,Dj_one.2 hb,⟨_,_,rfl,rfl⟩,H⟩
theorem HS.mget (H:HS g (mpo kf vf b l::Γ) h) {zero:Value}{ok:Bool}{m x:O}{a:κ}{dst:Nat}(hm:m.get e=some (.map (some b))) (hx:x.get e=some (kf a)) (hkt:∀a b,keyEq kt (kf a) (kf b)=some (decide (a=b)))
  (K:k (eset e dst (some (if ok then .tuple #[((mlk l a).map vf).getD zero,.bool (mlk l a).isSome] else ((mlk l a).map vf).getD zero))) h):(A.ex (some dst) (.mget kt zero ok m x)).wp P k e h:=by
 obtain⟨g',r,rfl,d,⟨es,clock,rfl,hes⟩,H⟩:=H
 obtain⟨i,hi⟩:=mfind_spec hkt (a:=a) (i0:=0) hes
 refine⟨b,es,clock,kf a,_,hm,le_add' d _ _ (by simp[Heap.one]),hx,by rw[hkt];rfl,hi,Fgt.keep ?_⟩
 cases hl:mlk l a with
 | none=>rw[hl] at K;cases ok<;>exact K
 | some y=>rw[hl] at K;cases ok<;>exact K
theorem HS.mput (H:HS g (mpo kf vf b l::Γ) h) {m x y:O}{a:κ}{v:ν}(hm:m.get e=some (.map (some b))) (hx:x.get e=some (kf a)) (hy:y.get e=some (vf v)) (hkt:∀a b,keyEq kt (kf a) (kf b)=some (decide (a=b))) (hn:mlk l a=none)
  (K:∀h',HS g (mpo kf vf b (l++[(a,v)])::Γ) h'→k e h'):(A.ex none (.mput kt m x y)).wp P k e h:=by
 obtain⟨g',r,rfl,d,⟨es,clock,rfl,hes⟩,H⟩:=H
 obtain⟨i,hi⟩:=mfind_spec hkt (a:=a) (i0:=0) hes
 rw[hn] at hi
 refine⟨b,es,clock,kf a,vf v,none,hm,le_add' d _ _ (by simp[Heap.one]),hx,hy,by rw[hkt];rfl,hi,Fgt.keep ?_⟩
 refine K _ ⟨g',Heap.one b (.map (es.push { key:=kf a,val:=vf v,born:=clock }) (clock+1)),?_,?_,⟨_,_,rfl,?_⟩,H⟩
 ·have hb:=Dj_one.1 d
  rw[← set_new hb]
  rw[← set_new hb]
  funext z
  simp only[Heap.set]
  split<;>rfl
 ·exact Dj_one.2 (Dj_one.1 d)
 ·simp[hes]
theorem HS.mlen (H:HS g (mpo kf vf b l::Γ) h) {m:O}{dst:Nat}(hm:m.get e=some (.map (some b))) (K:k (eset e dst (some (.int .i64 l.length))) h):(A.ex (some dst) (.mlen m)).wp P k e h:=by
 obtain⟨g',r,rfl,d,⟨es,clock,rfl,hes⟩,H⟩:=H
 have hl:es.size=l.length:=by
  have:=congrArg List.length hes
  simpa using this
 refine⟨b,es,clock,hm,le_add' d _ _ (by simp[Heap.one]),Fgt.keep ?_⟩
 rw[hl]
 exact K
end
section
variable {α:Type}
theorem repL_map {t t':Ty α}{h:Heap}{p:Option Addr}{l:List α}(hs:t.sz=t'.sz) (hr:∀cs x,x∈l→t.rep h cs x→t'.rep h cs x) (H:@repL α t h p l):@repL α t' h p l:=by
 intro i hi
 obtain⟨b,off,vs,h1,h2,h3⟩:=H i hi
 refine⟨b,off,vs,h1,?_,hr _ _ (List.getElem_mem hi) h3⟩
 have h2:hcells h b (off+i*t.sz) t.sz=some vs:=h2
 show hcells h b (off+i*t'.sz) t'.sz=some vs
 rw[← hs];exact h2
theorem repS_map {t t':Ty α}{h:Heap}{cs:List Value}{l:List α}(hs:t.sz=t'.sz) (hr:∀cs x,x∈l→t.rep h cs x→t'.rep h cs x) (H:@repS α t h cs l):@repS α t' h cs l:=by
 obtain⟨p,cap,h1,h2,h3,h4⟩:=H
 exact⟨p,cap,h1,h2,h3,repL_map hs hr h4⟩
theorem ownL_map {t t':Ty α}(hs:t.sz=t'.sz):∀{l:List α}{cs:List Value}{r:Heap},(∀r cs x,x∈l→t.own r cs x→t'.own r cs x)→@ownL α t l cs r→@ownL α t' l cs r
 | [],_,_,_,H=>H
 | x::l,cs,r,ho,⟨r1,r2,h1,h2,h3,h4⟩=>by
  refine⟨r1,r2,h1,h2,?_,?_⟩
  ·have:=ho r1 _ x (by simp) h3
   show t'.own r1 (cs.take t'.sz) x
   rw[← hs];exact this
  ·have:=ownL_map hs (fun r cs x hx=>ho r cs x (by simp[hx])) h4
   show @ownL α t' l (cs.drop t'.sz) r2
   rw[← hs];exact this
theorem ownS_map {t t':Ty α}(hs:t.sz=t'.sz) {l:List α}{cs:List Value}{r:Heap}(ho:∀r cs x,x∈l→t.own r cs x→t'.own r cs x) (H:@ownS α t r cs l):@ownS α t' r cs l:=by
 rcases H with h1 | ⟨b,off,cap,cells,el,r',h1,h2,h3,h4,h5,h6⟩
 ·exact .inl h1
 ·refine .inr ⟨b,off,cap,cells,el,r',h1,h2,?_,h4,h5,ownL_map hs ho h6⟩
  have h3:off+cap*t.sz≤cells.length:=h3
  show off+cap*t'.sz≤cells.length
  rw[← hs];exact h3
end
theorem exists_max {P:Nat→Nat→Prop}(hu:∀i n,P i n→P i (n+1)):∀m,(∀i,i<m→∃n,P i n)→∃N,∀i,i<m→P i N
 | 0,_=>⟨0,fun i hi=>absurd hi (Nat.not_lt_zero i)⟩
 | m+1,h=>by
  have up:∀i n k,P i n→P i (n+k):=by
   intro i n k hp
   induction k with
   | zero=>exact hp
   | succ k ih=>exact hu _ _ ih
  obtain⟨N,hN⟩:=exists_max hu m fun i hi=>h i (by omega)
  obtain⟨M,hM⟩:=h m (by omega)
  refine⟨N+M,fun i hi=>?_⟩
  by_cases e:i=m
  ·subst e;rw[Nat.add_comm];exact up _ _ _ hM
  ·exact up _ _ _ (hN i (by omega))
inductive Exq where
 | mk (kind val:Int) (kids:List Exq)
namespace Exq
def kind:Exq→Int | .mk k _ _=>k
def val:Exq→Int | .mk _ v _=>v
def kids:Exq→List Exq | .mk _ _ l=>l
@[simp] theorem kind_mk {k v:Int}{l:List Exq}:(Exq.mk k v l).kind=k:=rfl
@[simp] theorem val_mk {k v:Int}{l:List Exq}:(Exq.mk k v l).val=v:=rfl
@[simp] theorem kids_mk {k v:Int}{l:List Exq}:(Exq.mk k v l).kids=l:=rfl
theorem eta (x:Exq):Exq.mk x.kind x.val x.kids=x:=by cases x;rfl
theorem ext_iff' {a b:Exq}:a=b↔a.kind=b.kind∧a.val=b.val∧a.kids=b.kids:=by
 cases a;cases b;simp
theorem ind {p:Exq→Prop}(h:∀x:Exq,(∀y∈x.kids,p y)→p x):∀x,p x
 | .mk k v l=>h _ fun y hy=>ind h y
termination_by x=>SizeOf.sizeOf x
decreasing_by
 have h1:y∈l:=hy
 have:=List.sizeOf_lt_of_mem h1
 simp only[Exq.mk.sizeOf_spec]
 omega
def tup (x:Exq):Int×Int×List Exq:=(x.kind,x.val,x.kids)
@[reducible] def T0:Ty Exq where
 agg:=true
 sz:=3
 rep:=fun _ _ _=>False
 own:=fun _ _ _=>False
 one:=fun h=>by simp at h
 len:=fun h=>h.elim
 cell:=fun h=>h.elim
 mono:=fun _ h=>h
 own_rep:=fun h=>h.elim
@[reducible] def tyTup (t:Ty Exq):Ty (Int×Int×List Exq):=@instTyProd Int (Int×List Exq) instTyInt (@instTyProd Int (List Exq) instTyInt (@instTyList Exq t))
@[reducible] def T:Nat→Ty Exq
 | 0=>T0
 | n+1=>@Ty.via Exq (Int×Int×List Exq) (tyTup (T n)) tup
theorem T_sz:∀n,(T n).sz=3
 | 0=>rfl
 | _+1=>rfl
theorem tup_rep {t t':Ty Exq}(hs:t.sz=t'.sz) {h:Heap}{cs:List Value}{x:Exq}(hr:∀cs y,y∈x.kids→t.rep h cs y→t'.rep h cs y) (H:(tyTup t).rep h cs x.tup):(tyTup t').rep h cs x.tup:=by
 obtain⟨c1,c2,e1,h1,c3,c4,e2,h2,h3⟩:=H
 exact⟨c1,c2,e1,h1,c3,c4,e2,h2,repS_map hs hr h3⟩
theorem tup_own {t t':Ty Exq}(hs:t.sz=t'.sz) {r:Heap}{cs:List Value}{x:Exq}(hr:∀r cs y,y∈x.kids→t.own r cs y→t'.own r cs y) (H:(tyTup t).own r cs x.tup):(tyTup t').own r cs x.tup:=by
 obtain⟨c1,c2,r1,r2,e1,e2,d1,h1,c3,c4,r3,r4,e3,e4,d2,h2,h3⟩:=H
 exact⟨c1,c2,r1,r2,e1,e2,d1,h1,c3,c4,r3,r4,e3,e4,d2,h2,ownS_map hs hr h3⟩
theorem rep_up:∀(n:Nat) {h:Heap}{cs:List Value}{x:Exq},(T n).rep h cs x→(T (n+1)).rep h cs x
 | 0,_,_,_,H=>H.elim
 | n+1,h,cs,x,H=>tup_rep (t:=T n) (t':=T (n+1)) (by rw[T_sz,T_sz]) (fun _ _ _=>rep_up n) H
theorem own_up:∀(n:Nat) {r:Heap}{cs:List Value}{x:Exq},(T n).own r cs x→(T (n+1)).own r cs x
 | 0,_,_,_,H=>H.elim
 | n+1,h,cs,x,H=>tup_own (t:=T n) (t':=T (n+1)) (by rw[T_sz,T_sz]) (fun _ _ _ _=>own_up n) H
theorem own_le {n m:Nat}(hle:n≤m) {r:Heap}{cs:List Value}{x:Exq}(H:(T n).own r cs x):(T m).own r cs x:=by
 obtain⟨k,rfl⟩:=Nat.exists_eq_add_of_le hle
 induction k with
 | zero=>exact H
 | succ k ih=>exact own_up _ (ih (by omega))
end Exq
instance instTyExq:Ty Exq where
 agg:=true
 sz:=3
 rep:=fun h cs x=>∃n,(Exq.T n).rep h cs x
 own:=fun r cs x=>∃n,(Exq.T n).own r cs x
 one:=fun h=>by simp at h
 len:=fun ⟨n,h⟩=>((Exq.T n).len h).trans (Exq.T_sz n)
 cell:=fun ⟨n,h⟩=>(Exq.T n).cell h
 mono:=fun hl ⟨n,h⟩=>⟨n,(Exq.T n).mono hl h⟩
 own_rep:=fun ⟨n,h⟩=>⟨n,(Exq.T n).own_rep h⟩
namespace Exq
theorem rep_iff {h:Heap}{cs:List Value}{x:Exq}:Ty.rep h cs x↔Ty.rep h cs x.tup:=by
 constructor
 ·rintro⟨n,H⟩
  cases n with
  | zero=>exact H.elim
  | succ n=>exact tup_rep (t:=T n) (t':=instTyExq) (T_sz n) (fun _ _ _ h=>⟨n,h⟩) H
 ·rintro⟨c1,c2,e1,h1,c3,c4,e2,h2,p,cap,e3,h3,h4,hl⟩
  have hl:∀i,i<x.kids.length→∃n,∃(hi:i<x.kids.length),∃b off vs,p=some ⟨b,off,none⟩∧hcells h b (off+i*3) 3=some vs∧(T n).rep h vs x.kids[i]:=by
   intro i hi
   obtain⟨b,off,vs,g1,g2,n,g3⟩:=hl i hi
   exact⟨n,hi,b,off,vs,g1,g2,g3⟩
  obtain⟨N,hN⟩:=exists_max (P:=fun i n=>∃(hi:i<x.kids.length),∃b off vs,p=some ⟨b,off,none⟩∧hcells h b (off+i*3) 3=some vs∧(T n).rep h vs x.kids[i]) (fun i n ⟨hi,b,off,vs,g1,g2,g3⟩=>⟨hi,b,off,vs,g1,g2,rep_up n g3⟩) _ hl
  refine⟨N+1,c1,c2,e1,h1,c3,c4,e2,h2,p,cap,e3,h3,h4,fun i hi=>?_⟩
  obtain⟨_,b,off,vs,g1,g2,g3⟩:=hN i hi
  refine⟨b,off,vs,g1,?_,g3⟩
  show hcells h b (off+i*(T N).sz) (T N).sz=some vs
  rw[T_sz];exact g2
theorem ownL_max:∀{l:List Exq}{cs:List Value}{r:Heap},ownL l cs r→∃N,@ownL Exq (T N) l cs r
 | [],_,_,H=>⟨0,H⟩
 | x::l,cs,r,⟨r1,r2,h1,h2,⟨n,h3⟩,h4⟩=>by
  obtain⟨N,h5⟩:=ownL_max h4
  refine⟨n+N,r1,r2,h1,h2,?_,?_⟩
  ·show (T (n+N)).own r1 (cs.take (T (n+N)).sz) x
   rw[T_sz];exact own_le (by omega) h3
  ·show @ownL Exq (T (n+N)) l (cs.drop (T (n+N)).sz) r2
   rw[T_sz];exact ownL_map (t:=T N) (t':=T (n+N)) (by rw[T_sz,T_sz]) (fun _ _ _ _=>own_le (by omega)) h5
theorem own_iff {r:Heap}{cs:List Value}{x:Exq}:Ty.own r cs x↔Ty.own r cs x.tup:=by
 constructor
 ·rintro⟨n,H⟩
  cases n with
  | zero=>exact H.elim
  | succ n=>exact tup_own (t:=T n) (t':=instTyExq) (T_sz n) (fun _ _ _ _ h=>⟨n,h⟩) H
 ·rintro⟨c1,c2,r1,r2,e1,e2,d1,h1,c3,c4,r3,r4,e3,e4,d2,h2,h3⟩
  rcases h3 with h3 | ⟨b,off,cap,cells,el,r',g1,g2,g3,g4,g5,g6⟩
  ·exact⟨1,c1,c2,r1,r2,e1,e2,d1,h1,c3,c4,r3,r4,e3,e4,d2,h2,.inl h3⟩
  ·obtain⟨N,h7⟩:=ownL_max g6
   refine⟨N+1,c1,c2,r1,r2,e1,e2,d1,h1,c3,c4,r3,r4,e3,e4,d2,h2,.inr ⟨b,off,cap,cells,el,r',g1,g2,?_,g4,g5,h7⟩⟩
   show off+cap*(T N).sz≤cells.length
   rw[T_sz];exact g3
end Exq
def I64 (n:Int):Prop:=-9223372036854775808≤n∧n<9223372036854775808
theorem I64.lo {n:Int}(h:I64 n):-9223372036854775808≤n:=h.1
theorem I64.hi {n:Int}(h:I64 n):n<9223372036854775808:=h.2
section
variable {g h r:Heap}{Γ:List HP}{v:Value}{cs:List Value}
theorem repExq {x:Exq}:Ty.rep h cs x↔∃w,cs=[.int .i64 x.kind,.int .i64 x.val,w]∧I64 x.kind∧I64 x.val∧Rep h w x.kids:=by
 rw[Exq.rep_iff]
 constructor
 ·rintro⟨c1,c2,rfl,⟨rfl,h1⟩,c3,c4,rfl,⟨rfl,h2⟩,h3⟩
  obtain⟨w,rfl,h4⟩:=(rep1 (α:=List Exq) rfl).1 h3
  exact⟨w,rfl,h1,h2,h4⟩
 ·rintro⟨w,rfl,h1,h2,h3⟩
  exact⟨[_],[_,_],rfl,⟨rfl,h1⟩,[_],[_],rfl,⟨rfl,h2⟩,(rep1 (α:=List Exq) rfl).2 ⟨w,rfl,h3⟩⟩
theorem ownExq {x:Exq}:Ty.own r cs x↔∃w,cs=[.int .i64 x.kind,.int .i64 x.val,w]∧I64 x.kind∧I64 x.val∧Own r w x.kids:=by
 rw[Exq.own_iff]
 constructor
 ·rintro⟨c1,c2,r1,r2,rfl,rfl,d1,⟨rfl,rfl,h1⟩,c3,c4,r3,r4,rfl,rfl,d2,⟨rfl,rfl,h2⟩,h3⟩
  obtain⟨w,rfl,h4⟩:=(own1 (α:=List Exq) rfl).1 h3
  exact⟨w,rfl,h1,h2,by rw[nil_add,nil_add];exact h4⟩
 ·rintro⟨w,rfl,h1,h2,h3⟩
  exact⟨[_],[_,_],Heap.nil,r,rfl,by simp,by simp,⟨rfl,rfl,h1⟩,[_],[_],Heap.nil,r,rfl,by simp,by simp,⟨rfl,rfl,h2⟩,(own1 (α:=List Exq) rfl).2 ⟨w,rfl,h3⟩⟩
theorem Rep_Exq {x:Exq}:Rep h v x↔∃w,v=.agg #[.int .i64 x.kind,.int .i64 x.val,w]∧I64 x.kind∧I64 x.val∧Rep h w x.kids:=by
 constructor
 ·rintro⟨cs,rfl,H⟩
  obtain⟨w,rfl,h1⟩:=repExq.1 H
  exact⟨w,rfl,h1⟩
 ·rintro⟨w,rfl,h1⟩
  exact⟨_,rfl,repExq.2 ⟨w,rfl,h1⟩⟩
theorem HS.unExq {x:Exq}(H:HS g (ow v x::Γ) h):∃w,v=.agg #[.int .i64 x.kind,.int .i64 x.val,w]∧I64 x.kind∧I64 x.val∧HS g (ow w x.kids::Γ) h:=by
 obtain⟨g',r,rfl,d,⟨cs,rfl,O⟩,H⟩:=H
 obtain⟨w,rfl,h1,h2,h3⟩:=ownExq.1 O
 exact⟨w,rfl,h1,h2,g',r,rfl,d,h3,H⟩
theorem HS.mkExq {x:Exq}{w:Value}(H:HS g (ow w x.kids::Γ) h) (h1:I64 x.kind) (h2:I64 x.val):HS g (ow (.agg #[.int .i64 x.kind,.int .i64 x.val,w]) x::Γ) h:=
 H.imp fun _ O=>⟨_,rfl,ownExq.2 ⟨w,rfl,h1,h2,O⟩⟩
theorem HS.mkExq' {kd vl:Int}{l:List Exq}{w:Value}(H:HS g (ow w l::Γ) h) (h1:I64 kd) (h2:I64 vl):HS g (ow (.agg #[.int .i64 kd,.int .i64 vl,w]) (Exq.mk kd vl l)::Γ) h:=
 HS.mkExq (x:=Exq.mk kd vl l) H h1 h2
theorem Rep.aExq {x:Exq}(hr:Rep h v x):pgetV (some v) 0 (some 3)=some v∧v.cells.size=3∧allOne v.cells.toList=true∧Value.agg v.cells=v:=hr.A rfl rfl
end
noncomputable instance:DecidableEq Exq:=fun _ _=>Classical.propDecidable _
structure Ed where
 frm:Int
 to:Int
 guard:Exq
 var:Int
 value:Exq
 sync:Int
instance instTyEd:Ty Ed:=Ty.via fun (e:Ed)=>(e.frm,e.to,e.guard,e.var,e.value,e.sync)
noncomputable instance:DecidableEq Ed:=fun _ _=>Classical.propDecidable _
structure Pr where
 locs:Int
 edges:List Ed
instance instTyPr:Ty Pr:=Ty.via fun (p:Pr)=>(p.locs,p.edges)
noncomputable instance:DecidableEq Pr:=fun _ _=>Classical.propDecidable _
structure Sy where
 init:List Int
 procs:List Pr
instance instTySy:Ty Sy:=Ty.via fun (s:Sy)=>(s.init,s.procs)
noncomputable instance:DecidableEq Sy:=fun _ _=>Classical.propDecidable _
theorem Ed.ext_iff' {a b:Ed}:a=b↔a.frm=b.frm∧a.to=b.to∧a.guard=b.guard∧a.var=b.var∧a.value=b.value∧a.sync=b.sync:=by
 cases a;cases b;simp
theorem Pr.ext_iff' {a b:Pr}:a=b↔a.locs=b.locs∧a.edges=b.edges:=by
 cases a;cases b;simp
theorem Sy.ext_iff' {a b:Sy}:a=b↔a.init=b.init∧a.procs=b.procs:=by
 cases a;cases b;simp
def Ed.cs (e:Ed) (w1 w2:Value):List Value:=[.int .i64 e.frm,.int .i64 e.to,.int .i64 e.guard.kind,.int .i64 e.guard.val,w1,.int .i64 e.var,.int .i64 e.value.kind,.int .i64 e.value.val,w2,.int .i64 e.sync]
structure Ed.ok (e:Ed):Prop where
 frm:I64 e.frm
 to:I64 e.to
 gk:I64 e.guard.kind
 gv:I64 e.guard.val
 var:I64 e.var
 vk:I64 e.value.kind
 vv:I64 e.value.val
 sync:I64 e.sync
section
variable {g h r:Heap}{Γ:List HP}{v:Value}{cs:List Value}
theorem repEd {e:Ed}:Ty.rep h cs e↔∃w1 w2,cs=e.cs w1 w2∧e.ok∧Rep h w1 e.guard.kids∧Rep h w2 e.value.kids:=by
 constructor
 ·rintro⟨c1,c2,rfl,⟨rfl,h1⟩,c3,c4,rfl,⟨rfl,h2⟩,c5,c6,rfl,h3,c7,c8,rfl,⟨rfl,h4⟩,c9,c0,rfl,h5,rfl,h6⟩
  obtain⟨w1,rfl,g1,g2,g3⟩:=repExq.1 h3
  obtain⟨w2,rfl,g4,g5,g6⟩:=repExq.1 h5
  exact⟨w1,w2,rfl,⟨h1,h2,g1,g2,h4,g4,g5,h6⟩,g3,g6⟩
 ·rintro⟨w1,w2,rfl,ok,h1,h2⟩
  exact⟨[_],_,rfl,⟨rfl,ok.frm⟩,[_],_,rfl,⟨rfl,ok.to⟩,[_,_,_],_,rfl,repExq.2 ⟨_,rfl,ok.gk,ok.gv,h1⟩,[_],_,rfl,⟨rfl,ok.var⟩,[_,_,_],_,rfl,repExq.2 ⟨_,rfl,ok.vk,ok.vv,h2⟩,rfl,ok.sync⟩
theorem ownEd {e:Ed}:Ty.own r cs e↔∃w1 w2 r1 r2,cs=e.cs w1 w2∧e.ok∧r=r1.add r2∧Dj r1 r2∧Own r1 w1 e.guard.kids∧Own r2 w2 e.value.kids:=by
 constructor
 ·rintro⟨c1,c2,_,_,rfl,rfl,_,⟨rfl,rfl,h1⟩,c3,c4,_,_,rfl,rfl,_,⟨rfl,rfl,h2⟩,c5,c6,ra,rb,rfl,rfl,d,h3,c7,c8,_,_,rfl,rfl,_,⟨rfl,rfl,h4⟩,c9,c0,rc,rd,rfl,rfl,d2,h5,rfl,rfl,h6⟩
  obtain⟨w1,rfl,g1,g2,g3⟩:=ownExq.1 h3
  obtain⟨w2,rfl,g4,g5,g6⟩:=ownExq.1 h5
  exact⟨w1,w2,ra,rc,rfl,⟨h1,h2,g1,g2,h4,g4,g5,h6⟩,by simp,by simpa using d,g3,g6⟩
 ·rintro⟨w1,w2,r1,r2,rfl,ok,rfl,d,h1,h2⟩
  exact⟨[_],_,Heap.nil,r1.add r2,rfl,by simp,by simp,⟨rfl,rfl,ok.frm⟩,[_],_,Heap.nil,r1.add r2,rfl,by simp,by simp,⟨rfl,rfl,ok.to⟩,[_,_,_],_,r1,r2,rfl,rfl,d,ownExq.2 ⟨_,rfl,ok.gk,ok.gv,h1⟩,
   [_],_,Heap.nil,r2,rfl,by simp,by simp,⟨rfl,rfl,ok.var⟩,[_,_,_],_,r2,Heap.nil,rfl,by simp,by simp,ownExq.2 ⟨_,rfl,ok.vk,ok.vv,h2⟩,rfl,rfl,ok.sync⟩
theorem Rep_Ed {e:Ed}:Rep h v e↔∃w1 w2,v=.agg (e.cs w1 w2).toArray∧e.ok∧Rep h w1 e.guard.kids∧Rep h w2 e.value.kids:=by
 constructor
 ·rintro⟨cs,rfl,H⟩
  obtain⟨w1,w2,rfl,h1⟩:=repEd.1 H
  exact⟨w1,w2,rfl,h1⟩
 ·rintro⟨w1,w2,rfl,h1⟩
  exact⟨_,rfl,repEd.2 ⟨w1,w2,rfl,h1⟩⟩
theorem HS.unEd {e:Ed}(H:HS g (ow v e::Γ) h):∃w1 w2,v=.agg (e.cs w1 w2).toArray∧e.ok∧HS g (ow w1 e.guard.kids::ow w2 e.value.kids::Γ) h:=by
 obtain⟨g',r,rfl,d,⟨cs,rfl,O⟩,H⟩:=H
 obtain⟨w1,w2,r1,r2,rfl,ok,rfl,d2,h1,h2⟩:=ownEd.1 O
 obtain⟨d3,d4⟩:=Dj_add.1 d
 exact⟨w1,w2,rfl,ok,g'.add r2,r1,by rw[add_assoc,d2.comm],add_Dj.2 ⟨d3,d2.symm⟩,h1,g',r2,rfl,d4,h2,H⟩
theorem HS.mkEd {e:Ed}{w1 w2:Value}(H:HS g (ow w1 e.guard.kids::ow w2 e.value.kids::Γ) h) (ok:e.ok):HS g (ow (.agg (e.cs w1 w2).toArray) e::Γ) h:=
 H.join2 fun r1 r2 d h1 h2=>⟨_,rfl,ownEd.2 ⟨w1,w2,r1,r2,rfl,ok,rfl,d,h1,h2⟩⟩
theorem Rep_Pr {p:Pr}:Rep h v p↔∃w,v=.agg #[.int .i64 p.locs,w]∧I64 p.locs∧Rep h w p.edges:=by
 constructor
 ·rintro⟨cs,rfl,c1,c2,rfl,⟨rfl,h1⟩,h2⟩
  obtain⟨w,rfl,h3⟩:=(rep1 (α:=List Ed) rfl).1 h2
  exact⟨w,rfl,h1,h3⟩
 ·rintro⟨w,rfl,h1,h2⟩
  exact⟨_,rfl,[_],[_],rfl,⟨rfl,h1⟩,(rep1 (α:=List Ed) rfl).2 ⟨w,rfl,h2⟩⟩
theorem HS.unPr {p:Pr}(H:HS g (ow v p::Γ) h):∃w,v=.agg #[.int .i64 p.locs,w]∧I64 p.locs∧HS g (ow w p.edges::Γ) h:=by
 obtain⟨g',r,rfl,d,⟨cs,rfl,c1,c2,r1,r2,rfl,rfl,d2,⟨rfl,rfl,h1⟩,h2⟩,H⟩:=H
 obtain⟨w,rfl,h3⟩:=(own1 (α:=List Ed) rfl).1 h2
 exact⟨w,rfl,h1,g',r2,by simp,by simpa using d,h3,H⟩
theorem HS.mkPr {p:Pr}{w:Value}(H:HS g (ow w p.edges::Γ) h) (h1:I64 p.locs):HS g (ow (.agg #[.int .i64 p.locs,w]) p::Γ) h:=
 H.imp fun r O=>⟨_,rfl,[_],[_],Heap.nil,r,rfl,by simp,by simp,⟨rfl,rfl,h1⟩,(own1 (α:=List Ed) rfl).2 ⟨w,rfl,O⟩⟩
theorem Rep_Sy {s:Sy}:Rep h v s↔∃w1 w2,v=.agg #[w1,w2]∧Rep h w1 s.init∧Rep h w2 s.procs:=by
 constructor
 ·rintro⟨cs,rfl,c1,c2,rfl,h1,h2⟩
  obtain⟨w1,rfl,h3⟩:=(rep1 (α:=List Int) rfl).1 h1
  obtain⟨w2,rfl,h4⟩:=(rep1 (α:=List Pr) rfl).1 h2
  exact⟨w1,w2,rfl,h3,h4⟩
 ·rintro⟨w1,w2,rfl,h1,h2⟩
  exact⟨_,rfl,[_],[_],rfl,(rep1 (α:=List Int) rfl).2 ⟨w1,rfl,h1⟩,(rep1 (α:=List Pr) rfl).2 ⟨w2,rfl,h2⟩⟩
theorem HS.unSy {s:Sy}(H:HS g (ow v s::Γ) h):∃w1 w2,v=.agg #[w1,w2]∧HS g (ow w1 s.init::ow w2 s.procs::Γ) h:=by
 obtain⟨g',r,rfl,d,⟨cs,rfl,c1,c2,r1,r2,rfl,rfl,d2,h1,h2⟩,H⟩:=H
 obtain⟨w1,rfl,h3⟩:=(own1 (α:=List Int) rfl).1 h1
 obtain⟨w2,rfl,h4⟩:=(own1 (α:=List Pr) rfl).1 h2
 obtain⟨d3,d4⟩:=Dj_add.1 d
 exact⟨w1,w2,rfl,g'.add r2,r1,by rw[add_assoc,d2.comm],add_Dj.2 ⟨d3,d2.symm⟩,h3,g',r2,rfl,d4,h4,H⟩
theorem HS.mkSy {s:Sy}{w1 w2:Value}(H:HS g (ow w1 s.init::ow w2 s.procs::Γ) h):HS g (ow (.agg #[w1,w2]) s::Γ) h:=
 H.join2 fun r1 r2 d h1 h2=>⟨_,rfl,[_],[_],r1,r2,rfl,rfl,d,(own1 (α:=List Int) rfl).2 ⟨w1,rfl,h1⟩,(own1 (α:=List Pr) rfl).2 ⟨w2,rfl,h2⟩⟩
theorem Rep.aEd {x:Ed}(hr:Rep h v x):pgetV (some v) 0 (some 10)=some v∧v.cells.size=10∧allOne v.cells.toList=true∧Value.agg v.cells=v:=hr.A rfl rfl
theorem Rep.aSy {x:Sy}(hr:Rep h v x):pgetV (some v) 0 (some 2)=some v∧v.cells.size=2∧allOne v.cells.toList=true∧Value.agg v.cells=v:=hr.A rfl rfl
end
theorem setC_get {cs c:List Value}{n j:Nat}(h:n+c.length≤cs.length):(setC cs n c)[j]? = if j<n then cs[j]? else if j<n+c.length then c[j-n]? else cs[j]?:=by
 unfold setC
 simp only[List.getElem?_append,List.getElem?_take,List.getElem?_drop,List.length_append,List.length_take]
 rw[Nat.min_eq_left (by omega:n≤cs.length)]
 by_cases h1:j<n
 ·rw[if_pos (by omega),if_pos h1,if_pos h1,if_pos h1]
 ·by_cases h2:j<n+c.length
  ·rw[if_pos h2,if_neg h1,if_neg h1,if_pos h2]
  ·rw[if_neg h2,if_neg h1,if_neg h2]
   congr 1;omega
theorem setC_over {cs d c:List Value}{n fo:Nat}(hd:fo+d.length≤c.length) (hl:n+c.length≤cs.length):setC (setC cs (n+fo) d) n c=setC cs n c:=by
 apply List.ext_getElem?
 intro j
 rw[setC_get (by rw[setC_length (by omega)];exact hl),setC_get hl,setC_get (by omega)]
 by_cases h1:j<n
 ·rw[if_pos h1,if_pos h1,if_pos (by omega)]
 ·by_cases h2:j<n+c.length
  ·rw[if_neg h1,if_neg h1,if_pos h2,if_pos h2]
  ·rw[if_neg h1,if_neg h1,if_neg h2,if_neg h2,if_neg (by omega),if_neg (by omega)]
theorem setC_slot {cs d:List Value}{n fo m:Nat}(hd:fo+d.length≤m) (hl:n+m≤cs.length):((setC cs (n+fo) d).drop n).take m=setC ((cs.drop n).take m) fo d:=by
 apply List.ext_getElem?
 intro j
 rw[setC_get (by simp;omega)]
 simp only[List.getElem?_take,List.getElem?_drop]
 by_cases h1:j<m
 ·rw[if_pos h1,if_pos h1,setC_get (by omega)]
  by_cases h2:j<fo
  ·rw[if_pos (by omega),if_pos h2]
  ·by_cases h3:j<fo+d.length
   ·rw[if_neg (by omega),if_pos (by omega),if_neg h2,if_pos h3]
    congr 1;omega
   ·rw[if_neg (by omega),if_neg (by omega),if_neg h2,if_neg h3]
 ·rw[if_neg h1,if_neg h1,if_neg (by omega),if_neg (by omega)]
section
variable {α:Type} [Ty α] {P:Program}{k:Env→Heap→Prop}{e:Env}{g h:Heap}{Γ:List HP}{v w:Value}{l:List α}{i:Nat}{cs:List Value}
theorem HS.holest (H:HS g (hole v l i (.agg cs.toArray)::Γ) h) (ha:Ty.agg α=true) {a x:O}{n fo m:Nat}(hn:n=Ty.sz α) (hp:a.get e=some (elpo n v i fo)) (hx:x.get e=some w) (hu:w.cells.size=m) (hu1:allOne w.cells.toList=true) (hf:fo+m≤n)
  (K:∀h',HS g (hole v l i (.agg (setC cs fo w.cells.toList).toArray)::Γ) h'→k e h'):(A.ex none (.store m a x)).wp P k e h:=by
 subst hn
 obtain⟨g',r,rfl,d,Ho,H⟩:=H
 obtain⟨b,off,cap,cells,el,r',rfl,hi,⟨h1,hM⟩,h2,rfl,h4,h5,h6⟩:=Ho
 have hs:=slot_le (s:=Ty.sz α) hi h1
 obtain⟨d3,d4⟩:=Dj_add.1 d
 have hb:(g'.add ((Heap.one b (.cells cells.toArray el (0,0))).add r')) b=some (.cells cells.toArray el (0,0)):=by
  have:=Dj_one.1 d3
  simp[Heap.add,Heap.one,this,h4]
 have hw:w.cells.toList.length=m:=by simpa using hu
 have hcs:cs=((cells.drop off).drop (i*Ty.sz α)).take (Ty.sz α):=by
  simpa[valC,ha] using h5
 have hdr:(setC cells (off+i*Ty.sz α+fo) w.cells.toList).drop off=setC (cells.drop off) (i*Ty.sz α+fo) w.cells.toList:=by
  rw[Nat.add_assoc,drop_setC (by rw[hw];omega)]
 refine⟨b,off+i*Ty.sz α+fo,w,g'.add ((Heap.one b (.cells (setC cells (off+i*Ty.sz α+fo) w.cells.toList).toArray el (0,0))).add r'),?_,hx,hu,?_,
  Fgt.keep (K _ ⟨g',_,rfl,Dj_add.2 ⟨Dj_one.2 (Dj_one.1 d3),d4⟩,⟨b,off,cap,_,el,r',rfl,hi,⟨h1,hM⟩,?_,rfl,h4,?_,?_⟩,H⟩)⟩
 ·rw[hp];simp[elpo,add_none]
 ·unfold hstore
  rw[hb]
  simp only
  rw[if_pos (by refine⟨trivial,?_,?_⟩;· simp[hu];omega
                ·rw[allOne_eq];exact hu1),add_one_set (Dj_one.1 d3) h4]
 ·rw[setC_length (by rw[hw];omega)];exact h2
 ·rw[hdr,setC_slot (by rw[hw];exact hf) (by simp;omega),← hcs]
  simp[valC,ha]
 ·intro r1' c' y dd o
  have hlen:=Ty.len (Ty.own_rep o)
  rw[hdr,setC_over (by rw[hw,hlen];exact hf) (by rw[hlen];simp;omega)]
  exact h6 r1' c' y dd o
theorem hld_parts {n:Nat}(hv:hload h (some (elp n v i)) (some n)=some (.agg cs.toArray)):(∀fo,faV fo (elp n v i)=some (elpo n v i fo))∧(∀a b,faV b (elpo n v i a)=some (elpo n v i (a+b))) ∧
  (∀fo,fo<n→hload h (some (elpo n v i fo)) none=cs[fo]?)∧(∀fo m,fo+m≤n→hload h (some (elpo n v i fo)) (some m)=some (.agg ((cs.drop fo).take m).toArray)):=by
 unfold elp at hv
 split at hv
 case h_2=>simp[undef,hload] at hv
 case h_1 p c d=>
  have hz:∃b off,p.add (i*n)=⟨b,off,none⟩:=by
   generalize hq:p.add (i*n)=q at hv
   obtain⟨b,off,sp⟩:=q
   cases sp with
   | none=>exact⟨b,off,rfl⟩
   | some s=>simp[hload] at hv
  obtain⟨b,off,hz⟩:=hz
  rw[hz] at hv
  simp only[hload,Option.map_eq_some_iff] at hv
  obtain⟨l,h1,h2⟩:=hv
  have h2:l=cs:=by simpa using h2
  subst h2
  have h3:=hcells_get h1
  have hsub:∀m fo,fo+m≤n→hcells h b (off+fo) m=some ((l.drop fo).take m):=by
   intro m
   induction m with
   | zero=>intro fo _;simp[hcells]
   | succ m ih=>
    intro fo hf
    have h4:=ih (fo+1) (by omega)
    have h5:=h3.2 fo (l[fo]'(by rw[h3.1];omega)) (List.getElem?_eq_getElem _)
    simp only[hcells,h5]
    rw[show off+fo+1=off+(fo+1) by omega,h4]
    simp only[Option.some.injEq]
    rw[List.drop_eq_getElem_cons (by rw[h3.1];omega:fo<l.length),List.take_succ_cons]
  refine⟨fun fo=>?_,fun a c=>?_,fun fo hf=>?_,fun fo m hf=>?_⟩
  ·simp only[elp,elpo,hz,add_none,faV]
  ·simp only[elpo,hz,add_none,faV]
   simp[Nat.add_assoc]
  ·have h5:=h3.2 fo (l[fo]'(by rw[h3.1];omega)) (List.getElem?_eq_getElem _)
   simp only[elpo,hz,add_none,hload,h5]
   exact (List.getElem?_eq_getElem _).symm
  ·simp only[elpo,hz,add_none,hload,hsub m fo hf]
   rfl
theorem HS.holeP (H:HS g (hole v l i (.agg cs.toArray)::Γ) h) (ha:Ty.agg α=true) {n:Nat}(hn:n=Ty.sz α):hload h (some (elp n v i)) (some n)=some (.agg cs.toArray):=by
 have:=H.holeld
 subst hn
 simpa[szo,ha] using this
end
inductive Mix (α:Type) where
 | raw (cs:List Value)
 | new (x:α)
section
variable {α:Type} [Ty α]
def Mix.rep (h:Heap) (cs:List Value):Mix α→Prop
 | .raw c=>cs=c∧c.length=Ty.sz α∧∀v∈c,v.oneCell'=true
 | .new x=>Ty.rep h cs x
def Mix.own (r:Heap) (cs:List Value):Mix α→Prop
 | .raw c=>r=Heap.nil∧cs=c∧c.length=Ty.sz α∧∀v∈c,v.oneCell'=true
 | .new x=>Ty.own r cs x
instance instTyMix:Ty (Mix α) where
 agg:=Ty.agg α
 sz:=Ty.sz α
 rep:=Mix.rep
 own:=Mix.own
 one:=Ty.one
 len:=by
  intro h cs x hx
  cases x with
  | raw c=>obtain⟨rfl,h1,_⟩:=hx;exact h1
  | new x=>exact Ty.len (x:=x) hx
 cell:=by
  intro h cs x hx
  cases x with
  | raw c=>obtain⟨rfl,_,h1⟩:=hx;exact h1
  | new x=>exact Ty.cell (x:=x) hx
 mono:=by
  intro h h' cs x hl hx
  cases x with
  | raw c=>exact hx
  | new x=>exact Ty.mono (x:=x) hl hx
 own_rep:=by
  intro r cs x hx
  cases x with
  | raw c=>exact hx.2
  | new x=>exact Ty.own_rep (x:=x) hx
theorem ownL_new:∀{l:List α}{cs:List Value}{r:Heap},ownL (l.map Mix.new) cs r→ownL l cs r
 | [],_,_,H=>H
 | x::l,cs,r,⟨r1,r2,h1,h2,h3,h4⟩=>⟨r1,r2,h1,h2,h3,ownL_new h4⟩
theorem HS.mixed {g h:Heap}{Γ:List HP}{v:Value}{l:List α}(H:HS g (ow v (l.map Mix.new)::Γ) h):HS g (ow v l::Γ) h:=by
 refine H.imp fun r O=>?_
 have O:Own r v (l.map (Mix.new (α:=α))):=O
 rcases Own_list.1 O with ⟨p,rfl,h1,h2,h3⟩ | ⟨b,off,cap,cells,el,r',rfl,h1,h2,h3,h4,h5⟩
 ·exact Own_list.2 (.inl ⟨p,rfl,by simpa using h1,h2,h3⟩)
 ·exact Own_list.2 (.inr ⟨b,off,cap,cells,el,r',by simp,by simpa using h1,h2,h3,h4,ownL_new h5⟩)
theorem HS.newO {g h:Heap}{Γ:List HP}{v:Value}{x:α}(H:HS g (ow v x::Γ) h):HS g (ow v (Mix.new x)::Γ) h:=H.imp fun _ O=>O
theorem HS.unraw {g h:Heap}{Γ:List HP}{v:Value}{c:List Value}(H:HS g (ow v (Mix.raw (α:=α) c)::Γ) h):v=valC (Ty.agg α) c∧HS g Γ h:=by
 obtain⟨g',r,rfl,d,⟨cs,rfl,rfl,rfl,_⟩,H⟩:=H
 exact⟨rfl,by simpa using H⟩
structure Raws (h:Heap) (l:List α) (M:List (Mix α)):Prop where
 len:M.length=l.length
 at':∀(i:Nat) (hi:i<l.length),∃c,M[i]? = some (.raw c)∧Ty.rep h c l[i]
theorem Rep.srcR {h:Heap}{v:Value}{l:List α}(hr:Rep h v l):∃(M:List (Mix α)) (cs:List Value),Raws h l M∧srcV h (Ty.sz α) (some v)=some (l.length,cs)∧cs.length=l.length*Ty.sz α∧ownL M cs Heap.nil:=by
 obtain⟨p,cap,rfl,h1,h2,h3⟩:=Rep_list.1 hr
 cases hl:l with
 | nil=>subst hl;exact⟨[],[],⟨rfl,fun i hi=>absurd hi (Nat.not_lt_zero i)⟩,rfl,by simp,rfl⟩
 | cons y l'=>
  rw[← hl]
  obtain⟨b,off,vs,rfl,_⟩:=h3 0 (by rw[hl];simp)
  have key:∀n,n≤l.length→∃(M:List (Mix α)) (cs:List Value),M.length=n∧(∀(i:Nat) (hi:i<l.length),i<n→∃c,M[i]? = some (.raw c)∧Ty.rep h c l[i])∧hcells h b off (n*Ty.sz α)=some cs∧cs.length=n*Ty.sz α∧ownL M cs Heap.nil:=by
   intro n
   induction n with
   | zero=>intro _;exact⟨[],[],rfl,fun i _ hi=>absurd hi (Nat.not_lt_zero i),by simp[hcells],by simp,rfl⟩
   | succ n ih=>
    intro hn
    obtain⟨M,cs,g1,g2,g3,g4,g5⟩:=ih (by omega)
    obtain⟨b',off',vs,e1,e2,e3⟩:=h3 n (by omega)
    simp only[Option.some.injEq,Addr.mk.injEq] at e1
    obtain⟨rfl,rfl,_⟩:=e1
    have hlen:=Ty.len e3
    refine⟨M++[.raw vs],cs++vs,by simp[g1],?_,?_,?_,?_⟩
    ·intro i hi hin
     by_cases hh:i<n
     ·obtain⟨c,f1,f2⟩:=g2 i hi hh
      exact⟨c,by rw[List.getElem?_append_left (by omega)];exact f1,f2⟩
     ·obtain rfl:i=n:=by omega
      exact⟨vs,by rw[← g1,List.getElem?_append_right (Nat.le_refl _)];simp,e3⟩
    ·rw[show (n+1)*Ty.sz α=n*Ty.sz α+Ty.sz α by rw[Nat.add_mul];omega]
     exact hcells_add g3 e2
    ·rw[List.length_append,g4,hlen,Nat.add_mul];omega
    ·have:=ownL_append (l2:=[Mix.raw vs]) (cs2:=vs) (r2:=Heap.nil) g5 (by rw[g4,g1];rfl) ⟨Heap.nil,Heap.nil,by simp,by simp,⟨rfl,?_,hlen,Ty.cell e3⟩,rfl⟩ (by simp)
     ·simpa using this
     ·show List.take (Ty.sz α) vs=vs
      rw[List.take_of_length_le (by omega)]
  obtain⟨M,cs,g1,g2,g3,g4,g5⟩:=key l.length (Nat.le_refl _)
  exact⟨M,cs,⟨g1,fun i hi=>g2 i hi hi⟩,srcV_slice g3,g4,g5⟩
theorem HS.appPLr {P:Program}{k:Env→Heap→Prop}{e:Env}{g h:Heap}{Γ:List HP}{u:Value}{l2:List α}(H:HS g Γ h) {bytes esz:Nat}{zero:List Value}{j:Nat}{x:O}{dst:Nat}{c0:Array Value}(hp:eget e j=some (.agg c0)) (hx:x.get e=some u) (hr:Rep h u l2) (hsz:esz=Ty.sz α) (hz:zero.length=Ty.sz α) (hb:l2.length*bytes≤140737488355328)
  (K:∀v' h' (M:List (Mix α)),Raws h l2 M→HS g (ow v' M::Γ) h'→k (eset e dst (some v')) h'):(A.ex (some dst) (.app bytes esz zero (.p 0 j) (.o x))).wp P k e h:=by
 subst hsz
 obtain⟨M,cs,hM,h1,h2,h3⟩:=hr.srcR
 have hl:=hM.len
 refine a_appP (α:=Mix α) (rs:=Heap.nil) (l2:=M) hp ?_ (by rw[hl];exact h2) h3 Dj_nil (by simp) hz (by rw[hl];exact hb) (by have:=hr.lt;omega) fun v' r' d' O'=>K _ _ M hM ⟨h,r',rfl,d',O',H⟩
 simp only[AO.src,hx,hl]
 exact h1
end
structure Mixed {α:Type} [Ty α] (h:Heap) (l:List α) (f:α→α) (M:List (Mix α)) (i:Nat):Prop where
 len:M.length=l.length
 done:M.take i=((l.map f).take i).map Mix.new
 rest:∀(j:Nat) (hj:j<l.length),i≤j→∃c,M[j]? = some (.raw c)∧Ty.rep h c l[j]
section
variable {α:Type} [Ty α] {h:Heap}{l:List α}{f:α→α}{M:List (Mix α)}{i:Nat}
theorem Mixed.zero (R:Raws h l M):Mixed h l f M 0:=⟨R.len,rfl,fun j hj _=>R.at' j hj⟩
theorem Mixed.le {h':Heap}(H:Mixed h l f M i) (hl:h.le h'):Mixed h' l f M i:=⟨H.len,H.done,fun j hj hij=>by
 obtain⟨c,h1,h2⟩:=H.rest j hj hij
 exact⟨c,h1,Ty.mono hl h2⟩⟩
theorem Mixed.get (H:Mixed h l f M i) (hi:i<l.length):∃c,M[i]'(by rw[H.len];exact hi)=.raw c∧Ty.rep h c l[i]:=by
 obtain⟨c,h1,h2⟩:=H.rest i hi (Nat.le_refl i)
 refine⟨c,?_,h2⟩
 rw[List.getElem?_eq_getElem (by rw[H.len];exact hi)] at h1
 exact Option.some.inj h1
theorem Mixed.step (H:Mixed h l f M i) (hi:i<l.length):Mixed h l f (M.set i (.new (f l[i]))) (i+1):=by
 refine⟨by simp[H.len],?_,fun j hj hij=>?_⟩
 ·have h1:M.take i=(l.map fun x=>Mix.new (f x)).take i:=by rw[H.done,List.map_take,List.map_map];rfl
  have:=take_set_succ (x:=l.map fun x=>Mix.new (f x)) h1 (by simpa using hi) (by simp[H.len])
  rw[List.getElem_map] at this
  rw[this,List.map_take,List.map_map]
  rfl
 ·rw[List.getElem?_set_ne (by omega)]
  exact H.rest j hj (by omega)
theorem Mixed.all (H:Mixed h l f M i) (hi:l.length≤i):M=(l.map f).map Mix.new:=by
 have:=H.done
 rw[List.take_of_length_le (by rw[H.len];exact hi),List.take_of_length_le (by simpa using hi)] at this
 exact this
end
mutual
def Exq.size:Exq→Nat
 | .mk _ _ l=>Exq.sizes l
def Exq.sizes:List Exq→Nat
 | []=>0
 | x::l=>1+x.size+Exq.sizes l
end
instance instSzExq:Sz Exq:=⟨Exq.size⟩
theorem Exq.sizes_eq:∀l,Exq.sizes l=Sz.sz l
 | []=>by simp[Exq.sizes,sz_list,szL]
 | x::l=>by
  have:=Exq.sizes_eq l
  rw[sz_list] at this ⊢
  simp only[Exq.sizes,szL,List.length_cons,this]
  show 1+Sz.sz x+_=_
  omega
theorem sz_Exq (x:Exq):Sz.sz x=Sz.sz x.kids:=by
 cases x with
 | mk k v l=>exact Exq.sizes_eq l
instance instSzEd:Sz Ed:=⟨fun e=>Sz.sz e.guard+Sz.sz e.value⟩
instance instSzPr:Sz Pr:=⟨fun p=>Sz.sz p.edges⟩
instance instSzSy:Sz Sy:=⟨fun s=>Sz.sz s.init+Sz.sz s.procs⟩
mutual
def Exq.cnt:Exq→Nat
 | .mk _ _ l=>2+Exq.cnts l
def Exq.cnts:List Exq→Nat
 | []=>0
 | x::l=>x.cnt+Exq.cnts l
end
mutual
def Exq.wr:Int→Exq→Exq
 | k,.mk _ _ l=>.mk k (k+1) (Exq.wrs (k+2) l)
def Exq.wrs:Int→List Exq→List Exq
 | _,[]=>[]
 | k,x::l=>x.wr k::Exq.wrs (k+x.cnt) l
end
mutual
theorem Exq.cnt_wr:∀(k:Int) (x:Exq),(Exq.wr k x).cnt=x.cnt
 | k,.mk _ _ l=>by simp only[Exq.wr,Exq.cnt,Exq.cnts_wrs (k+2) l]
theorem Exq.cnts_wrs:∀(k:Int) (l:List Exq),Exq.cnts (Exq.wrs k l)=Exq.cnts l
 | _,[]=>rfl
 | k,x::l=>by simp only[Exq.wrs,Exq.cnts,Exq.cnt_wr k x,Exq.cnts_wrs (k+x.cnt) l]
end
mutual
theorem Exq.wr_wr:∀(k j:Int) (x:Exq),Exq.wr k (Exq.wr j x)=Exq.wr k x
 | k,j,.mk _ _ l=>by simp only[Exq.wr,Exq.wrs_wrs (k+2) (j+2) l]
theorem Exq.wrs_wrs:∀(k j:Int) (l:List Exq),Exq.wrs k (Exq.wrs j l)=Exq.wrs k l
 | _,_,[]=>rfl
 | k,j,x::l=>by simp only[Exq.wrs,Exq.cnt_wr j x,Exq.wr_wr k j x,Exq.wrs_wrs (k+x.cnt) (j+x.cnt) l]
end
instance instMkExq:Mk Exq:=⟨Exq.cnt,Exq.wr,Exq.cnt_wr,Exq.wr_wr⟩
theorem Exq.cnts_eq:∀l,Exq.cnts l=Mk.cnt l
 | []=>rfl
 | x::l=>by
  have:=Exq.cnts_eq l
  simp only[Exq.cnts,this]
  rfl
theorem Exq.wrs_eq:∀k l,Exq.wrs k l=Mk.wr k l
 | _,[]=>rfl
 | k,x::l=>by
  have:=Exq.wrs_eq (k+x.cnt) l
  simp only[Exq.wrs,this]
  rfl
theorem cnt_Exq (x:Exq):Mk.cnt x=2+Mk.cnt x.kids:=by
 cases x with
 | mk k v l=>show 2+Exq.cnts l=_;rw[Exq.cnts_eq];rfl
theorem wr_Exq (k:Int) (x:Exq):Mk.wr k x=Exq.mk k (k+1) (Mk.wr (k+2) x.kids):=by
 cases x with
 | mk kd v l=>show Exq.mk k (k+1) (Exq.wrs (k+2) l)=_;rw[Exq.wrs_eq];rfl
instance instMkEd:Mk Ed:=⟨fun e=>Mk.cnt e.frm+Mk.cnt e.to+Mk.cnt e.guard+Mk.cnt e.var+Mk.cnt e.value+Mk.cnt e.sync,
 fun k e=>⟨Mk.wr k e.frm,Mk.wr (k+Mk.cnt e.frm) e.to,Mk.wr (k+Mk.cnt e.frm+Mk.cnt e.to) e.guard,Mk.wr (k+Mk.cnt e.frm+Mk.cnt e.to+Mk.cnt e.guard) e.var,
  Mk.wr (k+Mk.cnt e.frm+Mk.cnt e.to+Mk.cnt e.guard+Mk.cnt e.var) e.value,Mk.wr (k+Mk.cnt e.frm+Mk.cnt e.to+Mk.cnt e.guard+Mk.cnt e.var+Mk.cnt e.value) e.sync⟩,
 fun k a=>by simp[Mk.cnt_wr],fun k j a=>by simp[Mk.cnt_wr,Mk.wr_wr]⟩
instance instMkPr:Mk Pr:=⟨fun p=>Mk.cnt p.locs+Mk.cnt p.edges,fun k p=>⟨Mk.wr k p.locs,Mk.wr (k+Mk.cnt p.locs) p.edges⟩,fun k a=>by simp[Mk.cnt_wr],fun k j a=>by simp[Mk.cnt_wr,Mk.wr_wr]⟩
instance instMkSy:Mk Sy:=⟨fun p=>Mk.cnt p.init+Mk.cnt p.procs,fun k p=>⟨Mk.wr k p.init,Mk.wr (k+Mk.cnt p.init) p.procs⟩,fun k a=>by simp[Mk.cnt_wr],fun k j a=>by simp[Mk.cnt_wr,Mk.wr_wr]⟩
theorem cnt_Ed (e:Ed):Mk.cnt e=8+Mk.cnt e.guard.kids+Mk.cnt e.value.kids:=by
 show 1+1+Mk.cnt e.guard+1+Mk.cnt e.value+1=_
 rw[cnt_Exq,cnt_Exq];omega
theorem cnt_Pr (p:Pr):Mk.cnt p=1+Mk.cnt p.edges:=rfl
theorem cnt_Sy (p:Sy):Mk.cnt p=Mk.cnt p.init+Mk.cnt p.procs:=rfl
def VOk (vs:List Int):Prop:=vs.length=3∧∀x∈vs,0≤x∧x≤3
theorem VOk.len {vs:List Int}(h:VOk vs):vs.length=3:=h.1
theorem VOk.at {vs:List Int}(h:VOk vs) {i:Nat}(hi:i<vs.length):0≤vs[i]∧vs[i]≤3:=h.2 _ (List.getElem_mem hi)
noncomputable instance {vs:List Int}:Decidable (VOk vs):=Classical.propDecidable _
namespace Exq
def arity (k:Int):Int:=if k=1∨k=2 then 0 else if k=3 then 1 else if 4≤k∧k≤9 then 2 else -1
def most (k:Int):Int:=if k=1 then 3 else if k=2 then 2 else 0
structure Nd (x:Exq):Prop where
 ar:(x.kids.length:Int)=arity x.kind
 lo:0≤x.val
 hi:x.val≤most x.kind
def Shp:Nat→Exq→Prop
 | 0,_=>False
 | n+1,x=>x.Nd∧∀y∈x.kids,Shp n y
mutual
def nod:Exq→Nat
 | .mk _ _ l=>1+nods l
def nods:List Exq→Nat
 | []=>0
 | x::l=>x.nod+nods l
end
theorem nod_eq (x:Exq):x.nod=1+nods x.kids:=by cases x;rfl
theorem nods_take:∀{l:List Exq}{i:Nat}(hi:i<l.length),nods (l.take (i+1))=nods (l.take i)+l[i].nod
 | x::l,0,_=>by simp[nods]
 | x::l,i+1,hi=>by
  have:=nods_take (l:=l) (i:=i) (by simpa using hi)
  simp only[List.take_succ_cons,nods,List.getElem_cons_succ,this];omega
theorem nods_le:∀(l:List Exq) (i:Nat),nods (l.take i)≤nods l
 | [],i=>by simp
 | x::l,0=>by simp[nods]
 | x::l,i+1=>by
  simp only[List.take_succ_cons,nods]
  have:=nods_le l i
  omega
def Ok (x:Exq):Prop:=x.Shp 6∧x.nod≤15
noncomputable instance {x:Exq}:Decidable x.Ok:=Classical.propDecidable _
def zero:Exq:=.mk 0 0 []
theorem Nd.kind {x:Exq}(h:x.Nd):1≤x.kind∧x.kind≤9:=by
 have:=h.ar
 unfold arity at this
 split at this<;>(try split at this)<;>(try split at this)<;>omega
theorem Shp.nd {n:Nat}{x:Exq}(h:x.Shp n):x.Nd:=by
 cases n with
 | zero=>exact h.elim
 | succ n=>exact h.1
theorem Shp.kid {n:Nat}{x:Exq}(h:x.Shp (n+1)) {i:Nat}(hi:i<x.kids.length):x.kids[i].Shp n:=h.2 _ (List.getElem_mem hi)
theorem Shp.bnd:∀{n:Nat}{x:Exq},x.Shp n→x.nod<2^n
 | 0,_,h=>h.elim
 | n+1,x,h=>by
  have h1:=h.1.ar
  have h2:x.kids.length≤2:=by
   unfold arity at h1
   split at h1<;>(try split at h1)<;>(try split at h1)<;>omega
  have h3:nods x.kids+x.kids.length≤x.kids.length*2^n:=by
   have key:∀l:List Exq,(∀y∈l,Shp n y)→nods l+l.length≤l.length*2^n:=by
    intro l
    induction l with
    | nil=>intro _;simp[nods]
    | cons y l ih=>
     intro hl
     have g1:=Shp.bnd (hl y (by simp))
     have g2:=ih fun z hz=>hl z (by simp[hz])
     simp only[nods,List.length_cons,Nat.add_mul]
     omega
   exact key _ h.2
  have h4:x.kids.length*2^n≤2*2^n:=Nat.mul_le_mul_right _ h2
  have h5:0<2^n:=Nat.pow_pos (by decide)
  rw[nod_eq,Nat.pow_succ]
  by_cases h6:x.kids.length=0
  ·have:x.kids=[]:=List.length_eq_zero_iff.1 h6
   rw[this];simp only[nods];omega
  ·rcases (show x.kids.length=1∨x.kids.length=2 by omega) with h7 | h7<;>rw[h7] at h3 h4<;>omega
def tr (p:Prop) [Decidable p]:Int:=if p then 1 else 0
def evk (vs:List Int) (k v a b:Int):Int:=
 if k=1 then v else if k=2 then vs.getD v.toNat 0 else if k=3 then tr (a=0) else if k=4 then tr (a≠0∧b≠0) else if k=5 then tr (a≠0∨b≠0)
 else if k=6 then tr (a=b) else if k=7 then tr (a<b) else if k=8 then (a+b).tmod 4 else (a-b+4).tmod 4
mutual
def ev (vs:List Int):Exq→Int
 | .mk k v l=>evk vs k v ((evs vs l).getD 0 0) ((evs vs l).getD 1 0)
def evs (vs:List Int):List Exq→List Int
 | []=>[]
 | x::l=>x.ev vs::evs vs l
end
def kev (x:Exq) (vs:List Int) (j:Nat):Int:=(x.kids.map (ev vs)).getD j 0
mutual
def mkv:Exq→List Bool→List Bool
 | .mk k v l,M=>mkvs l (if k=2 then M.set v.toNat true else M)
def mkvs:List Exq→List Bool→List Bool
 | [],M=>M
 | x::l,M=>mkvs l (x.mkv M)
end
end Exq
structure Ed.Ok (e:Ed) (n:Int):Prop where
 n1:1≤n
 n4:n≤4
 f0:0≤e.frm
 f1:e.frm<n
 t0:0≤e.to
 t1:e.to<n
 gd:e.guard.Ok
 v0:-1≤e.var
 v1:e.var≤2
 vl:(0≤e.var∧e.value.Ok)∨(e.var<0∧e.value=Exq.zero)
 s0:-2≤e.sync
 s1:e.sync≤2
noncomputable instance {e:Ed}{n:Int}:Decidable (e.Ok n):=Classical.propDecidable _
structure Pr.Ok (p:Pr):Prop where
 n1:1≤p.locs
 n4:p.locs≤4
 el:p.edges.length≤6
 ed:∀e∈p.edges,e.Ok p.locs
noncomputable instance {p:Pr}:Decidable p.Ok:=Classical.propDecidable _
structure Sy.Ok (s:Sy):Prop where
 vs:VOk s.init
 p1:1≤s.procs.length
 p3:s.procs.length≤3
 pr:∀p∈s.procs,p.Ok
noncomputable instance {s:Sy}:Decidable s.Ok:=Classical.propDecidable _
theorem Sy.Ok.at {s:Sy}(h:s.Ok) {i:Nat}(hi:i<s.procs.length):s.procs[i].Ok:=h.pr _ (List.getElem_mem hi)
theorem Pr.Ok.at {p:Pr}(h:p.Ok) {i:Nat}(hi:i<p.edges.length):p.edges[i].Ok p.locs:=h.ed _ (List.getElem_mem hi)
structure LOk (l:List Exq):Prop where
 len:l.length=3
 ok:∀x∈l,x.Ok
noncomputable instance {l:List Exq}:Decidable (LOk l):=Classical.propDecidable _
def relL (labels:List Exq) (M:List Bool):List Bool:=labels.foldl (fun M x=>x.mkv M) M
def relG (s:Sy) (M:List Bool):List Bool:=s.procs.foldl (fun M p=>p.edges.foldl (fun M e=>e.guard.mkv M) M) M
def Ed.relv (M:List Bool) (e:Ed):List Bool:=if 0≤e.var∧M.getD e.var.toNat false=true then e.value.mkv M else M
def relV (s:Sy) (M:List Bool):List Bool:=s.procs.foldl (fun M p=>p.edges.foldl Ed.relv M) M
def Sy.rel (s:Sy) (labels:List Exq):List Bool:=relV s (relV s (relV s (relG s (relL labels [false,false,false]))))
structure Sta where
 locs:List Int
 vals:List Int
deriving DecidableEq
instance instTySta:Ty Sta:=Ty.via fun (s:Sta)=>(s.locs,s.vals)
theorem Sta.ext_iff' {a b:Sta}:a=b↔a.locs=b.locs∧a.vals=b.vals:=by
 cases a;cases b;simp
instance instSzSta:Sz Sta:=⟨fun a=>Sz.sz a.locs+Sz.sz a.vals⟩
instance instMkSta:Mk Sta:=⟨fun a=>Mk.cnt a.locs+Mk.cnt a.vals,
 fun k a=>⟨Mk.wr (k) a.locs,Mk.wr (k+Mk.cnt a.locs) a.vals⟩,
 fun k a=>by simp[Mk.cnt_wr],fun k j a=>by simp[Mk.cnt_wr,Mk.wr_wr]⟩
structure Gr where
 states:List Sta
 next:List (List Int)
deriving DecidableEq
instance instTyGr:Ty Gr:=Ty.via fun (g:Gr)=>(g.states,g.next)
theorem Gr.ext_iff' {a b:Gr}:a=b↔a.states=b.states∧a.next=b.next:=by
 cases a;cases b;simp
instance instSzGr:Sz Gr:=⟨fun a=>Sz.sz a.states+Sz.sz a.next⟩
instance instMkGr:Mk Gr:=⟨fun a=>Mk.cnt a.states+Mk.cnt a.next,
 fun k a=>⟨Mk.wr (k) a.states,Mk.wr (k+Mk.cnt a.states) a.next⟩,
 fun k a=>by simp[Mk.cnt_wr],fun k j a=>by simp[Mk.cnt_wr,Mk.wr_wr]⟩
structure Stp where
 proc:Int
 edge:Int
 partner:Int
 pedge:Int
deriving DecidableEq
instance instTyStp:Ty Stp:=Ty.via fun (s:Stp)=>(s.proc,s.edge,s.partner,s.pedge)
theorem Stp.ext_iff' {a b:Stp}:a=b↔a.proc=b.proc∧a.edge=b.edge∧a.partner=b.partner∧a.pedge=b.pedge:=by
 cases a;cases b;simp
instance instFlatStp:Flat Stp:=Flat.via fun (s:Stp)=>(s.proc,s.edge,s.partner,s.pedge)
def Stp.v (s:Stp):Value:=.agg #[.int .i64 s.proc,.int .i64 s.edge,.int .i64 s.partner,.int .i64 s.pedge]
structure Stp.ok (s:Stp):Prop where
 proc:-9223372036854775808≤s.proc∧s.proc<9223372036854775808
 edge:-9223372036854775808≤s.edge∧s.edge<9223372036854775808
 partner:-9223372036854775808≤s.partner∧s.partner<9223372036854775808
 pedge:-9223372036854775808≤s.pedge∧s.pedge<9223372036854775808
instance instSzStp:Sz Stp:=⟨fun a=>Sz.sz a.proc+Sz.sz a.edge+Sz.sz a.partner+Sz.sz a.pedge⟩
instance instMkStp:Mk Stp:=⟨fun a=>Mk.cnt a.proc+Mk.cnt a.edge+Mk.cnt a.partner+Mk.cnt a.pedge,
 fun k a=>⟨Mk.wr (k) a.proc,Mk.wr (k+Mk.cnt a.proc) a.edge,Mk.wr (k+Mk.cnt a.proc+Mk.cnt a.edge) a.partner,Mk.wr (k+Mk.cnt a.proc+Mk.cnt a.edge+Mk.cnt a.partner) a.pedge⟩,
 fun k a=>by simp[Mk.cnt_wr],fun k j a=>by simp[Mk.cnt_wr,Mk.wr_wr]⟩
def Tx (l:List UInt8):ByteArray:=⟨l.toArray⟩
theorem Tx_eta (b:ByteArray):Tx b.data.toList=b:=rfl
theorem Tx_size {l:List UInt8}:(Tx l).size=l.length:=rfl
theorem Tx_add {a b:List UInt8}:Tx a++Tx b=Tx (a++b):=by
 apply ByteArray.ext
 simp[Tx]
theorem Tx_inj {a b:List UInt8}:Tx a=Tx b↔a=b:=⟨fun h=>by have:=congrArg (fun x=>x.data.toList) h;simpa[Tx] using this,fun h=>by rw[h]⟩
theorem Tx_ext {l:List UInt8}{i j:Nat}:(Tx l).extract i j=Tx ((l.drop i).take (j-i)):=by
 apply ByteArray.ext
 simp[Tx]
def spl (c:UInt8):List UInt8→List (List UInt8)
 | []=>[[]]
 | x::l=>if x=c then []::spl c l else (x::(spl c l).headD [])::(spl c l).tail
theorem spl_ne {c:UInt8}{l:List UInt8}:spl c l≠[]:=by
 cases l with
 | nil=>simp[spl]
 | cons x l=>unfold spl;split<;>simp
theorem spl_no {c:UInt8}:∀{l:List UInt8},c∉l→spl c l=[l]
 | [],_=>rfl
 | x::l,h=>by
  have h1:¬x=c:=fun e=>h (by simp[e])
  rw[spl,if_neg h1,spl_no (fun hh=>h (by simp[hh]))]
  rfl
theorem spl_app {c:UInt8}:∀{l r:List UInt8},c∉l→spl c (l++c::r)=l::spl c r
 | [],r,_=>by simp[spl]
 | x::l,r,h=>by
  have h1:¬x=c:=fun e=>h (by simp[e])
  rw[List.cons_append,spl,if_neg h1,spl_app (fun hh=>h (by simp[hh]))]
  rfl
def jn (c:UInt8):List (List UInt8)→List UInt8
 | []=>[]
 | [w]=>w
 | w::r=>w++c::jn c r
theorem jn_cons {c:UInt8}{w:List UInt8}{r:List (List UInt8)}(h:r≠[]):jn c (w::r)=w++c::jn c r:=by
 cases r with
 | nil=>simp at h
 | cons x r=>rfl
theorem spl_jn {c:UInt8}:∀{ws:List (List UInt8)},ws≠[]→(∀w∈ws,c∉w)→spl c (jn c ws)=ws
 | [],h,_=>by simp at h
 | [w],_,h=>by rw[jn,spl_no (h w (by simp))]
 | w::x::r,_,h=>by
  rw[jn_cons (by simp),spl_app (h w (by simp)),spl_jn (by simp) (fun y hy=>h y (List.mem_cons_of_mem _ hy))]
theorem spl_len {c:UInt8}:∀l:List UInt8,(spl c l).length=l.count c+1
 | []=>rfl
 | x::l=>by
  have ih:=spl_len (c:=c) l
  have hne:=List.length_pos_iff.2 (spl_ne (c:=c) (l:=l))
  rw[spl]
  split
  ·rename_i h
   subst h
   simp[ih]
  ·rename_i h
   rw[List.count_cons_of_ne h]
   simp only[List.length_cons,List.length_tail]
   omega
def dg (n:Int):UInt8:=UInt8.ofNat (48+n.toNat)
theorem dg_nat {n:Int}(h0:0≤n) (h9:n≤9):(dg n).toNat=48+n.toNat:=by
 unfold dg
 rw[UInt8.toNat_ofNat']
 omega
theorem dg_int {n:Int}(h0:0≤n) (h9:n≤9):((dg n).toNat:Int)-48=n:=by
 rw[dg_nat h0 h9];omega
theorem dg_ne {n:Int}(h0:0≤n) (h9:n≤9) {c:UInt8}(hc:c.toNat<48∨57<c.toNat):dg n≠c:=fun e=>by
 have:=dg_nat h0 h9
 rw[e] at this
 omega
namespace Exq
def sg (k:Int):UInt8:=if k=4 then 38 else if k=5 then 124 else if k=6 then 61 else if k=7 then 60 else if k=8 then 43 else 45
mutual
def fmt:Exq→List UInt8
 | .mk k v l=>if k=1 then [dg v] else if k=2 then [UInt8.ofNat (120+v.toNat)] else if k=3 then 33::(fmts l).getD 0 [] else 40::((fmts l).getD 0 []++sg k::((fmts l).getD 1 []++[41]))
def fmts:List Exq→List (List UInt8)
 | []=>[]
 | x::l=>fmt x::fmts l
end
theorem fmts_eq:∀l:List Exq,fmts l=l.map fmt
 | []=>rfl
 | x::l=>by rw[fmts,fmts_eq l];rfl
theorem fmt_eq (x:Exq):x.fmt=if x.kind=1 then [dg x.val] else if x.kind=2 then [UInt8.ofNat (120+x.val.toNat)] else if x.kind=3 then 33::(x.kids.map fmt).getD 0 [] else 40::((x.kids.map fmt).getD 0 []++sg x.kind::((x.kids.map fmt).getD 1 []++[41])):=by
 cases x with
 | mk k v l=>rw[fmt,fmts_eq];rfl
theorem fmt1 {x:Exq}(h:x.kind=1):x.fmt=[dg x.val]:=by rw[fmt_eq,if_pos h]
theorem fmt2 {x:Exq}(h:x.kind=2):x.fmt=[UInt8.ofNat (120+x.val.toNat)]:=by rw[fmt_eq,if_neg (by omega),if_pos h]
theorem fmt3 {x:Exq}(h:x.kind=3) (hl:0<x.kids.length):x.fmt=(33:UInt8)::x.kids[0].fmt:=by rw[fmt_eq,if_neg (by omega),if_neg (by omega),if_pos h];simp[hl]
theorem fmt4 {x:Exq}(h:4≤x.kind) (hl:1<x.kids.length):x.fmt=(40:UInt8)::(x.kids[0].fmt++sg x.kind::(x.kids[1].fmt++[41])):=by
 rw[fmt_eq,if_neg (by omega),if_neg (by omega),if_neg (by omega)]
 have h0:0<x.kids.length:=by omega
 simp[hl,h0]
theorem Nd.k12 {x:Exq}(h:x.Nd) (hk:x.kind=1∨x.kind=2):x.kids=[]:=by
 have:=h.ar
 rw[arity,if_pos hk] at this
 exact List.length_eq_zero_iff.1 (by omega)
theorem Nd.k3 {x:Exq}(h:x.Nd) (hk:x.kind=3):x.kids.length=1:=by
 have:=h.ar
 rw[arity,if_neg (by omega),if_pos hk] at this
 omega
theorem Nd.k4 {x:Exq}(h:x.Nd) (hk:4≤x.kind):x.kids.length=2:=by
 have:=h.ar
 have:=h.kind
 rw[arity,if_neg (by omega),if_neg (by omega),if_pos (by omega)] at *
 omega
theorem Nd.hi1 {x:Exq}(h:x.Nd) (hk:x.kind=1):x.val≤3:=by have:=h.hi;rw[most,if_pos hk] at this;exact this
theorem Nd.hi2 {x:Exq}(h:x.Nd) (hk:x.kind=2):x.val≤2:=by have:=h.hi;rw[most,if_neg (by omega),if_pos hk] at this;exact this
theorem Nd.hi3 {x:Exq}(h:x.Nd) (hk:3≤x.kind):x.val=0:=by have:=h.hi;have:=h.lo;rw[most,if_neg (by omega),if_neg (by omega)] at *;omega
theorem Nd.cases {x:Exq}(h:x.Nd):x.kind=1∨x.kind=2∨x.kind=3∨(4≤x.kind∧x.kind≤9):=by have:=h.kind;omega
def fbs:List UInt8:=[48,49,50,51,120,121,122,33,40,41,38,124,61,60,43,45]
theorem sg_mem {k:Int}:sg k∈fbs:=by
 unfold sg fbs
 split<;>(try split)<;>(try split)<;>(try split)<;>(try split)<;>simp
theorem dg_mem {n:Int}(h0:0≤n) (h3:n≤3):dg n∈fbs:=by
 obtain rfl | rfl | rfl | rfl:n=0∨n=1∨n=2∨n=3:=by omega
 all_goals decide
theorem vr_mem {n:Int}(h0:0≤n) (h3:n≤2):UInt8.ofNat (120+n.toNat)∈fbs:=by
 obtain rfl | rfl | rfl:n=0∨n=1∨n=2:=by omega
 all_goals decide
theorem fmt_mem:∀{n:Nat}{x:Exq},x.Shp n→∀c∈x.fmt,c∈fbs
 | 0,_,h=>h.elim
 | n+1,x,h=>by
  intro c hc
  have hn:=h.nd
  rcases hn.cases with k | k | k | k
  ·rw[fmt1 k,List.mem_singleton] at hc
   rw[hc];exact dg_mem hn.lo (hn.hi1 k)
  ·rw[fmt2 k,List.mem_singleton] at hc
   rw[hc];exact vr_mem hn.lo (hn.hi2 k)
  ·have hl:=hn.k3 k
   rw[fmt3 k (by omega)] at hc
   rcases List.mem_cons.1 hc with rfl | hc
   ·decide
   ·exact fmt_mem (h.kid (by omega)) c hc
  ·have hl:=hn.k4 k.1
   rw[fmt4 k.1 (by omega)] at hc
   simp only[List.mem_cons,List.mem_append,List.not_mem_nil,or_false] at hc
   rcases hc with rfl | hc | rfl | hc | rfl
   ·decide
   ·exact fmt_mem (h.kid (by omega)) c hc
   ·exact sg_mem
   ·exact fmt_mem (h.kid (by omega)) c hc
   ·decide
theorem nod_kids2 {x:Exq}(hl:x.kids.length=2):x.nod=1+(x.kids[0].nod+x.kids[1].nod):=by
 rw[nod_eq]
 obtain⟨a,b,h⟩:∃a b,x.kids=[a,b]:=by
  match h:x.kids,hl with
  | [a,b],_=>exact⟨a,b,rfl⟩
 simp only[h]
 simp[nods]
theorem nod_kids1 {x:Exq}(hl:x.kids.length=1):x.nod=1+x.kids[0].nod:=by
 rw[nod_eq]
 obtain⟨a,h⟩:=List.length_eq_one_iff.1 hl
 simp only[h]
 simp[nods]
theorem fmt_len:∀{n:Nat}{x:Exq},x.Shp n→1≤x.fmt.length∧x.fmt.length≤3*x.nod
 | 0,_,h=>h.elim
 | n+1,x,h=>by
  have hn:=h.nd
  rcases hn.cases with k | k | k | k
  ·rw[fmt1 k,nod_eq];simp;omega
  ·rw[fmt2 k,nod_eq];simp;omega
  ·have hl:=hn.k3 k
   have:=fmt_len (h.kid (i:=0) (by omega))
   rw[fmt3 k (by omega),nod_kids1 hl,List.length_cons];omega
  ·have hl:=hn.k4 k.1
   have h0:=fmt_len (h.kid (i:=0) (by omega))
   have h1:=fmt_len (h.kid (i:=1) (by omega))
   rw[fmt4 k.1 (by omega),nod_kids2 hl]
   simp only[List.length_cons,List.length_append,List.length_nil];omega
theorem Ok.fmt_len {x:Exq}(h:x.Ok):1≤x.fmt.length∧x.fmt.length≤45:=by
 have:=Exq.fmt_len h.1
 have:=h.2
 omega
theorem Ok.fmt_no {x:Exq}(h:x.Ok) {c:UInt8}(hc:c∉fbs):c∉x.fmt:=fun hh=>hc (fmt_mem h.1 c hh)
end Exq
def wSys:List UInt8:=[115,121,115,116,101,109]
def wPrc:List UInt8:=[112,114,111,99,101,115,115]
def wEdg:List UInt8:=[101,100,103,101]
def Ed.asg (e:Ed):List UInt8:=if e.var<0 then [45] else UInt8.ofNat (120+e.var.toNat)::58::61::e.value.fmt
def syn (n:Int):List UInt8:=if 0<n then [33,dg n] else if n<0 then [63,dg (-n)] else [45]
inductive Ln where
 | sys (l:List Int)
 | prc (n:Int)
 | edg (e:Ed)
def Ln.ws:Ln→List (List UInt8)
 | .sys l=>wSys::l.map fun n=>[dg n]
 | .prc n=>[wPrc,[dg n]]
 | .edg e=>[wEdg,[dg e.frm],[dg e.to],e.guard.fmt,e.asg,syn e.sync]
def Ln.row (x:Ln):List UInt8:=jn 32 x.ws
def Pr.lns (p:Pr):List Ln:=.prc p.locs::p.edges.map .edg
def Sy.lns (s:Sy):List Ln:=.sys s.init::s.procs.flatMap Pr.lns
def rows (l:List Ln):List UInt8:=(l.map fun x=>x.row++[10]).flatten
def Sy.fmt (s:Sy):List UInt8:=rows s.lns
theorem rows_app {a b:List Ln}:rows (a++b)=rows a++rows b:=by simp[rows]
def Ln.Ok:Ln→Prop
 | .sys l=>VOk l
 | .prc n=>1≤n∧n≤4
 | .edg e=>∃n,e.Ok n
theorem Sy.lns_ok {s:Sy}(h:s.Ok):∀x∈s.lns,x.Ok:=by
 intro x hx
 rcases List.mem_cons.1 hx with rfl | hx
 ·exact h.vs
 ·obtain⟨p,hp,hx⟩:=List.mem_flatMap.1 hx
  have hP:=h.pr p hp
  rcases List.mem_cons.1 hx with rfl | hx
  ·exact⟨hP.n1,hP.n4⟩
  ·obtain⟨e,he,rfl⟩:=List.mem_map.1 hx
   exact⟨_,hP.ed e he⟩
def Sy.ap (s:Sy):Ln→Sy
 | .sys l=>⟨l,s.procs⟩
 | .prc n=>⟨s.init,s.procs++[⟨n,[]⟩]⟩
 | .edg e=>⟨s.init,s.procs.set (s.procs.length-1) ⟨(s.procs.getD (s.procs.length-1) ⟨0,[]⟩).locs,(s.procs.getD (s.procs.length-1) ⟨0,[]⟩).edges++[e]⟩⟩
theorem ap_edg {i:List Int}{P:List Pr}{n:Int}{E:List Ed}{e:Ed}:Sy.ap ⟨i,P++[⟨n,E⟩]⟩ (.edg e)=⟨i,P++[⟨n,E++[e]⟩]⟩:=by
 simp[Sy.ap,List.set_append_right,List.getD_eq_getElem?_getD]
theorem ap_edgs {i:List Int}{P:List Pr}{n:Int}:∀{L E:List Ed},(L.map Ln.edg).foldl Sy.ap ⟨i,P++[⟨n,E⟩]⟩=⟨i,P++[⟨n,E++L⟩]⟩
 | [],E=>by simp
 | e::L,E=>by
  rw[List.map_cons,List.foldl_cons,ap_edg,ap_edgs (L:=L)]
  simp
theorem ap_prs {i:List Int}:∀{L P:List Pr},(L.flatMap Pr.lns).foldl Sy.ap ⟨i,P⟩=⟨i,P++L⟩
 | [],P=>by simp
 | p::L,P=>by
  rw[List.flatMap_cons,List.foldl_append,Pr.lns,List.foldl_cons]
  have h1:Sy.ap ⟨i,P⟩ (.prc p.locs)=⟨i,P++[⟨p.locs,[]⟩]⟩:=rfl
  rw[h1,ap_edgs,List.nil_append,ap_prs (L:=L)]
  simp
theorem Sy.lns_ap (s:Sy):s.lns.foldl Sy.ap ⟨[],[]⟩=s:=by
 have h1:Sy.ap ⟨[],[]⟩ (.sys s.init)=⟨s.init,[]⟩:=rfl
 rw[Sy.lns,List.foldl_cons,h1,ap_prs]
 rfl
theorem ap_len {s:Sy}{x:Ln}:s.procs.length≤(s.ap x).procs.length:=by
 cases x<;>simp[Sy.ap]
theorem aps_len:∀{l:List Ln}{s:Sy},s.procs.length≤(l.foldl Sy.ap s).procs.length
 | [],_=>Nat.le_refl _
 | x::l,s=>Nat.le_trans ap_len (aps_len (l:=l) (s:=s.ap x))
theorem Sy.edg_at {s:Sy}(h:s.Ok) {i:Nat}(hi:i<s.lns.length) {e:Ed}(he:s.lns[i]=.edg e):0<((s.lns.take i).foldl Sy.ap ⟨[],[]⟩).procs.length:=by
 have h1:=h.p1
 match hp:s.procs,h1 with
 | p::r,_=>
  have hl:s.lns=.sys s.init::.prc p.locs::(p.edges.map Ln.edg++r.flatMap Pr.lns):=by rw[Sy.lns,hp];rfl
  match i with
  | 0=>simp only[hl,List.getElem_cons_zero] at he;exact absurd he (by simp)
  | 1=>simp only[hl,List.getElem_cons_succ,List.getElem_cons_zero] at he;exact absurd he (by simp)
  | j+2=>
   rw[hl,List.take_succ_cons,List.take_succ_cons,List.foldl_cons,List.foldl_cons]
   refine Nat.lt_of_lt_of_le ?_ aps_len
   simp[Sy.ap]
theorem dg_no {n:Int}(h0:0≤n) (h9:n≤9) {c:UInt8}(hc:c.toNat<48∨57<c.toNat):c∉[dg n]:=fun h=>dg_ne h0 h9 hc (List.mem_singleton.1 h).symm
theorem var_no {n:Int}(h0:0≤n) (h2:n≤2) {c:UInt8}(hc:c.toNat<120):UInt8.ofNat (120+n.toNat)≠c:=fun e=>by
 have h1:(UInt8.ofNat (120+n.toNat)).toNat=120+n.toNat:=by rw[UInt8.toNat_ofNat'];omega
 rw[e] at h1
 omega
theorem Ed.asg_no {e:Ed}{n:Int}(h:e.Ok n) {c:UInt8}(hc:c∉Exq.fbs) (hc2:c≠58):c∉e.asg:=by
 have h1:=h.v1
 unfold Ed.asg
 split
 ·intro hh;exact hc (by rw[List.mem_singleton.1 hh];decide)
 ·rename_i hv
  intro hh
  simp only[List.mem_cons] at hh
  rcases hh with rfl | rfl | rfl | hh
  ·exact hc (Exq.vr_mem (by omega) h1)
  ·exact hc2 rfl
  ·exact hc (by decide)
  ·rcases h.vl with ⟨_,hv⟩ | ⟨hv,_⟩
   ·exact hv.fmt_no hc hh
   ·omega
theorem syn_no {n:Int}(h0:-2≤n) (h1:n≤2) {c:UInt8}(hc:c∉Exq.fbs) (hc2:c≠63):c∉syn n:=by
 unfold syn
 split
 ·intro hh
  simp only[List.mem_cons,List.not_mem_nil,or_false] at hh
  rcases hh with rfl | rfl
  ·exact hc (by decide)
  ·exact hc (Exq.dg_mem (by omega) (by omega))
 ·split
  ·intro hh
   simp only[List.mem_cons,List.not_mem_nil,or_false] at hh
   rcases hh with rfl | rfl
   ·exact hc2 rfl
   ·exact hc (Exq.dg_mem (by omega) (by omega))
  ·intro hh;exact hc (by rw[List.mem_singleton.1 hh];decide)
theorem Ln.ws_ne {x:Ln}:x.ws≠[]:=by cases x<;>simp[Ln.ws]
theorem Ln.ws_no {x:Ln}(h:x.Ok) {c:UInt8}(hc:c=32∨c=10):∀w∈x.ws,c∉w:=by
 have hb:c∉Exq.fbs:=by rcases hc with rfl | rfl<;>decide
 have hd:c.toNat<48∨57<c.toNat:=by rcases hc with rfl | rfl<;>decide
 intro w hw
 cases x with
 | sys l=>
  rcases List.mem_cons.1 hw with rfl | hw
  ·rcases hc with rfl | rfl<;>decide
  ·obtain⟨n,hn,rfl⟩:=List.mem_map.1 hw
   have:=h.2 n hn
   exact dg_no (by omega) (by omega) hd
 | prc n=>
  have h:1≤n∧n≤4:=h
  simp only[Ln.ws,List.mem_cons,List.not_mem_nil,or_false] at hw
  rcases hw with rfl | rfl
  ·rcases hc with rfl | rfl<;>decide
  ·exact dg_no (by omega) (by omega) hd
 | edg e=>
  obtain⟨n,h⟩:=h
  have:=h.n4
  have:=h.f0
  have:=h.f1
  have:=h.t0
  have:=h.t1
  simp only[Ln.ws,List.mem_cons,List.not_mem_nil,or_false] at hw
  rcases hw with rfl | rfl | rfl | rfl | rfl | rfl
  ·rcases hc with rfl | rfl<;>decide
  ·exact dg_no (by omega) (by omega) hd
  ·exact dg_no (by omega) (by omega) hd
  ·exact h.gd.fmt_no hb
  ·exact Ed.asg_no h hb (by rcases hc with rfl | rfl<;>decide)
  ·exact syn_no h.s0 h.s1 hb (by rcases hc with rfl | rfl<;>decide)
theorem jn_mem {c d:UInt8}:∀{ws:List (List UInt8)},d∈jn c ws→d=c∨∃w∈ws,d∈w
 | [],h=>by simp[jn] at h
 | [w],h=>.inr ⟨w,by simp,h⟩
 | w::x::r,h=>by
  rw[jn_cons (by simp)] at h
  rcases List.mem_append.1 h with h | h
  ·exact .inr ⟨w,by simp,h⟩
  ·rcases List.mem_cons.1 h with h | h
   ·exact .inl h
   ·rcases jn_mem h with h | ⟨y,hy,h⟩
    ·exact .inl h
    ·exact .inr ⟨y,List.mem_cons_of_mem _ hy,h⟩
theorem Ln.row_spl {x:Ln}(h:x.Ok):spl 32 x.row=x.ws:=spl_jn Ln.ws_ne (Ln.ws_no h (.inl rfl))
theorem Ln.row_no {x:Ln}(h:x.Ok):(10:UInt8)∉x.row:=fun hh=>by
 rcases jn_mem hh with h1 | ⟨w,hw,h1⟩
 ·exact absurd h1 (by decide)
 ·exact Ln.ws_no h (.inr rfl) w hw h1
theorem flat_jn {c:UInt8}:∀{ws:List (List UInt8)},ws≠[]→(ws.map (· ++ [c])).flatten=jn c ws++[c]
 | [],h=>by simp at h
 | [w],_=>by simp[jn]
 | w::x::r,_=>by
  rw[List.map_cons,List.flatten_cons,flat_jn (ws:=x::r) (by simp),jn_cons (w:=w) (r:=x::r) (by simp)]
  simp
theorem Sy.lns_ne {s:Sy}:s.lns≠[]:=by simp[Sy.lns]
theorem Sy.fmt_jn {s:Sy}:s.fmt=jn 10 (s.lns.map Ln.row)++[10]:=by
 rw[← flat_jn (by simp[Sy.lns_ne])]
 simp[Sy.fmt,rows,List.map_map]
 rfl
theorem Sy.fmt_spl {s:Sy}(h:s.Ok):spl 10 (jn 10 (s.lns.map Ln.row))=s.lns.map Ln.row:=spl_jn (by simp[Sy.lns_ne]) fun w hw=>by
 obtain⟨x,hx,rfl⟩:=List.mem_map.1 hw
 exact Ln.row_no (s.lns_ok h x hx)
theorem spl_snoc {c:UInt8}:∀{l:List UInt8},spl c (l++[c])=spl c l++[[]]
 | []=>by simp[spl]
 | x::l=>by
  have ih:=spl_snoc (c:=c) (l:=l)
  have hne:=spl_ne (c:=c) (l:=l)
  rw[List.cons_append,spl,spl,ih]
  cases e:spl c l with
  | nil=>exact absurd e hne
  | cons w r=>split<;>simp
theorem Sy.fmt_spl2 {s:Sy}(h:s.Ok):spl 10 s.fmt=s.lns.map Ln.row++[[]]:=by rw[Sy.fmt_jn,spl_snoc,Sy.fmt_spl h]
theorem lns_len {s:Sy}(h:s.Ok):s.lns.length≤22:=by
 have key:∀(n:Nat) (l:List Pr),(∀p∈l,p.Ok)→(l.flatMap Pr.lns).length≤l.length*7:=by
  intro n l
  induction l with
  | nil=>simp
  | cons p r ih=>
   intro hp
   have h1:=ih fun q hq=>hp q (List.mem_cons_of_mem _ hq)
   have h2:=(hp p (by simp)).el
   rw[List.flatMap_cons,List.length_append,List.length_cons]
   have:p.lns.length=p.edges.length+1:=by simp[Pr.lns]
   omega
 have:=key 0 s.procs h.pr
 have:=h.p3
 rw[Sy.lns,List.length_cons]
 omega
theorem Ed.asg_len {e:Ed}{n:Int}(h:e.Ok n):1≤e.asg.length∧e.asg.length≤48:=by
 unfold Ed.asg
 split
 ·simp
 ·rcases h.vl with ⟨_,hv⟩ | ⟨hv,_⟩
  ·have:=hv.fmt_len
   simp only[List.length_cons];omega
  ·omega
theorem syn_len {n:Int}:1≤(syn n).length∧(syn n).length≤2:=by
 unfold syn
 split
 ·simp
 ·split<;>simp
theorem Ln.row_len {x:Ln}(h:x.Ok):x.row.length≤120:=by
 cases x with
 | sys l=>
  have h:VOk l:=h
  match l,h.1 with
  | [a,b,c],_=>simp[Ln.row,Ln.ws,jn,wSys]
 | prc n=>simp[Ln.row,Ln.ws,jn,wPrc]
 | edg e=>
  obtain⟨n,h⟩:=h
  have h1:=h.gd.fmt_len
  have h2:=Ed.asg_len h
  have h3:=syn_len (n:=e.sync)
  simp only[Ln.row,Ln.ws,jn,wEdg,List.length_append,List.length_cons,List.length_nil]
  omega
def okD (n:Int):Bool:=decide (0≤n∧n≤9)
def dgs (l:List Int):List UInt8:=l.map dg
def Sta.dOk (st:Sta):Prop:=(∀n∈st.locs,0≤n∧n≤9)∧∀n∈st.vals,0≤n∧n≤9
noncomputable instance {st:Sta}:Decidable st.dOk:=Classical.propDecidable _
noncomputable def Sta.fmt (st:Sta):List UInt8:=if st.dOk then dgs st.locs++47::dgs st.vals else []
theorem all_okD {l:List Int}:l.all okD=true↔∀n∈l,0≤n∧n≤9:=by simp[okD]
def okR (l:List Int):Bool:=l.all okD
def dgR (l:List Int):List UInt8:=if okR l=true then dgs l else []
theorem okR_iff {l:List Int}:okR l=true↔∀n∈l,0≤n∧n≤9:=all_okD
theorem dgR_ok {l:List Int}(h:okR l=true):dgR l=dgs l:=by rw[dgR,if_pos h]
theorem Sta.fmt_eq (st:Sta):st.fmt=if okR st.locs=true∧okR st.vals=true then dgR st.locs++47::dgR st.vals else []:=by
 unfold Sta.fmt
 by_cases h:st.dOk
 ·have h1:=okR_iff.2 h.1
  have h2:=okR_iff.2 h.2
  rw[if_pos h,if_pos ⟨h1,h2⟩,dgR_ok h1,dgR_ok h2]
 ·rw[if_neg h,if_neg fun hh=>h ⟨okR_iff.1 hh.1,okR_iff.1 hh.2⟩]
def nums (l:List UInt8):List Int:=l.map fun c=>(c.toNat:Int)-48
theorem dgs_no {l:List Int}(h:∀n∈l,0≤n∧n≤9):(47:UInt8)∉dgs l:=fun hh=>by
 obtain⟨n,hn,e⟩:=List.mem_map.1 hh
 exact dg_ne (h n hn).1 (h n hn).2 (.inl (by decide)) e
def H_spec_l16Num:Hint:=⟨[(0,false),(2,false),(3,false),(4,false),(5,false),(6,false)],[[1,2]]⟩
abbrev K17_1:C:=.seq (.pl <| .e 6 1 <|
 .m 6 4 <|
 .m 1 6 <|
 .x 2 (.mv (.c (.bool true))) .done) (.ret)
abbrev K17_2:C:=.pl <| .e 6 2 <|
 .m 6 4 <|
 .x 7 (.un .neg (.v 6)) <|
 .m 4 7 .done
abbrev K17_3:C:=.cond 6 (.v 6) K17_2 (.skip)
abbrev K17_4:C:=.seq (.seq (.pl <| .e 6 1 <|
 .m 6 3 .done) K17_3) K17_1
abbrev K17_5:C:=.pl <| .e 6 2 <|
 .m 6 5 <|
 .x 7 (.bin .add (.v 6) (.c (.int .i64 1))) <|
 .m 5 7 .done
abbrev K17_6:C:=.pl <| .e 6 8 <|
 .m 6 4 <|
 .x 7 (.bin .mul (.v 6) (.c (.int .i64 10))) <|
 .m 8 0 <|
 .m 9 5 <|
 .x 10 (.idxS (.v 8) (.v 9)) <|
 .x 11 (.bin .sub (.v 10) (.c (.int .u8 48))) <|
 .x 12 (.conv .i64 (.v 11)) <|
 .x 13 (.bin .add (.v 7) (.v 12)) <|
 .m 4 13 .done
abbrev K17_7:C:=.seq (.pl <| .e 6 0 <|
 .x 1 (.mv (.c (.int .i64 0))) <|
 .x 2 (.mv (.c (.bool false))) .done) (.ret)
abbrev K17_8:C:=.cond 6 (.v 15) K17_7 (.skip)
abbrev K17_9:C:=.seq (.block 1 (.seq (.seq (.pl <| .e 6 10 <|
 .m 6 0 <|
 .m 7 5 <|
 .x 8 (.idxS (.v 6) (.v 7)) <|
 .x 9 (.bin .lss (.v 8) (.c (.int .u8 48))) <|
 .m 10 9 <|
 .n 10 (.px (some 11) (.mv (.v 0))) <|
 .n 10 (.px (some 12) (.mv (.v 5))) <|
 .n 10 (.px (some 13) (.idxS (.v 11) (.v 12))) <|
 .n 10 (.px (some 14) (.bin .gtr (.v 13) (.c (.int .u8 57)))) <|
 .x 15 (.pick (.v 10) (.c (.bool true)) (.v 14)) .done) K17_8) K17_6)) K17_5
abbrev K17_10:C:=.cond 6 (.v 9) (.skip) (.exit 0)
abbrev K17_11:C:=.seq (.seq (.pl <| .e 6 4 <|
 .m 6 5 <|
 .m 7 0 <|
 .x 8 (.lenS (.v 7)) <|
 .x 9 (.bin .lss (.v 6) (.v 8)) .done) K17_10) K17_9
abbrev K17_12:C:=.block 0 (.loop 6 [1,2] K17_11)
abbrev K17_13:C:=.seq (.seq (.pl <| .e 6 0 <|
 .x 5 (.mv (.c (.int .i64 0))) .done) K17_12) K17_4
abbrev K17_14:C:=.seq (.pl <| .e 6 0 <|
 .x 4 (.mv (.c (.int .i64 0))) .done) K17_13
abbrev K17_15:C:=.seq (.pl <| .e 6 0 <|
 .x 1 (.mv (.c (.int .i64 0))) <|
 .x 2 (.mv (.c (.bool false))) .done) (.ret)
abbrev K17_16:C:=.cond 6 (.v 26) K17_15 (.skip)
abbrev K17_17:C:=.seq (.seq (.pl <| .e 6 21 <|
 .m 6 0 <|
 .x 7 (.lenS (.v 6)) <|
 .x 8 (.bin .eql (.v 7) (.c (.int .i64 0))) <|
 .m 9 8 <|
 .n 9 (.px (some 10) (.mv (.v 0))) <|
 .n 9 (.px (some 11) (.lenS (.v 10))) <|
 .n 9 (.px (some 12) (.bin .gtr (.v 11) (.c (.int .i64 17)))) <|
 .x 13 (.pick (.v 9) (.c (.bool true)) (.v 12)) <|
 .m 14 13 <|
 .n 14 (.px (some 15) (.mv (.v 0))) <|
 .n 14 (.px (some 16) (.idxS (.v 15) (.c (.int .i64 0)))) <|
 .n 14 (.px (some 17) (.bin .eql (.v 16) (.c (.int .u8 48)))) <|
 .n 14 (.px (some 18) (.mv (.v 17))) <|
 .y 18 (.px (some 19) (.mv (.v 0))) <|
 .y 18 (.px (some 20) (.lenS (.v 19))) <|
 .y 18 (.px (some 21) (.bin .gtr (.v 20) (.c (.int .i64 1)))) <|
 .y 18 (.px (some 22) (.mv (.v 21))) <|
 .n 22 (.px (some 23) (.mv (.v 3))) <|
 .y 18 (.px (some 24) (.pick (.v 22) (.c (.bool true)) (.v 23))) <|
 .n 14 (.px (some 25) (.pick (.v 18) (.v 24) (.c (.bool false)))) <|
 .x 26 (.pick (.v 14) (.c (.bool true)) (.v 25)) .done) K17_16) K17_14
abbrev K17_18:C:=.pl <| .e 6 2 <|
 .m 6 0 <|
 .x 7 (.sliceS (.v 6) (some (.c (.int .i64 1))) none) <|
 .m 0 7 .done
abbrev K17_19:C:=.cond 6 (.v 6) K17_18 (.skip)
abbrev K17_20:C:=.seq (.seq (.pl <| .e 6 1 <|
 .m 6 3 .done) K17_19) K17_17
abbrev K17_21:C:=.seq (.pl <| .e 6 8 <|
 .m 6 0 <|
 .x 7 (.lenS (.v 6)) <|
 .x 8 (.bin .gtr (.v 7) (.c (.int .i64 0))) <|
 .m 9 8 <|
 .y 9 (.px (some 10) (.mv (.v 0))) <|
 .y 9 (.px (some 11) (.idxS (.v 10) (.c (.int .i64 0)))) <|
 .y 9 (.px (some 12) (.bin .eql (.v 11) (.c (.int .u8 45)))) <|
 .x 13 (.pick (.v 9) (.v 12) (.c (.bool false))) <|
 .m 3 13 .done) K17_20
abbrev B_spec_l16Num:C:=.seq (.pl <| .e 6 0 <|
 .x 1 (.mv (.c (.int .i64 0))) <|
 .x 2 (.mv (.c (.bool false))) .done) K17_21
def R_spec_l16Num:FIR:=⟨B_spec_l16Num,6,[(1,none),(2,none)]⟩
theorem IR_spec_l16Num:cfun Tryz.prog H_spec_l16Num Tryz.f17=some R_spec_l16Num:=by kernel_rfl
theorem EN_spec_l16Num:ENT Tryz.prog B_spec_l16Num [(1,none),(2,none)] 1 6 fn_spec_l16Num:=fun hargs hw=>enter Tryz.func17 rfl IR_spec_l16Num hargs hw
def H_spec_l1Arity:Hint:=⟨[(0,false),(2,false),(3,false),(4,false)],[]⟩
abbrev K139_1:C:=.seq (.pl <| .e 4 0 <|
 .x 1 (.mv (.c (.int .i64 (-1)))) .done) (.ret)
abbrev K139_2:C:=.seq (.pl <| .e 4 0 <|
 .x 1 (.mv (.c (.int .i64 2))) .done) (.ret)
abbrev K139_3:C:=.cond 4 (.v 9) K139_2 (.skip)
abbrev K139_4:C:=.seq (.seq (.pl <| .e 4 6 <|
 .m 4 0 <|
 .x 5 (.bin .geq (.v 4) (.c (.int .i64 4))) <|
 .m 6 5 <|
 .y 6 (.px (some 7) (.mv (.v 0))) <|
 .y 6 (.px (some 8) (.bin .leq (.v 7) (.c (.int .i64 9)))) <|
 .x 9 (.pick (.v 6) (.v 8) (.c (.bool false))) .done) K139_3) K139_1
abbrev K139_5:C:=.seq (.pl <| .e 4 0 <|
 .x 1 (.mv (.c (.int .i64 0))) .done) (.ret)
abbrev K139_6:C:=.seq (.pl <| .e 4 0 <|
 .x 1 (.mv (.c (.int .i64 1))) .done) (.ret)
abbrev K139_7:C:=.cond 4 (.v 5) K139_6 (.skip)
abbrev K139_8:C:=.seq (.pl <| .e 4 2 <|
 .x 4 (.bin .eql (.v 2) (.c (.int .i64 3))) <|
 .m 5 4 .done) K139_7
abbrev K139_9:C:=.cond 4 (.v 3) K139_5 K139_8
abbrev K139_10:C:=.pl <| .e 4 1 <|
 .x 4 (.bin .eql (.v 2) (.c (.int .i64 2))) <|
 .m 3 4 .done
abbrev K139_11:C:=.cond 4 (.v 3) (.skip) K139_10
abbrev K139_12:C:=.block 0 (.seq (.seq (.pl <| .e 4 1 <|
 .x 4 (.bin .eql (.v 2) (.c (.int .i64 1))) <|
 .m 3 4 .done) K139_11) K139_9)
abbrev K139_13:C:=.seq (.seq (.pl <| .e 4 0 <|
 .m 2 0 .done) K139_12) K139_4
abbrev B_spec_l1Arity:C:=.seq (.pl <| .e 4 0 <|
 .x 1 (.mv (.c (.int .i64 0))) .done) K139_13
def R_spec_l1Arity:FIR:=⟨B_spec_l1Arity,4,[(1,none)]⟩
theorem IR_spec_l1Arity:cfun Tryz.prog H_spec_l1Arity Tryz.f139=some R_spec_l1Arity:=by kernel_rfl
theorem EN_spec_l1Arity:ENT Tryz.prog B_spec_l1Arity [(1,none)] 1 4 fn_spec_l1Arity:=fun hargs hw=>enter Tryz.func139 rfl IR_spec_l1Arity hargs hw
def H_spec_l1Count:Hint:=⟨[(0,false),(1,false),(2,true),(4,false),(5,false),(6,false)],[[0,3]]⟩
abbrev K132_1:C:=.seq (.pl <| .e 6 1 <|
 .m 6 4 <|
 .m 3 6 .done) (.ret)
abbrev K132_2:C:=.pl <| .e 6 2 <|
 .m 6 5 <|
 .x 7 (.bin .add (.v 6) (.c (.int .i64 1))) <|
 .m 5 7 .done
abbrev K132_3:Pl:=.x 15 (.bin .add (.v 6) (.v 14)) <|
 .m 4 15 .done
abbrev K132_4:C:=.seq (.block 1 (.pl <| .e 6 10 <|
 .m 6 4 <|
 .a 7 2 <|
 .g 8 7 2 2 <|
 .m 9 5 <|
 .x 10 (.ia 3 (.v 8) (.v 9)) <|
 .o (.ld (some 11) (.v 10) (some 3)) <|
 .m 12 1 <|
 .x 13 (.bin .sub (.v 12) (.c (.int .i64 1))) <|
 .c 14 (.call fn_spec_l1Count [.v 11,.v 13]) K132_3)) K132_2
abbrev K132_5:C:=.cond 6 (.v 14) (.skip) (.exit 0)
abbrev K132_6:C:=.seq (.seq (.pl <| .e 6 9 <|
 .m 6 5 <|
 .a 7 2 <|
 .g 8 7 2 2 <|
 .x 9 (.lenV (.v 8)) <|
 .x 10 (.bin .lss (.v 6) (.v 9)) <|
 .m 11 10 <|
 .y 11 (.px (some 12) (.mv (.v 1))) <|
 .y 11 (.px (some 13) (.bin .gtr (.v 12) (.c (.int .i64 0)))) <|
 .x 14 (.pick (.v 11) (.v 13) (.c (.bool false))) .done) K132_5) K132_4
abbrev K132_7:C:=.block 0 (.loop 6 [0,3] K132_6)
abbrev K132_8:C:=.seq (.seq (.pl <| .e 6 0 <|
 .x 5 (.mv (.c (.int .i64 0))) .done) K132_7) K132_1
abbrev K132_9:C:=.seq (.pl <| .e 6 0 <|
 .x 4 (.mv (.c (.int .i64 1))) .done) K132_8
abbrev B_spec_l1Count:C:=.seq (.pl <| .e 6 0 <|
 .o (.pnew 2 (.v 0) []) <|
 .x 3 (.mv (.c (.int .i64 0))) .done) K132_9
def R_spec_l1Count:FIR:=⟨B_spec_l1Count,6,[(3,none)]⟩
theorem IR_spec_l1Count:cfun Tryz.prog H_spec_l1Count Tryz.f132=some R_spec_l1Count:=by kernel_rfl
theorem EN_spec_l1Count:ENT Tryz.prog B_spec_l1Count [(3,none)] 2 6 fn_spec_l1Count:=fun hargs hw=>enter Tryz.func132 rfl IR_spec_l1Count hargs hw
def H_spec_l1Format:Hint:=⟨[(0,false),(1,true),(2,false),(4,false)],[]⟩
abbrev K69_1:Pl:=.x 19 (.bin .add (.v 13) (.v 18)) <|
 .x 20 (.bin .add (.v 19) (.c (.string ⟨#[41]⟩))) <|
 .m 2 20 .done
abbrev K69_2:Pl:=.st (.re 17 (.v 16) (some 3) none) <|
 .x 13 (.bin .add (.v 9) (.v 12)) <|
 .c 18 (.call fn_spec_l1Format [.v 17]) K69_1
abbrev K69_3:Pl:=.st (.re 17 (.v 16) (some 3) none) <|
 .x 9 (.bin .add (.c (.string ⟨#[40]⟩)) (.v 8)) <|
 .c 12 (.call fn_spec_l1Sign [.v 11]) K69_2
abbrev K69_4:C:=.seq (.pl <| .e 4 17 <|
 .a 4 1 <|
 .g 5 4 1 2 <|
 .x 6 (.ia 3 (.v 5) (.c (.int .i64 0))) <|
 .o (.ld (some 7) (.v 6) (some 3)) <|
 .a 10 1 <|
 .g 11 10 1 0 <|
 .a 14 1 <|
 .g 15 14 1 2 <|
 .x 16 (.ia 3 (.v 15) (.c (.int .i64 1))) <|
 .o (.ld (some 17) (.v 16) (some 3)) <|
 .c 8 (.call fn_spec_l1Format [.v 7]) K69_3) (.ret)
abbrev K69_5:Pl:=.m 2 6 .done
abbrev K69_6:C:=.seq (.pl <| .e 4 3 <|
 .a 4 1 <|
 .g 5 4 1 1 <|
 .c 6 (.call fn_spec_l16Dec [.v 5]) K69_5) (.ret)
abbrev K69_7:C:=.seq (.pl <| .e 4 6 <|
 .a 4 1 <|
 .g 5 4 1 1 <|
 .a 6 1 <|
 .g 7 6 1 1 <|
 .x 8 (.bin .add (.v 7) (.c (.int .i64 1))) <|
 .x 9 (.sliceS (.c (.string ⟨#[120,121,122]⟩)) (some (.v 5)) (some (.v 8))) <|
 .m 2 9 .done) (.ret)
abbrev K69_8:Pl:=.x 9 (.bin .add (.c (.string ⟨#[33]⟩)) (.v 8)) <|
 .m 2 9 .done
abbrev K69_9:C:=.seq (.pl <| .e 4 6 <|
 .a 4 1 <|
 .g 5 4 1 2 <|
 .x 6 (.ia 3 (.v 5) (.c (.int .i64 0))) <|
 .o (.ld (some 7) (.v 6) (some 3)) <|
 .c 8 (.call fn_spec_l1Format [.v 7]) K69_8) (.ret)
abbrev K69_10:C:=.cond 4 (.v 5) K69_9 (.skip)
abbrev K69_11:C:=.seq (.pl <| .e 4 2 <|
 .x 4 (.bin .eql (.v 3) (.c (.int .i64 3))) <|
 .m 5 4 .done) K69_10
abbrev K69_12:C:=.cond 4 (.v 5) K69_7 K69_11
abbrev K69_13:C:=.seq (.pl <| .e 4 2 <|
 .x 4 (.bin .eql (.v 3) (.c (.int .i64 2))) <|
 .m 5 4 .done) K69_12
abbrev K69_14:C:=.cond 4 (.v 5) K69_6 K69_13
abbrev K69_15:C:=.block 0 (.seq (.pl <| .e 4 2 <|
 .x 4 (.bin .eql (.v 3) (.c (.int .i64 1))) <|
 .m 5 4 .done) K69_14)
abbrev K69_16:C:=.seq (.seq (.pl <| .e 4 1 <|
 .a 4 1 <|
 .g 3 4 1 0 .done) K69_15) K69_4
abbrev B_spec_l1Format:C:=.seq (.pl <| .e 4 0 <|
 .o (.pnew 1 (.v 0) []) <|
 .x 2 (.mv (.c (.string ⟨#[]⟩))) .done) K69_16
def R_spec_l1Format:FIR:=⟨B_spec_l1Format,4,[(2,none)]⟩
theorem IR_spec_l1Format:cfun Tryz.prog H_spec_l1Format Tryz.f69=some R_spec_l1Format:=by kernel_rfl
theorem EN_spec_l1Format:ENT Tryz.prog B_spec_l1Format [(2,none)] 1 4 fn_spec_l1Format:=fun hargs hw=>enter Tryz.func69 rfl IR_spec_l1Format hargs hw
def H_spec_l1Parse:Hint:=⟨[(0,false),(1,false),(2,false),(6,true),(7,false),(8,false),(9,true),(10,false),(11,true),(12,false),(13,true),(14,false),(15,false)],[[1,2,4,5,6,7]]⟩
abbrev K76_1:C:=.seq (.pl <| .e 13 1 <|
 .x 13 (.build [.int .i64 0,.int .i64 0,.slice none 0 0] []) <|
 .o (.pset none 3 0 3 (.v 13)) <|
 .x 4 (.mv (.c (.int .i64 (-1)))) .done) (.ret)
abbrev K76_2:C:=.pl <| .e 13 2 <|
 .m 13 12 <|
 .x 14 (.bin .add (.v 13) (.c (.int .i64 1))) <|
 .m 12 14 .done
abbrev K76_3:Pl:=.x 17 (.build [.int .i64 0,.int .i64 0,.slice none 0 0] [(0,1,.v 13),(2,1,.v 16)]) <|
 .m 18 11 <|
 .x 19 (.bin .add (.v 18) (.c (.int .i64 1))) <|
 .o (.pset none 3 0 3 (.v 17)) <|
 .m 4 19 .done
abbrev K76_4:C:=.seq (.pl <| .e 13 7 <|
 .m 13 12 <|
 .o (.pget (some 14) none 8 0 (some 3)) <|
 .o (.pget (some 15) none 10 0 (some 3)) <|
 .c 16 (.bls 3 2 [.int .i64 0,.int .i64 0,.slice none 0 0] [(0,3,.v 14),(3,3,.v 15)]) K76_3) (.ret)
abbrev K76_5:C:=.cond 13 (.v 20) K76_4 (.skip)
abbrev K76_6:Pl:=.x 20 (.bin .eql (.v 14) (.v 19)) .done
abbrev K76_7:C:=.seq (.block 2 (.seq (.pl <| .e 13 8 <|
 .m 13 12 <|
 .m 15 0 <|
 .m 16 9 <|
 .m 17 9 <|
 .x 18 (.bin .add (.v 17) (.c (.int .i64 1))) <|
 .x 19 (.sliceS (.v 15) (some (.v 16)) (some (.v 18))) <|
 .c 14 (.call fn_spec_l1Sign [.v 13]) K76_6) K76_5)) K76_2
abbrev K76_8:C:=.cond 13 (.v 14) (.skip) (.exit 1)
abbrev K76_9:C:=.seq (.seq (.pl <| .e 13 2 <|
 .m 13 12 <|
 .x 14 (.bin .leq (.v 13) (.c (.int .i64 9))) .done) K76_8) K76_7
abbrev K76_10:C:=.block 1 (.loop 13 [1,2,4,5,6,7] K76_9)
abbrev K76_11:C:=.seq (.seq (.pl <| .e 13 0 <|
 .x 12 (.mv (.c (.int .i64 4))) .done) K76_10) K76_1
abbrev K76_12:C:=.seq (.pl <| .e 13 1 <|
 .x 13 (.build [.int .i64 0,.int .i64 0,.slice none 0 0] []) <|
 .o (.pset none 3 0 3 (.v 13)) <|
 .x 4 (.mv (.c (.int .i64 (-1)))) .done) (.ret)
abbrev K76_13:C:=.cond 13 (.v 26) K76_12 (.skip)
abbrev K76_14:C:=.seq (.seq (.pl <| .e 13 14 <|
 .m 13 11 <|
 .x 14 (.bin .lss (.v 13) (.c (.int .i64 0))) <|
 .m 15 14 <|
 .n 15 (.px (some 16) (.mv (.v 11))) <|
 .n 15 (.px (some 17) (.mv (.v 0))) <|
 .n 15 (.px (some 18) (.lenS (.v 17))) <|
 .n 15 (.px (some 19) (.bin .geq (.v 16) (.v 18))) <|
 .x 20 (.pick (.v 15) (.c (.bool true)) (.v 19)) <|
 .m 21 20 <|
 .n 21 (.px (some 22) (.mv (.v 0))) <|
 .n 21 (.px (some 23) (.mv (.v 11))) <|
 .n 21 (.px (some 24) (.idxS (.v 22) (.v 23))) <|
 .n 21 (.px (some 25) (.bin .neq (.v 24) (.c (.int .u8 41)))) <|
 .x 26 (.pick (.v 21) (.c (.bool true)) (.v 25)) .done) K76_13) K76_11
abbrev K76_15:Pl:=.m 19 18 <|
 .x 20 (.extract 0 (.v 19)) <|
 .x 21 (.extract 1 (.v 19)) <|
 .o (.pnew 10 (.c (.agg #[.int .i64 0,.int .i64 0,.slice none 0 0])) []) <|
 .o (.pset none 10 0 3 (.v 20)) <|
 .m 11 21 .done
abbrev K76_16:C:=.seq (.pl <| .e 13 9 <|
 .m 13 0 <|
 .m 14 9 <|
 .x 15 (.bin .add (.v 14) (.c (.int .i64 1))) <|
 .m 16 2 <|
 .x 17 (.bin .sub (.v 16) (.c (.int .i64 1))) <|
 .c 18 (.call fn_spec_l1Parse [.v 13,.v 15,.v 17]) K76_15) K76_14
abbrev K76_17:C:=.seq (.pl <| .e 13 1 <|
 .x 13 (.build [.int .i64 0,.int .i64 0,.slice none 0 0] []) <|
 .o (.pset none 3 0 3 (.v 13)) <|
 .x 4 (.mv (.c (.int .i64 (-1)))) .done) (.ret)
abbrev K76_18:C:=.cond 13 (.v 20) K76_17 (.skip)
abbrev K76_19:C:=.seq (.seq (.pl <| .e 13 8 <|
 .m 13 9 <|
 .x 14 (.bin .lss (.v 13) (.c (.int .i64 0))) <|
 .m 15 14 <|
 .n 15 (.px (some 16) (.mv (.v 9))) <|
 .n 15 (.px (some 17) (.mv (.v 0))) <|
 .n 15 (.px (some 18) (.lenS (.v 17))) <|
 .n 15 (.px (some 19) (.bin .geq (.v 16) (.v 18))) <|
 .x 20 (.pick (.v 15) (.c (.bool true)) (.v 19)) .done) K76_18) K76_16
abbrev K76_20:Pl:=.m 19 18 <|
 .x 20 (.extract 0 (.v 19)) <|
 .x 21 (.extract 1 (.v 19)) <|
 .o (.pnew 8 (.c (.agg #[.int .i64 0,.int .i64 0,.slice none 0 0])) []) <|
 .o (.pset none 8 0 3 (.v 20)) <|
 .m 9 21 .done
abbrev K76_21:C:=.seq (.pl <| .e 13 9 <|
 .m 13 0 <|
 .m 14 1 <|
 .x 15 (.bin .add (.v 14) (.c (.int .i64 1))) <|
 .m 16 2 <|
 .x 17 (.bin .sub (.v 16) (.c (.int .i64 1))) <|
 .c 18 (.call fn_spec_l1Parse [.v 13,.v 15,.v 17]) K76_20) K76_19
abbrev K76_22:C:=.seq (.pl <| .e 13 6 <|
 .m 13 5 <|
 .x 14 (.conv .i64 (.v 13)) <|
 .x 15 (.bin .sub (.v 14) (.c (.int .i64 48))) <|
 .x 16 (.build [.int .i64 0,.int .i64 0,.slice none 0 0] [(0,1,.c (.int .i64 1)),(1,1,.v 15)]) <|
 .m 17 1 <|
 .x 18 (.bin .add (.v 17) (.c (.int .i64 1))) <|
 .o (.pset none 3 0 3 (.v 16)) <|
 .m 4 18 .done) (.ret)
abbrev K76_23:C:=.seq (.pl <| .e 13 6 <|
 .m 13 5 <|
 .x 14 (.conv .i64 (.v 13)) <|
 .x 15 (.bin .sub (.v 14) (.c (.int .i64 120))) <|
 .x 16 (.build [.int .i64 0,.int .i64 0,.slice none 0 0] [(0,1,.c (.int .i64 2)),(1,1,.v 15)]) <|
 .m 17 1 <|
 .x 18 (.bin .add (.v 17) (.c (.int .i64 1))) <|
 .o (.pset none 3 0 3 (.v 16)) <|
 .m 4 18 .done) (.ret)
abbrev K76_24:Pl:=.x 15 (.build [.int .i64 0,.int .i64 0,.slice none 0 0] [(0,1,.c (.int .i64 3)),(2,1,.v 14)]) <|
 .m 16 7 <|
 .o (.pset none 3 0 3 (.v 15)) <|
 .m 4 16 .done
abbrev K76_25:C:=.seq (.pl <| .e 13 4 <|
 .o (.pget (some 13) none 6 0 (some 3)) <|
 .c 14 (.bls 3 1 [.int .i64 0,.int .i64 0,.slice none 0 0] [(0,3,.v 13)]) K76_24) (.ret)
abbrev K76_26:Pl:=.m 19 18 <|
 .x 20 (.extract 0 (.v 19)) <|
 .x 21 (.extract 1 (.v 19)) <|
 .o (.pnew 6 (.c (.agg #[.int .i64 0,.int .i64 0,.slice none 0 0])) []) <|
 .o (.pset none 6 0 3 (.v 20)) <|
 .m 7 21 .done
abbrev K76_27:C:=.seq (.pl <| .e 13 9 <|
 .m 13 0 <|
 .m 14 1 <|
 .x 15 (.bin .add (.v 14) (.c (.int .i64 1))) <|
 .m 16 2 <|
 .x 17 (.bin .sub (.v 16) (.c (.int .i64 1))) <|
 .c 18 (.call fn_spec_l1Parse [.v 13,.v 15,.v 17]) K76_26) K76_25
abbrev K76_28:C:=.seq (.pl <| .e 13 1 <|
 .x 13 (.build [.int .i64 0,.int .i64 0,.slice none 0 0] []) <|
 .o (.pset none 3 0 3 (.v 13)) <|
 .x 4 (.mv (.c (.int .i64 (-1)))) .done) (.ret)
abbrev K76_29:C:=.cond 13 (.v 15) K76_28 (.skip)
abbrev K76_30:C:=.seq (.pl <| .e 13 3 <|
 .m 13 5 <|
 .x 14 (.bin .neq (.v 13) (.c (.int .u8 40))) <|
 .m 15 14 .done) K76_29
abbrev K76_31:C:=.cond 13 (.v 15) K76_27 K76_30
abbrev K76_32:C:=.seq (.pl <| .e 13 3 <|
 .m 13 5 <|
 .x 14 (.bin .eql (.v 13) (.c (.int .u8 33))) <|
 .m 15 14 .done) K76_31
abbrev K76_33:C:=.cond 13 (.v 19) K76_23 K76_32
abbrev K76_34:C:=.seq (.pl <| .e 13 7 <|
 .m 13 5 <|
 .x 14 (.bin .geq (.v 13) (.c (.int .u8 120))) <|
 .m 15 14 <|
 .y 15 (.px (some 16) (.mv (.v 5))) <|
 .y 15 (.px (some 17) (.bin .leq (.v 16) (.c (.int .u8 122)))) <|
 .x 18 (.pick (.v 15) (.v 17) (.c (.bool false))) <|
 .m 19 18 .done) K76_33
abbrev K76_35:C:=.cond 13 (.v 19) K76_22 K76_34
abbrev K76_36:C:=.seq (.block 0 (.seq (.pl <| .e 13 7 <|
 .m 13 5 <|
 .x 14 (.bin .geq (.v 13) (.c (.int .u8 48))) <|
 .m 15 14 <|
 .y 15 (.px (some 16) (.mv (.v 5))) <|
 .y 15 (.px (some 17) (.bin .leq (.v 16) (.c (.int .u8 57)))) <|
 .x 18 (.pick (.v 15) (.v 17) (.c (.bool false))) <|
 .m 19 18 .done) K76_35)) K76_21
abbrev K76_37:C:=.seq (.pl <| .e 13 3 <|
 .m 13 0 <|
 .m 14 1 <|
 .x 15 (.idxS (.v 13) (.v 14)) <|
 .m 5 15 .done) K76_36
abbrev K76_38:C:=.seq (.pl <| .e 13 1 <|
 .x 13 (.build [.int .i64 0,.int .i64 0,.slice none 0 0] []) <|
 .o (.pset none 3 0 3 (.v 13)) <|
 .x 4 (.mv (.c (.int .i64 (-1)))) .done) (.ret)
abbrev K76_39:C:=.cond 13 (.v 20) K76_38 (.skip)
abbrev K76_40:C:=.seq (.seq (.pl <| .e 13 8 <|
 .m 13 2 <|
 .x 14 (.bin .lss (.v 13) (.c (.int .i64 1))) <|
 .m 15 14 <|
 .n 15 (.px (some 16) (.mv (.v 1))) <|
 .n 15 (.px (some 17) (.mv (.v 0))) <|
 .n 15 (.px (some 18) (.lenS (.v 17))) <|
 .n 15 (.px (some 19) (.bin .geq (.v 16) (.v 18))) <|
 .x 20 (.pick (.v 15) (.c (.bool true)) (.v 19)) .done) K76_39) K76_37
abbrev B_spec_l1Parse:C:=.seq (.pl <| .e 13 0 <|
 .o (.pnew 3 (.c (.agg #[.int .i64 0,.int .i64 0,.slice none 0 0])) []) <|
 .x 4 (.mv (.c (.int .i64 0))) .done) K76_40
def R_spec_l1Parse:FIR:=⟨B_spec_l1Parse,13,[(3,some (some 3)),(4,none)]⟩
theorem IR_spec_l1Parse:cfun Tryz.prog H_spec_l1Parse Tryz.f76=some R_spec_l1Parse:=by kernel_rfl
theorem EN_spec_l1Parse:ENT Tryz.prog B_spec_l1Parse [(3,some (some 3)),(4,none)] 3 13 fn_spec_l1Parse:=fun hargs hw=>enter Tryz.func76 rfl IR_spec_l1Parse hargs hw
def H_spec_l1Shape:Hint:=⟨[(0,false),(1,false),(2,true),(4,false),(5,false),(6,false),(19,false)],[[0,3,4,6]]⟩
abbrev K131_1:C:=.seq (.pl <| .e 7 0 <|
 .x 3 (.mv (.c (.bool true))) .done) (.ret)
abbrev K131_2:C:=.pl <| .e 7 2 <|
 .m 7 5 <|
 .x 8 (.bin .add (.v 7) (.c (.int .i64 1))) <|
 .m 5 8 .done
abbrev K131_3:C:=.seq (.pl <| .e 7 0 <|
 .x 3 (.mv (.c (.bool false))) .done) (.ret)
abbrev K131_4:C:=.cond 7 (.v 15) K131_3 (.skip)
abbrev K131_5:Pl:=.x 15 (.un .not (.v 14)) .done
abbrev K131_6:C:=.seq (.block 2 (.seq (.pl <| .e 7 9 <|
 .a 7 2 <|
 .g 8 7 2 2 <|
 .m 9 5 <|
 .x 10 (.ia 3 (.v 8) (.v 9)) <|
 .o (.ld (some 11) (.v 10) (some 3)) <|
 .m 12 1 <|
 .x 13 (.bin .sub (.v 12) (.c (.int .i64 1))) <|
 .c 14 (.call fn_spec_l1Shape [.v 11,.v 13]) K131_5) K131_4)) K131_2
abbrev K131_7:C:=.cond 7 (.v 11) (.skip) (.exit 1)
abbrev K131_8:C:=.seq (.seq (.pl <| .e 7 5 <|
 .m 7 5 <|
 .a 8 2 <|
 .g 9 8 2 2 <|
 .x 10 (.lenV (.v 9)) <|
 .x 11 (.bin .lss (.v 7) (.v 10)) .done) K131_7) K131_6
abbrev K131_9:C:=.block 1 (.loop 7 [0,3,4,6] K131_8)
abbrev K131_10:C:=.seq (.seq (.pl <| .e 7 0 <|
 .x 5 (.mv (.c (.int .i64 0))) .done) K131_9) K131_1
abbrev K131_11:C:=.seq (.pl <| .e 7 0 <|
 .x 3 (.mv (.c (.bool false))) .done) (.ret)
abbrev K131_12:C:=.cond 7 (.v 15) K131_11 (.skip)
abbrev K131_13:C:=.seq (.seq (.pl <| .e 7 9 <|
 .a 7 2 <|
 .g 8 7 2 1 <|
 .x 9 (.bin .lss (.v 8) (.c (.int .i64 0))) <|
 .m 10 9 <|
 .n 10 (.als 11 none 2) <|
 .n 10 (.pget (some 12) (some 11) 2 1 none) <|
 .n 10 (.px (some 13) (.mv (.v 4))) <|
 .n 10 (.px (some 14) (.bin .gtr (.v 12) (.v 13))) <|
 .x 15 (.pick (.v 10) (.c (.bool true)) (.v 14)) .done) K131_12) K131_10
abbrev K131_14:C:=.pl <| .e 7 0 <|
 .x 4 (.mv (.c (.int .i64 3))) .done
abbrev K131_15:C:=.pl <| .e 7 0 <|
 .x 4 (.mv (.c (.int .i64 2))) .done
abbrev K131_16:C:=.cond 7 (.v 8) K131_15 (.skip)
abbrev K131_17:C:=.seq (.pl <| .e 7 2 <|
 .x 7 (.bin .eql (.v 6) (.c (.int .i64 2))) <|
 .m 8 7 .done) K131_16
abbrev K131_18:C:=.cond 7 (.v 8) K131_14 K131_17
abbrev K131_19:C:=.block 0 (.seq (.pl <| .e 7 2 <|
 .x 7 (.bin .eql (.v 6) (.c (.int .i64 1))) <|
 .m 8 7 .done) K131_18)
abbrev K131_20:C:=.seq (.seq (.pl <| .e 7 1 <|
 .a 7 2 <|
 .g 6 7 2 0 .done) K131_19) K131_13
abbrev K131_21:C:=.seq (.pl <| .e 7 0 <|
 .x 4 (.mv (.c (.int .i64 0))) .done) K131_20
abbrev K131_22:C:=.seq (.pl <| .e 7 0 <|
 .x 3 (.mv (.c (.bool false))) .done) (.ret)
abbrev K131_23:C:=.cond 7 (.v 17) K131_22 (.skip)
abbrev K131_24:Pl:=.n 9 (.px (some 16) (.bin .neq (.v 12) (.v 15))) <|
 .x 17 (.pick (.v 9) (.c (.bool true)) (.v 16)) .done
abbrev K131_25:C:=.seq (.seq (.pl <| .e 7 11 <|
 .m 7 1 <|
 .x 8 (.bin .lss (.v 7) (.c (.int .i64 1))) <|
 .m 9 8 <|
 .n 9 (.als 10 none 2) <|
 .n 9 (.pget (some 11) (some 10) 2 2 none) <|
 .n 9 (.px (some 12) (.lenV (.v 11))) <|
 .n 9 (.als 13 none 2) <|
 .n 9 (.pget (some 14) (some 13) 2 0 none) <|
 .st (.act (some (.v 9,false)) (.ex (some 15) (.call fn_spec_l1Arity [.v 14]))) K131_24) K131_23) K131_21
abbrev B_spec_l1Shape:C:=.seq (.pl <| .e 7 0 <|
 .o (.pnew 2 (.v 0) []) <|
 .x 3 (.mv (.c (.bool false))) .done) K131_25
def R_spec_l1Shape:FIR:=⟨B_spec_l1Shape,7,[(3,none)]⟩
theorem IR_spec_l1Shape:cfun Tryz.prog H_spec_l1Shape Tryz.f131=some R_spec_l1Shape:=by kernel_rfl
theorem EN_spec_l1Shape:ENT Tryz.prog B_spec_l1Shape [(3,none)] 2 7 fn_spec_l1Shape:=fun hargs hw=>enter Tryz.func131 rfl IR_spec_l1Shape hargs hw
def H_spec_l1Sign:Hint:=⟨[(0,false),(2,false)],[]⟩
abbrev K105_1:C:=.seq (.pl <| .e 2 4 <|
 .m 2 0 <|
 .m 3 0 <|
 .x 4 (.bin .add (.v 3) (.c (.int .i64 1))) <|
 .x 5 (.sliceS (.c (.string ⟨#[32,32,32,32,38,124,61,60,43,45]⟩)) (some (.v 2)) (some (.v 4))) <|
 .m 1 5 .done) (.ret)
abbrev B_spec_l1Sign:C:=.seq (.pl <| .e 2 0 <|
 .x 1 (.mv (.c (.string ⟨#[]⟩))) .done) K105_1
def R_spec_l1Sign:FIR:=⟨B_spec_l1Sign,2,[(1,none)]⟩
theorem IR_spec_l1Sign:cfun Tryz.prog H_spec_l1Sign Tryz.f105=some R_spec_l1Sign:=by kernel_rfl
theorem EN_spec_l1Sign:ENT Tryz.prog B_spec_l1Sign [(1,none)] 1 2 fn_spec_l1Sign:=fun hargs hw=>enter Tryz.func105 rfl IR_spec_l1Sign hargs hw
def H_spec_l1Vals:Hint:=⟨[(0,false),(2,false),(3,false)],[[1]]⟩
abbrev K39_1:C:=.seq (.pl <| .e 3 3 <|
 .m 3 0 <|
 .x 4 (.lenV (.v 3)) <|
 .x 5 (.bin .eql (.v 4) (.c (.int .i64 3))) <|
 .m 1 5 .done) (.ret)
abbrev K39_2:C:=.pl <| .e 3 2 <|
 .m 3 2 <|
 .x 4 (.bin .add (.v 3) (.c (.int .i64 1))) <|
 .m 2 4 .done
abbrev K39_3:C:=.seq (.pl <| .e 3 0 <|
 .x 1 (.mv (.c (.bool false))) .done) (.ret)
abbrev K39_4:C:=.cond 3 (.v 14) K39_3 (.skip)
abbrev K39_5:C:=.seq (.block 1 (.seq (.pl <| .e 3 12 <|
 .m 3 0 <|
 .m 4 2 <|
 .x 5 (.ia 1 (.v 3) (.v 4)) <|
 .l 6 5 <|
 .x 7 (.bin .lss (.v 6) (.c (.int .i64 0))) <|
 .m 8 7 <|
 .n 8 (.px (some 9) (.mv (.v 0))) <|
 .n 8 (.px (some 10) (.mv (.v 2))) <|
 .n 8 (.px (some 11) (.ia 1 (.v 9) (.v 10))) <|
 .n 8 (.ld (some 12) (.v 11) none) <|
 .n 8 (.px (some 13) (.bin .gtr (.v 12) (.c (.int .i64 3)))) <|
 .x 14 (.pick (.v 8) (.c (.bool true)) (.v 13)) .done) K39_4)) K39_2
abbrev K39_6:C:=.cond 3 (.v 6) (.skip) (.exit 0)
abbrev K39_7:C:=.seq (.seq (.pl <| .e 3 4 <|
 .m 3 2 <|
 .m 4 0 <|
 .x 5 (.lenV (.v 4)) <|
 .x 6 (.bin .lss (.v 3) (.v 5)) .done) K39_6) K39_5
abbrev K39_8:C:=.block 0 (.loop 3 [1] K39_7)
abbrev K39_9:C:=.seq (.seq (.pl <| .e 3 0 <|
 .x 2 (.mv (.c (.int .i64 0))) .done) K39_8) K39_1
abbrev B_spec_l1Vals:C:=.seq (.pl <| .e 3 0 <|
 .x 1 (.mv (.c (.bool false))) .done) K39_9
def R_spec_l1Vals:FIR:=⟨B_spec_l1Vals,3,[(1,none)]⟩
theorem IR_spec_l1Vals:cfun Tryz.prog H_spec_l1Vals Tryz.f39=some R_spec_l1Vals:=by kernel_rfl
theorem EN_spec_l1Vals:ENT Tryz.prog B_spec_l1Vals [(1,none)] 1 3 fn_spec_l1Vals:=fun hargs hw=>enter Tryz.func39 rfl IR_spec_l1Vals hargs hw
def H_spec_l2Line:Hint:=⟨[(0,false),(1,true),(2,false),(3,false)],[]⟩
abbrev K37_1:C:=.seq (.pl <| .e 4 2 <|
 .m 4 3 <|
 .x 5 (.bin .add (.v 4) (.c (.string ⟨#[32,45,10]⟩))) <|
 .m 2 5 .done) (.ret)
abbrev K37_2:Pl:=.x 9 (.bin .add (.v 5) (.v 8)) <|
 .x 10 (.bin .add (.v 9) (.c (.string ⟨#[10]⟩))) <|
 .m 2 10 .done
abbrev K37_3:C:=.seq (.pl <| .e 4 7 <|
 .m 4 3 <|
 .x 5 (.bin .add (.v 4) (.c (.string ⟨#[32,33]⟩))) <|
 .a 6 1 <|
 .g 7 6 1 9 <|
 .c 8 (.call fn_spec_l16Dec [.v 7]) K37_2) (.ret)
abbrev K37_4:C:=.cond 4 (.v 6) K37_3 (.skip)
abbrev K37_5:C:=.seq (.seq (.pl <| .e 4 3 <|
 .a 4 1 <|
 .g 5 4 1 9 <|
 .x 6 (.bin .gtr (.v 5) (.c (.int .i64 0))) .done) K37_4) K37_1
abbrev K37_6:Pl:=.x 10 (.bin .add (.v 5) (.v 9)) <|
 .x 11 (.bin .add (.v 10) (.c (.string ⟨#[10]⟩))) <|
 .m 2 11 .done
abbrev K37_7:C:=.seq (.pl <| .e 4 8 <|
 .m 4 3 <|
 .x 5 (.bin .add (.v 4) (.c (.string ⟨#[32,63]⟩))) <|
 .a 6 1 <|
 .g 7 6 1 9 <|
 .x 8 (.un .neg (.v 7)) <|
 .c 9 (.call fn_spec_l16Dec [.v 8]) K37_6) (.ret)
abbrev K37_8:C:=.cond 4 (.v 6) K37_7 (.skip)
abbrev K37_9:C:=.seq (.seq (.pl <| .e 4 3 <|
 .a 4 1 <|
 .g 5 4 1 9 <|
 .x 6 (.bin .lss (.v 5) (.c (.int .i64 0))) .done) K37_8) K37_5
abbrev K37_10:C:=.pl <| .e 4 2 <|
 .m 4 3 <|
 .x 5 (.bin .add (.v 4) (.c (.string ⟨#[45]⟩))) <|
 .m 3 5 .done
abbrev K37_11:Pl:=.x 16 (.bin .add (.v 12) (.v 15)) <|
 .m 3 16 .done
abbrev K37_12:C:=.pl <| .e 4 13 <|
 .m 4 3 <|
 .a 5 1 <|
 .g 6 5 1 5 <|
 .a 7 1 <|
 .g 8 7 1 5 <|
 .x 9 (.bin .add (.v 8) (.c (.int .i64 1))) <|
 .x 10 (.sliceS (.c (.string ⟨#[120,121,122]⟩)) (some (.v 6)) (some (.v 9))) <|
 .x 11 (.bin .add (.v 4) (.v 10)) <|
 .x 12 (.bin .add (.v 11) (.c (.string ⟨#[58,61]⟩))) <|
 .a 13 1 <|
 .o (.pget (some 14) (some 13) 1 6 (some 3)) <|
 .c 15 (.call fn_spec_l1Format [.v 14]) K37_11
abbrev K37_13:C:=.cond 4 (.v 6) K37_10 K37_12
abbrev K37_14:C:=.seq (.seq (.pl <| .e 4 3 <|
 .a 4 1 <|
 .g 5 4 1 5 <|
 .x 6 (.bin .lss (.v 5) (.c (.int .i64 0))) .done) K37_13) K37_9
abbrev K37_15:Pl:=.x 17 (.bin .add (.v 13) (.v 16)) <|
 .x 18 (.bin .add (.v 17) (.c (.string ⟨#[32]⟩))) <|
 .m 3 18 .done
abbrev K37_16:Pl:=.x 12 (.bin .add (.v 8) (.v 11)) <|
 .x 13 (.bin .add (.v 12) (.c (.string ⟨#[32]⟩))) <|
 .c 16 (.call fn_spec_l1Format [.v 15]) K37_15
abbrev K37_17:Pl:=.x 7 (.bin .add (.c (.string ⟨#[101,100,103,101,32]⟩)) (.v 6)) <|
 .x 8 (.bin .add (.v 7) (.c (.string ⟨#[32]⟩))) <|
 .c 11 (.call fn_spec_l16Dec [.v 10]) K37_16
abbrev K37_18:C:=.seq (.pl <| .e 4 15 <|
 .a 4 1 <|
 .g 5 4 1 0 <|
 .a 9 1 <|
 .g 10 9 1 1 <|
 .a 14 1 <|
 .o (.pget (some 15) (some 14) 1 2 (some 3)) <|
 .c 6 (.call fn_spec_l16Dec [.v 5]) K37_17) K37_14
abbrev B_spec_l2Line:C:=.seq (.pl <| .e 4 0 <|
 .o (.pnew 1 (.v 0) []) <|
 .x 2 (.mv (.c (.string ⟨#[]⟩))) .done) K37_18
def R_spec_l2Line:FIR:=⟨B_spec_l2Line,4,[(2,none)]⟩
theorem IR_spec_l2Line:cfun Tryz.prog H_spec_l2Line Tryz.f37=some R_spec_l2Line:=by kernel_rfl
theorem EN_spec_l2Line:ENT Tryz.prog B_spec_l2Line [(2,none)] 1 4 fn_spec_l2Line:=fun hargs hw=>enter Tryz.func37 rfl IR_spec_l2Line hargs hw
def H_spec_l2None:Hint:=⟨[(0,false),(1,true),(2,false)],[]⟩
abbrev K107_1:C:=.seq (.pl <| .e 3 14 <|
 .a 3 1 <|
 .g 4 3 1 0 <|
 .x 5 (.bin .eql (.v 4) (.c (.int .i64 0))) <|
 .m 6 5 <|
 .y 6 (.als 7 none 1) <|
 .y 6 (.pget (some 8) (some 7) 1 1 none) <|
 .y 6 (.px (some 9) (.bin .eql (.v 8) (.c (.int .i64 0)))) <|
 .x 10 (.pick (.v 6) (.v 9) (.c (.bool false))) <|
 .m 11 10 <|
 .y 11 (.als 12 none 1) <|
 .y 11 (.pget (some 13) (some 12) 1 2 none) <|
 .y 11 (.px (some 14) (.lenV (.v 13))) <|
 .y 11 (.px (some 15) (.bin .eql (.v 14) (.c (.int .i64 0)))) <|
 .x 16 (.pick (.v 11) (.v 15) (.c (.bool false))) <|
 .m 2 16 .done) (.ret)
abbrev B_spec_l2None:C:=.seq (.pl <| .e 3 0 <|
 .o (.pnew 1 (.v 0) []) <|
 .x 2 (.mv (.c (.bool false))) .done) K107_1
def R_spec_l2None:FIR:=⟨B_spec_l2None,3,[(2,none)]⟩
theorem IR_spec_l2None:cfun Tryz.prog H_spec_l2None Tryz.f107=some R_spec_l2None:=by kernel_rfl
theorem EN_spec_l2None:ENT Tryz.prog B_spec_l2None [(2,none)] 1 3 fn_spec_l2None:=fun hargs hw=>enter Tryz.func107 rfl IR_spec_l2None hargs hw
def H_spec_l2Process:Hint:=⟨[(0,false),(1,true),(2,false),(3,false)],[[0,2]]⟩
abbrev K38_1:C:=.seq (.pl <| .e 4 14 <|
 .a 4 1 <|
 .g 5 4 1 0 <|
 .x 6 (.bin .geq (.v 5) (.c (.int .i64 1))) <|
 .m 7 6 <|
 .y 7 (.als 8 none 1) <|
 .y 7 (.pget (some 9) (some 8) 1 0 none) <|
 .y 7 (.px (some 10) (.bin .leq (.v 9) (.c (.int .i64 4)))) <|
 .x 11 (.pick (.v 7) (.v 10) (.c (.bool false))) <|
 .m 12 11 <|
 .y 12 (.als 13 none 1) <|
 .y 12 (.pget (some 14) (some 13) 1 1 none) <|
 .y 12 (.px (some 15) (.lenV (.v 14))) <|
 .y 12 (.px (some 16) (.bin .leq (.v 15) (.c (.int .i64 6)))) <|
 .x 17 (.pick (.v 12) (.v 16) (.c (.bool false))) <|
 .m 2 17 .done) (.ret)
abbrev K38_2:C:=.pl <| .e 4 2 <|
 .m 4 3 <|
 .x 5 (.bin .add (.v 4) (.c (.int .i64 1))) <|
 .m 3 5 .done
abbrev K38_3:C:=.seq (.pl <| .e 4 0 <|
 .x 2 (.mv (.c (.bool false))) .done) (.ret)
abbrev K38_4:C:=.cond 4 (.v 12) K38_3 (.skip)
abbrev K38_5:Pl:=.x 12 (.un .not (.v 11)) .done
abbrev K38_6:C:=.seq (.block 1 (.seq (.pl <| .e 4 9 <|
 .a 4 1 <|
 .g 5 4 1 1 <|
 .m 6 3 <|
 .x 7 (.ia 10 (.v 5) (.v 6)) <|
 .o (.ld (some 8) (.v 7) (some 10)) <|
 .a 9 1 <|
 .g 10 9 1 0 <|
 .c 11 (.call fn_spec_EdgeValid [.v 8,.v 10]) K38_5) K38_4)) K38_2
abbrev K38_7:C:=.cond 4 (.v 8) (.skip) (.exit 0)
abbrev K38_8:C:=.seq (.seq (.pl <| .e 4 5 <|
 .m 4 3 <|
 .a 5 1 <|
 .g 6 5 1 1 <|
 .x 7 (.lenV (.v 6)) <|
 .x 8 (.bin .lss (.v 4) (.v 7)) .done) K38_7) K38_6
abbrev K38_9:C:=.block 0 (.loop 4 [0,2] K38_8)
abbrev K38_10:C:=.seq (.seq (.pl <| .e 4 0 <|
 .x 3 (.mv (.c (.int .i64 0))) .done) K38_9) K38_1
abbrev B_spec_l2Process:C:=.seq (.pl <| .e 4 0 <|
 .o (.pnew 1 (.v 0) []) <|
 .x 2 (.mv (.c (.bool false))) .done) K38_10
def R_spec_l2Process:FIR:=⟨B_spec_l2Process,4,[(2,none)]⟩
theorem IR_spec_l2Process:cfun Tryz.prog H_spec_l2Process Tryz.f38=some R_spec_l2Process:=by kernel_rfl
theorem EN_spec_l2Process:ENT Tryz.prog B_spec_l2Process [(2,none)] 1 4 fn_spec_l2Process:=fun hargs hw=>enter Tryz.func38 rfl IR_spec_l2Process hargs hw
def H_spec_l2ScanEdge:Hint:=⟨[(0,false),(2,true),(3,true)],[]⟩
abbrev K18_1:C:=.seq (.pl <| .e 3 1 <|
 .o (.pget (some 3) none 2 0 (some 10)) <|
 .o (.pset none 1 0 10 (.v 3)) .done) (.ret)
abbrev K18_2:C:=.pl <| .e 3 4 <|
 .a 3 2 <|
 .g 4 3 2 9 <|
 .x 5 (.un .neg (.v 4)) <|
 .a 6 2 <|
 .o (.pset (some 6) 2 9 1 (.v 5)) .done
abbrev K18_3:C:=.cond 3 (.v 7) K18_2 (.skip)
abbrev K18_4:C:=.seq (.pl <| .e 3 5 <|
 .m 3 0 <|
 .x 4 (.ia 1 (.v 3) (.c (.int .i64 5))) <|
 .l 5 4 <|
 .x 6 (.idxS (.v 5) (.c (.int .i64 0))) <|
 .x 7 (.bin .eql (.v 6) (.c (.int .u8 63))) .done) K18_3
abbrev K18_5:Pl:=.m 8 7 <|
 .x 9 (.extract 0 (.v 8)) <|
 .x 10 (.extract 1 (.v 8)) <|
 .a 11 2 <|
 .o (.pset (some 11) 2 9 1 (.v 9)) .done
abbrev K18_6:C:=.seq (.pl <| .e 3 9 <|
 .m 3 0 <|
 .x 4 (.ia 1 (.v 3) (.c (.int .i64 5))) <|
 .l 5 4 <|
 .x 6 (.sliceS (.v 5) (some (.c (.int .i64 1))) none) <|
 .c 7 (.call fn_spec_l16Num [.v 6]) K18_5) K18_4
abbrev K18_7:C:=.cond 3 (.v 7) K18_6 (.skip)
abbrev K18_8:C:=.seq (.seq (.pl <| .e 3 5 <|
 .m 3 0 <|
 .x 4 (.ia 1 (.v 3) (.c (.int .i64 5))) <|
 .l 5 4 <|
 .x 6 (.lenS (.v 5)) <|
 .x 7 (.bin .eql (.v 6) (.c (.int .i64 2))) .done) K18_7) K18_1
abbrev K18_9:Pl:=.m 8 7 <|
 .x 9 (.extract 0 (.v 8)) <|
 .x 10 (.extract 1 (.v 8)) <|
 .a 11 2 <|
 .o (.pset (some 11) 2 6 3 (.v 9)) .done
abbrev K18_10:C:=.pl <| .e 3 9 <|
 .m 3 0 <|
 .x 4 (.ia 1 (.v 3) (.c (.int .i64 4))) <|
 .l 5 4 <|
 .x 6 (.sliceS (.v 5) (some (.c (.int .i64 3))) none) <|
 .c 7 (.call fn_spec_ParseExpr [.v 6]) K18_9
abbrev K18_11:C:=.seq (.pl <| .e 3 7 <|
 .m 3 0 <|
 .x 4 (.ia 1 (.v 3) (.c (.int .i64 4))) <|
 .l 5 4 <|
 .x 6 (.idxS (.v 5) (.c (.int .i64 0))) <|
 .x 7 (.conv .i64 (.v 6)) <|
 .x 8 (.bin .sub (.v 7) (.c (.int .i64 120))) <|
 .a 9 2 <|
 .o (.pset (some 9) 2 5 1 (.v 8)) .done) K18_10
abbrev K18_12:C:=.cond 3 (.v 21) K18_11 (.skip)
abbrev K18_13:C:=.seq (.seq (.pl <| .e 3 19 <|
 .m 3 0 <|
 .x 4 (.ia 1 (.v 3) (.c (.int .i64 4))) <|
 .l 5 4 <|
 .x 6 (.lenS (.v 5)) <|
 .x 7 (.bin .gtr (.v 6) (.c (.int .i64 3))) <|
 .m 8 7 <|
 .y 8 (.px (some 9) (.mv (.v 0))) <|
 .y 8 (.px (some 10) (.ia 1 (.v 9) (.c (.int .i64 4)))) <|
 .y 8 (.ld (some 11) (.v 10) none) <|
 .y 8 (.px (some 12) (.idxS (.v 11) (.c (.int .i64 0)))) <|
 .y 8 (.px (some 13) (.bin .geq (.v 12) (.c (.int .u8 120)))) <|
 .x 14 (.pick (.v 8) (.v 13) (.c (.bool false))) <|
 .m 15 14 <|
 .y 15 (.px (some 16) (.mv (.v 0))) <|
 .y 15 (.px (some 17) (.ia 1 (.v 16) (.c (.int .i64 4)))) <|
 .y 15 (.ld (some 18) (.v 17) none) <|
 .y 15 (.px (some 19) (.idxS (.v 18) (.c (.int .i64 0)))) <|
 .y 15 (.px (some 20) (.bin .leq (.v 19) (.c (.int .u8 122)))) <|
 .x 21 (.pick (.v 15) (.v 20) (.c (.bool false))) .done) K18_12) K18_8
abbrev K18_14:Pl:=.m 7 6 <|
 .x 8 (.extract 0 (.v 7)) <|
 .x 9 (.extract 1 (.v 7)) <|
 .a 10 2 <|
 .o (.pset (some 10) 2 2 3 (.v 8)) .done
abbrev K18_15:C:=.seq (.pl <| .e 3 8 <|
 .m 3 0 <|
 .x 4 (.ia 1 (.v 3) (.c (.int .i64 3))) <|
 .l 5 4 <|
 .c 6 (.call fn_spec_ParseExpr [.v 5]) K18_14) K18_13
abbrev K18_16:Pl:=.m 7 6 <|
 .x 8 (.extract 0 (.v 7)) <|
 .x 9 (.extract 1 (.v 7)) <|
 .a 10 2 <|
 .o (.pset (some 10) 2 1 1 (.v 8)) .done
abbrev K18_17:C:=.seq (.pl <| .e 3 8 <|
 .m 3 0 <|
 .x 4 (.ia 1 (.v 3) (.c (.int .i64 2))) <|
 .l 5 4 <|
 .c 6 (.call fn_spec_l16Num [.v 5]) K18_16) K18_15
abbrev K18_18:Pl:=.m 7 6 <|
 .x 8 (.extract 0 (.v 7)) <|
 .x 9 (.extract 1 (.v 7)) <|
 .a 10 2 <|
 .o (.pset (some 10) 2 0 1 (.v 8)) .done
abbrev K18_19:C:=.seq (.pl <| .e 3 8 <|
 .m 3 0 <|
 .x 4 (.ia 1 (.v 3) (.c (.int .i64 1))) <|
 .l 5 4 <|
 .c 6 (.call fn_spec_l16Num [.v 5]) K18_18) K18_17
abbrev K18_20:C:=.seq (.pl <| .e 3 1 <|
 .x 3 (.build [.int .i64 0,.int .i64 0,.int .i64 0,.int .i64 0,.slice none 0 0,.int .i64 0,.int .i64 0,.int .i64 0,.slice none 0 0,.int .i64 0] [(5,1,.c (.int .i64 (-1)))]) <|
 .o (.pnew 2 (.c (.agg #[.int .i64 0,.int .i64 0,.int .i64 0,.int .i64 0,.slice none 0 0,.int .i64 0,.int .i64 0,.int .i64 0,.slice none 0 0,.int .i64 0])) []) <|
 .o (.pset none 2 0 10 (.v 3)) .done) K18_19
abbrev B_spec_l2ScanEdge:C:=.seq (.pl <| .e 3 0 <|
 .o (.pnew 1 (.c (.agg #[.int .i64 0,.int .i64 0,.int .i64 0,.int .i64 0,.slice none 0 0,.int .i64 0,.int .i64 0,.int .i64 0,.slice none 0 0,.int .i64 0])) []) .done) K18_20
def R_spec_l2ScanEdge:FIR:=⟨B_spec_l2ScanEdge,3,[(1,some (some 10))]⟩
theorem IR_spec_l2ScanEdge:cfun Tryz.prog H_spec_l2ScanEdge Tryz.f18=some R_spec_l2ScanEdge:=by kernel_rfl
theorem EN_spec_l2ScanEdge:ENT Tryz.prog B_spec_l2ScanEdge [(1,some (some 10))] 1 3 fn_spec_l2ScanEdge:=fun hargs hw=>enter Tryz.func18 rfl IR_spec_l2ScanEdge hargs hw
def H_strconv_Itoa:Hint:=⟨[(0,false),(2,false)],[]⟩
abbrev K33_1:Pl:=.m 1 3 .done
abbrev K33_2:C:=.seq (.pl <| .e 2 2 <|
 .m 2 0 <|
 .c 3 (.call fn_internal_strconv_Itoa [.v 2]) K33_1) (.ret)
abbrev B_strconv_Itoa:C:=.seq (.pl <| .e 2 0 <|
 .x 1 (.mv (.c (.string ⟨#[]⟩))) .done) K33_2
def R_strconv_Itoa:FIR:=⟨B_strconv_Itoa,2,[(1,none)]⟩
theorem IR_strconv_Itoa:cfun Tryz.prog H_strconv_Itoa Tryz.f33=some R_strconv_Itoa:=by kernel_rfl
theorem EN_strconv_Itoa:ENT Tryz.prog B_strconv_Itoa [(1,none)] 1 2 fn_strconv_Itoa:=fun hargs hw=>enter Tryz.func33 rfl IR_strconv_Itoa hargs hw
def H_impl_EdgeValid:Hint:=⟨[(0,false),(1,false),(2,true),(4,false)],[]⟩
abbrev K58_1:Pl:=.x 55 (.pick (.v 51) (.v 54) (.c (.bool false))) <|
 .m 3 55 .done
abbrev K58_2:Pl:=.n 39 (.px (some 48) (.pick (.v 43) (.v 47) (.c (.bool false)))) <|
 .y 30 (.px (some 49) (.pick (.v 39) (.c (.bool true)) (.v 48))) <|
 .x 50 (.pick (.v 30) (.v 49) (.c (.bool false))) <|
 .m 51 50 <|
 .y 51 (.als 52 none 2) <|
 .y 51 (.pget (some 53) (some 52) 2 9 none) <|
 .st (.act (some (.v 51,true)) (.ex (some 54) (.call fn_impl_in [.v 53,.c (.int .i64 (-2)),.c (.int .i64 2)]))) K58_1
abbrev K58_3:Pl:=.y 30 (.px (some 38) (.pick (.v 34) (.v 37) (.c (.bool false)))) <|
 .y 30 (.px (some 39) (.mv (.v 38))) <|
 .n 39 (.als 40 none 2) <|
 .n 39 (.pget (some 41) (some 40) 2 5 none) <|
 .n 39 (.px (some 42) (.bin .lss (.v 41) (.c (.int .i64 0)))) <|
 .n 39 (.px (some 43) (.mv (.v 42))) <|
 .y 43 (.als 44 none 2) <|
 .y 43 (.pget (some 45) (some 44) 2 6 (some 3)) <|
 .y 43 (.px (some 46) (.build [.int .i64 0,.int .i64 0,.slice none 0 0] [])) <|
 .st (.act (some (.v 43,true)) (.ex (some 47) (.call fn_impl_ExprSame [.v 45,.v 46]))) K58_2
abbrev K58_4:Pl:=.x 29 (.pick (.v 25) (.v 28) (.c (.bool false))) <|
 .m 30 29 <|
 .y 30 (.als 31 none 2) <|
 .y 30 (.pget (some 32) (some 31) 2 5 none) <|
 .y 30 (.px (some 33) (.bin .geq (.v 32) (.c (.int .i64 0)))) <|
 .y 30 (.px (some 34) (.mv (.v 33))) <|
 .y 34 (.als 35 none 2) <|
 .y 34 (.pget (some 36) (some 35) 2 6 (some 3)) <|
 .st (.act (some (.v 34,true)) (.ex (some 37) (.call fn_impl_ExprValid [.v 36]))) K58_3
abbrev K58_5:Pl:=.x 24 (.pick (.v 20) (.v 23) (.c (.bool false))) <|
 .m 25 24 <|
 .y 25 (.als 26 none 2) <|
 .y 25 (.pget (some 27) (some 26) 2 5 none) <|
 .st (.act (some (.v 25,true)) (.ex (some 28) (.call fn_impl_in [.v 27,.c (.int .i64 (-1)),.c (.int .i64 2)]))) K58_4
abbrev K58_6:Pl:=.x 19 (.pick (.v 13) (.v 18) (.c (.bool false))) <|
 .m 20 19 <|
 .y 20 (.als 21 none 2) <|
 .y 20 (.pget (some 22) (some 21) 2 2 (some 3)) <|
 .st (.act (some (.v 20,true)) (.ex (some 23) (.call fn_impl_ExprValid [.v 22]))) K58_5
abbrev K58_7:Pl:=.x 12 (.pick (.v 6) (.v 11) (.c (.bool false))) <|
 .m 13 12 <|
 .y 13 (.als 14 none 2) <|
 .y 13 (.pget (some 15) (some 14) 2 1 none) <|
 .y 13 (.px (some 16) (.mv (.v 1))) <|
 .y 13 (.px (some 17) (.bin .sub (.v 16) (.c (.int .i64 1)))) <|
 .st (.act (some (.v 13,true)) (.ex (some 18) (.call fn_impl_in [.v 15,.c (.int .i64 0),.v 17]))) K58_6
abbrev K58_8:Pl:=.m 6 5 <|
 .y 6 (.als 7 none 2) <|
 .y 6 (.pget (some 8) (some 7) 2 0 none) <|
 .y 6 (.px (some 9) (.mv (.v 1))) <|
 .y 6 (.px (some 10) (.bin .sub (.v 9) (.c (.int .i64 1)))) <|
 .st (.act (some (.v 6,true)) (.ex (some 11) (.call fn_impl_in [.v 8,.c (.int .i64 0),.v 10]))) K58_7
abbrev K58_9:C:=.seq (.pl <| .e 4 52 <|
 .m 4 1 <|
 .c 5 (.call fn_impl_in [.v 4,.c (.int .i64 1),.c (.int .i64 4)]) K58_8) (.ret)
abbrev B_impl_EdgeValid:C:=.seq (.pl <| .e 4 0 <|
 .o (.pnew 2 (.v 0) []) <|
 .x 3 (.mv (.c (.bool false))) .done) K58_9
def R_impl_EdgeValid:FIR:=⟨B_impl_EdgeValid,4,[(3,none)]⟩
theorem IR_impl_EdgeValid:cfun Tryz.prog H_impl_EdgeValid Tryz.f58=some R_impl_EdgeValid:=by kernel_rfl
theorem EN_impl_EdgeValid:ENT Tryz.prog B_impl_EdgeValid [(3,none)] 2 4 fn_impl_EdgeValid:=fun hargs hw=>enter Tryz.func58 rfl IR_impl_EdgeValid hargs hw
def H_impl_ExprNodes:Hint:=⟨[(0,false),(1,true),(2,false),(3,false)],[]⟩
abbrev K114_1:C:=.seq (.pl <| .e 4 1 <|
 .l 4 3 <|
 .m 2 4 .done) (.ret)
abbrev K114_2:C:=.seq (.pl <| .e 4 0 <|
 .x 2 (.mv (.c (.int .i64 0))) .done) (.ret)
abbrev K114_3:C:=.cond 4 (.v 6) K114_2 (.skip)
abbrev K114_4:Pl:=.x 6 (.un .not (.v 5)) .done
abbrev K114_5:C:=.seq (.seq (.pl <| .e 4 3 <|
 .o (.pget (some 4) none 1 0 (some 3)) <|
 .c 5 (.call fn_impl_Expr_walk [.v 4,.c (.int .i64 1),.v 3]) K114_4) K114_3) K114_1
abbrev K114_6:Pl:=.o (.ex none (.store 1 (.v 3) (.c (.int .i64 0)))) .done
abbrev K114_7:C:=.seq (.pl <| .e 4 0 <|
 .c 3 (.alloc (.c (.int .i64 0))) K114_6) K114_5
abbrev B_impl_ExprNodes:C:=.seq (.pl <| .e 4 0 <|
 .o (.pnew 1 (.v 0) []) <|
 .x 2 (.mv (.c (.int .i64 0))) .done) K114_7
def R_impl_ExprNodes:FIR:=⟨B_impl_ExprNodes,4,[(2,none)]⟩
theorem IR_impl_ExprNodes:cfun Tryz.prog H_impl_ExprNodes Tryz.f114=some R_impl_ExprNodes:=by kernel_rfl
theorem EN_impl_ExprNodes:ENT Tryz.prog B_impl_ExprNodes [(2,none)] 1 4 fn_impl_ExprNodes:=fun hargs hw=>enter Tryz.func114 rfl IR_impl_ExprNodes hargs hw
def H_impl_ExprSame:Hint:=⟨[(0,false),(1,false),(2,true),(3,true),(4,false)],[]⟩
abbrev K71_1:Pl:=.x 23 (.pick (.v 17) (.v 22) (.c (.bool false))) <|
 .m 4 23 .done
abbrev K71_2:C:=.seq (.pl <| .e 5 19 <|
 .a 5 2 <|
 .g 6 5 2 0 <|
 .a 7 3 <|
 .g 8 7 3 0 <|
 .x 9 (.bin .eql (.v 6) (.v 8)) <|
 .m 10 9 <|
 .y 10 (.als 11 none 2) <|
 .y 10 (.pget (some 12) (some 11) 2 1 none) <|
 .y 10 (.als 13 none 3) <|
 .y 10 (.pget (some 14) (some 13) 3 1 none) <|
 .y 10 (.px (some 15) (.bin .eql (.v 12) (.v 14))) <|
 .x 16 (.pick (.v 10) (.v 15) (.c (.bool false))) <|
 .m 17 16 <|
 .y 17 (.als 18 none 2) <|
 .y 17 (.pget (some 19) (some 18) 2 2 none) <|
 .y 17 (.als 20 none 3) <|
 .y 17 (.pget (some 21) (some 20) 3 2 none) <|
 .st (.act (some (.v 17,true)) (.ex (some 22) (.call fn_slices_EqualFunc_S_impl_Expr_S_impl_Expr_impl_Expr_impl_Expr [.v 19,.v 21,.c (.func (.func 71) #[] #[])]))) K71_1) (.ret)
abbrev B_impl_ExprSame:C:=.seq (.pl <| .e 5 0 <|
 .o (.pnew 2 (.v 0) []) <|
 .o (.pnew 3 (.v 1) []) <|
 .x 4 (.mv (.c (.bool false))) .done) K71_2
def R_impl_ExprSame:FIR:=⟨B_impl_ExprSame,5,[(4,none)]⟩
theorem IR_impl_ExprSame:cfun Tryz.prog H_impl_ExprSame Tryz.f71=some R_impl_ExprSame:=by kernel_rfl
theorem EN_impl_ExprSame:ENT Tryz.prog B_impl_ExprSame [(4,none)] 2 5 fn_impl_ExprSame:=fun hargs hw=>enter Tryz.func71 rfl IR_impl_ExprSame hargs hw
def H_impl_ExprValid:Hint:=⟨[(0,false),(1,true),(2,false)],[]⟩
abbrev K82_1:Pl:=.x 5 (.bin .gtr (.v 4) (.c (.int .i64 0))) <|
 .m 2 5 .done
abbrev K82_2:C:=.seq (.pl <| .e 3 3 <|
 .o (.pget (some 3) none 1 0 (some 3)) <|
 .c 4 (.call fn_impl_ExprNodes [.v 3]) K82_1) (.ret)
abbrev B_impl_ExprValid:C:=.seq (.pl <| .e 3 0 <|
 .o (.pnew 1 (.v 0) []) <|
 .x 2 (.mv (.c (.bool false))) .done) K82_2
def R_impl_ExprValid:FIR:=⟨B_impl_ExprValid,3,[(2,none)]⟩
theorem IR_impl_ExprValid:cfun Tryz.prog H_impl_ExprValid Tryz.f82=some R_impl_ExprValid:=by kernel_rfl
theorem EN_impl_ExprValid:ENT Tryz.prog B_impl_ExprValid [(2,none)] 1 3 fn_impl_ExprValid:=fun hargs hw=>enter Tryz.func82 rfl IR_impl_ExprValid hargs hw
def H_impl_Expr_copyOf:Hint:=⟨[(0,false),(1,true),(2,true),(3,true),(4,false),(5,true),(15,false),(16,false),(17,false)],[[0,1,4,5]]⟩
abbrev K62_1:C:=.seq (.pl <| .e 9 1 <|
 .o (.pget (some 9) none 3 0 (some 3)) <|
 .o (.pset none 2 0 3 (.v 9)) .done) (.ret)
abbrev K62_2:C:=.pl <| .e 9 1 <|
 .x 9 (.bin .add (.v 8) (.c (.int .i64 1))) <|
 .m 8 9 .done
abbrev K62_3:Pl:=.x 14 (.ia 3 (.v 10) (.v 11)) <|
 .o (.ex none (.store 3 (.v 14) (.v 13))) .done
abbrev K62_4:C:=.pl <| .e 9 6 <|
 .a 9 3 <|
 .g 10 9 3 2 <|
 .m 11 4 <|
 .o (.pget (some 12) none 5 0 (some 3)) <|
 .c 13 (.call fn_impl_Expr_copyOf [.v 12]) K62_3
abbrev K62_5:C:=.seq (.block 1 (.seq (.pl <| .e 9 3 <|
 .m 9 8 <|
 .x 10 (.ia 3 (.v 6) (.v 8)) <|
 .o (.ld (some 11) (.v 10) (some 3)) <|
 .o (.pnew 5 (.c (.agg #[.int .i64 0,.int .i64 0,.slice none 0 0])) []) <|
 .m 4 9 <|
 .o (.pset none 5 0 3 (.v 11)) .done) K62_4)) K62_2
abbrev K62_6:C:=.seq (.cond 9 (.v 9) (.skip) (.exit 0)) K62_5
abbrev K62_7:C:=.seq (.pl <| .e 9 1 <|
 .x 9 (.bin .lss (.v 8) (.v 7)) .done) K62_6
abbrev K62_8:C:=.block 0 (.loop 9 [0,1,4,5] K62_7)
abbrev K62_9:C:=.seq (.seq (.pl <| .e 9 1 <|
 .a 9 1 <|
 .g 6 9 1 2 <|
 .x 7 (.lenV (.v 6)) <|
 .x 8 (.mv (.c (.int .i64 0))) .done) K62_8) K62_1
abbrev K62_10:Pl:=.x 16 (.build [.int .i64 0,.int .i64 0,.slice none 0 0] [(0,1,.v 10),(1,1,.v 12),(2,1,.v 15)]) <|
 .o (.pset none 3 0 3 (.v 16)) .done
abbrev K62_11:C:=.seq (.pl <| .e 9 8 <|
 .a 9 1 <|
 .g 10 9 1 0 <|
 .a 11 1 <|
 .g 12 11 1 1 <|
 .a 13 1 <|
 .g 14 13 1 2 <|
 .o (.pnew 3 (.c (.agg #[.int .i64 0,.int .i64 0,.slice none 0 0])) []) <|
 .c 15 (.call fn_impl_clone_impl_Expr [.v 14]) K62_10) K62_9
abbrev B_impl_Expr_copyOf:C:=.seq (.pl <| .e 9 0 <|
 .o (.pnew 1 (.v 0) []) <|
 .o (.pnew 2 (.c (.agg #[.int .i64 0,.int .i64 0,.slice none 0 0])) []) .done) K62_11
def R_impl_Expr_copyOf:FIR:=⟨B_impl_Expr_copyOf,9,[(2,some (some 3))]⟩
theorem IR_impl_Expr_copyOf:cfun Tryz.prog H_impl_Expr_copyOf Tryz.f62=some R_impl_Expr_copyOf:=by kernel_rfl
theorem EN_impl_Expr_copyOf:ENT Tryz.prog B_impl_Expr_copyOf [(2,some (some 3))] 1 9 fn_impl_Expr_copyOf:=fun hargs hw=>enter Tryz.func62 rfl IR_impl_Expr_copyOf hargs hw
def H_impl_Expr_text:Hint:=⟨[(0,false),(1,true),(2,false),(4,false)],[]⟩
abbrev K34_1:Pl:=.st (.re 10 (.c (.pointer (some ⟨0,0,none⟩))) none none) <|
 .st (.re 14 (.v 13) none none) <|
 .x 21 (.bin .add (.v 15) (.v 20)) <|
 .x 22 (.bin .add (.v 21) (.c (.string ⟨#[41]⟩))) <|
 .m 2 22 .done
abbrev K34_2:Pl:=.st (.re 10 (.c (.pointer (some ⟨0,0,none⟩))) none none) <|
 .st (.re 14 (.v 13) none none) <|
 .st (.re 19 (.v 18) (some 3) none) <|
 .x 9 (.bin .add (.c (.string ⟨#[40]⟩)) (.v 8)) <|
 .x 15 (.bin .add (.v 9) (.v 14)) <|
 .c 20 (.call fn_impl_Expr_text [.v 19]) K34_1
abbrev K34_3:C:=.seq (.pl <| .e 4 19 <|
 .a 4 1 <|
 .g 5 4 1 2 <|
 .x 6 (.ia 3 (.v 5) (.c (.int .i64 0))) <|
 .o (.ld (some 7) (.v 6) (some 3)) <|
 .o (.ld (some 10) (.c (.pointer (some ⟨0,0,none⟩))) none) <|
 .a 11 1 <|
 .g 12 11 1 0 <|
 .x 13 (.ia 1 (.v 10) (.v 12)) <|
 .l 14 13 <|
 .a 16 1 <|
 .g 17 16 1 2 <|
 .x 18 (.ia 3 (.v 17) (.c (.int .i64 1))) <|
 .o (.ld (some 19) (.v 18) (some 3)) <|
 .c 8 (.call fn_impl_Expr_text [.v 7]) K34_2) (.ret)
abbrev K34_4:Pl:=.m 2 6 .done
abbrev K34_5:C:=.seq (.pl <| .e 4 3 <|
 .a 4 1 <|
 .g 5 4 1 1 <|
 .c 6 (.call fn_strconv_Itoa [.v 5]) K34_4) (.ret)
abbrev K34_6:C:=.seq (.pl <| .e 4 6 <|
 .a 4 1 <|
 .g 5 4 1 1 <|
 .a 6 1 <|
 .g 7 6 1 1 <|
 .x 8 (.bin .add (.v 7) (.c (.int .i64 1))) <|
 .x 9 (.sliceS (.c (.string ⟨#[120,121,122]⟩)) (some (.v 5)) (some (.v 8))) <|
 .m 2 9 .done) (.ret)
abbrev K34_7:Pl:=.x 9 (.bin .add (.c (.string ⟨#[33]⟩)) (.v 8)) <|
 .m 2 9 .done
abbrev K34_8:C:=.seq (.pl <| .e 4 6 <|
 .a 4 1 <|
 .g 5 4 1 2 <|
 .x 6 (.ia 3 (.v 5) (.c (.int .i64 0))) <|
 .o (.ld (some 7) (.v 6) (some 3)) <|
 .c 8 (.call fn_impl_Expr_text [.v 7]) K34_7) (.ret)
abbrev K34_9:C:=.cond 4 (.v 5) K34_8 (.skip)
abbrev K34_10:C:=.seq (.pl <| .e 4 2 <|
 .x 4 (.bin .eql (.v 3) (.c (.int .i64 3))) <|
 .m 5 4 .done) K34_9
abbrev K34_11:C:=.cond 4 (.v 5) K34_6 K34_10
abbrev K34_12:C:=.seq (.pl <| .e 4 2 <|
 .x 4 (.bin .eql (.v 3) (.c (.int .i64 2))) <|
 .m 5 4 .done) K34_11
abbrev K34_13:C:=.cond 4 (.v 5) K34_5 K34_12
abbrev K34_14:C:=.block 0 (.seq (.pl <| .e 4 2 <|
 .x 4 (.bin .eql (.v 3) (.c (.int .i64 1))) <|
 .m 5 4 .done) K34_13)
abbrev K34_15:C:=.seq (.seq (.pl <| .e 4 1 <|
 .a 4 1 <|
 .g 3 4 1 0 .done) K34_14) K34_3
abbrev B_impl_Expr_text:C:=.seq (.pl <| .e 4 0 <|
 .o (.pnew 1 (.v 0) []) <|
 .x 2 (.mv (.c (.string ⟨#[]⟩))) .done) K34_15
def R_impl_Expr_text:FIR:=⟨B_impl_Expr_text,4,[(2,none)]⟩
theorem IR_impl_Expr_text:cfun Tryz.prog H_impl_Expr_text Tryz.f34=some R_impl_Expr_text:=by kernel_rfl
theorem EN_impl_Expr_text:ENT Tryz.prog B_impl_Expr_text [(2,none)] 1 4 fn_impl_Expr_text:=fun hargs hw=>enter Tryz.func34 rfl IR_impl_Expr_text hargs hw
def H_impl_Expr_walk:Hint:=⟨[(0,false),(1,false),(2,false),(3,true),(4,false),(5,false),(6,false),(7,false),(8,false),(15,false)],[]⟩
abbrev K135_1:Pl:=.x 14 (.un .not (.v 13)) <|
 .m 6 14 .done
abbrev K135_2:C:=.seq (.pl <| .e 10 5 <|
 .a 10 3 <|
 .g 11 10 3 2 <|
 .x 12 (.mkf (.func fn_impl_Expr_walk_1) [] [.v 4,.v 5]) <|
 .c 13 (.call fn_slices_ContainsFunc_S_impl_Expr_impl_Expr [.v 11,.v 12]) K135_1) (.ret)
abbrev K135_3:C:=.seq (.pl <| .e 10 0 <|
 .x 6 (.mv (.c (.bool false))) .done) (.ret)
abbrev K135_4:C:=.cond 10 (.v 37) K135_3 (.skip)
abbrev K135_5:Pl:=.n 24 (.px (some 29) (.un .not (.v 28))) <|
 .x 30 (.pick (.v 24) (.c (.bool true)) (.v 29)) <|
 .m 31 30 <|
 .n 31 (.als 32 none 3) <|
 .n 31 (.pget (some 33) (some 32) 3 2 none) <|
 .n 31 (.px (some 34) (.lenV (.v 33))) <|
 .n 31 (.px (some 35) (.mv (.v 7))) <|
 .n 31 (.px (some 36) (.bin .neq (.v 34) (.v 35))) <|
 .x 37 (.pick (.v 31) (.c (.bool true)) (.v 36)) .done
abbrev K135_6:Pl:=.n 18 (.px (some 22) (.un .not (.v 21))) <|
 .x 23 (.pick (.v 18) (.c (.bool true)) (.v 22)) <|
 .m 24 23 <|
 .n 24 (.als 25 none 3) <|
 .n 24 (.pget (some 26) (some 25) 3 1 none) <|
 .n 24 (.px (some 27) (.mv (.v 8))) <|
 .st (.act (some (.v 24,false)) (.ex (some 28) (.call fn_impl_in [.v 26,.c (.int .i64 0),.v 27]))) K135_5
abbrev K135_7:C:=.seq (.seq (.pl <| .e 10 28 <|
 .l 10 4 <|
 .x 11 (.bin .gtr (.v 10) (.c (.int .i64 6))) <|
 .m 12 11 <|
 .n 12 (.ld (some 13) (.v 5) none) <|
 .n 12 (.px (some 14) (.nilc (.v 13))) <|
 .n 12 (.ld (some 15) (.v 14) none) <|
 .n 12 (.px (some 16) (.bin .gtr (.v 15) (.c (.int .i64 15)))) <|
 .x 17 (.pick (.v 12) (.c (.bool true)) (.v 16)) <|
 .m 18 17 <|
 .n 18 (.als 19 none 3) <|
 .n 18 (.pget (some 20) (some 19) 3 0 none) <|
 .st (.act (some (.v 18,false)) (.ex (some 21) (.call fn_impl_in [.v 20,.c (.int .i64 1),.c (.int .i64 9)]))) K135_6) K135_4) K135_2
abbrev K135_8:C:=.pl <| .e 10 0 <|
 .x 7 (.mv (.c (.int .i64 0))) <|
 .x 8 (.mv (.c (.int .i64 3))) .done
abbrev K135_9:C:=.pl <| .e 10 0 <|
 .x 7 (.mv (.c (.int .i64 0))) <|
 .x 8 (.mv (.c (.int .i64 2))) .done
abbrev K135_10:C:=.pl <| .e 10 0 <|
 .x 7 (.mv (.c (.int .i64 1))) .done
abbrev K135_11:C:=.cond 10 (.v 11) K135_10 (.skip)
abbrev K135_12:C:=.seq (.pl <| .e 10 2 <|
 .x 10 (.bin .eql (.v 9) (.c (.int .i64 3))) <|
 .m 11 10 .done) K135_11
abbrev K135_13:C:=.cond 10 (.v 11) K135_9 K135_12
abbrev K135_14:C:=.seq (.pl <| .e 10 2 <|
 .x 10 (.bin .eql (.v 9) (.c (.int .i64 2))) <|
 .m 11 10 .done) K135_13
abbrev K135_15:C:=.cond 10 (.v 11) K135_8 K135_14
abbrev K135_16:C:=.block 0 (.seq (.pl <| .e 10 2 <|
 .x 10 (.bin .eql (.v 9) (.c (.int .i64 1))) <|
 .m 11 10 .done) K135_15)
abbrev K135_17:C:=.seq (.seq (.pl <| .e 10 1 <|
 .a 10 3 <|
 .g 9 10 3 0 .done) K135_16) K135_7
abbrev K135_18:C:=.seq (.pl <| .e 10 0 <|
 .x 7 (.mv (.c (.int .i64 2))) <|
 .x 8 (.mv (.c (.int .i64 0))) .done) K135_17
abbrev K135_19:C:=.seq (.pl <| .e 10 5 <|
 .l 10 5 <|
 .x 11 (.nilc (.v 10)) <|
 .l 12 11 <|
 .x 13 (.bin .add (.v 12) (.c (.int .i64 1))) <|
 .x 14 (.nilc (.v 10)) <|
 .o (.ex none (.store 1 (.v 14) (.v 13))) .done) K135_18
abbrev K135_20:Pl:=.x 6 (.mv (.c (.bool false))) .done
abbrev K135_21:Pl:=.c 5 (.alloc (.v 2)) K135_20
abbrev B_impl_Expr_walk:C:=.seq (.pl <| .e 10 0 <|
 .o (.pnew 3 (.v 0) []) <|
 .c 4 (.alloc (.v 1)) K135_21) K135_19
def R_impl_Expr_walk:FIR:=⟨B_impl_Expr_walk,10,[(6,none)]⟩
theorem IR_impl_Expr_walk:cfun Tryz.prog H_impl_Expr_walk Tryz.f135=some R_impl_Expr_walk:=by kernel_rfl
theorem EN_impl_Expr_walk:ENT Tryz.prog B_impl_Expr_walk [(6,none)] 3 10 fn_impl_Expr_walk:=fun hargs hw=>enter Tryz.func135 rfl IR_impl_Expr_walk hargs hw
def H_impl_Expr_walk_1:Hint:=⟨[(0,false),(1,false),(2,false),(3,true),(4,false)],[]⟩
abbrev K148_1:Pl:=.x 10 (.un .not (.v 9)) <|
 .m 4 10 .done
abbrev K148_2:C:=.seq (.pl <| .e 5 6 <|
 .o (.pget (some 5) none 3 0 (some 3)) <|
 .l 6 1 <|
 .x 7 (.bin .add (.v 6) (.c (.int .i64 1))) <|
 .l 8 2 <|
 .c 9 (.call fn_impl_Expr_walk [.v 5,.v 7,.v 8]) K148_1) (.ret)
abbrev B_impl_Expr_walk_1:C:=.seq (.pl <| .e 5 0 <|
 .o (.pnew 3 (.v 0) []) <|
 .x 4 (.mv (.c (.bool false))) .done) K148_2
def R_impl_Expr_walk_1:FIR:=⟨B_impl_Expr_walk_1,5,[(4,none)]⟩
theorem IR_impl_Expr_walk_1:cfun Tryz.prog H_impl_Expr_walk_1 Tryz.f148=some R_impl_Expr_walk_1:=by kernel_rfl
theorem EN_impl_Expr_walk_1:ENT Tryz.prog B_impl_Expr_walk_1 [(4,none)] 3 5 fn_impl_Expr_walk_1:=fun hargs hw=>enter Tryz.func148 rfl IR_impl_Expr_walk_1 hargs hw
def H_impl_FormatSystem:Hint:=⟨[(0,false),(1,true),(2,false),(3,false),(5,true),(7,true),(8,false),(30,false),(31,false),(32,false),(44,false),(45,false),(46,false)],[[0,1,2,4,5,6,10,11,12],[0,1,2,4,5,6]]⟩
abbrev K11_1:C:=.seq (.pl <| .e 13 1 <|
 .m 13 3 <|
 .m 2 13 .done) (.ret)
abbrev K11_2:C:=.pl <| .e 13 1 <|
 .x 13 (.bin .add (.v 9) (.c (.int .i64 1))) <|
 .m 9 13 .done
abbrev K11_3:C:=.pl <| .e 13 1 <|
 .x 13 (.bin .add (.v 12) (.c (.int .i64 1))) <|
 .m 12 13 .done
abbrev K11_4:Pl:=.x 29 (.bin .add (.v 13) (.v 28)) <|
 .m 3 29 .done
abbrev K11_5:Pl:=.c 28 (.call fn_impl_row [.v 27]) K11_4
abbrev K11_6:Pl:=.c 27 (.bls 1 6 [.string ⟨#[]⟩] [(0,1,.c (.string ⟨#[101,100,103,101]⟩)),(1,1,.v 16),(2,1,.v 19),(3,1,.v 22),(4,1,.v 23),(5,1,.v 26)]) K11_5
abbrev K11_7:Pl:=.c 26 (.call fn_impl_syncText [.v 25]) K11_6
abbrev K11_8:Pl:=.c 22 (.call fn_impl_Expr_text [.v 21]) K11_7
abbrev K11_9:Pl:=.c 19 (.call fn_strconv_Itoa [.v 18]) K11_8
abbrev K11_10:C:=.pl <| .e 13 17 <|
 .m 13 3 <|
 .a 14 5 <|
 .g 15 14 5 0 <|
 .a 17 5 <|
 .g 18 17 5 1 <|
 .a 20 5 <|
 .o (.pget (some 21) (some 20) 5 2 (some 3)) <|
 .m 23 6 <|
 .a 24 5 <|
 .g 25 24 5 9 <|
 .c 16 (.call fn_strconv_Itoa [.v 15]) K11_9
abbrev K11_11:Pl:=.x 23 (.bin .add (.v 19) (.v 22)) <|
 .m 6 23 .done
abbrev K11_12:C:=.pl <| .e 13 11 <|
 .a 13 5 <|
 .g 14 13 5 5 <|
 .a 15 5 <|
 .g 16 15 5 5 <|
 .x 17 (.bin .add (.v 16) (.c (.int .i64 1))) <|
 .x 18 (.sliceS (.c (.string ⟨#[120,121,122]⟩)) (some (.v 14)) (some (.v 17))) <|
 .x 19 (.bin .add (.v 18) (.c (.string ⟨#[58,61]⟩))) <|
 .a 20 5 <|
 .o (.pget (some 21) (some 20) 5 6 (some 3)) <|
 .c 22 (.call fn_impl_Expr_text [.v 21]) K11_11
abbrev K11_13:C:=.cond 13 (.v 15) K11_12 (.skip)
abbrev K11_14:C:=.seq (.seq (.pl <| .e 13 3 <|
 .a 13 5 <|
 .g 14 13 5 5 <|
 .x 15 (.bin .geq (.v 14) (.c (.int .i64 0))) .done) K11_13) K11_10
abbrev K11_15:C:=.seq (.pl <| .e 13 0 <|
 .x 6 (.mv (.c (.string ⟨#[45]⟩))) .done) K11_14
abbrev K11_16:C:=.seq (.block 3 (.seq (.pl <| .e 13 2 <|
 .x 13 (.ia 10 (.v 10) (.v 12)) <|
 .o (.ld (some 14) (.v 13) (some 10)) <|
 .o (.pnew 5 (.c (.agg #[.int .i64 0,.int .i64 0,.int .i64 0,.int .i64 0,.slice none 0 0,.int .i64 0,.int .i64 0,.int .i64 0,.slice none 0 0,.int .i64 0])) []) <|
 .o (.pset none 5 0 10 (.v 14)) .done) K11_15)) K11_3
abbrev K11_17:C:=.seq (.cond 13 (.v 13) (.skip) (.exit 2)) K11_16
abbrev K11_18:C:=.seq (.pl <| .e 13 1 <|
 .x 13 (.bin .lss (.v 12) (.v 11)) .done) K11_17
abbrev K11_19:C:=.block 2 (.loop 13 [0,1,2,4,5,6] K11_18)
abbrev K11_20:C:=.seq (.pl <| .e 13 1 <|
 .a 13 4 <|
 .g 10 13 4 1 <|
 .x 11 (.lenV (.v 10)) <|
 .x 12 (.mv (.c (.int .i64 0))) .done) K11_19
abbrev K11_21:Pl:=.x 19 (.bin .add (.v 13) (.v 18)) <|
 .m 3 19 .done
abbrev K11_22:Pl:=.c 18 (.call fn_impl_row [.v 17]) K11_21
abbrev K11_23:Pl:=.c 17 (.bls 1 2 [.string ⟨#[]⟩] [(0,1,.c (.string ⟨#[112,114,111,99,101,115,115]⟩)),(1,1,.v 16)]) K11_22
abbrev K11_24:C:=.seq (.pl <| .e 13 7 <|
 .m 13 3 <|
 .a 14 4 <|
 .g 15 14 4 0 <|
 .c 16 (.call fn_strconv_Itoa [.v 15]) K11_23) K11_20
abbrev K11_25:C:=.seq (.block 1 (.seq (.pl <| .e 13 2 <|
 .x 13 (.ia 2 (.v 7) (.v 9)) <|
 .o (.ld (some 14) (.v 13) (some 2)) <|
 .o (.pnew 4 (.c (.agg #[.int .i64 0,.slice none 0 0])) []) <|
 .o (.pset none 4 0 2 (.v 14)) .done) K11_24)) K11_2
abbrev K11_26:C:=.seq (.cond 13 (.v 13) (.skip) (.exit 0)) K11_25
abbrev K11_27:C:=.seq (.pl <| .e 13 1 <|
 .x 13 (.bin .lss (.v 9) (.v 8)) .done) K11_26
abbrev K11_28:C:=.block 0 (.loop 13 [0,1,2,4,5,6,10,11,12] K11_27)
abbrev K11_29:C:=.seq (.seq (.pl <| .e 13 1 <|
 .a 13 1 <|
 .g 7 13 1 1 <|
 .x 8 (.lenV (.v 7)) <|
 .x 9 (.mv (.c (.int .i64 0))) .done) K11_28) K11_1
abbrev K11_30:Pl:=.m 3 29 .done
abbrev K11_31:Pl:=.c 29 (.call fn_impl_row [.v 28]) K11_30
abbrev K11_32:Pl:=.c 28 (.bls 1 4 [.string ⟨#[]⟩] [(0,1,.c (.string ⟨#[115,121,115,116,101,109]⟩)),(1,1,.v 17),(2,1,.v 22),(3,1,.v 27)]) K11_31
abbrev K11_33:Pl:=.st (.re 26 (.v 25) none none) <|
 .c 27 (.call fn_strconv_Itoa [.v 26]) K11_32
abbrev K11_34:Pl:=.st (.re 21 (.v 20) none none) <|
 .st (.re 26 (.v 25) none none) <|
 .c 22 (.call fn_strconv_Itoa [.v 21]) K11_33
abbrev K11_35:C:=.seq (.pl <| .e 13 17 <|
 .a 13 1 <|
 .g 14 13 1 0 <|
 .x 15 (.ia 1 (.v 14) (.c (.int .i64 0))) <|
 .l 16 15 <|
 .a 18 1 <|
 .g 19 18 1 0 <|
 .x 20 (.ia 1 (.v 19) (.c (.int .i64 1))) <|
 .l 21 20 <|
 .a 23 1 <|
 .g 24 23 1 0 <|
 .x 25 (.ia 1 (.v 24) (.c (.int .i64 2))) <|
 .l 26 25 <|
 .c 17 (.call fn_strconv_Itoa [.v 16]) K11_34) K11_29
abbrev K11_36:C:=.seq (.pl <| .e 13 0 <|
 .x 2 (.mv (.c (.string ⟨#[]⟩))) .done) (.ret)
abbrev K11_37:C:=.cond 13 (.v 15) K11_36 (.skip)
abbrev K11_38:Pl:=.x 15 (.un .not (.v 14)) .done
abbrev K11_39:C:=.seq (.seq (.pl <| .e 13 3 <|
 .o (.pget (some 13) none 1 0 (some 2)) <|
 .c 14 (.call fn_impl_SystemValid [.v 13]) K11_38) K11_37) K11_35
abbrev B_impl_FormatSystem:C:=.seq (.pl <| .e 13 0 <|
 .o (.pnew 1 (.v 0) []) <|
 .x 2 (.mv (.c (.string ⟨#[]⟩))) .done) K11_39
def R_impl_FormatSystem:FIR:=⟨B_impl_FormatSystem,13,[(2,none)]⟩
theorem IR_impl_FormatSystem:cfun Tryz.prog H_impl_FormatSystem Tryz.f11=some R_impl_FormatSystem:=by kernel_rfl
theorem EN_impl_FormatSystem:ENT Tryz.prog B_impl_FormatSystem [(2,none)] 1 13 fn_impl_FormatSystem:=fun hargs hw=>enter Tryz.func11 rfl IR_impl_FormatSystem hargs hw
def H_impl_ParseExpr:Hint:=⟨[(0,false),(2,true),(3,false),(4,false),(5,true)],[]⟩
abbrev K51_1:C:=.seq (.pl <| .e 5 1 <|
 .o (.pget (some 5) none 4 0 (some 3)) <|
 .o (.pset none 1 0 3 (.v 5)) <|
 .x 2 (.mv (.c (.bool true))) .done) (.ret)
abbrev K51_2:C:=.seq (.pl <| .e 5 1 <|
 .x 5 (.build [.int .i64 0,.int .i64 0,.slice none 0 0] []) <|
 .o (.pset none 1 0 3 (.v 5)) <|
 .x 2 (.mv (.c (.bool false))) .done) (.ret)
abbrev K51_3:C:=.cond 5 (.v 20) K51_2 (.skip)
abbrev K51_4:Pl:=.n 16 (.px (some 19) (.un .not (.v 18))) <|
 .x 20 (.pick (.v 16) (.c (.bool true)) (.v 19)) .done
abbrev K51_5:C:=.seq (.seq (.pl <| .e 5 16 <|
 .m 5 3 <|
 .x 6 (.nilc (.v 5)) <|
 .x 7 (.fa 1 (.v 6)) <|
 .l 8 7 <|
 .m 9 8 <|
 .n 9 (.px (some 10) (.mv (.v 3))) <|
 .n 9 (.px (some 11) (.nilc (.v 10))) <|
 .n 9 (.px (some 12) (.fa 0 (.v 11))) <|
 .n 9 (.ld (some 13) (.v 12) none) <|
 .n 9 (.px (some 14) (.bin .neq (.v 13) (.c (.string ⟨#[]⟩)))) <|
 .x 15 (.pick (.v 9) (.c (.bool true)) (.v 14)) <|
 .m 16 15 <|
 .n 16 (.pget (some 17) none 4 0 (some 3)) <|
 .st (.act (some (.v 16,false)) (.ex (some 18) (.call fn_impl_ExprValid [.v 17]))) K51_4) K51_3) K51_1
abbrev K51_6:Pl:=.o (.pnew 4 (.c (.agg #[.int .i64 0,.int .i64 0,.slice none 0 0])) []) <|
 .o (.pset none 4 0 3 (.v 6)) .done
abbrev K51_7:C:=.seq (.pl <| .e 5 2 <|
 .m 5 3 <|
 .c 6 (.call fn_impl_reader_expr [.v 5,.c (.int .i64 1)]) K51_6) K51_5
abbrev K51_8:Pl:=.m 3 7 .done
abbrev K51_9:C:=.seq (.pl <| .e 5 3 <|
 .m 5 0 <|
 .x 6 (.build [.string ⟨#[]⟩,.bool false] [(0,1,.v 5)]) <|
 .c 7 (.alloc (.v 6)) K51_8) K51_7
abbrev B_impl_ParseExpr:C:=.seq (.pl <| .e 5 0 <|
 .o (.pnew 1 (.c (.agg #[.int .i64 0,.int .i64 0,.slice none 0 0])) []) <|
 .x 2 (.mv (.c (.bool false))) .done) K51_9
def R_impl_ParseExpr:FIR:=⟨B_impl_ParseExpr,5,[(1,some (some 3)),(2,none)]⟩
theorem IR_impl_ParseExpr:cfun Tryz.prog H_impl_ParseExpr Tryz.f51=some R_impl_ParseExpr:=by kernel_rfl
theorem EN_impl_ParseExpr:ENT Tryz.prog B_impl_ParseExpr [(1,some (some 3)),(2,none)] 1 5 fn_impl_ParseExpr:=fun hargs hw=>enter Tryz.func51 rfl IR_impl_ParseExpr hargs hw
def H_impl_ParseSystem:Hint:=⟨[(0,false),(2,true),(3,false),(4,true),(6,false),(7,false),(8,false),(9,true),(10,false),(13,false),(14,false),(15,false)],[[2,4,5,6,7,8]]⟩
abbrev K6_1:Pl:=.o (.pset none 1 0 2 (.v 13)) <|
 .x 2 (.mv (.c (.bool true))) .done
abbrev K6_2:C:=.seq (.pl <| .e 12 2 <|
 .o (.pget (some 12) none 3 0 (some 2)) <|
 .c 13 (.call fn_impl_System_copyOf [.v 12]) K6_1) (.ret)
abbrev K6_3:C:=.seq (.pl <| .e 12 1 <|
 .x 12 (.build [.slice none 0 0,.slice none 0 0] []) <|
 .o (.pset none 1 0 2 (.v 12)) <|
 .x 2 (.mv (.c (.bool false))) .done) (.ret)
abbrev K6_4:C:=.cond 12 (.v 20) K6_3 (.skip)
abbrev K6_5:Pl:=.n 15 (.px (some 18) (.mv (.v 0))) <|
 .n 15 (.px (some 19) (.bin .neq (.v 17) (.v 18))) <|
 .x 20 (.pick (.v 15) (.c (.bool true)) (.v 19)) .done
abbrev K6_6:Pl:=.x 14 (.un .not (.v 13)) <|
 .m 15 14 <|
 .n 15 (.pget (some 16) none 3 0 (some 2)) <|
 .st (.act (some (.v 15,false)) (.ex (some 17) (.call fn_impl_FormatSystem [.v 16]))) K6_5
abbrev K6_7:C:=.seq (.seq (.pl <| .e 12 9 <|
 .o (.pget (some 12) none 3 0 (some 2)) <|
 .c 13 (.call fn_impl_SystemValid [.v 12]) K6_6) K6_4) K6_2
abbrev K6_8:C:=.pl <| .e 12 1 <|
 .x 12 (.bin .add (.v 11) (.c (.int .i64 1))) <|
 .m 11 12 .done
abbrev K6_9:Pl:=.a 25 3 <|
 .o (.pset (some 25) 3 0 1 (.v 24)) .done
abbrev K6_10:Pl:=.c 24 (.bls 1 3 [.int .i64 0] [(0,1,.v 15),(1,1,.v 19),(2,1,.v 23)]) K6_9
abbrev K6_11:Pl:=.st (.re 22 (.v 21) none none) <|
 .c 23 (.call fn_impl_small [.v 22]) K6_10
abbrev K6_12:Pl:=.st (.re 18 (.v 17) none none) <|
 .st (.re 22 (.v 21) none none) <|
 .c 19 (.call fn_impl_small [.v 18]) K6_11
abbrev K6_13:C:=.pl <| .e 12 14 <|
 .m 12 5 <|
 .x 13 (.ia 1 (.v 12) (.c (.int .i64 1))) <|
 .l 14 13 <|
 .m 16 5 <|
 .x 17 (.ia 1 (.v 16) (.c (.int .i64 2))) <|
 .l 18 17 <|
 .m 20 5 <|
 .x 21 (.ia 1 (.v 20) (.c (.int .i64 3))) <|
 .l 22 21 <|
 .c 15 (.call fn_impl_small [.v 14]) K6_12
abbrev K6_14:Pl:=.a 21 3 <|
 .o (.pset (some 21) 3 1 1 (.v 20)) .done
abbrev K6_15:Pl:=.x 18 (.build [.int .i64 0,.slice none 0 0] [(0,1,.v 17)]) <|
 .o (.psl 19 [.int .i64 0,.slice none 0 0] [(0,2,.v 18)]) <|
 .c 20 (.app 32 2 [.int .i64 0,.slice none 0 0] (.o (.v 13)) (.p 1 19)) K6_14
abbrev K6_16:C:=.pl <| .e 12 10 <|
 .a 12 3 <|
 .g 13 12 3 1 <|
 .m 14 5 <|
 .x 15 (.ia 1 (.v 14) (.c (.int .i64 1))) <|
 .l 16 15 <|
 .c 17 (.call fn_impl_small [.v 16]) K6_15
abbrev K6_17:Pl:=.x 26 (.ia 2 (.v 13) (.v 15)) <|
 .x 27 (.fa 1 (.v 26)) <|
 .o (.ex none (.store 1 (.v 27) (.v 25))) .done
abbrev K6_18:C:=.pl <| .e 12 16 <|
 .a 12 3 <|
 .g 13 12 3 1 <|
 .m 14 6 <|
 .x 15 (.bin .sub (.v 14) (.c (.int .i64 1))) <|
 .a 16 3 <|
 .g 17 16 3 1 <|
 .m 18 6 <|
 .x 19 (.bin .sub (.v 18) (.c (.int .i64 1))) <|
 .x 20 (.ia 2 (.v 17) (.v 19)) <|
 .x 21 (.fa 1 (.v 20)) <|
 .l 22 21 <|
 .o (.pget (some 23) none 7 0 (some 10)) <|
 .o (.psl 24 [.int .i64 0,.int .i64 0,.int .i64 0,.int .i64 0,.slice none 0 0,.int .i64 0,.int .i64 0,.int .i64 0,.slice none 0 0,.int .i64 0] [(0,10,.v 23)]) <|
 .c 25 (.app 112 10 [.int .i64 0,.int .i64 0,.int .i64 0,.int .i64 0,.slice none 0 0,.int .i64 0,.int .i64 0,.int .i64 0,.slice none 0 0,.int .i64 0] (.o (.v 22)) (.p 1 24)) K6_17
abbrev K6_19:C:=.seq (.pl <| .e 12 1 <|
 .x 12 (.build [.slice none 0 0,.slice none 0 0] []) <|
 .o (.pset none 1 0 2 (.v 12)) <|
 .x 2 (.mv (.c (.bool false))) .done) (.ret)
abbrev K6_20:C:=.cond 12 (.v 13) K6_19 (.skip)
abbrev K6_21:C:=.seq (.seq (.pl <| .e 12 2 <|
 .m 12 8 <|
 .x 13 (.un .not (.v 12)) .done) K6_20) K6_18
abbrev K6_22:Pl:=.m 14 13 <|
 .x 15 (.extract 0 (.v 14)) <|
 .x 16 (.extract 1 (.v 14)) <|
 .o (.pnew 7 (.c (.agg #[.int .i64 0,.int .i64 0,.int .i64 0,.int .i64 0,.slice none 0 0,.int .i64 0,.int .i64 0,.int .i64 0,.slice none 0 0,.int .i64 0])) []) <|
 .o (.pset none 7 0 10 (.v 15)) <|
 .m 8 16 .done
abbrev K6_23:C:=.seq (.pl <| .e 12 5 <|
 .m 12 5 <|
 .c 13 (.call fn_impl_parseEdge [.v 12]) K6_22) K6_21
abbrev K6_24:C:=.seq (.pl <| .e 12 1 <|
 .x 12 (.build [.slice none 0 0,.slice none 0 0] []) <|
 .o (.pset none 1 0 2 (.v 12)) <|
 .x 2 (.mv (.c (.bool false))) .done) (.ret)
abbrev K6_25:C:=.cond 12 (.v 25) K6_23 K6_24
abbrev K6_26:C:=.seq (.pl <| .e 12 14 <|
 .m 12 5 <|
 .x 13 (.ia 1 (.v 12) (.c (.int .i64 0))) <|
 .l 14 13 <|
 .x 15 (.bin .eql (.v 14) (.c (.string ⟨#[101,100,103,101]⟩))) <|
 .m 16 15 <|
 .y 16 (.px (some 17) (.mv (.v 5))) <|
 .y 16 (.px (some 18) (.lenV (.v 17))) <|
 .y 16 (.px (some 19) (.bin .eql (.v 18) (.c (.int .i64 6)))) <|
 .x 20 (.pick (.v 16) (.v 19) (.c (.bool false))) <|
 .m 21 20 <|
 .y 21 (.px (some 22) (.mv (.v 6))) <|
 .y 21 (.px (some 23) (.bin .gtr (.v 22) (.c (.int .i64 0)))) <|
 .x 24 (.pick (.v 21) (.v 23) (.c (.bool false))) <|
 .m 25 24 .done) K6_25
abbrev K6_27:C:=.cond 12 (.v 21) K6_16 K6_26
abbrev K6_28:C:=.seq (.pl <| .e 12 10 <|
 .m 12 5 <|
 .x 13 (.ia 1 (.v 12) (.c (.int .i64 0))) <|
 .l 14 13 <|
 .x 15 (.bin .eql (.v 14) (.c (.string ⟨#[112,114,111,99,101,115,115]⟩))) <|
 .m 16 15 <|
 .y 16 (.px (some 17) (.mv (.v 5))) <|
 .y 16 (.px (some 18) (.lenV (.v 17))) <|
 .y 16 (.px (some 19) (.bin .eql (.v 18) (.c (.int .i64 2)))) <|
 .x 20 (.pick (.v 16) (.v 19) (.c (.bool false))) <|
 .m 21 20 .done) K6_27
abbrev K6_29:C:=.cond 12 (.v 21) K6_13 K6_28
abbrev K6_30:C:=.block 2 (.seq (.pl <| .e 12 10 <|
 .m 12 5 <|
 .x 13 (.ia 1 (.v 12) (.c (.int .i64 0))) <|
 .l 14 13 <|
 .x 15 (.bin .eql (.v 14) (.c (.string ⟨#[115,121,115,116,101,109]⟩))) <|
 .m 16 15 <|
 .y 16 (.px (some 17) (.mv (.v 5))) <|
 .y 16 (.px (some 18) (.lenV (.v 17))) <|
 .y 16 (.px (some 19) (.bin .eql (.v 18) (.c (.int .i64 4)))) <|
 .x 20 (.pick (.v 16) (.v 19) (.c (.bool false))) <|
 .m 21 20 .done) K6_29)
abbrev K6_31:C:=.seq (.pl <| .e 12 3 <|
 .a 12 3 <|
 .g 13 12 3 1 <|
 .x 14 (.lenV (.v 13)) <|
 .m 6 14 .done) K6_30
abbrev K6_32:Pl:=.m 5 13 .done
abbrev K6_33:C:=.seq (.pl <| .e 12 2 <|
 .m 12 4 <|
 .c 13 (.call fn_strings_Split [.v 12,.c (.string ⟨#[32]⟩)]) K6_32) K6_31
abbrev K6_34:C:=.seq (.block 1 (.seq (.pl <| .e 12 2 <|
 .x 12 (.ia 1 (.v 9) (.v 11)) <|
 .l 13 12 <|
 .m 4 13 .done) K6_33)) K6_8
abbrev K6_35:C:=.seq (.cond 12 (.v 12) (.skip) (.exit 0)) K6_34
abbrev K6_36:C:=.seq (.pl <| .e 12 1 <|
 .x 12 (.bin .lss (.v 11) (.v 10)) .done) K6_35
abbrev K6_37:C:=.block 0 (.loop 12 [2,4,5,6,7,8] K6_36)
abbrev K6_38:Pl:=.x 10 (.lenV (.v 9)) <|
 .x 11 (.mv (.c (.int .i64 0))) .done
abbrev K6_39:Pl:=.c 9 (.call fn_strings_Split [.v 13,.c (.string ⟨#[10]⟩)]) K6_38
abbrev K6_40:C:=.seq (.seq (.pl <| .e 12 2 <|
 .m 12 0 <|
 .c 13 (.call fn_strings_TrimSuffix [.v 12,.c (.string ⟨#[10]⟩)]) K6_39) K6_37) K6_7
abbrev K6_41:C:=.seq (.pl <| .e 12 0 <|
 .o (.pnew 3 (.c (.agg #[.slice none 0 0,.slice none 0 0])) []) .done) K6_40
abbrev B_impl_ParseSystem:C:=.seq (.pl <| .e 12 0 <|
 .o (.pnew 1 (.c (.agg #[.slice none 0 0,.slice none 0 0])) []) <|
 .x 2 (.mv (.c (.bool false))) .done) K6_41
def R_impl_ParseSystem:FIR:=⟨B_impl_ParseSystem,12,[(1,some (some 2)),(2,none)]⟩
theorem IR_impl_ParseSystem:cfun Tryz.prog H_impl_ParseSystem Tryz.f6=some R_impl_ParseSystem:=by kernel_rfl
theorem EN_impl_ParseSystem:ENT Tryz.prog B_impl_ParseSystem [(1,some (some 2)),(2,none)] 1 12 fn_impl_ParseSystem:=fun hargs hw=>enter Tryz.func6 rfl IR_impl_ParseSystem hargs hw
def H_impl_SystemValid:Hint:=⟨[(0,false),(1,true),(2,false),(4,false),(17,false),(18,false),(19,false)],[[0,1,2,3]]⟩
abbrev K23_1:C:=.seq (.pl <| .e 7 0 <|
 .x 2 (.mv (.c (.bool true))) .done) (.ret)
abbrev K23_2:C:=.pl <| .e 7 1 <|
 .x 7 (.bin .add (.v 6) (.c (.int .i64 1))) <|
 .m 6 7 .done
abbrev K23_3:C:=.seq (.pl <| .e 7 0 <|
 .x 2 (.mv (.c (.bool false))) .done) (.ret)
abbrev K23_4:C:=.cond 7 (.v 22) K23_3 (.skip)
abbrev K23_5:Pl:=.x 22 (.pick (.v 17) (.c (.bool true)) (.v 21)) .done
abbrev K23_6:Pl:=.x 10 (.un .not (.v 9)) <|
 .m 11 10 <|
 .n 11 (.px (some 12) (.fa 1 (.v 3))) <|
 .n 11 (.ld (some 13) (.v 12) none) <|
 .n 11 (.px (some 14) (.lenV (.v 13))) <|
 .n 11 (.px (some 15) (.bin .gtr (.v 14) (.c (.int .i64 6)))) <|
 .x 16 (.pick (.v 11) (.c (.bool true)) (.v 15)) <|
 .m 17 16 <|
 .n 17 (.px (some 18) (.fa 1 (.v 3))) <|
 .n 17 (.ld (some 19) (.v 18) none) <|
 .n 17 (.px (some 20) (.mkf (.func fn_impl_SystemValid_1) [] [.v 3])) <|
 .st (.act (some (.v 17,false)) (.ex (some 21) (.call fn_slices_ContainsFunc_S_impl_Edge_impl_Edge [.v 19,.v 20]))) K23_5
abbrev K23_7:C:=.seq (.pl <| .e 7 16 <|
 .x 7 (.fa 0 (.v 3)) <|
 .l 8 7 <|
 .c 9 (.call fn_impl_in [.v 8,.c (.int .i64 1),.c (.int .i64 4)]) K23_6) K23_4
abbrev K23_8:Pl:=.o (.ex none (.store 2 (.v 3) (.v 8))) .done
abbrev K23_9:C:=.seq (.block 1 (.seq (.pl <| .e 7 2 <|
 .x 7 (.ia 2 (.v 4) (.v 6)) <|
 .o (.ld (some 8) (.v 7) (some 2)) <|
 .c 3 (.alloc (.c (.agg #[.int .i64 0,.slice none 0 0]))) K23_8) K23_7)) K23_2
abbrev K23_10:C:=.seq (.cond 7 (.v 7) (.skip) (.exit 0)) K23_9
abbrev K23_11:C:=.seq (.pl <| .e 7 1 <|
 .x 7 (.bin .lss (.v 6) (.v 5)) .done) K23_10
abbrev K23_12:C:=.block 0 (.loop 7 [0,1,2,3] K23_11)
abbrev K23_13:C:=.seq (.seq (.pl <| .e 7 1 <|
 .a 7 1 <|
 .g 4 7 1 1 <|
 .x 5 (.lenV (.v 4)) <|
 .x 6 (.mv (.c (.int .i64 0))) .done) K23_12) K23_1
abbrev K23_14:C:=.seq (.pl <| .e 7 0 <|
 .x 2 (.mv (.c (.bool false))) .done) (.ret)
abbrev K23_15:C:=.cond 7 (.v 17) K23_14 (.skip)
abbrev K23_16:Pl:=.n 11 (.px (some 16) (.un .not (.v 15))) <|
 .x 17 (.pick (.v 11) (.c (.bool true)) (.v 16)) .done
abbrev K23_17:Pl:=.x 10 (.un .not (.v 9)) <|
 .m 11 10 <|
 .n 11 (.als 12 none 1) <|
 .n 11 (.pget (some 13) (some 12) 1 1 none) <|
 .n 11 (.px (some 14) (.lenV (.v 13))) <|
 .st (.act (some (.v 11,false)) (.ex (some 15) (.call fn_impl_in [.v 14,.c (.int .i64 1),.c (.int .i64 3)]))) K23_16
abbrev K23_18:C:=.seq (.seq (.pl <| .e 7 11 <|
 .a 7 1 <|
 .g 8 7 1 0 <|
 .c 9 (.call fn_impl_valsOk [.v 8]) K23_17) K23_15) K23_13
abbrev B_impl_SystemValid:C:=.seq (.pl <| .e 7 0 <|
 .o (.pnew 1 (.v 0) []) <|
 .x 2 (.mv (.c (.bool false))) .done) K23_18
def R_impl_SystemValid:FIR:=⟨B_impl_SystemValid,7,[(2,none)]⟩
theorem IR_impl_SystemValid:cfun Tryz.prog H_impl_SystemValid Tryz.f23=some R_impl_SystemValid:=by kernel_rfl
theorem EN_impl_SystemValid:ENT Tryz.prog B_impl_SystemValid [(2,none)] 1 7 fn_impl_SystemValid:=fun hargs hw=>enter Tryz.func23 rfl IR_impl_SystemValid hargs hw
def H_impl_SystemValid_1:Hint:=⟨[(0,false),(1,false),(2,true),(3,false)],[]⟩
abbrev K57_1:Pl:=.x 8 (.un .not (.v 7)) <|
 .m 3 8 .done
abbrev K57_2:C:=.seq (.pl <| .e 4 5 <|
 .o (.pget (some 4) none 2 0 (some 10)) <|
 .x 5 (.fa 0 (.v 1)) <|
 .l 6 5 <|
 .c 7 (.call fn_impl_EdgeValid [.v 4,.v 6]) K57_1) (.ret)
abbrev B_impl_SystemValid_1:C:=.seq (.pl <| .e 4 0 <|
 .o (.pnew 2 (.v 0) []) <|
 .x 3 (.mv (.c (.bool false))) .done) K57_2
def R_impl_SystemValid_1:FIR:=⟨B_impl_SystemValid_1,4,[(3,none)]⟩
theorem IR_impl_SystemValid_1:cfun Tryz.prog H_impl_SystemValid_1 Tryz.f57=some R_impl_SystemValid_1:=by kernel_rfl
theorem EN_impl_SystemValid_1:ENT Tryz.prog B_impl_SystemValid_1 [(3,none)] 2 4 fn_impl_SystemValid_1:=fun hargs hw=>enter Tryz.func57 rfl IR_impl_SystemValid_1 hargs hw
def H_impl_System_copyOf:Hint:=⟨[(0,false),(1,true),(2,true),(3,true),(4,false),(5,true),(6,false),(7,true),(16,false),(17,false),(18,false),(32,false),(33,false),(34,false)],[[0,1,4,5,6,7,11,12,13],[0,1,5,6,7]]⟩
abbrev K24_1:C:=.seq (.pl <| .e 14 1 <|
 .o (.pget (some 14) none 3 0 (some 2)) <|
 .o (.pset none 2 0 2 (.v 14)) .done) (.ret)
abbrev K24_2:C:=.pl <| .e 14 1 <|
 .x 14 (.bin .add (.v 10) (.c (.int .i64 1))) <|
 .m 10 14 .done
abbrev K24_3:C:=.pl <| .e 14 1 <|
 .x 14 (.bin .add (.v 13) (.c (.int .i64 1))) <|
 .m 13 14 .done
abbrev K24_4:Pl:=.st (.re 19 (.v 18) none none) <|
 .x 24 (.ia 10 (.v 19) (.v 20)) <|
 .x 25 (.fa 6 (.v 24)) <|
 .o (.ex none (.store 3 (.v 25) (.v 23))) .done
abbrev K24_5:C:=.pl <| .e 14 12 <|
 .a 14 3 <|
 .g 15 14 3 1 <|
 .m 16 4 <|
 .x 17 (.ia 2 (.v 15) (.v 16)) <|
 .x 18 (.fa 1 (.v 17)) <|
 .l 19 18 <|
 .m 20 6 <|
 .a 21 7 <|
 .o (.pget (some 22) (some 21) 7 6 (some 3)) <|
 .c 23 (.call fn_impl_Expr_copyOf [.v 22]) K24_4
abbrev K24_6:Pl:=.st (.re 19 (.v 18) none none) <|
 .x 24 (.ia 10 (.v 19) (.v 20)) <|
 .x 25 (.fa 2 (.v 24)) <|
 .o (.ex none (.store 3 (.v 25) (.v 23))) .done
abbrev K24_7:C:=.seq (.pl <| .e 14 12 <|
 .a 14 3 <|
 .g 15 14 3 1 <|
 .m 16 4 <|
 .x 17 (.ia 2 (.v 15) (.v 16)) <|
 .x 18 (.fa 1 (.v 17)) <|
 .l 19 18 <|
 .m 20 6 <|
 .a 21 7 <|
 .o (.pget (some 22) (some 21) 7 2 (some 3)) <|
 .c 23 (.call fn_impl_Expr_copyOf [.v 22]) K24_6) K24_5
abbrev K24_8:C:=.seq (.block 3 (.seq (.pl <| .e 14 3 <|
 .m 14 13 <|
 .x 15 (.ia 10 (.v 11) (.v 13)) <|
 .o (.ld (some 16) (.v 15) (some 10)) <|
 .o (.pnew 7 (.c (.agg #[.int .i64 0,.int .i64 0,.int .i64 0,.int .i64 0,.slice none 0 0,.int .i64 0,.int .i64 0,.int .i64 0,.slice none 0 0,.int .i64 0])) []) <|
 .m 6 14 <|
 .o (.pset none 7 0 10 (.v 16)) .done) K24_7)) K24_3
abbrev K24_9:C:=.seq (.cond 14 (.v 14) (.skip) (.exit 2)) K24_8
abbrev K24_10:C:=.seq (.pl <| .e 14 1 <|
 .x 14 (.bin .lss (.v 13) (.v 12)) .done) K24_9
abbrev K24_11:C:=.block 2 (.loop 14 [0,1,5,6,7] K24_10)
abbrev K24_12:C:=.seq (.pl <| .e 14 1 <|
 .a 14 5 <|
 .g 11 14 5 1 <|
 .x 12 (.lenV (.v 11)) <|
 .x 13 (.mv (.c (.int .i64 0))) .done) K24_11
abbrev K24_13:Pl:=.x 20 (.ia 2 (.v 15) (.v 16)) <|
 .x 21 (.fa 1 (.v 20)) <|
 .o (.ex none (.store 1 (.v 21) (.v 19))) .done
abbrev K24_14:C:=.seq (.pl <| .e 14 8 <|
 .a 14 3 <|
 .g 15 14 3 1 <|
 .m 16 4 <|
 .a 17 5 <|
 .g 18 17 5 1 <|
 .c 19 (.call fn_impl_clone_impl_Edge [.v 18]) K24_13) K24_12
abbrev K24_15:C:=.seq (.block 1 (.seq (.pl <| .e 14 3 <|
 .m 14 10 <|
 .x 15 (.ia 2 (.v 8) (.v 10)) <|
 .o (.ld (some 16) (.v 15) (some 2)) <|
 .o (.pnew 5 (.c (.agg #[.int .i64 0,.slice none 0 0])) []) <|
 .m 4 14 <|
 .o (.pset none 5 0 2 (.v 16)) .done) K24_14)) K24_2
abbrev K24_16:C:=.seq (.cond 14 (.v 14) (.skip) (.exit 0)) K24_15
abbrev K24_17:C:=.seq (.pl <| .e 14 1 <|
 .x 14 (.bin .lss (.v 10) (.v 9)) .done) K24_16
abbrev K24_18:C:=.block 0 (.loop 14 [0,1,4,5,6,7,11,12,13] K24_17)
abbrev K24_19:C:=.seq (.seq (.pl <| .e 14 1 <|
 .a 14 1 <|
 .g 8 14 1 1 <|
 .x 9 (.lenV (.v 8)) <|
 .x 10 (.mv (.c (.int .i64 0))) .done) K24_18) K24_1
abbrev K24_20:Pl:=.x 20 (.build [.slice none 0 0,.slice none 0 0] [(0,1,.v 16),(1,1,.v 19)]) <|
 .o (.pset none 3 0 2 (.v 20)) .done
abbrev K24_21:Pl:=.c 19 (.call fn_impl_clone_impl_Process [.v 18]) K24_20
abbrev K24_22:C:=.seq (.pl <| .e 14 7 <|
 .a 14 1 <|
 .g 15 14 1 0 <|
 .a 17 1 <|
 .g 18 17 1 1 <|
 .o (.pnew 3 (.c (.agg #[.slice none 0 0,.slice none 0 0])) []) <|
 .c 16 (.call fn_impl_clone_int [.v 15]) K24_21) K24_19
abbrev B_impl_System_copyOf:C:=.seq (.pl <| .e 14 0 <|
 .o (.pnew 1 (.v 0) []) <|
 .o (.pnew 2 (.c (.agg #[.slice none 0 0,.slice none 0 0])) []) .done) K24_22
def R_impl_System_copyOf:FIR:=⟨B_impl_System_copyOf,14,[(2,some (some 2))]⟩
theorem IR_impl_System_copyOf:cfun Tryz.prog H_impl_System_copyOf Tryz.f24=some R_impl_System_copyOf:=by kernel_rfl
theorem EN_impl_System_copyOf:ENT Tryz.prog B_impl_System_copyOf [(2,some (some 2))] 1 14 fn_impl_System_copyOf:=fun hargs hw=>enter Tryz.func24 rfl IR_impl_System_copyOf hargs hw
def H_impl_clone_impl_Edge:Hint:=⟨[(0,false),(2,false)],[]⟩
abbrev K61_1:Pl:=.m 1 4 .done
abbrev K61_2:Pl:=.c 4 (.call fn_slices_Clip_S_impl_Edge_impl_Edge [.v 3]) K61_1
abbrev K61_3:C:=.seq (.pl <| .e 2 3 <|
 .m 2 0 <|
 .c 3 (.call fn_slices_Clone_S_impl_Edge_impl_Edge [.v 2]) K61_2) (.ret)
abbrev B_impl_clone_impl_Edge:C:=.seq (.pl <| .e 2 0 <|
 .x 1 (.mv (.c (.slice none 0 0))) .done) K61_3
def R_impl_clone_impl_Edge:FIR:=⟨B_impl_clone_impl_Edge,2,[(1,none)]⟩
theorem IR_impl_clone_impl_Edge:cfun Tryz.prog H_impl_clone_impl_Edge Tryz.f61=some R_impl_clone_impl_Edge:=by kernel_rfl
theorem EN_impl_clone_impl_Edge:ENT Tryz.prog B_impl_clone_impl_Edge [(1,none)] 1 2 fn_impl_clone_impl_Edge:=fun hargs hw=>enter Tryz.func61 rfl IR_impl_clone_impl_Edge hargs hw
def H_impl_clone_impl_Expr:Hint:=⟨[(0,false),(2,false)],[]⟩
abbrev K94_1:Pl:=.m 1 4 .done
abbrev K94_2:Pl:=.c 4 (.call fn_slices_Clip_S_impl_Expr_impl_Expr [.v 3]) K94_1
abbrev K94_3:C:=.seq (.pl <| .e 2 3 <|
 .m 2 0 <|
 .c 3 (.call fn_slices_Clone_S_impl_Expr_impl_Expr [.v 2]) K94_2) (.ret)
abbrev B_impl_clone_impl_Expr:C:=.seq (.pl <| .e 2 0 <|
 .x 1 (.mv (.c (.slice none 0 0))) .done) K94_3
def R_impl_clone_impl_Expr:FIR:=⟨B_impl_clone_impl_Expr,2,[(1,none)]⟩
theorem IR_impl_clone_impl_Expr:cfun Tryz.prog H_impl_clone_impl_Expr Tryz.f94=some R_impl_clone_impl_Expr:=by kernel_rfl
theorem EN_impl_clone_impl_Expr:ENT Tryz.prog B_impl_clone_impl_Expr [(1,none)] 1 2 fn_impl_clone_impl_Expr:=fun hargs hw=>enter Tryz.func94 rfl IR_impl_clone_impl_Expr hargs hw
def H_impl_clone_impl_Process:Hint:=⟨[(0,false),(2,false)],[]⟩
abbrev K60_1:Pl:=.m 1 4 .done
abbrev K60_2:Pl:=.c 4 (.call fn_slices_Clip_S_impl_Process_impl_Process [.v 3]) K60_1
abbrev K60_3:C:=.seq (.pl <| .e 2 3 <|
 .m 2 0 <|
 .c 3 (.call fn_slices_Clone_S_impl_Process_impl_Process [.v 2]) K60_2) (.ret)
abbrev B_impl_clone_impl_Process:C:=.seq (.pl <| .e 2 0 <|
 .x 1 (.mv (.c (.slice none 0 0))) .done) K60_3
def R_impl_clone_impl_Process:FIR:=⟨B_impl_clone_impl_Process,2,[(1,none)]⟩
theorem IR_impl_clone_impl_Process:cfun Tryz.prog H_impl_clone_impl_Process Tryz.f60=some R_impl_clone_impl_Process:=by kernel_rfl
theorem EN_impl_clone_impl_Process:ENT Tryz.prog B_impl_clone_impl_Process [(1,none)] 1 2 fn_impl_clone_impl_Process:=fun hargs hw=>enter Tryz.func60 rfl IR_impl_clone_impl_Process hargs hw
def H_impl_clone_int:Hint:=⟨[(0,false),(2,false)],[]⟩
abbrev K59_1:Pl:=.m 1 4 .done
abbrev K59_2:Pl:=.c 4 (.call fn_slices_Clip_S_int_int [.v 3]) K59_1
abbrev K59_3:C:=.seq (.pl <| .e 2 3 <|
 .m 2 0 <|
 .c 3 (.call fn_slices_Clone_S_int_int [.v 2]) K59_2) (.ret)
abbrev B_impl_clone_int:C:=.seq (.pl <| .e 2 0 <|
 .x 1 (.mv (.c (.slice none 0 0))) .done) K59_3
def R_impl_clone_int:FIR:=⟨B_impl_clone_int,2,[(1,none)]⟩
theorem IR_impl_clone_int:cfun Tryz.prog H_impl_clone_int Tryz.f59=some R_impl_clone_int:=by kernel_rfl
theorem EN_impl_clone_int:ENT Tryz.prog B_impl_clone_int [(1,none)] 1 2 fn_impl_clone_int:=fun hargs hw=>enter Tryz.func59 rfl IR_impl_clone_int hargs hw
def H_impl_in:Hint:=⟨[(0,false),(1,false),(2,false),(6,false)],[]⟩
abbrev K55_1:C:=.seq (.pl <| .e 4 8 <|
 .m 4 0 <|
 .m 5 1 <|
 .x 6 (.bin .geq (.v 4) (.v 5)) <|
 .m 7 6 <|
 .y 7 (.px (some 8) (.mv (.v 0))) <|
 .y 7 (.px (some 9) (.mv (.v 2))) <|
 .y 7 (.px (some 10) (.bin .leq (.v 8) (.v 9))) <|
 .x 11 (.pick (.v 7) (.v 10) (.c (.bool false))) <|
 .m 3 11 .done) (.ret)
abbrev B_impl_in:C:=.seq (.pl <| .e 4 0 <|
 .x 3 (.mv (.c (.bool false))) .done) K55_1
def R_impl_in:FIR:=⟨B_impl_in,4,[(3,none)]⟩
theorem IR_impl_in:cfun Tryz.prog H_impl_in Tryz.f55=some R_impl_in:=by kernel_rfl
theorem EN_impl_in:ENT Tryz.prog B_impl_in [(3,none)] 3 4 fn_impl_in:=fun hargs hw=>enter Tryz.func55 rfl IR_impl_in hargs hw
def H_impl_parseEdge:Hint:=⟨[(0,false),(2,true),(3,false),(4,true),(5,false),(6,true),(7,false),(8,false),(9,false),(10,true),(11,false)],[]⟩
abbrev K22_1:C:=.seq (.pl <| .e 11 2 <|
 .o (.pget (some 11) none 5 0 (some 10)) <|
 .m 12 4 <|
 .o (.pset none 1 0 10 (.v 11)) <|
 .m 2 12 .done) (.ret)
abbrev K22_2:C:=.pl <| .e 11 4 <|
 .a 11 5 <|
 .g 12 11 5 9 <|
 .x 13 (.un .neg (.v 12)) <|
 .a 14 5 <|
 .o (.pset (some 14) 5 9 1 (.v 13)) .done
abbrev K22_3:C:=.cond 11 (.v 15) K22_2 (.skip)
abbrev K22_4:C:=.seq (.pl <| .e 11 5 <|
 .m 11 0 <|
 .x 12 (.ia 1 (.v 11) (.c (.int .i64 5))) <|
 .l 13 12 <|
 .x 14 (.idxS (.v 13) (.c (.int .i64 0))) <|
 .x 15 (.bin .eql (.v 14) (.c (.int .u8 63))) .done) K22_3
abbrev K22_5:Pl:=.a 16 5 <|
 .o (.pset (some 16) 5 9 1 (.v 15)) .done
abbrev K22_6:C:=.seq (.pl <| .e 11 6 <|
 .m 11 0 <|
 .x 12 (.ia 1 (.v 11) (.c (.int .i64 5))) <|
 .l 13 12 <|
 .x 14 (.sliceS (.v 13) (some (.c (.int .i64 1))) none) <|
 .c 15 (.call fn_impl_small [.v 14]) K22_5) K22_4
abbrev K22_7:C:=.cond 11 (.v 15) K22_6 (.skip)
abbrev K22_8:C:=.seq (.seq (.pl <| .e 11 5 <|
 .m 11 0 <|
 .x 12 (.ia 1 (.v 11) (.c (.int .i64 5))) <|
 .l 13 12 <|
 .x 14 (.lenS (.v 13)) <|
 .x 15 (.bin .eql (.v 14) (.c (.int .i64 2))) .done) K22_7) K22_1
abbrev K22_9:Pl:=.a 14 5 <|
 .o (.pset (some 14) 5 5 1 (.v 12)) <|
 .a 15 5 <|
 .o (.pset (some 15) 5 6 3 (.v 13)) .done
abbrev K22_10:C:=.pl <| .e 11 5 <|
 .m 11 6 <|
 .o (.pget (some 13) none 9 0 (some 3)) <|
 .c 12 (.call fn_strings_Index [.c (.string ⟨#[120,121,122]⟩),.v 11]) K22_9
abbrev K22_11:C:=.seq (.pl <| .e 11 1 <|
 .x 11 (.build [.int .i64 0,.int .i64 0,.int .i64 0,.int .i64 0,.slice none 0 0,.int .i64 0,.int .i64 0,.int .i64 0,.slice none 0 0,.int .i64 0] []) <|
 .o (.pset none 1 0 10 (.v 11)) <|
 .x 2 (.mv (.c (.bool false))) .done) (.ret)
abbrev K22_12:C:=.cond 11 (.v 17) K22_11 (.skip)
abbrev K22_13:C:=.seq (.seq (.pl <| .e 11 7 <|
 .m 11 6 <|
 .x 12 (.lenS (.v 11)) <|
 .x 13 (.bin .neq (.v 12) (.c (.int .i64 1))) <|
 .m 14 13 <|
 .n 14 (.px (some 15) (.mv (.v 10))) <|
 .n 14 (.px (some 16) (.un .not (.v 15))) <|
 .x 17 (.pick (.v 14) (.c (.bool true)) (.v 16)) .done) K22_12) K22_10
abbrev K22_14:Pl:=.m 13 12 <|
 .x 14 (.extract 0 (.v 13)) <|
 .x 15 (.extract 1 (.v 13)) <|
 .o (.pnew 9 (.c (.agg #[.int .i64 0,.int .i64 0,.slice none 0 0])) []) <|
 .o (.pset none 9 0 3 (.v 14)) <|
 .m 10 15 .done
abbrev K22_15:C:=.seq (.pl <| .e 11 5 <|
 .m 11 7 <|
 .c 12 (.call fn_impl_ParseExpr [.v 11]) K22_14) K22_13
abbrev K22_16:C:=.cond 11 (.v 11) K22_15 (.skip)
abbrev K22_17:C:=.seq (.pl <| .e 11 1 <|
 .m 11 8 .done) K22_16
abbrev K22_18:Pl:=.m 15 14 <|
 .x 16 (.extract 0 (.v 15)) <|
 .x 17 (.extract 1 (.v 15)) <|
 .x 18 (.extract 2 (.v 15)) <|
 .m 6 16 <|
 .m 7 17 <|
 .m 8 18 .done
abbrev K22_19:C:=.seq (.seq (.pl <| .e 11 8 <|
 .m 11 0 <|
 .x 12 (.ia 1 (.v 11) (.c (.int .i64 4))) <|
 .l 13 12 <|
 .c 14 (.call fn_strings_Cut [.v 13,.c (.string ⟨#[58,61]⟩)]) K22_18) K22_17) K22_8
abbrev K22_20:Pl:=.x 20 (.build [.int .i64 0,.int .i64 0,.int .i64 0,.int .i64 0,.slice none 0 0,.int .i64 0,.int .i64 0,.int .i64 0,.slice none 0 0,.int .i64 0] [(0,1,.v 14),(1,1,.v 18),(2,3,.v 19),(5,1,.c (.int .i64 (-1)))]) <|
 .o (.pset none 5 0 10 (.v 20)) .done
abbrev K22_21:Pl:=.st (.re 17 (.v 16) none none) <|
 .c 18 (.call fn_impl_small [.v 17]) K22_20
abbrev K22_22:C:=.seq (.pl <| .e 11 10 <|
 .m 11 0 <|
 .x 12 (.ia 1 (.v 11) (.c (.int .i64 1))) <|
 .l 13 12 <|
 .m 15 0 <|
 .x 16 (.ia 1 (.v 15) (.c (.int .i64 2))) <|
 .l 17 16 <|
 .o (.pget (some 19) none 3 0 (some 3)) <|
 .o (.pnew 5 (.c (.agg #[.int .i64 0,.int .i64 0,.int .i64 0,.int .i64 0,.slice none 0 0,.int .i64 0,.int .i64 0,.int .i64 0,.slice none 0 0,.int .i64 0])) []) <|
 .c 14 (.call fn_impl_small [.v 13]) K22_21) K22_19
abbrev K22_23:Pl:=.m 15 14 <|
 .x 16 (.extract 0 (.v 15)) <|
 .x 17 (.extract 1 (.v 15)) <|
 .o (.pnew 3 (.c (.agg #[.int .i64 0,.int .i64 0,.slice none 0 0])) []) <|
 .o (.pset none 3 0 3 (.v 16)) <|
 .m 4 17 .done
abbrev K22_24:C:=.seq (.pl <| .e 11 7 <|
 .m 11 0 <|
 .x 12 (.ia 1 (.v 11) (.c (.int .i64 3))) <|
 .l 13 12 <|
 .c 14 (.call fn_impl_ParseExpr [.v 13]) K22_23) K22_22
abbrev B_impl_parseEdge:C:=.seq (.pl <| .e 11 0 <|
 .o (.pnew 1 (.c (.agg #[.int .i64 0,.int .i64 0,.int .i64 0,.int .i64 0,.slice none 0 0,.int .i64 0,.int .i64 0,.int .i64 0,.slice none 0 0,.int .i64 0])) []) <|
 .x 2 (.mv (.c (.bool false))) .done) K22_24
def R_impl_parseEdge:FIR:=⟨B_impl_parseEdge,11,[(1,some (some 10)),(2,none)]⟩
theorem IR_impl_parseEdge:cfun Tryz.prog H_impl_parseEdge Tryz.f22=some R_impl_parseEdge:=by kernel_rfl
theorem EN_impl_parseEdge:ENT Tryz.prog B_impl_parseEdge [(1,some (some 10)),(2,none)] 1 11 fn_impl_parseEdge:=fun hargs hw=>enter Tryz.func22 rfl IR_impl_parseEdge hargs hw
def H_impl_reader_expr:Hint:=⟨[(0,false),(1,false),(4,true),(5,false),(6,true),(7,false),(8,true)],[]⟩
abbrev K81_1:Pl:=.x 11 (.build [.int .i64 0,.int .i64 0,.slice none 0 0] [(0,1,.v 7),(2,1,.v 10)]) <|
 .o (.pset none 2 0 3 (.v 11)) .done
abbrev K81_2:C:=.seq (.pl <| .e 7 5 <|
 .m 7 5 <|
 .o (.pget (some 8) none 4 0 (some 3)) <|
 .o (.pget (some 9) none 6 0 (some 3)) <|
 .c 10 (.bls 3 2 [.int .i64 0,.int .i64 0,.slice none 0 0] [(0,3,.v 8),(3,3,.v 9)]) K81_1) (.ret)
abbrev K81_3:C:=.seq (.pl <| .e 7 2 <|
 .m 7 0 <|
 .c 8 (.call fn_impl_reader_take [.v 7,.c (.string ⟨#[41]⟩)]) .done) K81_2
abbrev K81_4:Pl:=.o (.pnew 6 (.c (.agg #[.int .i64 0,.int .i64 0,.slice none 0 0])) []) <|
 .o (.pset none 6 0 3 (.v 10)) .done
abbrev K81_5:C:=.seq (.pl <| .e 7 4 <|
 .m 7 0 <|
 .m 8 1 <|
 .x 9 (.bin .add (.v 8) (.c (.int .i64 1))) <|
 .c 10 (.call fn_impl_reader_expr [.v 7,.v 9]) K81_4) K81_3
abbrev K81_6:Pl:=.x 9 (.bin .add (.c (.int .i64 4)) (.v 8)) <|
 .m 5 9 .done
abbrev K81_7:C:=.seq (.pl <| .e 7 3 <|
 .m 7 0 <|
 .c 8 (.call fn_impl_reader_take [.v 7,.c (.string ⟨#[38,124,61,60,43,45]⟩)]) K81_6) K81_5
abbrev K81_8:Pl:=.o (.pnew 4 (.c (.agg #[.int .i64 0,.int .i64 0,.slice none 0 0])) []) <|
 .o (.pset none 4 0 3 (.v 10)) .done
abbrev K81_9:C:=.seq (.pl <| .e 7 4 <|
 .m 7 0 <|
 .m 8 1 <|
 .x 9 (.bin .add (.v 8) (.c (.int .i64 1))) <|
 .c 10 (.call fn_impl_reader_expr [.v 7,.v 9]) K81_8) K81_7
abbrev K81_10:C:=.seq (.pl <| .e 7 1 <|
 .x 7 (.build [.int .i64 0,.int .i64 0,.slice none 0 0] []) <|
 .o (.pset none 2 0 3 (.v 7)) .done) (.ret)
abbrev K81_11:C:=.seq (.pl <| .e 7 2 <|
 .m 7 3 <|
 .x 8 (.build [.int .i64 0,.int .i64 0,.slice none 0 0] [(0,1,.c (.int .i64 1)),(1,1,.v 7)]) <|
 .o (.pset none 2 0 3 (.v 8)) .done) (.ret)
abbrev K81_12:C:=.seq (.pl <| .e 7 3 <|
 .m 7 3 <|
 .x 8 (.bin .sub (.v 7) (.c (.int .i64 4))) <|
 .x 9 (.build [.int .i64 0,.int .i64 0,.slice none 0 0] [(0,1,.c (.int .i64 2)),(1,1,.v 8)]) <|
 .o (.pset none 2 0 3 (.v 9)) .done) (.ret)
abbrev K81_13:Pl:=.x 12 (.build [.int .i64 0,.int .i64 0,.slice none 0 0] [(0,1,.c (.int .i64 3)),(2,1,.v 11)]) <|
 .o (.pset none 2 0 3 (.v 12)) .done
abbrev K81_14:Pl:=.c 11 (.bls 3 1 [.int .i64 0,.int .i64 0,.slice none 0 0] [(0,3,.v 10)]) K81_13
abbrev K81_15:C:=.seq (.pl <| .e 7 6 <|
 .m 7 0 <|
 .m 8 1 <|
 .x 9 (.bin .add (.v 8) (.c (.int .i64 1))) <|
 .c 10 (.call fn_impl_reader_expr [.v 7,.v 9]) K81_14) (.ret)
abbrev K81_16:C:=.cond 7 (.v 9) K81_15 (.skip)
abbrev K81_17:C:=.seq (.pl <| .e 7 3 <|
 .m 7 3 <|
 .x 8 (.bin .eql (.v 7) (.c (.int .i64 7))) <|
 .m 9 8 .done) K81_16
abbrev K81_18:C:=.cond 7 (.v 9) K81_12 K81_17
abbrev K81_19:C:=.seq (.pl <| .e 7 3 <|
 .m 7 3 <|
 .x 8 (.bin .lss (.v 7) (.c (.int .i64 7))) <|
 .m 9 8 .done) K81_18
abbrev K81_20:C:=.cond 7 (.v 9) K81_11 K81_19
abbrev K81_21:C:=.seq (.pl <| .e 7 3 <|
 .m 7 3 <|
 .x 8 (.bin .lss (.v 7) (.c (.int .i64 4))) <|
 .m 9 8 .done) K81_20
abbrev K81_22:C:=.cond 7 (.v 11) K81_10 K81_21
abbrev K81_23:C:=.block 0 (.seq (.pl <| .e 7 5 <|
 .m 7 0 <|
 .x 8 (.nilc (.v 7)) <|
 .x 9 (.fa 1 (.v 8)) <|
 .l 10 9 <|
 .m 11 10 .done) K81_22)
abbrev K81_24:Pl:=.m 3 8 .done
abbrev K81_25:C:=.seq (.seq (.pl <| .e 7 2 <|
 .m 7 0 <|
 .c 8 (.call fn_impl_reader_take [.v 7,.c (.string ⟨#[48,49,50,51,120,121,122,33,40]⟩)]) K81_24) K81_23) K81_9
abbrev K81_26:C:=.pl <| .e 7 3 <|
 .m 7 0 <|
 .x 8 (.nilc (.v 7)) <|
 .x 9 (.fa 1 (.v 8)) <|
 .o (.ex none (.store 1 (.v 9) (.c (.bool true)))) .done
abbrev K81_27:C:=.cond 7 (.v 8) K81_26 (.skip)
abbrev K81_28:C:=.seq (.seq (.pl <| .e 7 2 <|
 .m 7 1 <|
 .x 8 (.bin .gtr (.v 7) (.c (.int .i64 6))) .done) K81_27) K81_25
abbrev B_impl_reader_expr:C:=.seq (.pl <| .e 7 0 <|
 .o (.pnew 2 (.c (.agg #[.int .i64 0,.int .i64 0,.slice none 0 0])) []) .done) K81_28
def R_impl_reader_expr:FIR:=⟨B_impl_reader_expr,7,[(2,some (some 3))]⟩
theorem IR_impl_reader_expr:cfun Tryz.prog H_impl_reader_expr Tryz.f81=some R_impl_reader_expr:=by kernel_rfl
theorem EN_impl_reader_expr:ENT Tryz.prog B_impl_reader_expr [(2,some (some 3))] 2 7 fn_impl_reader_expr:=fun hargs hw=>enter Tryz.func81 rfl IR_impl_reader_expr hargs hw
def H_impl_reader_take:Hint:=⟨[(0,false),(1,false),(4,false),(5,false)],[]⟩
abbrev K113_1:C:=.seq (.pl <| .e 4 1 <|
 .m 4 3 <|
 .m 2 4 .done) (.ret)
abbrev K113_2:C:=.seq (.pl <| .e 4 8 <|
 .m 4 0 <|
 .m 5 0 <|
 .x 6 (.nilc (.v 5)) <|
 .x 7 (.fa 0 (.v 6)) <|
 .l 8 7 <|
 .x 9 (.sliceS (.v 8) (some (.c (.int .i64 1))) none) <|
 .x 10 (.nilc (.v 4)) <|
 .x 11 (.fa 0 (.v 10)) <|
 .o (.ex none (.store 1 (.v 11) (.v 9))) .done) K113_1
abbrev K113_3:C:=.seq (.pl <| .e 4 0 <|
 .x 2 (.mv (.c (.int .i64 (-1)))) .done) (.ret)
abbrev K113_4:C:=.seq (.pl <| .e 4 3 <|
 .m 4 0 <|
 .x 5 (.nilc (.v 4)) <|
 .x 6 (.fa 1 (.v 5)) <|
 .o (.ex none (.store 1 (.v 6) (.c (.bool true)))) .done) K113_3
abbrev K113_5:C:=.cond 4 (.v 5) K113_4 (.skip)
abbrev K113_6:C:=.seq (.seq (.pl <| .e 4 2 <|
 .m 4 3 <|
 .x 5 (.bin .lss (.v 4) (.c (.int .i64 0))) .done) K113_5) K113_2
abbrev K113_7:Pl:=.m 3 10 .done
abbrev K113_8:C:=.seq (.pl <| .e 4 7 <|
 .m 4 1 <|
 .m 5 0 <|
 .x 6 (.nilc (.v 5)) <|
 .x 7 (.fa 0 (.v 6)) <|
 .l 8 7 <|
 .x 9 (.idxS (.v 8) (.c (.int .i64 0))) <|
 .c 10 (.call fn_strings_IndexByte [.v 4,.v 9]) K113_7) K113_6
abbrev K113_9:C:=.seq (.pl <| .e 4 0 <|
 .x 2 (.mv (.c (.int .i64 (-1)))) .done) (.ret)
abbrev K113_10:C:=.seq (.pl <| .e 4 3 <|
 .m 4 0 <|
 .x 5 (.nilc (.v 4)) <|
 .x 6 (.fa 1 (.v 5)) <|
 .o (.ex none (.store 1 (.v 6) (.c (.bool true)))) .done) K113_9
abbrev K113_11:C:=.cond 4 (.v 14) K113_10 (.skip)
abbrev K113_12:C:=.seq (.seq (.pl <| .e 4 11 <|
 .m 4 0 <|
 .x 5 (.nilc (.v 4)) <|
 .x 6 (.fa 1 (.v 5)) <|
 .l 7 6 <|
 .m 8 7 <|
 .n 8 (.px (some 9) (.mv (.v 0))) <|
 .n 8 (.px (some 10) (.nilc (.v 9))) <|
 .n 8 (.px (some 11) (.fa 0 (.v 10))) <|
 .n 8 (.ld (some 12) (.v 11) none) <|
 .n 8 (.px (some 13) (.bin .eql (.v 12) (.c (.string ⟨#[]⟩)))) <|
 .x 14 (.pick (.v 8) (.c (.bool true)) (.v 13)) .done) K113_11) K113_8
abbrev B_impl_reader_take:C:=.seq (.pl <| .e 4 0 <|
 .x 2 (.mv (.c (.int .i64 0))) .done) K113_12
def R_impl_reader_take:FIR:=⟨B_impl_reader_take,4,[(2,none)]⟩
theorem IR_impl_reader_take:cfun Tryz.prog H_impl_reader_take Tryz.f113=some R_impl_reader_take:=by kernel_rfl
theorem EN_impl_reader_take:ENT Tryz.prog B_impl_reader_take [(2,none)] 2 4 fn_impl_reader_take:=fun hargs hw=>enter Tryz.func113 rfl IR_impl_reader_take hargs hw
def H_impl_row:Hint:=⟨[(0,false),(2,false)],[]⟩
abbrev K32_1:Pl:=.x 4 (.bin .add (.v 3) (.c (.string ⟨#[10]⟩))) <|
 .m 1 4 .done
abbrev K32_2:C:=.seq (.pl <| .e 2 3 <|
 .m 2 0 <|
 .c 3 (.call fn_strings_Join [.v 2,.c (.string ⟨#[32]⟩)]) K32_1) (.ret)
abbrev B_impl_row:C:=.seq (.pl <| .e 2 0 <|
 .x 1 (.mv (.c (.string ⟨#[]⟩))) .done) K32_2
def R_impl_row:FIR:=⟨B_impl_row,2,[(1,none)]⟩
theorem IR_impl_row:cfun Tryz.prog H_impl_row Tryz.f32=some R_impl_row:=by kernel_rfl
theorem EN_impl_row:ENT Tryz.prog B_impl_row [(1,none)] 1 2 fn_impl_row:=fun hargs hw=>enter Tryz.func32 rfl IR_impl_row hargs hw
def H_impl_small:Hint:=⟨[(0,false),(2,false)],[]⟩
abbrev K21_1:C:=.seq (.pl <| .e 2 4 <|
 .m 2 0 <|
 .x 3 (.idxS (.v 2) (.c (.int .i64 0))) <|
 .x 4 (.bin .sub (.v 3) (.c (.int .u8 48))) <|
 .x 5 (.conv .i64 (.v 4)) <|
 .m 1 5 .done) (.ret)
abbrev K21_2:C:=.seq (.pl <| .e 2 0 <|
 .x 1 (.mv (.c (.int .i64 (-1)))) .done) (.ret)
abbrev K21_3:C:=.cond 2 (.v 14) K21_2 (.skip)
abbrev K21_4:C:=.seq (.seq (.pl <| .e 2 13 <|
 .m 2 0 <|
 .x 3 (.lenS (.v 2)) <|
 .x 4 (.bin .neq (.v 3) (.c (.int .i64 1))) <|
 .m 5 4 <|
 .n 5 (.px (some 6) (.mv (.v 0))) <|
 .n 5 (.px (some 7) (.idxS (.v 6) (.c (.int .i64 0)))) <|
 .n 5 (.px (some 8) (.bin .lss (.v 7) (.c (.int .u8 48)))) <|
 .x 9 (.pick (.v 5) (.c (.bool true)) (.v 8)) <|
 .m 10 9 <|
 .n 10 (.px (some 11) (.mv (.v 0))) <|
 .n 10 (.px (some 12) (.idxS (.v 11) (.c (.int .i64 0)))) <|
 .n 10 (.px (some 13) (.bin .gtr (.v 12) (.c (.int .u8 57)))) <|
 .x 14 (.pick (.v 10) (.c (.bool true)) (.v 13)) .done) K21_3) K21_1
abbrev B_impl_small:C:=.seq (.pl <| .e 2 0 <|
 .x 1 (.mv (.c (.int .i64 0))) .done) K21_4
def R_impl_small:FIR:=⟨B_impl_small,2,[(1,none)]⟩
theorem IR_impl_small:cfun Tryz.prog H_impl_small Tryz.f21=some R_impl_small:=by kernel_rfl
theorem EN_impl_small:ENT Tryz.prog B_impl_small [(1,none)] 1 2 fn_impl_small:=fun hargs hw=>enter Tryz.func21 rfl IR_impl_small hargs hw
def H_impl_syncText:Hint:=⟨[(0,false),(2,false)],[]⟩
abbrev K35_1:C:=.seq (.pl <| .e 2 0 <|
 .x 1 (.mv (.c (.string ⟨#[45]⟩))) .done) (.ret)
abbrev K35_2:Pl:=.x 4 (.bin .add (.c (.string ⟨#[33]⟩)) (.v 3)) <|
 .m 1 4 .done
abbrev K35_3:C:=.seq (.pl <| .e 2 3 <|
 .m 2 0 <|
 .c 3 (.call fn_strconv_Itoa [.v 2]) K35_2) (.ret)
abbrev K35_4:Pl:=.x 5 (.bin .add (.c (.string ⟨#[63]⟩)) (.v 4)) <|
 .m 1 5 .done
abbrev K35_5:C:=.seq (.pl <| .e 2 4 <|
 .m 2 0 <|
 .x 3 (.un .neg (.v 2)) <|
 .c 4 (.call fn_strconv_Itoa [.v 3]) K35_4) (.ret)
abbrev K35_6:C:=.cond 2 (.v 4) K35_5 (.skip)
abbrev K35_7:C:=.seq (.pl <| .e 2 3 <|
 .m 2 0 <|
 .x 3 (.bin .lss (.v 2) (.c (.int .i64 0))) <|
 .m 4 3 .done) K35_6
abbrev K35_8:C:=.cond 2 (.v 4) K35_3 K35_7
abbrev K35_9:C:=.seq (.block 0 (.seq (.pl <| .e 2 3 <|
 .m 2 0 <|
 .x 3 (.bin .gtr (.v 2) (.c (.int .i64 0))) <|
 .m 4 3 .done) K35_8)) K35_1
abbrev B_impl_syncText:C:=.seq (.pl <| .e 2 0 <|
 .x 1 (.mv (.c (.string ⟨#[]⟩))) .done) K35_9
def R_impl_syncText:FIR:=⟨B_impl_syncText,2,[(1,none)]⟩
theorem IR_impl_syncText:cfun Tryz.prog H_impl_syncText Tryz.f35=some R_impl_syncText:=by kernel_rfl
theorem EN_impl_syncText:ENT Tryz.prog B_impl_syncText [(1,none)] 1 2 fn_impl_syncText:=fun hargs hw=>enter Tryz.func35 rfl IR_impl_syncText hargs hw
def H_impl_valsOk:Hint:=⟨[(0,false),(2,false)],[]⟩
abbrev K54_1:Pl:=.y 5 (.px (some 8) (.un .not (.v 7))) <|
 .x 9 (.pick (.v 5) (.v 8) (.c (.bool false))) <|
 .m 1 9 .done
abbrev K54_2:C:=.seq (.pl <| .e 2 8 <|
 .m 2 0 <|
 .x 3 (.lenV (.v 2)) <|
 .x 4 (.bin .eql (.v 3) (.c (.int .i64 3))) <|
 .m 5 4 <|
 .y 5 (.px (some 6) (.mv (.v 0))) <|
 .st (.act (some (.v 5,true)) (.ex (some 7) (.call fn_slices_ContainsFunc_S_int_int [.v 6,.c (.func (.func 86) #[] #[])]))) K54_1) (.ret)
abbrev B_impl_valsOk:C:=.seq (.pl <| .e 2 0 <|
 .x 1 (.mv (.c (.bool false))) .done) K54_2
def R_impl_valsOk:FIR:=⟨B_impl_valsOk,2,[(1,none)]⟩
theorem IR_impl_valsOk:cfun Tryz.prog H_impl_valsOk Tryz.f54=some R_impl_valsOk:=by kernel_rfl
theorem EN_impl_valsOk:ENT Tryz.prog B_impl_valsOk [(1,none)] 1 2 fn_impl_valsOk:=fun hargs hw=>enter Tryz.func54 rfl IR_impl_valsOk hargs hw
def H_impl_valsOk_1:Hint:=⟨[(0,false),(2,false)],[]⟩
abbrev K86_1:Pl:=.x 4 (.un .not (.v 3)) <|
 .m 1 4 .done
abbrev K86_2:C:=.seq (.pl <| .e 2 3 <|
 .m 2 0 <|
 .c 3 (.call fn_impl_in [.v 2,.c (.int .i64 0),.c (.int .i64 3)]) K86_1) (.ret)
abbrev B_impl_valsOk_1:C:=.seq (.pl <| .e 2 0 <|
 .x 1 (.mv (.c (.bool false))) .done) K86_2
def R_impl_valsOk_1:FIR:=⟨B_impl_valsOk_1,2,[(1,none)]⟩
theorem IR_impl_valsOk_1:cfun Tryz.prog H_impl_valsOk_1 Tryz.f86=some R_impl_valsOk_1:=by kernel_rfl
theorem EN_impl_valsOk_1:ENT Tryz.prog B_impl_valsOk_1 [(1,none)] 1 2 fn_impl_valsOk_1:=fun hargs hw=>enter Tryz.func86 rfl IR_impl_valsOk_1 hargs hw
def H_internal_strconv_FormatInt:Hint:=⟨[(0,false),(1,false),(4,false),(5,false),(6,false),(7,false),(9,false)],[]⟩
abbrev K104_1:C:=.seq (.pl <| .e 7 1 <|
 .m 7 6 <|
 .m 2 7 .done) (.ret)
abbrev K104_2:Pl:=.m 13 12 <|
 .x 14 (.extract 0 (.v 13)) <|
 .x 15 (.extract 1 (.v 13)) <|
 .m 16 14 <|
 .m 6 15 .done
abbrev K104_3:C:=.seq (.pl <| .e 7 10 <|
 .m 7 0 <|
 .x 8 (.conv .u64 (.v 7)) <|
 .m 9 1 <|
 .m 10 0 <|
 .x 11 (.bin .lss (.v 10) (.c (.int .i64 0))) <|
 .c 12 (.call fn_internal_strconv_formatBits [.c (.slice none 0 0),.v 8,.v 9,.v 11,.c (.bool false)]) K104_2) K104_1
abbrev K104_4:Pl:=.m 2 10 .done
abbrev K104_5:C:=.seq (.pl <| .e 7 4 <|
 .m 7 5 <|
 .x 8 (.bin .add (.c (.int .i64 1)) (.v 7)) <|
 .o (.px none (.extract 0 (.c (.tuple #[])))) <|
 .c 10 (.bstr (.v 9)) K104_4) (.ret)
abbrev K104_6:Pl:=.m 2 10 .done
abbrev K104_7:C:=.seq (.pl <| .e 7 4 <|
 .m 7 5 <|
 .x 8 (.bin .add (.c (.int .i64 1)) (.v 7)) <|
 .o (.px none (.extract 0 (.c (.tuple #[])))) <|
 .c 10 (.bstr (.v 9)) K104_6) (.ret)
abbrev K104_8:C:=.seq (.pl <| .e 7 1 <|
 .x 7 (.iaA 24 1 (.v 3) (.c (.int .i64 0))) <|
 .o (.ex none (.store 1 (.v 7) (.c (.int .u8 45)))) .done) K104_7
abbrev K104_9:C:=.cond 7 (.v 8) K104_8 (.skip)
abbrev K104_10:C:=.seq (.seq (.pl <| .e 7 2 <|
 .m 7 0 <|
 .x 8 (.bin .lss (.v 7) (.c (.int .i64 0))) .done) K104_9) K104_5
abbrev K104_11:C:=.seq (.pl <| .e 7 5 <|
 .m 7 5 <|
 .x 8 (.bin .add (.c (.int .i64 1)) (.v 7)) <|
 .o (.px none (.extract 0 (.c (.tuple #[])))) <|
 .m 10 4 <|
 .c 11 (.call fn_internal_strconv_formatBase10 [.v 9,.v 10]) .done) K104_10
abbrev K104_12:Pl:=.m 5 8 .done
abbrev K104_13:C:=.seq (.pl <| .e 7 2 <|
 .m 7 4 <|
 .c 8 (.call fn_internal_strconv_numDigits [.v 7]) K104_12) K104_11
abbrev K104_14:C:=.pl <| .e 7 2 <|
 .m 7 4 <|
 .x 8 (.un .neg (.v 7)) <|
 .m 4 8 .done
abbrev K104_15:C:=.cond 7 (.v 8) K104_14 (.skip)
abbrev K104_16:C:=.seq (.seq (.pl <| .e 7 2 <|
 .m 7 0 <|
 .x 8 (.bin .lss (.v 7) (.c (.int .i64 0))) .done) K104_15) K104_13
abbrev K104_17:C:=.seq (.pl <| .e 7 2 <|
 .m 7 0 <|
 .x 8 (.conv .u64 (.v 7)) <|
 .m 4 8 .done) K104_16
abbrev K104_18:C:=.seq (.pl <| .e 7 0 <|
 .c 3 (.alloc (.c (.agg #[.int .u8 0,.int .u8 0,.int .u8 0,.int .u8 0,.int .u8 0,.int .u8 0,.int .u8 0,.int .u8 0,.int .u8 0,.int .u8 0,.int .u8 0,.int .u8 0,.int .u8 0,.int .u8 0,.int .u8 0,.int .u8 0,.int .u8 0,.int .u8 0,.int .u8 0,.int .u8 0,.int .u8 0,.int .u8 0,.int .u8 0,.int .u8 0]))) .done) K104_17
abbrev K104_19:Pl:=.m 2 8 .done
abbrev K104_20:C:=.seq (.pl <| .e 7 2 <|
 .m 7 0 <|
 .c 8 (.call fn_internal_strconv_small [.v 7]) K104_19) (.ret)
abbrev K104_21:C:=.cond 7 (.v 12) K104_20 (.skip)
abbrev K104_22:C:=.seq (.seq (.pl <| .e 7 6 <|
 .m 7 0 <|
 .x 8 (.bin .leq (.c (.int .i64 0)) (.v 7)) <|
 .m 9 8 <|
 .y 9 (.px (some 10) (.mv (.v 0))) <|
 .y 9 (.px (some 11) (.bin .lss (.v 10) (.c (.int .i64 100)))) <|
 .x 12 (.pick (.v 9) (.v 11) (.c (.bool false))) .done) K104_21) K104_18
abbrev K104_23:C:=.cond 7 (.v 8) K104_22 (.skip)
abbrev K104_24:C:=.seq (.seq (.pl <| .e 7 2 <|
 .m 7 1 <|
 .x 8 (.bin .eql (.v 7) (.c (.int .i64 10))) .done) K104_23) K104_3
abbrev B_internal_strconv_FormatInt:C:=.seq (.pl <| .e 7 0 <|
 .x 2 (.mv (.c (.string ⟨#[]⟩))) .done) K104_24
def R_internal_strconv_FormatInt:FIR:=⟨B_internal_strconv_FormatInt,7,[(2,none)]⟩
theorem IR_internal_strconv_FormatInt:cfun Tryz.prog H_internal_strconv_FormatInt Tryz.f104=some R_internal_strconv_FormatInt:=by kernel_rfl
theorem EN_internal_strconv_FormatInt:ENT Tryz.prog B_internal_strconv_FormatInt [(2,none)] 2 7 fn_internal_strconv_FormatInt:=fun hargs hw=>enter Tryz.func104 rfl IR_internal_strconv_FormatInt hargs hw
def H_internal_strconv_Itoa:Hint:=⟨[(0,false),(2,false)],[]⟩
abbrev K68_1:Pl:=.m 1 3 .done
abbrev K68_2:C:=.seq (.pl <| .e 2 2 <|
 .m 2 0 <|
 .c 3 (.call fn_internal_strconv_FormatInt [.v 2,.c (.int .i64 10)]) K68_1) (.ret)
abbrev B_internal_strconv_Itoa:C:=.seq (.pl <| .e 2 0 <|
 .x 1 (.mv (.c (.string ⟨#[]⟩))) .done) K68_2
def R_internal_strconv_Itoa:FIR:=⟨B_internal_strconv_Itoa,2,[(1,none)]⟩
theorem IR_internal_strconv_Itoa:cfun Tryz.prog H_internal_strconv_Itoa Tryz.f68=some R_internal_strconv_Itoa:=by kernel_rfl
theorem EN_internal_strconv_Itoa:ENT Tryz.prog B_internal_strconv_Itoa [(1,none)] 1 2 fn_internal_strconv_Itoa:=fun hargs hw=>enter Tryz.func68 rfl IR_internal_strconv_Itoa hargs hw
def H_internal_strconv_small:Hint:=⟨[(0,false),(2,false)],[]⟩
abbrev K127_1:C:=.seq (.pl <| .e 2 6 <|
 .m 2 0 <|
 .x 3 (.bin .mul (.v 2) (.c (.int .i64 2))) <|
 .m 4 0 <|
 .x 5 (.bin .mul (.v 4) (.c (.int .i64 2))) <|
 .x 6 (.bin .add (.v 5) (.c (.int .i64 2))) <|
 .x 7 (.sliceS (.c (.string ⟨#[48,48,48,49,48,50,48,51,48,52,48,53,48,54,48,55,48,56,48,57,49,48,49,49,49,50,49,51,49,52,49,53,49,54,49,55,49,56,49,57,50,48,50,49,50,50,50,51,50,52,50,53,50,54,50,55,50,56,50,57,51,48,51,49,51,50,51,51,51,52,51,53,51,54,51,55,51,56,51,57,52,48,52,49,52,50,52,51,52,52,52,53,52,54,52,55,52,56,52,57,53,48,53,49,53,50,53,51,53,52,53,53,53,54,53,55,53,56,53,57,54,48,54,49,54,50,54,51,54,52,54,53,54,54,54,55,54,56,54,57,55,48,55,49,55,50,55,51,55,52,55,53,55,54,55,55,55,56,55,57,56,48,56,49,56,50,56,51,56,52,56,53,56,54,56,55,56,56,56,57,57,48,57,49,57,50,57,51,57,52,57,53,57,54,57,55,57,56,57,57]⟩)) (some (.v 3)) (some (.v 6))) <|
 .m 1 7 .done) (.ret)
abbrev K127_2:C:=.seq (.pl <| .e 2 4 <|
 .m 2 0 <|
 .m 3 0 <|
 .x 4 (.bin .add (.v 3) (.c (.int .i64 1))) <|
 .x 5 (.sliceS (.c (.string ⟨#[48,49,50,51,52,53,54,55,56,57,97,98,99,100,101,102,103,104,105,106,107,108,109,110,111,112,113,114,115,116,117,118,119,120,121,122]⟩)) (some (.v 2)) (some (.v 4))) <|
 .m 1 5 .done) (.ret)
abbrev K127_3:C:=.cond 2 (.v 3) K127_2 (.skip)
abbrev K127_4:C:=.seq (.seq (.pl <| .e 2 2 <|
 .m 2 0 <|
 .x 3 (.bin .lss (.v 2) (.c (.int .i64 10))) .done) K127_3) K127_1
abbrev B_internal_strconv_small:C:=.seq (.pl <| .e 2 0 <|
 .x 1 (.mv (.c (.string ⟨#[]⟩))) .done) K127_4
def R_internal_strconv_small:FIR:=⟨B_internal_strconv_small,2,[(1,none)]⟩
theorem IR_internal_strconv_small:cfun Tryz.prog H_internal_strconv_small Tryz.f127=some R_internal_strconv_small:=by kernel_rfl
theorem EN_internal_strconv_small:ENT Tryz.prog B_internal_strconv_small [(1,none)] 1 2 fn_internal_strconv_small:=fun hargs hw=>enter Tryz.func127 rfl IR_internal_strconv_small hargs hw
end Go.Proofs.YtjbjnicobdpdhaaGreatDoor
