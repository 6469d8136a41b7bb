/-
  Texts of this proof, one behind the other.
-/
import Derived.WalkKit
import Derived.ProofKit
import Derived.OpenShut
import Derived.Carry
import Derived.Deep.Slices
import Derived.SizedLaws
import Derived.Test.YtjbjnicobdpdhaaRows
import Derived.Test.YtjbjnicobdpdhaaYF2
set_option linter.all false
set_option linter.unusedVariables false
set_option linter.unusedSimpArgs false
set_option linter.defProp false
set_option maxRecDepth 1000000
namespace Go.Proofs.Ytjbjnicobdpdhaa
open Go
universe u
section
variable {α:Type} [Ty α] {h:Heap}{v:Value}
theorem Rep.X {l:List α}(hr:Rep h v l) {n:Nat}(hn:n=Ty.sz α):(∀(kd:IntKind) (i:Nat),i<l.length→iaV n v (.int kd i)=some (elp n v i))∧(∀(kd:IntKind) (i:Int),0≤i→i<l.length→iaV n v (.int kd i)=some (elp n v i.toNat))∧lenVV v=some (.int .i64 l.length):=
 ⟨fun _ _ h1=>hr.ian hn h1,fun _ _ h0 h1=>hr.ia' hn h0 h1,hr.len⟩
end
section
variable {h:Heap}{v:Value}
theorem Rep.I {l:List Int}(hr:Rep h v l):((∀(kd:IntKind) (i:Nat),i<l.length→iaV 1 v (.int kd i)=some (elp 1 v i))∧(∀(kd:IntKind) (i:Int),0≤i→i<l.length→iaV 1 v (.int kd i)=some (elp 1 v i.toNat))∧lenVV v=some (.int .i64 l.length)) ∧
  ∀(i:Nat) (hi:i<l.length),hload h (some (elp 1 v i)) none=some (.int .i64 l[i]):=⟨hr.X rfl,fun _ hi=>hr.ldI hi⟩
theorem Rep.B {l:List Bool}(hr:Rep h v l):((∀(kd:IntKind) (i:Nat),i<l.length→iaV 1 v (.int kd i)=some (elp 1 v i))∧(∀(kd:IntKind) (i:Int),0≤i→i<l.length→iaV 1 v (.int kd i)=some (elp 1 v i.toNat))∧lenVV v=some (.int .i64 l.length)) ∧
  ∀(i:Nat) (hi:i<l.length),hload h (some (elp 1 v i)) none=some (.bool l[i]):=⟨hr.X rfl,fun _ hi=>hr.ldB hi⟩
theorem Rep.S {l:List ByteArray}(hr:Rep h v l):((∀(kd:IntKind) (i:Nat),i<l.length→iaV 1 v (.int kd i)=some (elp 1 v i))∧(∀(kd:IntKind) (i:Int),0≤i→i<l.length→iaV 1 v (.int kd i)=some (elp 1 v i.toNat))∧lenVV v=some (.int .i64 l.length)) ∧
  ∀(i:Nat) (hi:i<l.length),hload h (some (elp 1 v i)) none=some (.string l[i]):=⟨hr.X rfl,fun _ hi=>hr.ldS hi⟩
end
theorem IteW.mkr {p A B:Prop}(h2:¬p→B) (h1:p→A):IteW p A B:=⟨h1,h2⟩
theorem own1 {α:Type} [Ty α] (ha:Ty.agg α=false) {r:Heap}{cs:List Value}{x:α}:Ty.own r cs x↔∃v,cs=[v]∧Own r v x:=by
 constructor
 ·intro ho
  have hl:=Ty.len (Ty.own_rep ho)
  rw[Ty.one ha] at hl
  match cs,hl with
  | [v],_=>exact⟨v,rfl,[v],by simp[valC,ha],ho⟩
 ·rintro⟨v,rfl,c,h1,h2⟩
  have hl:=Ty.len (Ty.own_rep h2)
  rw[Ty.one ha] at hl
  match c,hl with
  | [u],_=>simp[valC,ha] at h1;subst h1;exact h2
theorem rep1 {α:Type} [Ty α] (ha:Ty.agg α=false) {r:Heap}{cs:List Value}{x:α}:Ty.rep r cs x↔∃v,cs=[v]∧Rep r v x:=by
 constructor
 ·intro ho
  have hl:=Ty.len ho
  rw[Ty.one ha] at hl
  match cs,hl with
  | [v],_=>exact⟨v,rfl,[v],by simp[valC,ha],ho⟩
 ·rintro⟨v,rfl,c,h1,h2⟩
  have hl:=Ty.len h2
  rw[Ty.one ha] at hl
  match c,hl with
  | [u],_=>simp[valC,ha] at h1;subst h1;exact h2
section
variable {α:Type} [Ty α] {h:Heap}{v:Value}{l:List α}{i:Nat}
theorem Rep.fld [Flat α] (hr:Rep h v l) (hi:i<l.length) {n j:Nat}(hn:n=Ty.sz α) {u:Value}(hj:(Flat.enc l[i])[j]? = some u):hload h (some (elpo n v i j)) none=some u:=by
 subst hn
 obtain⟨p,cap,rfl,hc,hp,hl⟩:=Rep_list.1 hr
 obtain⟨b,off,vs,rfl,h1,h2⟩:=hl i hi
 rw[← (Flat.rep_iff.1 h2).1] at hj
 have:=(hcells_get h1).2 j u hj
 simp[elpo,add_none,hload,this]
end
theorem Rep.A {α:Type} [Ty α] {h:Heap}{v:Value}{x:α}(hr:Rep h v x) (ha:Ty.agg α=true) {n:Nat}(hn:n=Ty.sz α):pgetV (some v) 0 (some n)=some v∧v.cells.size=n∧allOne v.cells.toList=true∧Value.agg v.cells=v:=by
 obtain⟨cs,rfl,h1⟩:=hr
 have h2:=Ty.len h1
 have h3:=Ty.cell h1
 subst hn
 simp only[valC,ha,if_true]
 refine⟨?_,by simpa using h2,?_,rfl⟩
 ·simp[h2]
 ·rw[← allOne_eq];simpa using h3
def owC {α:Type} [Ty α] (cs:List Value) (x:α):HP:=fun r=>Ty.own r cs x
section
variable {g h:Heap}{Γ:List HP}
theorem HS.join2 {p p1 p2:HP}(H:HS g (p1::p2::Γ) h) (hp:∀r1 r2,Dj r1 r2→p1 r1→p2 r2→p (r1.add r2)):HS g (p::Γ) h:=by
 obtain⟨g1,r1,rfl,d1,h1,g',r2,rfl,d2,h2,H⟩:=H
 obtain⟨d3,d4⟩:=add_Dj.1 d1
 refine⟨g',r1.add r2,?_,Dj_add.2 ⟨d3,d2⟩,hp r1 r2 d4.symm h1 h2,H⟩
 rw[add_assoc,d4.comm]
theorem HS.unvia {α β:Type} [Ty β] (f:α→β) {v:Value}{x:α}(H:HS g (@ow α (Ty.via f) v x::Γ) h):∃cs:List Value,v=.agg cs.toArray∧HS g (owC cs (f x)::Γ) h:=by
 obtain⟨g',r,rfl,d,⟨cs,rfl,ho⟩,H⟩:=H
 exact⟨cs,rfl,g',r,rfl,d,ho,H⟩
theorem HS.via {α β:Type} [Ty β] (f:α→β) {cs:List Value}{x:α}(H:HS g (owC cs (f x)::Γ) h):HS g (@ow α (Ty.via f) (.agg cs.toArray) x::Γ) h:=
 H.imp fun _ ho=>⟨cs,rfl,ho⟩
theorem HS.unprod {α β:Type} [Ty α] [Ty β] {cs:List Value}{x:α}{y:β}(H:HS g (owC cs (x,y)::Γ) h):∃c1 c2,cs=c1++c2∧HS g (owC c1 x::owC c2 y::Γ) h:=by
 obtain⟨g',r,rfl,d,⟨c1,c2,r1,r2,rfl,rfl,d2,h1,h2⟩,H⟩:=H
 obtain⟨d3,d4⟩:=Dj_add.1 d
 exact⟨c1,c2,rfl,g'.add r2,r1,by rw[add_assoc,d2.comm],add_Dj.2 ⟨d3,d2.symm⟩,h1,g',r2,rfl,d4,h2,H⟩
theorem HS.unone {α:Type} [Ty α] (ha:Ty.agg α=false) {cs:List Value}{x:α}(H:HS g (owC cs x::Γ) h):∃v,cs=[v]∧HS g (ow v x::Γ) h:=by
 obtain⟨g',r,rfl,d,ho,H⟩:=H
 have ho2:Ty.own r cs x:=ho
 obtain⟨v,rfl,h3⟩:=(own1 ha).1 ho2
 exact⟨v,rfl,g',r,rfl,d,h3,H⟩
theorem HS.one {α:Type} [Ty α] (ha:Ty.agg α=false) {v:Value}{x:α}(H:HS g (ow v x::Γ) h):HS g (owC [v] x::Γ) h:=H.imp fun _ ho=>(own1 ha).2 ⟨v,rfl,ho⟩
theorem HS.prod {α β:Type} [Ty α] [Ty β] (ha:Ty.agg α=false) {v:Value}{cs:List Value}{x:α}{y:β}(H:HS g (ow v x::owC cs y::Γ) h):HS g (owC (v::cs) (x,y)::Γ) h:=
 H.join2 fun r1 r2 d h1 h2=>⟨[v],cs,r1,r2,rfl,rfl,d,(own1 ha).2 ⟨v,rfl,h1⟩,h2⟩
end
class Sz (α:Type) where
 sz:α→Nat
instance:Sz Int:=⟨fun _=>0⟩
instance:Sz Bool:=⟨fun _=>0⟩
def szL {α:Type} [Sz α]:List α→Nat
 | []=>0
 | x::l=>Sz.sz x+szL l
instance instSzList {α:Type} [Sz α]:Sz (List α):=⟨fun l=>l.length+szL l⟩
theorem sz_list {α:Type} [Sz α] (l:List α):Sz.sz l=l.length+szL l:=rfl
theorem szL_get {α:Type} [Sz α]:∀{l:List α}{i:Nat}(hi:i<l.length),Sz.sz l[i]≤szL l
 | x::l,0,_=>by simp[szL]
 | x::l,i+1,hi=>by
  have:=szL_get (l:=l) (i:=i) (by simpa using hi)
  simp[szL];omega
theorem szL_take {α:Type} [Sz α]:∀{l:List α}{i:Nat}(hi:i<l.length),szL (l.take (i+1))=szL (l.take i)+Sz.sz l[i]
 | x::l,0,_=>by simp[szL]
 | x::l,i+1,hi=>by
  have:=szL_take (l:=l) (i:=i) (by simpa using hi)
  simp[szL,this];omega
theorem szL_zero {α:Type} [Sz α] (h0:∀x:α,Sz.sz x=0):∀l:List α,szL l=0
 | []=>rfl
 | x::l=>by simp[szL,h0,szL_zero h0 l]
class Mk (α:Type) where
 cnt:α→Nat
 wr:Int→α→α
 cnt_wr:∀k x,cnt (wr k x)=cnt x
 wr_wr:∀k j x,wr k (wr j x)=wr k x
def cntL {α:Type} [Mk α]:List α→Nat
 | []=>0
 | x::l=>Mk.cnt x+cntL l
def mkL {α:Type} [Mk α]:Int→List α→List α
 | _,[]=>[]
 | k,x::l=>Mk.wr k x::mkL (k+Mk.cnt x) l
section
variable {α:Type} [Mk α]
theorem cntL_mk:∀(k:Int) (l:List α),cntL (mkL k l)=cntL l
 | _,[]=>rfl
 | k,x::l=>by simp[cntL,mkL,Mk.cnt_wr,cntL_mk (k+Mk.cnt x) l]
theorem mkL_mk:∀(k j:Int) (l:List α),mkL k (mkL j l)=mkL k l
 | _,_,[]=>rfl
 | k,j,x::l=>by simp[mkL,Mk.cnt_wr,Mk.wr_wr,mkL_mk (k+Mk.cnt x) (j+Mk.cnt x) l]
@[simp] theorem mkL_length:∀(k:Int) (l:List α),(mkL k l).length=l.length
 | _,[]=>rfl
 | k,x::l=>by simp[mkL,mkL_length (k+Mk.cnt x) l]
theorem mkL_get:∀(k:Int) (l:List α) (i:Nat) (hi:i<l.length),(mkL k l)[i]'(by simpa using hi)=Mk.wr (k+cntL (l.take i)) l[i]
 | _,[],i,hi=>by simp at hi
 | k,x::l,0,_=>by simp[mkL,cntL]
 | k,x::l,i+1,hi=>by
  simp only[mkL,List.getElem_cons_succ,List.take_succ_cons,cntL]
  rw[mkL_get (k+Mk.cnt x) l i (by simpa using hi)]
  congr 1
  push_cast
  omega
theorem cntL_take:∀(l:List α) (i:Nat) (hi:i<l.length),cntL (l.take (i+1))=cntL (l.take i)+Mk.cnt l[i]
 | [],i,hi=>by simp at hi
 | x::l,0,_=>by simp[cntL]
 | x::l,i+1,hi=>by
  simp only[List.take_succ_cons,cntL,List.getElem_cons_succ]
  rw[cntL_take l i (by simpa using hi)]
  omega
theorem cntL_le:∀(l:List α) (i:Nat),cntL (l.take i)≤cntL l
 | [],i=>by simp[cntL]
 | x::l,0=>by simp[cntL]
 | x::l,i+1=>by
  simp only[List.take_succ_cons,cntL]
  have:=cntL_le l i
  omega
instance instMkList:Mk (List α):=⟨cntL,mkL,cntL_mk,mkL_mk⟩
end
instance instMkInt:Mk Int:=⟨fun _=>1,fun k _=>k,fun _ _=>rfl,fun _ _ _=>rfl⟩
instance instMkBool:Mk Bool:=⟨fun _=>1,fun k _=>decide (k.tmod 3=0),fun _ _=>rfl,fun _ _ _=>rfl⟩
structure Mkd {α:Type} [Mk α] (k:Int) (x y:List α) (i:Nat):Prop where
 len:y.length=x.length
 done:y.take i=(mkL k x).take i
 rest:y.drop i=x.drop i
section
variable {α:Type} [Mk α] {k:Int}{x y:List α}{i:Nat}
theorem Mkd.zero:Mkd k x x 0:=⟨rfl,rfl,rfl⟩
theorem Mkd.get (h:Mkd k x y i) (hi:i<x.length):y[i]'(by rw[h.len];exact hi)=x[i]:=by
 have:=congrArg (fun l=>l[0]?) h.rest
 simp[List.getElem?_drop,hi,h.len] at this
 exact this
theorem Mkd.step (h:Mkd k x y i) (hi:i<x.length):Mkd k x (y.set i (Mk.wr (k+cntL (x.take i)) x[i])) (i+1):=by
 refine⟨by simp[h.len],?_,?_⟩
 ·have:=take_set_succ (x:=mkL k x) h.done (by simpa using hi) (by simpa using h.len)
  rwa [mkL_get k x i hi] at this
 ·rw[List.drop_set_of_lt (by omega)]
  have:=congrArg (List.drop 1) h.rest
  simpa[List.drop_drop] using this
theorem Mkd.all (h:Mkd k x y i) (hi:x.length≤i):y=mkL k x:=eq_of_take h.done (by simpa using hi) (by simpa using h.len)
end
theorem take_step {α:Type}{x y:List α}{i:Nat}(h:x.take i=y.take i) (h1:i<x.length) (h2:i<y.length) (he:x[i]=y[i]):x.take (i+1)=y.take (i+1):=by
 rw[List.take_add_one,List.take_add_one,h,List.getElem?_eq_getElem h1,List.getElem?_eq_getElem h2,he]
@[simp] theorem ite_lt_zero {α:Type}{b:Int}{x y:α}(h:0≤b):(if b<0 then x else y)=y:=if_neg (by omega)
structure W8 where
 l:List (BitVec 64)
 len:l.length=8
def W8.zero:W8:=⟨List.replicate 8 0,rfl⟩
def W8.put (w:W8) (j:Nat) (x:BitVec 64):W8:=⟨w.l.set j x,by simp[w.len]⟩
def W8.at (w:W8) (j:Nat):BitVec 64:=w.l.getD j 0
def W8.enc (w:W8):List Value:=w.l.map fun b=>.int .u64 b.toNat
instance instTyW8:Ty W8 where
 agg:=true
 sz:=8
 rep:=fun _ cs x=>cs=x.enc
 own:=fun r cs x=>r=Heap.nil∧cs=x.enc
 one:=fun h=>by simp at h
 len:=by rintro h cs x rfl;simp[W8.enc,x.len]
 cell:=by
  rintro h cs x rfl v hv
  simp only[W8.enc,List.mem_map] at hv
  obtain⟨b,_,rfl⟩:=hv
  rfl
 mono:=fun _ hr=>hr
 own_rep:=fun ho=>ho.2
instance instFlatW8:Flat W8:=⟨W8.enc,fun _=>True,by simp[Ty.rep],by simp[Ty.own]⟩
theorem W8.enc_at (w:W8) {j:Nat}(hj:j<8):w.enc[j]? = some (.int .u64 (w.at j).toNat):=by
 have:j<w.l.length:=by rw[w.len];exact hj
 simp[W8.enc,W8.at,this]
section
variable {α:Type} [Ty α] {h:Heap}{v:Value}{l:List α}{i:Nat}
theorem Rep.iaA (hr:Rep h v l) (hi:i<l.length) {n m:Nat}{kd:IntKind}{j:Nat}(hj:j<m):iaAV m 1 (elp n v i) (.int kd j)=some (elpo n v i j):=by
 obtain⟨p,cap,rfl,hc,hp,hl⟩:=Rep_list.1 hr
 obtain⟨b,off,vs,rfl,_⟩:=hl i hi
 have:(j:Int)<m:=by omega
 simp[iaAV,elp,elpo,this]
theorem Rep.W {l:List W8}(hr:Rep h v l):((∀(kd:IntKind) (i:Nat),i<l.length→iaV 8 v (.int kd i)=some (elp 8 v i))∧(∀(kd:IntKind) (i:Int),0≤i→i<l.length→iaV 8 v (.int kd i)=some (elp 8 v i.toNat))∧lenVV v=some (.int .i64 l.length)) ∧
  (∀(kd:IntKind) (i j:Nat),i<l.length→j<8→iaAV 8 1 (elp 8 v i) (.int kd j)=some (elpo 8 v i j)) ∧
  ∀(i j:Nat) (hi:i<l.length),j<8→hload h (some (elpo 8 v i j)) none=some (.int .u64 (l[i].at j).toNat):=
 ⟨hr.X rfl,fun _ _ _ hi hj=>hr.iaA hi hj,fun _ _ hi hj=>hr.fld hi rfl (W8.enc_at _ hj)⟩
end
theorem Rep.isNil {α:Type} [Ty α] {h:Heap}{v:Value}{l:List α}(hr:Rep h v l):∃b,isNilV false v=some (.bool b)∧(b=true→l=[]):=by
 obtain⟨p,cap,rfl,h1,h2,h3⟩:=Rep_list.1 hr
 refine⟨p.isNone,rfl,fun hp=>?_⟩
 cases l with
 | nil=>rfl
 | cons x l=>obtain⟨b,off,vs,h4,_⟩:=h3 0 (by simp);subst h4;simp at hp
theorem HS.bls0 {P:Program}{k:Env→Heap→Prop}{e:Env}{g h:Heap}{Γ:List HP}(H:HS g Γ h) (α:Type) [Ty α] {esz:Nat}{zero:List Value}{dst:Nat}
  (K:∀v' h',HS g (ow v' ([]:List α)::Γ) h'→k (eset e dst (some v')) h'):(A.ex (some dst) (.bls esz 0 zero [])).wp P k e h:=by
 refine⟨[],rfl,fun b el hb=>Fgt.keep ?_⟩
 rw[set_new hb]
 exact K _ _ ⟨h,_,rfl,Dj_one.2 hb,Own_list.2 (.inr ⟨b,0,0,[],el,Heap.nil,rfl,⟨Nat.le_refl _,by simp⟩,by simp,by simp,rfl,rfl⟩),H⟩
@[simp] theorem faV_ptr {b o off:Nat}:faV off (.pointer (some ⟨b,o,none⟩))=some (.pointer (some ⟨b,o+off,none⟩)):=by simp[faV,add_none]
attribute [simp] Option.bind_some
structure Sta where
 locs:List Int
 vals:List Int
deriving DecidableEq
instance instTySta:Ty Sta:=Ty.via fun (s:Sta)=>(s.locs,s.vals)
theorem Sta.ext_iff' {a b:Sta}:a=b↔a.locs=b.locs∧a.vals=b.vals:=by
 cases a;cases b;simp
theorem Rep_Sta {h:Heap}{v:Value}{a:Sta}:Rep h v a↔∃v1 v2,v=.agg #[v1,v2]∧Rep h v1 a.locs∧Rep h v2 a.vals:=by
 constructor
 ·rintro⟨cs,rfl,c0,d0,rfl,h1,h2⟩
  obtain⟨v1,rfl,g1⟩:=(rep1 rfl).1 h1
  obtain⟨v2,rfl,g2⟩:=(rep1 rfl).1 h2
  exact⟨v1,v2,rfl,g1,g2⟩
 ·rintro⟨v1,v2,rfl,h1,h2⟩
  exact⟨[v1,v2],rfl,⟨[v1],[v2],rfl,(rep1 rfl).2 ⟨_,rfl,h1⟩,(rep1 rfl).2 ⟨_,rfl,h2⟩⟩⟩
theorem HS.unSta {g h:Heap}{Γ:List HP}{v:Value}{a:Sta}(H:HS g (ow v a::Γ) h):∃v1 v2,v=.agg #[v1,v2]∧HS g (ow v1 a.locs::ow v2 a.vals::Γ) h:=by
 obtain⟨cs,rfl,H0⟩:=HS.unvia (fun (s:Sta)=>(s.locs,s.vals)) H
 try dsimp only at H0
 obtain⟨c0,e0,rfl,H1a⟩:=HS.unprod H0
 obtain⟨v1,rfl,H1b⟩:=HS.unone rfl H1a
 have H1:=H1b.sw1
 obtain⟨v2,rfl,HL⟩:=HS.unone rfl H1
 exact⟨v1,v2,rfl,HL.sw1⟩
theorem HS.mkSta {g h:Heap}{Γ:List HP}{v1 v2:Value}{a:Sta}(H:HS g (ow v1 a.locs::ow v2 a.vals::Γ) h):HS g (ow (.agg #[v1,v2]) a::Γ) h:=by
 refine HS.via (fun (s:Sta)=>(s.locs,s.vals)) ?_
 exact HS.prod rfl (H.under fun _ H=>HS.one rfl H)
theorem Rep.aSta {h:Heap}{v:Value}{x:Sta}(hr:Rep h v x):pgetV (some v) 0 (some 2)=some v∧v.cells.size=2∧allOne v.cells.toList=true∧Value.agg v.cells=v:=hr.A rfl rfl
instance instSzSta:Sz Sta:=⟨fun a=>Sz.sz a.locs+Sz.sz a.vals⟩
instance instMkSta:Mk Sta:=⟨fun a=>Mk.cnt a.locs+Mk.cnt a.vals,
 fun k a=>⟨Mk.wr (k) a.locs,Mk.wr (k+Mk.cnt a.locs) a.vals⟩,
 fun k a=>by simp[Mk.cnt_wr],fun k j a=>by simp[Mk.cnt_wr,Mk.wr_wr]⟩
structure Gr where
 states:List Sta
 next:List (List Int)
deriving DecidableEq
instance instTyGr:Ty Gr:=Ty.via fun (g:Gr)=>(g.states,g.next)
theorem Gr.ext_iff' {a b:Gr}:a=b↔a.states=b.states∧a.next=b.next:=by
 cases a;cases b;simp
instance instSzGr:Sz Gr:=⟨fun a=>Sz.sz a.states+Sz.sz a.next⟩
instance instMkGr:Mk Gr:=⟨fun a=>Mk.cnt a.states+Mk.cnt a.next,
 fun k a=>⟨Mk.wr (k) a.states,Mk.wr (k+Mk.cnt a.states) a.next⟩,
 fun k a=>by simp[Mk.cnt_wr],fun k j a=>by simp[Mk.cnt_wr,Mk.wr_wr]⟩
structure Stp where
 proc:Int
 edge:Int
 partner:Int
 pedge:Int
deriving DecidableEq
instance instTyStp:Ty Stp:=Ty.via fun (s:Stp)=>(s.proc,s.edge,s.partner,s.pedge)
theorem Stp.ext_iff' {a b:Stp}:a=b↔a.proc=b.proc∧a.edge=b.edge∧a.partner=b.partner∧a.pedge=b.pedge:=by
 cases a;cases b;simp
instance instFlatStp:Flat Stp:=Flat.via fun (s:Stp)=>(s.proc,s.edge,s.partner,s.pedge)
def Stp.v (s:Stp):Value:=.agg #[.int .i64 s.proc,.int .i64 s.edge,.int .i64 s.partner,.int .i64 s.pedge]
structure Stp.ok (s:Stp):Prop where
 proc:-9223372036854775808≤s.proc∧s.proc<9223372036854775808
 edge:-9223372036854775808≤s.edge∧s.edge<9223372036854775808
 partner:-9223372036854775808≤s.partner∧s.partner<9223372036854775808
 pedge:-9223372036854775808≤s.pedge∧s.pedge<9223372036854775808
theorem Stp.ok_iff {s:Stp}:Flat.ok s↔s.ok:=⟨fun h=>⟨h.1,h.2.1,h.2.2.1,h.2.2.2⟩,fun h=>⟨h.proc,h.edge,h.partner,h.pedge⟩⟩
theorem Rep_Stp {h:Heap}{v:Value}{s:Stp}:Rep h v s↔v=s.v∧s.ok:=by rw[Rep_flat,Stp.ok_iff];rfl
instance instSzStp:Sz Stp:=⟨fun a=>Sz.sz a.proc+Sz.sz a.edge+Sz.sz a.partner+Sz.sz a.pedge⟩
instance instMkStp:Mk Stp:=⟨fun a=>Mk.cnt a.proc+Mk.cnt a.edge+Mk.cnt a.partner+Mk.cnt a.pedge,
 fun k a=>⟨Mk.wr (k) a.proc,Mk.wr (k+Mk.cnt a.proc) a.edge,Mk.wr (k+Mk.cnt a.proc+Mk.cnt a.edge) a.partner,Mk.wr (k+Mk.cnt a.proc+Mk.cnt a.edge+Mk.cnt a.partner) a.pedge⟩,
 fun k a=>by simp[Mk.cnt_wr],fun k j a=>by simp[Mk.cnt_wr,Mk.wr_wr]⟩
end Go.Proofs.Ytjbjnicobdpdhaa

namespace Go.Proofs.Ytjbjnicobdpdhaa
open Go Go.RowKit
def whole (w:World):Heap:=fun b=>w.heap[b]?
theorem calls_law {P:Program}{f:FuncId}{fn:Func}{args:List Value}{W:World}(hf:P.funcs[f]? = some fn) (hname:(fn.name == "runtime.NumGoroutine")=false) (hb:fn.body.isSome=true)
  (h:CallE P f args (whole W) (fun u h'=>(whole W).le h'∧u=.bool true)):Calls P f args.toArray W fun e W'=>e=.returned (.bool true)∧Below W.heap.size W W':=by
 have h1:=h W (fun b o hb=>hb)
 obtain⟨bd,hbd⟩:=Option.isSome_iff_exists.1 hb
 have hname':¬fn.name = "runtime.NumGoroutine":=by simpa using hname
 have hcall:(callFunc f args.toArray).run P W=.ok (.enter f args.toArray) W:=by
  simp[callFunc,hf,hname',hbd]
 rw[hcall] at h1
 refine Calls.mono h1 ?_
 rintro e W' ⟨v,h',rfl,⟨hl,rfl⟩,hs,hF⟩
 refine⟨rfl,hF.os,hF.tape,hF.output,hF.size,?_⟩
 intro k hk
 have h2:whole W k=some W.heap[k]:=by simp[whole,hk]
 rw[hs _ _ (hl _ _ h2)]
 simp[hk]
section
variable {H:Type}{enc:TypeId×Value→H}{P:Program}
theorem trodAll_below (hl:laidOutB P=true) {W W':World}:∀{ts:List TypeId}{vs:List Value}{ds:List (DataW H)}{ps:List MemPlace},(∀t∈ts,P.readableRec t=true∧t<P.types.size) →
  DataW.TrodAll enc P W 0 (fun _=>true) true ts vs ds ps→Below W.heap.size W W'→(∀x∈ps,x.block<W.heap.size)→DataW.TrodAll enc P W' 0 (fun b=>decide (b<W.heap.size)) true ts vs ds ps
 | [],[],[],_,_,h,_,_=>h
 | _::_,_::_,_::_,_,ht,⟨p,q,h1,h2,e⟩,hb,hlt=>
  ⟨p,q,Below.trod hl (ht _ (by simp)).1 (ht _ (by simp)).2 h1 hb (fun x hx=>hlt x (by rw[e];exact List.mem_append_left _ hx)),
   trodAll_below hl (fun t h=>ht t (by simp[h])) h2 hb (fun x hx=>hlt x (by rw[e];exact List.mem_append_right _ hx)),e⟩
theorem kept_below {W W':World}(hb:Below W.heap.size W W') (may:MemPlace→Prop):W.keptBut W' may:=by
 refine⟨hb.os,hb.output,fun i hi=>?_⟩
 rw[hb.block i hi]
 split
 ·rename_i h1 h2;rw[h1] at h2;simp only[Option.some.injEq,Obj.cells.injEq] at h2;obtain⟨rfl,rfl,rfl⟩:=h2;exact⟨rfl,rfl,rfl,fun _ _=>rfl⟩
 ·rename_i h1 h2;rw[h1] at h2;simp only[Option.some.injEq,Obj.map.injEq] at h2;obtain⟨rfl,rfl⟩:=h2;exact .inr ⟨rfl,rfl⟩
 ·rfl
theorem post_law {f:Func}{s:ChangeSpec}{W W':World}{args:Array Value}{ds gs:List (DataW H)}{before:List MemPlace}(hl:laidOutB P=true) (hvars:s.vars=[]) (ht:∀t∈f.params.toList,P.readableRec t=true∧t<P.types.size)
  (hr:∃t,f.resultTypes = #[t]∧P.underlying t=some .bool) (hspec:(s.fn H (ds++gs)).results=[.lit (.bool true)]∧(s.fn H (ds++gs)).args=ds∧(s.fn H (ds++gs)).vars=[])
  (hW:DataW.Whole enc P f.params.toList s.vars false W args.toList ds gs before) (hb:Below W.heap.size W W'):s.post enc P f false true false false W args (.bool true) W':=by
 obtain⟨t,ht1,ht2⟩:=hr
 obtain⟨h1,h2,h3⟩:=hspec
 have hW':=hW
 obtain⟨p,q,hA,hV,rfl,hz,hn⟩:=hW
 rw[hvars] at hV
 obtain⟨rfl,rfl⟩:=Go.ChangeShapes.trodVars_none hV
 have hlt:∀x∈p++[],x.block<W.heap.size:=fun x hx=>by simpa using hW'.lt x hx
 refine⟨ds,[],p++[],[],p,[],hW',?_,?_,?_,World.keptBut_mono (fun x hx=>⟨by simpa using hx,.inr (.inl (by simpa using hx))⟩) (kept_below hb (fun x=>x∈p)),by simp⟩
 ·rw[h1,ht1]
  exact trodAll_cons_mk (shut_bool ht2 _) Go.ChangeShapes.trodAll_mk0
 ·rw[h2]
  exact trodAll_below hl ht hA hb (fun x hx=>hlt x (by simpa using hx))
 ·rw[h3,hvars];rfl
end
def wOk {H:Type}(P:Program) (t:TypeId) (d:DataW H):Prop:=∀n∈d.weights P t,n≤reachBytes
theorem wOk_all {H:Type}{P:Program}{e:TypeId}:∀{l:List (DataW H)},(∀n∈DataW.weightsAll P e l,n≤reachBytes)→∀d∈l,wOk P e d
 | [],_,d,hd=>by simp at hd
 | x::l,h,d,hd=>by
  simp only[DataW.weightsAll,List.mem_append] at h
  rcases List.mem_cons.1 hd with rfl | hd
  ·exact fun n hn=>h n (.inl hn)
  ·exact wOk_all (fun n hn=>h n (.inr hn)) d hd
theorem wOk_each {H:Type}{P:Program}:∀{ts:List TypeId}{l:List (DataW H)},(∀n∈DataW.weightsEach P ts l,n≤reachBytes)→∀(i:Nat) t d,ts[i]? = some t→l[i]? = some d→wOk P t d
 | [],_,_,i,t,d,h1,_=>by simp at h1
 | _::_,[],_,i,t,d,_,h2=>by simp at h2
 | t0::ts,x::l,h,0,t,d,h1,h2=>by
  simp at h1 h2;subst h1 h2
  exact fun n hn=>h n (by simp only[DataW.weightsEach,List.mem_append];exact .inl hn)
 | t0::ts,x::l,h,i+1,t,d,h1,h2=>wOk_each (ts:=ts) (l:=l) (fun n hn=>h n (by simp only[DataW.weightsEach,List.mem_append];exact .inr hn)) i t d (by simpa using h1) (by simpa using h2)
def RdT (P:Program) (t:TypeId) (α:Type) [Ty α]:Prop:=∀{H:Type}(enc:TypeId×Value→H) (W:World) (sp:Nat→Bool) (fuel:Nat) (cs:List Value) (x:DataW H×List MemPlace),
 DataW.trod enc P W 0 sp true fuel t cs=some x→wOk P t x.1→∃y:α,Ty.rep (whole W) cs y
section
variable {P:Program}{t:TypeId}
theorem rd_int (ht:P.underlying t=some (.int .i64)):RdT P t Int:=by
 intro H enc W sp fuel cs x h hwt
 cases fuel with
 | zero=>simp[DataW.trod] at h
 | succ n=>
  unfold DataW.trod at h
  rw[ht] at h
  split at h
  case h_2 k k' m h1=>
   simp only[Option.some.injEq,TypeDesc.int.injEq] at h1
   subst h1
   split at h
   case isTrue hc=>
    obtain⟨rfl,hw⟩:=hc
    have:=bounds_i64 hw
    exact⟨_,rfl,by omega,by omega⟩
   case isFalse=>simp at h
  all_goals simp_all
theorem rd_str (ht:P.underlying t=some .string):RdT P t ByteArray:=by
 intro H enc W sp fuel cs x h hwt
 cases fuel with
 | zero=>simp[DataW.trod] at h
 | succ n=>
  unfold DataW.trod at h
  rw[ht] at h
  split at h<;>simp_all
  exact⟨_,rfl⟩
theorem cells_whole {W:World}{b off:Nat}:∀{n:Nat}{l:List Value},W.cells? 0 ⟨b,off,none⟩ n=some l→hcells (whole W) b off n=some l:=by
 have key:∀n o l,(List.range' o n).mapM (fun i=>W.cell? ((⟨b,off,none⟩:Addr).add i))=some l→hcells (whole W) b (off+o) n=some l:=by
  intro n
  induction n with
  | zero=>intro o l h;simpa[hcells] using h
  | succ n ih=>
   intro o l h
   rw[List.range'_succ,List.mapM_cons] at h
   simp only[Option.bind_eq_bind,Option.bind_eq_some_iff,Option.pure_def,Option.some.injEq] at h
   obtain⟨v,h1,r,h2,rfl⟩:=h
   have h3:=ih (o+1) r h2
   have h4:hcell (whole W) b (off+o)=some v:=by
    rw[addr_add0] at h1
    simp only[World.cell?,Option.isSome_none,Bool.false_eq_true,if_false] at h1
    simp only[hcell,whole]
    split at h1
    ·rename_i hb;rw[hb];exact h1
    ·simp at h1
   simp only[hcells,h4]
   rw[show off+o+1=off+(o+1) by omega,h3]
 intro n l h
 simp only[World.cells?,Nat.zero_le,if_true] at h
 rw[List.range_eq_range'] at h
 exact key n 0 l h
theorem cells_spot {W:World}{b off s n:Nat}(hn:0<n):W.cells? 0 ⟨b,off,some s⟩ n=none:=by
 simp only[World.cells?,Nat.zero_le,if_true]
 cases n with
 | zero=>omega
 | succ n=>
  rw[List.range_succ_eq_map,List.mapM_cons]
  have:W.cell? ((⟨b,off,some s⟩:Addr).add 0)=none:=by
   simp only[Addr.add,if_true,World.cell?]
   split<;>simp
  rw[this];rfl
theorem rd_list {α:Type} [Ty α] {e:TypeId}(ht:P.underlying t=some (.slice e)) (hc:P.cellsOf e=Ty.sz α) (hpos:0<Ty.sz α) (hby:0<P.bytesOf e) (he:RdT P e α):RdT P t (List α):=by
 intro H enc W sp fuel cs x h hwt
 rcases Go.Deep.open_slice ht h with ⟨rfl,_⟩ | ⟨a,len,cap,m,n,D,Pl,rfl,_,hlen,hcap,hm,rfl,hel⟩
 ·exact⟨[],none,0,rfl,by simp,trivial,fun i hi=>by simp at hi⟩
 ·have hle:len≤m:=by rw[hm];split<;>omega
  simp only[wOk,DataW.weights,ht,List.mem_cons,List.mem_append] at hwt
  have hsz:len≤reachBytes:=by
   have h1:=hwt _ (.inl rfl)
   simp only[List.length_map,List.length_range] at h1
   have h2:len*1≤(len+(m-len))*P.bytesOf e:=Nat.mul_le_mul (by omega) hby
   omega
  have hwe:=wOk_all (fun n hn=>hwt n (.inr (.inl hn)))
  have hall:∀i,i<len→∃y:α,∃b off vs,some a=some (⟨b,off,none⟩:Addr)∧hcells (whole W) b (off+i*Ty.sz α) (Ty.sz α)=some vs∧Ty.rep (whole W) vs y:=by
   intro i hi
   obtain⟨cs',h1,h2⟩:=hel i (by omega)
   obtain⟨y,hy⟩:=he enc W sp n cs' _ h2 (hwe _ (List.mem_map.2 ⟨i,by simpa using hi,rfl⟩))
   obtain⟨b,off,spot⟩:=a
   rw[hc] at h1
   -- the address is plain: its first element could be read
   have h0:spot=none:=by
    cases spot with
    | none=>rfl
    | some s=>
     obtain⟨cs0,g1,_⟩:=hel 0 (by omega)
     rw[hc] at g1
     simp only[Nat.zero_mul,Addr.add,if_true] at g1
     rw[cells_spot hpos] at g1
     simp at g1
   subst h0
   rw[addr_add0] at h1
   exact⟨y,b,off,cs',rfl,cells_whole h1,hy⟩
  have hch:∃l:List α,l.length=len∧∀i (hi:i<l.length),∃b off vs,some a=some (⟨b,off,none⟩:Addr)∧hcells (whole W) b (off+i*Ty.sz α) (Ty.sz α)=some vs∧Ty.rep (whole W) vs l[i]:=by
   refine⟨(List.finRange len).map fun i=>Classical.choose (hall i.1 i.2),by simp,fun i hi=>?_⟩
   have hi':i<len:=by simpa using hi
   have:=Classical.choose_spec (hall i hi')
   simpa using this
  obtain⟨l,hl,hr⟩:=hch
  refine⟨l,some a,cap,by rw[hl],⟨by omega,?_⟩,trivial,hr⟩
  have:reachBytes<4611686018427387904:=by decide
  omega
theorem rd_two {α β:Type} [Ty α] [Ty β] {h:Heap}{cs:List Value}(h1:∃x:α,Ty.rep h (cs.take (Ty.sz α)) x) (h2:∃y:β,Ty.rep h (cs.drop (Ty.sz α)) y):∃z:α×β,Ty.rep h cs z:=by
 obtain⟨x,hx⟩:=h1
 obtain⟨y,hy⟩:=h2
 exact⟨(x,y),_,_,(List.take_append_drop _ cs).symm,hx,hy⟩
end
section
variable {P:Program}{W:World}{r:Reach}{base:Nat}{t e:TypeId}{v:Value}
end
section
variable {g h:Heap}{Γ:List HP}
end
def mpo {κ ν:Type}(kf:κ→Value) (vf:ν→Value) (b:Nat) (l:List (κ×ν)):HP:=fun r=>∃es clock,r=Heap.one b (.map es clock)∧es.toList.map (fun e=>(e.key,e.val))=l.map fun p=>(kf p.1,vf p.2)
def mlk {κ ν:Type} [DecidableEq κ] (l:List (κ×ν)) (a:κ):Option ν:=(l.find? fun p=>decide (p.1=a)).map (·.2)
theorem mfind_spec {κ ν:Type} [DecidableEq κ] {kf:κ→Value}{vf:ν→Value}{kt:KT}(hkt:∀a b,keyEq kt (kf a) (kf b)=some (decide (a=b))) {a:κ}:∀{es:List MapEntry}{l:List (κ×ν)}{i0:Nat},es.map (fun e=>(e.key,e.val))=l.map (fun p=>(kf p.1,vf p.2)) →
  ∃i,mfind kt (kf a) es i0=some ((mlk l a).map fun y=>(i,vf y))
 | [],[],_,_=>⟨0,rfl⟩
 | [],_::_,_,h=>by simp at h
 | _::_,[],_,h=>by simp at h
 | x::es,p::l,i0,h=>by
  simp only[List.map_cons,List.cons.injEq,Prod.mk.injEq] at h
  obtain⟨⟨h1,h2⟩,h3⟩:=h
  obtain⟨i,hi⟩:=mfind_spec hkt (a:=a) (i0:=i0+1) h3
  unfold mfind
  rw[h1,hkt,h2]
  by_cases he:a=p.1
  ·subst he
   refine⟨i0,?_⟩
   simp[mlk]
  ·refine⟨i,?_⟩
   simp only[he,decide_false]
   rw[hi]
   simp[mlk,List.find?_cons,Ne.symm he,show ¬p.1=a from fun e=>he e.symm]
section
variable {P:Program}{k:Env→Heap→Prop}{e:Env}{g h:Heap}{Γ:List HP}{κ ν:Type} [DecidableEq κ] {kf:κ→Value}{vf:ν→Value}{b:Nat}{l:List (κ×ν)}{kt:KT}
theorem HS.mkm (H:HS g Γ h) (kf:κ→Value) (vf:ν→Value) {dst:Nat}(K:∀b h',HS g (mpo kf vf b []::Γ) h'→k (eset e dst (some (.map (some b)))) h'):(A.ex (some dst) .mkm).wp P k e h:=by
 intro b hb
 refine Fgt.keep ?_
 rw[set_new hb]
 exact K _ _ ⟨h,_,rfl,Dj_one.2 hb,⟨_,_,rfl,rfl⟩,H⟩
theorem HS.mget (H:HS g (mpo kf vf b l::Γ) h) {zero:Value}{ok:Bool}{m x:O}{a:κ}{dst:Nat}(hm:m.get e=some (.map (some b))) (hx:x.get e=some (kf a)) (hkt:∀a b,keyEq kt (kf a) (kf b)=some (decide (a=b)))
  (K:k (eset e dst (some (if ok then .tuple #[((mlk l a).map vf).getD zero,.bool (mlk l a).isSome] else ((mlk l a).map vf).getD zero))) h):(A.ex (some dst) (.mget kt zero ok m x)).wp P k e h:=by
 obtain⟨g',r,rfl,d,⟨es,clock,rfl,hes⟩,H⟩:=H
 obtain⟨i,hi⟩:=mfind_spec hkt (a:=a) (i0:=0) hes
 refine⟨b,es,clock,kf a,_,hm,le_add' d _ _ (by simp[Heap.one]),hx,by rw[hkt];rfl,hi,Fgt.keep ?_⟩
 cases hl:mlk l a with
 | none=>rw[hl] at K;cases ok<;>exact K
 | some y=>rw[hl] at K;cases ok<;>exact K
theorem HS.mput (H:HS g (mpo kf vf b l::Γ) h) {m x y:O}{a:κ}{v:ν}(hm:m.get e=some (.map (some b))) (hx:x.get e=some (kf a)) (hy:y.get e=some (vf v)) (hkt:∀a b,keyEq kt (kf a) (kf b)=some (decide (a=b))) (hn:mlk l a=none)
  (K:∀h',HS g (mpo kf vf b (l++[(a,v)])::Γ) h'→k e h'):(A.ex none (.mput kt m x y)).wp P k e h:=by
 obtain⟨g',r,rfl,d,⟨es,clock,rfl,hes⟩,H⟩:=H
 obtain⟨i,hi⟩:=mfind_spec hkt (a:=a) (i0:=0) hes
 rw[hn] at hi
 refine⟨b,es,clock,kf a,vf v,none,hm,le_add' d _ _ (by simp[Heap.one]),hx,hy,by rw[hkt];rfl,hi,Fgt.keep ?_⟩
 refine K _ ⟨g',Heap.one b (.map (es.push { key:=kf a,val:=vf v,born:=clock }) (clock+1)),?_,?_,⟨_,_,rfl,?_⟩,H⟩
 ·have hb:=Dj_one.1 d
  rw[← set_new hb]
  rw[← set_new hb]
  funext z
  simp only[Heap.set]
  split<;>rfl
 ·exact Dj_one.2 (Dj_one.1 d)
 ·simp[hes]
theorem HS.mlen (H:HS g (mpo kf vf b l::Γ) h) {m:O}{dst:Nat}(hm:m.get e=some (.map (some b))) (K:k (eset e dst (some (.int .i64 l.length))) h):(A.ex (some dst) (.mlen m)).wp P k e h:=by
 obtain⟨g',r,rfl,d,⟨es,clock,rfl,hes⟩,H⟩:=H
 have hl:es.size=l.length:=by
  have:=congrArg List.length hes
  simpa using this
 refine⟨b,es,clock,hm,le_add' d _ _ (by simp[Heap.one]),Fgt.keep ?_⟩
 rw[hl]
 exact K
end
section
variable {α:Type}
theorem repL_map {t t':Ty α}{h:Heap}{p:Option Addr}{l:List α}(hs:t.sz=t'.sz) (hr:∀cs x,x∈l→t.rep h cs x→t'.rep h cs x) (H:@repL α t h p l):@repL α t' h p l:=by
 intro i hi
 obtain⟨b,off,vs,h1,h2,h3⟩:=H i hi
 refine⟨b,off,vs,h1,?_,hr _ _ (List.getElem_mem hi) h3⟩
 have h2:hcells h b (off+i*t.sz) t.sz=some vs:=h2
 show hcells h b (off+i*t'.sz) t'.sz=some vs
 rw[← hs];exact h2
theorem repS_map {t t':Ty α}{h:Heap}{cs:List Value}{l:List α}(hs:t.sz=t'.sz) (hr:∀cs x,x∈l→t.rep h cs x→t'.rep h cs x) (H:@repS α t h cs l):@repS α t' h cs l:=by
 obtain⟨p,cap,h1,h2,h3,h4⟩:=H
 exact⟨p,cap,h1,h2,h3,repL_map hs hr h4⟩
theorem ownL_map {t t':Ty α}(hs:t.sz=t'.sz):∀{l:List α}{cs:List Value}{r:Heap},(∀r cs x,x∈l→t.own r cs x→t'.own r cs x)→@ownL α t l cs r→@ownL α t' l cs r
 | [],_,_,_,H=>H
 | x::l,cs,r,ho,⟨r1,r2,h1,h2,h3,h4⟩=>by
  refine⟨r1,r2,h1,h2,?_,?_⟩
  ·have:=ho r1 _ x (by simp) h3
   show t'.own r1 (cs.take t'.sz) x
   rw[← hs];exact this
  ·have:=ownL_map hs (fun r cs x hx=>ho r cs x (by simp[hx])) h4
   show @ownL α t' l (cs.drop t'.sz) r2
   rw[← hs];exact this
theorem ownS_map {t t':Ty α}(hs:t.sz=t'.sz) {l:List α}{cs:List Value}{r:Heap}(ho:∀r cs x,x∈l→t.own r cs x→t'.own r cs x) (H:@ownS α t r cs l):@ownS α t' r cs l:=by
 rcases H with h1 | ⟨b,off,cap,cells,el,r',h1,h2,h3,h4,h5,h6⟩
 ·exact .inl h1
 ·refine .inr ⟨b,off,cap,cells,el,r',h1,h2,?_,h4,h5,ownL_map hs ho h6⟩
  have h3:off+cap*t.sz≤cells.length:=h3
  show off+cap*t'.sz≤cells.length
  rw[← hs];exact h3
end
theorem exists_max {P:Nat→Nat→Prop}(hu:∀i n,P i n→P i (n+1)):∀m,(∀i,i<m→∃n,P i n)→∃N,∀i,i<m→P i N
 | 0,_=>⟨0,fun i hi=>absurd hi (Nat.not_lt_zero i)⟩
 | m+1,h=>by
  have up:∀i n k,P i n→P i (n+k):=by
   intro i n k hp
   induction k with
   | zero=>exact hp
   | succ k ih=>exact hu _ _ ih
  obtain⟨N,hN⟩:=exists_max hu m fun i hi=>h i (by omega)
  obtain⟨M,hM⟩:=h m (by omega)
  refine⟨N+M,fun i hi=>?_⟩
  by_cases e:i=m
  ·subst e;rw[Nat.add_comm];exact up _ _ _ hM
  ·exact up _ _ _ (hN i (by omega))
inductive Exq where
 | mk (kind val:Int) (kids:List Exq)
namespace Exq
def kind:Exq→Int | .mk k _ _=>k
def val:Exq→Int | .mk _ v _=>v
def kids:Exq→List Exq | .mk _ _ l=>l
@[simp] theorem kind_mk {k v:Int}{l:List Exq}:(Exq.mk k v l).kind=k:=rfl
@[simp] theorem val_mk {k v:Int}{l:List Exq}:(Exq.mk k v l).val=v:=rfl
@[simp] theorem kids_mk {k v:Int}{l:List Exq}:(Exq.mk k v l).kids=l:=rfl
theorem ext_iff' {a b:Exq}:a=b↔a.kind=b.kind∧a.val=b.val∧a.kids=b.kids:=by
 cases a;cases b;simp
theorem ind {p:Exq→Prop}(h:∀x:Exq,(∀y∈x.kids,p y)→p x):∀x,p x
 | .mk k v l=>h _ fun y hy=>ind h y
termination_by x=>SizeOf.sizeOf x
decreasing_by
 have h1:y∈l:=hy
 have:=List.sizeOf_lt_of_mem h1
 simp only[Exq.mk.sizeOf_spec]
 omega
def tup (x:Exq):Int×Int×List Exq:=(x.kind,x.val,x.kids)
@[reducible] def T0:Ty Exq where
 agg:=true
 sz:=3
 rep:=fun _ _ _=>False
 own:=fun _ _ _=>False
 one:=fun h=>by simp at h
 len:=fun h=>h.elim
 cell:=fun h=>h.elim
 mono:=fun _ h=>h
 own_rep:=fun h=>h.elim
@[reducible] def tyTup (t:Ty Exq):Ty (Int×Int×List Exq):=@instTyProd Int (Int×List Exq) instTyInt (@instTyProd Int (List Exq) instTyInt (@instTyList Exq t))
@[reducible] def T:Nat→Ty Exq
 | 0=>T0
 | n+1=>@Ty.via Exq (Int×Int×List Exq) (tyTup (T n)) tup
theorem T_sz:∀n,(T n).sz=3
 | 0=>rfl
 | _+1=>rfl
theorem tup_rep {t t':Ty Exq}(hs:t.sz=t'.sz) {h:Heap}{cs:List Value}{x:Exq}(hr:∀cs y,y∈x.kids→t.rep h cs y→t'.rep h cs y) (H:(tyTup t).rep h cs x.tup):(tyTup t').rep h cs x.tup:=by
 obtain⟨c1,c2,e1,h1,c3,c4,e2,h2,h3⟩:=H
 exact⟨c1,c2,e1,h1,c3,c4,e2,h2,repS_map hs hr h3⟩
theorem tup_own {t t':Ty Exq}(hs:t.sz=t'.sz) {r:Heap}{cs:List Value}{x:Exq}(hr:∀r cs y,y∈x.kids→t.own r cs y→t'.own r cs y) (H:(tyTup t).own r cs x.tup):(tyTup t').own r cs x.tup:=by
 obtain⟨c1,c2,r1,r2,e1,e2,d1,h1,c3,c4,r3,r4,e3,e4,d2,h2,h3⟩:=H
 exact⟨c1,c2,r1,r2,e1,e2,d1,h1,c3,c4,r3,r4,e3,e4,d2,h2,ownS_map hs hr h3⟩
theorem rep_up:∀(n:Nat) {h:Heap}{cs:List Value}{x:Exq},(T n).rep h cs x→(T (n+1)).rep h cs x
 | 0,_,_,_,H=>H.elim
 | n+1,h,cs,x,H=>tup_rep (t:=T n) (t':=T (n+1)) (by rw[T_sz,T_sz]) (fun _ _ _=>rep_up n) H
theorem own_up:∀(n:Nat) {r:Heap}{cs:List Value}{x:Exq},(T n).own r cs x→(T (n+1)).own r cs x
 | 0,_,_,_,H=>H.elim
 | n+1,h,cs,x,H=>tup_own (t:=T n) (t':=T (n+1)) (by rw[T_sz,T_sz]) (fun _ _ _ _=>own_up n) H
theorem own_le {n m:Nat}(hle:n≤m) {r:Heap}{cs:List Value}{x:Exq}(H:(T n).own r cs x):(T m).own r cs x:=by
 obtain⟨k,rfl⟩:=Nat.exists_eq_add_of_le hle
 induction k with
 | zero=>exact H
 | succ k ih=>exact own_up _ (ih (by omega))
end Exq
instance instTyExq:Ty Exq where
 agg:=true
 sz:=3
 rep:=fun h cs x=>∃n,(Exq.T n).rep h cs x
 own:=fun r cs x=>∃n,(Exq.T n).own r cs x
 one:=fun h=>by simp at h
 len:=fun ⟨n,h⟩=>((Exq.T n).len h).trans (Exq.T_sz n)
 cell:=fun ⟨n,h⟩=>(Exq.T n).cell h
 mono:=fun hl ⟨n,h⟩=>⟨n,(Exq.T n).mono hl h⟩
 own_rep:=fun ⟨n,h⟩=>⟨n,(Exq.T n).own_rep h⟩
namespace Exq
theorem rep_iff {h:Heap}{cs:List Value}{x:Exq}:Ty.rep h cs x↔Ty.rep h cs x.tup:=by
 constructor
 ·rintro⟨n,H⟩
  cases n with
  | zero=>exact H.elim
  | succ n=>exact tup_rep (t:=T n) (t':=instTyExq) (T_sz n) (fun _ _ _ h=>⟨n,h⟩) H
 ·rintro⟨c1,c2,e1,h1,c3,c4,e2,h2,p,cap,e3,h3,h4,hl⟩
  have hl:∀i,i<x.kids.length→∃n,∃(hi:i<x.kids.length),∃b off vs,p=some ⟨b,off,none⟩∧hcells h b (off+i*3) 3=some vs∧(T n).rep h vs x.kids[i]:=by
   intro i hi
   obtain⟨b,off,vs,g1,g2,n,g3⟩:=hl i hi
   exact⟨n,hi,b,off,vs,g1,g2,g3⟩
  obtain⟨N,hN⟩:=exists_max (P:=fun i n=>∃(hi:i<x.kids.length),∃b off vs,p=some ⟨b,off,none⟩∧hcells h b (off+i*3) 3=some vs∧(T n).rep h vs x.kids[i]) (fun i n ⟨hi,b,off,vs,g1,g2,g3⟩=>⟨hi,b,off,vs,g1,g2,rep_up n g3⟩) _ hl
  refine⟨N+1,c1,c2,e1,h1,c3,c4,e2,h2,p,cap,e3,h3,h4,fun i hi=>?_⟩
  obtain⟨_,b,off,vs,g1,g2,g3⟩:=hN i hi
  refine⟨b,off,vs,g1,?_,g3⟩
  show hcells h b (off+i*(T N).sz) (T N).sz=some vs
  rw[T_sz];exact g2
theorem ownL_max:∀{l:List Exq}{cs:List Value}{r:Heap},ownL l cs r→∃N,@ownL Exq (T N) l cs r
 | [],_,_,H=>⟨0,H⟩
 | x::l,cs,r,⟨r1,r2,h1,h2,⟨n,h3⟩,h4⟩=>by
  obtain⟨N,h5⟩:=ownL_max h4
  refine⟨n+N,r1,r2,h1,h2,?_,?_⟩
  ·show (T (n+N)).own r1 (cs.take (T (n+N)).sz) x
   rw[T_sz];exact own_le (by omega) h3
  ·show @ownL Exq (T (n+N)) l (cs.drop (T (n+N)).sz) r2
   rw[T_sz];exact ownL_map (t:=T N) (t':=T (n+N)) (by rw[T_sz,T_sz]) (fun _ _ _ _=>own_le (by omega)) h5
theorem own_iff {r:Heap}{cs:List Value}{x:Exq}:Ty.own r cs x↔Ty.own r cs x.tup:=by
 constructor
 ·rintro⟨n,H⟩
  cases n with
  | zero=>exact H.elim
  | succ n=>exact tup_own (t:=T n) (t':=instTyExq) (T_sz n) (fun _ _ _ _ h=>⟨n,h⟩) H
 ·rintro⟨c1,c2,r1,r2,e1,e2,d1,h1,c3,c4,r3,r4,e3,e4,d2,h2,h3⟩
  rcases h3 with h3 | ⟨b,off,cap,cells,el,r',g1,g2,g3,g4,g5,g6⟩
  ·exact⟨1,c1,c2,r1,r2,e1,e2,d1,h1,c3,c4,r3,r4,e3,e4,d2,h2,.inl h3⟩
  ·obtain⟨N,h7⟩:=ownL_max g6
   refine⟨N+1,c1,c2,r1,r2,e1,e2,d1,h1,c3,c4,r3,r4,e3,e4,d2,h2,.inr ⟨b,off,cap,cells,el,r',g1,g2,?_,g4,g5,h7⟩⟩
   show off+cap*(T N).sz≤cells.length
   rw[T_sz];exact g3
end Exq
def I64 (n:Int):Prop:=-9223372036854775808≤n∧n<9223372036854775808
theorem I64.lo {n:Int}(h:I64 n):-9223372036854775808≤n:=h.1
theorem I64.hi {n:Int}(h:I64 n):n<9223372036854775808:=h.2
section
variable {g h r:Heap}{Γ:List HP}{v:Value}{cs:List Value}
theorem repExq {x:Exq}:Ty.rep h cs x↔∃w,cs=[.int .i64 x.kind,.int .i64 x.val,w]∧I64 x.kind∧I64 x.val∧Rep h w x.kids:=by
 rw[Exq.rep_iff]
 constructor
 ·rintro⟨c1,c2,rfl,⟨rfl,h1⟩,c3,c4,rfl,⟨rfl,h2⟩,h3⟩
  obtain⟨w,rfl,h4⟩:=(rep1 (α:=List Exq) rfl).1 h3
  exact⟨w,rfl,h1,h2,h4⟩
 ·rintro⟨w,rfl,h1,h2,h3⟩
  exact⟨[_],[_,_],rfl,⟨rfl,h1⟩,[_],[_],rfl,⟨rfl,h2⟩,(rep1 (α:=List Exq) rfl).2 ⟨w,rfl,h3⟩⟩
theorem ownExq {x:Exq}:Ty.own r cs x↔∃w,cs=[.int .i64 x.kind,.int .i64 x.val,w]∧I64 x.kind∧I64 x.val∧Own r w x.kids:=by
 rw[Exq.own_iff]
 constructor
 ·rintro⟨c1,c2,r1,r2,rfl,rfl,d1,⟨rfl,rfl,h1⟩,c3,c4,r3,r4,rfl,rfl,d2,⟨rfl,rfl,h2⟩,h3⟩
  obtain⟨w,rfl,h4⟩:=(own1 (α:=List Exq) rfl).1 h3
  exact⟨w,rfl,h1,h2,by rw[nil_add,nil_add];exact h4⟩
 ·rintro⟨w,rfl,h1,h2,h3⟩
  exact⟨[_],[_,_],Heap.nil,r,rfl,by simp,by simp,⟨rfl,rfl,h1⟩,[_],[_],Heap.nil,r,rfl,by simp,by simp,⟨rfl,rfl,h2⟩,(own1 (α:=List Exq) rfl).2 ⟨w,rfl,h3⟩⟩
theorem Rep_Exq {x:Exq}:Rep h v x↔∃w,v=.agg #[.int .i64 x.kind,.int .i64 x.val,w]∧I64 x.kind∧I64 x.val∧Rep h w x.kids:=by
 constructor
 ·rintro⟨cs,rfl,H⟩
  obtain⟨w,rfl,h1⟩:=repExq.1 H
  exact⟨w,rfl,h1⟩
 ·rintro⟨w,rfl,h1⟩
  exact⟨_,rfl,repExq.2 ⟨w,rfl,h1⟩⟩
theorem HS.unExq {x:Exq}(H:HS g (ow v x::Γ) h):∃w,v=.agg #[.int .i64 x.kind,.int .i64 x.val,w]∧I64 x.kind∧I64 x.val∧HS g (ow w x.kids::Γ) h:=by
 obtain⟨g',r,rfl,d,⟨cs,rfl,O⟩,H⟩:=H
 obtain⟨w,rfl,h1,h2,h3⟩:=ownExq.1 O
 exact⟨w,rfl,h1,h2,g',r,rfl,d,h3,H⟩
theorem HS.mkExq {x:Exq}{w:Value}(H:HS g (ow w x.kids::Γ) h) (h1:I64 x.kind) (h2:I64 x.val):HS g (ow (.agg #[.int .i64 x.kind,.int .i64 x.val,w]) x::Γ) h:=
 H.imp fun _ O=>⟨_,rfl,ownExq.2 ⟨w,rfl,h1,h2,O⟩⟩
theorem HS.mkExq' {kd vl:Int}{l:List Exq}{w:Value}(H:HS g (ow w l::Γ) h) (h1:I64 kd) (h2:I64 vl):HS g (ow (.agg #[.int .i64 kd,.int .i64 vl,w]) (Exq.mk kd vl l)::Γ) h:=
 HS.mkExq (x:=Exq.mk kd vl l) H h1 h2
theorem Rep.aExq {x:Exq}(hr:Rep h v x):pgetV (some v) 0 (some 3)=some v∧v.cells.size=3∧allOne v.cells.toList=true∧Value.agg v.cells=v:=hr.A rfl rfl
end
noncomputable instance:DecidableEq Exq:=fun _ _=>Classical.propDecidable _
structure Ed where
 frm:Int
 to:Int
 guard:Exq
 var:Int
 value:Exq
 sync:Int
instance instTyEd:Ty Ed:=Ty.via fun (e:Ed)=>(e.frm,e.to,e.guard,e.var,e.value,e.sync)
noncomputable instance:DecidableEq Ed:=fun _ _=>Classical.propDecidable _
structure Pr where
 locs:Int
 edges:List Ed
instance instTyPr:Ty Pr:=Ty.via fun (p:Pr)=>(p.locs,p.edges)
noncomputable instance:DecidableEq Pr:=fun _ _=>Classical.propDecidable _
structure Sy where
 init:List Int
 procs:List Pr
instance instTySy:Ty Sy:=Ty.via fun (s:Sy)=>(s.init,s.procs)
noncomputable instance:DecidableEq Sy:=fun _ _=>Classical.propDecidable _
theorem Ed.ext_iff' {a b:Ed}:a=b↔a.frm=b.frm∧a.to=b.to∧a.guard=b.guard∧a.var=b.var∧a.value=b.value∧a.sync=b.sync:=by
 cases a;cases b;simp
theorem Pr.ext_iff' {a b:Pr}:a=b↔a.locs=b.locs∧a.edges=b.edges:=by
 cases a;cases b;simp
theorem Sy.ext_iff' {a b:Sy}:a=b↔a.init=b.init∧a.procs=b.procs:=by
 cases a;cases b;simp
def Ed.cs (e:Ed) (w1 w2:Value):List Value:=[.int .i64 e.frm,.int .i64 e.to,.int .i64 e.guard.kind,.int .i64 e.guard.val,w1,.int .i64 e.var,.int .i64 e.value.kind,.int .i64 e.value.val,w2,.int .i64 e.sync]
structure Ed.ok (e:Ed):Prop where
 frm:I64 e.frm
 to:I64 e.to
 gk:I64 e.guard.kind
 gv:I64 e.guard.val
 var:I64 e.var
 vk:I64 e.value.kind
 vv:I64 e.value.val
 sync:I64 e.sync
section
variable {g h r:Heap}{Γ:List HP}{v:Value}{cs:List Value}
theorem repEd {e:Ed}:Ty.rep h cs e↔∃w1 w2,cs=e.cs w1 w2∧e.ok∧Rep h w1 e.guard.kids∧Rep h w2 e.value.kids:=by
 constructor
 ·rintro⟨c1,c2,rfl,⟨rfl,h1⟩,c3,c4,rfl,⟨rfl,h2⟩,c5,c6,rfl,h3,c7,c8,rfl,⟨rfl,h4⟩,c9,c0,rfl,h5,rfl,h6⟩
  obtain⟨w1,rfl,g1,g2,g3⟩:=repExq.1 h3
  obtain⟨w2,rfl,g4,g5,g6⟩:=repExq.1 h5
  exact⟨w1,w2,rfl,⟨h1,h2,g1,g2,h4,g4,g5,h6⟩,g3,g6⟩
 ·rintro⟨w1,w2,rfl,ok,h1,h2⟩
  exact⟨[_],_,rfl,⟨rfl,ok.frm⟩,[_],_,rfl,⟨rfl,ok.to⟩,[_,_,_],_,rfl,repExq.2 ⟨_,rfl,ok.gk,ok.gv,h1⟩,[_],_,rfl,⟨rfl,ok.var⟩,[_,_,_],_,rfl,repExq.2 ⟨_,rfl,ok.vk,ok.vv,h2⟩,rfl,ok.sync⟩
theorem ownEd {e:Ed}:Ty.own r cs e↔∃w1 w2 r1 r2,cs=e.cs w1 w2∧e.ok∧r=r1.add r2∧Dj r1 r2∧Own r1 w1 e.guard.kids∧Own r2 w2 e.value.kids:=by
 constructor
 ·rintro⟨c1,c2,_,_,rfl,rfl,_,⟨rfl,rfl,h1⟩,c3,c4,_,_,rfl,rfl,_,⟨rfl,rfl,h2⟩,c5,c6,ra,rb,rfl,rfl,d,h3,c7,c8,_,_,rfl,rfl,_,⟨rfl,rfl,h4⟩,c9,c0,rc,rd,rfl,rfl,d2,h5,rfl,rfl,h6⟩
  obtain⟨w1,rfl,g1,g2,g3⟩:=ownExq.1 h3
  obtain⟨w2,rfl,g4,g5,g6⟩:=ownExq.1 h5
  exact⟨w1,w2,ra,rc,rfl,⟨h1,h2,g1,g2,h4,g4,g5,h6⟩,by simp,by simpa using d,g3,g6⟩
 ·rintro⟨w1,w2,r1,r2,rfl,ok,rfl,d,h1,h2⟩
  exact⟨[_],_,Heap.nil,r1.add r2,rfl,by simp,by simp,⟨rfl,rfl,ok.frm⟩,[_],_,Heap.nil,r1.add r2,rfl,by simp,by simp,⟨rfl,rfl,ok.to⟩,[_,_,_],_,r1,r2,rfl,rfl,d,ownExq.2 ⟨_,rfl,ok.gk,ok.gv,h1⟩,
   [_],_,Heap.nil,r2,rfl,by simp,by simp,⟨rfl,rfl,ok.var⟩,[_,_,_],_,r2,Heap.nil,rfl,by simp,by simp,ownExq.2 ⟨_,rfl,ok.vk,ok.vv,h2⟩,rfl,rfl,ok.sync⟩
theorem Rep_Ed {e:Ed}:Rep h v e↔∃w1 w2,v=.agg (e.cs w1 w2).toArray∧e.ok∧Rep h w1 e.guard.kids∧Rep h w2 e.value.kids:=by
 constructor
 ·rintro⟨cs,rfl,H⟩
  obtain⟨w1,w2,rfl,h1⟩:=repEd.1 H
  exact⟨w1,w2,rfl,h1⟩
 ·rintro⟨w1,w2,rfl,h1⟩
  exact⟨_,rfl,repEd.2 ⟨w1,w2,rfl,h1⟩⟩
theorem HS.unEd {e:Ed}(H:HS g (ow v e::Γ) h):∃w1 w2,v=.agg (e.cs w1 w2).toArray∧e.ok∧HS g (ow w1 e.guard.kids::ow w2 e.value.kids::Γ) h:=by
 obtain⟨g',r,rfl,d,⟨cs,rfl,O⟩,H⟩:=H
 obtain⟨w1,w2,r1,r2,rfl,ok,rfl,d2,h1,h2⟩:=ownEd.1 O
 obtain⟨d3,d4⟩:=Dj_add.1 d
 exact⟨w1,w2,rfl,ok,g'.add r2,r1,by rw[add_assoc,d2.comm],add_Dj.2 ⟨d3,d2.symm⟩,h1,g',r2,rfl,d4,h2,H⟩
theorem HS.mkEd {e:Ed}{w1 w2:Value}(H:HS g (ow w1 e.guard.kids::ow w2 e.value.kids::Γ) h) (ok:e.ok):HS g (ow (.agg (e.cs w1 w2).toArray) e::Γ) h:=
 H.join2 fun r1 r2 d h1 h2=>⟨_,rfl,ownEd.2 ⟨w1,w2,r1,r2,rfl,ok,rfl,d,h1,h2⟩⟩
theorem Rep_Pr {p:Pr}:Rep h v p↔∃w,v=.agg #[.int .i64 p.locs,w]∧I64 p.locs∧Rep h w p.edges:=by
 constructor
 ·rintro⟨cs,rfl,c1,c2,rfl,⟨rfl,h1⟩,h2⟩
  obtain⟨w,rfl,h3⟩:=(rep1 (α:=List Ed) rfl).1 h2
  exact⟨w,rfl,h1,h3⟩
 ·rintro⟨w,rfl,h1,h2⟩
  exact⟨_,rfl,[_],[_],rfl,⟨rfl,h1⟩,(rep1 (α:=List Ed) rfl).2 ⟨w,rfl,h2⟩⟩
theorem HS.unPr {p:Pr}(H:HS g (ow v p::Γ) h):∃w,v=.agg #[.int .i64 p.locs,w]∧I64 p.locs∧HS g (ow w p.edges::Γ) h:=by
 obtain⟨g',r,rfl,d,⟨cs,rfl,c1,c2,r1,r2,rfl,rfl,d2,⟨rfl,rfl,h1⟩,h2⟩,H⟩:=H
 obtain⟨w,rfl,h3⟩:=(own1 (α:=List Ed) rfl).1 h2
 exact⟨w,rfl,h1,g',r2,by simp,by simpa using d,h3,H⟩
theorem HS.mkPr {p:Pr}{w:Value}(H:HS g (ow w p.edges::Γ) h) (h1:I64 p.locs):HS g (ow (.agg #[.int .i64 p.locs,w]) p::Γ) h:=
 H.imp fun r O=>⟨_,rfl,[_],[_],Heap.nil,r,rfl,by simp,by simp,⟨rfl,rfl,h1⟩,(own1 (α:=List Ed) rfl).2 ⟨w,rfl,O⟩⟩
theorem Rep_Sy {s:Sy}:Rep h v s↔∃w1 w2,v=.agg #[w1,w2]∧Rep h w1 s.init∧Rep h w2 s.procs:=by
 constructor
 ·rintro⟨cs,rfl,c1,c2,rfl,h1,h2⟩
  obtain⟨w1,rfl,h3⟩:=(rep1 (α:=List Int) rfl).1 h1
  obtain⟨w2,rfl,h4⟩:=(rep1 (α:=List Pr) rfl).1 h2
  exact⟨w1,w2,rfl,h3,h4⟩
 ·rintro⟨w1,w2,rfl,h1,h2⟩
  exact⟨_,rfl,[_],[_],rfl,(rep1 (α:=List Int) rfl).2 ⟨w1,rfl,h1⟩,(rep1 (α:=List Pr) rfl).2 ⟨w2,rfl,h2⟩⟩
theorem HS.unSy {s:Sy}(H:HS g (ow v s::Γ) h):∃w1 w2,v=.agg #[w1,w2]∧HS g (ow w1 s.init::ow w2 s.procs::Γ) h:=by
 obtain⟨g',r,rfl,d,⟨cs,rfl,c1,c2,r1,r2,rfl,rfl,d2,h1,h2⟩,H⟩:=H
 obtain⟨w1,rfl,h3⟩:=(own1 (α:=List Int) rfl).1 h1
 obtain⟨w2,rfl,h4⟩:=(own1 (α:=List Pr) rfl).1 h2
 obtain⟨d3,d4⟩:=Dj_add.1 d
 exact⟨w1,w2,rfl,g'.add r2,r1,by rw[add_assoc,d2.comm],add_Dj.2 ⟨d3,d2.symm⟩,h3,g',r2,rfl,d4,h4,H⟩
theorem HS.mkSy {s:Sy}{w1 w2:Value}(H:HS g (ow w1 s.init::ow w2 s.procs::Γ) h):HS g (ow (.agg #[w1,w2]) s::Γ) h:=
 H.join2 fun r1 r2 d h1 h2=>⟨_,rfl,[_],[_],r1,r2,rfl,rfl,d,(own1 (α:=List Int) rfl).2 ⟨w1,rfl,h1⟩,(own1 (α:=List Pr) rfl).2 ⟨w2,rfl,h2⟩⟩
theorem Rep.aEd {x:Ed}(hr:Rep h v x):pgetV (some v) 0 (some 10)=some v∧v.cells.size=10∧allOne v.cells.toList=true∧Value.agg v.cells=v:=hr.A rfl rfl
theorem Rep.aPr {x:Pr}(hr:Rep h v x):pgetV (some v) 0 (some 2)=some v∧v.cells.size=2∧allOne v.cells.toList=true∧Value.agg v.cells=v:=hr.A rfl rfl
theorem Rep.aSy {x:Sy}(hr:Rep h v x):pgetV (some v) 0 (some 2)=some v∧v.cells.size=2∧allOne v.cells.toList=true∧Value.agg v.cells=v:=hr.A rfl rfl
end
theorem setC_get {cs c:List Value}{n j:Nat}(h:n+c.length≤cs.length):(setC cs n c)[j]? = if j<n then cs[j]? else if j<n+c.length then c[j-n]? else cs[j]?:=by
 unfold setC
 simp only[List.getElem?_append,List.getElem?_take,List.getElem?_drop,List.length_append,List.length_take]
 rw[Nat.min_eq_left (by omega:n≤cs.length)]
 by_cases h1:j<n
 ·rw[if_pos (by omega),if_pos h1,if_pos h1,if_pos h1]
 ·by_cases h2:j<n+c.length
  ·rw[if_pos h2,if_neg h1,if_neg h1,if_pos h2]
  ·rw[if_neg h2,if_neg h1,if_neg h2]
   congr 1;omega
theorem setC_over {cs d c:List Value}{n fo:Nat}(hd:fo+d.length≤c.length) (hl:n+c.length≤cs.length):setC (setC cs (n+fo) d) n c=setC cs n c:=by
 apply List.ext_getElem?
 intro j
 rw[setC_get (by rw[setC_length (by omega)];exact hl),setC_get hl,setC_get (by omega)]
 by_cases h1:j<n
 ·rw[if_pos h1,if_pos h1,if_pos (by omega)]
 ·by_cases h2:j<n+c.length
  ·rw[if_neg h1,if_neg h1,if_pos h2,if_pos h2]
  ·rw[if_neg h1,if_neg h1,if_neg h2,if_neg h2,if_neg (by omega),if_neg (by omega)]
theorem setC_slot {cs d:List Value}{n fo m:Nat}(hd:fo+d.length≤m) (hl:n+m≤cs.length):((setC cs (n+fo) d).drop n).take m=setC ((cs.drop n).take m) fo d:=by
 apply List.ext_getElem?
 intro j
 rw[setC_get (by simp;omega)]
 simp only[List.getElem?_take,List.getElem?_drop]
 by_cases h1:j<m
 ·rw[if_pos h1,if_pos h1,setC_get (by omega)]
  by_cases h2:j<fo
  ·rw[if_pos (by omega),if_pos h2]
  ·by_cases h3:j<fo+d.length
   ·rw[if_neg (by omega),if_pos (by omega),if_neg h2,if_pos h3]
    congr 1;omega
   ·rw[if_neg (by omega),if_neg (by omega),if_neg h2,if_neg h3]
 ·rw[if_neg h1,if_neg h1,if_neg (by omega),if_neg (by omega)]
section
variable {α:Type} [Ty α] {P:Program}{k:Env→Heap→Prop}{e:Env}{g h:Heap}{Γ:List HP}{v w:Value}{l:List α}{i:Nat}{cs:List Value}
theorem HS.holest (H:HS g (hole v l i (.agg cs.toArray)::Γ) h) (ha:Ty.agg α=true) {a x:O}{n fo m:Nat}(hn:n=Ty.sz α) (hp:a.get e=some (elpo n v i fo)) (hx:x.get e=some w) (hu:w.cells.size=m) (hu1:allOne w.cells.toList=true) (hf:fo+m≤n)
  (K:∀h',HS g (hole v l i (.agg (setC cs fo w.cells.toList).toArray)::Γ) h'→k e h'):(A.ex none (.store m a x)).wp P k e h:=by
 subst hn
 obtain⟨g',r,rfl,d,Ho,H⟩:=H
 obtain⟨b,off,cap,cells,el,r',rfl,hi,⟨h1,hM⟩,h2,rfl,h4,h5,h6⟩:=Ho
 have hs:=slot_le (s:=Ty.sz α) hi h1
 obtain⟨d3,d4⟩:=Dj_add.1 d
 have hb:(g'.add ((Heap.one b (.cells cells.toArray el (0,0))).add r')) b=some (.cells cells.toArray el (0,0)):=by
  have:=Dj_one.1 d3
  simp[Heap.add,Heap.one,this,h4]
 have hw:w.cells.toList.length=m:=by simpa using hu
 have hcs:cs=((cells.drop off).drop (i*Ty.sz α)).take (Ty.sz α):=by
  simpa[valC,ha] using h5
 have hdr:(setC cells (off+i*Ty.sz α+fo) w.cells.toList).drop off=setC (cells.drop off) (i*Ty.sz α+fo) w.cells.toList:=by
  rw[Nat.add_assoc,drop_setC (by rw[hw];omega)]
 refine⟨b,off+i*Ty.sz α+fo,w,g'.add ((Heap.one b (.cells (setC cells (off+i*Ty.sz α+fo) w.cells.toList).toArray el (0,0))).add r'),?_,hx,hu,?_,
  Fgt.keep (K _ ⟨g',_,rfl,Dj_add.2 ⟨Dj_one.2 (Dj_one.1 d3),d4⟩,⟨b,off,cap,_,el,r',rfl,hi,⟨h1,hM⟩,?_,rfl,h4,?_,?_⟩,H⟩)⟩
 ·rw[hp];simp[elpo,add_none]
 ·unfold hstore
  rw[hb]
  simp only
  rw[if_pos (by refine⟨trivial,?_,?_⟩;· simp[hu];omega
                ·rw[allOne_eq];exact hu1),add_one_set (Dj_one.1 d3) h4]
 ·rw[setC_length (by rw[hw];omega)];exact h2
 ·rw[hdr,setC_slot (by rw[hw];exact hf) (by simp;omega),← hcs]
  simp[valC,ha]
 ·intro r1' c' y dd o
  have hlen:=Ty.len (Ty.own_rep o)
  rw[hdr,setC_over (by rw[hw,hlen];exact hf) (by rw[hlen];simp;omega)]
  exact h6 r1' c' y dd o
theorem hld_parts {n:Nat}(hv:hload h (some (elp n v i)) (some n)=some (.agg cs.toArray)):(∀fo,faV fo (elp n v i)=some (elpo n v i fo))∧(∀a b,faV b (elpo n v i a)=some (elpo n v i (a+b))) ∧
  (∀fo,fo<n→hload h (some (elpo n v i fo)) none=cs[fo]?)∧(∀fo m,fo+m≤n→hload h (some (elpo n v i fo)) (some m)=some (.agg ((cs.drop fo).take m).toArray)):=by
 unfold elp at hv
 split at hv
 case h_2=>simp[undef,hload] at hv
 case h_1 p c d=>
  have hz:∃b off,p.add (i*n)=⟨b,off,none⟩:=by
   generalize hq:p.add (i*n)=q at hv
   obtain⟨b,off,sp⟩:=q
   cases sp with
   | none=>exact⟨b,off,rfl⟩
   | some s=>simp[hload] at hv
  obtain⟨b,off,hz⟩:=hz
  rw[hz] at hv
  simp only[hload,Option.map_eq_some_iff] at hv
  obtain⟨l,h1,h2⟩:=hv
  have h2:l=cs:=by simpa using h2
  subst h2
  have h3:=hcells_get h1
  have hsub:∀m fo,fo+m≤n→hcells h b (off+fo) m=some ((l.drop fo).take m):=by
   intro m
   induction m with
   | zero=>intro fo _;simp[hcells]
   | succ m ih=>
    intro fo hf
    have h4:=ih (fo+1) (by omega)
    have h5:=h3.2 fo (l[fo]'(by rw[h3.1];omega)) (List.getElem?_eq_getElem _)
    simp only[hcells,h5]
    rw[show off+fo+1=off+(fo+1) by omega,h4]
    simp only[Option.some.injEq]
    rw[List.drop_eq_getElem_cons (by rw[h3.1];omega:fo<l.length),List.take_succ_cons]
  refine⟨fun fo=>?_,fun a c=>?_,fun fo hf=>?_,fun fo m hf=>?_⟩
  ·simp only[elp,elpo,hz,add_none,faV]
  ·simp only[elpo,hz,add_none,faV]
   simp[Nat.add_assoc]
  ·have h5:=h3.2 fo (l[fo]'(by rw[h3.1];omega)) (List.getElem?_eq_getElem _)
   simp only[elpo,hz,add_none,hload,h5]
   exact (List.getElem?_eq_getElem _).symm
  ·simp only[elpo,hz,add_none,hload,hsub m fo hf]
   rfl
theorem HS.holeP (H:HS g (hole v l i (.agg cs.toArray)::Γ) h) (ha:Ty.agg α=true) {n:Nat}(hn:n=Ty.sz α):hload h (some (elp n v i)) (some n)=some (.agg cs.toArray):=by
 have:=H.holeld
 subst hn
 simpa[szo,ha] using this
end
inductive Mix (α:Type) where
 | raw (cs:List Value)
 | new (x:α)
section
variable {α:Type} [Ty α]
def Mix.rep (h:Heap) (cs:List Value):Mix α→Prop
 | .raw c=>cs=c∧c.length=Ty.sz α∧∀v∈c,v.oneCell'=true
 | .new x=>Ty.rep h cs x
def Mix.own (r:Heap) (cs:List Value):Mix α→Prop
 | .raw c=>r=Heap.nil∧cs=c∧c.length=Ty.sz α∧∀v∈c,v.oneCell'=true
 | .new x=>Ty.own r cs x
instance instTyMix:Ty (Mix α) where
 agg:=Ty.agg α
 sz:=Ty.sz α
 rep:=Mix.rep
 own:=Mix.own
 one:=Ty.one
 len:=by
  intro h cs x hx
  cases x with
  | raw c=>obtain⟨rfl,h1,_⟩:=hx;exact h1
  | new x=>exact Ty.len (x:=x) hx
 cell:=by
  intro h cs x hx
  cases x with
  | raw c=>obtain⟨rfl,_,h1⟩:=hx;exact h1
  | new x=>exact Ty.cell (x:=x) hx
 mono:=by
  intro h h' cs x hl hx
  cases x with
  | raw c=>exact hx
  | new x=>exact Ty.mono (x:=x) hl hx
 own_rep:=by
  intro r cs x hx
  cases x with
  | raw c=>exact hx.2
  | new x=>exact Ty.own_rep (x:=x) hx
theorem ownL_new:∀{l:List α}{cs:List Value}{r:Heap},ownL (l.map Mix.new) cs r→ownL l cs r
 | [],_,_,H=>H
 | x::l,cs,r,⟨r1,r2,h1,h2,h3,h4⟩=>⟨r1,r2,h1,h2,h3,ownL_new h4⟩
theorem HS.mixed {g h:Heap}{Γ:List HP}{v:Value}{l:List α}(H:HS g (ow v (l.map Mix.new)::Γ) h):HS g (ow v l::Γ) h:=by
 refine H.imp fun r O=>?_
 have O:Own r v (l.map (Mix.new (α:=α))):=O
 rcases Own_list.1 O with ⟨p,rfl,h1,h2,h3⟩ | ⟨b,off,cap,cells,el,r',rfl,h1,h2,h3,h4,h5⟩
 ·exact Own_list.2 (.inl ⟨p,rfl,by simpa using h1,h2,h3⟩)
 ·exact Own_list.2 (.inr ⟨b,off,cap,cells,el,r',by simp,by simpa using h1,h2,h3,h4,ownL_new h5⟩)
structure Raws (h:Heap) (l:List α) (M:List (Mix α)):Prop where
 len:M.length=l.length
 at':∀(i:Nat) (hi:i<l.length),∃c,M[i]? = some (.raw c)∧Ty.rep h c l[i]
end
structure Mixed {α:Type} [Ty α] (h:Heap) (l:List α) (f:α→α) (M:List (Mix α)) (i:Nat):Prop where
 len:M.length=l.length
 done:M.take i=((l.map f).take i).map Mix.new
 rest:∀(j:Nat) (hj:j<l.length),i≤j→∃c,M[j]? = some (.raw c)∧Ty.rep h c l[j]
section
variable {α:Type} [Ty α] {h:Heap}{l:List α}{f:α→α}{M:List (Mix α)}{i:Nat}
theorem Mixed.zero (R:Raws h l M):Mixed h l f M 0:=⟨R.len,rfl,fun j hj _=>R.at' j hj⟩
theorem Mixed.le {h':Heap}(H:Mixed h l f M i) (hl:h.le h'):Mixed h' l f M i:=⟨H.len,H.done,fun j hj hij=>by
 obtain⟨c,h1,h2⟩:=H.rest j hj hij
 exact⟨c,h1,Ty.mono hl h2⟩⟩
theorem Mixed.get (H:Mixed h l f M i) (hi:i<l.length):∃c,M[i]'(by rw[H.len];exact hi)=.raw c∧Ty.rep h c l[i]:=by
 obtain⟨c,h1,h2⟩:=H.rest i hi (Nat.le_refl i)
 refine⟨c,?_,h2⟩
 rw[List.getElem?_eq_getElem (by rw[H.len];exact hi)] at h1
 exact Option.some.inj h1
theorem Mixed.step (H:Mixed h l f M i) (hi:i<l.length):Mixed h l f (M.set i (.new (f l[i]))) (i+1):=by
 refine⟨by simp[H.len],?_,fun j hj hij=>?_⟩
 ·have h1:M.take i=(l.map fun x=>Mix.new (f x)).take i:=by rw[H.done,List.map_take,List.map_map];rfl
  have:=take_set_succ (x:=l.map fun x=>Mix.new (f x)) h1 (by simpa using hi) (by simp[H.len])
  rw[List.getElem_map] at this
  rw[this,List.map_take,List.map_map]
  rfl
 ·rw[List.getElem?_set_ne (by omega)]
  exact H.rest j hj (by omega)
theorem Mixed.all (H:Mixed h l f M i) (hi:l.length≤i):M=(l.map f).map Mix.new:=by
 have:=H.done
 rw[List.take_of_length_le (by rw[H.len];exact hi),List.take_of_length_le (by simpa using hi)] at this
 exact this
end
mutual
def Exq.size:Exq→Nat
 | .mk _ _ l=>Exq.sizes l
def Exq.sizes:List Exq→Nat
 | []=>0
 | x::l=>1+x.size+Exq.sizes l
end
instance instSzExq:Sz Exq:=⟨Exq.size⟩
theorem Exq.sizes_eq:∀l,Exq.sizes l=Sz.sz l
 | []=>by simp[Exq.sizes,sz_list,szL]
 | x::l=>by
  have:=Exq.sizes_eq l
  rw[sz_list] at this ⊢
  simp only[Exq.sizes,szL,List.length_cons,this]
  show 1+Sz.sz x+_=_
  omega
theorem sz_Exq (x:Exq):Sz.sz x=Sz.sz x.kids:=by
 cases x with
 | mk k v l=>exact Exq.sizes_eq l
instance instSzEd:Sz Ed:=⟨fun e=>Sz.sz e.guard+Sz.sz e.value⟩
instance instSzPr:Sz Pr:=⟨fun p=>Sz.sz p.edges⟩
instance instSzSy:Sz Sy:=⟨fun s=>Sz.sz s.init+Sz.sz s.procs⟩
mutual
def Exq.cnt:Exq→Nat
 | .mk _ _ l=>2+Exq.cnts l
def Exq.cnts:List Exq→Nat
 | []=>0
 | x::l=>x.cnt+Exq.cnts l
end
mutual
def Exq.wr:Int→Exq→Exq
 | k,.mk _ _ l=>.mk k (k+1) (Exq.wrs (k+2) l)
def Exq.wrs:Int→List Exq→List Exq
 | _,[]=>[]
 | k,x::l=>x.wr k::Exq.wrs (k+x.cnt) l
end
mutual
theorem Exq.cnt_wr:∀(k:Int) (x:Exq),(Exq.wr k x).cnt=x.cnt
 | k,.mk _ _ l=>by simp only[Exq.wr,Exq.cnt,Exq.cnts_wrs (k+2) l]
theorem Exq.cnts_wrs:∀(k:Int) (l:List Exq),Exq.cnts (Exq.wrs k l)=Exq.cnts l
 | _,[]=>rfl
 | k,x::l=>by simp only[Exq.wrs,Exq.cnts,Exq.cnt_wr k x,Exq.cnts_wrs (k+x.cnt) l]
end
mutual
theorem Exq.wr_wr:∀(k j:Int) (x:Exq),Exq.wr k (Exq.wr j x)=Exq.wr k x
 | k,j,.mk _ _ l=>by simp only[Exq.wr,Exq.wrs_wrs (k+2) (j+2) l]
theorem Exq.wrs_wrs:∀(k j:Int) (l:List Exq),Exq.wrs k (Exq.wrs j l)=Exq.wrs k l
 | _,_,[]=>rfl
 | k,j,x::l=>by simp only[Exq.wrs,Exq.cnt_wr j x,Exq.wr_wr k j x,Exq.wrs_wrs (k+x.cnt) (j+x.cnt) l]
end
instance instMkExq:Mk Exq:=⟨Exq.cnt,Exq.wr,Exq.cnt_wr,Exq.wr_wr⟩
theorem Exq.cnts_eq:∀l,Exq.cnts l=Mk.cnt l
 | []=>rfl
 | x::l=>by
  have:=Exq.cnts_eq l
  simp only[Exq.cnts,this]
  rfl
theorem Exq.wrs_eq:∀k l,Exq.wrs k l=Mk.wr k l
 | _,[]=>rfl
 | k,x::l=>by
  have:=Exq.wrs_eq (k+x.cnt) l
  simp only[Exq.wrs,this]
  rfl
theorem cnt_Exq (x:Exq):Mk.cnt x=2+Mk.cnt x.kids:=by
 cases x with
 | mk k v l=>show 2+Exq.cnts l=_;rw[Exq.cnts_eq];rfl
theorem wr_Exq (k:Int) (x:Exq):Mk.wr k x=Exq.mk k (k+1) (Mk.wr (k+2) x.kids):=by
 cases x with
 | mk kd v l=>show Exq.mk k (k+1) (Exq.wrs (k+2) l)=_;rw[Exq.wrs_eq];rfl
instance instMkEd:Mk Ed:=⟨fun e=>Mk.cnt e.frm+Mk.cnt e.to+Mk.cnt e.guard+Mk.cnt e.var+Mk.cnt e.value+Mk.cnt e.sync,
 fun k e=>⟨Mk.wr k e.frm,Mk.wr (k+Mk.cnt e.frm) e.to,Mk.wr (k+Mk.cnt e.frm+Mk.cnt e.to) e.guard,Mk.wr (k+Mk.cnt e.frm+Mk.cnt e.to+Mk.cnt e.guard) e.var,
  Mk.wr (k+Mk.cnt e.frm+Mk.cnt e.to+Mk.cnt e.guard+Mk.cnt e.var) e.value,Mk.wr (k+Mk.cnt e.frm+Mk.cnt e.to+Mk.cnt e.guard+Mk.cnt e.var+Mk.cnt e.value) e.sync⟩,
 fun k a=>by simp[Mk.cnt_wr],fun k j a=>by simp[Mk.cnt_wr,Mk.wr_wr]⟩
instance instMkPr:Mk Pr:=⟨fun p=>Mk.cnt p.locs+Mk.cnt p.edges,fun k p=>⟨Mk.wr k p.locs,Mk.wr (k+Mk.cnt p.locs) p.edges⟩,fun k a=>by simp[Mk.cnt_wr],fun k j a=>by simp[Mk.cnt_wr,Mk.wr_wr]⟩
instance instMkSy:Mk Sy:=⟨fun p=>Mk.cnt p.init+Mk.cnt p.procs,fun k p=>⟨Mk.wr k p.init,Mk.wr (k+Mk.cnt p.init) p.procs⟩,fun k a=>by simp[Mk.cnt_wr],fun k j a=>by simp[Mk.cnt_wr,Mk.wr_wr]⟩
theorem cnt_Ed (e:Ed):Mk.cnt e=8+Mk.cnt e.guard.kids+Mk.cnt e.value.kids:=by
 show 1+1+Mk.cnt e.guard+1+Mk.cnt e.value+1=_
 rw[cnt_Exq,cnt_Exq];omega
theorem cnt_Pr (p:Pr):Mk.cnt p=1+Mk.cnt p.edges:=rfl
theorem cnt_Sy (p:Sy):Mk.cnt p=Mk.cnt p.init+Mk.cnt p.procs:=rfl
end Go.Proofs.Ytjbjnicobdpdhaa

namespace Go.Proofs.Ytjbjnicobdpdhaa
open Go Go.RowKit
def RdF (P:Program) (t:TypeId) (α:Type) [Ty α] (fuel:Nat):Prop:=∀{H:Type}(enc:TypeId×Value→H) (W:World) (sp:Nat→Bool) (cs:List Value) (x:DataW H×List MemPlace),
 DataW.trod enc P W 0 sp true fuel t cs=some x→wOk P t x.1→∃y:α,Ty.rep (whole W) cs y
theorem rd_listF {P:Program}{t:TypeId}{α:Type} [Ty α] {e:TypeId}(ht:P.underlying t=some (.slice e)) (hc:P.cellsOf e=Ty.sz α) (hpos:0<Ty.sz α) (hby:0<P.bytesOf e) {fuel:Nat}(he:∀n,n<fuel→RdF P e α n):RdF P t (List α) fuel:=by
 intro H enc W sp cs x h hwt
 rcases DataW.trod_slice ht h with ⟨rfl,_⟩ | ⟨a,len,cap,elems,rest,n,hfu,rfl,rfl,hb,hlc,hm,hlen,hel,hsp,hns⟩
 ·exact⟨[],none,0,rfl,by simp,trivial,fun i hi=>by simp at hi⟩
 ·simp only[wOk,DataW.weights,ht,List.mem_cons,List.mem_append] at hwt
  have hsz:len≤reachBytes:=by
   have h1:=hwt _ (.inl rfl)
   simp only[List.length_map] at h1
   have h2:len*1≤(elems.length+rest.length)*P.bytesOf e:=Nat.mul_le_mul (by omega) hby
   omega
  have hwe:=wOk_all (fun n hn=>hwt n (.inr (.inl hn)))
  have hall:∀i,i<len→∃y:α,∃b off vs,some a=some (⟨b,off,none⟩:Addr)∧hcells (whole W) b (off+i*Ty.sz α) (Ty.sz α)=some vs∧Ty.rep (whole W) vs y:=by
   intro i hi
   have hget:∀i,(hi:i<len)→∃cs',W.cells? 0 (a.add (i*P.cellsOf e)) (P.cellsOf e)=some cs'∧DataW.trod enc P W 0 sp true n e cs'=some (elems[i]'(by omega)):=by
    intro i hi
    have h1:=hel i hi
    rw[List.getElem?_eq_getElem (by omega)] at h1
    exact Option.bind_eq_some_iff.1 h1
   obtain⟨cs',h1,h2⟩:=hget i hi
   obtain⟨y,hy⟩:=he n (by omega) enc W sp cs' _ h2 (hwe _ (List.mem_map.2 ⟨_,List.getElem_mem (by omega),rfl⟩))
   obtain⟨b,off,spot⟩:=a
   rw[hc] at h1
   have h0:spot=none:=by
    cases spot with
    | none=>rfl
    | some s=>
     obtain⟨cs0,g1,_⟩:=hget 0 (by omega)
     rw[hc] at g1
     simp only[Nat.zero_mul,Addr.add,if_true] at g1
     rw[cells_spot hpos] at g1
     simp at g1
   subst h0
   rw[addr_add0] at h1
   exact⟨y,b,off,cs',rfl,cells_whole h1,hy⟩
  have hch:∃l:List α,l.length=len∧∀i (hi:i<l.length),∃b off vs,some a=some (⟨b,off,none⟩:Addr)∧hcells (whole W) b (off+i*Ty.sz α) (Ty.sz α)=some vs∧Ty.rep (whole W) vs l[i]:=by
   refine⟨(List.finRange len).map fun i=>Classical.choose (hall i.1 i.2),by simp,fun i hi=>?_⟩
   have hi':i<len:=by simpa using hi
   have:=Classical.choose_spec (hall i hi')
   simpa using this
  obtain⟨l,hl,hr⟩:=hch
  refine⟨l,some a,cap,by rw[hl],⟨by omega,?_⟩,trivial,hr⟩
  have:reachBytes<4611686018427387904:=by decide
  omega
end Go.Proofs.Ytjbjnicobdpdhaa

namespace Go.Proofs.Ytjbjnicobdpdhaa
open Go Go.RowKit Go.ChangeShapes
theorem laid:laidOutB Try.prog=true:=by kernel_rfl
theorem own0:ownKnob Try.prog.godebug=none:=by kernel_rfl
theorem rdF_Exq:∀fuel,RdF Try.prog 135 Exq fuel:=by
 intro fuel
 induction fuel using Nat.strongRecOn with
 | _ fuel ih=>
 intro H enc W sp cs x h hwt
 obtain⟨xs,n,hfu,rfl,hlen,hxs,hf⟩:=DataW.trod_struct Try.underlying135 h
 rw[show Try.prog.cellsOf 135=3 from by kernel_rfl] at hlen
 simp only[wOk,DataW.weights,Try.underlying135] at hwt
 have hw:=wOk_each hwt
 have hxs:xs.length=3:=hxs
 have F0:∃y:Int,Ty.rep (whole W) ((cs.drop 0).take 1) y:=by
  have h1:=hf 0 _ rfl
  rw[show Try.prog.cellsOf _=1 from by kernel_rfl,List.getElem?_eq_getElem (by omega:0<xs.length)] at h1
  exact rd_int Try.underlying3 enc W sp n _ _ h1 (hw 0 _ _ rfl (by simp[hxs]))
 have F1:∃y:Int,Ty.rep (whole W) ((cs.drop 1).take 1) y:=by
  have h1:=hf 1 _ rfl
  rw[show Try.prog.cellsOf _=1 from by kernel_rfl,List.getElem?_eq_getElem (by omega:1<xs.length)] at h1
  exact rd_int Try.underlying3 enc W sp n _ _ h1 (hw 1 _ _ rfl (by simp[hxs]))
 have F2:∃y:List Exq,Ty.rep (whole W) ((cs.drop 2).take 1) y:=by
  have h1:=hf 2 _ rfl
  rw[show Try.prog.cellsOf _=1 from by kernel_rfl,List.getElem?_eq_getElem (by omega:2<xs.length)] at h1
  exact rd_listF (α:=Exq) Try.underlying133 (by kernel_rfl) (by decide) (by rw[show Try.prog.bytesOf 135=40 from by kernel_rfl];decide) (fun m hm=>ih m (by omega)) enc W sp _ _ h1 (hw 2 _ _ rfl (by simp[hxs]))
 have G2:∃y:List Exq,Ty.rep (whole W) (cs.drop 2) y:=by
  rw[List.take_of_length_le (by simp;omega)] at F2
  exact F2
 have G1:∃y:Int×List Exq,Ty.rep (whole W) (cs.drop 1) y:=rd_two F1 (by rw[List.drop_drop];exact G2)
 have G0:∃y:Int×Int×List Exq,Ty.rep (whole W) (cs.drop 0) y:=rd_two F0 (by rw[List.drop_drop];exact G1)
 obtain⟨z,hz⟩:=G0
 exact⟨Exq.mk z.1 z.2.1 z.2.2,Exq.rep_iff.2 hz⟩
theorem rd_Exq:RdT Try.prog 135 Exq:=fun enc W sp fuel cs x h hw=>rdF_Exq fuel enc W sp cs x h hw
theorem rd_Ed:RdT Try.prog 137 Ed:=by
 intro H enc W sp fuel cs x h hwt
 obtain⟨xs,n,rfl,rfl,hlen,hxs,hf⟩:=DataW.trod_struct Try.underlying137 h
 rw[show Try.prog.cellsOf 137=10 from by kernel_rfl] at hlen
 simp only[wOk,DataW.weights,Try.underlying137] at hwt
 have hw:=wOk_each hwt
 have hxs:xs.length=6:=hxs
 have F0:∃y:Int,Ty.rep (whole W) ((cs.drop 0).take 1) y:=by
  have h1:=hf 0 _ rfl
  rw[show Try.prog.cellsOf _=1 from by kernel_rfl,List.getElem?_eq_getElem (by omega:0<xs.length)] at h1
  exact rd_int Try.underlying3 enc W sp n _ _ h1 (hw 0 _ _ rfl (by simp[hxs]))
 have F1:∃y:Int,Ty.rep (whole W) ((cs.drop 1).take 1) y:=by
  have h1:=hf 1 _ rfl
  rw[show Try.prog.cellsOf _=1 from by kernel_rfl,List.getElem?_eq_getElem (by omega:1<xs.length)] at h1
  exact rd_int Try.underlying3 enc W sp n _ _ h1 (hw 1 _ _ rfl (by simp[hxs]))
 have F2:∃y:Exq,Ty.rep (whole W) ((cs.drop 2).take 3) y:=by
  have h1:=hf 2 _ rfl
  rw[show Try.prog.cellsOf _=3 from by kernel_rfl,List.getElem?_eq_getElem (by omega:2<xs.length)] at h1
  exact rd_Exq enc W sp n _ _ h1 (hw 2 _ _ rfl (by simp[hxs]))
 have F3:∃y:Int,Ty.rep (whole W) ((cs.drop 5).take 1) y:=by
  have h1:=hf 3 _ rfl
  rw[show Try.prog.cellsOf _=1 from by kernel_rfl,List.getElem?_eq_getElem (by omega:3<xs.length)] at h1
  exact rd_int Try.underlying3 enc W sp n _ _ h1 (hw 3 _ _ rfl (by simp[hxs]))
 have F4:∃y:Exq,Ty.rep (whole W) ((cs.drop 6).take 3) y:=by
  have h1:=hf 4 _ rfl
  rw[show Try.prog.cellsOf _=3 from by kernel_rfl,List.getElem?_eq_getElem (by omega:4<xs.length)] at h1
  exact rd_Exq enc W sp n _ _ h1 (hw 4 _ _ rfl (by simp[hxs]))
 have F5:∃y:Int,Ty.rep (whole W) ((cs.drop 9).take 1) y:=by
  have h1:=hf 5 _ rfl
  rw[show Try.prog.cellsOf _=1 from by kernel_rfl,List.getElem?_eq_getElem (by omega:5<xs.length)] at h1
  exact rd_int Try.underlying3 enc W sp n _ _ h1 (hw 5 _ _ rfl (by simp[hxs]))
 have G5:∃y:Int,Ty.rep (whole W) (cs.drop 9) y:=by
  rw[List.take_of_length_le (by simp;omega)] at F5
  exact F5
 have G4:∃y:Exq×Int,Ty.rep (whole W) (cs.drop 6) y:=rd_two F4 (by rw[List.drop_drop];exact G5)
 have G3:∃y:Int×Exq×Int,Ty.rep (whole W) (cs.drop 5) y:=rd_two F3 (by rw[List.drop_drop];exact G4)
 have G2:∃y:Exq×Int×Exq×Int,Ty.rep (whole W) (cs.drop 2) y:=rd_two F2 (by rw[List.drop_drop];exact G3)
 have G1:∃y:Int×Exq×Int×Exq×Int,Ty.rep (whole W) (cs.drop 1) y:=rd_two F1 (by rw[List.drop_drop];exact G2)
 have G0:∃y:Int×Int×Exq×Int×Exq×Int,Ty.rep (whole W) (cs.drop 0) y:=rd_two F0 (by rw[List.drop_drop];exact G1)
 obtain⟨z,hz⟩:=G0
 exact⟨⟨z.1,z.2.1,z.2.2.1,z.2.2.2.1,z.2.2.2.2.1,z.2.2.2.2.2⟩,hz⟩
theorem rd_Pr:RdT Try.prog 78 Pr:=by
 intro H enc W sp fuel cs x h hwt
 obtain⟨xs,n,rfl,rfl,hlen,hxs,hf⟩:=DataW.trod_struct Try.underlying78 h
 rw[show Try.prog.cellsOf 78=2 from by kernel_rfl] at hlen
 simp only[wOk,DataW.weights,Try.underlying78] at hwt
 have hw:=wOk_each hwt
 have hxs:xs.length=2:=hxs
 have F0:∃y:Int,Ty.rep (whole W) ((cs.drop 0).take 1) y:=by
  have h1:=hf 0 _ rfl
  rw[show Try.prog.cellsOf _=1 from by kernel_rfl,List.getElem?_eq_getElem (by omega:0<xs.length)] at h1
  exact rd_int Try.underlying3 enc W sp n _ _ h1 (hw 0 _ _ rfl (by simp[hxs]))
 have F1:∃y:List (Ed),Ty.rep (whole W) ((cs.drop 1).take 1) y:=by
  have h1:=hf 1 _ rfl
  rw[show Try.prog.cellsOf _=1 from by kernel_rfl,List.getElem?_eq_getElem (by omega:1<xs.length)] at h1
  exact rd_list (α:=Ed) Try.underlying76 (by kernel_rfl) (by decide) (by rw[show Try.prog.bytesOf 137=112 from by kernel_rfl];decide) (rd_Ed) enc W sp n _ _ h1 (hw 1 _ _ rfl (by simp[hxs]))
 have G1:∃y:(List (Ed)),Ty.rep (whole W) (cs.drop 1) y:=by
  rw[List.take_of_length_le (by simp;omega)] at F1
  exact F1
 have G0:∃y:Int×(List (Ed)),Ty.rep (whole W) (cs.drop 0) y:=rd_two F0 (by rw[List.drop_drop];exact G1)
 obtain⟨z,hz⟩:=G0
 exact⟨⟨z.1,z.2⟩,hz⟩
theorem rd_Sy:RdT Try.prog 25 Sy:=by
 intro H enc W sp fuel cs x h hwt
 obtain⟨xs,n,rfl,rfl,hlen,hxs,hf⟩:=DataW.trod_struct Try.underlying25 h
 rw[show Try.prog.cellsOf 25=2 from by kernel_rfl] at hlen
 simp only[wOk,DataW.weights,Try.underlying25] at hwt
 have hw:=wOk_each hwt
 have hxs:xs.length=2:=hxs
 have F0:∃y:List (Int),Ty.rep (whole W) ((cs.drop 0).take 1) y:=by
  have h1:=hf 0 _ rfl
  rw[show Try.prog.cellsOf _=1 from by kernel_rfl,List.getElem?_eq_getElem (by omega:0<xs.length)] at h1
  exact rd_list (α:=Int) Try.underlying22 (by kernel_rfl) (by decide) (by rw[show Try.prog.bytesOf 3=8 from by kernel_rfl];decide) (rd_int Try.underlying3) enc W sp n _ _ h1 (hw 0 _ _ rfl (by simp[hxs]))
 have F1:∃y:List (Pr),Ty.rep (whole W) ((cs.drop 1).take 1) y:=by
  have h1:=hf 1 _ rfl
  rw[show Try.prog.cellsOf _=1 from by kernel_rfl,List.getElem?_eq_getElem (by omega:1<xs.length)] at h1
  exact rd_list (α:=Pr) Try.underlying23 (by kernel_rfl) (by decide) (by rw[show Try.prog.bytesOf 78=32 from by kernel_rfl];decide) (rd_Pr) enc W sp n _ _ h1 (hw 1 _ _ rfl (by simp[hxs]))
 have G1:∃y:(List (Pr)),Ty.rep (whole W) (cs.drop 1) y:=by
  rw[List.take_of_length_le (by simp;omega)] at F1
  exact F1
 have G0:∃y:(List (Int))×(List (Pr)),Ty.rep (whole W) (cs.drop 0) y:=rd_two F0 (by rw[List.drop_drop];exact G1)
 obtain⟨z,hz⟩:=G0
 exact⟨⟨z.1,z.2⟩,hz⟩
abbrev fn_main_main:Nat:=0
abbrev fn_gosem_cut:Nat:=1
abbrev fn_gosem_cut_init:Nat:=2
abbrev fn_laws_FnExactParseState:Nat:=3
abbrev fn_laws_FnStateText:Nat:=4
abbrev fn_laws_szSystem:Nat:=5
abbrev fn_spec_ParseState:Nat:=6
abbrev fn_laws_toSystem:Nat:=7
abbrev fn_impl_ParseState:Nat:=8
abbrev fn_laws_eqState:Nat:=9
abbrev fn_laws_eqSystem:Nat:=10
abbrev fn_laws_markSystem:Nat:=11
abbrev fn_laws_markState:Nat:=12
abbrev fn_laws_heldState:Nat:=13
abbrev fn_spec_DrawStateValid:Nat:=14
abbrev fn_impl_FormatState:Nat:=15
abbrev fn_spec_FormatState:Nat:=16
abbrev fn_impl_StateValid:Nat:=17
abbrev fn_spec_StateValid:Nat:=18
abbrev fn_impl_StateSame:Nat:=19
abbrev fn_spec_DrawParseState:Nat:=20
abbrev fn_laws_szIntS:Nat:=21
abbrev fn_laws_szProcessS:Nat:=22
abbrev fn_spec_l16Cut:Nat:=23
abbrev fn_spec_l3Numbers:Nat:=24
abbrev fn_laws_toIntS:Nat:=25
abbrev fn_laws_toProcessS:Nat:=26
abbrev fn_strings_Cut:Nat:=27
abbrev fn_impl_readDigits:Nat:=28
abbrev fn_laws_eqIntS:Nat:=29
abbrev fn_laws_eqProcessS:Nat:=30
abbrev fn_laws_markIntS:Nat:=31
abbrev fn_laws_markProcessS:Nat:=32
abbrev fn_laws_heldIntS:Nat:=33
abbrev fn_spec_l16Open:Nat:=34
abbrev fn_spec_l2System:Nat:=35
abbrev fn_spec_l3Mutate:Nat:=36
abbrev fn_spec_l3State:Nat:=37
abbrev fn_spec_l2Mutate:Nat:=38
abbrev fn_impl_digits:Nat:=39
abbrev fn_spec_l3Digits:Nat:=40
abbrev fn_impl_SystemValid:Nat:=41
abbrev fn_impl_System_has:Nat:=42
abbrev fn_spec_SystemValid:Nat:=43
abbrev fn_spec_l1Vals:Nat:=44
abbrev fn_slices_Equal_S_int_int:Nat:=45
abbrev fn_spec_l1Bend:Nat:=46
abbrev fn_laws_szProcess:Nat:=47
abbrev fn_laws_toProcess:Nat:=48
abbrev fn_internal_stringslite_Cut:Nat:=49
abbrev fn_impl_small:Nat:=50
abbrev fn_laws_eqProcess:Nat:=51
abbrev fn_laws_markEdgeS:Nat:=52
abbrev fn_spec_l16Rd_pick:Nat:=53
abbrev fn_spec_l16Rd_num:Nat:=54
abbrev fn_spec_l2DrawEdge:Nat:=55
abbrev fn_spec_InitialState:Nat:=56
abbrev fn_spec_l3Steps:Nat:=57
abbrev fn_spec_l3Apply:Nat:=58
abbrev fn_spec_l2Copy:Nat:=59
abbrev fn_spec_l1Mutate:Nat:=60
abbrev fn_spec_l1Expr:Nat:=61
abbrev fn_impl_in:Nat:=62
abbrev fn_strings_Builder_WriteByte:Nat:=63
abbrev fn_strings_Builder_String:Nat:=64
abbrev fn_spec_l16Dec:Nat:=65
abbrev fn_impl_valsOk:Nat:=66
abbrev fn_slices_ContainsFunc_S_impl_Edge_impl_Edge:Nat:=67
abbrev fn_impl_SystemValid_1:Nat:=68
abbrev fn_impl_EdgeValid:Nat:=69
abbrev fn_spec_l2Process:Nat:=70
abbrev fn_spec_l16Rd_of:Nat:=71
abbrev fn_laws_szEdgeS:Nat:=72
abbrev fn_laws_toEdgeS:Nat:=73
abbrev fn_internal_stringslite_Index:Nat:=74
abbrev fn_laws_eqEdgeS:Nat:=75
abbrev fn_laws_markExprS:Nat:=76
abbrev fn_spec_l2Guard:Nat:=77
abbrev fn_spec_l3Ready:Nat:=78
abbrev fn_spec_l3Partners:Nat:=79
abbrev fn_spec_l3Take:Nat:=80
abbrev fn_spec_l1Subst:Nat:=81
abbrev fn_spec_l1Random:Nat:=82
abbrev fn_spec_ExprValid:Nat:=83
abbrev fn_strings_Builder_copyCheck:Nat:=84
abbrev fn_slices_ContainsFunc_S_int_int:Nat:=85
abbrev fn_impl_valsOk_1:Nat:=86
abbrev fn_slices_IndexFunc_S_impl_Edge_impl_Edge:Nat:=87
abbrev fn_impl_ExprValid:Nat:=88
abbrev fn_impl_ExprSame:Nat:=89
abbrev fn_spec_EdgeValid:Nat:=90
abbrev fn_laws_szEdge:Nat:=91
abbrev fn_laws_toEdge:Nat:=92
abbrev fn_internal_stringslite_IndexByte:Nat:=93
abbrev fn_internal_bytealg_IndexString:Nat:=94
abbrev fn_internal_bytealg_Cutover:Nat:=95
abbrev fn_internal_bytealg_IndexRabinKarp_string:Nat:=96
abbrev fn_laws_eqEdge:Nat:=97
abbrev fn_spec_l1Eval:Nat:=98
abbrev fn_spec_l1Arity:Nat:=99
abbrev fn_spec_l1Shape:Nat:=100
abbrev fn_spec_l1Count:Nat:=101
abbrev fn_internal_abi_NoEscape:Nat:=102
abbrev fn_slices_IndexFunc_S_int_int:Nat:=103
abbrev fn_impl_ExprNodes:Nat:=104
abbrev fn_slices_EqualFunc_S_impl_Expr_S_impl_Expr_impl_Expr_impl_Expr:Nat:=105
abbrev fn_spec_l2None:Nat:=106
abbrev fn_laws_szExpr:Nat:=107
abbrev fn_laws_toExpr:Nat:=108
abbrev fn_internal_bytealg_IndexByteString:Nat:=109
abbrev fn_internal_bytealg_hashStr_string:Nat:=110
abbrev fn_laws_eqExpr:Nat:=111
abbrev fn_spec_l1Bool:Nat:=112
abbrev fn_impl_Expr_walk:Nat:=113
abbrev fn_laws_szExprS:Nat:=114
abbrev fn_laws_toExprS:Nat:=115
abbrev fn_laws_eqExprS:Nat:=116
abbrev fn_slices_ContainsFunc_S_impl_Expr_impl_Expr:Nat:=117
abbrev fn_impl_Expr_walk_1:Nat:=118
abbrev fn_slices_IndexFunc_S_impl_Expr_impl_Expr:Nat:=119
abbrev fn_runtime_boundsError_Error:Nat:=120
abbrev fn_runtime_boundsError_RuntimeError:Nat:=121
abbrev fn_runtime_errorString_Error:Nat:=122
abbrev fn_runtime_errorString_RuntimeError:Nat:=123
abbrev fn_runtime_plainError_Error:Nat:=124
abbrev fn_runtime_plainError_RuntimeError:Nat:=125
abbrev fn_runtime_errorAddressString_Error:Nat:=126
abbrev fn_runtime_errorAddressString_RuntimeError:Nat:=127
abbrev fn_runtime_TypeAssertionError_Error:Nat:=128
abbrev fn_runtime_TypeAssertionError_RuntimeError:Nat:=129
abbrev fn_runtime_PanicNilError_Error:Nat:=130
abbrev fn_runtime_PanicNilError_RuntimeError:Nat:=131
abbrev fn_internal_abi_Type_Align:Nat:=132
abbrev fn_internal_runtime_maps_unhashableTypeError_Error:Nat:=133
abbrev fn_internal_runtime_maps_unhashableTypeError_RuntimeError:Nat:=134
abbrev fn_impl_State_copyOf:Nat:=135
abbrev fn_impl_System_copyOf:Nat:=136
abbrev fn_spec_l16Rd_word:Nat:=137
abbrev fn_impl_Process_reach:Nat:=138
abbrev fn_impl_Expr_text:Nat:=139
abbrev fn_impl_Edge_same:Nat:=140
abbrev fn_strings_Builder_Reset:Nat:=141
abbrev fn_internal_abi_Kind_String:Nat:=142
def H_laws_FnExactParseState:Hint:=⟨[(0,false),(1,false),(2,true),(4,false),(5,false),(6,true),(7,false),(8,true),(9,true),(10,false),(11,false),(12,false),(13,false),(14,true),(15,false)],[]⟩
abbrev K3_1:C:=.seq (.pl <| .e 15 0 <|
 .x 3 (.mv (.c (.bool true))) .done) (.ret)
abbrev K3_2:C:=.seq (.pl <| .e 15 0 <|
 .x 3 (.mv (.c (.bool false))) .done) (.ret)
abbrev K3_3:C:=.cond 15 (.v 17) K3_2 (.skip)
abbrev K3_4:C:=.seq (.seq (.pl <| .e 15 3 <|
 .m 15 12 <|
 .m 16 11 <|
 .x 17 (.bin .neq (.v 15) (.v 16)) .done) K3_3) K3_1
abbrev K3_5:C:=.seq (.pl <| .e 15 0 <|
 .x 3 (.mv (.c (.bool false))) .done) (.ret)
abbrev K3_6:C:=.cond 15 (.v 16) K3_5 (.skip)
abbrev K3_7:C:=.seq (.seq (.pl <| .e 15 2 <|
 .m 15 12 <|
 .x 16 (.bin .lss (.v 15) (.c (.int .i64 0))) .done) K3_6) K3_4
abbrev K3_8:Pl:=.m 12 17 .done
abbrev K3_9:C:=.seq (.pl <| .e 15 3 <|
 .o (.pget (some 15) none 8 0 (some 2)) <|
 .m 16 12 <|
 .c 17 (.call fn_laws_heldState [.v 15,.v 16]) K3_8) K3_7
abbrev K3_10:C:=.seq (.pl <| .e 15 0 <|
 .x 12 (.mv (.c (.int .i64 1))) .done) K3_9
abbrev K3_11:C:=.seq (.pl <| .e 15 0 <|
 .x 3 (.mv (.c (.bool false))) .done) (.ret)
abbrev K3_12:C:=.cond 15 (.v 23) K3_11 (.skip)
abbrev K3_13:Pl:=.x 18 (.un .not (.v 17)) <|
 .m 19 18 <|
 .n 19 (.px (some 20) (.mv (.v 14))) <|
 .n 19 (.px (some 21) (.mv (.v 6))) <|
 .n 19 (.px (some 22) (.eqb true (.v 20) (.v 21))) <|
 .x 23 (.pick (.v 19) (.c (.bool true)) (.v 22)) .done
abbrev K3_14:C:=.seq (.seq (.pl <| .e 15 9 <|
 .o (.pget (some 15) none 13 0 (some 2)) <|
 .o (.pget (some 16) none 5 0 (some 2)) <|
 .c 17 (.call fn_laws_eqState [.v 15,.v 16]) K3_13) K3_12) K3_10
abbrev K3_15:Pl:=.m 19 18 <|
 .x 20 (.extract 0 (.v 19)) <|
 .x 21 (.extract 1 (.v 19)) <|
 .o (.pnew 13 (.c (.agg #[.slice none 0 0,.slice none 0 0])) []) <|
 .o (.pset none 13 0 2 (.v 20)) <|
 .m 14 21 .done
abbrev K3_16:Pl:=.m 17 1 <|
 .c 18 (.call fn_impl_ParseState [.v 16,.v 17]) K3_15
abbrev K3_17:C:=.seq (.pl <| .e 15 7 <|
 .o (.pget (some 15) none 2 0 (some 2)) <|
 .c 16 (.call fn_laws_toSystem [.v 15]) K3_16) K3_14
abbrev K3_18:C:=.seq (.pl <| .e 15 0 <|
 .x 3 (.mv (.c (.bool false))) .done) (.ret)
abbrev K3_19:C:=.cond 15 (.v 17) K3_18 (.skip)
abbrev K3_20:C:=.seq (.seq (.pl <| .e 15 3 <|
 .m 15 12 <|
 .m 16 11 <|
 .x 17 (.bin .neq (.v 15) (.v 16)) .done) K3_19) K3_17
abbrev K3_21:C:=.seq (.pl <| .e 15 0 <|
 .x 3 (.mv (.c (.bool false))) .done) (.ret)
abbrev K3_22:C:=.cond 15 (.v 16) K3_21 (.skip)
abbrev K3_23:C:=.seq (.seq (.pl <| .e 15 2 <|
 .m 15 12 <|
 .x 16 (.bin .lss (.v 15) (.c (.int .i64 0))) .done) K3_22) K3_20
abbrev K3_24:Pl:=.m 12 17 .done
abbrev K3_25:C:=.seq (.pl <| .e 15 3 <|
 .o (.pget (some 15) none 8 0 (some 2)) <|
 .m 16 12 <|
 .c 17 (.call fn_laws_heldState [.v 15,.v 16]) K3_24) K3_23
abbrev K3_26:C:=.seq (.pl <| .e 15 0 <|
 .x 12 (.mv (.c (.int .i64 1))) .done) K3_25
abbrev K3_27:Pl:=.m 11 17 .done
abbrev K3_28:C:=.seq (.pl <| .e 15 3 <|
 .o (.pget (some 15) none 8 0 (some 2)) <|
 .m 16 11 <|
 .c 17 (.call fn_laws_markState [.v 15,.v 16]) K3_27) K3_26
abbrev K3_29:C:=.seq (.pl <| .e 15 0 <|
 .x 11 (.mv (.c (.int .i64 1))) .done) K3_28
abbrev K3_30:C:=.seq (.pl <| .e 15 0 <|
 .x 3 (.mv (.c (.bool false))) .done) (.ret)
abbrev K3_31:C:=.cond 15 (.v 27) K3_30 (.skip)
abbrev K3_32:Pl:=.n 17 (.px (some 21) (.un .not (.v 20))) <|
 .x 22 (.pick (.v 17) (.c (.bool true)) (.v 21)) <|
 .m 23 22 <|
 .n 23 (.px (some 24) (.mv (.v 9))) <|
 .n 23 (.px (some 25) (.mv (.v 6))) <|
 .n 23 (.px (some 26) (.eqb true (.v 24) (.v 25))) <|
 .x 27 (.pick (.v 23) (.c (.bool true)) (.v 26)) .done
abbrev K3_33:C:=.seq (.seq (.pl <| .e 15 13 <|
 .m 15 10 <|
 .x 16 (.bin .lss (.v 15) (.c (.int .i64 0))) <|
 .m 17 16 <|
 .n 17 (.pget (some 18) none 8 0 (some 2)) <|
 .n 17 (.pget (some 19) none 5 0 (some 2)) <|
 .st (.act (some (.v 17,false)) (.ex (some 20) (.call fn_laws_eqState [.v 18,.v 19]))) K3_32) K3_31) K3_29
abbrev K3_34:Pl:=.m 10 17 .done
abbrev K3_35:C:=.seq (.pl <| .e 15 3 <|
 .o (.pget (some 15) none 7 0 (some 2)) <|
 .m 16 10 <|
 .c 17 (.call fn_laws_markSystem [.v 15,.v 16]) K3_34) K3_33
abbrev K3_36:C:=.seq (.pl <| .e 15 0 <|
 .x 10 (.mv (.c (.int .i64 1))) .done) K3_35
abbrev K3_37:C:=.seq (.pl <| .e 15 0 <|
 .x 3 (.mv (.c (.bool false))) .done) (.ret)
abbrev K3_38:C:=.cond 15 (.v 19) K3_37 (.skip)
abbrev K3_39:Pl:=.x 19 (.un .not (.v 18)) .done
abbrev K3_40:Pl:=.c 18 (.call fn_laws_eqSystem [.v 15,.v 17]) K3_39
abbrev K3_41:C:=.seq (.seq (.pl <| .e 15 5 <|
 .o (.pget (some 15) none 7 0 (some 2)) <|
 .o (.pget (some 16) none 2 0 (some 2)) <|
 .c 17 (.call fn_laws_toSystem [.v 16]) K3_40) K3_38) K3_36
abbrev K3_42:C:=.seq (.pl <| .e 15 0 <|
 .x 3 (.mv (.c (.bool false))) .done) (.ret)
abbrev K3_43:C:=.cond 15 (.v 23) K3_42 (.skip)
abbrev K3_44:Pl:=.x 18 (.un .not (.v 17)) <|
 .m 19 18 <|
 .n 19 (.px (some 20) (.mv (.v 9))) <|
 .n 19 (.px (some 21) (.mv (.v 6))) <|
 .n 19 (.px (some 22) (.eqb true (.v 20) (.v 21))) <|
 .x 23 (.pick (.v 19) (.c (.bool true)) (.v 22)) .done
abbrev K3_45:C:=.seq (.seq (.pl <| .e 15 9 <|
 .o (.pget (some 15) none 8 0 (some 2)) <|
 .o (.pget (some 16) none 5 0 (some 2)) <|
 .c 17 (.call fn_laws_eqState [.v 15,.v 16]) K3_44) K3_43) K3_41
abbrev K3_46:Pl:=.m 18 17 <|
 .x 19 (.extract 0 (.v 18)) <|
 .x 20 (.extract 1 (.v 18)) <|
 .o (.pnew 8 (.c (.agg #[.slice none 0 0,.slice none 0 0])) []) <|
 .o (.pset none 8 0 2 (.v 19)) <|
 .m 9 20 .done
abbrev K3_47:C:=.seq (.pl <| .e 15 6 <|
 .o (.pget (some 15) none 7 0 (some 2)) <|
 .m 16 1 <|
 .c 17 (.call fn_impl_ParseState [.v 15,.v 16]) K3_46) K3_45
abbrev K3_48:Pl:=.o (.pnew 7 (.c (.agg #[.slice none 0 0,.slice none 0 0])) []) <|
 .o (.pset none 7 0 2 (.v 16)) .done
abbrev K3_49:C:=.seq (.pl <| .e 15 2 <|
 .o (.pget (some 15) none 2 0 (some 2)) <|
 .c 16 (.call fn_laws_toSystem [.v 15]) K3_48) K3_47
abbrev K3_50:Pl:=.m 19 18 <|
 .x 20 (.extract 0 (.v 19)) <|
 .x 21 (.extract 1 (.v 19)) <|
 .o (.pnew 5 (.c (.agg #[.slice none 0 0,.slice none 0 0])) []) <|
 .o (.pset none 5 0 2 (.v 20)) <|
 .m 6 21 .done
abbrev K3_51:Pl:=.m 17 1 <|
 .c 18 (.call fn_spec_ParseState [.v 16,.v 17]) K3_50
abbrev K3_52:C:=.seq (.pl <| .e 15 7 <|
 .o (.pget (some 15) none 2 0 (some 2)) <|
 .c 16 (.call fn_laws_toSystem [.v 15]) K3_51) K3_49
abbrev K3_53:C:=.seq (.pl <| .e 15 0 <|
 .x 3 (.mv (.c (.bool true))) .done) (.ret)
abbrev K3_54:C:=.cond 15 (.v 16) K3_53 (.skip)
abbrev K3_55:C:=.seq (.seq (.pl <| .e 15 2 <|
 .m 15 4 <|
 .x 16 (.bin .lss (.v 15) (.c (.int .i64 0))) .done) K3_54) K3_52
abbrev K3_56:Pl:=.m 4 17 .done
abbrev K3_57:C:=.seq (.pl <| .e 15 3 <|
 .o (.pget (some 15) none 2 0 (some 2)) <|
 .m 16 4 <|
 .c 17 (.call fn_laws_szSystem [.v 15,.v 16]) K3_56) K3_55
abbrev K3_58:C:=.seq (.pl <| .e 15 0 <|
 .x 4 (.mv (.c (.int .i64 1048576))) .done) K3_57
abbrev K3_59:C:=.seq (.pl <| .e 15 0 <|
 .x 3 (.mv (.c (.bool true))) .done) (.ret)
abbrev K3_60:C:=.cond 15 (.v 17) K3_59 (.skip)
abbrev K3_61:C:=.seq (.seq (.pl <| .e 15 3 <|
 .m 15 1 <|
 .x 16 (.lenS (.v 15)) <|
 .x 17 (.bin .gtr (.v 16) (.c (.int .i64 1048576))) .done) K3_60) K3_58
abbrev B_laws_FnExactParseState:C:=.seq (.pl <| .e 15 0 <|
 .o (.pnew 2 (.v 0) []) <|
 .x 3 (.mv (.c (.bool false))) .done) K3_61
def R_laws_FnExactParseState:FIR:=⟨B_laws_FnExactParseState,15,[(3,none)]⟩
theorem IR_laws_FnExactParseState:cfun Try.prog H_laws_FnExactParseState Try.f3=some R_laws_FnExactParseState:=by kernel_rfl
theorem EN_laws_FnExactParseState:ENT Try.prog B_laws_FnExactParseState [(3,none)] 2 15 fn_laws_FnExactParseState:=fun hargs hw=>enter Try.func3 rfl IR_laws_FnExactParseState hargs hw
def H_laws_eqEdge:Hint:=⟨[(0,false),(1,false),(2,true),(3,true),(4,false)],[]⟩
abbrev K97_1:C:=.seq (.pl <| .e 5 0 <|
 .x 4 (.mv (.c (.bool true))) .done) (.ret)
abbrev K97_2:C:=.seq (.pl <| .e 5 0 <|
 .x 4 (.mv (.c (.bool false))) .done) (.ret)
abbrev K97_3:C:=.cond 5 (.v 9) K97_2 (.skip)
abbrev K97_4:C:=.seq (.seq (.pl <| .e 5 5 <|
 .a 5 2 <|
 .g 6 5 2 9 <|
 .a 7 3 <|
 .g 8 7 3 9 <|
 .x 9 (.bin .neq (.v 6) (.v 8)) .done) K97_3) K97_1
abbrev K97_5:C:=.seq (.pl <| .e 5 0 <|
 .x 4 (.mv (.c (.bool false))) .done) (.ret)
abbrev K97_6:C:=.cond 5 (.v 10) K97_5 (.skip)
abbrev K97_7:Pl:=.x 10 (.un .not (.v 9)) .done
abbrev K97_8:C:=.seq (.seq (.pl <| .e 5 6 <|
 .a 5 2 <|
 .o (.pget (some 6) (some 5) 2 6 (some 3)) <|
 .a 7 3 <|
 .o (.pget (some 8) (some 7) 3 6 (some 3)) <|
 .c 9 (.call fn_laws_eqExpr [.v 6,.v 8]) K97_7) K97_6) K97_4
abbrev K97_9:C:=.seq (.pl <| .e 5 0 <|
 .x 4 (.mv (.c (.bool false))) .done) (.ret)
abbrev K97_10:C:=.cond 5 (.v 9) K97_9 (.skip)
abbrev K97_11:C:=.seq (.seq (.pl <| .e 5 5 <|
 .a 5 2 <|
 .g 6 5 2 5 <|
 .a 7 3 <|
 .g 8 7 3 5 <|
 .x 9 (.bin .neq (.v 6) (.v 8)) .done) K97_10) K97_8
abbrev K97_12:C:=.seq (.pl <| .e 5 0 <|
 .x 4 (.mv (.c (.bool false))) .done) (.ret)
abbrev K97_13:C:=.cond 5 (.v 10) K97_12 (.skip)
abbrev K97_14:Pl:=.x 10 (.un .not (.v 9)) .done
abbrev K97_15:C:=.seq (.seq (.pl <| .e 5 6 <|
 .a 5 2 <|
 .o (.pget (some 6) (some 5) 2 2 (some 3)) <|
 .a 7 3 <|
 .o (.pget (some 8) (some 7) 3 2 (some 3)) <|
 .c 9 (.call fn_laws_eqExpr [.v 6,.v 8]) K97_14) K97_13) K97_11
abbrev K97_16:C:=.seq (.pl <| .e 5 0 <|
 .x 4 (.mv (.c (.bool false))) .done) (.ret)
abbrev K97_17:C:=.cond 5 (.v 9) K97_16 (.skip)
abbrev K97_18:C:=.seq (.seq (.pl <| .e 5 5 <|
 .a 5 2 <|
 .g 6 5 2 1 <|
 .a 7 3 <|
 .g 8 7 3 1 <|
 .x 9 (.bin .neq (.v 6) (.v 8)) .done) K97_17) K97_15
abbrev K97_19:C:=.seq (.pl <| .e 5 0 <|
 .x 4 (.mv (.c (.bool false))) .done) (.ret)
abbrev K97_20:C:=.cond 5 (.v 9) K97_19 (.skip)
abbrev K97_21:C:=.seq (.seq (.pl <| .e 5 5 <|
 .a 5 2 <|
 .g 6 5 2 0 <|
 .a 7 3 <|
 .g 8 7 3 0 <|
 .x 9 (.bin .neq (.v 6) (.v 8)) .done) K97_20) K97_18
abbrev B_laws_eqEdge:C:=.seq (.pl <| .e 5 0 <|
 .o (.pnew 2 (.v 0) []) <|
 .o (.pnew 3 (.v 1) []) <|
 .x 4 (.mv (.c (.bool false))) .done) K97_21
def R_laws_eqEdge:FIR:=⟨B_laws_eqEdge,5,[(4,none)]⟩
theorem IR_laws_eqEdge:cfun Try.prog H_laws_eqEdge Try.f97=some R_laws_eqEdge:=by kernel_rfl
theorem EN_laws_eqEdge:ENT Try.prog B_laws_eqEdge [(4,none)] 2 5 fn_laws_eqEdge:=fun hargs hw=>enter Try.func97 rfl IR_laws_eqEdge hargs hw
def H_laws_eqEdgeS:Hint:=⟨[(0,false),(1,false),(4,false),(5,false)],[[2]]⟩
abbrev K75_1:C:=.seq (.pl <| .e 4 0 <|
 .x 2 (.mv (.c (.bool true))) .done) (.ret)
abbrev K75_2:C:=.pl <| .e 4 2 <|
 .m 4 3 <|
 .x 5 (.bin .add (.v 4) (.c (.int .i64 1))) <|
 .m 3 5 .done
abbrev K75_3:C:=.seq (.pl <| .e 4 0 <|
 .x 2 (.mv (.c (.bool false))) .done) (.ret)
abbrev K75_4:C:=.cond 4 (.v 13) K75_3 (.skip)
abbrev K75_5:Pl:=.x 13 (.un .not (.v 12)) .done
abbrev K75_6:C:=.seq (.block 1 (.seq (.pl <| .e 4 10 <|
 .m 4 0 <|
 .m 5 3 <|
 .x 6 (.ia 10 (.v 4) (.v 5)) <|
 .o (.ld (some 7) (.v 6) (some 10)) <|
 .m 8 1 <|
 .m 9 3 <|
 .x 10 (.ia 10 (.v 8) (.v 9)) <|
 .o (.ld (some 11) (.v 10) (some 10)) <|
 .c 12 (.call fn_laws_eqEdge [.v 7,.v 11]) K75_5) K75_4)) K75_2
abbrev K75_7:C:=.cond 4 (.v 7) (.skip) (.exit 0)
abbrev K75_8:C:=.seq (.seq (.pl <| .e 4 4 <|
 .m 4 3 <|
 .m 5 0 <|
 .x 6 (.lenV (.v 5)) <|
 .x 7 (.bin .lss (.v 4) (.v 6)) .done) K75_7) K75_6
abbrev K75_9:C:=.block 0 (.loop 4 [2] K75_8)
abbrev K75_10:C:=.seq (.seq (.pl <| .e 4 0 <|
 .x 3 (.mv (.c (.int .i64 0))) .done) K75_9) K75_1
abbrev K75_11:C:=.seq (.pl <| .e 4 0 <|
 .x 2 (.mv (.c (.bool false))) .done) (.ret)
abbrev K75_12:C:=.cond 4 (.v 8) K75_11 (.skip)
abbrev K75_13:C:=.seq (.seq (.pl <| .e 4 5 <|
 .m 4 0 <|
 .x 5 (.lenV (.v 4)) <|
 .m 6 1 <|
 .x 7 (.lenV (.v 6)) <|
 .x 8 (.bin .neq (.v 5) (.v 7)) .done) K75_12) K75_10
abbrev B_laws_eqEdgeS:C:=.seq (.pl <| .e 4 0 <|
 .x 2 (.mv (.c (.bool false))) .done) K75_13
def R_laws_eqEdgeS:FIR:=⟨B_laws_eqEdgeS,4,[(2,none)]⟩
theorem IR_laws_eqEdgeS:cfun Try.prog H_laws_eqEdgeS Try.f75=some R_laws_eqEdgeS:=by kernel_rfl
theorem EN_laws_eqEdgeS:ENT Try.prog B_laws_eqEdgeS [(2,none)] 2 4 fn_laws_eqEdgeS:=fun hargs hw=>enter Try.func75 rfl IR_laws_eqEdgeS hargs hw
def H_laws_eqExpr:Hint:=⟨[(0,false),(1,false),(2,true),(3,true),(4,false)],[]⟩
abbrev K111_1:C:=.seq (.pl <| .e 5 0 <|
 .x 4 (.mv (.c (.bool true))) .done) (.ret)
abbrev K111_2:C:=.seq (.pl <| .e 5 0 <|
 .x 4 (.mv (.c (.bool false))) .done) (.ret)
abbrev K111_3:C:=.cond 5 (.v 10) K111_2 (.skip)
abbrev K111_4:Pl:=.x 10 (.un .not (.v 9)) .done
abbrev K111_5:C:=.seq (.seq (.pl <| .e 5 6 <|
 .a 5 2 <|
 .g 6 5 2 2 <|
 .a 7 3 <|
 .g 8 7 3 2 <|
 .c 9 (.call fn_laws_eqExprS [.v 6,.v 8]) K111_4) K111_3) K111_1
abbrev K111_6:C:=.seq (.pl <| .e 5 0 <|
 .x 4 (.mv (.c (.bool false))) .done) (.ret)
abbrev K111_7:C:=.cond 5 (.v 9) K111_6 (.skip)
abbrev K111_8:C:=.seq (.seq (.pl <| .e 5 5 <|
 .a 5 2 <|
 .g 6 5 2 1 <|
 .a 7 3 <|
 .g 8 7 3 1 <|
 .x 9 (.bin .neq (.v 6) (.v 8)) .done) K111_7) K111_5
abbrev K111_9:C:=.seq (.pl <| .e 5 0 <|
 .x 4 (.mv (.c (.bool false))) .done) (.ret)
abbrev K111_10:C:=.cond 5 (.v 9) K111_9 (.skip)
abbrev K111_11:C:=.seq (.seq (.pl <| .e 5 5 <|
 .a 5 2 <|
 .g 6 5 2 0 <|
 .a 7 3 <|
 .g 8 7 3 0 <|
 .x 9 (.bin .neq (.v 6) (.v 8)) .done) K111_10) K111_8
abbrev B_laws_eqExpr:C:=.seq (.pl <| .e 5 0 <|
 .o (.pnew 2 (.v 0) []) <|
 .o (.pnew 3 (.v 1) []) <|
 .x 4 (.mv (.c (.bool false))) .done) K111_11
def R_laws_eqExpr:FIR:=⟨B_laws_eqExpr,5,[(4,none)]⟩
theorem IR_laws_eqExpr:cfun Try.prog H_laws_eqExpr Try.f111=some R_laws_eqExpr:=by kernel_rfl
theorem EN_laws_eqExpr:ENT Try.prog B_laws_eqExpr [(4,none)] 2 5 fn_laws_eqExpr:=fun hargs hw=>enter Try.func111 rfl IR_laws_eqExpr hargs hw
def H_laws_eqExprS:Hint:=⟨[(0,false),(1,false),(4,false),(5,false)],[[2]]⟩
abbrev K116_1:C:=.seq (.pl <| .e 4 0 <|
 .x 2 (.mv (.c (.bool true))) .done) (.ret)
abbrev K116_2:C:=.pl <| .e 4 2 <|
 .m 4 3 <|
 .x 5 (.bin .add (.v 4) (.c (.int .i64 1))) <|
 .m 3 5 .done
abbrev K116_3:C:=.seq (.pl <| .e 4 0 <|
 .x 2 (.mv (.c (.bool false))) .done) (.ret)
abbrev K116_4:C:=.cond 4 (.v 13) K116_3 (.skip)
abbrev K116_5:Pl:=.x 13 (.un .not (.v 12)) .done
abbrev K116_6:C:=.seq (.block 1 (.seq (.pl <| .e 4 10 <|
 .m 4 0 <|
 .m 5 3 <|
 .x 6 (.ia 3 (.v 4) (.v 5)) <|
 .o (.ld (some 7) (.v 6) (some 3)) <|
 .m 8 1 <|
 .m 9 3 <|
 .x 10 (.ia 3 (.v 8) (.v 9)) <|
 .o (.ld (some 11) (.v 10) (some 3)) <|
 .c 12 (.call fn_laws_eqExpr [.v 7,.v 11]) K116_5) K116_4)) K116_2
abbrev K116_7:C:=.cond 4 (.v 7) (.skip) (.exit 0)
abbrev K116_8:C:=.seq (.seq (.pl <| .e 4 4 <|
 .m 4 3 <|
 .m 5 0 <|
 .x 6 (.lenV (.v 5)) <|
 .x 7 (.bin .lss (.v 4) (.v 6)) .done) K116_7) K116_6
abbrev K116_9:C:=.block 0 (.loop 4 [2] K116_8)
abbrev K116_10:C:=.seq (.seq (.pl <| .e 4 0 <|
 .x 3 (.mv (.c (.int .i64 0))) .done) K116_9) K116_1
abbrev K116_11:C:=.seq (.pl <| .e 4 0 <|
 .x 2 (.mv (.c (.bool false))) .done) (.ret)
abbrev K116_12:C:=.cond 4 (.v 8) K116_11 (.skip)
abbrev K116_13:C:=.seq (.seq (.pl <| .e 4 5 <|
 .m 4 0 <|
 .x 5 (.lenV (.v 4)) <|
 .m 6 1 <|
 .x 7 (.lenV (.v 6)) <|
 .x 8 (.bin .neq (.v 5) (.v 7)) .done) K116_12) K116_10
abbrev B_laws_eqExprS:C:=.seq (.pl <| .e 4 0 <|
 .x 2 (.mv (.c (.bool false))) .done) K116_13
def R_laws_eqExprS:FIR:=⟨B_laws_eqExprS,4,[(2,none)]⟩
theorem IR_laws_eqExprS:cfun Try.prog H_laws_eqExprS Try.f116=some R_laws_eqExprS:=by kernel_rfl
theorem EN_laws_eqExprS:ENT Try.prog B_laws_eqExprS [(2,none)] 2 4 fn_laws_eqExprS:=fun hargs hw=>enter Try.func116 rfl IR_laws_eqExprS hargs hw
def H_laws_eqIntS:Hint:=⟨[(0,false),(1,false),(4,false),(5,false)],[[2]]⟩
abbrev K29_1:C:=.seq (.pl <| .e 4 0 <|
 .x 2 (.mv (.c (.bool true))) .done) (.ret)
abbrev K29_2:C:=.pl <| .e 4 2 <|
 .m 4 3 <|
 .x 5 (.bin .add (.v 4) (.c (.int .i64 1))) <|
 .m 3 5 .done
abbrev K29_3:C:=.seq (.pl <| .e 4 0 <|
 .x 2 (.mv (.c (.bool false))) .done) (.ret)
abbrev K29_4:C:=.cond 4 (.v 12) K29_3 (.skip)
abbrev K29_5:C:=.seq (.block 1 (.seq (.pl <| .e 4 9 <|
 .m 4 0 <|
 .m 5 3 <|
 .x 6 (.ia 1 (.v 4) (.v 5)) <|
 .l 7 6 <|
 .m 8 1 <|
 .m 9 3 <|
 .x 10 (.ia 1 (.v 8) (.v 9)) <|
 .l 11 10 <|
 .x 12 (.bin .neq (.v 7) (.v 11)) .done) K29_4)) K29_2
abbrev K29_6:C:=.cond 4 (.v 7) (.skip) (.exit 0)
abbrev K29_7:C:=.seq (.seq (.pl <| .e 4 4 <|
 .m 4 3 <|
 .m 5 0 <|
 .x 6 (.lenV (.v 5)) <|
 .x 7 (.bin .lss (.v 4) (.v 6)) .done) K29_6) K29_5
abbrev K29_8:C:=.block 0 (.loop 4 [2] K29_7)
abbrev K29_9:C:=.seq (.seq (.pl <| .e 4 0 <|
 .x 3 (.mv (.c (.int .i64 0))) .done) K29_8) K29_1
abbrev K29_10:C:=.seq (.pl <| .e 4 0 <|
 .x 2 (.mv (.c (.bool false))) .done) (.ret)
abbrev K29_11:C:=.cond 4 (.v 8) K29_10 (.skip)
abbrev K29_12:C:=.seq (.seq (.pl <| .e 4 5 <|
 .m 4 0 <|
 .x 5 (.lenV (.v 4)) <|
 .m 6 1 <|
 .x 7 (.lenV (.v 6)) <|
 .x 8 (.bin .neq (.v 5) (.v 7)) .done) K29_11) K29_9
abbrev B_laws_eqIntS:C:=.seq (.pl <| .e 4 0 <|
 .x 2 (.mv (.c (.bool false))) .done) K29_12
def R_laws_eqIntS:FIR:=⟨B_laws_eqIntS,4,[(2,none)]⟩
theorem IR_laws_eqIntS:cfun Try.prog H_laws_eqIntS Try.f29=some R_laws_eqIntS:=by kernel_rfl
theorem EN_laws_eqIntS:ENT Try.prog B_laws_eqIntS [(2,none)] 2 4 fn_laws_eqIntS:=fun hargs hw=>enter Try.func29 rfl IR_laws_eqIntS hargs hw
def H_laws_eqProcess:Hint:=⟨[(0,false),(1,false),(2,true),(3,true),(4,false)],[]⟩
abbrev K51_1:C:=.seq (.pl <| .e 5 0 <|
 .x 4 (.mv (.c (.bool true))) .done) (.ret)
abbrev K51_2:C:=.seq (.pl <| .e 5 0 <|
 .x 4 (.mv (.c (.bool false))) .done) (.ret)
abbrev K51_3:C:=.cond 5 (.v 10) K51_2 (.skip)
abbrev K51_4:Pl:=.x 10 (.un .not (.v 9)) .done
abbrev K51_5:C:=.seq (.seq (.pl <| .e 5 6 <|
 .a 5 2 <|
 .g 6 5 2 1 <|
 .a 7 3 <|
 .g 8 7 3 1 <|
 .c 9 (.call fn_laws_eqEdgeS [.v 6,.v 8]) K51_4) K51_3) K51_1
abbrev K51_6:C:=.seq (.pl <| .e 5 0 <|
 .x 4 (.mv (.c (.bool false))) .done) (.ret)
abbrev K51_7:C:=.cond 5 (.v 9) K51_6 (.skip)
abbrev K51_8:C:=.seq (.seq (.pl <| .e 5 5 <|
 .a 5 2 <|
 .g 6 5 2 0 <|
 .a 7 3 <|
 .g 8 7 3 0 <|
 .x 9 (.bin .neq (.v 6) (.v 8)) .done) K51_7) K51_5
abbrev B_laws_eqProcess:C:=.seq (.pl <| .e 5 0 <|
 .o (.pnew 2 (.v 0) []) <|
 .o (.pnew 3 (.v 1) []) <|
 .x 4 (.mv (.c (.bool false))) .done) K51_8
def R_laws_eqProcess:FIR:=⟨B_laws_eqProcess,5,[(4,none)]⟩
theorem IR_laws_eqProcess:cfun Try.prog H_laws_eqProcess Try.f51=some R_laws_eqProcess:=by kernel_rfl
theorem EN_laws_eqProcess:ENT Try.prog B_laws_eqProcess [(4,none)] 2 5 fn_laws_eqProcess:=fun hargs hw=>enter Try.func51 rfl IR_laws_eqProcess hargs hw
def H_laws_eqProcessS:Hint:=⟨[(0,false),(1,false),(4,false),(5,false)],[[2]]⟩
abbrev K30_1:C:=.seq (.pl <| .e 4 0 <|
 .x 2 (.mv (.c (.bool true))) .done) (.ret)
abbrev K30_2:C:=.pl <| .e 4 2 <|
 .m 4 3 <|
 .x 5 (.bin .add (.v 4) (.c (.int .i64 1))) <|
 .m 3 5 .done
abbrev K30_3:C:=.seq (.pl <| .e 4 0 <|
 .x 2 (.mv (.c (.bool false))) .done) (.ret)
abbrev K30_4:C:=.cond 4 (.v 13) K30_3 (.skip)
abbrev K30_5:Pl:=.x 13 (.un .not (.v 12)) .done
abbrev K30_6:C:=.seq (.block 1 (.seq (.pl <| .e 4 10 <|
 .m 4 0 <|
 .m 5 3 <|
 .x 6 (.ia 2 (.v 4) (.v 5)) <|
 .o (.ld (some 7) (.v 6) (some 2)) <|
 .m 8 1 <|
 .m 9 3 <|
 .x 10 (.ia 2 (.v 8) (.v 9)) <|
 .o (.ld (some 11) (.v 10) (some 2)) <|
 .c 12 (.call fn_laws_eqProcess [.v 7,.v 11]) K30_5) K30_4)) K30_2
abbrev K30_7:C:=.cond 4 (.v 7) (.skip) (.exit 0)
abbrev K30_8:C:=.seq (.seq (.pl <| .e 4 4 <|
 .m 4 3 <|
 .m 5 0 <|
 .x 6 (.lenV (.v 5)) <|
 .x 7 (.bin .lss (.v 4) (.v 6)) .done) K30_7) K30_6
abbrev K30_9:C:=.block 0 (.loop 4 [2] K30_8)
abbrev K30_10:C:=.seq (.seq (.pl <| .e 4 0 <|
 .x 3 (.mv (.c (.int .i64 0))) .done) K30_9) K30_1
abbrev K30_11:C:=.seq (.pl <| .e 4 0 <|
 .x 2 (.mv (.c (.bool false))) .done) (.ret)
abbrev K30_12:C:=.cond 4 (.v 8) K30_11 (.skip)
abbrev K30_13:C:=.seq (.seq (.pl <| .e 4 5 <|
 .m 4 0 <|
 .x 5 (.lenV (.v 4)) <|
 .m 6 1 <|
 .x 7 (.lenV (.v 6)) <|
 .x 8 (.bin .neq (.v 5) (.v 7)) .done) K30_12) K30_10
abbrev B_laws_eqProcessS:C:=.seq (.pl <| .e 4 0 <|
 .x 2 (.mv (.c (.bool false))) .done) K30_13
def R_laws_eqProcessS:FIR:=⟨B_laws_eqProcessS,4,[(2,none)]⟩
theorem IR_laws_eqProcessS:cfun Try.prog H_laws_eqProcessS Try.f30=some R_laws_eqProcessS:=by kernel_rfl
theorem EN_laws_eqProcessS:ENT Try.prog B_laws_eqProcessS [(2,none)] 2 4 fn_laws_eqProcessS:=fun hargs hw=>enter Try.func30 rfl IR_laws_eqProcessS hargs hw
def H_laws_eqState:Hint:=⟨[(0,false),(1,false),(2,true),(3,true),(4,false)],[]⟩
abbrev K9_1:C:=.seq (.pl <| .e 5 0 <|
 .x 4 (.mv (.c (.bool true))) .done) (.ret)
abbrev K9_2:C:=.seq (.pl <| .e 5 0 <|
 .x 4 (.mv (.c (.bool false))) .done) (.ret)
abbrev K9_3:C:=.cond 5 (.v 10) K9_2 (.skip)
abbrev K9_4:Pl:=.x 10 (.un .not (.v 9)) .done
abbrev K9_5:C:=.seq (.seq (.pl <| .e 5 6 <|
 .a 5 2 <|
 .g 6 5 2 1 <|
 .a 7 3 <|
 .g 8 7 3 1 <|
 .c 9 (.call fn_laws_eqIntS [.v 6,.v 8]) K9_4) K9_3) K9_1
abbrev K9_6:C:=.seq (.pl <| .e 5 0 <|
 .x 4 (.mv (.c (.bool false))) .done) (.ret)
abbrev K9_7:C:=.cond 5 (.v 10) K9_6 (.skip)
abbrev K9_8:Pl:=.x 10 (.un .not (.v 9)) .done
abbrev K9_9:C:=.seq (.seq (.pl <| .e 5 6 <|
 .a 5 2 <|
 .g 6 5 2 0 <|
 .a 7 3 <|
 .g 8 7 3 0 <|
 .c 9 (.call fn_laws_eqIntS [.v 6,.v 8]) K9_8) K9_7) K9_5
abbrev B_laws_eqState:C:=.seq (.pl <| .e 5 0 <|
 .o (.pnew 2 (.v 0) []) <|
 .o (.pnew 3 (.v 1) []) <|
 .x 4 (.mv (.c (.bool false))) .done) K9_9
def R_laws_eqState:FIR:=⟨B_laws_eqState,5,[(4,none)]⟩
theorem IR_laws_eqState:cfun Try.prog H_laws_eqState Try.f9=some R_laws_eqState:=by kernel_rfl
theorem EN_laws_eqState:ENT Try.prog B_laws_eqState [(4,none)] 2 5 fn_laws_eqState:=fun hargs hw=>enter Try.func9 rfl IR_laws_eqState hargs hw
def H_laws_eqSystem:Hint:=⟨[(0,false),(1,false),(2,true),(3,true),(4,false)],[]⟩
abbrev K10_1:C:=.seq (.pl <| .e 5 0 <|
 .x 4 (.mv (.c (.bool true))) .done) (.ret)
abbrev K10_2:C:=.seq (.pl <| .e 5 0 <|
 .x 4 (.mv (.c (.bool false))) .done) (.ret)
abbrev K10_3:C:=.cond 5 (.v 10) K10_2 (.skip)
abbrev K10_4:Pl:=.x 10 (.un .not (.v 9)) .done
abbrev K10_5:C:=.seq (.seq (.pl <| .e 5 6 <|
 .a 5 2 <|
 .g 6 5 2 1 <|
 .a 7 3 <|
 .g 8 7 3 1 <|
 .c 9 (.call fn_laws_eqProcessS [.v 6,.v 8]) K10_4) K10_3) K10_1
abbrev K10_6:C:=.seq (.pl <| .e 5 0 <|
 .x 4 (.mv (.c (.bool false))) .done) (.ret)
abbrev K10_7:C:=.cond 5 (.v 10) K10_6 (.skip)
abbrev K10_8:Pl:=.x 10 (.un .not (.v 9)) .done
abbrev K10_9:C:=.seq (.seq (.pl <| .e 5 6 <|
 .a 5 2 <|
 .g 6 5 2 0 <|
 .a 7 3 <|
 .g 8 7 3 0 <|
 .c 9 (.call fn_laws_eqIntS [.v 6,.v 8]) K10_8) K10_7) K10_5
abbrev B_laws_eqSystem:C:=.seq (.pl <| .e 5 0 <|
 .o (.pnew 2 (.v 0) []) <|
 .o (.pnew 3 (.v 1) []) <|
 .x 4 (.mv (.c (.bool false))) .done) K10_9
def R_laws_eqSystem:FIR:=⟨B_laws_eqSystem,5,[(4,none)]⟩
theorem IR_laws_eqSystem:cfun Try.prog H_laws_eqSystem Try.f10=some R_laws_eqSystem:=by kernel_rfl
theorem EN_laws_eqSystem:ENT Try.prog B_laws_eqSystem [(4,none)] 2 5 fn_laws_eqSystem:=fun hargs hw=>enter Try.func10 rfl IR_laws_eqSystem hargs hw
def H_laws_heldIntS:Hint:=⟨[(0,false),(1,false),(4,false),(5,false)],[[2]]⟩
abbrev K33_1:C:=.seq (.pl <| .e 4 1 <|
 .m 4 1 <|
 .m 2 4 .done) (.ret)
abbrev K33_2:C:=.pl <| .e 4 2 <|
 .m 4 3 <|
 .x 5 (.bin .add (.v 4) (.c (.int .i64 1))) <|
 .m 3 5 .done
abbrev K33_3:C:=.pl <| .e 4 2 <|
 .m 4 1 <|
 .x 5 (.bin .add (.v 4) (.c (.int .i64 1))) <|
 .m 1 5 .done
abbrev K33_4:C:=.seq (.pl <| .e 4 0 <|
 .x 2 (.mv (.c (.int .i64 (-1)))) .done) (.ret)
abbrev K33_5:C:=.cond 4 (.v 9) K33_4 (.skip)
abbrev K33_6:C:=.seq (.block 1 (.seq (.seq (.pl <| .e 4 6 <|
 .m 4 0 <|
 .m 5 3 <|
 .x 6 (.ia 1 (.v 4) (.v 5)) <|
 .l 7 6 <|
 .m 8 1 <|
 .x 9 (.bin .neq (.v 7) (.v 8)) .done) K33_5) K33_3)) K33_2
abbrev K33_7:C:=.cond 4 (.v 7) (.skip) (.exit 0)
abbrev K33_8:C:=.seq (.seq (.pl <| .e 4 4 <|
 .m 4 3 <|
 .m 5 0 <|
 .x 6 (.lenV (.v 5)) <|
 .x 7 (.bin .lss (.v 4) (.v 6)) .done) K33_7) K33_6
abbrev K33_9:C:=.block 0 (.loop 4 [2] K33_8)
abbrev K33_10:C:=.seq (.seq (.pl <| .e 4 0 <|
 .x 3 (.mv (.c (.int .i64 0))) .done) K33_9) K33_1
abbrev B_laws_heldIntS:C:=.seq (.pl <| .e 4 0 <|
 .x 2 (.mv (.c (.int .i64 0))) .done) K33_10
def R_laws_heldIntS:FIR:=⟨B_laws_heldIntS,4,[(2,none)]⟩
theorem IR_laws_heldIntS:cfun Try.prog H_laws_heldIntS Try.f33=some R_laws_heldIntS:=by kernel_rfl
theorem EN_laws_heldIntS:ENT Try.prog B_laws_heldIntS [(2,none)] 2 4 fn_laws_heldIntS:=fun hargs hw=>enter Try.func33 rfl IR_laws_heldIntS hargs hw
def H_laws_heldState:Hint:=⟨[(0,false),(1,false),(2,true),(4,false)],[]⟩
abbrev K13_1:C:=.seq (.pl <| .e 4 1 <|
 .m 4 1 <|
 .m 3 4 .done) (.ret)
abbrev K13_2:C:=.seq (.pl <| .e 4 0 <|
 .x 3 (.mv (.c (.int .i64 (-1)))) .done) (.ret)
abbrev K13_3:C:=.cond 4 (.v 5) K13_2 (.skip)
abbrev K13_4:C:=.seq (.seq (.pl <| .e 4 2 <|
 .m 4 1 <|
 .x 5 (.bin .lss (.v 4) (.c (.int .i64 0))) .done) K13_3) K13_1
abbrev K13_5:Pl:=.m 1 7 .done
abbrev K13_6:C:=.seq (.pl <| .e 4 4 <|
 .a 4 2 <|
 .g 5 4 2 1 <|
 .m 6 1 <|
 .c 7 (.call fn_laws_heldIntS [.v 5,.v 6]) K13_5) K13_4
abbrev K13_7:C:=.seq (.pl <| .e 4 0 <|
 .x 3 (.mv (.c (.int .i64 (-1)))) .done) (.ret)
abbrev K13_8:C:=.cond 4 (.v 5) K13_7 (.skip)
abbrev K13_9:C:=.seq (.seq (.pl <| .e 4 2 <|
 .m 4 1 <|
 .x 5 (.bin .lss (.v 4) (.c (.int .i64 0))) .done) K13_8) K13_6
abbrev K13_10:Pl:=.m 1 7 .done
abbrev K13_11:C:=.seq (.pl <| .e 4 4 <|
 .a 4 2 <|
 .g 5 4 2 0 <|
 .m 6 1 <|
 .c 7 (.call fn_laws_heldIntS [.v 5,.v 6]) K13_10) K13_9
abbrev B_laws_heldState:C:=.seq (.pl <| .e 4 0 <|
 .o (.pnew 2 (.v 0) []) <|
 .x 3 (.mv (.c (.int .i64 0))) .done) K13_11
def R_laws_heldState:FIR:=⟨B_laws_heldState,4,[(3,none)]⟩
theorem IR_laws_heldState:cfun Try.prog H_laws_heldState Try.f13=some R_laws_heldState:=by kernel_rfl
theorem EN_laws_heldState:ENT Try.prog B_laws_heldState [(3,none)] 2 4 fn_laws_heldState:=fun hargs hw=>enter Try.func13 rfl IR_laws_heldState hargs hw
def H_laws_markEdgeS:Hint:=⟨[(0,false),(1,false),(4,false),(5,false)],[[2]]⟩
abbrev K52_1:C:=.seq (.pl <| .e 4 1 <|
 .m 4 1 <|
 .m 2 4 .done) (.ret)
abbrev K52_2:C:=.pl <| .e 4 2 <|
 .m 4 3 <|
 .x 5 (.bin .add (.v 4) (.c (.int .i64 1))) <|
 .m 3 5 .done
abbrev K52_3:C:=.pl <| .e 4 2 <|
 .m 4 1 <|
 .x 5 (.bin .add (.v 4) (.c (.int .i64 1))) <|
 .m 1 5 .done
abbrev K52_4:C:=.seq (.pl <| .e 4 5 <|
 .m 4 0 <|
 .m 5 3 <|
 .m 6 1 <|
 .x 7 (.ia 10 (.v 4) (.v 5)) <|
 .x 8 (.fa 9 (.v 7)) <|
 .o (.ex none (.store 1 (.v 8) (.v 6))) .done) K52_3
abbrev K52_5:Pl:=.m 1 11 .done
abbrev K52_6:C:=.seq (.pl <| .e 4 8 <|
 .m 4 0 <|
 .m 5 3 <|
 .x 6 (.ia 10 (.v 4) (.v 5)) <|
 .x 7 (.fa 6 (.v 6)) <|
 .x 8 (.fa 2 (.v 7)) <|
 .l 9 8 <|
 .m 10 1 <|
 .c 11 (.call fn_laws_markExprS [.v 9,.v 10]) K52_5) K52_4
abbrev K52_7:C:=.seq (.pl <| .e 4 2 <|
 .m 4 1 <|
 .x 5 (.bin .add (.v 4) (.c (.int .i64 1))) <|
 .m 1 5 .done) K52_6
abbrev K52_8:C:=.seq (.pl <| .e 4 6 <|
 .m 4 0 <|
 .m 5 3 <|
 .m 6 1 <|
 .x 7 (.ia 10 (.v 4) (.v 5)) <|
 .x 8 (.fa 6 (.v 7)) <|
 .x 9 (.fa 1 (.v 8)) <|
 .o (.ex none (.store 1 (.v 9) (.v 6))) .done) K52_7
abbrev K52_9:C:=.seq (.pl <| .e 4 2 <|
 .m 4 1 <|
 .x 5 (.bin .add (.v 4) (.c (.int .i64 1))) <|
 .m 1 5 .done) K52_8
abbrev K52_10:C:=.seq (.pl <| .e 4 6 <|
 .m 4 0 <|
 .m 5 3 <|
 .m 6 1 <|
 .x 7 (.ia 10 (.v 4) (.v 5)) <|
 .x 8 (.fa 6 (.v 7)) <|
 .x 9 (.fa 0 (.v 8)) <|
 .o (.ex none (.store 1 (.v 9) (.v 6))) .done) K52_9
abbrev K52_11:C:=.seq (.pl <| .e 4 2 <|
 .m 4 1 <|
 .x 5 (.bin .add (.v 4) (.c (.int .i64 1))) <|
 .m 1 5 .done) K52_10
abbrev K52_12:C:=.seq (.pl <| .e 4 5 <|
 .m 4 0 <|
 .m 5 3 <|
 .m 6 1 <|
 .x 7 (.ia 10 (.v 4) (.v 5)) <|
 .x 8 (.fa 5 (.v 7)) <|
 .o (.ex none (.store 1 (.v 8) (.v 6))) .done) K52_11
abbrev K52_13:Pl:=.m 1 11 .done
abbrev K52_14:C:=.seq (.pl <| .e 4 8 <|
 .m 4 0 <|
 .m 5 3 <|
 .x 6 (.ia 10 (.v 4) (.v 5)) <|
 .x 7 (.fa 2 (.v 6)) <|
 .x 8 (.fa 2 (.v 7)) <|
 .l 9 8 <|
 .m 10 1 <|
 .c 11 (.call fn_laws_markExprS [.v 9,.v 10]) K52_13) K52_12
abbrev K52_15:C:=.seq (.pl <| .e 4 2 <|
 .m 4 1 <|
 .x 5 (.bin .add (.v 4) (.c (.int .i64 1))) <|
 .m 1 5 .done) K52_14
abbrev K52_16:C:=.seq (.pl <| .e 4 6 <|
 .m 4 0 <|
 .m 5 3 <|
 .m 6 1 <|
 .x 7 (.ia 10 (.v 4) (.v 5)) <|
 .x 8 (.fa 2 (.v 7)) <|
 .x 9 (.fa 1 (.v 8)) <|
 .o (.ex none (.store 1 (.v 9) (.v 6))) .done) K52_15
abbrev K52_17:C:=.seq (.pl <| .e 4 2 <|
 .m 4 1 <|
 .x 5 (.bin .add (.v 4) (.c (.int .i64 1))) <|
 .m 1 5 .done) K52_16
abbrev K52_18:C:=.seq (.pl <| .e 4 6 <|
 .m 4 0 <|
 .m 5 3 <|
 .m 6 1 <|
 .x 7 (.ia 10 (.v 4) (.v 5)) <|
 .x 8 (.fa 2 (.v 7)) <|
 .x 9 (.fa 0 (.v 8)) <|
 .o (.ex none (.store 1 (.v 9) (.v 6))) .done) K52_17
abbrev K52_19:C:=.seq (.pl <| .e 4 2 <|
 .m 4 1 <|
 .x 5 (.bin .add (.v 4) (.c (.int .i64 1))) <|
 .m 1 5 .done) K52_18
abbrev K52_20:C:=.seq (.pl <| .e 4 5 <|
 .m 4 0 <|
 .m 5 3 <|
 .m 6 1 <|
 .x 7 (.ia 10 (.v 4) (.v 5)) <|
 .x 8 (.fa 1 (.v 7)) <|
 .o (.ex none (.store 1 (.v 8) (.v 6))) .done) K52_19
abbrev K52_21:C:=.seq (.pl <| .e 4 2 <|
 .m 4 1 <|
 .x 5 (.bin .add (.v 4) (.c (.int .i64 1))) <|
 .m 1 5 .done) K52_20
abbrev K52_22:C:=.seq (.block 1 (.seq (.pl <| .e 4 5 <|
 .m 4 0 <|
 .m 5 3 <|
 .m 6 1 <|
 .x 7 (.ia 10 (.v 4) (.v 5)) <|
 .x 8 (.fa 0 (.v 7)) <|
 .o (.ex none (.store 1 (.v 8) (.v 6))) .done) K52_21)) K52_2
abbrev K52_23:C:=.cond 4 (.v 7) (.skip) (.exit 0)
abbrev K52_24:C:=.seq (.seq (.pl <| .e 4 4 <|
 .m 4 3 <|
 .m 5 0 <|
 .x 6 (.lenV (.v 5)) <|
 .x 7 (.bin .lss (.v 4) (.v 6)) .done) K52_23) K52_22
abbrev K52_25:C:=.block 0 (.loop 4 [2] K52_24)
abbrev K52_26:C:=.seq (.seq (.pl <| .e 4 0 <|
 .x 3 (.mv (.c (.int .i64 0))) .done) K52_25) K52_1
abbrev B_laws_markEdgeS:C:=.seq (.pl <| .e 4 0 <|
 .x 2 (.mv (.c (.int .i64 0))) .done) K52_26
def R_laws_markEdgeS:FIR:=⟨B_laws_markEdgeS,4,[(2,none)]⟩
theorem IR_laws_markEdgeS:cfun Try.prog H_laws_markEdgeS Try.f52=some R_laws_markEdgeS:=by kernel_rfl
theorem EN_laws_markEdgeS:ENT Try.prog B_laws_markEdgeS [(2,none)] 2 4 fn_laws_markEdgeS:=fun hargs hw=>enter Try.func52 rfl IR_laws_markEdgeS hargs hw
def H_laws_markExprS:Hint:=⟨[(0,false),(1,false),(4,false),(5,false)],[[2]]⟩
abbrev K76_1:C:=.seq (.pl <| .e 4 1 <|
 .m 4 1 <|
 .m 2 4 .done) (.ret)
abbrev K76_2:C:=.pl <| .e 4 2 <|
 .m 4 3 <|
 .x 5 (.bin .add (.v 4) (.c (.int .i64 1))) <|
 .m 3 5 .done
abbrev K76_3:Pl:=.m 1 10 .done
abbrev K76_4:C:=.pl <| .e 4 7 <|
 .m 4 0 <|
 .m 5 3 <|
 .x 6 (.ia 3 (.v 4) (.v 5)) <|
 .x 7 (.fa 2 (.v 6)) <|
 .l 8 7 <|
 .m 9 1 <|
 .c 10 (.call fn_laws_markExprS [.v 8,.v 9]) K76_3
abbrev K76_5:C:=.seq (.pl <| .e 4 2 <|
 .m 4 1 <|
 .x 5 (.bin .add (.v 4) (.c (.int .i64 1))) <|
 .m 1 5 .done) K76_4
abbrev K76_6:C:=.seq (.pl <| .e 4 5 <|
 .m 4 0 <|
 .m 5 3 <|
 .m 6 1 <|
 .x 7 (.ia 3 (.v 4) (.v 5)) <|
 .x 8 (.fa 1 (.v 7)) <|
 .o (.ex none (.store 1 (.v 8) (.v 6))) .done) K76_5
abbrev K76_7:C:=.seq (.pl <| .e 4 2 <|
 .m 4 1 <|
 .x 5 (.bin .add (.v 4) (.c (.int .i64 1))) <|
 .m 1 5 .done) K76_6
abbrev K76_8:C:=.seq (.block 1 (.seq (.pl <| .e 4 5 <|
 .m 4 0 <|
 .m 5 3 <|
 .m 6 1 <|
 .x 7 (.ia 3 (.v 4) (.v 5)) <|
 .x 8 (.fa 0 (.v 7)) <|
 .o (.ex none (.store 1 (.v 8) (.v 6))) .done) K76_7)) K76_2
abbrev K76_9:C:=.cond 4 (.v 7) (.skip) (.exit 0)
abbrev K76_10:C:=.seq (.seq (.pl <| .e 4 4 <|
 .m 4 3 <|
 .m 5 0 <|
 .x 6 (.lenV (.v 5)) <|
 .x 7 (.bin .lss (.v 4) (.v 6)) .done) K76_9) K76_8
abbrev K76_11:C:=.block 0 (.loop 4 [2] K76_10)
abbrev K76_12:C:=.seq (.seq (.pl <| .e 4 0 <|
 .x 3 (.mv (.c (.int .i64 0))) .done) K76_11) K76_1
abbrev B_laws_markExprS:C:=.seq (.pl <| .e 4 0 <|
 .x 2 (.mv (.c (.int .i64 0))) .done) K76_12
def R_laws_markExprS:FIR:=⟨B_laws_markExprS,4,[(2,none)]⟩
theorem IR_laws_markExprS:cfun Try.prog H_laws_markExprS Try.f76=some R_laws_markExprS:=by kernel_rfl
theorem EN_laws_markExprS:ENT Try.prog B_laws_markExprS [(2,none)] 2 4 fn_laws_markExprS:=fun hargs hw=>enter Try.func76 rfl IR_laws_markExprS hargs hw
def H_laws_markIntS:Hint:=⟨[(0,false),(1,false),(4,false),(5,false)],[[2]]⟩
abbrev K31_1:C:=.seq (.pl <| .e 4 1 <|
 .m 4 1 <|
 .m 2 4 .done) (.ret)
abbrev K31_2:C:=.pl <| .e 4 2 <|
 .m 4 3 <|
 .x 5 (.bin .add (.v 4) (.c (.int .i64 1))) <|
 .m 3 5 .done
abbrev K31_3:C:=.pl <| .e 4 2 <|
 .m 4 1 <|
 .x 5 (.bin .add (.v 4) (.c (.int .i64 1))) <|
 .m 1 5 .done
abbrev K31_4:C:=.seq (.block 1 (.seq (.pl <| .e 4 4 <|
 .m 4 0 <|
 .m 5 3 <|
 .m 6 1 <|
 .x 7 (.ia 1 (.v 4) (.v 5)) <|
 .o (.ex none (.store 1 (.v 7) (.v 6))) .done) K31_3)) K31_2
abbrev K31_5:C:=.cond 4 (.v 7) (.skip) (.exit 0)
abbrev K31_6:C:=.seq (.seq (.pl <| .e 4 4 <|
 .m 4 3 <|
 .m 5 0 <|
 .x 6 (.lenV (.v 5)) <|
 .x 7 (.bin .lss (.v 4) (.v 6)) .done) K31_5) K31_4
abbrev K31_7:C:=.block 0 (.loop 4 [2] K31_6)
abbrev K31_8:C:=.seq (.seq (.pl <| .e 4 0 <|
 .x 3 (.mv (.c (.int .i64 0))) .done) K31_7) K31_1
abbrev B_laws_markIntS:C:=.seq (.pl <| .e 4 0 <|
 .x 2 (.mv (.c (.int .i64 0))) .done) K31_8
def R_laws_markIntS:FIR:=⟨B_laws_markIntS,4,[(2,none)]⟩
theorem IR_laws_markIntS:cfun Try.prog H_laws_markIntS Try.f31=some R_laws_markIntS:=by kernel_rfl
theorem EN_laws_markIntS:ENT Try.prog B_laws_markIntS [(2,none)] 2 4 fn_laws_markIntS:=fun hargs hw=>enter Try.func31 rfl IR_laws_markIntS hargs hw
def H_laws_markProcessS:Hint:=⟨[(0,false),(1,false),(4,false),(5,false)],[[2]]⟩
abbrev K32_1:C:=.seq (.pl <| .e 4 1 <|
 .m 4 1 <|
 .m 2 4 .done) (.ret)
abbrev K32_2:C:=.pl <| .e 4 2 <|
 .m 4 3 <|
 .x 5 (.bin .add (.v 4) (.c (.int .i64 1))) <|
 .m 3 5 .done
abbrev K32_3:Pl:=.m 1 10 .done
abbrev K32_4:C:=.pl <| .e 4 7 <|
 .m 4 0 <|
 .m 5 3 <|
 .x 6 (.ia 2 (.v 4) (.v 5)) <|
 .x 7 (.fa 1 (.v 6)) <|
 .l 8 7 <|
 .m 9 1 <|
 .c 10 (.call fn_laws_markEdgeS [.v 8,.v 9]) K32_3
abbrev K32_5:C:=.seq (.pl <| .e 4 2 <|
 .m 4 1 <|
 .x 5 (.bin .add (.v 4) (.c (.int .i64 1))) <|
 .m 1 5 .done) K32_4
abbrev K32_6:C:=.seq (.block 1 (.seq (.pl <| .e 4 5 <|
 .m 4 0 <|
 .m 5 3 <|
 .m 6 1 <|
 .x 7 (.ia 2 (.v 4) (.v 5)) <|
 .x 8 (.fa 0 (.v 7)) <|
 .o (.ex none (.store 1 (.v 8) (.v 6))) .done) K32_5)) K32_2
abbrev K32_7:C:=.cond 4 (.v 7) (.skip) (.exit 0)
abbrev K32_8:C:=.seq (.seq (.pl <| .e 4 4 <|
 .m 4 3 <|
 .m 5 0 <|
 .x 6 (.lenV (.v 5)) <|
 .x 7 (.bin .lss (.v 4) (.v 6)) .done) K32_7) K32_6
abbrev K32_9:C:=.block 0 (.loop 4 [2] K32_8)
abbrev K32_10:C:=.seq (.seq (.pl <| .e 4 0 <|
 .x 3 (.mv (.c (.int .i64 0))) .done) K32_9) K32_1
abbrev B_laws_markProcessS:C:=.seq (.pl <| .e 4 0 <|
 .x 2 (.mv (.c (.int .i64 0))) .done) K32_10
def R_laws_markProcessS:FIR:=⟨B_laws_markProcessS,4,[(2,none)]⟩
theorem IR_laws_markProcessS:cfun Try.prog H_laws_markProcessS Try.f32=some R_laws_markProcessS:=by kernel_rfl
theorem EN_laws_markProcessS:ENT Try.prog B_laws_markProcessS [(2,none)] 2 4 fn_laws_markProcessS:=fun hargs hw=>enter Try.func32 rfl IR_laws_markProcessS hargs hw
def H_laws_markState:Hint:=⟨[(0,false),(1,false),(2,true),(4,false)],[]⟩
abbrev K12_1:C:=.seq (.pl <| .e 4 1 <|
 .m 4 1 <|
 .m 3 4 .done) (.ret)
abbrev K12_2:Pl:=.m 1 7 .done
abbrev K12_3:C:=.seq (.pl <| .e 4 4 <|
 .a 4 2 <|
 .g 5 4 2 1 <|
 .m 6 1 <|
 .c 7 (.call fn_laws_markIntS [.v 5,.v 6]) K12_2) K12_1
abbrev K12_4:Pl:=.m 1 7 .done
abbrev K12_5:C:=.seq (.pl <| .e 4 4 <|
 .a 4 2 <|
 .g 5 4 2 0 <|
 .m 6 1 <|
 .c 7 (.call fn_laws_markIntS [.v 5,.v 6]) K12_4) K12_3
abbrev B_laws_markState:C:=.seq (.pl <| .e 4 0 <|
 .o (.pnew 2 (.v 0) []) <|
 .x 3 (.mv (.c (.int .i64 0))) .done) K12_5
def R_laws_markState:FIR:=⟨B_laws_markState,4,[(3,none)]⟩
theorem IR_laws_markState:cfun Try.prog H_laws_markState Try.f12=some R_laws_markState:=by kernel_rfl
theorem EN_laws_markState:ENT Try.prog B_laws_markState [(3,none)] 2 4 fn_laws_markState:=fun hargs hw=>enter Try.func12 rfl IR_laws_markState hargs hw
def H_laws_markSystem:Hint:=⟨[(0,false),(1,false),(2,true),(4,false)],[]⟩
abbrev K11_1:C:=.seq (.pl <| .e 4 1 <|
 .m 4 1 <|
 .m 3 4 .done) (.ret)
abbrev K11_2:Pl:=.m 1 7 .done
abbrev K11_3:C:=.seq (.pl <| .e 4 4 <|
 .a 4 2 <|
 .g 5 4 2 1 <|
 .m 6 1 <|
 .c 7 (.call fn_laws_markProcessS [.v 5,.v 6]) K11_2) K11_1
abbrev K11_4:Pl:=.m 1 7 .done
abbrev K11_5:C:=.seq (.pl <| .e 4 4 <|
 .a 4 2 <|
 .g 5 4 2 0 <|
 .m 6 1 <|
 .c 7 (.call fn_laws_markIntS [.v 5,.v 6]) K11_4) K11_3
abbrev B_laws_markSystem:C:=.seq (.pl <| .e 4 0 <|
 .o (.pnew 2 (.v 0) []) <|
 .x 3 (.mv (.c (.int .i64 0))) .done) K11_5
def R_laws_markSystem:FIR:=⟨B_laws_markSystem,4,[(3,none)]⟩
theorem IR_laws_markSystem:cfun Try.prog H_laws_markSystem Try.f11=some R_laws_markSystem:=by kernel_rfl
theorem EN_laws_markSystem:ENT Try.prog B_laws_markSystem [(3,none)] 2 4 fn_laws_markSystem:=fun hargs hw=>enter Try.func11 rfl IR_laws_markSystem hargs hw
def H_laws_szEdge:Hint:=⟨[(0,false),(1,false),(2,true),(4,false)],[]⟩
abbrev K91_1:C:=.seq (.pl <| .e 4 1 <|
 .m 4 1 <|
 .m 3 4 .done) (.ret)
abbrev K91_2:C:=.seq (.pl <| .e 4 0 <|
 .x 3 (.mv (.c (.int .i64 (-1)))) .done) (.ret)
abbrev K91_3:C:=.cond 4 (.v 5) K91_2 (.skip)
abbrev K91_4:C:=.seq (.seq (.pl <| .e 4 2 <|
 .m 4 1 <|
 .x 5 (.bin .lss (.v 4) (.c (.int .i64 0))) .done) K91_3) K91_1
abbrev K91_5:Pl:=.m 1 7 .done
abbrev K91_6:C:=.seq (.pl <| .e 4 4 <|
 .a 4 2 <|
 .o (.pget (some 5) (some 4) 2 6 (some 3)) <|
 .m 6 1 <|
 .c 7 (.call fn_laws_szExpr [.v 5,.v 6]) K91_5) K91_4
abbrev K91_7:C:=.seq (.pl <| .e 4 0 <|
 .x 3 (.mv (.c (.int .i64 (-1)))) .done) (.ret)
abbrev K91_8:C:=.cond 4 (.v 5) K91_7 (.skip)
abbrev K91_9:C:=.seq (.seq (.pl <| .e 4 2 <|
 .m 4 1 <|
 .x 5 (.bin .lss (.v 4) (.c (.int .i64 0))) .done) K91_8) K91_6
abbrev K91_10:Pl:=.m 1 7 .done
abbrev K91_11:C:=.seq (.pl <| .e 4 4 <|
 .a 4 2 <|
 .o (.pget (some 5) (some 4) 2 2 (some 3)) <|
 .m 6 1 <|
 .c 7 (.call fn_laws_szExpr [.v 5,.v 6]) K91_10) K91_9
abbrev B_laws_szEdge:C:=.seq (.pl <| .e 4 0 <|
 .o (.pnew 2 (.v 0) []) <|
 .x 3 (.mv (.c (.int .i64 0))) .done) K91_11
def R_laws_szEdge:FIR:=⟨B_laws_szEdge,4,[(3,none)]⟩
theorem IR_laws_szEdge:cfun Try.prog H_laws_szEdge Try.f91=some R_laws_szEdge:=by kernel_rfl
theorem EN_laws_szEdge:ENT Try.prog B_laws_szEdge [(3,none)] 2 4 fn_laws_szEdge:=fun hargs hw=>enter Try.func91 rfl IR_laws_szEdge hargs hw
def H_laws_szEdgeS:Hint:=⟨[(0,false),(1,false),(4,false),(5,false)],[[2]]⟩
abbrev K72_1:C:=.seq (.pl <| .e 4 1 <|
 .m 4 1 <|
 .m 2 4 .done) (.ret)
abbrev K72_2:C:=.pl <| .e 4 2 <|
 .m 4 3 <|
 .x 5 (.bin .add (.v 4) (.c (.int .i64 1))) <|
 .m 3 5 .done
abbrev K72_3:C:=.seq (.pl <| .e 4 0 <|
 .x 2 (.mv (.c (.int .i64 (-1)))) .done) (.ret)
abbrev K72_4:C:=.cond 4 (.v 5) K72_3 (.skip)
abbrev K72_5:C:=.seq (.pl <| .e 4 2 <|
 .m 4 1 <|
 .x 5 (.bin .lss (.v 4) (.c (.int .i64 0))) .done) K72_4
abbrev K72_6:Pl:=.m 1 9 .done
abbrev K72_7:C:=.seq (.block 1 (.seq (.pl <| .e 4 6 <|
 .m 4 0 <|
 .m 5 3 <|
 .x 6 (.ia 10 (.v 4) (.v 5)) <|
 .o (.ld (some 7) (.v 6) (some 10)) <|
 .m 8 1 <|
 .c 9 (.call fn_laws_szEdge [.v 7,.v 8]) K72_6) K72_5)) K72_2
abbrev K72_8:C:=.cond 4 (.v 7) (.skip) (.exit 0)
abbrev K72_9:C:=.seq (.seq (.pl <| .e 4 4 <|
 .m 4 3 <|
 .m 5 0 <|
 .x 6 (.lenV (.v 5)) <|
 .x 7 (.bin .lss (.v 4) (.v 6)) .done) K72_8) K72_7
abbrev K72_10:C:=.block 0 (.loop 4 [2] K72_9)
abbrev K72_11:C:=.seq (.seq (.pl <| .e 4 0 <|
 .x 3 (.mv (.c (.int .i64 0))) .done) K72_10) K72_1
abbrev K72_12:C:=.seq (.pl <| .e 4 0 <|
 .x 2 (.mv (.c (.int .i64 (-1)))) .done) (.ret)
abbrev K72_13:C:=.cond 4 (.v 5) K72_12 (.skip)
abbrev K72_14:C:=.seq (.seq (.pl <| .e 4 2 <|
 .m 4 1 <|
 .x 5 (.bin .lss (.v 4) (.c (.int .i64 0))) .done) K72_13) K72_11
abbrev K72_15:C:=.seq (.pl <| .e 4 4 <|
 .m 4 1 <|
 .m 5 0 <|
 .x 6 (.lenV (.v 5)) <|
 .x 7 (.bin .sub (.v 4) (.v 6)) <|
 .m 1 7 .done) K72_14
abbrev B_laws_szEdgeS:C:=.seq (.pl <| .e 4 0 <|
 .x 2 (.mv (.c (.int .i64 0))) .done) K72_15
def R_laws_szEdgeS:FIR:=⟨B_laws_szEdgeS,4,[(2,none)]⟩
theorem IR_laws_szEdgeS:cfun Try.prog H_laws_szEdgeS Try.f72=some R_laws_szEdgeS:=by kernel_rfl
theorem EN_laws_szEdgeS:ENT Try.prog B_laws_szEdgeS [(2,none)] 2 4 fn_laws_szEdgeS:=fun hargs hw=>enter Try.func72 rfl IR_laws_szEdgeS hargs hw
def H_laws_szExpr:Hint:=⟨[(0,false),(1,false),(2,true),(4,false)],[]⟩
abbrev K107_1:C:=.seq (.pl <| .e 4 1 <|
 .m 4 1 <|
 .m 3 4 .done) (.ret)
abbrev K107_2:C:=.seq (.pl <| .e 4 0 <|
 .x 3 (.mv (.c (.int .i64 (-1)))) .done) (.ret)
abbrev K107_3:C:=.cond 4 (.v 5) K107_2 (.skip)
abbrev K107_4:C:=.seq (.seq (.pl <| .e 4 2 <|
 .m 4 1 <|
 .x 5 (.bin .lss (.v 4) (.c (.int .i64 0))) .done) K107_3) K107_1
abbrev K107_5:Pl:=.m 1 7 .done
abbrev K107_6:C:=.seq (.pl <| .e 4 4 <|
 .a 4 2 <|
 .g 5 4 2 2 <|
 .m 6 1 <|
 .c 7 (.call fn_laws_szExprS [.v 5,.v 6]) K107_5) K107_4
abbrev B_laws_szExpr:C:=.seq (.pl <| .e 4 0 <|
 .o (.pnew 2 (.v 0) []) <|
 .x 3 (.mv (.c (.int .i64 0))) .done) K107_6
def R_laws_szExpr:FIR:=⟨B_laws_szExpr,4,[(3,none)]⟩
theorem IR_laws_szExpr:cfun Try.prog H_laws_szExpr Try.f107=some R_laws_szExpr:=by kernel_rfl
theorem EN_laws_szExpr:ENT Try.prog B_laws_szExpr [(3,none)] 2 4 fn_laws_szExpr:=fun hargs hw=>enter Try.func107 rfl IR_laws_szExpr hargs hw
def H_laws_szExprS:Hint:=⟨[(0,false),(1,false),(4,false),(5,false)],[[2]]⟩
abbrev K114_1:C:=.seq (.pl <| .e 4 1 <|
 .m 4 1 <|
 .m 2 4 .done) (.ret)
abbrev K114_2:C:=.pl <| .e 4 2 <|
 .m 4 3 <|
 .x 5 (.bin .add (.v 4) (.c (.int .i64 1))) <|
 .m 3 5 .done
abbrev K114_3:C:=.seq (.pl <| .e 4 0 <|
 .x 2 (.mv (.c (.int .i64 (-1)))) .done) (.ret)
abbrev K114_4:C:=.cond 4 (.v 5) K114_3 (.skip)
abbrev K114_5:C:=.seq (.pl <| .e 4 2 <|
 .m 4 1 <|
 .x 5 (.bin .lss (.v 4) (.c (.int .i64 0))) .done) K114_4
abbrev K114_6:Pl:=.m 1 9 .done
abbrev K114_7:C:=.seq (.block 1 (.seq (.pl <| .e 4 6 <|
 .m 4 0 <|
 .m 5 3 <|
 .x 6 (.ia 3 (.v 4) (.v 5)) <|
 .o (.ld (some 7) (.v 6) (some 3)) <|
 .m 8 1 <|
 .c 9 (.call fn_laws_szExpr [.v 7,.v 8]) K114_6) K114_5)) K114_2
abbrev K114_8:C:=.cond 4 (.v 7) (.skip) (.exit 0)
abbrev K114_9:C:=.seq (.seq (.pl <| .e 4 4 <|
 .m 4 3 <|
 .m 5 0 <|
 .x 6 (.lenV (.v 5)) <|
 .x 7 (.bin .lss (.v 4) (.v 6)) .done) K114_8) K114_7
abbrev K114_10:C:=.block 0 (.loop 4 [2] K114_9)
abbrev K114_11:C:=.seq (.seq (.pl <| .e 4 0 <|
 .x 3 (.mv (.c (.int .i64 0))) .done) K114_10) K114_1
abbrev K114_12:C:=.seq (.pl <| .e 4 0 <|
 .x 2 (.mv (.c (.int .i64 (-1)))) .done) (.ret)
abbrev K114_13:C:=.cond 4 (.v 5) K114_12 (.skip)
abbrev K114_14:C:=.seq (.seq (.pl <| .e 4 2 <|
 .m 4 1 <|
 .x 5 (.bin .lss (.v 4) (.c (.int .i64 0))) .done) K114_13) K114_11
abbrev K114_15:C:=.seq (.pl <| .e 4 4 <|
 .m 4 1 <|
 .m 5 0 <|
 .x 6 (.lenV (.v 5)) <|
 .x 7 (.bin .sub (.v 4) (.v 6)) <|
 .m 1 7 .done) K114_14
abbrev B_laws_szExprS:C:=.seq (.pl <| .e 4 0 <|
 .x 2 (.mv (.c (.int .i64 0))) .done) K114_15
def R_laws_szExprS:FIR:=⟨B_laws_szExprS,4,[(2,none)]⟩
theorem IR_laws_szExprS:cfun Try.prog H_laws_szExprS Try.f114=some R_laws_szExprS:=by kernel_rfl
theorem EN_laws_szExprS:ENT Try.prog B_laws_szExprS [(2,none)] 2 4 fn_laws_szExprS:=fun hargs hw=>enter Try.func114 rfl IR_laws_szExprS hargs hw
def H_laws_szIntS:Hint:=⟨[(0,false),(1,false),(4,false)],[]⟩
abbrev K21_1:C:=.seq (.pl <| .e 3 1 <|
 .m 3 1 <|
 .m 2 3 .done) (.ret)
abbrev K21_2:C:=.seq (.pl <| .e 3 0 <|
 .x 2 (.mv (.c (.int .i64 (-1)))) .done) (.ret)
abbrev K21_3:C:=.cond 3 (.v 4) K21_2 (.skip)
abbrev K21_4:C:=.seq (.seq (.pl <| .e 3 2 <|
 .m 3 1 <|
 .x 4 (.bin .lss (.v 3) (.c (.int .i64 0))) .done) K21_3) K21_1
abbrev K21_5:C:=.seq (.pl <| .e 3 4 <|
 .m 3 1 <|
 .m 4 0 <|
 .x 5 (.lenV (.v 4)) <|
 .x 6 (.bin .sub (.v 3) (.v 5)) <|
 .m 1 6 .done) K21_4
abbrev B_laws_szIntS:C:=.seq (.pl <| .e 3 0 <|
 .x 2 (.mv (.c (.int .i64 0))) .done) K21_5
def R_laws_szIntS:FIR:=⟨B_laws_szIntS,3,[(2,none)]⟩
theorem IR_laws_szIntS:cfun Try.prog H_laws_szIntS Try.f21=some R_laws_szIntS:=by kernel_rfl
theorem EN_laws_szIntS:ENT Try.prog B_laws_szIntS [(2,none)] 2 3 fn_laws_szIntS:=fun hargs hw=>enter Try.func21 rfl IR_laws_szIntS hargs hw
def H_laws_szProcess:Hint:=⟨[(0,false),(1,false),(2,true),(4,false)],[]⟩
abbrev K47_1:C:=.seq (.pl <| .e 4 1 <|
 .m 4 1 <|
 .m 3 4 .done) (.ret)
abbrev K47_2:C:=.seq (.pl <| .e 4 0 <|
 .x 3 (.mv (.c (.int .i64 (-1)))) .done) (.ret)
abbrev K47_3:C:=.cond 4 (.v 5) K47_2 (.skip)
abbrev K47_4:C:=.seq (.seq (.pl <| .e 4 2 <|
 .m 4 1 <|
 .x 5 (.bin .lss (.v 4) (.c (.int .i64 0))) .done) K47_3) K47_1
abbrev K47_5:Pl:=.m 1 7 .done
abbrev K47_6:C:=.seq (.pl <| .e 4 4 <|
 .a 4 2 <|
 .g 5 4 2 1 <|
 .m 6 1 <|
 .c 7 (.call fn_laws_szEdgeS [.v 5,.v 6]) K47_5) K47_4
abbrev B_laws_szProcess:C:=.seq (.pl <| .e 4 0 <|
 .o (.pnew 2 (.v 0) []) <|
 .x 3 (.mv (.c (.int .i64 0))) .done) K47_6
def R_laws_szProcess:FIR:=⟨B_laws_szProcess,4,[(3,none)]⟩
theorem IR_laws_szProcess:cfun Try.prog H_laws_szProcess Try.f47=some R_laws_szProcess:=by kernel_rfl
theorem EN_laws_szProcess:ENT Try.prog B_laws_szProcess [(3,none)] 2 4 fn_laws_szProcess:=fun hargs hw=>enter Try.func47 rfl IR_laws_szProcess hargs hw
def H_laws_szProcessS:Hint:=⟨[(0,false),(1,false),(4,false),(5,false)],[[2]]⟩
abbrev K22_1:C:=.seq (.pl <| .e 4 1 <|
 .m 4 1 <|
 .m 2 4 .done) (.ret)
abbrev K22_2:C:=.pl <| .e 4 2 <|
 .m 4 3 <|
 .x 5 (.bin .add (.v 4) (.c (.int .i64 1))) <|
 .m 3 5 .done
abbrev K22_3:C:=.seq (.pl <| .e 4 0 <|
 .x 2 (.mv (.c (.int .i64 (-1)))) .done) (.ret)
abbrev K22_4:C:=.cond 4 (.v 5) K22_3 (.skip)
abbrev K22_5:C:=.seq (.pl <| .e 4 2 <|
 .m 4 1 <|
 .x 5 (.bin .lss (.v 4) (.c (.int .i64 0))) .done) K22_4
abbrev K22_6:Pl:=.m 1 9 .done
abbrev K22_7:C:=.seq (.block 1 (.seq (.pl <| .e 4 6 <|
 .m 4 0 <|
 .m 5 3 <|
 .x 6 (.ia 2 (.v 4) (.v 5)) <|
 .o (.ld (some 7) (.v 6) (some 2)) <|
 .m 8 1 <|
 .c 9 (.call fn_laws_szProcess [.v 7,.v 8]) K22_6) K22_5)) K22_2
abbrev K22_8:C:=.cond 4 (.v 7) (.skip) (.exit 0)
abbrev K22_9:C:=.seq (.seq (.pl <| .e 4 4 <|
 .m 4 3 <|
 .m 5 0 <|
 .x 6 (.lenV (.v 5)) <|
 .x 7 (.bin .lss (.v 4) (.v 6)) .done) K22_8) K22_7
abbrev K22_10:C:=.block 0 (.loop 4 [2] K22_9)
abbrev K22_11:C:=.seq (.seq (.pl <| .e 4 0 <|
 .x 3 (.mv (.c (.int .i64 0))) .done) K22_10) K22_1
abbrev K22_12:C:=.seq (.pl <| .e 4 0 <|
 .x 2 (.mv (.c (.int .i64 (-1)))) .done) (.ret)
abbrev K22_13:C:=.cond 4 (.v 5) K22_12 (.skip)
abbrev K22_14:C:=.seq (.seq (.pl <| .e 4 2 <|
 .m 4 1 <|
 .x 5 (.bin .lss (.v 4) (.c (.int .i64 0))) .done) K22_13) K22_11
abbrev K22_15:C:=.seq (.pl <| .e 4 4 <|
 .m 4 1 <|
 .m 5 0 <|
 .x 6 (.lenV (.v 5)) <|
 .x 7 (.bin .sub (.v 4) (.v 6)) <|
 .m 1 7 .done) K22_14
abbrev B_laws_szProcessS:C:=.seq (.pl <| .e 4 0 <|
 .x 2 (.mv (.c (.int .i64 0))) .done) K22_15
def R_laws_szProcessS:FIR:=⟨B_laws_szProcessS,4,[(2,none)]⟩
theorem IR_laws_szProcessS:cfun Try.prog H_laws_szProcessS Try.f22=some R_laws_szProcessS:=by kernel_rfl
theorem EN_laws_szProcessS:ENT Try.prog B_laws_szProcessS [(2,none)] 2 4 fn_laws_szProcessS:=fun hargs hw=>enter Try.func22 rfl IR_laws_szProcessS hargs hw
def H_laws_szSystem:Hint:=⟨[(0,false),(1,false),(2,true),(4,false)],[]⟩
abbrev K5_1:C:=.seq (.pl <| .e 4 1 <|
 .m 4 1 <|
 .m 3 4 .done) (.ret)
abbrev K5_2:C:=.seq (.pl <| .e 4 0 <|
 .x 3 (.mv (.c (.int .i64 (-1)))) .done) (.ret)
abbrev K5_3:C:=.cond 4 (.v 5) K5_2 (.skip)
abbrev K5_4:C:=.seq (.seq (.pl <| .e 4 2 <|
 .m 4 1 <|
 .x 5 (.bin .lss (.v 4) (.c (.int .i64 0))) .done) K5_3) K5_1
abbrev K5_5:Pl:=.m 1 7 .done
abbrev K5_6:C:=.seq (.pl <| .e 4 4 <|
 .a 4 2 <|
 .g 5 4 2 1 <|
 .m 6 1 <|
 .c 7 (.call fn_laws_szProcessS [.v 5,.v 6]) K5_5) K5_4
abbrev K5_7:C:=.seq (.pl <| .e 4 0 <|
 .x 3 (.mv (.c (.int .i64 (-1)))) .done) (.ret)
abbrev K5_8:C:=.cond 4 (.v 5) K5_7 (.skip)
abbrev K5_9:C:=.seq (.seq (.pl <| .e 4 2 <|
 .m 4 1 <|
 .x 5 (.bin .lss (.v 4) (.c (.int .i64 0))) .done) K5_8) K5_6
abbrev K5_10:Pl:=.m 1 7 .done
abbrev K5_11:C:=.seq (.pl <| .e 4 4 <|
 .a 4 2 <|
 .g 5 4 2 0 <|
 .m 6 1 <|
 .c 7 (.call fn_laws_szIntS [.v 5,.v 6]) K5_10) K5_9
abbrev B_laws_szSystem:C:=.seq (.pl <| .e 4 0 <|
 .o (.pnew 2 (.v 0) []) <|
 .x 3 (.mv (.c (.int .i64 0))) .done) K5_11
def R_laws_szSystem:FIR:=⟨B_laws_szSystem,4,[(3,none)]⟩
theorem IR_laws_szSystem:cfun Try.prog H_laws_szSystem Try.f5=some R_laws_szSystem:=by kernel_rfl
theorem EN_laws_szSystem:ENT Try.prog B_laws_szSystem [(3,none)] 2 4 fn_laws_szSystem:=fun hargs hw=>enter Try.func5 rfl IR_laws_szSystem hargs hw
def H_laws_toEdge:Hint:=⟨[(0,false),(1,true),(2,true),(3,true)],[]⟩
abbrev K92_1:C:=.seq (.pl <| .e 4 1 <|
 .o (.pget (some 4) none 3 0 (some 10)) <|
 .o (.pset none 2 0 10 (.v 4)) .done) (.ret)
abbrev K92_2:C:=.seq (.pl <| .e 4 3 <|
 .a 4 1 <|
 .g 5 4 1 9 <|
 .a 6 3 <|
 .o (.pset (some 6) 3 9 1 (.v 5)) .done) K92_1
abbrev K92_3:Pl:=.a 7 3 <|
 .o (.pset (some 7) 3 6 3 (.v 6)) .done
abbrev K92_4:C:=.seq (.pl <| .e 4 4 <|
 .a 4 1 <|
 .o (.pget (some 5) (some 4) 1 6 (some 3)) <|
 .c 6 (.call fn_laws_toExpr [.v 5]) K92_3) K92_2
abbrev K92_5:C:=.seq (.pl <| .e 4 3 <|
 .a 4 1 <|
 .g 5 4 1 5 <|
 .a 6 3 <|
 .o (.pset (some 6) 3 5 1 (.v 5)) .done) K92_4
abbrev K92_6:Pl:=.a 7 3 <|
 .o (.pset (some 7) 3 2 3 (.v 6)) .done
abbrev K92_7:C:=.seq (.pl <| .e 4 4 <|
 .a 4 1 <|
 .o (.pget (some 5) (some 4) 1 2 (some 3)) <|
 .c 6 (.call fn_laws_toExpr [.v 5]) K92_6) K92_5
abbrev K92_8:C:=.seq (.pl <| .e 4 3 <|
 .a 4 1 <|
 .g 5 4 1 1 <|
 .a 6 3 <|
 .o (.pset (some 6) 3 1 1 (.v 5)) .done) K92_7
abbrev K92_9:C:=.seq (.pl <| .e 4 3 <|
 .a 4 1 <|
 .g 5 4 1 0 <|
 .a 6 3 <|
 .o (.pset (some 6) 3 0 1 (.v 5)) .done) K92_8
abbrev K92_10:C:=.seq (.pl <| .e 4 0 <|
 .o (.pnew 3 (.c (.agg #[.int .i64 0,.int .i64 0,.int .i64 0,.int .i64 0,.slice none 0 0,.int .i64 0,.int .i64 0,.int .i64 0,.slice none 0 0,.int .i64 0])) []) .done) K92_9
abbrev B_laws_toEdge:C:=.seq (.pl <| .e 4 0 <|
 .o (.pnew 1 (.v 0) []) <|
 .o (.pnew 2 (.c (.agg #[.int .i64 0,.int .i64 0,.int .i64 0,.int .i64 0,.slice none 0 0,.int .i64 0,.int .i64 0,.int .i64 0,.slice none 0 0,.int .i64 0])) []) .done) K92_10
def R_laws_toEdge:FIR:=⟨B_laws_toEdge,4,[(2,some (some 10))]⟩
theorem IR_laws_toEdge:cfun Try.prog H_laws_toEdge Try.f92=some R_laws_toEdge:=by kernel_rfl
theorem EN_laws_toEdge:ENT Try.prog B_laws_toEdge [(2,some (some 10))] 1 4 fn_laws_toEdge:=fun hargs hw=>enter Try.func92 rfl IR_laws_toEdge hargs hw
def H_impl_EdgeValid:Hint:=⟨[(0,false),(1,false),(2,true),(4,false)],[]⟩
abbrev K69_1:Pl:=.x 55 (.pick (.v 51) (.v 54) (.c (.bool false))) <|
 .m 3 55 .done
abbrev K69_2:Pl:=.n 39 (.px (some 48) (.pick (.v 43) (.v 47) (.c (.bool false)))) <|
 .y 30 (.px (some 49) (.pick (.v 39) (.c (.bool true)) (.v 48))) <|
 .x 50 (.pick (.v 30) (.v 49) (.c (.bool false))) <|
 .m 51 50 <|
 .y 51 (.als 52 none 2) <|
 .y 51 (.pget (some 53) (some 52) 2 9 none) <|
 .st (.act (some (.v 51,true)) (.ex (some 54) (.call fn_impl_in [.v 53,.c (.int .i64 (-2)),.c (.int .i64 2)]))) K69_1
abbrev K69_3:Pl:=.y 30 (.px (some 38) (.pick (.v 34) (.v 37) (.c (.bool false)))) <|
 .y 30 (.px (some 39) (.mv (.v 38))) <|
 .n 39 (.als 40 none 2) <|
 .n 39 (.pget (some 41) (some 40) 2 5 none) <|
 .n 39 (.px (some 42) (.bin .lss (.v 41) (.c (.int .i64 0)))) <|
 .n 39 (.px (some 43) (.mv (.v 42))) <|
 .y 43 (.als 44 none 2) <|
 .y 43 (.pget (some 45) (some 44) 2 6 (some 3)) <|
 .y 43 (.px (some 46) (.build [.int .i64 0,.int .i64 0,.slice none 0 0] [])) <|
 .st (.act (some (.v 43,true)) (.ex (some 47) (.call fn_impl_ExprSame [.v 45,.v 46]))) K69_2
abbrev K69_4:Pl:=.x 29 (.pick (.v 25) (.v 28) (.c (.bool false))) <|
 .m 30 29 <|
 .y 30 (.als 31 none 2) <|
 .y 30 (.pget (some 32) (some 31) 2 5 none) <|
 .y 30 (.px (some 33) (.bin .geq (.v 32) (.c (.int .i64 0)))) <|
 .y 30 (.px (some 34) (.mv (.v 33))) <|
 .y 34 (.als 35 none 2) <|
 .y 34 (.pget (some 36) (some 35) 2 6 (some 3)) <|
 .st (.act (some (.v 34,true)) (.ex (some 37) (.call fn_impl_ExprValid [.v 36]))) K69_3
abbrev K69_5:Pl:=.x 24 (.pick (.v 20) (.v 23) (.c (.bool false))) <|
 .m 25 24 <|
 .y 25 (.als 26 none 2) <|
 .y 25 (.pget (some 27) (some 26) 2 5 none) <|
 .st (.act (some (.v 25,true)) (.ex (some 28) (.call fn_impl_in [.v 27,.c (.int .i64 (-1)),.c (.int .i64 2)]))) K69_4
abbrev K69_6:Pl:=.x 19 (.pick (.v 13) (.v 18) (.c (.bool false))) <|
 .m 20 19 <|
 .y 20 (.als 21 none 2) <|
 .y 20 (.pget (some 22) (some 21) 2 2 (some 3)) <|
 .st (.act (some (.v 20,true)) (.ex (some 23) (.call fn_impl_ExprValid [.v 22]))) K69_5
abbrev K69_7:Pl:=.x 12 (.pick (.v 6) (.v 11) (.c (.bool false))) <|
 .m 13 12 <|
 .y 13 (.als 14 none 2) <|
 .y 13 (.pget (some 15) (some 14) 2 1 none) <|
 .y 13 (.px (some 16) (.mv (.v 1))) <|
 .y 13 (.px (some 17) (.bin .sub (.v 16) (.c (.int .i64 1)))) <|
 .st (.act (some (.v 13,true)) (.ex (some 18) (.call fn_impl_in [.v 15,.c (.int .i64 0),.v 17]))) K69_6
abbrev K69_8:Pl:=.m 6 5 <|
 .y 6 (.als 7 none 2) <|
 .y 6 (.pget (some 8) (some 7) 2 0 none) <|
 .y 6 (.px (some 9) (.mv (.v 1))) <|
 .y 6 (.px (some 10) (.bin .sub (.v 9) (.c (.int .i64 1)))) <|
 .st (.act (some (.v 6,true)) (.ex (some 11) (.call fn_impl_in [.v 8,.c (.int .i64 0),.v 10]))) K69_7
abbrev K69_9:C:=.seq (.pl <| .e 4 52 <|
 .m 4 1 <|
 .c 5 (.call fn_impl_in [.v 4,.c (.int .i64 1),.c (.int .i64 4)]) K69_8) (.ret)
abbrev B_impl_EdgeValid:C:=.seq (.pl <| .e 4 0 <|
 .o (.pnew 2 (.v 0) []) <|
 .x 3 (.mv (.c (.bool false))) .done) K69_9
def R_impl_EdgeValid:FIR:=⟨B_impl_EdgeValid,4,[(3,none)]⟩
theorem IR_impl_EdgeValid:cfun Try.prog H_impl_EdgeValid Try.f69=some R_impl_EdgeValid:=by kernel_rfl
theorem EN_impl_EdgeValid:ENT Try.prog B_impl_EdgeValid [(3,none)] 2 4 fn_impl_EdgeValid:=fun hargs hw=>enter Try.func69 rfl IR_impl_EdgeValid hargs hw
def H_impl_ExprNodes:Hint:=⟨[(0,false),(1,true),(2,false),(3,false)],[]⟩
abbrev K104_1:C:=.seq (.pl <| .e 4 1 <|
 .l 4 3 <|
 .m 2 4 .done) (.ret)
abbrev K104_2:C:=.seq (.pl <| .e 4 0 <|
 .x 2 (.mv (.c (.int .i64 0))) .done) (.ret)
abbrev K104_3:C:=.cond 4 (.v 6) K104_2 (.skip)
abbrev K104_4:Pl:=.x 6 (.un .not (.v 5)) .done
abbrev K104_5:C:=.seq (.seq (.pl <| .e 4 3 <|
 .o (.pget (some 4) none 1 0 (some 3)) <|
 .c 5 (.call fn_impl_Expr_walk [.v 4,.c (.int .i64 1),.v 3]) K104_4) K104_3) K104_1
abbrev K104_6:Pl:=.o (.ex none (.store 1 (.v 3) (.c (.int .i64 0)))) .done
abbrev K104_7:C:=.seq (.pl <| .e 4 0 <|
 .c 3 (.alloc (.c (.int .i64 0))) K104_6) K104_5
abbrev B_impl_ExprNodes:C:=.seq (.pl <| .e 4 0 <|
 .o (.pnew 1 (.v 0) []) <|
 .x 2 (.mv (.c (.int .i64 0))) .done) K104_7
def R_impl_ExprNodes:FIR:=⟨B_impl_ExprNodes,4,[(2,none)]⟩
theorem IR_impl_ExprNodes:cfun Try.prog H_impl_ExprNodes Try.f104=some R_impl_ExprNodes:=by kernel_rfl
theorem EN_impl_ExprNodes:ENT Try.prog B_impl_ExprNodes [(2,none)] 1 4 fn_impl_ExprNodes:=fun hargs hw=>enter Try.func104 rfl IR_impl_ExprNodes hargs hw
def H_impl_ExprSame:Hint:=⟨[(0,false),(1,false),(2,true),(3,true),(4,false)],[]⟩
abbrev K89_1:Pl:=.x 23 (.pick (.v 17) (.v 22) (.c (.bool false))) <|
 .m 4 23 .done
abbrev K89_2:C:=.seq (.pl <| .e 5 19 <|
 .a 5 2 <|
 .g 6 5 2 0 <|
 .a 7 3 <|
 .g 8 7 3 0 <|
 .x 9 (.bin .eql (.v 6) (.v 8)) <|
 .m 10 9 <|
 .y 10 (.als 11 none 2) <|
 .y 10 (.pget (some 12) (some 11) 2 1 none) <|
 .y 10 (.als 13 none 3) <|
 .y 10 (.pget (some 14) (some 13) 3 1 none) <|
 .y 10 (.px (some 15) (.bin .eql (.v 12) (.v 14))) <|
 .x 16 (.pick (.v 10) (.v 15) (.c (.bool false))) <|
 .m 17 16 <|
 .y 17 (.als 18 none 2) <|
 .y 17 (.pget (some 19) (some 18) 2 2 none) <|
 .y 17 (.als 20 none 3) <|
 .y 17 (.pget (some 21) (some 20) 3 2 none) <|
 .st (.act (some (.v 17,true)) (.ex (some 22) (.call fn_slices_EqualFunc_S_impl_Expr_S_impl_Expr_impl_Expr_impl_Expr [.v 19,.v 21,.c (.func (.func 89) #[] #[])]))) K89_1) (.ret)
abbrev B_impl_ExprSame:C:=.seq (.pl <| .e 5 0 <|
 .o (.pnew 2 (.v 0) []) <|
 .o (.pnew 3 (.v 1) []) <|
 .x 4 (.mv (.c (.bool false))) .done) K89_2
def R_impl_ExprSame:FIR:=⟨B_impl_ExprSame,5,[(4,none)]⟩
theorem IR_impl_ExprSame:cfun Try.prog H_impl_ExprSame Try.f89=some R_impl_ExprSame:=by kernel_rfl
theorem EN_impl_ExprSame:ENT Try.prog B_impl_ExprSame [(4,none)] 2 5 fn_impl_ExprSame:=fun hargs hw=>enter Try.func89 rfl IR_impl_ExprSame hargs hw
def H_impl_ExprValid:Hint:=⟨[(0,false),(1,true),(2,false)],[]⟩
abbrev K88_1:Pl:=.x 5 (.bin .gtr (.v 4) (.c (.int .i64 0))) <|
 .m 2 5 .done
abbrev K88_2:C:=.seq (.pl <| .e 3 3 <|
 .o (.pget (some 3) none 1 0 (some 3)) <|
 .c 4 (.call fn_impl_ExprNodes [.v 3]) K88_1) (.ret)
abbrev B_impl_ExprValid:C:=.seq (.pl <| .e 3 0 <|
 .o (.pnew 1 (.v 0) []) <|
 .x 2 (.mv (.c (.bool false))) .done) K88_2
def R_impl_ExprValid:FIR:=⟨B_impl_ExprValid,3,[(2,none)]⟩
theorem IR_impl_ExprValid:cfun Try.prog H_impl_ExprValid Try.f88=some R_impl_ExprValid:=by kernel_rfl
theorem EN_impl_ExprValid:ENT Try.prog B_impl_ExprValid [(2,none)] 1 3 fn_impl_ExprValid:=fun hargs hw=>enter Try.func88 rfl IR_impl_ExprValid hargs hw
def H_impl_Expr_walk:Hint:=⟨[(0,false),(1,false),(2,false),(3,true),(4,false),(5,false),(6,false),(7,false),(8,false),(15,false)],[]⟩
abbrev K113_1:Pl:=.x 14 (.un .not (.v 13)) <|
 .m 6 14 .done
abbrev K113_2:C:=.seq (.pl <| .e 10 5 <|
 .a 10 3 <|
 .g 11 10 3 2 <|
 .x 12 (.mkf (.func fn_impl_Expr_walk_1) [] [.v 4,.v 5]) <|
 .c 13 (.call fn_slices_ContainsFunc_S_impl_Expr_impl_Expr [.v 11,.v 12]) K113_1) (.ret)
abbrev K113_3:C:=.seq (.pl <| .e 10 0 <|
 .x 6 (.mv (.c (.bool false))) .done) (.ret)
abbrev K113_4:C:=.cond 10 (.v 37) K113_3 (.skip)
abbrev K113_5:Pl:=.n 24 (.px (some 29) (.un .not (.v 28))) <|
 .x 30 (.pick (.v 24) (.c (.bool true)) (.v 29)) <|
 .m 31 30 <|
 .n 31 (.als 32 none 3) <|
 .n 31 (.pget (some 33) (some 32) 3 2 none) <|
 .n 31 (.px (some 34) (.lenV (.v 33))) <|
 .n 31 (.px (some 35) (.mv (.v 7))) <|
 .n 31 (.px (some 36) (.bin .neq (.v 34) (.v 35))) <|
 .x 37 (.pick (.v 31) (.c (.bool true)) (.v 36)) .done
abbrev K113_6:Pl:=.n 18 (.px (some 22) (.un .not (.v 21))) <|
 .x 23 (.pick (.v 18) (.c (.bool true)) (.v 22)) <|
 .m 24 23 <|
 .n 24 (.als 25 none 3) <|
 .n 24 (.pget (some 26) (some 25) 3 1 none) <|
 .n 24 (.px (some 27) (.mv (.v 8))) <|
 .st (.act (some (.v 24,false)) (.ex (some 28) (.call fn_impl_in [.v 26,.c (.int .i64 0),.v 27]))) K113_5
abbrev K113_7:C:=.seq (.seq (.pl <| .e 10 28 <|
 .l 10 4 <|
 .x 11 (.bin .gtr (.v 10) (.c (.int .i64 6))) <|
 .m 12 11 <|
 .n 12 (.ld (some 13) (.v 5) none) <|
 .n 12 (.px (some 14) (.nilc (.v 13))) <|
 .n 12 (.ld (some 15) (.v 14) none) <|
 .n 12 (.px (some 16) (.bin .gtr (.v 15) (.c (.int .i64 15)))) <|
 .x 17 (.pick (.v 12) (.c (.bool true)) (.v 16)) <|
 .m 18 17 <|
 .n 18 (.als 19 none 3) <|
 .n 18 (.pget (some 20) (some 19) 3 0 none) <|
 .st (.act (some (.v 18,false)) (.ex (some 21) (.call fn_impl_in [.v 20,.c (.int .i64 1),.c (.int .i64 9)]))) K113_6) K113_4) K113_2
abbrev K113_8:C:=.pl <| .e 10 0 <|
 .x 7 (.mv (.c (.int .i64 0))) <|
 .x 8 (.mv (.c (.int .i64 3))) .done
abbrev K113_9:C:=.pl <| .e 10 0 <|
 .x 7 (.mv (.c (.int .i64 0))) <|
 .x 8 (.mv (.c (.int .i64 2))) .done
abbrev K113_10:C:=.pl <| .e 10 0 <|
 .x 7 (.mv (.c (.int .i64 1))) .done
abbrev K113_11:C:=.cond 10 (.v 11) K113_10 (.skip)
abbrev K113_12:C:=.seq (.pl <| .e 10 2 <|
 .x 10 (.bin .eql (.v 9) (.c (.int .i64 3))) <|
 .m 11 10 .done) K113_11
abbrev K113_13:C:=.cond 10 (.v 11) K113_9 K113_12
abbrev K113_14:C:=.seq (.pl <| .e 10 2 <|
 .x 10 (.bin .eql (.v 9) (.c (.int .i64 2))) <|
 .m 11 10 .done) K113_13
abbrev K113_15:C:=.cond 10 (.v 11) K113_8 K113_14
abbrev K113_16:C:=.block 0 (.seq (.pl <| .e 10 2 <|
 .x 10 (.bin .eql (.v 9) (.c (.int .i64 1))) <|
 .m 11 10 .done) K113_15)
abbrev K113_17:C:=.seq (.seq (.pl <| .e 10 1 <|
 .a 10 3 <|
 .g 9 10 3 0 .done) K113_16) K113_7
abbrev K113_18:C:=.seq (.pl <| .e 10 0 <|
 .x 7 (.mv (.c (.int .i64 2))) <|
 .x 8 (.mv (.c (.int .i64 0))) .done) K113_17
abbrev K113_19:C:=.seq (.pl <| .e 10 5 <|
 .l 10 5 <|
 .x 11 (.nilc (.v 10)) <|
 .l 12 11 <|
 .x 13 (.bin .add (.v 12) (.c (.int .i64 1))) <|
 .x 14 (.nilc (.v 10)) <|
 .o (.ex none (.store 1 (.v 14) (.v 13))) .done) K113_18
abbrev K113_20:Pl:=.x 6 (.mv (.c (.bool false))) .done
abbrev K113_21:Pl:=.c 5 (.alloc (.v 2)) K113_20
abbrev B_impl_Expr_walk:C:=.seq (.pl <| .e 10 0 <|
 .o (.pnew 3 (.v 0) []) <|
 .c 4 (.alloc (.v 1)) K113_21) K113_19
def R_impl_Expr_walk:FIR:=⟨B_impl_Expr_walk,10,[(6,none)]⟩
theorem IR_impl_Expr_walk:cfun Try.prog H_impl_Expr_walk Try.f113=some R_impl_Expr_walk:=by kernel_rfl
theorem EN_impl_Expr_walk:ENT Try.prog B_impl_Expr_walk [(6,none)] 3 10 fn_impl_Expr_walk:=fun hargs hw=>enter Try.func113 rfl IR_impl_Expr_walk hargs hw
def H_impl_Expr_walk_1:Hint:=⟨[(0,false),(1,false),(2,false),(3,true),(4,false)],[]⟩
abbrev K118_1:Pl:=.x 10 (.un .not (.v 9)) <|
 .m 4 10 .done
abbrev K118_2:C:=.seq (.pl <| .e 5 6 <|
 .o (.pget (some 5) none 3 0 (some 3)) <|
 .l 6 1 <|
 .x 7 (.bin .add (.v 6) (.c (.int .i64 1))) <|
 .l 8 2 <|
 .c 9 (.call fn_impl_Expr_walk [.v 5,.v 7,.v 8]) K118_1) (.ret)
abbrev B_impl_Expr_walk_1:C:=.seq (.pl <| .e 5 0 <|
 .o (.pnew 3 (.v 0) []) <|
 .x 4 (.mv (.c (.bool false))) .done) K118_2
def R_impl_Expr_walk_1:FIR:=⟨B_impl_Expr_walk_1,5,[(4,none)]⟩
theorem IR_impl_Expr_walk_1:cfun Try.prog H_impl_Expr_walk_1 Try.f118=some R_impl_Expr_walk_1:=by kernel_rfl
theorem EN_impl_Expr_walk_1:ENT Try.prog B_impl_Expr_walk_1 [(4,none)] 3 5 fn_impl_Expr_walk_1:=fun hargs hw=>enter Try.func118 rfl IR_impl_Expr_walk_1 hargs hw
def H_impl_FormatState:Hint:=⟨[(0,false),(1,true),(2,false),(3,false),(4,false),(5,false),(6,false)],[]⟩
abbrev K15_1:C:=.seq (.pl <| .e 7 4 <|
 .m 7 3 <|
 .x 8 (.bin .add (.v 7) (.c (.string ⟨#[47]⟩))) <|
 .m 9 5 <|
 .x 10 (.bin .add (.v 8) (.v 9)) <|
 .m 2 10 .done) (.ret)
abbrev K15_2:C:=.seq (.pl <| .e 7 0 <|
 .x 2 (.mv (.c (.string ⟨#[]⟩))) .done) (.ret)
abbrev K15_3:C:=.cond 7 (.v 12) K15_2 (.skip)
abbrev K15_4:C:=.seq (.seq (.pl <| .e 7 6 <|
 .m 7 4 <|
 .x 8 (.un .not (.v 7)) <|
 .m 9 8 <|
 .n 9 (.px (some 10) (.mv (.v 6))) <|
 .n 9 (.px (some 11) (.un .not (.v 10))) <|
 .x 12 (.pick (.v 9) (.c (.bool true)) (.v 11)) .done) K15_3) K15_1
abbrev K15_5:Pl:=.m 10 9 <|
 .x 11 (.extract 0 (.v 10)) <|
 .x 12 (.extract 1 (.v 10)) <|
 .m 5 11 <|
 .m 6 12 .done
abbrev K15_6:C:=.seq (.pl <| .e 7 6 <|
 .a 7 1 <|
 .g 8 7 1 1 <|
 .c 9 (.call fn_impl_digits [.v 8]) K15_5) K15_4
abbrev K15_7:Pl:=.m 10 9 <|
 .x 11 (.extract 0 (.v 10)) <|
 .x 12 (.extract 1 (.v 10)) <|
 .m 3 11 <|
 .m 4 12 .done
abbrev K15_8:C:=.seq (.pl <| .e 7 6 <|
 .a 7 1 <|
 .g 8 7 1 0 <|
 .c 9 (.call fn_impl_digits [.v 8]) K15_7) K15_6
abbrev B_impl_FormatState:C:=.seq (.pl <| .e 7 0 <|
 .o (.pnew 1 (.v 0) []) <|
 .x 2 (.mv (.c (.string ⟨#[]⟩))) .done) K15_8
def R_impl_FormatState:FIR:=⟨B_impl_FormatState,7,[(2,none)]⟩
theorem IR_impl_FormatState:cfun Try.prog H_impl_FormatState Try.f15=some R_impl_FormatState:=by kernel_rfl
theorem EN_impl_FormatState:ENT Try.prog B_impl_FormatState [(2,none)] 1 7 fn_impl_FormatState:=fun hargs hw=>enter Try.func15 rfl IR_impl_FormatState hargs hw
def H_impl_ParseState:Hint:=⟨[(0,false),(1,false),(2,true),(4,true),(5,false),(6,false),(7,false),(9,true)],[]⟩
abbrev K8_1:C:=.seq (.pl <| .e 8 1 <|
 .o (.pget (some 8) none 7 0 (some 2)) <|
 .o (.pset none 3 0 2 (.v 8)) <|
 .x 4 (.mv (.c (.bool true))) .done) (.ret)
abbrev K8_2:C:=.seq (.pl <| .e 8 1 <|
 .x 8 (.build [.slice none 0 0,.slice none 0 0] []) <|
 .o (.pset none 3 0 2 (.v 8)) <|
 .x 4 (.mv (.c (.bool false))) .done) (.ret)
abbrev K8_3:C:=.cond 8 (.v 17) K8_2 (.skip)
abbrev K8_4:Pl:=.n 12 (.px (some 15) (.mv (.v 1))) <|
 .n 12 (.px (some 16) (.bin .neq (.v 14) (.v 15))) <|
 .x 17 (.pick (.v 12) (.c (.bool true)) (.v 16)) .done
abbrev K8_5:Pl:=.x 11 (.un .not (.v 10)) <|
 .m 12 11 <|
 .n 12 (.pget (some 13) none 7 0 (some 2)) <|
 .st (.act (some (.v 12,false)) (.ex (some 14) (.call fn_impl_FormatState [.v 13]))) K8_4
abbrev K8_6:C:=.seq (.seq (.pl <| .e 8 10 <|
 .o (.pget (some 8) none 2 0 (some 2)) <|
 .o (.pget (some 9) none 7 0 (some 2)) <|
 .c 10 (.call fn_impl_StateValid [.v 8,.v 9]) K8_5) K8_3) K8_1
abbrev K8_7:Pl:=.x 12 (.build [.slice none 0 0,.slice none 0 0] [(0,1,.v 9),(1,1,.v 11)]) <|
 .o (.pnew 7 (.c (.agg #[.slice none 0 0,.slice none 0 0])) []) <|
 .o (.pset none 7 0 2 (.v 12)) .done
abbrev K8_8:Pl:=.m 10 6 <|
 .c 11 (.call fn_impl_readDigits [.v 10]) K8_7
abbrev K8_9:C:=.seq (.pl <| .e 8 5 <|
 .m 8 5 <|
 .c 9 (.call fn_impl_readDigits [.v 8]) K8_8) K8_6
abbrev K8_10:Pl:=.m 10 9 <|
 .x 11 (.extract 0 (.v 10)) <|
 .x 12 (.extract 1 (.v 10)) <|
 .x 13 (.extract 2 (.v 10)) <|
 .m 5 11 <|
 .m 6 12 <|
 .m 14 13 .done
abbrev K8_11:C:=.seq (.pl <| .e 8 7 <|
 .m 8 1 <|
 .c 9 (.call fn_strings_Cut [.v 8,.c (.string ⟨#[47]⟩)]) K8_10) K8_9
abbrev B_impl_ParseState:C:=.seq (.pl <| .e 8 0 <|
 .o (.pnew 2 (.v 0) []) <|
 .o (.pnew 3 (.c (.agg #[.slice none 0 0,.slice none 0 0])) []) <|
 .x 4 (.mv (.c (.bool false))) .done) K8_11
def R_impl_ParseState:FIR:=⟨B_impl_ParseState,8,[(3,some (some 2)),(4,none)]⟩
theorem IR_impl_ParseState:cfun Try.prog H_impl_ParseState Try.f8=some R_impl_ParseState:=by kernel_rfl
theorem EN_impl_ParseState:ENT Try.prog B_impl_ParseState [(3,some (some 2)),(4,none)] 2 8 fn_impl_ParseState:=fun hargs hw=>enter Try.func8 rfl IR_impl_ParseState hargs hw
def H_impl_StateValid:Hint:=⟨[(0,false),(1,false),(2,true),(3,true),(4,false)],[]⟩
abbrev K17_1:Pl:=.x 11 (.pick (.v 7) (.v 10) (.c (.bool false))) <|
 .m 4 11 .done
abbrev K17_2:Pl:=.m 7 6 <|
 .y 7 (.pget (some 8) none 2 0 (some 2)) <|
 .y 7 (.pget (some 9) none 3 0 (some 2)) <|
 .st (.act (some (.v 7,true)) (.ex (some 10) (.call fn_impl_System_has [.v 8,.v 9]))) K17_1
abbrev K17_3:C:=.seq (.pl <| .e 5 7 <|
 .o (.pget (some 5) none 2 0 (some 2)) <|
 .c 6 (.call fn_impl_SystemValid [.v 5]) K17_2) (.ret)
abbrev B_impl_StateValid:C:=.seq (.pl <| .e 5 0 <|
 .o (.pnew 2 (.v 0) []) <|
 .o (.pnew 3 (.v 1) []) <|
 .x 4 (.mv (.c (.bool false))) .done) K17_3
def R_impl_StateValid:FIR:=⟨B_impl_StateValid,5,[(4,none)]⟩
theorem IR_impl_StateValid:cfun Try.prog H_impl_StateValid Try.f17=some R_impl_StateValid:=by kernel_rfl
theorem EN_impl_StateValid:ENT Try.prog B_impl_StateValid [(4,none)] 2 5 fn_impl_StateValid:=fun hargs hw=>enter Try.func17 rfl IR_impl_StateValid hargs hw
def H_impl_SystemValid:Hint:=⟨[(0,false),(1,true),(2,false),(4,false),(17,false),(18,false),(19,false)],[[0,1,2,3]]⟩
abbrev K41_1:C:=.seq (.pl <| .e 7 0 <|
 .x 2 (.mv (.c (.bool true))) .done) (.ret)
abbrev K41_2:C:=.pl <| .e 7 1 <|
 .x 7 (.bin .add (.v 6) (.c (.int .i64 1))) <|
 .m 6 7 .done
abbrev K41_3:C:=.seq (.pl <| .e 7 0 <|
 .x 2 (.mv (.c (.bool false))) .done) (.ret)
abbrev K41_4:C:=.cond 7 (.v 22) K41_3 (.skip)
abbrev K41_5:Pl:=.x 22 (.pick (.v 17) (.c (.bool true)) (.v 21)) .done
abbrev K41_6:Pl:=.x 10 (.un .not (.v 9)) <|
 .m 11 10 <|
 .n 11 (.px (some 12) (.fa 1 (.v 3))) <|
 .n 11 (.ld (some 13) (.v 12) none) <|
 .n 11 (.px (some 14) (.lenV (.v 13))) <|
 .n 11 (.px (some 15) (.bin .gtr (.v 14) (.c (.int .i64 6)))) <|
 .x 16 (.pick (.v 11) (.c (.bool true)) (.v 15)) <|
 .m 17 16 <|
 .n 17 (.px (some 18) (.fa 1 (.v 3))) <|
 .n 17 (.ld (some 19) (.v 18) none) <|
 .n 17 (.px (some 20) (.mkf (.func fn_impl_SystemValid_1) [] [.v 3])) <|
 .st (.act (some (.v 17,false)) (.ex (some 21) (.call fn_slices_ContainsFunc_S_impl_Edge_impl_Edge [.v 19,.v 20]))) K41_5
abbrev K41_7:C:=.seq (.pl <| .e 7 16 <|
 .x 7 (.fa 0 (.v 3)) <|
 .l 8 7 <|
 .c 9 (.call fn_impl_in [.v 8,.c (.int .i64 1),.c (.int .i64 4)]) K41_6) K41_4
abbrev K41_8:Pl:=.o (.ex none (.store 2 (.v 3) (.v 8))) .done
abbrev K41_9:C:=.seq (.block 1 (.seq (.pl <| .e 7 2 <|
 .x 7 (.ia 2 (.v 4) (.v 6)) <|
 .o (.ld (some 8) (.v 7) (some 2)) <|
 .c 3 (.alloc (.c (.agg #[.int .i64 0,.slice none 0 0]))) K41_8) K41_7)) K41_2
abbrev K41_10:C:=.seq (.cond 7 (.v 7) (.skip) (.exit 0)) K41_9
abbrev K41_11:C:=.seq (.pl <| .e 7 1 <|
 .x 7 (.bin .lss (.v 6) (.v 5)) .done) K41_10
abbrev K41_12:C:=.block 0 (.loop 7 [0,1,2,3] K41_11)
abbrev K41_13:C:=.seq (.seq (.pl <| .e 7 1 <|
 .a 7 1 <|
 .g 4 7 1 1 <|
 .x 5 (.lenV (.v 4)) <|
 .x 6 (.mv (.c (.int .i64 0))) .done) K41_12) K41_1
abbrev K41_14:C:=.seq (.pl <| .e 7 0 <|
 .x 2 (.mv (.c (.bool false))) .done) (.ret)
abbrev K41_15:C:=.cond 7 (.v 17) K41_14 (.skip)
abbrev K41_16:Pl:=.n 11 (.px (some 16) (.un .not (.v 15))) <|
 .x 17 (.pick (.v 11) (.c (.bool true)) (.v 16)) .done
abbrev K41_17:Pl:=.x 10 (.un .not (.v 9)) <|
 .m 11 10 <|
 .n 11 (.als 12 none 1) <|
 .n 11 (.pget (some 13) (some 12) 1 1 none) <|
 .n 11 (.px (some 14) (.lenV (.v 13))) <|
 .st (.act (some (.v 11,false)) (.ex (some 15) (.call fn_impl_in [.v 14,.c (.int .i64 1),.c (.int .i64 3)]))) K41_16
abbrev K41_18:C:=.seq (.seq (.pl <| .e 7 11 <|
 .a 7 1 <|
 .g 8 7 1 0 <|
 .c 9 (.call fn_impl_valsOk [.v 8]) K41_17) K41_15) K41_13
abbrev B_impl_SystemValid:C:=.seq (.pl <| .e 7 0 <|
 .o (.pnew 1 (.v 0) []) <|
 .x 2 (.mv (.c (.bool false))) .done) K41_18
def R_impl_SystemValid:FIR:=⟨B_impl_SystemValid,7,[(2,none)]⟩
theorem IR_impl_SystemValid:cfun Try.prog H_impl_SystemValid Try.f41=some R_impl_SystemValid:=by kernel_rfl
theorem EN_impl_SystemValid:ENT Try.prog B_impl_SystemValid [(2,none)] 1 7 fn_impl_SystemValid:=fun hargs hw=>enter Try.func41 rfl IR_impl_SystemValid hargs hw
def H_impl_SystemValid_1:Hint:=⟨[(0,false),(1,false),(2,true),(3,false)],[]⟩
abbrev K68_1:Pl:=.x 8 (.un .not (.v 7)) <|
 .m 3 8 .done
abbrev K68_2:C:=.seq (.pl <| .e 4 5 <|
 .o (.pget (some 4) none 2 0 (some 10)) <|
 .x 5 (.fa 0 (.v 1)) <|
 .l 6 5 <|
 .c 7 (.call fn_impl_EdgeValid [.v 4,.v 6]) K68_1) (.ret)
abbrev B_impl_SystemValid_1:C:=.seq (.pl <| .e 4 0 <|
 .o (.pnew 2 (.v 0) []) <|
 .x 3 (.mv (.c (.bool false))) .done) K68_2
def R_impl_SystemValid_1:FIR:=⟨B_impl_SystemValid_1,4,[(3,none)]⟩
theorem IR_impl_SystemValid_1:cfun Try.prog H_impl_SystemValid_1 Try.f68=some R_impl_SystemValid_1:=by kernel_rfl
theorem EN_impl_SystemValid_1:ENT Try.prog B_impl_SystemValid_1 [(3,none)] 2 4 fn_impl_SystemValid_1:=fun hargs hw=>enter Try.func68 rfl IR_impl_SystemValid_1 hargs hw
def H_impl_System_has:Hint:=⟨[(0,false),(1,false),(2,true),(3,true),(4,false),(5,false),(6,false),(21,false),(22,false),(23,false)],[[0,1,3,4,5,6]]⟩
abbrev K42_1:C:=.seq (.pl <| .e 10 0 <|
 .x 4 (.mv (.c (.bool true))) .done) (.ret)
abbrev K42_2:C:=.pl <| .e 10 1 <|
 .x 10 (.bin .add (.v 9) (.c (.int .i64 1))) <|
 .m 9 10 .done
abbrev K42_3:C:=.seq (.pl <| .e 10 0 <|
 .x 4 (.mv (.c (.bool false))) .done) (.ret)
abbrev K42_4:C:=.cond 10 (.v 19) K42_3 (.skip)
abbrev K42_5:Pl:=.x 19 (.un .not (.v 18)) .done
abbrev K42_6:C:=.seq (.pl <| .e 10 10 <|
 .m 10 6 <|
 .a 11 2 <|
 .g 12 11 2 1 <|
 .m 13 5 <|
 .x 14 (.ia 2 (.v 12) (.v 13)) <|
 .x 15 (.fa 0 (.v 14)) <|
 .l 16 15 <|
 .x 17 (.bin .sub (.v 16) (.c (.int .i64 1))) <|
 .c 18 (.call fn_impl_in [.v 10,.c (.int .i64 0),.v 17]) K42_5) K42_4
abbrev K42_7:C:=.seq (.block 1 (.seq (.pl <| .e 10 3 <|
 .m 10 9 <|
 .x 11 (.ia 1 (.v 7) (.v 9)) <|
 .l 12 11 <|
 .m 5 10 <|
 .m 6 12 .done) K42_6)) K42_2
abbrev K42_8:C:=.seq (.cond 10 (.v 10) (.skip) (.exit 0)) K42_7
abbrev K42_9:C:=.seq (.pl <| .e 10 1 <|
 .x 10 (.bin .lss (.v 9) (.v 8)) .done) K42_8
abbrev K42_10:C:=.block 0 (.loop 10 [0,1,3,4,5,6] K42_9)
abbrev K42_11:C:=.seq (.seq (.pl <| .e 10 1 <|
 .a 10 3 <|
 .g 7 10 3 0 <|
 .x 8 (.lenV (.v 7)) <|
 .x 9 (.mv (.c (.int .i64 0))) .done) K42_10) K42_1
abbrev K42_12:C:=.seq (.pl <| .e 10 0 <|
 .x 4 (.mv (.c (.bool false))) .done) (.ret)
abbrev K42_13:C:=.cond 10 (.v 22) K42_12 (.skip)
abbrev K42_14:Pl:=.n 17 (.px (some 21) (.un .not (.v 20))) <|
 .x 22 (.pick (.v 17) (.c (.bool true)) (.v 21)) .done
abbrev K42_15:C:=.seq (.seq (.pl <| .e 10 13 <|
 .a 10 3 <|
 .g 11 10 3 0 <|
 .x 12 (.lenV (.v 11)) <|
 .a 13 2 <|
 .g 14 13 2 1 <|
 .x 15 (.lenV (.v 14)) <|
 .x 16 (.bin .neq (.v 12) (.v 15)) <|
 .m 17 16 <|
 .n 17 (.als 18 none 3) <|
 .n 17 (.pget (some 19) (some 18) 3 1 none) <|
 .st (.act (some (.v 17,false)) (.ex (some 20) (.call fn_impl_valsOk [.v 19]))) K42_14) K42_13) K42_11
abbrev B_impl_System_has:C:=.seq (.pl <| .e 10 0 <|
 .o (.pnew 2 (.v 0) []) <|
 .o (.pnew 3 (.v 1) []) <|
 .x 4 (.mv (.c (.bool false))) .done) K42_15
def R_impl_System_has:FIR:=⟨B_impl_System_has,10,[(4,none)]⟩
theorem IR_impl_System_has:cfun Try.prog H_impl_System_has Try.f42=some R_impl_System_has:=by kernel_rfl
theorem EN_impl_System_has:ENT Try.prog B_impl_System_has [(4,none)] 2 10 fn_impl_System_has:=fun hargs hw=>enter Try.func42 rfl IR_impl_System_has hargs hw
def H_impl_in:Hint:=⟨[(0,false),(1,false),(2,false),(6,false)],[]⟩
abbrev K62_1:C:=.seq (.pl <| .e 4 8 <|
 .m 4 0 <|
 .m 5 1 <|
 .x 6 (.bin .geq (.v 4) (.v 5)) <|
 .m 7 6 <|
 .y 7 (.px (some 8) (.mv (.v 0))) <|
 .y 7 (.px (some 9) (.mv (.v 2))) <|
 .y 7 (.px (some 10) (.bin .leq (.v 8) (.v 9))) <|
 .x 11 (.pick (.v 7) (.v 10) (.c (.bool false))) <|
 .m 3 11 .done) (.ret)
abbrev B_impl_in:C:=.seq (.pl <| .e 4 0 <|
 .x 3 (.mv (.c (.bool false))) .done) K62_1
def R_impl_in:FIR:=⟨B_impl_in,4,[(3,none)]⟩
theorem IR_impl_in:cfun Try.prog H_impl_in Try.f62=some R_impl_in:=by kernel_rfl
theorem EN_impl_in:ENT Try.prog B_impl_in [(3,none)] 3 4 fn_impl_in:=fun hargs hw=>enter Try.func62 rfl IR_impl_in hargs hw
def H_impl_readDigits:Hint:=⟨[(0,false),(2,false),(3,false),(4,false),(9,false),(10,false)],[[1,3]]⟩
abbrev K28_1:C:=.seq (.pl <| .e 6 1 <|
 .m 6 2 <|
 .m 1 6 .done) (.ret)
abbrev K28_2:C:=.pl <| .e 6 1 <|
 .x 6 (.bin .add (.v 5) (.c (.int .i64 1))) <|
 .m 5 6 .done
abbrev K28_3:Pl:=.x 14 (.ia 1 (.v 6) (.v 7)) <|
 .o (.ex none (.store 1 (.v 14) (.v 13))) .done
abbrev K28_4:C:=.pl <| .e 6 9 <|
 .m 6 2 <|
 .m 7 3 <|
 .m 8 0 <|
 .m 9 3 <|
 .m 10 3 <|
 .x 11 (.bin .add (.v 10) (.c (.int .i64 1))) <|
 .x 12 (.sliceS (.v 8) (some (.v 9)) (some (.v 11))) <|
 .c 13 (.call fn_impl_small [.v 12]) K28_3
abbrev K28_5:C:=.seq (.block 1 (.seq (.pl <| .e 6 1 <|
 .m 6 5 <|
 .m 3 6 .done) K28_4)) K28_2
abbrev K28_6:C:=.seq (.cond 6 (.v 6) (.skip) (.exit 0)) K28_5
abbrev K28_7:C:=.seq (.pl <| .e 6 1 <|
 .x 6 (.bin .lss (.v 5) (.v 4)) .done) K28_6
abbrev K28_8:C:=.block 0 (.loop 6 [1,3] K28_7)
abbrev K28_9:C:=.seq (.seq (.pl <| .e 6 1 <|
 .m 6 2 <|
 .x 4 (.lenV (.v 6)) <|
 .x 5 (.mv (.c (.int .i64 0))) .done) K28_8) K28_1
abbrev K28_10:Pl:=.m 2 8 .done
abbrev K28_11:C:=.seq (.pl <| .e 6 3 <|
 .m 6 0 <|
 .x 7 (.lenS (.v 6)) <|
 .c 8 (.mks 8 1 [.int .i64 0] (.v 7) (.v 7)) K28_10) K28_9
abbrev B_impl_readDigits:C:=.seq (.pl <| .e 6 0 <|
 .x 1 (.mv (.c (.slice none 0 0))) .done) K28_11
def R_impl_readDigits:FIR:=⟨B_impl_readDigits,6,[(1,none)]⟩
theorem IR_impl_readDigits:cfun Try.prog H_impl_readDigits Try.f28=some R_impl_readDigits:=by kernel_rfl
theorem EN_impl_readDigits:ENT Try.prog B_impl_readDigits [(1,none)] 1 6 fn_impl_readDigits:=fun hargs hw=>enter Try.func28 rfl IR_impl_readDigits hargs hw
def H_impl_small:Hint:=⟨[(0,false),(2,false)],[]⟩
abbrev K50_1:C:=.seq (.pl <| .e 2 4 <|
 .m 2 0 <|
 .x 3 (.idxS (.v 2) (.c (.int .i64 0))) <|
 .x 4 (.bin .sub (.v 3) (.c (.int .u8 48))) <|
 .x 5 (.conv .i64 (.v 4)) <|
 .m 1 5 .done) (.ret)
abbrev K50_2:C:=.seq (.pl <| .e 2 0 <|
 .x 1 (.mv (.c (.int .i64 (-1)))) .done) (.ret)
abbrev K50_3:C:=.cond 2 (.v 14) K50_2 (.skip)
abbrev K50_4:C:=.seq (.seq (.pl <| .e 2 13 <|
 .m 2 0 <|
 .x 3 (.lenS (.v 2)) <|
 .x 4 (.bin .neq (.v 3) (.c (.int .i64 1))) <|
 .m 5 4 <|
 .n 5 (.px (some 6) (.mv (.v 0))) <|
 .n 5 (.px (some 7) (.idxS (.v 6) (.c (.int .i64 0)))) <|
 .n 5 (.px (some 8) (.bin .lss (.v 7) (.c (.int .u8 48)))) <|
 .x 9 (.pick (.v 5) (.c (.bool true)) (.v 8)) <|
 .m 10 9 <|
 .n 10 (.px (some 11) (.mv (.v 0))) <|
 .n 10 (.px (some 12) (.idxS (.v 11) (.c (.int .i64 0)))) <|
 .n 10 (.px (some 13) (.bin .gtr (.v 12) (.c (.int .u8 57)))) <|
 .x 14 (.pick (.v 10) (.c (.bool true)) (.v 13)) .done) K50_3) K50_1
abbrev B_impl_small:C:=.seq (.pl <| .e 2 0 <|
 .x 1 (.mv (.c (.int .i64 0))) .done) K50_4
def R_impl_small:FIR:=⟨B_impl_small,2,[(1,none)]⟩
theorem IR_impl_small:cfun Try.prog H_impl_small Try.f50=some R_impl_small:=by kernel_rfl
theorem EN_impl_small:ENT Try.prog B_impl_small [(1,none)] 1 2 fn_impl_small:=fun hargs hw=>enter Try.func50 rfl IR_impl_small hargs hw
def H_impl_valsOk:Hint:=⟨[(0,false),(2,false)],[]⟩
abbrev K66_1:Pl:=.y 5 (.px (some 8) (.un .not (.v 7))) <|
 .x 9 (.pick (.v 5) (.v 8) (.c (.bool false))) <|
 .m 1 9 .done
abbrev K66_2:C:=.seq (.pl <| .e 2 8 <|
 .m 2 0 <|
 .x 3 (.lenV (.v 2)) <|
 .x 4 (.bin .eql (.v 3) (.c (.int .i64 3))) <|
 .m 5 4 <|
 .y 5 (.px (some 6) (.mv (.v 0))) <|
 .st (.act (some (.v 5,true)) (.ex (some 7) (.call fn_slices_ContainsFunc_S_int_int [.v 6,.c (.func (.func 86) #[] #[])]))) K66_1) (.ret)
abbrev B_impl_valsOk:C:=.seq (.pl <| .e 2 0 <|
 .x 1 (.mv (.c (.bool false))) .done) K66_2
def R_impl_valsOk:FIR:=⟨B_impl_valsOk,2,[(1,none)]⟩
theorem IR_impl_valsOk:cfun Try.prog H_impl_valsOk Try.f66=some R_impl_valsOk:=by kernel_rfl
theorem EN_impl_valsOk:ENT Try.prog B_impl_valsOk [(1,none)] 1 2 fn_impl_valsOk:=fun hargs hw=>enter Try.func66 rfl IR_impl_valsOk hargs hw
def H_impl_valsOk_1:Hint:=⟨[(0,false),(2,false)],[]⟩
abbrev K86_1:Pl:=.x 4 (.un .not (.v 3)) <|
 .m 1 4 .done
abbrev K86_2:C:=.seq (.pl <| .e 2 3 <|
 .m 2 0 <|
 .c 3 (.call fn_impl_in [.v 2,.c (.int .i64 0),.c (.int .i64 3)]) K86_1) (.ret)
abbrev B_impl_valsOk_1:C:=.seq (.pl <| .e 2 0 <|
 .x 1 (.mv (.c (.bool false))) .done) K86_2
def R_impl_valsOk_1:FIR:=⟨B_impl_valsOk_1,2,[(1,none)]⟩
theorem IR_impl_valsOk_1:cfun Try.prog H_impl_valsOk_1 Try.f86=some R_impl_valsOk_1:=by kernel_rfl
theorem EN_impl_valsOk_1:ENT Try.prog B_impl_valsOk_1 [(1,none)] 1 2 fn_impl_valsOk_1:=fun hargs hw=>enter Try.func86 rfl IR_impl_valsOk_1 hargs hw
def H_internal_stringslite_Cut:Hint:=⟨[(0,false),(1,false),(4,false),(5,false),(6,false),(7,false)],[]⟩
abbrev K49_1:C:=.seq (.pl <| .e 6 1 <|
 .m 6 0 <|
 .m 2 6 <|
 .x 3 (.mv (.c (.string ⟨#[]⟩))) <|
 .x 4 (.mv (.c (.bool false))) .done) (.ret)
abbrev K49_2:C:=.seq (.pl <| .e 6 9 <|
 .m 6 0 <|
 .m 7 5 <|
 .x 8 (.sliceS (.v 6) none (some (.v 7))) <|
 .m 9 0 <|
 .m 10 5 <|
 .m 11 1 <|
 .x 12 (.lenS (.v 11)) <|
 .x 13 (.bin .add (.v 10) (.v 12)) <|
 .x 14 (.sliceS (.v 9) (some (.v 13)) none) <|
 .m 2 8 <|
 .m 3 14 <|
 .x 4 (.mv (.c (.bool true))) .done) (.ret)
abbrev K49_3:C:=.cond 6 (.v 7) K49_2 (.skip)
abbrev K49_4:C:=.seq (.pl <| .e 6 2 <|
 .m 6 5 <|
 .x 7 (.bin .geq (.v 6) (.c (.int .i64 0))) .done) K49_3
abbrev K49_5:Pl:=.m 5 8 .done
abbrev K49_6:C:=.seq (.seq (.pl <| .e 6 3 <|
 .m 6 0 <|
 .m 7 1 <|
 .c 8 (.call fn_internal_stringslite_Index [.v 6,.v 7]) K49_5) K49_4) K49_1
abbrev B_internal_stringslite_Cut:C:=.seq (.pl <| .e 6 0 <|
 .x 2 (.mv (.c (.string ⟨#[]⟩))) <|
 .x 3 (.mv (.c (.string ⟨#[]⟩))) <|
 .x 4 (.mv (.c (.bool false))) .done) K49_6
def R_internal_stringslite_Cut:FIR:=⟨B_internal_stringslite_Cut,6,[(2,none),(3,none),(4,none)]⟩
theorem IR_internal_stringslite_Cut:cfun Try.prog H_internal_stringslite_Cut Try.f49=some R_internal_stringslite_Cut:=by kernel_rfl
theorem EN_internal_stringslite_Cut:ENT Try.prog B_internal_stringslite_Cut [(2,none),(3,none),(4,none)] 2 6 fn_internal_stringslite_Cut:=fun hargs hw=>enter Try.func49 rfl IR_internal_stringslite_Cut hargs hw
def H_slices_ContainsFunc_S_impl_Edge_impl_Edge:Hint:=⟨[(0,false),(1,false),(4,false)],[]⟩
abbrev K67_1:Pl:=.x 6 (.bin .geq (.v 5) (.c (.int .i64 0))) <|
 .m 2 6 .done
abbrev K67_2:C:=.seq (.pl <| .e 3 4 <|
 .m 3 0 <|
 .m 4 1 <|
 .c 5 (.call fn_slices_IndexFunc_S_impl_Edge_impl_Edge [.v 3,.v 4]) K67_1) (.ret)
abbrev B_slices_ContainsFunc_S_impl_Edge_impl_Edge:C:=.seq (.pl <| .e 3 0 <|
 .x 2 (.mv (.c (.bool false))) .done) K67_2
def R_slices_ContainsFunc_S_impl_Edge_impl_Edge:FIR:=⟨B_slices_ContainsFunc_S_impl_Edge_impl_Edge,3,[(2,none)]⟩
theorem IR_slices_ContainsFunc_S_impl_Edge_impl_Edge:cfun Try.prog H_slices_ContainsFunc_S_impl_Edge_impl_Edge Try.f67=some R_slices_ContainsFunc_S_impl_Edge_impl_Edge:=by kernel_rfl
theorem EN_slices_ContainsFunc_S_impl_Edge_impl_Edge:ENT Try.prog B_slices_ContainsFunc_S_impl_Edge_impl_Edge [(2,none)] 2 3 fn_slices_ContainsFunc_S_impl_Edge_impl_Edge:=fun hargs hw=>enter Try.func67 rfl IR_slices_ContainsFunc_S_impl_Edge_impl_Edge hargs hw
def H_slices_ContainsFunc_S_impl_Expr_impl_Expr:Hint:=⟨[(0,false),(1,false),(4,false)],[]⟩
abbrev K117_1:Pl:=.x 6 (.bin .geq (.v 5) (.c (.int .i64 0))) <|
 .m 2 6 .done
abbrev K117_2:C:=.seq (.pl <| .e 3 4 <|
 .m 3 0 <|
 .m 4 1 <|
 .c 5 (.call fn_slices_IndexFunc_S_impl_Expr_impl_Expr [.v 3,.v 4]) K117_1) (.ret)
abbrev B_slices_ContainsFunc_S_impl_Expr_impl_Expr:C:=.seq (.pl <| .e 3 0 <|
 .x 2 (.mv (.c (.bool false))) .done) K117_2
def R_slices_ContainsFunc_S_impl_Expr_impl_Expr:FIR:=⟨B_slices_ContainsFunc_S_impl_Expr_impl_Expr,3,[(2,none)]⟩
theorem IR_slices_ContainsFunc_S_impl_Expr_impl_Expr:cfun Try.prog H_slices_ContainsFunc_S_impl_Expr_impl_Expr Try.f117=some R_slices_ContainsFunc_S_impl_Expr_impl_Expr:=by kernel_rfl
theorem EN_slices_ContainsFunc_S_impl_Expr_impl_Expr:ENT Try.prog B_slices_ContainsFunc_S_impl_Expr_impl_Expr [(2,none)] 2 3 fn_slices_ContainsFunc_S_impl_Expr_impl_Expr:=fun hargs hw=>enter Try.func117 rfl IR_slices_ContainsFunc_S_impl_Expr_impl_Expr hargs hw
def H_slices_ContainsFunc_S_int_int:Hint:=⟨[(0,false),(1,false),(4,false)],[]⟩
abbrev K85_1:Pl:=.x 6 (.bin .geq (.v 5) (.c (.int .i64 0))) <|
 .m 2 6 .done
abbrev K85_2:C:=.seq (.pl <| .e 3 4 <|
 .m 3 0 <|
 .m 4 1 <|
 .c 5 (.call fn_slices_IndexFunc_S_int_int [.v 3,.v 4]) K85_1) (.ret)
abbrev B_slices_ContainsFunc_S_int_int:C:=.seq (.pl <| .e 3 0 <|
 .x 2 (.mv (.c (.bool false))) .done) K85_2
def R_slices_ContainsFunc_S_int_int:FIR:=⟨B_slices_ContainsFunc_S_int_int,3,[(2,none)]⟩
theorem IR_slices_ContainsFunc_S_int_int:cfun Try.prog H_slices_ContainsFunc_S_int_int Try.f85=some R_slices_ContainsFunc_S_int_int:=by kernel_rfl
theorem EN_slices_ContainsFunc_S_int_int:ENT Try.prog B_slices_ContainsFunc_S_int_int [(2,none)] 2 3 fn_slices_ContainsFunc_S_int_int:=fun hargs hw=>enter Try.func85 rfl IR_slices_ContainsFunc_S_int_int hargs hw
def H_slices_EqualFunc_S_impl_Expr_S_impl_Expr_impl_Expr_impl_Expr:Hint:=⟨[(0,false),(1,false),(2,false),(6,false),(7,false),(8,true),(9,true),(15,false),(16,false),(17,false)],[[0,3,4,5,6]]⟩
abbrev K105_1:C:=.seq (.pl <| .e 10 0 <|
 .x 3 (.mv (.c (.bool true))) .done) (.ret)
abbrev K105_2:C:=.pl <| .e 10 1 <|
 .x 10 (.bin .add (.v 9) (.c (.int .i64 1))) <|
 .m 9 10 .done
abbrev K105_3:C:=.seq (.pl <| .e 10 0 <|
 .x 3 (.mv (.c (.bool false))) .done) (.ret)
abbrev K105_4:C:=.cond 10 (.v 14) K105_3 (.skip)
abbrev K105_5:Pl:=.x 14 (.un .not (.v 13)) .done
abbrev K105_6:C:=.seq (.pl <| .e 10 5 <|
 .m 10 2 <|
 .o (.pget (some 11) none 5 0 (some 3)) <|
 .o (.pget (some 12) none 6 0 (some 3)) <|
 .c 13 (.callv (.v 10) [.v 11,.v 12]) K105_5) K105_4
abbrev K105_7:C:=.seq (.pl <| .e 10 4 <|
 .m 10 1 <|
 .m 11 4 <|
 .x 12 (.ia 3 (.v 10) (.v 11)) <|
 .o (.ld (some 13) (.v 12) (some 3)) <|
 .o (.pnew 6 (.c (.agg #[.int .i64 0,.int .i64 0,.slice none 0 0])) []) <|
 .o (.pset none 6 0 3 (.v 13)) .done) K105_6
abbrev K105_8:C:=.seq (.block 1 (.seq (.pl <| .e 10 3 <|
 .m 10 9 <|
 .x 11 (.ia 3 (.v 7) (.v 9)) <|
 .o (.ld (some 12) (.v 11) (some 3)) <|
 .o (.pnew 5 (.c (.agg #[.int .i64 0,.int .i64 0,.slice none 0 0])) []) <|
 .m 4 10 <|
 .o (.pset none 5 0 3 (.v 12)) .done) K105_7)) K105_2
abbrev K105_9:C:=.seq (.cond 10 (.v 10) (.skip) (.exit 0)) K105_8
abbrev K105_10:C:=.seq (.pl <| .e 10 1 <|
 .x 10 (.bin .lss (.v 9) (.v 8)) .done) K105_9
abbrev K105_11:C:=.block 0 (.loop 10 [0,3,4,5,6] K105_10)
abbrev K105_12:C:=.seq (.seq (.pl <| .e 10 0 <|
 .m 7 0 <|
 .x 8 (.lenV (.v 7)) <|
 .x 9 (.mv (.c (.int .i64 0))) .done) K105_11) K105_1
abbrev K105_13:C:=.seq (.pl <| .e 10 0 <|
 .x 3 (.mv (.c (.bool false))) .done) (.ret)
abbrev K105_14:C:=.cond 10 (.v 14) K105_13 (.skip)
abbrev K105_15:C:=.seq (.seq (.pl <| .e 10 5 <|
 .m 10 0 <|
 .x 11 (.lenV (.v 10)) <|
 .m 12 1 <|
 .x 13 (.lenV (.v 12)) <|
 .x 14 (.bin .neq (.v 11) (.v 13)) .done) K105_14) K105_12
abbrev B_slices_EqualFunc_S_impl_Expr_S_impl_Expr_impl_Expr_impl_Expr:C:=.seq (.pl <| .e 10 0 <|
 .x 3 (.mv (.c (.bool false))) .done) K105_15
def R_slices_EqualFunc_S_impl_Expr_S_impl_Expr_impl_Expr_impl_Expr:FIR:=⟨B_slices_EqualFunc_S_impl_Expr_S_impl_Expr_impl_Expr_impl_Expr,10,[(3,none)]⟩
theorem IR_slices_EqualFunc_S_impl_Expr_S_impl_Expr_impl_Expr_impl_Expr:cfun Try.prog H_slices_EqualFunc_S_impl_Expr_S_impl_Expr_impl_Expr_impl_Expr Try.f105=some R_slices_EqualFunc_S_impl_Expr_S_impl_Expr_impl_Expr_impl_Expr:=by kernel_rfl
theorem EN_slices_EqualFunc_S_impl_Expr_S_impl_Expr_impl_Expr_impl_Expr:ENT Try.prog B_slices_EqualFunc_S_impl_Expr_S_impl_Expr_impl_Expr_impl_Expr [(3,none)] 3 10 fn_slices_EqualFunc_S_impl_Expr_S_impl_Expr_impl_Expr_impl_Expr:=fun hargs hw=>enter Try.func105 rfl IR_slices_EqualFunc_S_impl_Expr_S_impl_Expr_impl_Expr_impl_Expr hargs hw
def H_slices_IndexFunc_S_impl_Edge_impl_Edge:Hint:=⟨[(0,false),(1,false),(4,false),(5,false),(7,false),(8,false)],[[2,3]]⟩
abbrev K87_1:C:=.seq (.pl <| .e 6 0 <|
 .x 2 (.mv (.c (.int .i64 (-1)))) .done) (.ret)
abbrev K87_2:C:=.pl <| .e 6 1 <|
 .x 6 (.bin .add (.v 5) (.c (.int .i64 1))) <|
 .m 5 6 .done
abbrev K87_3:C:=.seq (.pl <| .e 6 1 <|
 .m 6 3 <|
 .m 2 6 .done) (.ret)
abbrev K87_4:C:=.cond 6 (.v 11) K87_3 (.skip)
abbrev K87_5:C:=.seq (.pl <| .e 6 6 <|
 .m 6 1 <|
 .m 7 0 <|
 .m 8 3 <|
 .x 9 (.ia 10 (.v 7) (.v 8)) <|
 .o (.ld (some 10) (.v 9) (some 10)) <|
 .c 11 (.callv (.v 6) [.v 10]) .done) K87_4
abbrev K87_6:C:=.seq (.block 1 (.seq (.pl <| .e 6 1 <|
 .m 6 5 <|
 .m 3 6 .done) K87_5)) K87_2
abbrev K87_7:C:=.seq (.cond 6 (.v 6) (.skip) (.exit 0)) K87_6
abbrev K87_8:C:=.seq (.pl <| .e 6 1 <|
 .x 6 (.bin .lss (.v 5) (.v 4)) .done) K87_7
abbrev K87_9:C:=.block 0 (.loop 6 [2,3] K87_8)
abbrev K87_10:C:=.seq (.seq (.pl <| .e 6 1 <|
 .m 6 0 <|
 .x 4 (.lenV (.v 6)) <|
 .x 5 (.mv (.c (.int .i64 0))) .done) K87_9) K87_1
abbrev B_slices_IndexFunc_S_impl_Edge_impl_Edge:C:=.seq (.pl <| .e 6 0 <|
 .x 2 (.mv (.c (.int .i64 0))) .done) K87_10
def R_slices_IndexFunc_S_impl_Edge_impl_Edge:FIR:=⟨B_slices_IndexFunc_S_impl_Edge_impl_Edge,6,[(2,none)]⟩
theorem IR_slices_IndexFunc_S_impl_Edge_impl_Edge:cfun Try.prog H_slices_IndexFunc_S_impl_Edge_impl_Edge Try.f87=some R_slices_IndexFunc_S_impl_Edge_impl_Edge:=by kernel_rfl
theorem EN_slices_IndexFunc_S_impl_Edge_impl_Edge:ENT Try.prog B_slices_IndexFunc_S_impl_Edge_impl_Edge [(2,none)] 2 6 fn_slices_IndexFunc_S_impl_Edge_impl_Edge:=fun hargs hw=>enter Try.func87 rfl IR_slices_IndexFunc_S_impl_Edge_impl_Edge hargs hw
def H_slices_IndexFunc_S_impl_Expr_impl_Expr:Hint:=⟨[(0,false),(1,false),(4,false),(5,false),(7,false),(8,false)],[[2,3]]⟩
abbrev K119_1:C:=.seq (.pl <| .e 6 0 <|
 .x 2 (.mv (.c (.int .i64 (-1)))) .done) (.ret)
abbrev K119_2:C:=.pl <| .e 6 1 <|
 .x 6 (.bin .add (.v 5) (.c (.int .i64 1))) <|
 .m 5 6 .done
abbrev K119_3:C:=.seq (.pl <| .e 6 1 <|
 .m 6 3 <|
 .m 2 6 .done) (.ret)
abbrev K119_4:C:=.cond 6 (.v 11) K119_3 (.skip)
abbrev K119_5:C:=.seq (.pl <| .e 6 6 <|
 .m 6 1 <|
 .m 7 0 <|
 .m 8 3 <|
 .x 9 (.ia 3 (.v 7) (.v 8)) <|
 .o (.ld (some 10) (.v 9) (some 3)) <|
 .c 11 (.callv (.v 6) [.v 10]) .done) K119_4
abbrev K119_6:C:=.seq (.block 1 (.seq (.pl <| .e 6 1 <|
 .m 6 5 <|
 .m 3 6 .done) K119_5)) K119_2
abbrev K119_7:C:=.seq (.cond 6 (.v 6) (.skip) (.exit 0)) K119_6
abbrev K119_8:C:=.seq (.pl <| .e 6 1 <|
 .x 6 (.bin .lss (.v 5) (.v 4)) .done) K119_7
abbrev K119_9:C:=.block 0 (.loop 6 [2,3] K119_8)
abbrev K119_10:C:=.seq (.seq (.pl <| .e 6 1 <|
 .m 6 0 <|
 .x 4 (.lenV (.v 6)) <|
 .x 5 (.mv (.c (.int .i64 0))) .done) K119_9) K119_1
abbrev B_slices_IndexFunc_S_impl_Expr_impl_Expr:C:=.seq (.pl <| .e 6 0 <|
 .x 2 (.mv (.c (.int .i64 0))) .done) K119_10
def R_slices_IndexFunc_S_impl_Expr_impl_Expr:FIR:=⟨B_slices_IndexFunc_S_impl_Expr_impl_Expr,6,[(2,none)]⟩
theorem IR_slices_IndexFunc_S_impl_Expr_impl_Expr:cfun Try.prog H_slices_IndexFunc_S_impl_Expr_impl_Expr Try.f119=some R_slices_IndexFunc_S_impl_Expr_impl_Expr:=by kernel_rfl
theorem EN_slices_IndexFunc_S_impl_Expr_impl_Expr:ENT Try.prog B_slices_IndexFunc_S_impl_Expr_impl_Expr [(2,none)] 2 6 fn_slices_IndexFunc_S_impl_Expr_impl_Expr:=fun hargs hw=>enter Try.func119 rfl IR_slices_IndexFunc_S_impl_Expr_impl_Expr hargs hw
def H_slices_IndexFunc_S_int_int:Hint:=⟨[(0,false),(1,false),(4,false),(5,false),(7,false),(8,false)],[[2,3]]⟩
abbrev K103_1:C:=.seq (.pl <| .e 6 0 <|
 .x 2 (.mv (.c (.int .i64 (-1)))) .done) (.ret)
abbrev K103_2:C:=.pl <| .e 6 1 <|
 .x 6 (.bin .add (.v 5) (.c (.int .i64 1))) <|
 .m 5 6 .done
abbrev K103_3:C:=.seq (.pl <| .e 6 1 <|
 .m 6 3 <|
 .m 2 6 .done) (.ret)
abbrev K103_4:C:=.cond 6 (.v 11) K103_3 (.skip)
abbrev K103_5:C:=.seq (.pl <| .e 6 6 <|
 .m 6 1 <|
 .m 7 0 <|
 .m 8 3 <|
 .x 9 (.ia 1 (.v 7) (.v 8)) <|
 .l 10 9 <|
 .c 11 (.callv (.v 6) [.v 10]) .done) K103_4
abbrev K103_6:C:=.seq (.block 1 (.seq (.pl <| .e 6 1 <|
 .m 6 5 <|
 .m 3 6 .done) K103_5)) K103_2
abbrev K103_7:C:=.seq (.cond 6 (.v 6) (.skip) (.exit 0)) K103_6
abbrev K103_8:C:=.seq (.pl <| .e 6 1 <|
 .x 6 (.bin .lss (.v 5) (.v 4)) .done) K103_7
abbrev K103_9:C:=.block 0 (.loop 6 [2,3] K103_8)
abbrev K103_10:C:=.seq (.seq (.pl <| .e 6 1 <|
 .m 6 0 <|
 .x 4 (.lenV (.v 6)) <|
 .x 5 (.mv (.c (.int .i64 0))) .done) K103_9) K103_1
abbrev B_slices_IndexFunc_S_int_int:C:=.seq (.pl <| .e 6 0 <|
 .x 2 (.mv (.c (.int .i64 0))) .done) K103_10
def R_slices_IndexFunc_S_int_int:FIR:=⟨B_slices_IndexFunc_S_int_int,6,[(2,none)]⟩
theorem IR_slices_IndexFunc_S_int_int:cfun Try.prog H_slices_IndexFunc_S_int_int Try.f103=some R_slices_IndexFunc_S_int_int:=by kernel_rfl
theorem EN_slices_IndexFunc_S_int_int:ENT Try.prog B_slices_IndexFunc_S_int_int [(2,none)] 2 6 fn_slices_IndexFunc_S_int_int:=fun hargs hw=>enter Try.func103 rfl IR_slices_IndexFunc_S_int_int hargs hw
def H_spec_EdgeValid:Hint:=⟨[(0,false),(1,false),(2,true),(4,false)],[]⟩
abbrev K90_1:Pl:=.n 12 (.px (some 20) (.pick (.v 16) (.v 19) (.c (.bool false)))) <|
 .x 21 (.pick (.v 12) (.c (.bool true)) (.v 20)) <|
 .m 3 21 .done
abbrev K90_2:Pl:=.x 11 (.pick (.v 7) (.v 10) (.c (.bool false))) <|
 .m 12 11 <|
 .n 12 (.als 13 none 2) <|
 .n 12 (.pget (some 14) (some 13) 2 5 none) <|
 .n 12 (.px (some 15) (.bin .geq (.v 14) (.c (.int .i64 0)))) <|
 .n 12 (.px (some 16) (.mv (.v 15))) <|
 .y 16 (.als 17 none 2) <|
 .y 16 (.pget (some 18) (some 17) 2 6 (some 3)) <|
 .st (.act (some (.v 16,true)) (.ex (some 19) (.call fn_spec_ExprValid [.v 18]))) K90_1
abbrev K90_3:C:=.seq (.pl <| .e 4 18 <|
 .a 4 2 <|
 .g 5 4 2 5 <|
 .x 6 (.bin .lss (.v 5) (.c (.int .i64 0))) <|
 .m 7 6 <|
 .y 7 (.als 8 none 2) <|
 .y 7 (.pget (some 9) (some 8) 2 6 (some 3)) <|
 .st (.act (some (.v 7,true)) (.ex (some 10) (.call fn_spec_l2None [.v 9]))) K90_2) (.ret)
abbrev K90_4:C:=.seq (.pl <| .e 4 0 <|
 .x 3 (.mv (.c (.bool false))) .done) (.ret)
abbrev K90_5:C:=.cond 4 (.v 21) K90_4 (.skip)
abbrev K90_6:C:=.seq (.seq (.pl <| .e 4 18 <|
 .a 4 2 <|
 .g 5 4 2 9 <|
 .x 6 (.bin .lss (.v 5) (.c (.int .i64 (-2)))) <|
 .m 7 6 <|
 .n 7 (.als 8 none 2) <|
 .n 7 (.pget (some 9) (some 8) 2 9 none) <|
 .n 7 (.px (some 10) (.bin .gtr (.v 9) (.c (.int .i64 2)))) <|
 .x 11 (.pick (.v 7) (.c (.bool true)) (.v 10)) <|
 .m 12 11 <|
 .n 12 (.als 13 none 2) <|
 .n 12 (.pget (some 14) (some 13) 2 5 none) <|
 .n 12 (.px (some 15) (.bin .lss (.v 14) (.c (.int .i64 (-1))))) <|
 .x 16 (.pick (.v 12) (.c (.bool true)) (.v 15)) <|
 .m 17 16 <|
 .n 17 (.als 18 none 2) <|
 .n 17 (.pget (some 19) (some 18) 2 5 none) <|
 .n 17 (.px (some 20) (.bin .geq (.v 19) (.c (.int .i64 3)))) <|
 .x 21 (.pick (.v 17) (.c (.bool true)) (.v 20)) .done) K90_5) K90_3
abbrev K90_7:C:=.seq (.pl <| .e 4 0 <|
 .x 3 (.mv (.c (.bool false))) .done) (.ret)
abbrev K90_8:C:=.cond 4 (.v 33) K90_7 (.skip)
abbrev K90_9:Pl:=.n 28 (.px (some 32) (.un .not (.v 31))) <|
 .x 33 (.pick (.v 28) (.c (.bool true)) (.v 32)) .done
abbrev K90_10:C:=.seq (.seq (.pl <| .e 4 30 <|
 .a 4 2 <|
 .g 5 4 2 0 <|
 .x 6 (.bin .lss (.v 5) (.c (.int .i64 0))) <|
 .m 7 6 <|
 .n 7 (.als 8 none 2) <|
 .n 7 (.pget (some 9) (some 8) 2 0 none) <|
 .n 7 (.px (some 10) (.mv (.v 1))) <|
 .n 7 (.px (some 11) (.bin .geq (.v 9) (.v 10))) <|
 .x 12 (.pick (.v 7) (.c (.bool true)) (.v 11)) <|
 .m 13 12 <|
 .n 13 (.als 14 none 2) <|
 .n 13 (.pget (some 15) (some 14) 2 1 none) <|
 .n 13 (.px (some 16) (.bin .lss (.v 15) (.c (.int .i64 0)))) <|
 .x 17 (.pick (.v 13) (.c (.bool true)) (.v 16)) <|
 .m 18 17 <|
 .n 18 (.als 19 none 2) <|
 .n 18 (.pget (some 20) (some 19) 2 1 none) <|
 .n 18 (.px (some 21) (.mv (.v 1))) <|
 .n 18 (.px (some 22) (.bin .geq (.v 20) (.v 21))) <|
 .x 23 (.pick (.v 18) (.c (.bool true)) (.v 22)) <|
 .m 24 23 <|
 .n 24 (.px (some 25) (.mv (.v 1))) <|
 .n 24 (.px (some 26) (.bin .gtr (.v 25) (.c (.int .i64 4)))) <|
 .x 27 (.pick (.v 24) (.c (.bool true)) (.v 26)) <|
 .m 28 27 <|
 .n 28 (.als 29 none 2) <|
 .n 28 (.pget (some 30) (some 29) 2 2 (some 3)) <|
 .st (.act (some (.v 28,false)) (.ex (some 31) (.call fn_spec_ExprValid [.v 30]))) K90_9) K90_8) K90_6
abbrev B_spec_EdgeValid:C:=.seq (.pl <| .e 4 0 <|
 .o (.pnew 2 (.v 0) []) <|
 .x 3 (.mv (.c (.bool false))) .done) K90_10
def R_spec_EdgeValid:FIR:=⟨B_spec_EdgeValid,4,[(3,none)]⟩
theorem IR_spec_EdgeValid:cfun Try.prog H_spec_EdgeValid Try.f90=some R_spec_EdgeValid:=by kernel_rfl
theorem EN_spec_EdgeValid:ENT Try.prog B_spec_EdgeValid [(3,none)] 2 4 fn_spec_EdgeValid:=fun hargs hw=>enter Try.func90 rfl IR_spec_EdgeValid hargs hw
def H_spec_ExprValid:Hint:=⟨[(0,false),(1,true),(2,false)],[]⟩
abbrev K83_1:Pl:=.y 5 (.px (some 8) (.bin .leq (.v 7) (.c (.int .i64 15)))) <|
 .x 9 (.pick (.v 5) (.v 8) (.c (.bool false))) <|
 .m 2 9 .done
abbrev K83_2:Pl:=.m 5 4 <|
 .y 5 (.pget (some 6) none 1 0 (some 3)) <|
 .st (.act (some (.v 5,true)) (.ex (some 7) (.call fn_spec_l1Count [.v 6,.c (.int .i64 6)]))) K83_1
abbrev K83_3:C:=.seq (.pl <| .e 3 7 <|
 .o (.pget (some 3) none 1 0 (some 3)) <|
 .c 4 (.call fn_spec_l1Shape [.v 3,.c (.int .i64 6)]) K83_2) (.ret)
abbrev B_spec_ExprValid:C:=.seq (.pl <| .e 3 0 <|
 .o (.pnew 1 (.v 0) []) <|
 .x 2 (.mv (.c (.bool false))) .done) K83_3
def R_spec_ExprValid:FIR:=⟨B_spec_ExprValid,3,[(2,none)]⟩
theorem IR_spec_ExprValid:cfun Try.prog H_spec_ExprValid Try.f83=some R_spec_ExprValid:=by kernel_rfl
theorem EN_spec_ExprValid:ENT Try.prog B_spec_ExprValid [(2,none)] 1 3 fn_spec_ExprValid:=fun hargs hw=>enter Try.func83 rfl IR_spec_ExprValid hargs hw
def H_spec_ParseState:Hint:=⟨[(0,false),(1,false),(2,true),(4,true),(5,false),(6,false),(7,true)],[]⟩
abbrev K6_1:C:=.seq (.pl <| .e 7 1 <|
 .o (.pget (some 7) none 6 0 (some 2)) <|
 .o (.pset none 3 0 2 (.v 7)) <|
 .x 4 (.mv (.c (.bool true))) .done) (.ret)
abbrev K6_2:C:=.seq (.pl <| .e 7 1 <|
 .x 7 (.build [.slice none 0 0,.slice none 0 0] []) <|
 .o (.pset none 3 0 2 (.v 7)) <|
 .x 4 (.mv (.c (.bool false))) .done) (.ret)
abbrev K6_3:C:=.cond 7 (.v 10) K6_2 (.skip)
abbrev K6_4:Pl:=.x 10 (.un .not (.v 9)) .done
abbrev K6_5:C:=.seq (.seq (.pl <| .e 7 4 <|
 .o (.pget (some 7) none 2 0 (some 2)) <|
 .o (.pget (some 8) none 6 0 (some 2)) <|
 .c 9 (.call fn_spec_StateValid [.v 7,.v 8]) K6_4) K6_3) K6_1
abbrev K6_6:Pl:=.x 15 (.build [.slice none 0 0,.slice none 0 0] [(0,1,.v 10),(1,1,.v 14)]) <|
 .o (.pset none 6 0 2 (.v 15)) .done
abbrev K6_7:Pl:=.st (.re 13 (.v 12) none none) <|
 .c 14 (.call fn_spec_l3Numbers [.v 13]) K6_6
abbrev K6_8:C:=.seq (.pl <| .e 7 9 <|
 .m 7 5 <|
 .x 8 (.ia 1 (.v 7) (.c (.int .i64 0))) <|
 .l 9 8 <|
 .m 11 5 <|
 .x 12 (.ia 1 (.v 11) (.c (.int .i64 1))) <|
 .l 13 12 <|
 .o (.pnew 6 (.c (.agg #[.slice none 0 0,.slice none 0 0])) []) <|
 .c 10 (.call fn_spec_l3Numbers [.v 9]) K6_7) K6_5
abbrev K6_9:C:=.seq (.pl <| .e 7 1 <|
 .x 7 (.build [.slice none 0 0,.slice none 0 0] []) <|
 .o (.pset none 3 0 2 (.v 7)) <|
 .x 4 (.mv (.c (.bool false))) .done) (.ret)
abbrev K6_10:C:=.cond 7 (.v 9) K6_9 (.skip)
abbrev K6_11:C:=.seq (.seq (.pl <| .e 7 3 <|
 .m 7 5 <|
 .x 8 (.lenV (.v 7)) <|
 .x 9 (.bin .neq (.v 8) (.c (.int .i64 2))) .done) K6_10) K6_8
abbrev K6_12:Pl:=.m 5 8 .done
abbrev K6_13:C:=.seq (.pl <| .e 7 2 <|
 .m 7 1 <|
 .c 8 (.call fn_spec_l16Cut [.v 7,.c (.int .u8 47)]) K6_12) K6_11
abbrev B_spec_ParseState:C:=.seq (.pl <| .e 7 0 <|
 .o (.pnew 2 (.v 0) []) <|
 .o (.pnew 3 (.c (.agg #[.slice none 0 0,.slice none 0 0])) []) <|
 .x 4 (.mv (.c (.bool false))) .done) K6_13
def R_spec_ParseState:FIR:=⟨B_spec_ParseState,7,[(3,some (some 2)),(4,none)]⟩
theorem IR_spec_ParseState:cfun Try.prog H_spec_ParseState Try.f6=some R_spec_ParseState:=by kernel_rfl
theorem EN_spec_ParseState:ENT Try.prog B_spec_ParseState [(3,some (some 2)),(4,none)] 2 7 fn_spec_ParseState:=fun hargs hw=>enter Try.func6 rfl IR_spec_ParseState hargs hw
def H_spec_StateValid:Hint:=⟨[(0,false),(1,false),(2,true),(3,true),(4,false),(5,false)],[[0,1,4]]⟩
abbrev K18_1:C:=.seq (.pl <| .e 6 0 <|
 .x 4 (.mv (.c (.bool true))) .done) (.ret)
abbrev K18_2:C:=.pl <| .e 6 2 <|
 .m 6 5 <|
 .x 7 (.bin .add (.v 6) (.c (.int .i64 1))) <|
 .m 5 7 .done
abbrev K18_3:C:=.seq (.pl <| .e 6 0 <|
 .x 4 (.mv (.c (.bool false))) .done) (.ret)
abbrev K18_4:C:=.cond 6 (.v 25) K18_3 (.skip)
abbrev K18_5:C:=.seq (.block 1 (.seq (.pl <| .e 6 20 <|
 .a 6 3 <|
 .g 7 6 3 0 <|
 .m 8 5 <|
 .x 9 (.ia 1 (.v 7) (.v 8)) <|
 .l 10 9 <|
 .x 11 (.bin .lss (.v 10) (.c (.int .i64 0))) <|
 .m 12 11 <|
 .n 12 (.als 13 none 3) <|
 .n 12 (.pget (some 14) (some 13) 3 0 none) <|
 .n 12 (.px (some 15) (.mv (.v 5))) <|
 .n 12 (.px (some 16) (.ia 1 (.v 14) (.v 15))) <|
 .n 12 (.ld (some 17) (.v 16) none) <|
 .n 12 (.als 18 none 2) <|
 .n 12 (.pget (some 19) (some 18) 2 1 none) <|
 .n 12 (.px (some 20) (.mv (.v 5))) <|
 .n 12 (.px (some 21) (.ia 2 (.v 19) (.v 20))) <|
 .n 12 (.px (some 22) (.fa 0 (.v 21))) <|
 .n 12 (.ld (some 23) (.v 22) none) <|
 .n 12 (.px (some 24) (.bin .geq (.v 17) (.v 23))) <|
 .x 25 (.pick (.v 12) (.c (.bool true)) (.v 24)) .done) K18_4)) K18_2
abbrev K18_6:C:=.cond 6 (.v 10) (.skip) (.exit 0)
abbrev K18_7:C:=.seq (.seq (.pl <| .e 6 5 <|
 .m 6 5 <|
 .a 7 3 <|
 .g 8 7 3 0 <|
 .x 9 (.lenV (.v 8)) <|
 .x 10 (.bin .lss (.v 6) (.v 9)) .done) K18_6) K18_5
abbrev K18_8:C:=.block 0 (.loop 6 [0,1,4] K18_7)
abbrev K18_9:C:=.seq (.seq (.pl <| .e 6 0 <|
 .x 5 (.mv (.c (.int .i64 0))) .done) K18_8) K18_1
abbrev K18_10:C:=.seq (.pl <| .e 6 0 <|
 .x 4 (.mv (.c (.bool false))) .done) (.ret)
abbrev K18_11:C:=.cond 6 (.v 23) K18_10 (.skip)
abbrev K18_12:Pl:=.n 18 (.px (some 22) (.un .not (.v 21))) <|
 .x 23 (.pick (.v 18) (.c (.bool true)) (.v 22)) .done
abbrev K18_13:Pl:=.x 8 (.un .not (.v 7)) <|
 .m 9 8 <|
 .n 9 (.als 10 none 3) <|
 .n 9 (.pget (some 11) (some 10) 3 0 none) <|
 .n 9 (.px (some 12) (.lenV (.v 11))) <|
 .n 9 (.als 13 none 2) <|
 .n 9 (.pget (some 14) (some 13) 2 1 none) <|
 .n 9 (.px (some 15) (.lenV (.v 14))) <|
 .n 9 (.px (some 16) (.bin .neq (.v 12) (.v 15))) <|
 .x 17 (.pick (.v 9) (.c (.bool true)) (.v 16)) <|
 .m 18 17 <|
 .n 18 (.als 19 none 3) <|
 .n 18 (.pget (some 20) (some 19) 3 1 none) <|
 .st (.act (some (.v 18,false)) (.ex (some 21) (.call fn_spec_l1Vals [.v 20]))) K18_12
abbrev K18_14:C:=.seq (.seq (.pl <| .e 6 18 <|
 .o (.pget (some 6) none 2 0 (some 2)) <|
 .c 7 (.call fn_spec_SystemValid [.v 6]) K18_13) K18_11) K18_9
abbrev B_spec_StateValid:C:=.seq (.pl <| .e 6 0 <|
 .o (.pnew 2 (.v 0) []) <|
 .o (.pnew 3 (.v 1) []) <|
 .x 4 (.mv (.c (.bool false))) .done) K18_14
def R_spec_StateValid:FIR:=⟨B_spec_StateValid,6,[(4,none)]⟩
theorem IR_spec_StateValid:cfun Try.prog H_spec_StateValid Try.f18=some R_spec_StateValid:=by kernel_rfl
theorem EN_spec_StateValid:ENT Try.prog B_spec_StateValid [(4,none)] 2 6 fn_spec_StateValid:=fun hargs hw=>enter Try.func18 rfl IR_spec_StateValid hargs hw
def H_spec_SystemValid:Hint:=⟨[(0,false),(1,true),(2,false),(3,false)],[[0,2]]⟩
abbrev K43_1:Pl:=.m 7 6 <|
 .y 7 (.als 8 none 1) <|
 .y 7 (.pget (some 9) (some 8) 1 1 none) <|
 .y 7 (.px (some 10) (.lenV (.v 9))) <|
 .y 7 (.px (some 11) (.bin .geq (.v 10) (.c (.int .i64 1)))) <|
 .x 12 (.pick (.v 7) (.v 11) (.c (.bool false))) <|
 .m 13 12 <|
 .y 13 (.als 14 none 1) <|
 .y 13 (.pget (some 15) (some 14) 1 1 none) <|
 .y 13 (.px (some 16) (.lenV (.v 15))) <|
 .y 13 (.px (some 17) (.bin .leq (.v 16) (.c (.int .i64 3)))) <|
 .x 18 (.pick (.v 13) (.v 17) (.c (.bool false))) <|
 .m 2 18 .done
abbrev K43_2:C:=.seq (.pl <| .e 4 15 <|
 .a 4 1 <|
 .g 5 4 1 0 <|
 .c 6 (.call fn_spec_l1Vals [.v 5]) K43_1) (.ret)
abbrev K43_3:C:=.pl <| .e 4 2 <|
 .m 4 3 <|
 .x 5 (.bin .add (.v 4) (.c (.int .i64 1))) <|
 .m 3 5 .done
abbrev K43_4:C:=.seq (.pl <| .e 4 0 <|
 .x 2 (.mv (.c (.bool false))) .done) (.ret)
abbrev K43_5:C:=.cond 4 (.v 10) K43_4 (.skip)
abbrev K43_6:Pl:=.x 10 (.un .not (.v 9)) .done
abbrev K43_7:C:=.seq (.block 1 (.seq (.pl <| .e 4 7 <|
 .a 4 1 <|
 .g 5 4 1 1 <|
 .m 6 3 <|
 .x 7 (.ia 2 (.v 5) (.v 6)) <|
 .o (.ld (some 8) (.v 7) (some 2)) <|
 .c 9 (.call fn_spec_l2Process [.v 8]) K43_6) K43_5)) K43_3
abbrev K43_8:C:=.cond 4 (.v 8) (.skip) (.exit 0)
abbrev K43_9:C:=.seq (.seq (.pl <| .e 4 5 <|
 .m 4 3 <|
 .a 5 1 <|
 .g 6 5 1 1 <|
 .x 7 (.lenV (.v 6)) <|
 .x 8 (.bin .lss (.v 4) (.v 7)) .done) K43_8) K43_7
abbrev K43_10:C:=.block 0 (.loop 4 [0,2] K43_9)
abbrev K43_11:C:=.seq (.seq (.pl <| .e 4 0 <|
 .x 3 (.mv (.c (.int .i64 0))) .done) K43_10) K43_2
abbrev B_spec_SystemValid:C:=.seq (.pl <| .e 4 0 <|
 .o (.pnew 1 (.v 0) []) <|
 .x 2 (.mv (.c (.bool false))) .done) K43_11
def R_spec_SystemValid:FIR:=⟨B_spec_SystemValid,4,[(2,none)]⟩
theorem IR_spec_SystemValid:cfun Try.prog H_spec_SystemValid Try.f43=some R_spec_SystemValid:=by kernel_rfl
theorem EN_spec_SystemValid:ENT Try.prog B_spec_SystemValid [(2,none)] 1 4 fn_spec_SystemValid:=fun hargs hw=>enter Try.func43 rfl IR_spec_SystemValid hargs hw
def H_spec_l16Cut:Hint:=⟨[(0,false),(1,false),(4,false),(5,false),(6,false),(7,false)],[[2]]⟩
abbrev K23_1:C:=.seq (.pl <| .e 6 1 <|
 .m 6 3 <|
 .m 2 6 .done) (.ret)
abbrev K23_2:C:=.pl <| .e 6 2 <|
 .m 6 5 <|
 .x 7 (.bin .add (.v 6) (.c (.int .i64 1))) <|
 .m 5 7 .done
abbrev K23_3:C:=.pl <| .e 6 2 <|
 .m 6 5 <|
 .x 7 (.bin .add (.v 6) (.c (.int .i64 1))) <|
 .m 4 7 .done
abbrev K23_4:Pl:=.m 3 12 .done
abbrev K23_5:C:=.seq (.pl <| .e 6 7 <|
 .m 6 3 <|
 .m 7 0 <|
 .m 8 4 <|
 .m 9 5 <|
 .x 10 (.sliceS (.v 7) (some (.v 8)) (some (.v 9))) <|
 .o (.psl 11 [.string ⟨#[]⟩] [(0,1,.v 10)]) <|
 .c 12 (.app 16 1 [.string ⟨#[]⟩] (.o (.v 6)) (.p 1 11)) K23_4) K23_3
abbrev K23_6:C:=.cond 6 (.v 16) K23_5 (.skip)
abbrev K23_7:C:=.seq (.block 1 (.seq (.pl <| .e 6 11 <|
 .m 6 5 <|
 .m 7 0 <|
 .x 8 (.lenS (.v 7)) <|
 .x 9 (.bin .eql (.v 6) (.v 8)) <|
 .m 10 9 <|
 .n 10 (.px (some 11) (.mv (.v 0))) <|
 .n 10 (.px (some 12) (.mv (.v 5))) <|
 .n 10 (.px (some 13) (.idxS (.v 11) (.v 12))) <|
 .n 10 (.px (some 14) (.mv (.v 1))) <|
 .n 10 (.px (some 15) (.bin .eql (.v 13) (.v 14))) <|
 .x 16 (.pick (.v 10) (.c (.bool true)) (.v 15)) .done) K23_6)) K23_2
abbrev K23_8:C:=.cond 6 (.v 9) (.skip) (.exit 0)
abbrev K23_9:C:=.seq (.seq (.pl <| .e 6 4 <|
 .m 6 5 <|
 .m 7 0 <|
 .x 8 (.lenS (.v 7)) <|
 .x 9 (.bin .leq (.v 6) (.v 8)) .done) K23_8) K23_7
abbrev K23_10:C:=.block 0 (.loop 6 [2] K23_9)
abbrev K23_11:C:=.seq (.seq (.pl <| .e 6 0 <|
 .x 5 (.mv (.c (.int .i64 0))) .done) K23_10) K23_1
abbrev K23_12:C:=.seq (.pl <| .e 6 0 <|
 .x 4 (.mv (.c (.int .i64 0))) .done) K23_11
abbrev K23_13:Pl:=.m 3 6 .done
abbrev K23_14:C:=.seq (.pl <| .e 6 1 <|
 .c 6 (.bls 1 0 [.string ⟨#[]⟩] []) K23_13) K23_12
abbrev B_spec_l16Cut:C:=.seq (.pl <| .e 6 0 <|
 .x 2 (.mv (.c (.slice none 0 0))) .done) K23_14
def R_spec_l16Cut:FIR:=⟨B_spec_l16Cut,6,[(2,none)]⟩
theorem IR_spec_l16Cut:cfun Try.prog H_spec_l16Cut Try.f23=some R_spec_l16Cut:=by kernel_rfl
theorem EN_spec_l16Cut:ENT Try.prog B_spec_l16Cut [(2,none)] 2 6 fn_spec_l16Cut:=fun hargs hw=>enter Try.func23 rfl IR_spec_l16Cut hargs hw
def H_spec_l1Arity:Hint:=⟨[(0,false),(2,false),(3,false),(4,false)],[]⟩
abbrev K99_1:C:=.seq (.pl <| .e 4 0 <|
 .x 1 (.mv (.c (.int .i64 (-1)))) .done) (.ret)
abbrev K99_2:C:=.seq (.pl <| .e 4 0 <|
 .x 1 (.mv (.c (.int .i64 2))) .done) (.ret)
abbrev K99_3:C:=.cond 4 (.v 9) K99_2 (.skip)
abbrev K99_4:C:=.seq (.seq (.pl <| .e 4 6 <|
 .m 4 0 <|
 .x 5 (.bin .geq (.v 4) (.c (.int .i64 4))) <|
 .m 6 5 <|
 .y 6 (.px (some 7) (.mv (.v 0))) <|
 .y 6 (.px (some 8) (.bin .leq (.v 7) (.c (.int .i64 9)))) <|
 .x 9 (.pick (.v 6) (.v 8) (.c (.bool false))) .done) K99_3) K99_1
abbrev K99_5:C:=.seq (.pl <| .e 4 0 <|
 .x 1 (.mv (.c (.int .i64 0))) .done) (.ret)
abbrev K99_6:C:=.seq (.pl <| .e 4 0 <|
 .x 1 (.mv (.c (.int .i64 1))) .done) (.ret)
abbrev K99_7:C:=.cond 4 (.v 5) K99_6 (.skip)
abbrev K99_8:C:=.seq (.pl <| .e 4 2 <|
 .x 4 (.bin .eql (.v 2) (.c (.int .i64 3))) <|
 .m 5 4 .done) K99_7
abbrev K99_9:C:=.cond 4 (.v 3) K99_5 K99_8
abbrev K99_10:C:=.pl <| .e 4 1 <|
 .x 4 (.bin .eql (.v 2) (.c (.int .i64 2))) <|
 .m 3 4 .done
abbrev K99_11:C:=.cond 4 (.v 3) (.skip) K99_10
abbrev K99_12:C:=.block 0 (.seq (.seq (.pl <| .e 4 1 <|
 .x 4 (.bin .eql (.v 2) (.c (.int .i64 1))) <|
 .m 3 4 .done) K99_11) K99_9)
abbrev K99_13:C:=.seq (.seq (.pl <| .e 4 0 <|
 .m 2 0 .done) K99_12) K99_4
abbrev B_spec_l1Arity:C:=.seq (.pl <| .e 4 0 <|
 .x 1 (.mv (.c (.int .i64 0))) .done) K99_13
def R_spec_l1Arity:FIR:=⟨B_spec_l1Arity,4,[(1,none)]⟩
theorem IR_spec_l1Arity:cfun Try.prog H_spec_l1Arity Try.f99=some R_spec_l1Arity:=by kernel_rfl
theorem EN_spec_l1Arity:ENT Try.prog B_spec_l1Arity [(1,none)] 1 4 fn_spec_l1Arity:=fun hargs hw=>enter Try.func99 rfl IR_spec_l1Arity hargs hw
def H_spec_l1Count:Hint:=⟨[(0,false),(1,false),(2,true),(4,false),(5,false),(6,false)],[[0,3]]⟩
abbrev K101_1:C:=.seq (.pl <| .e 6 1 <|
 .m 6 4 <|
 .m 3 6 .done) (.ret)
abbrev K101_2:C:=.pl <| .e 6 2 <|
 .m 6 5 <|
 .x 7 (.bin .add (.v 6) (.c (.int .i64 1))) <|
 .m 5 7 .done
abbrev K101_3:Pl:=.x 15 (.bin .add (.v 6) (.v 14)) <|
 .m 4 15 .done
abbrev K101_4:C:=.seq (.block 1 (.pl <| .e 6 10 <|
 .m 6 4 <|
 .a 7 2 <|
 .g 8 7 2 2 <|
 .m 9 5 <|
 .x 10 (.ia 3 (.v 8) (.v 9)) <|
 .o (.ld (some 11) (.v 10) (some 3)) <|
 .m 12 1 <|
 .x 13 (.bin .sub (.v 12) (.c (.int .i64 1))) <|
 .c 14 (.call fn_spec_l1Count [.v 11,.v 13]) K101_3)) K101_2
abbrev K101_5:C:=.cond 6 (.v 14) (.skip) (.exit 0)
abbrev K101_6:C:=.seq (.seq (.pl <| .e 6 9 <|
 .m 6 5 <|
 .a 7 2 <|
 .g 8 7 2 2 <|
 .x 9 (.lenV (.v 8)) <|
 .x 10 (.bin .lss (.v 6) (.v 9)) <|
 .m 11 10 <|
 .y 11 (.px (some 12) (.mv (.v 1))) <|
 .y 11 (.px (some 13) (.bin .gtr (.v 12) (.c (.int .i64 0)))) <|
 .x 14 (.pick (.v 11) (.v 13) (.c (.bool false))) .done) K101_5) K101_4
abbrev K101_7:C:=.block 0 (.loop 6 [0,3] K101_6)
abbrev K101_8:C:=.seq (.seq (.pl <| .e 6 0 <|
 .x 5 (.mv (.c (.int .i64 0))) .done) K101_7) K101_1
abbrev K101_9:C:=.seq (.pl <| .e 6 0 <|
 .x 4 (.mv (.c (.int .i64 1))) .done) K101_8
abbrev B_spec_l1Count:C:=.seq (.pl <| .e 6 0 <|
 .o (.pnew 2 (.v 0) []) <|
 .x 3 (.mv (.c (.int .i64 0))) .done) K101_9
def R_spec_l1Count:FIR:=⟨B_spec_l1Count,6,[(3,none)]⟩
theorem IR_spec_l1Count:cfun Try.prog H_spec_l1Count Try.f101=some R_spec_l1Count:=by kernel_rfl
theorem EN_spec_l1Count:ENT Try.prog B_spec_l1Count [(3,none)] 2 6 fn_spec_l1Count:=fun hargs hw=>enter Try.func101 rfl IR_spec_l1Count hargs hw
def H_spec_l1Shape:Hint:=⟨[(0,false),(1,false),(2,true),(4,false),(5,false),(6,false),(19,false)],[[0,3,4,6]]⟩
abbrev K100_1:C:=.seq (.pl <| .e 7 0 <|
 .x 3 (.mv (.c (.bool true))) .done) (.ret)
abbrev K100_2:C:=.pl <| .e 7 2 <|
 .m 7 5 <|
 .x 8 (.bin .add (.v 7) (.c (.int .i64 1))) <|
 .m 5 8 .done
abbrev K100_3:C:=.seq (.pl <| .e 7 0 <|
 .x 3 (.mv (.c (.bool false))) .done) (.ret)
abbrev K100_4:C:=.cond 7 (.v 15) K100_3 (.skip)
abbrev K100_5:Pl:=.x 15 (.un .not (.v 14)) .done
abbrev K100_6:C:=.seq (.block 2 (.seq (.pl <| .e 7 9 <|
 .a 7 2 <|
 .g 8 7 2 2 <|
 .m 9 5 <|
 .x 10 (.ia 3 (.v 8) (.v 9)) <|
 .o (.ld (some 11) (.v 10) (some 3)) <|
 .m 12 1 <|
 .x 13 (.bin .sub (.v 12) (.c (.int .i64 1))) <|
 .c 14 (.call fn_spec_l1Shape [.v 11,.v 13]) K100_5) K100_4)) K100_2
abbrev K100_7:C:=.cond 7 (.v 11) (.skip) (.exit 1)
abbrev K100_8:C:=.seq (.seq (.pl <| .e 7 5 <|
 .m 7 5 <|
 .a 8 2 <|
 .g 9 8 2 2 <|
 .x 10 (.lenV (.v 9)) <|
 .x 11 (.bin .lss (.v 7) (.v 10)) .done) K100_7) K100_6
abbrev K100_9:C:=.block 1 (.loop 7 [0,3,4,6] K100_8)
abbrev K100_10:C:=.seq (.seq (.pl <| .e 7 0 <|
 .x 5 (.mv (.c (.int .i64 0))) .done) K100_9) K100_1
abbrev K100_11:C:=.seq (.pl <| .e 7 0 <|
 .x 3 (.mv (.c (.bool false))) .done) (.ret)
abbrev K100_12:C:=.cond 7 (.v 15) K100_11 (.skip)
abbrev K100_13:C:=.seq (.seq (.pl <| .e 7 9 <|
 .a 7 2 <|
 .g 8 7 2 1 <|
 .x 9 (.bin .lss (.v 8) (.c (.int .i64 0))) <|
 .m 10 9 <|
 .n 10 (.als 11 none 2) <|
 .n 10 (.pget (some 12) (some 11) 2 1 none) <|
 .n 10 (.px (some 13) (.mv (.v 4))) <|
 .n 10 (.px (some 14) (.bin .gtr (.v 12) (.v 13))) <|
 .x 15 (.pick (.v 10) (.c (.bool true)) (.v 14)) .done) K100_12) K100_10
abbrev K100_14:C:=.pl <| .e 7 0 <|
 .x 4 (.mv (.c (.int .i64 3))) .done
abbrev K100_15:C:=.pl <| .e 7 0 <|
 .x 4 (.mv (.c (.int .i64 2))) .done
abbrev K100_16:C:=.cond 7 (.v 8) K100_15 (.skip)
abbrev K100_17:C:=.seq (.pl <| .e 7 2 <|
 .x 7 (.bin .eql (.v 6) (.c (.int .i64 2))) <|
 .m 8 7 .done) K100_16
abbrev K100_18:C:=.cond 7 (.v 8) K100_14 K100_17
abbrev K100_19:C:=.block 0 (.seq (.pl <| .e 7 2 <|
 .x 7 (.bin .eql (.v 6) (.c (.int .i64 1))) <|
 .m 8 7 .done) K100_18)
abbrev K100_20:C:=.seq (.seq (.pl <| .e 7 1 <|
 .a 7 2 <|
 .g 6 7 2 0 .done) K100_19) K100_13
abbrev K100_21:C:=.seq (.pl <| .e 7 0 <|
 .x 4 (.mv (.c (.int .i64 0))) .done) K100_20
abbrev K100_22:C:=.seq (.pl <| .e 7 0 <|
 .x 3 (.mv (.c (.bool false))) .done) (.ret)
abbrev K100_23:C:=.cond 7 (.v 17) K100_22 (.skip)
abbrev K100_24:Pl:=.n 9 (.px (some 16) (.bin .neq (.v 12) (.v 15))) <|
 .x 17 (.pick (.v 9) (.c (.bool true)) (.v 16)) .done
abbrev K100_25:C:=.seq (.seq (.pl <| .e 7 11 <|
 .m 7 1 <|
 .x 8 (.bin .lss (.v 7) (.c (.int .i64 1))) <|
 .m 9 8 <|
 .n 9 (.als 10 none 2) <|
 .n 9 (.pget (some 11) (some 10) 2 2 none) <|
 .n 9 (.px (some 12) (.lenV (.v 11))) <|
 .n 9 (.als 13 none 2) <|
 .n 9 (.pget (some 14) (some 13) 2 0 none) <|
 .st (.act (some (.v 9,false)) (.ex (some 15) (.call fn_spec_l1Arity [.v 14]))) K100_24) K100_23) K100_21
abbrev B_spec_l1Shape:C:=.seq (.pl <| .e 7 0 <|
 .o (.pnew 2 (.v 0) []) <|
 .x 3 (.mv (.c (.bool false))) .done) K100_25
def R_spec_l1Shape:FIR:=⟨B_spec_l1Shape,7,[(3,none)]⟩
theorem IR_spec_l1Shape:cfun Try.prog H_spec_l1Shape Try.f100=some R_spec_l1Shape:=by kernel_rfl
theorem EN_spec_l1Shape:ENT Try.prog B_spec_l1Shape [(3,none)] 2 7 fn_spec_l1Shape:=fun hargs hw=>enter Try.func100 rfl IR_spec_l1Shape hargs hw
def H_spec_l1Vals:Hint:=⟨[(0,false),(2,false),(3,false)],[[1]]⟩
abbrev K44_1:C:=.seq (.pl <| .e 3 3 <|
 .m 3 0 <|
 .x 4 (.lenV (.v 3)) <|
 .x 5 (.bin .eql (.v 4) (.c (.int .i64 3))) <|
 .m 1 5 .done) (.ret)
abbrev K44_2:C:=.pl <| .e 3 2 <|
 .m 3 2 <|
 .x 4 (.bin .add (.v 3) (.c (.int .i64 1))) <|
 .m 2 4 .done
abbrev K44_3:C:=.seq (.pl <| .e 3 0 <|
 .x 1 (.mv (.c (.bool false))) .done) (.ret)
abbrev K44_4:C:=.cond 3 (.v 14) K44_3 (.skip)
abbrev K44_5:C:=.seq (.block 1 (.seq (.pl <| .e 3 12 <|
 .m 3 0 <|
 .m 4 2 <|
 .x 5 (.ia 1 (.v 3) (.v 4)) <|
 .l 6 5 <|
 .x 7 (.bin .lss (.v 6) (.c (.int .i64 0))) <|
 .m 8 7 <|
 .n 8 (.px (some 9) (.mv (.v 0))) <|
 .n 8 (.px (some 10) (.mv (.v 2))) <|
 .n 8 (.px (some 11) (.ia 1 (.v 9) (.v 10))) <|
 .n 8 (.ld (some 12) (.v 11) none) <|
 .n 8 (.px (some 13) (.bin .gtr (.v 12) (.c (.int .i64 3)))) <|
 .x 14 (.pick (.v 8) (.c (.bool true)) (.v 13)) .done) K44_4)) K44_2
abbrev K44_6:C:=.cond 3 (.v 6) (.skip) (.exit 0)
abbrev K44_7:C:=.seq (.seq (.pl <| .e 3 4 <|
 .m 3 2 <|
 .m 4 0 <|
 .x 5 (.lenV (.v 4)) <|
 .x 6 (.bin .lss (.v 3) (.v 5)) .done) K44_6) K44_5
abbrev K44_8:C:=.block 0 (.loop 3 [1] K44_7)
abbrev K44_9:C:=.seq (.seq (.pl <| .e 3 0 <|
 .x 2 (.mv (.c (.int .i64 0))) .done) K44_8) K44_1
abbrev B_spec_l1Vals:C:=.seq (.pl <| .e 3 0 <|
 .x 1 (.mv (.c (.bool false))) .done) K44_9
def R_spec_l1Vals:FIR:=⟨B_spec_l1Vals,3,[(1,none)]⟩
theorem IR_spec_l1Vals:cfun Try.prog H_spec_l1Vals Try.f44=some R_spec_l1Vals:=by kernel_rfl
theorem EN_spec_l1Vals:ENT Try.prog B_spec_l1Vals [(1,none)] 1 3 fn_spec_l1Vals:=fun hargs hw=>enter Try.func44 rfl IR_spec_l1Vals hargs hw
def H_spec_l2None:Hint:=⟨[(0,false),(1,true),(2,false)],[]⟩
abbrev K106_1:C:=.seq (.pl <| .e 3 14 <|
 .a 3 1 <|
 .g 4 3 1 0 <|
 .x 5 (.bin .eql (.v 4) (.c (.int .i64 0))) <|
 .m 6 5 <|
 .y 6 (.als 7 none 1) <|
 .y 6 (.pget (some 8) (some 7) 1 1 none) <|
 .y 6 (.px (some 9) (.bin .eql (.v 8) (.c (.int .i64 0)))) <|
 .x 10 (.pick (.v 6) (.v 9) (.c (.bool false))) <|
 .m 11 10 <|
 .y 11 (.als 12 none 1) <|
 .y 11 (.pget (some 13) (some 12) 1 2 none) <|
 .y 11 (.px (some 14) (.lenV (.v 13))) <|
 .y 11 (.px (some 15) (.bin .eql (.v 14) (.c (.int .i64 0)))) <|
 .x 16 (.pick (.v 11) (.v 15) (.c (.bool false))) <|
 .m 2 16 .done) (.ret)
abbrev B_spec_l2None:C:=.seq (.pl <| .e 3 0 <|
 .o (.pnew 1 (.v 0) []) <|
 .x 2 (.mv (.c (.bool false))) .done) K106_1
def R_spec_l2None:FIR:=⟨B_spec_l2None,3,[(2,none)]⟩
theorem IR_spec_l2None:cfun Try.prog H_spec_l2None Try.f106=some R_spec_l2None:=by kernel_rfl
theorem EN_spec_l2None:ENT Try.prog B_spec_l2None [(2,none)] 1 3 fn_spec_l2None:=fun hargs hw=>enter Try.func106 rfl IR_spec_l2None hargs hw
def H_spec_l2Process:Hint:=⟨[(0,false),(1,true),(2,false),(3,false)],[[0,2]]⟩
abbrev K70_1:C:=.seq (.pl <| .e 4 14 <|
 .a 4 1 <|
 .g 5 4 1 0 <|
 .x 6 (.bin .geq (.v 5) (.c (.int .i64 1))) <|
 .m 7 6 <|
 .y 7 (.als 8 none 1) <|
 .y 7 (.pget (some 9) (some 8) 1 0 none) <|
 .y 7 (.px (some 10) (.bin .leq (.v 9) (.c (.int .i64 4)))) <|
 .x 11 (.pick (.v 7) (.v 10) (.c (.bool false))) <|
 .m 12 11 <|
 .y 12 (.als 13 none 1) <|
 .y 12 (.pget (some 14) (some 13) 1 1 none) <|
 .y 12 (.px (some 15) (.lenV (.v 14))) <|
 .y 12 (.px (some 16) (.bin .leq (.v 15) (.c (.int .i64 6)))) <|
 .x 17 (.pick (.v 12) (.v 16) (.c (.bool false))) <|
 .m 2 17 .done) (.ret)
abbrev K70_2:C:=.pl <| .e 4 2 <|
 .m 4 3 <|
 .x 5 (.bin .add (.v 4) (.c (.int .i64 1))) <|
 .m 3 5 .done
abbrev K70_3:C:=.seq (.pl <| .e 4 0 <|
 .x 2 (.mv (.c (.bool false))) .done) (.ret)
abbrev K70_4:C:=.cond 4 (.v 12) K70_3 (.skip)
abbrev K70_5:Pl:=.x 12 (.un .not (.v 11)) .done
abbrev K70_6:C:=.seq (.block 1 (.seq (.pl <| .e 4 9 <|
 .a 4 1 <|
 .g 5 4 1 1 <|
 .m 6 3 <|
 .x 7 (.ia 10 (.v 5) (.v 6)) <|
 .o (.ld (some 8) (.v 7) (some 10)) <|
 .a 9 1 <|
 .g 10 9 1 0 <|
 .c 11 (.call fn_spec_EdgeValid [.v 8,.v 10]) K70_5) K70_4)) K70_2
abbrev K70_7:C:=.cond 4 (.v 8) (.skip) (.exit 0)
abbrev K70_8:C:=.seq (.seq (.pl <| .e 4 5 <|
 .m 4 3 <|
 .a 5 1 <|
 .g 6 5 1 1 <|
 .x 7 (.lenV (.v 6)) <|
 .x 8 (.bin .lss (.v 4) (.v 7)) .done) K70_7) K70_6
abbrev K70_9:C:=.block 0 (.loop 4 [0,2] K70_8)
abbrev K70_10:C:=.seq (.seq (.pl <| .e 4 0 <|
 .x 3 (.mv (.c (.int .i64 0))) .done) K70_9) K70_1
abbrev B_spec_l2Process:C:=.seq (.pl <| .e 4 0 <|
 .o (.pnew 1 (.v 0) []) <|
 .x 2 (.mv (.c (.bool false))) .done) K70_10
def R_spec_l2Process:FIR:=⟨B_spec_l2Process,4,[(2,none)]⟩
theorem IR_spec_l2Process:cfun Try.prog H_spec_l2Process Try.f70=some R_spec_l2Process:=by kernel_rfl
theorem EN_spec_l2Process:ENT Try.prog B_spec_l2Process [(2,none)] 1 4 fn_spec_l2Process:=fun hargs hw=>enter Try.func70 rfl IR_spec_l2Process hargs hw
def H_spec_l3Numbers:Hint:=⟨[(0,false),(2,false),(3,false),(4,false)],[[1]]⟩
abbrev K24_1:C:=.seq (.pl <| .e 4 1 <|
 .m 4 2 <|
 .m 1 4 .done) (.ret)
abbrev K24_2:C:=.pl <| .e 4 2 <|
 .m 4 3 <|
 .x 5 (.bin .add (.v 4) (.c (.int .i64 1))) <|
 .m 3 5 .done
abbrev K24_3:Pl:=.m 2 11 .done
abbrev K24_4:C:=.seq (.block 1 (.pl <| .e 4 8 <|
 .m 4 2 <|
 .m 5 0 <|
 .m 6 3 <|
 .x 7 (.idxS (.v 5) (.v 6)) <|
 .x 8 (.conv .i64 (.v 7)) <|
 .x 9 (.bin .sub (.v 8) (.c (.int .i64 48))) <|
 .o (.psl 10 [.int .i64 0] [(0,1,.v 9)]) <|
 .c 11 (.app 8 1 [.int .i64 0] (.o (.v 4)) (.p 1 10)) K24_3)) K24_2
abbrev K24_5:C:=.cond 4 (.v 7) (.skip) (.exit 0)
abbrev K24_6:C:=.seq (.seq (.pl <| .e 4 4 <|
 .m 4 3 <|
 .m 5 0 <|
 .x 6 (.lenS (.v 5)) <|
 .x 7 (.bin .lss (.v 4) (.v 6)) .done) K24_5) K24_4
abbrev K24_7:C:=.block 0 (.loop 4 [1] K24_6)
abbrev K24_8:C:=.seq (.seq (.pl <| .e 4 0 <|
 .x 3 (.mv (.c (.int .i64 0))) .done) K24_7) K24_1
abbrev K24_9:Pl:=.m 2 4 .done
abbrev K24_10:C:=.seq (.pl <| .e 4 1 <|
 .c 4 (.bls 1 0 [.int .i64 0] []) K24_9) K24_8
abbrev B_spec_l3Numbers:C:=.seq (.pl <| .e 4 0 <|
 .x 1 (.mv (.c (.slice none 0 0))) .done) K24_10
def R_spec_l3Numbers:FIR:=⟨B_spec_l3Numbers,4,[(1,none)]⟩
theorem IR_spec_l3Numbers:cfun Try.prog H_spec_l3Numbers Try.f24=some R_spec_l3Numbers:=by kernel_rfl
theorem EN_spec_l3Numbers:ENT Try.prog B_spec_l3Numbers [(1,none)] 1 4 fn_spec_l3Numbers:=fun hargs hw=>enter Try.func24 rfl IR_spec_l3Numbers hargs hw
def H_strings_Cut:Hint:=⟨[(0,false),(1,false),(4,false),(5,false),(6,false)],[]⟩
abbrev K27_1:Pl:=.x 8 (.extract 0 (.v 7)) <|
 .x 9 (.extract 1 (.v 7)) <|
 .x 10 (.extract 2 (.v 7)) <|
 .m 2 8 <|
 .m 3 9 <|
 .m 4 10 .done
abbrev K27_2:C:=.seq (.pl <| .e 5 6 <|
 .m 5 0 <|
 .m 6 1 <|
 .c 7 (.call fn_internal_stringslite_Cut [.v 5,.v 6]) K27_1) (.ret)
abbrev B_strings_Cut:C:=.seq (.pl <| .e 5 0 <|
 .x 2 (.mv (.c (.string ⟨#[]⟩))) <|
 .x 3 (.mv (.c (.string ⟨#[]⟩))) <|
 .x 4 (.mv (.c (.bool false))) .done) K27_2
def R_strings_Cut:FIR:=⟨B_strings_Cut,5,[(2,none),(3,none),(4,none)]⟩
theorem IR_strings_Cut:cfun Try.prog H_strings_Cut Try.f27=some R_strings_Cut:=by kernel_rfl
theorem EN_strings_Cut:ENT Try.prog B_strings_Cut [(2,none),(3,none),(4,none)] 2 5 fn_strings_Cut:=fun hargs hw=>enter Try.func27 rfl IR_strings_Cut hargs hw
def VOk (vs:List Int):Prop:=vs.length=3∧∀x∈vs,0≤x∧x≤3
theorem VOk.len {vs:List Int}(h:VOk vs):vs.length=3:=h.1
theorem VOk.at {vs:List Int}(h:VOk vs) {i:Nat}(hi:i<vs.length):0≤vs[i]∧vs[i]≤3:=h.2 _ (List.getElem_mem hi)
noncomputable instance {vs:List Int}:Decidable (VOk vs):=Classical.propDecidable _
namespace Exq
def arity (k:Int):Int:=if k=1∨k=2 then 0 else if k=3 then 1 else if 4≤k∧k≤9 then 2 else -1
def most (k:Int):Int:=if k=1 then 3 else if k=2 then 2 else 0
structure Nd (x:Exq):Prop where
 ar:(x.kids.length:Int)=arity x.kind
 lo:0≤x.val
 hi:x.val≤most x.kind
def Shp:Nat→Exq→Prop
 | 0,_=>False
 | n+1,x=>x.Nd∧∀y∈x.kids,Shp n y
mutual
def nod:Exq→Nat
 | .mk _ _ l=>1+nods l
def nods:List Exq→Nat
 | []=>0
 | x::l=>x.nod+nods l
end
theorem nod_eq (x:Exq):x.nod=1+nods x.kids:=by cases x;rfl
theorem nods_take:∀{l:List Exq}{i:Nat}(hi:i<l.length),nods (l.take (i+1))=nods (l.take i)+l[i].nod
 | x::l,0,_=>by simp[nods]
 | x::l,i+1,hi=>by
  have:=nods_take (l:=l) (i:=i) (by simpa using hi)
  simp only[List.take_succ_cons,nods,List.getElem_cons_succ,this];omega
theorem nods_le:∀(l:List Exq) (i:Nat),nods (l.take i)≤nods l
 | [],i=>by simp
 | x::l,0=>by simp[nods]
 | x::l,i+1=>by
  simp only[List.take_succ_cons,nods]
  have:=nods_le l i
  omega
def Ok (x:Exq):Prop:=x.Shp 6∧x.nod≤15
noncomputable instance {x:Exq}:Decidable x.Ok:=Classical.propDecidable _
def zero:Exq:=.mk 0 0 []
theorem Nd.kind {x:Exq}(h:x.Nd):1≤x.kind∧x.kind≤9:=by
 have:=h.ar
 unfold arity at this
 split at this<;>(try split at this)<;>(try split at this)<;>omega
theorem Shp.nd {n:Nat}{x:Exq}(h:x.Shp n):x.Nd:=by
 cases n with
 | zero=>exact h.elim
 | succ n=>exact h.1
theorem Shp.kid {n:Nat}{x:Exq}(h:x.Shp (n+1)) {i:Nat}(hi:i<x.kids.length):x.kids[i].Shp n:=h.2 _ (List.getElem_mem hi)
theorem Shp.bnd:∀{n:Nat}{x:Exq},x.Shp n→x.nod<2^n
 | 0,_,h=>h.elim
 | n+1,x,h=>by
  have h1:=h.1.ar
  have h2:x.kids.length≤2:=by
   unfold arity at h1
   split at h1<;>(try split at h1)<;>(try split at h1)<;>omega
  have h3:nods x.kids+x.kids.length≤x.kids.length*2^n:=by
   have key:∀l:List Exq,(∀y∈l,Shp n y)→nods l+l.length≤l.length*2^n:=by
    intro l
    induction l with
    | nil=>intro _;simp[nods]
    | cons y l ih=>
     intro hl
     have g1:=Shp.bnd (hl y (by simp))
     have g2:=ih fun z hz=>hl z (by simp[hz])
     simp only[nods,List.length_cons,Nat.add_mul]
     omega
   exact key _ h.2
  have h4:x.kids.length*2^n≤2*2^n:=Nat.mul_le_mul_right _ h2
  have h5:0<2^n:=Nat.pow_pos (by decide)
  rw[nod_eq,Nat.pow_succ]
  by_cases h6:x.kids.length=0
  ·have:x.kids=[]:=List.length_eq_zero_iff.1 h6
   rw[this];simp only[nods];omega
  ·rcases (show x.kids.length=1∨x.kids.length=2 by omega) with h7 | h7<;>rw[h7] at h3 h4<;>omega
def tr (p:Prop) [Decidable p]:Int:=if p then 1 else 0
def evk (vs:List Int) (k v a b:Int):Int:=
 if k=1 then v else if k=2 then vs.getD v.toNat 0 else if k=3 then tr (a=0) else if k=4 then tr (a≠0∧b≠0) else if k=5 then tr (a≠0∨b≠0)
 else if k=6 then tr (a=b) else if k=7 then tr (a<b) else if k=8 then (a+b).tmod 4 else (a-b+4).tmod 4
mutual
def ev (vs:List Int):Exq→Int
 | .mk k v l=>evk vs k v ((evs vs l).getD 0 0) ((evs vs l).getD 1 0)
def evs (vs:List Int):List Exq→List Int
 | []=>[]
 | x::l=>x.ev vs::evs vs l
end
def kev (x:Exq) (vs:List Int) (j:Nat):Int:=(x.kids.map (ev vs)).getD j 0
mutual
def mkv:Exq→List Bool→List Bool
 | .mk k v l,M=>mkvs l (if k=2 then M.set v.toNat true else M)
def mkvs:List Exq→List Bool→List Bool
 | [],M=>M
 | x::l,M=>mkvs l (x.mkv M)
end
end Exq
structure Ed.Ok (e:Ed) (n:Int):Prop where
 n1:1≤n
 n4:n≤4
 f0:0≤e.frm
 f1:e.frm<n
 t0:0≤e.to
 t1:e.to<n
 gd:e.guard.Ok
 v0:-1≤e.var
 v1:e.var≤2
 vl:(0≤e.var∧e.value.Ok)∨(e.var<0∧e.value=Exq.zero)
 s0:-2≤e.sync
 s1:e.sync≤2
noncomputable instance {e:Ed}{n:Int}:Decidable (e.Ok n):=Classical.propDecidable _
structure Pr.Ok (p:Pr):Prop where
 n1:1≤p.locs
 n4:p.locs≤4
 el:p.edges.length≤6
 ed:∀e∈p.edges,e.Ok p.locs
noncomputable instance {p:Pr}:Decidable p.Ok:=Classical.propDecidable _
structure Sy.Ok (s:Sy):Prop where
 vs:VOk s.init
 p1:1≤s.procs.length
 p3:s.procs.length≤3
 pr:∀p∈s.procs,p.Ok
noncomputable instance {s:Sy}:Decidable s.Ok:=Classical.propDecidable _
theorem Sy.Ok.at {s:Sy}(h:s.Ok) {i:Nat}(hi:i<s.procs.length):s.procs[i].Ok:=h.pr _ (List.getElem_mem hi)
theorem Pr.Ok.at {p:Pr}(h:p.Ok) {i:Nat}(hi:i<p.edges.length):p.edges[i].Ok p.locs:=h.ed _ (List.getElem_mem hi)
structure LOk (l:List Exq):Prop where
 len:l.length=3
 ok:∀x∈l,x.Ok
noncomputable instance {l:List Exq}:Decidable (LOk l):=Classical.propDecidable _
def relL (labels:List Exq) (M:List Bool):List Bool:=labels.foldl (fun M x=>x.mkv M) M
def relG (s:Sy) (M:List Bool):List Bool:=s.procs.foldl (fun M p=>p.edges.foldl (fun M e=>e.guard.mkv M) M) M
def Ed.relv (M:List Bool) (e:Ed):List Bool:=if 0≤e.var∧M.getD e.var.toNat false=true then e.value.mkv M else M
def relV (s:Sy) (M:List Bool):List Bool:=s.procs.foldl (fun M p=>p.edges.foldl Ed.relv M) M
def Sy.rel (s:Sy) (labels:List Exq):List Bool:=relV s (relV s (relV s (relG s (relL labels [false,false,false]))))
def Tx (l:List UInt8):ByteArray:=⟨l.toArray⟩
theorem Tx_size {l:List UInt8}:(Tx l).size=l.length:=rfl
theorem Tx_add {a b:List UInt8}:Tx a++Tx b=Tx (a++b):=by
 apply ByteArray.ext
 simp[Tx]
theorem Tx_ext {l:List UInt8}{i j:Nat}:(Tx l).extract i j=Tx ((l.drop i).take (j-i)):=by
 apply ByteArray.ext
 simp[Tx]
def spl (c:UInt8):List UInt8→List (List UInt8)
 | []=>[[]]
 | x::l=>if x=c then []::spl c l else (x::(spl c l).headD [])::(spl c l).tail
theorem spl_ne {c:UInt8}{l:List UInt8}:spl c l≠[]:=by
 cases l with
 | nil=>simp[spl]
 | cons x l=>unfold spl;split<;>simp
theorem spl_no {c:UInt8}:∀{l:List UInt8},c∉l→spl c l=[l]
 | [],_=>rfl
 | x::l,h=>by
  have h1:¬x=c:=fun e=>h (by simp[e])
  rw[spl,if_neg h1,spl_no (fun hh=>h (by simp[hh]))]
  rfl
theorem spl_app {c:UInt8}:∀{l r:List UInt8},c∉l→spl c (l++c::r)=l::spl c r
 | [],r,_=>by simp[spl]
 | x::l,r,h=>by
  have h1:¬x=c:=fun e=>h (by simp[e])
  rw[List.cons_append,spl,if_neg h1,spl_app (fun hh=>h (by simp[hh]))]
  rfl
def jn (c:UInt8):List (List UInt8)→List UInt8
 | []=>[]
 | [w]=>w
 | w::r=>w++c::jn c r
theorem jn_cons {c:UInt8}{w:List UInt8}{r:List (List UInt8)}(h:r≠[]):jn c (w::r)=w++c::jn c r:=by
 cases r with
 | nil=>simp at h
 | cons x r=>rfl
theorem spl_jn {c:UInt8}:∀{ws:List (List UInt8)},ws≠[]→(∀w∈ws,c∉w)→spl c (jn c ws)=ws
 | [],h,_=>by simp at h
 | [w],_,h=>by rw[jn,spl_no (h w (by simp))]
 | w::x::r,_,h=>by
  rw[jn_cons (by simp),spl_app (h w (by simp)),spl_jn (by simp) (fun y hy=>h y (List.mem_cons_of_mem _ hy))]
theorem jn_spl {c:UInt8}:∀l:List UInt8,jn c (spl c l)=l
 | []=>rfl
 | x::l=>by
  have ih:=jn_spl (c:=c) l
  have hne:=spl_ne (c:=c) (l:=l)
  rw[spl]
  split
  ·rename_i h
   rw[jn_cons hne,ih,h];rfl
  ·cases e:spl c l with
   | nil=>exact absurd e hne
   | cons w r=>
    rw[e] at ih
    cases r with
    | nil=>simpa[jn] using ih
    | cons y r=>
     rw[jn_cons (by simp)] at ih
     simp only[List.headD_cons,List.tail_cons]
     rw[jn_cons (by simp),List.cons_append,ih]
def dg (n:Int):UInt8:=UInt8.ofNat (48+n.toNat)
theorem dg_nat {n:Int}(h0:0≤n) (h9:n≤9):(dg n).toNat=48+n.toNat:=by
 unfold dg
 rw[UInt8.toNat_ofNat']
 omega
theorem dg_int {n:Int}(h0:0≤n) (h9:n≤9):((dg n).toNat:Int)-48=n:=by
 rw[dg_nat h0 h9];omega
theorem dg_ne {n:Int}(h0:0≤n) (h9:n≤9) {c:UInt8}(hc:c.toNat<48∨57<c.toNat):dg n≠c:=fun e=>by
 have:=dg_nat h0 h9
 rw[e] at this
 omega
namespace Exq
def sg (k:Int):UInt8:=if k=4 then 38 else if k=5 then 124 else if k=6 then 61 else if k=7 then 60 else if k=8 then 43 else 45
mutual
def fmt:Exq→List UInt8
 | .mk k v l=>if k=1 then [dg v] else if k=2 then [UInt8.ofNat (120+v.toNat)] else if k=3 then 33::(fmts l).getD 0 [] else 40::((fmts l).getD 0 []++sg k::((fmts l).getD 1 []++[41]))
def fmts:List Exq→List (List UInt8)
 | []=>[]
 | x::l=>fmt x::fmts l
end
theorem fmts_eq:∀l:List Exq,fmts l=l.map fmt
 | []=>rfl
 | x::l=>by rw[fmts,fmts_eq l];rfl
theorem fmt_eq (x:Exq):x.fmt=if x.kind=1 then [dg x.val] else if x.kind=2 then [UInt8.ofNat (120+x.val.toNat)] else if x.kind=3 then 33::(x.kids.map fmt).getD 0 [] else 40::((x.kids.map fmt).getD 0 []++sg x.kind::((x.kids.map fmt).getD 1 []++[41])):=by
 cases x with
 | mk k v l=>rw[fmt,fmts_eq];rfl
theorem fmt1 {x:Exq}(h:x.kind=1):x.fmt=[dg x.val]:=by rw[fmt_eq,if_pos h]
theorem fmt2 {x:Exq}(h:x.kind=2):x.fmt=[UInt8.ofNat (120+x.val.toNat)]:=by rw[fmt_eq,if_neg (by omega),if_pos h]
theorem fmt3 {x:Exq}(h:x.kind=3) (hl:0<x.kids.length):x.fmt=(33:UInt8)::x.kids[0].fmt:=by rw[fmt_eq,if_neg (by omega),if_neg (by omega),if_pos h];simp[hl]
theorem fmt4 {x:Exq}(h:4≤x.kind) (hl:1<x.kids.length):x.fmt=(40:UInt8)::(x.kids[0].fmt++sg x.kind::(x.kids[1].fmt++[41])):=by
 rw[fmt_eq,if_neg (by omega),if_neg (by omega),if_neg (by omega)]
 have h0:0<x.kids.length:=by omega
 simp[hl,h0]
theorem Nd.k3 {x:Exq}(h:x.Nd) (hk:x.kind=3):x.kids.length=1:=by
 have:=h.ar
 rw[arity,if_neg (by omega),if_pos hk] at this
 omega
theorem Nd.k4 {x:Exq}(h:x.Nd) (hk:4≤x.kind):x.kids.length=2:=by
 have:=h.ar
 have:=h.kind
 rw[arity,if_neg (by omega),if_neg (by omega),if_pos (by omega)] at *
 omega
theorem Nd.hi1 {x:Exq}(h:x.Nd) (hk:x.kind=1):x.val≤3:=by have:=h.hi;rw[most,if_pos hk] at this;exact this
theorem Nd.hi2 {x:Exq}(h:x.Nd) (hk:x.kind=2):x.val≤2:=by have:=h.hi;rw[most,if_neg (by omega),if_pos hk] at this;exact this
theorem Nd.cases {x:Exq}(h:x.Nd):x.kind=1∨x.kind=2∨x.kind=3∨(4≤x.kind∧x.kind≤9):=by have:=h.kind;omega
def fbs:List UInt8:=[48,49,50,51,120,121,122,33,40,41,38,124,61,60,43,45]
theorem sg_mem {k:Int}:sg k∈fbs:=by
 unfold sg fbs
 split<;>(try split)<;>(try split)<;>(try split)<;>(try split)<;>simp
theorem dg_mem {n:Int}(h0:0≤n) (h3:n≤3):dg n∈fbs:=by
 obtain rfl | rfl | rfl | rfl:n=0∨n=1∨n=2∨n=3:=by omega
 all_goals decide
theorem vr_mem {n:Int}(h0:0≤n) (h3:n≤2):UInt8.ofNat (120+n.toNat)∈fbs:=by
 obtain rfl | rfl | rfl:n=0∨n=1∨n=2:=by omega
 all_goals decide
theorem fmt_mem:∀{n:Nat}{x:Exq},x.Shp n→∀c∈x.fmt,c∈fbs
 | 0,_,h=>h.elim
 | n+1,x,h=>by
  intro c hc
  have hn:=h.nd
  rcases hn.cases with k | k | k | k
  ·rw[fmt1 k,List.mem_singleton] at hc
   rw[hc];exact dg_mem hn.lo (hn.hi1 k)
  ·rw[fmt2 k,List.mem_singleton] at hc
   rw[hc];exact vr_mem hn.lo (hn.hi2 k)
  ·have hl:=hn.k3 k
   rw[fmt3 k (by omega)] at hc
   rcases List.mem_cons.1 hc with rfl | hc
   ·decide
   ·exact fmt_mem (h.kid (by omega)) c hc
  ·have hl:=hn.k4 k.1
   rw[fmt4 k.1 (by omega)] at hc
   simp only[List.mem_cons,List.mem_append,List.not_mem_nil,or_false] at hc
   rcases hc with rfl | hc | rfl | hc | rfl
   ·decide
   ·exact fmt_mem (h.kid (by omega)) c hc
   ·exact sg_mem
   ·exact fmt_mem (h.kid (by omega)) c hc
   ·decide
theorem Ok.fmt_no {x:Exq}(h:x.Ok) {c:UInt8}(hc:c∉fbs):c∉x.fmt:=fun hh=>hc (fmt_mem h.1 c hh)
end Exq
def wSys:List UInt8:=[115,121,115,116,101,109]
def wPrc:List UInt8:=[112,114,111,99,101,115,115]
def wEdg:List UInt8:=[101,100,103,101]
def Ed.asg (e:Ed):List UInt8:=if e.var<0 then [45] else UInt8.ofNat (120+e.var.toNat)::58::61::e.value.fmt
def syn (n:Int):List UInt8:=if 0<n then [33,dg n] else if n<0 then [63,dg (-n)] else [45]
inductive Ln where
 | sys (l:List Int)
 | prc (n:Int)
 | edg (e:Ed)
def Ln.ws:Ln→List (List UInt8)
 | .sys l=>wSys::l.map fun n=>[dg n]
 | .prc n=>[wPrc,[dg n]]
 | .edg e=>[wEdg,[dg e.frm],[dg e.to],e.guard.fmt,e.asg,syn e.sync]
def Ln.row (x:Ln):List UInt8:=jn 32 x.ws
def Pr.lns (p:Pr):List Ln:=.prc p.locs::p.edges.map .edg
def Sy.lns (s:Sy):List Ln:=.sys s.init::s.procs.flatMap Pr.lns
def rows (l:List Ln):List UInt8:=(l.map fun x=>x.row++[10]).flatten
def Sy.fmt (s:Sy):List UInt8:=rows s.lns
def Ln.Ok:Ln→Prop
 | .sys l=>VOk l
 | .prc n=>1≤n∧n≤4
 | .edg e=>∃n,e.Ok n
theorem Sy.lns_ok {s:Sy}(h:s.Ok):∀x∈s.lns,x.Ok:=by
 intro x hx
 rcases List.mem_cons.1 hx with rfl | hx
 ·exact h.vs
 ·obtain⟨p,hp,hx⟩:=List.mem_flatMap.1 hx
  have hP:=h.pr p hp
  rcases List.mem_cons.1 hx with rfl | hx
  ·exact⟨hP.n1,hP.n4⟩
  ·obtain⟨e,he,rfl⟩:=List.mem_map.1 hx
   exact⟨_,hP.ed e he⟩
def Sy.ap (s:Sy):Ln→Sy
 | .sys l=>⟨l,s.procs⟩
 | .prc n=>⟨s.init,s.procs++[⟨n,[]⟩]⟩
 | .edg e=>⟨s.init,s.procs.set (s.procs.length-1) ⟨(s.procs.getD (s.procs.length-1) ⟨0,[]⟩).locs,(s.procs.getD (s.procs.length-1) ⟨0,[]⟩).edges++[e]⟩⟩
theorem dg_no {n:Int}(h0:0≤n) (h9:n≤9) {c:UInt8}(hc:c.toNat<48∨57<c.toNat):c∉[dg n]:=fun h=>dg_ne h0 h9 hc (List.mem_singleton.1 h).symm
theorem Ed.asg_no {e:Ed}{n:Int}(h:e.Ok n) {c:UInt8}(hc:c∉Exq.fbs) (hc2:c≠58):c∉e.asg:=by
 have h1:=h.v1
 unfold Ed.asg
 split
 ·intro hh;exact hc (by rw[List.mem_singleton.1 hh];decide)
 ·rename_i hv
  intro hh
  simp only[List.mem_cons] at hh
  rcases hh with rfl | rfl | rfl | hh
  ·exact hc (Exq.vr_mem (by omega) h1)
  ·exact hc2 rfl
  ·exact hc (by decide)
  ·rcases h.vl with ⟨_,hv⟩ | ⟨hv,_⟩
   ·exact hv.fmt_no hc hh
   ·omega
theorem syn_no {n:Int}(h0:-2≤n) (h1:n≤2) {c:UInt8}(hc:c∉Exq.fbs) (hc2:c≠63):c∉syn n:=by
 unfold syn
 split
 ·intro hh
  simp only[List.mem_cons,List.not_mem_nil,or_false] at hh
  rcases hh with rfl | rfl
  ·exact hc (by decide)
  ·exact hc (Exq.dg_mem (by omega) (by omega))
 ·split
  ·intro hh
   simp only[List.mem_cons,List.not_mem_nil,or_false] at hh
   rcases hh with rfl | rfl
   ·exact hc2 rfl
   ·exact hc (Exq.dg_mem (by omega) (by omega))
  ·intro hh;exact hc (by rw[List.mem_singleton.1 hh];decide)
theorem Ln.ws_no {x:Ln}(h:x.Ok) {c:UInt8}(hc:c=32∨c=10):∀w∈x.ws,c∉w:=by
 have hb:c∉Exq.fbs:=by rcases hc with rfl | rfl<;>decide
 have hd:c.toNat<48∨57<c.toNat:=by rcases hc with rfl | rfl<;>decide
 intro w hw
 cases x with
 | sys l=>
  rcases List.mem_cons.1 hw with rfl | hw
  ·rcases hc with rfl | rfl<;>decide
  ·obtain⟨n,hn,rfl⟩:=List.mem_map.1 hw
   have:=h.2 n hn
   exact dg_no (by omega) (by omega) hd
 | prc n=>
  have h:1≤n∧n≤4:=h
  simp only[Ln.ws,List.mem_cons,List.not_mem_nil,or_false] at hw
  rcases hw with rfl | rfl
  ·rcases hc with rfl | rfl<;>decide
  ·exact dg_no (by omega) (by omega) hd
 | edg e=>
  obtain⟨n,h⟩:=h
  have:=h.n4
  have:=h.f0
  have:=h.f1
  have:=h.t0
  have:=h.t1
  simp only[Ln.ws,List.mem_cons,List.not_mem_nil,or_false] at hw
  rcases hw with rfl | rfl | rfl | rfl | rfl | rfl
  ·rcases hc with rfl | rfl<;>decide
  ·exact dg_no (by omega) (by omega) hd
  ·exact dg_no (by omega) (by omega) hd
  ·exact h.gd.fmt_no hb
  ·exact Ed.asg_no h hb (by rcases hc with rfl | rfl<;>decide)
  ·exact syn_no h.s0 h.s1 hb (by rcases hc with rfl | rfl<;>decide)
theorem jn_mem {c d:UInt8}:∀{ws:List (List UInt8)},d∈jn c ws→d=c∨∃w∈ws,d∈w
 | [],h=>by simp[jn] at h
 | [w],h=>.inr ⟨w,by simp,h⟩
 | w::x::r,h=>by
  rw[jn_cons (by simp)] at h
  rcases List.mem_append.1 h with h | h
  ·exact .inr ⟨w,by simp,h⟩
  ·rcases List.mem_cons.1 h with h | h
   ·exact .inl h
   ·rcases jn_mem h with h | ⟨y,hy,h⟩
    ·exact .inl h
    ·exact .inr ⟨y,List.mem_cons_of_mem _ hy,h⟩
theorem Ln.row_no {x:Ln}(h:x.Ok):(10:UInt8)∉x.row:=fun hh=>by
 rcases jn_mem hh with h1 | ⟨w,hw,h1⟩
 ·exact absurd h1 (by decide)
 ·exact Ln.ws_no h (.inr rfl) w hw h1
theorem Sy.lns_ne {s:Sy}:s.lns≠[]:=by simp[Sy.lns]
theorem Sy.fmt_spl {s:Sy}(h:s.Ok):spl 10 (jn 10 (s.lns.map Ln.row))=s.lns.map Ln.row:=spl_jn (by simp[Sy.lns_ne]) fun w hw=>by
 obtain⟨x,hx,rfl⟩:=List.mem_map.1 hw
 exact Ln.row_no (s.lns_ok h x hx)
def okD (n:Int):Bool:=decide (0≤n∧n≤9)
def dgs (l:List Int):List UInt8:=l.map dg
def Sta.dOk (st:Sta):Prop:=(∀n∈st.locs,0≤n∧n≤9)∧∀n∈st.vals,0≤n∧n≤9
noncomputable instance {st:Sta}:Decidable st.dOk:=Classical.propDecidable _
noncomputable def Sta.fmt (st:Sta):List UInt8:=if st.dOk then dgs st.locs++47::dgs st.vals else []
theorem all_okD {l:List Int}:l.all okD=true↔∀n∈l,0≤n∧n≤9:=by simp[okD]
def okR (l:List Int):Bool:=l.all okD
def dgR (l:List Int):List UInt8:=if okR l=true then dgs l else []
theorem okR_iff {l:List Int}:okR l=true↔∀n∈l,0≤n∧n≤9:=all_okD
theorem dgR_len {l:List Int}:(dgR l).length≤l.length:=by
 unfold dgR;split<;>simp[dgs]
theorem dgR_ok {l:List Int}(h:okR l=true):dgR l=dgs l:=by rw[dgR,if_pos h]
theorem Sta.fmt_eq (st:Sta):st.fmt=if okR st.locs=true∧okR st.vals=true then dgR st.locs++47::dgR st.vals else []:=by
 unfold Sta.fmt
 by_cases h:st.dOk
 ·have h1:=okR_iff.2 h.1
  have h2:=okR_iff.2 h.2
  rw[if_pos h,if_pos ⟨h1,h2⟩,dgR_ok h1,dgR_ok h2]
 ·rw[if_neg h,if_neg fun hh=>h ⟨okR_iff.1 hh.1,okR_iff.1 hh.2⟩]
def nums (l:List UInt8):List Int:=l.map fun c=>(c.toNat:Int)-48
theorem nums_dgs {l:List Int}(h:∀n∈l,0≤n∧n≤9):nums (dgs l)=l:=by
 unfold nums dgs
 rw[List.map_map]
 conv=>rhs;rw[← List.map_id l]
 exact List.map_congr_left fun n hn=>dg_int (h n hn).1 (h n hn).2
theorem dgs_nums {l:List UInt8}(h:∀n∈nums l,0≤n∧n≤9):dgs (nums l)=l:=by
 unfold nums dgs
 rw[List.map_map]
 conv=>rhs;rw[← List.map_id l]
 refine List.map_congr_left fun c hc=>?_
 have h1:=h ((c.toNat:Int)-48) (List.mem_map.2 ⟨c,hc,rfl⟩)
 show dg ((c.toNat:Int)-48)=c
 apply UInt8.toNat_inj.1
 rw[dg_nat h1.1 h1.2]
 omega
theorem dgs_no {l:List Int}(h:∀n∈l,0≤n∧n≤9):(47:UInt8)∉dgs l:=fun hh=>by
 obtain⟨n,hn,e⟩:=List.mem_map.1 hh
 exact dg_ne (h n hn).1 (h n hn).2 (.inl (by decide)) e
def H_laws_toEdgeS:Hint:=⟨[(0,false),(2,false),(3,false),(4,false)],[[1]]⟩
abbrev K73_1:C:=.seq (.pl <| .e 4 1 <|
 .m 4 2 <|
 .m 1 4 .done) (.ret)
abbrev K73_2:C:=.pl <| .e 4 2 <|
 .m 4 3 <|
 .x 5 (.bin .add (.v 4) (.c (.int .i64 1))) <|
 .m 3 5 .done
abbrev K73_3:Pl:=.x 11 (.ia 10 (.v 4) (.v 5)) <|
 .o (.ex none (.store 10 (.v 11) (.v 10))) .done
abbrev K73_4:C:=.seq (.block 1 (.pl <| .e 4 8 <|
 .m 4 2 <|
 .m 5 3 <|
 .m 6 0 <|
 .m 7 3 <|
 .x 8 (.ia 10 (.v 6) (.v 7)) <|
 .o (.ld (some 9) (.v 8) (some 10)) <|
 .c 10 (.call fn_laws_toEdge [.v 9]) K73_3)) K73_2
abbrev K73_5:C:=.cond 4 (.v 7) (.skip) (.exit 0)
abbrev K73_6:C:=.seq (.seq (.pl <| .e 4 4 <|
 .m 4 3 <|
 .m 5 0 <|
 .x 6 (.lenV (.v 5)) <|
 .x 7 (.bin .lss (.v 4) (.v 6)) .done) K73_5) K73_4
abbrev K73_7:C:=.block 0 (.loop 4 [1] K73_6)
abbrev K73_8:C:=.seq (.seq (.pl <| .e 4 0 <|
 .x 3 (.mv (.c (.int .i64 0))) .done) K73_7) K73_1
abbrev K73_9:Pl:=.m 2 6 .done
abbrev K73_10:C:=.seq (.pl <| .e 4 3 <|
 .m 4 0 <|
 .x 5 (.lenV (.v 4)) <|
 .c 6 (.mks 112 10 [.int .i64 0,.int .i64 0,.int .i64 0,.int .i64 0,.slice none 0 0,.int .i64 0,.int .i64 0,.int .i64 0,.slice none 0 0,.int .i64 0] (.v 5) (.v 5)) K73_9) K73_8
abbrev B_laws_toEdgeS:C:=.seq (.pl <| .e 4 0 <|
 .x 1 (.mv (.c (.slice none 0 0))) .done) K73_10
def R_laws_toEdgeS:FIR:=⟨B_laws_toEdgeS,4,[(1,none)]⟩
theorem IR_laws_toEdgeS:cfun Try.prog H_laws_toEdgeS Try.f73=some R_laws_toEdgeS:=by kernel_rfl
theorem EN_laws_toEdgeS:ENT Try.prog B_laws_toEdgeS [(1,none)] 1 4 fn_laws_toEdgeS:=fun hargs hw=>enter Try.func73 rfl IR_laws_toEdgeS hargs hw
def H_laws_toExpr:Hint:=⟨[(0,false),(1,true),(2,true),(3,true)],[]⟩
abbrev K108_1:C:=.seq (.pl <| .e 4 1 <|
 .o (.pget (some 4) none 3 0 (some 3)) <|
 .o (.pset none 2 0 3 (.v 4)) .done) (.ret)
abbrev K108_2:Pl:=.a 7 3 <|
 .o (.pset (some 7) 3 2 1 (.v 6)) .done
abbrev K108_3:C:=.seq (.pl <| .e 4 4 <|
 .a 4 1 <|
 .g 5 4 1 2 <|
 .c 6 (.call fn_laws_toExprS [.v 5]) K108_2) K108_1
abbrev K108_4:C:=.seq (.pl <| .e 4 3 <|
 .a 4 1 <|
 .g 5 4 1 1 <|
 .a 6 3 <|
 .o (.pset (some 6) 3 1 1 (.v 5)) .done) K108_3
abbrev K108_5:C:=.seq (.pl <| .e 4 3 <|
 .a 4 1 <|
 .g 5 4 1 0 <|
 .a 6 3 <|
 .o (.pset (some 6) 3 0 1 (.v 5)) .done) K108_4
abbrev K108_6:C:=.seq (.pl <| .e 4 0 <|
 .o (.pnew 3 (.c (.agg #[.int .i64 0,.int .i64 0,.slice none 0 0])) []) .done) K108_5
abbrev B_laws_toExpr:C:=.seq (.pl <| .e 4 0 <|
 .o (.pnew 1 (.v 0) []) <|
 .o (.pnew 2 (.c (.agg #[.int .i64 0,.int .i64 0,.slice none 0 0])) []) .done) K108_6
def R_laws_toExpr:FIR:=⟨B_laws_toExpr,4,[(2,some (some 3))]⟩
theorem IR_laws_toExpr:cfun Try.prog H_laws_toExpr Try.f108=some R_laws_toExpr:=by kernel_rfl
theorem EN_laws_toExpr:ENT Try.prog B_laws_toExpr [(2,some (some 3))] 1 4 fn_laws_toExpr:=fun hargs hw=>enter Try.func108 rfl IR_laws_toExpr hargs hw
def H_laws_toExprS:Hint:=⟨[(0,false),(2,false),(3,false),(4,false)],[[1]]⟩
abbrev K115_1:C:=.seq (.pl <| .e 4 1 <|
 .m 4 2 <|
 .m 1 4 .done) (.ret)
abbrev K115_2:C:=.pl <| .e 4 2 <|
 .m 4 3 <|
 .x 5 (.bin .add (.v 4) (.c (.int .i64 1))) <|
 .m 3 5 .done
abbrev K115_3:Pl:=.x 11 (.ia 3 (.v 4) (.v 5)) <|
 .o (.ex none (.store 3 (.v 11) (.v 10))) .done
abbrev K115_4:C:=.seq (.block 1 (.pl <| .e 4 8 <|
 .m 4 2 <|
 .m 5 3 <|
 .m 6 0 <|
 .m 7 3 <|
 .x 8 (.ia 3 (.v 6) (.v 7)) <|
 .o (.ld (some 9) (.v 8) (some 3)) <|
 .c 10 (.call fn_laws_toExpr [.v 9]) K115_3)) K115_2
abbrev K115_5:C:=.cond 4 (.v 7) (.skip) (.exit 0)
abbrev K115_6:C:=.seq (.seq (.pl <| .e 4 4 <|
 .m 4 3 <|
 .m 5 0 <|
 .x 6 (.lenV (.v 5)) <|
 .x 7 (.bin .lss (.v 4) (.v 6)) .done) K115_5) K115_4
abbrev K115_7:C:=.block 0 (.loop 4 [1] K115_6)
abbrev K115_8:C:=.seq (.seq (.pl <| .e 4 0 <|
 .x 3 (.mv (.c (.int .i64 0))) .done) K115_7) K115_1
abbrev K115_9:Pl:=.m 2 6 .done
abbrev K115_10:C:=.seq (.pl <| .e 4 3 <|
 .m 4 0 <|
 .x 5 (.lenV (.v 4)) <|
 .c 6 (.mks 40 3 [.int .i64 0,.int .i64 0,.slice none 0 0] (.v 5) (.v 5)) K115_9) K115_8
abbrev B_laws_toExprS:C:=.seq (.pl <| .e 4 0 <|
 .x 1 (.mv (.c (.slice none 0 0))) .done) K115_10
def R_laws_toExprS:FIR:=⟨B_laws_toExprS,4,[(1,none)]⟩
theorem IR_laws_toExprS:cfun Try.prog H_laws_toExprS Try.f115=some R_laws_toExprS:=by kernel_rfl
theorem EN_laws_toExprS:ENT Try.prog B_laws_toExprS [(1,none)] 1 4 fn_laws_toExprS:=fun hargs hw=>enter Try.func115 rfl IR_laws_toExprS hargs hw
def H_laws_toIntS:Hint:=⟨[(0,false),(2,false),(3,false),(4,false)],[[1]]⟩
abbrev K25_1:C:=.seq (.pl <| .e 4 1 <|
 .m 4 2 <|
 .m 1 4 .done) (.ret)
abbrev K25_2:C:=.pl <| .e 4 2 <|
 .m 4 3 <|
 .x 5 (.bin .add (.v 4) (.c (.int .i64 1))) <|
 .m 3 5 .done
abbrev K25_3:C:=.seq (.block 1 (.pl <| .e 4 7 <|
 .m 4 2 <|
 .m 5 3 <|
 .m 6 0 <|
 .m 7 3 <|
 .x 8 (.ia 1 (.v 6) (.v 7)) <|
 .l 9 8 <|
 .x 10 (.ia 1 (.v 4) (.v 5)) <|
 .o (.ex none (.store 1 (.v 10) (.v 9))) .done)) K25_2
abbrev K25_4:C:=.cond 4 (.v 7) (.skip) (.exit 0)
abbrev K25_5:C:=.seq (.seq (.pl <| .e 4 4 <|
 .m 4 3 <|
 .m 5 0 <|
 .x 6 (.lenV (.v 5)) <|
 .x 7 (.bin .lss (.v 4) (.v 6)) .done) K25_4) K25_3
abbrev K25_6:C:=.block 0 (.loop 4 [1] K25_5)
abbrev K25_7:C:=.seq (.seq (.pl <| .e 4 0 <|
 .x 3 (.mv (.c (.int .i64 0))) .done) K25_6) K25_1
abbrev K25_8:Pl:=.m 2 6 .done
abbrev K25_9:C:=.seq (.pl <| .e 4 3 <|
 .m 4 0 <|
 .x 5 (.lenV (.v 4)) <|
 .c 6 (.mks 8 1 [.int .i64 0] (.v 5) (.v 5)) K25_8) K25_7
abbrev B_laws_toIntS:C:=.seq (.pl <| .e 4 0 <|
 .x 1 (.mv (.c (.slice none 0 0))) .done) K25_9
def R_laws_toIntS:FIR:=⟨B_laws_toIntS,4,[(1,none)]⟩
theorem IR_laws_toIntS:cfun Try.prog H_laws_toIntS Try.f25=some R_laws_toIntS:=by kernel_rfl
theorem EN_laws_toIntS:ENT Try.prog B_laws_toIntS [(1,none)] 1 4 fn_laws_toIntS:=fun hargs hw=>enter Try.func25 rfl IR_laws_toIntS hargs hw
def H_laws_toProcess:Hint:=⟨[(0,false),(1,true),(2,true),(3,true)],[]⟩
abbrev K48_1:C:=.seq (.pl <| .e 4 1 <|
 .o (.pget (some 4) none 3 0 (some 2)) <|
 .o (.pset none 2 0 2 (.v 4)) .done) (.ret)
abbrev K48_2:Pl:=.a 7 3 <|
 .o (.pset (some 7) 3 1 1 (.v 6)) .done
abbrev K48_3:C:=.seq (.pl <| .e 4 4 <|
 .a 4 1 <|
 .g 5 4 1 1 <|
 .c 6 (.call fn_laws_toEdgeS [.v 5]) K48_2) K48_1
abbrev K48_4:C:=.seq (.pl <| .e 4 3 <|
 .a 4 1 <|
 .g 5 4 1 0 <|
 .a 6 3 <|
 .o (.pset (some 6) 3 0 1 (.v 5)) .done) K48_3
abbrev K48_5:C:=.seq (.pl <| .e 4 0 <|
 .o (.pnew 3 (.c (.agg #[.int .i64 0,.slice none 0 0])) []) .done) K48_4
abbrev B_laws_toProcess:C:=.seq (.pl <| .e 4 0 <|
 .o (.pnew 1 (.v 0) []) <|
 .o (.pnew 2 (.c (.agg #[.int .i64 0,.slice none 0 0])) []) .done) K48_5
def R_laws_toProcess:FIR:=⟨B_laws_toProcess,4,[(2,some (some 2))]⟩
theorem IR_laws_toProcess:cfun Try.prog H_laws_toProcess Try.f48=some R_laws_toProcess:=by kernel_rfl
theorem EN_laws_toProcess:ENT Try.prog B_laws_toProcess [(2,some (some 2))] 1 4 fn_laws_toProcess:=fun hargs hw=>enter Try.func48 rfl IR_laws_toProcess hargs hw
def H_laws_toProcessS:Hint:=⟨[(0,false),(2,false),(3,false),(4,false)],[[1]]⟩
abbrev K26_1:C:=.seq (.pl <| .e 4 1 <|
 .m 4 2 <|
 .m 1 4 .done) (.ret)
abbrev K26_2:C:=.pl <| .e 4 2 <|
 .m 4 3 <|
 .x 5 (.bin .add (.v 4) (.c (.int .i64 1))) <|
 .m 3 5 .done
abbrev K26_3:Pl:=.x 11 (.ia 2 (.v 4) (.v 5)) <|
 .o (.ex none (.store 2 (.v 11) (.v 10))) .done
abbrev K26_4:C:=.seq (.block 1 (.pl <| .e 4 8 <|
 .m 4 2 <|
 .m 5 3 <|
 .m 6 0 <|
 .m 7 3 <|
 .x 8 (.ia 2 (.v 6) (.v 7)) <|
 .o (.ld (some 9) (.v 8) (some 2)) <|
 .c 10 (.call fn_laws_toProcess [.v 9]) K26_3)) K26_2
abbrev K26_5:C:=.cond 4 (.v 7) (.skip) (.exit 0)
abbrev K26_6:C:=.seq (.seq (.pl <| .e 4 4 <|
 .m 4 3 <|
 .m 5 0 <|
 .x 6 (.lenV (.v 5)) <|
 .x 7 (.bin .lss (.v 4) (.v 6)) .done) K26_5) K26_4
abbrev K26_7:C:=.block 0 (.loop 4 [1] K26_6)
abbrev K26_8:C:=.seq (.seq (.pl <| .e 4 0 <|
 .x 3 (.mv (.c (.int .i64 0))) .done) K26_7) K26_1
abbrev K26_9:Pl:=.m 2 6 .done
abbrev K26_10:C:=.seq (.pl <| .e 4 3 <|
 .m 4 0 <|
 .x 5 (.lenV (.v 4)) <|
 .c 6 (.mks 32 2 [.int .i64 0,.slice none 0 0] (.v 5) (.v 5)) K26_9) K26_8
abbrev B_laws_toProcessS:C:=.seq (.pl <| .e 4 0 <|
 .x 1 (.mv (.c (.slice none 0 0))) .done) K26_10
def R_laws_toProcessS:FIR:=⟨B_laws_toProcessS,4,[(1,none)]⟩
theorem IR_laws_toProcessS:cfun Try.prog H_laws_toProcessS Try.f26=some R_laws_toProcessS:=by kernel_rfl
theorem EN_laws_toProcessS:ENT Try.prog B_laws_toProcessS [(1,none)] 1 4 fn_laws_toProcessS:=fun hargs hw=>enter Try.func26 rfl IR_laws_toProcessS hargs hw
def H_laws_toSystem:Hint:=⟨[(0,false),(1,true),(2,true),(3,true)],[]⟩
abbrev K7_1:C:=.seq (.pl <| .e 4 1 <|
 .o (.pget (some 4) none 3 0 (some 2)) <|
 .o (.pset none 2 0 2 (.v 4)) .done) (.ret)
abbrev K7_2:Pl:=.a 7 3 <|
 .o (.pset (some 7) 3 1 1 (.v 6)) .done
abbrev K7_3:C:=.seq (.pl <| .e 4 4 <|
 .a 4 1 <|
 .g 5 4 1 1 <|
 .c 6 (.call fn_laws_toProcessS [.v 5]) K7_2) K7_1
abbrev K7_4:Pl:=.a 7 3 <|
 .o (.pset (some 7) 3 0 1 (.v 6)) .done
abbrev K7_5:C:=.seq (.pl <| .e 4 4 <|
 .a 4 1 <|
 .g 5 4 1 0 <|
 .c 6 (.call fn_laws_toIntS [.v 5]) K7_4) K7_3
abbrev K7_6:C:=.seq (.pl <| .e 4 0 <|
 .o (.pnew 3 (.c (.agg #[.slice none 0 0,.slice none 0 0])) []) .done) K7_5
abbrev B_laws_toSystem:C:=.seq (.pl <| .e 4 0 <|
 .o (.pnew 1 (.v 0) []) <|
 .o (.pnew 2 (.c (.agg #[.slice none 0 0,.slice none 0 0])) []) .done) K7_6
def R_laws_toSystem:FIR:=⟨B_laws_toSystem,4,[(2,some (some 2))]⟩
theorem IR_laws_toSystem:cfun Try.prog H_laws_toSystem Try.f7=some R_laws_toSystem:=by kernel_rfl
theorem EN_laws_toSystem:ENT Try.prog B_laws_toSystem [(2,some (some 2))] 1 4 fn_laws_toSystem:=fun hargs hw=>enter Try.func7 rfl IR_laws_toSystem hargs hw
theorem c_toIntS {h:Heap}{a:Value}{x:List Int}(Ra:Rep h a x) (hs:Sz.sz x≤1048576):CallE Try.prog fn_laws_toIntS [a] h (fun v h'=>HS h [ow v x] h'):=by
 rw[sz_list] at hs
 refine CallE.gen fun k hk=>EN_laws_toIntS rfl ?_
 simp -implicitDefEqProofs (disch:=first|omega|(simp only[LnZ];omega))[wrap64,Ra.I]
 refine HS.init.mks (z:=(0:Int)) rfl rfl (own_zero (by decide) (by decide)) (Nat.le_refl _) (by omega) (by omega) fun v h1 H=>?_
 simp -implicitDefEqProofs (disch:=omega)[wrap64]
 refine wp_count x.length (fun i e h'=>e=[some a,none,some v,some (.int .i64 i)]∧∃y,HS h [ow v y] h'∧y.length=x.length∧y.take i=x.take i) ⟨rfl,_,H,by simp,by simp⟩ ?_
 rintro J i _ h2 hJ hi ⟨rfl,y,H,hl,hy⟩
 simp -implicitDefEqProofs (disch:=first|omega|(simp only[LnZ];omega))[wrap64,Ra.I]
 refine IteW.mk (fun hlt=>?_) (fun hge=>?_)
 ·have hlx:i<x.length:=by omega
  simp -implicitDefEqProofs (disch:=first|omega|(simp only[LnZ];omega))[wrap64,H.rep.I,(Ra.on H).I]
  refine H.storeF x[i] (by omega) rfl rfl (Ra.okI hlx) rfl fun h3 H=>?_
  simp -implicitDefEqProofs (disch:=omega)[wrap64]
  exact hJ _ _ hlx ⟨rfl,_,H,by simp[hl],take_set_succ hy hlx hl⟩
 ·simp -implicitDefEqProofs (disch:=omega)[wrap64]
  refine RetK.keep (hk _ _ ?_)
  rw[← eq_of_take hy (by omega) hl];exact H
theorem c_szIntS {h:Heap}{a:Value}{x:List Int}(Ra:Rep h a x) {n:Int}(hn:0≤n∧n≤1048576):CallE Try.prog fn_laws_szIntS [a,.int .i64 n] h (fun v h'=>h'=h∧∃m:Int,v=.int .i64 m∧(m = -1∨(0≤m∧m+Sz.sz x=n))):=by
 rw[sz_list,szL_zero (fun _=>rfl)]
 refine CallE.gen fun k hk=>EN_laws_szIntS rfl ?_
 have hL:=Ra.lt
 simp -implicitDefEqProofs (disch:=first|omega|(simp only[LnZ];omega))[wrap64,Ra.I]
 refine IteW.mk (fun hlt=>?_) (fun hge=>?_)
 ·simp -implicitDefEqProofs (disch:=omega)[wrap64]
  exact RetK.keep (hk _ _ ⟨rfl,_,rfl,.inl rfl⟩)
 ·simp -implicitDefEqProofs (disch:=omega)[wrap64]
  exact RetK.keep (hk _ _ ⟨rfl,_,rfl,.inr (by omega)⟩)
theorem c_eqIntS {h:Heap}{a b:Value}{x y:List Int}(Ra:Rep h a x) (Rb:Rep h b y):CallE Try.prog fn_laws_eqIntS [a,b] h (fun v h'=>h'=h∧v=.bool (decide (x=y))):=by
 refine CallE.gen fun k hk=>EN_laws_eqIntS rfl ?_
 have hL:=Ra.lt
 simp -implicitDefEqProofs (disch:=first|omega|(simp only[LnZ];omega))[wrap64,Ra.len,Rb.len]
 refine IteW.mkr (fun hne=>?_) (fun heq=>?_)
 ·simp -implicitDefEqProofs (disch:=omega)[wrap64]
  exact RetK.keep (hk _ _ ⟨rfl,by simp;rintro rfl;exact hne rfl⟩)
 simp -implicitDefEqProofs (disch:=omega)[wrap64]
 refine wp_count x.length (fun i e h'=>h'=h∧e=[some a,some b,none,some (.int .i64 i)]∧x.take i=y.take i) ⟨rfl,rfl,rfl⟩ ?_
 rintro J i _ _ hJ hi ⟨rfl,rfl,hxy⟩
 simp -implicitDefEqProofs (disch:=first|omega|(simp only[LnZ];omega))[wrap64,Ra.len]
 refine IteW.mk (fun hlt=>?_) (fun hge=>?_)
 ·have hly:i<y.length:=by omega
  have hlx:i<x.length:=by omega
  simp -implicitDefEqProofs (disch:=first|omega|(simp only[LnZ];omega))[wrap64,Ra.I,Rb.I]
  refine IteW.mkr (fun hne=>?_) (fun heq=>?_)
  ·simp -implicitDefEqProofs (disch:=omega)[wrap64]
   exact RetK.keep (hk _ _ ⟨rfl,by simp;rintro rfl;exact hne rfl⟩)
  simp -implicitDefEqProofs (disch:=omega)[wrap64]
  exact hJ _ _ hlx ⟨rfl,rfl,take_step hxy hlx hly heq⟩
 ·simp -implicitDefEqProofs (disch:=omega)[wrap64]
  refine RetK.keep (hk _ _ ⟨rfl,?_⟩)
  simp
  rw[List.take_of_length_le (by omega),List.take_of_length_le (by omega)] at hxy
  exact hxy
theorem c_markIntS {g h:Heap}{Γ:List HP}{v:Value}{x:List Int}{k0:Int}(H:HS g (ow v x::Γ) h) (hk0:0≤k0) (hk1:k0+Mk.cnt x<4611686018427387904):CallE Try.prog fn_laws_markIntS [v,.int .i64 k0] h (fun u h'=>HS g (ow v (Mk.wr k0 x)::Γ) h'∧u=.int .i64 (k0+Mk.cnt x)):=by
 refine CallE.gen fun k hk=>EN_laws_markIntS rfl ?_
 simp -implicitDefEqProofs (disch:=omega)[wrap64]
 refine wp_count x.length (fun i e h'=>e=[some v,some (.int .i64 (k0+cntL (x.take i))),none,some (.int .i64 i)]∧∃y,HS g (ow v y::Γ) h'∧Mkd k0 x y i) ⟨by simp[cntL],x,H,Mkd.zero⟩ ?_
 rintro J i _ h2 hJ hi ⟨rfl,y,H,M⟩
 have hl:=M.len
 have hL:=H.rep.lt
 have hcx:Mk.cnt x=cntL x:=rfl
 simp -implicitDefEqProofs (disch:=first|omega|(simp only[LnZ];omega))[wrap64,H.rep.len]
 refine IteW.mk (fun hlt=>?_) (fun hge=>?_)
 ·have hlx:i<x.length:=by omega
  have hly:i<y.length:=by omega
  have hb:=cntL_le x (i+1)
  have hc:=cntL_take x i hlx
  have h1:Mk.cnt x[i]=1:=rfl
  have h4:IntKind.i64.wrap (k0+(cntL (x.take i):Nat)+1)=k0+(cntL (x.take i):Nat)+1:=wrap64 (by omega) (by omega)
  simp -implicitDefEqProofs (disch:=first|omega|(simp only[LnZ];omega))[wrap64,H.rep.I]
  refine H.storeF (k0+cntL (x.take i)) hly rfl rfl ⟨by omega,by omega⟩ rfl fun h3 H=>?_
  simp -implicitDefEqProofs (disch:=omega)[wrap64]
  refine hJ _ _ hlx ⟨?_,_,H,M.step hlx⟩
  rw[hc,h1];push_cast;simp[Int.add_assoc]
 ·simp -implicitDefEqProofs (disch:=omega)[wrap64]
  have h2:x.take i=x:=List.take_of_length_le (by omega)
  refine RetK.keep (hk _ _ ⟨?_,by rw[h2];rfl⟩)
  have h3:y=Mk.wr k0 x:=M.all (by omega)
  rw[← h3];exact H
end Go.Proofs.Ytjbjnicobdpdhaa
