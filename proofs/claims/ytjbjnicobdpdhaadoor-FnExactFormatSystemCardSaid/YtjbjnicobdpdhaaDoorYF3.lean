/-
  Texts of this proof, one behind the other.
-/
import Derived.WalkKit
import Derived.ProofKit
import Derived.OpenShut
import Derived.Carry
import Derived.Deep.Slices
import Derived.SizedLaws
import Derived.Test.YtjbjnicobdpdhaaDoorRows
import Derived.Test.YtjbjnicobdpdhaaDoorYF2
set_option linter.all false
set_option linter.unusedVariables false
set_option linter.unusedSimpArgs false
set_option linter.defProp false
set_option maxRecDepth 1000000
namespace Go.Proofs.YtjbjnicobdpdhaaDoor
open Go
structure Sta where
 locs:List Int
 vals:List Int
deriving DecidableEq
instance instTySta:Ty Sta:=Ty.via fun (s:Sta)=>(s.locs,s.vals)
theorem Sta.ext_iff' {a b:Sta}:a=b↔a.locs=b.locs∧a.vals=b.vals:=by
 cases a;cases b;simp
instance instSzSta:Sz Sta:=⟨fun a=>Sz.sz a.locs+Sz.sz a.vals⟩
instance instMkSta:Mk Sta:=⟨fun a=>Mk.cnt a.locs+Mk.cnt a.vals,
 fun k a=>⟨Mk.wr (k) a.locs,Mk.wr (k+Mk.cnt a.locs) a.vals⟩,
 fun k a=>by simp[Mk.cnt_wr],fun k j a=>by simp[Mk.cnt_wr,Mk.wr_wr]⟩
structure Gr where
 states:List Sta
 next:List (List Int)
deriving DecidableEq
instance instTyGr:Ty Gr:=Ty.via fun (g:Gr)=>(g.states,g.next)
theorem Gr.ext_iff' {a b:Gr}:a=b↔a.states=b.states∧a.next=b.next:=by
 cases a;cases b;simp
instance instSzGr:Sz Gr:=⟨fun a=>Sz.sz a.states+Sz.sz a.next⟩
instance instMkGr:Mk Gr:=⟨fun a=>Mk.cnt a.states+Mk.cnt a.next,
 fun k a=>⟨Mk.wr (k) a.states,Mk.wr (k+Mk.cnt a.states) a.next⟩,
 fun k a=>by simp[Mk.cnt_wr],fun k j a=>by simp[Mk.cnt_wr,Mk.wr_wr]⟩
structure Stp where
 proc:Int
 edge:Int
 partner:Int
 pedge:Int
deriving DecidableEq
instance instTyStp:Ty Stp:=Ty.via fun (s:Stp)=>(s.proc,s.edge,s.partner,s.pedge)
theorem Stp.ext_iff' {a b:Stp}:a=b↔a.proc=b.proc∧a.edge=b.edge∧a.partner=b.partner∧a.pedge=b.pedge:=by
 cases a;cases b;simp
instance instFlatStp:Flat Stp:=Flat.via fun (s:Stp)=>(s.proc,s.edge,s.partner,s.pedge)
def Stp.v (s:Stp):Value:=.agg #[.int .i64 s.proc,.int .i64 s.edge,.int .i64 s.partner,.int .i64 s.pedge]
structure Stp.ok (s:Stp):Prop where
 proc:-9223372036854775808≤s.proc∧s.proc<9223372036854775808
 edge:-9223372036854775808≤s.edge∧s.edge<9223372036854775808
 partner:-9223372036854775808≤s.partner∧s.partner<9223372036854775808
 pedge:-9223372036854775808≤s.pedge∧s.pedge<9223372036854775808
instance instSzStp:Sz Stp:=⟨fun a=>Sz.sz a.proc+Sz.sz a.edge+Sz.sz a.partner+Sz.sz a.pedge⟩
instance instMkStp:Mk Stp:=⟨fun a=>Mk.cnt a.proc+Mk.cnt a.edge+Mk.cnt a.partner+Mk.cnt a.pedge,
 fun k a=>⟨Mk.wr (k) a.proc,Mk.wr (k+Mk.cnt a.proc) a.edge,Mk.wr (k+Mk.cnt a.proc+Mk.cnt a.edge) a.partner,Mk.wr (k+Mk.cnt a.proc+Mk.cnt a.edge+Mk.cnt a.partner) a.pedge⟩,
 fun k a=>by simp[Mk.cnt_wr],fun k j a=>by simp[Mk.cnt_wr,Mk.wr_wr]⟩
end Go.Proofs.YtjbjnicobdpdhaaDoor

namespace Go.Proofs.YtjbjnicobdpdhaaDoor
open Go Go.RowKit
def whole (w:World):Heap:=fun b=>w.heap[b]?
theorem calls_law {P:Program}{f:FuncId}{fn:Func}{args:List Value}{W:World}(hf:P.funcs[f]? = some fn) (hname:(fn.name == "runtime.NumGoroutine")=false) (hb:fn.body.isSome=true)
  (h:CallE P f args (whole W) (fun u h'=>(whole W).le h'∧u=.bool true)):Calls P f args.toArray W fun e W'=>e=.returned (.bool true)∧Below W.heap.size W W':=by
 have h1:=h W (fun b o hb=>hb)
 obtain⟨bd,hbd⟩:=Option.isSome_iff_exists.1 hb
 have hname':¬fn.name = "runtime.NumGoroutine":=by simpa using hname
 have hcall:(callFunc f args.toArray).run P W=.ok (.enter f args.toArray) W:=by
  simp[callFunc,hf,hname',hbd]
 rw[hcall] at h1
 refine Calls.mono h1 ?_
 rintro e W' ⟨v,h',rfl,⟨hl,rfl⟩,hs,hF⟩
 refine⟨rfl,hF.os,hF.tape,hF.output,hF.size,?_⟩
 intro k hk
 have h2:whole W k=some W.heap[k]:=by simp[whole,hk]
 rw[hs _ _ (hl _ _ h2)]
 simp[hk]
section
variable {H:Type}{enc:TypeId×Value→H}{P:Program}
theorem trodAll_below (hl:laidOutB P=true) {W W':World}:∀{ts:List TypeId}{vs:List Value}{ds:List (DataW H)}{ps:List MemPlace},(∀t∈ts,P.readableRec t=true∧t<P.types.size) →
  DataW.TrodAll enc P W 0 (fun _=>true) true ts vs ds ps→Below W.heap.size W W'→(∀x∈ps,x.block<W.heap.size)→DataW.TrodAll enc P W' 0 (fun b=>decide (b<W.heap.size)) true ts vs ds ps
 | [],[],[],_,_,h,_,_=>h
 | _::_,_::_,_::_,_,ht,⟨p,q,h1,h2,e⟩,hb,hlt=>
  ⟨p,q,Below.trod hl (ht _ (by simp)).1 (ht _ (by simp)).2 h1 hb (fun x hx=>hlt x (by rw[e];exact List.mem_append_left _ hx)),
   trodAll_below hl (fun t h=>ht t (by simp[h])) h2 hb (fun x hx=>hlt x (by rw[e];exact List.mem_append_right _ hx)),e⟩
theorem kept_below {W W':World}(hb:Below W.heap.size W W') (may:MemPlace→Prop):W.keptBut W' may:=by
 refine⟨hb.os,hb.output,fun i hi=>?_⟩
 rw[hb.block i hi]
 split
 ·rename_i h1 h2;rw[h1] at h2;simp only[Option.some.injEq,Obj.cells.injEq] at h2;obtain⟨rfl,rfl,rfl⟩:=h2;exact⟨rfl,rfl,rfl,fun _ _=>rfl⟩
 ·rename_i h1 h2;rw[h1] at h2;simp only[Option.some.injEq,Obj.map.injEq] at h2;obtain⟨rfl,rfl⟩:=h2;exact .inr ⟨rfl,rfl⟩
 ·rfl
end
def wOk {H:Type}(P:Program) (t:TypeId) (d:DataW H):Prop:=∀n∈d.weights P t,n≤reachBytes
theorem wOk_all {H:Type}{P:Program}{e:TypeId}:∀{l:List (DataW H)},(∀n∈DataW.weightsAll P e l,n≤reachBytes)→∀d∈l,wOk P e d
 | [],_,d,hd=>by simp at hd
 | x::l,h,d,hd=>by
  simp only[DataW.weightsAll,List.mem_append] at h
  rcases List.mem_cons.1 hd with rfl | hd
  ·exact fun n hn=>h n (.inl hn)
  ·exact wOk_all (fun n hn=>h n (.inr hn)) d hd
theorem wOk_each {H:Type}{P:Program}:∀{ts:List TypeId}{l:List (DataW H)},(∀n∈DataW.weightsEach P ts l,n≤reachBytes)→∀(i:Nat) t d,ts[i]? = some t→l[i]? = some d→wOk P t d
 | [],_,_,i,t,d,h1,_=>by simp at h1
 | _::_,[],_,i,t,d,_,h2=>by simp at h2
 | t0::ts,x::l,h,0,t,d,h1,h2=>by
  simp at h1 h2;subst h1 h2
  exact fun n hn=>h n (by simp only[DataW.weightsEach,List.mem_append];exact .inl hn)
 | t0::ts,x::l,h,i+1,t,d,h1,h2=>wOk_each (ts:=ts) (l:=l) (fun n hn=>h n (by simp only[DataW.weightsEach,List.mem_append];exact .inr hn)) i t d (by simpa using h1) (by simpa using h2)
def RdT (P:Program) (t:TypeId) (α:Type) [Ty α]:Prop:=∀{H:Type}(enc:TypeId×Value→H) (W:World) (sp:Nat→Bool) (fuel:Nat) (cs:List Value) (x:DataW H×List MemPlace),
 DataW.trod enc P W 0 sp true fuel t cs=some x→wOk P t x.1→∃y:α,Ty.rep (whole W) cs y
section
variable {P:Program}{t:TypeId}
theorem rd_int (ht:P.underlying t=some (.int .i64)):RdT P t Int:=by
 intro H enc W sp fuel cs x h hwt
 cases fuel with
 | zero=>simp[DataW.trod] at h
 | succ n=>
  unfold DataW.trod at h
  rw[ht] at h
  split at h
  case h_2 k k' m h1=>
   simp only[Option.some.injEq,TypeDesc.int.injEq] at h1
   subst h1
   split at h
   case isTrue hc=>
    obtain⟨rfl,hw⟩:=hc
    have:=bounds_i64 hw
    exact⟨_,rfl,by omega,by omega⟩
   case isFalse=>simp at h
  all_goals simp_all
theorem cells_whole {W:World}{b off:Nat}:∀{n:Nat}{l:List Value},W.cells? 0 ⟨b,off,none⟩ n=some l→hcells (whole W) b off n=some l:=by
 have key:∀n o l,(List.range' o n).mapM (fun i=>W.cell? ((⟨b,off,none⟩:Addr).add i))=some l→hcells (whole W) b (off+o) n=some l:=by
  intro n
  induction n with
  | zero=>intro o l h;simpa[hcells] using h
  | succ n ih=>
   intro o l h
   rw[List.range'_succ,List.mapM_cons] at h
   simp only[Option.bind_eq_bind,Option.bind_eq_some_iff,Option.pure_def,Option.some.injEq] at h
   obtain⟨v,h1,r,h2,rfl⟩:=h
   have h3:=ih (o+1) r h2
   have h4:hcell (whole W) b (off+o)=some v:=by
    rw[addr_add0] at h1
    simp only[World.cell?,Option.isSome_none,Bool.false_eq_true,if_false] at h1
    simp only[hcell,whole]
    split at h1
    ·rename_i hb;rw[hb];exact h1
    ·simp at h1
   simp only[hcells,h4]
   rw[show off+o+1=off+(o+1) by omega,h3]
 intro n l h
 simp only[World.cells?,Nat.zero_le,if_true] at h
 rw[List.range_eq_range'] at h
 exact key n 0 l h
theorem cells_spot {W:World}{b off s n:Nat}(hn:0<n):W.cells? 0 ⟨b,off,some s⟩ n=none:=by
 simp only[World.cells?,Nat.zero_le,if_true]
 cases n with
 | zero=>omega
 | succ n=>
  rw[List.range_succ_eq_map,List.mapM_cons]
  have:W.cell? ((⟨b,off,some s⟩:Addr).add 0)=none:=by
   simp only[Addr.add,if_true,World.cell?]
   split<;>simp
  rw[this];rfl
theorem rd_list {α:Type} [Ty α] {e:TypeId}(ht:P.underlying t=some (.slice e)) (hc:P.cellsOf e=Ty.sz α) (hpos:0<Ty.sz α) (hby:0<P.bytesOf e) (he:RdT P e α):RdT P t (List α):=by
 intro H enc W sp fuel cs x h hwt
 rcases Go.Deep.open_slice ht h with ⟨rfl,_⟩ | ⟨a,len,cap,m,n,D,Pl,rfl,_,hlen,hcap,hm,rfl,hel⟩
 ·exact⟨[],none,0,rfl,by simp,trivial,fun i hi=>by simp at hi⟩
 ·have hle:len≤m:=by rw[hm];split<;>omega
  simp only[wOk,DataW.weights,ht,List.mem_cons,List.mem_append] at hwt
  have hsz:len≤reachBytes:=by
   have h1:=hwt _ (.inl rfl)
   simp only[List.length_map,List.length_range] at h1
   have h2:len*1≤(len+(m-len))*P.bytesOf e:=Nat.mul_le_mul (by omega) hby
   omega
  have hwe:=wOk_all (fun n hn=>hwt n (.inr (.inl hn)))
  have hall:∀i,i<len→∃y:α,∃b off vs,some a=some (⟨b,off,none⟩:Addr)∧hcells (whole W) b (off+i*Ty.sz α) (Ty.sz α)=some vs∧Ty.rep (whole W) vs y:=by
   intro i hi
   obtain⟨cs',h1,h2⟩:=hel i (by omega)
   obtain⟨y,hy⟩:=he enc W sp n cs' _ h2 (hwe _ (List.mem_map.2 ⟨i,by simpa using hi,rfl⟩))
   obtain⟨b,off,spot⟩:=a
   rw[hc] at h1
   -- the address is plain: its first element could be read
   have h0:spot=none:=by
    cases spot with
    | none=>rfl
    | some s=>
     obtain⟨cs0,g1,_⟩:=hel 0 (by omega)
     rw[hc] at g1
     simp only[Nat.zero_mul,Addr.add,if_true] at g1
     rw[cells_spot hpos] at g1
     simp at g1
   subst h0
   rw[addr_add0] at h1
   exact⟨y,b,off,cs',rfl,cells_whole h1,hy⟩
  have hch:∃l:List α,l.length=len∧∀i (hi:i<l.length),∃b off vs,some a=some (⟨b,off,none⟩:Addr)∧hcells (whole W) b (off+i*Ty.sz α) (Ty.sz α)=some vs∧Ty.rep (whole W) vs l[i]:=by
   refine⟨(List.finRange len).map fun i=>Classical.choose (hall i.1 i.2),by simp,fun i hi=>?_⟩
   have hi':i<len:=by simpa using hi
   have:=Classical.choose_spec (hall i hi')
   simpa using this
  obtain⟨l,hl,hr⟩:=hch
  refine⟨l,some a,cap,by rw[hl],⟨by omega,?_⟩,trivial,hr⟩
  have:reachBytes<4611686018427387904:=by decide
  omega
theorem rd_two {α β:Type} [Ty α] [Ty β] {h:Heap}{cs:List Value}(h1:∃x:α,Ty.rep h (cs.take (Ty.sz α)) x) (h2:∃y:β,Ty.rep h (cs.drop (Ty.sz α)) y):∃z:α×β,Ty.rep h cs z:=by
 obtain⟨x,hx⟩:=h1
 obtain⟨y,hy⟩:=h2
 exact⟨(x,y),_,_,(List.take_append_drop _ cs).symm,hx,hy⟩
end
section
variable {P:Program}{W:World}{r:Reach}{base:Nat}{t e:TypeId}{v:Value}
end
section
variable {g h:Heap}{Γ:List HP}
end
def mpo {κ ν:Type}(kf:κ→Value) (vf:ν→Value) (b:Nat) (l:List (κ×ν)):HP:=fun r=>∃es clock,r=Heap.one b (.map es clock)∧es.toList.map (fun e=>(e.key,e.val))=l.map fun p=>(kf p.1,vf p.2)
def mlk {κ ν:Type} [DecidableEq κ] (l:List (κ×ν)) (a:κ):Option ν:=(l.find? fun p=>decide (p.1=a)).map (·.2)
theorem mfind_spec {κ ν:Type} [DecidableEq κ] {kf:κ→Value}{vf:ν→Value}{kt:KT}(hkt:∀a b,keyEq kt (kf a) (kf b)=some (decide (a=b))) {a:κ}:∀{es:List MapEntry}{l:List (κ×ν)}{i0:Nat},es.map (fun e=>(e.key,e.val))=l.map (fun p=>(kf p.1,vf p.2)) →
  ∃i,mfind kt (kf a) es i0=some ((mlk l a).map fun y=>(i,vf y))
 | [],[],_,_=>⟨0,rfl⟩
 | [],_::_,_,h=>by simp at h
 | _::_,[],_,h=>by simp at h
 | x::es,p::l,i0,h=>by
  simp only[List.map_cons,List.cons.injEq,Prod.mk.injEq] at h
  obtain⟨⟨h1,h2⟩,h3⟩:=h
  obtain⟨i,hi⟩:=mfind_spec hkt (a:=a) (i0:=i0+1) h3
  unfold mfind
  rw[h1,hkt,h2]
  by_cases he:a=p.1
  ·subst he
   refine⟨i0,?_⟩
   simp[mlk]
  ·refine⟨i,?_⟩
   simp only[he,decide_false]
   rw[hi]
   simp[mlk,List.find?_cons,Ne.symm he,show ¬p.1=a from fun e=>he e.symm]
section
variable {P:Program}{k:Env→Heap→Prop}{e:Env}{g h:Heap}{Γ:List HP}{κ ν:Type} [DecidableEq κ] {kf:κ→Value}{vf:ν→Value}{b:Nat}{l:List (κ×ν)}{kt:KT}
theorem HS.mkm (H:HS g Γ h) (kf:κ→Value) (vf:ν→Value) {dst:Nat}(K:∀b h',HS g (mpo kf vf b []::Γ) h'→k (eset e dst (some (.map (some b)))) h'):(A.ex (some dst) .mkm).wp P k e h:=by
 intro b hb
 refine Fgt.keep ?_
 rw[set_new hb]
 exact K _ _ ⟨h,_,rfl,Dj_one.2 hb,⟨_,_,rfl,rfl⟩,H⟩
theorem HS.mget (H:HS g (mpo kf vf b l::Γ) h) {zero:Value}{ok:Bool}{m x:O}{a:κ}{dst:Nat}(hm:m.get e=some (.map (some b))) (hx:x.get e=some (kf a)) (hkt:∀a b,keyEq kt (kf a) (kf b)=some (decide (a=b)))
  (K:k (eset e dst (some (if ok then .tuple #[((mlk l a).map vf).getD zero,.bool (mlk l a).isSome] else ((mlk l a).map vf).getD zero))) h):(A.ex (some dst) (.mget kt zero ok m x)).wp P k e h:=by
 obtain⟨g',r,rfl,d,⟨es,clock,rfl,hes⟩,H⟩:=H
 obtain⟨i,hi⟩:=mfind_spec hkt (a:=a) (i0:=0) hes
 refine⟨b,es,clock,kf a,_,hm,le_add' d _ _ (by simp[Heap.one]),hx,by rw[hkt];rfl,hi,Fgt.keep ?_⟩
 cases hl:mlk l a with
 | none=>rw[hl] at K;cases ok<;>exact K
 | some y=>rw[hl] at K;cases ok<;>exact K
theorem HS.mput (H:HS g (mpo kf vf b l::Γ) h) {m x y:O}{a:κ}{v:ν}(hm:m.get e=some (.map (some b))) (hx:x.get e=some (kf a)) (hy:y.get e=some (vf v)) (hkt:∀a b,keyEq kt (kf a) (kf b)=some (decide (a=b))) (hn:mlk l a=none)
  (K:∀h',HS g (mpo kf vf b (l++[(a,v)])::Γ) h'→k e h'):(A.ex none (.mput kt m x y)).wp P k e h:=by
 obtain⟨g',r,rfl,d,⟨es,clock,rfl,hes⟩,H⟩:=H
 obtain⟨i,hi⟩:=mfind_spec hkt (a:=a) (i0:=0) hes
 rw[hn] at hi
 refine⟨b,es,clock,kf a,vf v,none,hm,le_add' d _ _ (by simp[Heap.one]),hx,hy,by rw[hkt];rfl,hi,Fgt.keep ?_⟩
 refine K _ ⟨g',Heap.one b (.map (es.push { key:=kf a,val:=vf v,born:=clock }) (clock+1)),?_,?_,⟨_,_,rfl,?_⟩,H⟩
 ·have hb:=Dj_one.1 d
  rw[← set_new hb]
  rw[← set_new hb]
  funext z
  simp only[Heap.set]
  split<;>rfl
 ·exact Dj_one.2 (Dj_one.1 d)
 ·simp[hes]
theorem HS.mlen (H:HS g (mpo kf vf b l::Γ) h) {m:O}{dst:Nat}(hm:m.get e=some (.map (some b))) (K:k (eset e dst (some (.int .i64 l.length))) h):(A.ex (some dst) (.mlen m)).wp P k e h:=by
 obtain⟨g',r,rfl,d,⟨es,clock,rfl,hes⟩,H⟩:=H
 have hl:es.size=l.length:=by
  have:=congrArg List.length hes
  simpa using this
 refine⟨b,es,clock,hm,le_add' d _ _ (by simp[Heap.one]),Fgt.keep ?_⟩
 rw[hl]
 exact K
end
section
variable {α:Type}
theorem repL_map {t t':Ty α}{h:Heap}{p:Option Addr}{l:List α}(hs:t.sz=t'.sz) (hr:∀cs x,x∈l→t.rep h cs x→t'.rep h cs x) (H:@repL α t h p l):@repL α t' h p l:=by
 intro i hi
 obtain⟨b,off,vs,h1,h2,h3⟩:=H i hi
 refine⟨b,off,vs,h1,?_,hr _ _ (List.getElem_mem hi) h3⟩
 have h2:hcells h b (off+i*t.sz) t.sz=some vs:=h2
 show hcells h b (off+i*t'.sz) t'.sz=some vs
 rw[← hs];exact h2
theorem repS_map {t t':Ty α}{h:Heap}{cs:List Value}{l:List α}(hs:t.sz=t'.sz) (hr:∀cs x,x∈l→t.rep h cs x→t'.rep h cs x) (H:@repS α t h cs l):@repS α t' h cs l:=by
 obtain⟨p,cap,h1,h2,h3,h4⟩:=H
 exact⟨p,cap,h1,h2,h3,repL_map hs hr h4⟩
theorem ownL_map {t t':Ty α}(hs:t.sz=t'.sz):∀{l:List α}{cs:List Value}{r:Heap},(∀r cs x,x∈l→t.own r cs x→t'.own r cs x)→@ownL α t l cs r→@ownL α t' l cs r
 | [],_,_,_,H=>H
 | x::l,cs,r,ho,⟨r1,r2,h1,h2,h3,h4⟩=>by
  refine⟨r1,r2,h1,h2,?_,?_⟩
  ·have:=ho r1 _ x (by simp) h3
   show t'.own r1 (cs.take t'.sz) x
   rw[← hs];exact this
  ·have:=ownL_map hs (fun r cs x hx=>ho r cs x (by simp[hx])) h4
   show @ownL α t' l (cs.drop t'.sz) r2
   rw[← hs];exact this
theorem ownS_map {t t':Ty α}(hs:t.sz=t'.sz) {l:List α}{cs:List Value}{r:Heap}(ho:∀r cs x,x∈l→t.own r cs x→t'.own r cs x) (H:@ownS α t r cs l):@ownS α t' r cs l:=by
 rcases H with h1 | ⟨b,off,cap,cells,el,r',h1,h2,h3,h4,h5,h6⟩
 ·exact .inl h1
 ·refine .inr ⟨b,off,cap,cells,el,r',h1,h2,?_,h4,h5,ownL_map hs ho h6⟩
  have h3:off+cap*t.sz≤cells.length:=h3
  show off+cap*t'.sz≤cells.length
  rw[← hs];exact h3
end
theorem exists_max {P:Nat→Nat→Prop}(hu:∀i n,P i n→P i (n+1)):∀m,(∀i,i<m→∃n,P i n)→∃N,∀i,i<m→P i N
 | 0,_=>⟨0,fun i hi=>absurd hi (Nat.not_lt_zero i)⟩
 | m+1,h=>by
  have up:∀i n k,P i n→P i (n+k):=by
   intro i n k hp
   induction k with
   | zero=>exact hp
   | succ k ih=>exact hu _ _ ih
  obtain⟨N,hN⟩:=exists_max hu m fun i hi=>h i (by omega)
  obtain⟨M,hM⟩:=h m (by omega)
  refine⟨N+M,fun i hi=>?_⟩
  by_cases e:i=m
  ·subst e;rw[Nat.add_comm];exact up _ _ _ hM
  ·exact up _ _ _ (hN i (by omega))
inductive Exq where
 | mk (kind val:Int) (kids:List Exq)
namespace Exq
def kind:Exq→Int | .mk k _ _=>k
def val:Exq→Int | .mk _ v _=>v
def kids:Exq→List Exq | .mk _ _ l=>l
@[simp] theorem kind_mk {k v:Int}{l:List Exq}:(Exq.mk k v l).kind=k:=rfl
@[simp] theorem val_mk {k v:Int}{l:List Exq}:(Exq.mk k v l).val=v:=rfl
@[simp] theorem kids_mk {k v:Int}{l:List Exq}:(Exq.mk k v l).kids=l:=rfl
theorem ext_iff' {a b:Exq}:a=b↔a.kind=b.kind∧a.val=b.val∧a.kids=b.kids:=by
 cases a;cases b;simp
theorem ind {p:Exq→Prop}(h:∀x:Exq,(∀y∈x.kids,p y)→p x):∀x,p x
 | .mk k v l=>h _ fun y hy=>ind h y
termination_by x=>SizeOf.sizeOf x
decreasing_by
 have h1:y∈l:=hy
 have:=List.sizeOf_lt_of_mem h1
 simp only[Exq.mk.sizeOf_spec]
 omega
def tup (x:Exq):Int×Int×List Exq:=(x.kind,x.val,x.kids)
@[reducible] def T0:Ty Exq where
 agg:=true
 sz:=3
 rep:=fun _ _ _=>False
 own:=fun _ _ _=>False
 one:=fun h=>by simp at h
 len:=fun h=>h.elim
 cell:=fun h=>h.elim
 mono:=fun _ h=>h
 own_rep:=fun h=>h.elim
@[reducible] def tyTup (t:Ty Exq):Ty (Int×Int×List Exq):=@instTyProd Int (Int×List Exq) instTyInt (@instTyProd Int (List Exq) instTyInt (@instTyList Exq t))
@[reducible] def T:Nat→Ty Exq
 | 0=>T0
 | n+1=>@Ty.via Exq (Int×Int×List Exq) (tyTup (T n)) tup
theorem T_sz:∀n,(T n).sz=3
 | 0=>rfl
 | _+1=>rfl
theorem tup_rep {t t':Ty Exq}(hs:t.sz=t'.sz) {h:Heap}{cs:List Value}{x:Exq}(hr:∀cs y,y∈x.kids→t.rep h cs y→t'.rep h cs y) (H:(tyTup t).rep h cs x.tup):(tyTup t').rep h cs x.tup:=by
 obtain⟨c1,c2,e1,h1,c3,c4,e2,h2,h3⟩:=H
 exact⟨c1,c2,e1,h1,c3,c4,e2,h2,repS_map hs hr h3⟩
theorem tup_own {t t':Ty Exq}(hs:t.sz=t'.sz) {r:Heap}{cs:List Value}{x:Exq}(hr:∀r cs y,y∈x.kids→t.own r cs y→t'.own r cs y) (H:(tyTup t).own r cs x.tup):(tyTup t').own r cs x.tup:=by
 obtain⟨c1,c2,r1,r2,e1,e2,d1,h1,c3,c4,r3,r4,e3,e4,d2,h2,h3⟩:=H
 exact⟨c1,c2,r1,r2,e1,e2,d1,h1,c3,c4,r3,r4,e3,e4,d2,h2,ownS_map hs hr h3⟩
theorem rep_up:∀(n:Nat) {h:Heap}{cs:List Value}{x:Exq},(T n).rep h cs x→(T (n+1)).rep h cs x
 | 0,_,_,_,H=>H.elim
 | n+1,h,cs,x,H=>tup_rep (t:=T n) (t':=T (n+1)) (by rw[T_sz,T_sz]) (fun _ _ _=>rep_up n) H
theorem own_up:∀(n:Nat) {r:Heap}{cs:List Value}{x:Exq},(T n).own r cs x→(T (n+1)).own r cs x
 | 0,_,_,_,H=>H.elim
 | n+1,h,cs,x,H=>tup_own (t:=T n) (t':=T (n+1)) (by rw[T_sz,T_sz]) (fun _ _ _ _=>own_up n) H
theorem own_le {n m:Nat}(hle:n≤m) {r:Heap}{cs:List Value}{x:Exq}(H:(T n).own r cs x):(T m).own r cs x:=by
 obtain⟨k,rfl⟩:=Nat.exists_eq_add_of_le hle
 induction k with
 | zero=>exact H
 | succ k ih=>exact own_up _ (ih (by omega))
end Exq
instance instTyExq:Ty Exq where
 agg:=true
 sz:=3
 rep:=fun h cs x=>∃n,(Exq.T n).rep h cs x
 own:=fun r cs x=>∃n,(Exq.T n).own r cs x
 one:=fun h=>by simp at h
 len:=fun ⟨n,h⟩=>((Exq.T n).len h).trans (Exq.T_sz n)
 cell:=fun ⟨n,h⟩=>(Exq.T n).cell h
 mono:=fun hl ⟨n,h⟩=>⟨n,(Exq.T n).mono hl h⟩
 own_rep:=fun ⟨n,h⟩=>⟨n,(Exq.T n).own_rep h⟩
namespace Exq
theorem rep_iff {h:Heap}{cs:List Value}{x:Exq}:Ty.rep h cs x↔Ty.rep h cs x.tup:=by
 constructor
 ·rintro⟨n,H⟩
  cases n with
  | zero=>exact H.elim
  | succ n=>exact tup_rep (t:=T n) (t':=instTyExq) (T_sz n) (fun _ _ _ h=>⟨n,h⟩) H
 ·rintro⟨c1,c2,e1,h1,c3,c4,e2,h2,p,cap,e3,h3,h4,hl⟩
  have hl:∀i,i<x.kids.length→∃n,∃(hi:i<x.kids.length),∃b off vs,p=some ⟨b,off,none⟩∧hcells h b (off+i*3) 3=some vs∧(T n).rep h vs x.kids[i]:=by
   intro i hi
   obtain⟨b,off,vs,g1,g2,n,g3⟩:=hl i hi
   exact⟨n,hi,b,off,vs,g1,g2,g3⟩
  obtain⟨N,hN⟩:=exists_max (P:=fun i n=>∃(hi:i<x.kids.length),∃b off vs,p=some ⟨b,off,none⟩∧hcells h b (off+i*3) 3=some vs∧(T n).rep h vs x.kids[i]) (fun i n ⟨hi,b,off,vs,g1,g2,g3⟩=>⟨hi,b,off,vs,g1,g2,rep_up n g3⟩) _ hl
  refine⟨N+1,c1,c2,e1,h1,c3,c4,e2,h2,p,cap,e3,h3,h4,fun i hi=>?_⟩
  obtain⟨_,b,off,vs,g1,g2,g3⟩:=hN i hi
  refine⟨b,off,vs,g1,?_,g3⟩
  show hcells h b (off+i*(T N).sz) (T N).sz=some vs
  rw[T_sz];exact g2
theorem ownL_max:∀{l:List Exq}{cs:List Value}{r:Heap},ownL l cs r→∃N,@ownL Exq (T N) l cs r
 | [],_,_,H=>⟨0,H⟩
 | x::l,cs,r,⟨r1,r2,h1,h2,⟨n,h3⟩,h4⟩=>by
  obtain⟨N,h5⟩:=ownL_max h4
  refine⟨n+N,r1,r2,h1,h2,?_,?_⟩
  ·show (T (n+N)).own r1 (cs.take (T (n+N)).sz) x
   rw[T_sz];exact own_le (by omega) h3
  ·show @ownL Exq (T (n+N)) l (cs.drop (T (n+N)).sz) r2
   rw[T_sz];exact ownL_map (t:=T N) (t':=T (n+N)) (by rw[T_sz,T_sz]) (fun _ _ _ _=>own_le (by omega)) h5
theorem own_iff {r:Heap}{cs:List Value}{x:Exq}:Ty.own r cs x↔Ty.own r cs x.tup:=by
 constructor
 ·rintro⟨n,H⟩
  cases n with
  | zero=>exact H.elim
  | succ n=>exact tup_own (t:=T n) (t':=instTyExq) (T_sz n) (fun _ _ _ _ h=>⟨n,h⟩) H
 ·rintro⟨c1,c2,r1,r2,e1,e2,d1,h1,c3,c4,r3,r4,e3,e4,d2,h2,h3⟩
  rcases h3 with h3 | ⟨b,off,cap,cells,el,r',g1,g2,g3,g4,g5,g6⟩
  ·exact⟨1,c1,c2,r1,r2,e1,e2,d1,h1,c3,c4,r3,r4,e3,e4,d2,h2,.inl h3⟩
  ·obtain⟨N,h7⟩:=ownL_max g6
   refine⟨N+1,c1,c2,r1,r2,e1,e2,d1,h1,c3,c4,r3,r4,e3,e4,d2,h2,.inr ⟨b,off,cap,cells,el,r',g1,g2,?_,g4,g5,h7⟩⟩
   show off+cap*(T N).sz≤cells.length
   rw[T_sz];exact g3
end Exq
def I64 (n:Int):Prop:=-9223372036854775808≤n∧n<9223372036854775808
theorem I64.lo {n:Int}(h:I64 n):-9223372036854775808≤n:=h.1
theorem I64.hi {n:Int}(h:I64 n):n<9223372036854775808:=h.2
section
variable {g h r:Heap}{Γ:List HP}{v:Value}{cs:List Value}
theorem repExq {x:Exq}:Ty.rep h cs x↔∃w,cs=[.int .i64 x.kind,.int .i64 x.val,w]∧I64 x.kind∧I64 x.val∧Rep h w x.kids:=by
 rw[Exq.rep_iff]
 constructor
 ·rintro⟨c1,c2,rfl,⟨rfl,h1⟩,c3,c4,rfl,⟨rfl,h2⟩,h3⟩
  obtain⟨w,rfl,h4⟩:=(rep1 (α:=List Exq) rfl).1 h3
  exact⟨w,rfl,h1,h2,h4⟩
 ·rintro⟨w,rfl,h1,h2,h3⟩
  exact⟨[_],[_,_],rfl,⟨rfl,h1⟩,[_],[_],rfl,⟨rfl,h2⟩,(rep1 (α:=List Exq) rfl).2 ⟨w,rfl,h3⟩⟩
theorem ownExq {x:Exq}:Ty.own r cs x↔∃w,cs=[.int .i64 x.kind,.int .i64 x.val,w]∧I64 x.kind∧I64 x.val∧Own r w x.kids:=by
 rw[Exq.own_iff]
 constructor
 ·rintro⟨c1,c2,r1,r2,rfl,rfl,d1,⟨rfl,rfl,h1⟩,c3,c4,r3,r4,rfl,rfl,d2,⟨rfl,rfl,h2⟩,h3⟩
  obtain⟨w,rfl,h4⟩:=(own1 (α:=List Exq) rfl).1 h3
  exact⟨w,rfl,h1,h2,by rw[nil_add,nil_add];exact h4⟩
 ·rintro⟨w,rfl,h1,h2,h3⟩
  exact⟨[_],[_,_],Heap.nil,r,rfl,by simp,by simp,⟨rfl,rfl,h1⟩,[_],[_],Heap.nil,r,rfl,by simp,by simp,⟨rfl,rfl,h2⟩,(own1 (α:=List Exq) rfl).2 ⟨w,rfl,h3⟩⟩
theorem Rep_Exq {x:Exq}:Rep h v x↔∃w,v=.agg #[.int .i64 x.kind,.int .i64 x.val,w]∧I64 x.kind∧I64 x.val∧Rep h w x.kids:=by
 constructor
 ·rintro⟨cs,rfl,H⟩
  obtain⟨w,rfl,h1⟩:=repExq.1 H
  exact⟨w,rfl,h1⟩
 ·rintro⟨w,rfl,h1⟩
  exact⟨_,rfl,repExq.2 ⟨w,rfl,h1⟩⟩
theorem HS.unExq {x:Exq}(H:HS g (ow v x::Γ) h):∃w,v=.agg #[.int .i64 x.kind,.int .i64 x.val,w]∧I64 x.kind∧I64 x.val∧HS g (ow w x.kids::Γ) h:=by
 obtain⟨g',r,rfl,d,⟨cs,rfl,O⟩,H⟩:=H
 obtain⟨w,rfl,h1,h2,h3⟩:=ownExq.1 O
 exact⟨w,rfl,h1,h2,g',r,rfl,d,h3,H⟩
theorem HS.mkExq {x:Exq}{w:Value}(H:HS g (ow w x.kids::Γ) h) (h1:I64 x.kind) (h2:I64 x.val):HS g (ow (.agg #[.int .i64 x.kind,.int .i64 x.val,w]) x::Γ) h:=
 H.imp fun _ O=>⟨_,rfl,ownExq.2 ⟨w,rfl,h1,h2,O⟩⟩
theorem Rep.aExq {x:Exq}(hr:Rep h v x):pgetV (some v) 0 (some 3)=some v∧v.cells.size=3∧allOne v.cells.toList=true∧Value.agg v.cells=v:=hr.A rfl rfl
end
noncomputable instance:DecidableEq Exq:=fun _ _=>Classical.propDecidable _
structure Ed where
 frm:Int
 to:Int
 guard:Exq
 var:Int
 value:Exq
 sync:Int
instance instTyEd:Ty Ed:=Ty.via fun (e:Ed)=>(e.frm,e.to,e.guard,e.var,e.value,e.sync)
noncomputable instance:DecidableEq Ed:=fun _ _=>Classical.propDecidable _
structure Pr where
 locs:Int
 edges:List Ed
instance instTyPr:Ty Pr:=Ty.via fun (p:Pr)=>(p.locs,p.edges)
noncomputable instance:DecidableEq Pr:=fun _ _=>Classical.propDecidable _
structure Sy where
 init:List Int
 procs:List Pr
instance instTySy:Ty Sy:=Ty.via fun (s:Sy)=>(s.init,s.procs)
noncomputable instance:DecidableEq Sy:=fun _ _=>Classical.propDecidable _
theorem Ed.ext_iff' {a b:Ed}:a=b↔a.frm=b.frm∧a.to=b.to∧a.guard=b.guard∧a.var=b.var∧a.value=b.value∧a.sync=b.sync:=by
 cases a;cases b;simp
theorem Pr.ext_iff' {a b:Pr}:a=b↔a.locs=b.locs∧a.edges=b.edges:=by
 cases a;cases b;simp
theorem Sy.ext_iff' {a b:Sy}:a=b↔a.init=b.init∧a.procs=b.procs:=by
 cases a;cases b;simp
def Ed.cs (e:Ed) (w1 w2:Value):List Value:=[.int .i64 e.frm,.int .i64 e.to,.int .i64 e.guard.kind,.int .i64 e.guard.val,w1,.int .i64 e.var,.int .i64 e.value.kind,.int .i64 e.value.val,w2,.int .i64 e.sync]
structure Ed.ok (e:Ed):Prop where
 frm:I64 e.frm
 to:I64 e.to
 gk:I64 e.guard.kind
 gv:I64 e.guard.val
 var:I64 e.var
 vk:I64 e.value.kind
 vv:I64 e.value.val
 sync:I64 e.sync
section
variable {g h r:Heap}{Γ:List HP}{v:Value}{cs:List Value}
theorem repEd {e:Ed}:Ty.rep h cs e↔∃w1 w2,cs=e.cs w1 w2∧e.ok∧Rep h w1 e.guard.kids∧Rep h w2 e.value.kids:=by
 constructor
 ·rintro⟨c1,c2,rfl,⟨rfl,h1⟩,c3,c4,rfl,⟨rfl,h2⟩,c5,c6,rfl,h3,c7,c8,rfl,⟨rfl,h4⟩,c9,c0,rfl,h5,rfl,h6⟩
  obtain⟨w1,rfl,g1,g2,g3⟩:=repExq.1 h3
  obtain⟨w2,rfl,g4,g5,g6⟩:=repExq.1 h5
  exact⟨w1,w2,rfl,⟨h1,h2,g1,g2,h4,g4,g5,h6⟩,g3,g6⟩
 ·rintro⟨w1,w2,rfl,ok,h1,h2⟩
  exact⟨[_],_,rfl,⟨rfl,ok.frm⟩,[_],_,rfl,⟨rfl,ok.to⟩,[_,_,_],_,rfl,repExq.2 ⟨_,rfl,ok.gk,ok.gv,h1⟩,[_],_,rfl,⟨rfl,ok.var⟩,[_,_,_],_,rfl,repExq.2 ⟨_,rfl,ok.vk,ok.vv,h2⟩,rfl,ok.sync⟩
theorem ownEd {e:Ed}:Ty.own r cs e↔∃w1 w2 r1 r2,cs=e.cs w1 w2∧e.ok∧r=r1.add r2∧Dj r1 r2∧Own r1 w1 e.guard.kids∧Own r2 w2 e.value.kids:=by
 constructor
 ·rintro⟨c1,c2,_,_,rfl,rfl,_,⟨rfl,rfl,h1⟩,c3,c4,_,_,rfl,rfl,_,⟨rfl,rfl,h2⟩,c5,c6,ra,rb,rfl,rfl,d,h3,c7,c8,_,_,rfl,rfl,_,⟨rfl,rfl,h4⟩,c9,c0,rc,rd,rfl,rfl,d2,h5,rfl,rfl,h6⟩
  obtain⟨w1,rfl,g1,g2,g3⟩:=ownExq.1 h3
  obtain⟨w2,rfl,g4,g5,g6⟩:=ownExq.1 h5
  exact⟨w1,w2,ra,rc,rfl,⟨h1,h2,g1,g2,h4,g4,g5,h6⟩,by simp,by simpa using d,g3,g6⟩
 ·rintro⟨w1,w2,r1,r2,rfl,ok,rfl,d,h1,h2⟩
  exact⟨[_],_,Heap.nil,r1.add r2,rfl,by simp,by simp,⟨rfl,rfl,ok.frm⟩,[_],_,Heap.nil,r1.add r2,rfl,by simp,by simp,⟨rfl,rfl,ok.to⟩,[_,_,_],_,r1,r2,rfl,rfl,d,ownExq.2 ⟨_,rfl,ok.gk,ok.gv,h1⟩,
   [_],_,Heap.nil,r2,rfl,by simp,by simp,⟨rfl,rfl,ok.var⟩,[_,_,_],_,r2,Heap.nil,rfl,by simp,by simp,ownExq.2 ⟨_,rfl,ok.vk,ok.vv,h2⟩,rfl,rfl,ok.sync⟩
theorem Rep_Ed {e:Ed}:Rep h v e↔∃w1 w2,v=.agg (e.cs w1 w2).toArray∧e.ok∧Rep h w1 e.guard.kids∧Rep h w2 e.value.kids:=by
 constructor
 ·rintro⟨cs,rfl,H⟩
  obtain⟨w1,w2,rfl,h1⟩:=repEd.1 H
  exact⟨w1,w2,rfl,h1⟩
 ·rintro⟨w1,w2,rfl,h1⟩
  exact⟨_,rfl,repEd.2 ⟨w1,w2,rfl,h1⟩⟩
theorem HS.mkEd {e:Ed}{w1 w2:Value}(H:HS g (ow w1 e.guard.kids::ow w2 e.value.kids::Γ) h) (ok:e.ok):HS g (ow (.agg (e.cs w1 w2).toArray) e::Γ) h:=
 H.join2 fun r1 r2 d h1 h2=>⟨_,rfl,ownEd.2 ⟨w1,w2,r1,r2,rfl,ok,rfl,d,h1,h2⟩⟩
theorem Rep_Pr {p:Pr}:Rep h v p↔∃w,v=.agg #[.int .i64 p.locs,w]∧I64 p.locs∧Rep h w p.edges:=by
 constructor
 ·rintro⟨cs,rfl,c1,c2,rfl,⟨rfl,h1⟩,h2⟩
  obtain⟨w,rfl,h3⟩:=(rep1 (α:=List Ed) rfl).1 h2
  exact⟨w,rfl,h1,h3⟩
 ·rintro⟨w,rfl,h1,h2⟩
  exact⟨_,rfl,[_],[_],rfl,⟨rfl,h1⟩,(rep1 (α:=List Ed) rfl).2 ⟨w,rfl,h2⟩⟩
theorem HS.mkPr {p:Pr}{w:Value}(H:HS g (ow w p.edges::Γ) h) (h1:I64 p.locs):HS g (ow (.agg #[.int .i64 p.locs,w]) p::Γ) h:=
 H.imp fun r O=>⟨_,rfl,[_],[_],Heap.nil,r,rfl,by simp,by simp,⟨rfl,rfl,h1⟩,(own1 (α:=List Ed) rfl).2 ⟨w,rfl,O⟩⟩
theorem Rep_Sy {s:Sy}:Rep h v s↔∃w1 w2,v=.agg #[w1,w2]∧Rep h w1 s.init∧Rep h w2 s.procs:=by
 constructor
 ·rintro⟨cs,rfl,c1,c2,rfl,h1,h2⟩
  obtain⟨w1,rfl,h3⟩:=(rep1 (α:=List Int) rfl).1 h1
  obtain⟨w2,rfl,h4⟩:=(rep1 (α:=List Pr) rfl).1 h2
  exact⟨w1,w2,rfl,h3,h4⟩
 ·rintro⟨w1,w2,rfl,h1,h2⟩
  exact⟨_,rfl,[_],[_],rfl,(rep1 (α:=List Int) rfl).2 ⟨w1,rfl,h1⟩,(rep1 (α:=List Pr) rfl).2 ⟨w2,rfl,h2⟩⟩
theorem HS.mkSy {s:Sy}{w1 w2:Value}(H:HS g (ow w1 s.init::ow w2 s.procs::Γ) h):HS g (ow (.agg #[w1,w2]) s::Γ) h:=
 H.join2 fun r1 r2 d h1 h2=>⟨_,rfl,[_],[_],r1,r2,rfl,rfl,d,(own1 (α:=List Int) rfl).2 ⟨w1,rfl,h1⟩,(own1 (α:=List Pr) rfl).2 ⟨w2,rfl,h2⟩⟩
theorem Rep.aEd {x:Ed}(hr:Rep h v x):pgetV (some v) 0 (some 10)=some v∧v.cells.size=10∧allOne v.cells.toList=true∧Value.agg v.cells=v:=hr.A rfl rfl
theorem Rep.aPr {x:Pr}(hr:Rep h v x):pgetV (some v) 0 (some 2)=some v∧v.cells.size=2∧allOne v.cells.toList=true∧Value.agg v.cells=v:=hr.A rfl rfl
theorem Rep.aSy {x:Sy}(hr:Rep h v x):pgetV (some v) 0 (some 2)=some v∧v.cells.size=2∧allOne v.cells.toList=true∧Value.agg v.cells=v:=hr.A rfl rfl
end
section
variable {α:Type} [Ty α] {P:Program}{k:Env→Heap→Prop}{e:Env}{g h:Heap}{Γ:List HP}{v w:Value}{l:List α}{i:Nat}{cs:List Value}
theorem hld_parts {n:Nat}(hv:hload h (some (elp n v i)) (some n)=some (.agg cs.toArray)):(∀fo,faV fo (elp n v i)=some (elpo n v i fo))∧(∀a b,faV b (elpo n v i a)=some (elpo n v i (a+b))) ∧
  (∀fo,fo<n→hload h (some (elpo n v i fo)) none=cs[fo]?)∧(∀fo m,fo+m≤n→hload h (some (elpo n v i fo)) (some m)=some (.agg ((cs.drop fo).take m).toArray)):=by
 unfold elp at hv
 split at hv
 case h_2=>simp[undef,hload] at hv
 case h_1 p c d=>
  have hz:∃b off,p.add (i*n)=⟨b,off,none⟩:=by
   generalize hq:p.add (i*n)=q at hv
   obtain⟨b,off,sp⟩:=q
   cases sp with
   | none=>exact⟨b,off,rfl⟩
   | some s=>simp[hload] at hv
  obtain⟨b,off,hz⟩:=hz
  rw[hz] at hv
  simp only[hload,Option.map_eq_some_iff] at hv
  obtain⟨l,h1,h2⟩:=hv
  have h2:l=cs:=by simpa using h2
  subst h2
  have h3:=hcells_get h1
  have hsub:∀m fo,fo+m≤n→hcells h b (off+fo) m=some ((l.drop fo).take m):=by
   intro m
   induction m with
   | zero=>intro fo _;simp[hcells]
   | succ m ih=>
    intro fo hf
    have h4:=ih (fo+1) (by omega)
    have h5:=h3.2 fo (l[fo]'(by rw[h3.1];omega)) (List.getElem?_eq_getElem _)
    simp only[hcells,h5]
    rw[show off+fo+1=off+(fo+1) by omega,h4]
    simp only[Option.some.injEq]
    rw[List.drop_eq_getElem_cons (by rw[h3.1];omega:fo<l.length),List.take_succ_cons]
  refine⟨fun fo=>?_,fun a c=>?_,fun fo hf=>?_,fun fo m hf=>?_⟩
  ·simp only[elp,elpo,hz,add_none,faV]
  ·simp only[elpo,hz,add_none,faV]
   simp[Nat.add_assoc]
  ·have h5:=h3.2 fo (l[fo]'(by rw[h3.1];omega)) (List.getElem?_eq_getElem _)
   simp only[elpo,hz,add_none,hload,h5]
   exact (List.getElem?_eq_getElem _).symm
  ·simp only[elpo,hz,add_none,hload,hsub m fo hf]
   rfl
end
inductive Mix (α:Type) where
 | raw (cs:List Value)
 | new (x:α)
section
variable {α:Type} [Ty α]
def Mix.rep (h:Heap) (cs:List Value):Mix α→Prop
 | .raw c=>cs=c∧c.length=Ty.sz α∧∀v∈c,v.oneCell'=true
 | .new x=>Ty.rep h cs x
def Mix.own (r:Heap) (cs:List Value):Mix α→Prop
 | .raw c=>r=Heap.nil∧cs=c∧c.length=Ty.sz α∧∀v∈c,v.oneCell'=true
 | .new x=>Ty.own r cs x
instance instTyMix:Ty (Mix α) where
 agg:=Ty.agg α
 sz:=Ty.sz α
 rep:=Mix.rep
 own:=Mix.own
 one:=Ty.one
 len:=by
  intro h cs x hx
  cases x with
  | raw c=>obtain⟨rfl,h1,_⟩:=hx;exact h1
  | new x=>exact Ty.len (x:=x) hx
 cell:=by
  intro h cs x hx
  cases x with
  | raw c=>obtain⟨rfl,_,h1⟩:=hx;exact h1
  | new x=>exact Ty.cell (x:=x) hx
 mono:=by
  intro h h' cs x hl hx
  cases x with
  | raw c=>exact hx
  | new x=>exact Ty.mono (x:=x) hl hx
 own_rep:=by
  intro r cs x hx
  cases x with
  | raw c=>exact hx.2
  | new x=>exact Ty.own_rep (x:=x) hx
theorem ownL_new:∀{l:List α}{cs:List Value}{r:Heap},ownL (l.map Mix.new) cs r→ownL l cs r
 | [],_,_,H=>H
 | x::l,cs,r,⟨r1,r2,h1,h2,h3,h4⟩=>⟨r1,r2,h1,h2,h3,ownL_new h4⟩
theorem HS.mixed {g h:Heap}{Γ:List HP}{v:Value}{l:List α}(H:HS g (ow v (l.map Mix.new)::Γ) h):HS g (ow v l::Γ) h:=by
 refine H.imp fun r O=>?_
 have O:Own r v (l.map (Mix.new (α:=α))):=O
 rcases Own_list.1 O with ⟨p,rfl,h1,h2,h3⟩ | ⟨b,off,cap,cells,el,r',rfl,h1,h2,h3,h4,h5⟩
 ·exact Own_list.2 (.inl ⟨p,rfl,by simpa using h1,h2,h3⟩)
 ·exact Own_list.2 (.inr ⟨b,off,cap,cells,el,r',by simp,by simpa using h1,h2,h3,h4,ownL_new h5⟩)
structure Raws (h:Heap) (l:List α) (M:List (Mix α)):Prop where
 len:M.length=l.length
 at':∀(i:Nat) (hi:i<l.length),∃c,M[i]? = some (.raw c)∧Ty.rep h c l[i]
end
structure Mixed {α:Type} [Ty α] (h:Heap) (l:List α) (f:α→α) (M:List (Mix α)) (i:Nat):Prop where
 len:M.length=l.length
 done:M.take i=((l.map f).take i).map Mix.new
 rest:∀(j:Nat) (hj:j<l.length),i≤j→∃c,M[j]? = some (.raw c)∧Ty.rep h c l[j]
section
variable {α:Type} [Ty α] {h:Heap}{l:List α}{f:α→α}{M:List (Mix α)}{i:Nat}
theorem Mixed.zero (R:Raws h l M):Mixed h l f M 0:=⟨R.len,rfl,fun j hj _=>R.at' j hj⟩
theorem Mixed.le {h':Heap}(H:Mixed h l f M i) (hl:h.le h'):Mixed h' l f M i:=⟨H.len,H.done,fun j hj hij=>by
 obtain⟨c,h1,h2⟩:=H.rest j hj hij
 exact⟨c,h1,Ty.mono hl h2⟩⟩
theorem Mixed.get (H:Mixed h l f M i) (hi:i<l.length):∃c,M[i]'(by rw[H.len];exact hi)=.raw c∧Ty.rep h c l[i]:=by
 obtain⟨c,h1,h2⟩:=H.rest i hi (Nat.le_refl i)
 refine⟨c,?_,h2⟩
 rw[List.getElem?_eq_getElem (by rw[H.len];exact hi)] at h1
 exact Option.some.inj h1
theorem Mixed.step (H:Mixed h l f M i) (hi:i<l.length):Mixed h l f (M.set i (.new (f l[i]))) (i+1):=by
 refine⟨by simp[H.len],?_,fun j hj hij=>?_⟩
 ·have h1:M.take i=(l.map fun x=>Mix.new (f x)).take i:=by rw[H.done,List.map_take,List.map_map];rfl
  have:=take_set_succ (x:=l.map fun x=>Mix.new (f x)) h1 (by simpa using hi) (by simp[H.len])
  rw[List.getElem_map] at this
  rw[this,List.map_take,List.map_map]
  rfl
 ·rw[List.getElem?_set_ne (by omega)]
  exact H.rest j hj (by omega)
theorem Mixed.all (H:Mixed h l f M i) (hi:l.length≤i):M=(l.map f).map Mix.new:=by
 have:=H.done
 rw[List.take_of_length_le (by rw[H.len];exact hi),List.take_of_length_le (by simpa using hi)] at this
 exact this
end
mutual
def Exq.size:Exq→Nat
 | .mk _ _ l=>Exq.sizes l
def Exq.sizes:List Exq→Nat
 | []=>0
 | x::l=>1+x.size+Exq.sizes l
end
instance instSzExq:Sz Exq:=⟨Exq.size⟩
theorem Exq.sizes_eq:∀l,Exq.sizes l=Sz.sz l
 | []=>by simp[Exq.sizes,sz_list,szL]
 | x::l=>by
  have:=Exq.sizes_eq l
  rw[sz_list] at this ⊢
  simp only[Exq.sizes,szL,List.length_cons,this]
  show 1+Sz.sz x+_=_
  omega
theorem sz_Exq (x:Exq):Sz.sz x=Sz.sz x.kids:=by
 cases x with
 | mk k v l=>exact Exq.sizes_eq l
instance instSzEd:Sz Ed:=⟨fun e=>Sz.sz e.guard+Sz.sz e.value⟩
instance instSzPr:Sz Pr:=⟨fun p=>Sz.sz p.edges⟩
instance instSzSy:Sz Sy:=⟨fun s=>Sz.sz s.init+Sz.sz s.procs⟩
mutual
def Exq.cnt:Exq→Nat
 | .mk _ _ l=>2+Exq.cnts l
def Exq.cnts:List Exq→Nat
 | []=>0
 | x::l=>x.cnt+Exq.cnts l
end
mutual
def Exq.wr:Int→Exq→Exq
 | k,.mk _ _ l=>.mk k (k+1) (Exq.wrs (k+2) l)
def Exq.wrs:Int→List Exq→List Exq
 | _,[]=>[]
 | k,x::l=>x.wr k::Exq.wrs (k+x.cnt) l
end
mutual
theorem Exq.cnt_wr:∀(k:Int) (x:Exq),(Exq.wr k x).cnt=x.cnt
 | k,.mk _ _ l=>by simp only[Exq.wr,Exq.cnt,Exq.cnts_wrs (k+2) l]
theorem Exq.cnts_wrs:∀(k:Int) (l:List Exq),Exq.cnts (Exq.wrs k l)=Exq.cnts l
 | _,[]=>rfl
 | k,x::l=>by simp only[Exq.wrs,Exq.cnts,Exq.cnt_wr k x,Exq.cnts_wrs (k+x.cnt) l]
end
mutual
theorem Exq.wr_wr:∀(k j:Int) (x:Exq),Exq.wr k (Exq.wr j x)=Exq.wr k x
 | k,j,.mk _ _ l=>by simp only[Exq.wr,Exq.wrs_wrs (k+2) (j+2) l]
theorem Exq.wrs_wrs:∀(k j:Int) (l:List Exq),Exq.wrs k (Exq.wrs j l)=Exq.wrs k l
 | _,_,[]=>rfl
 | k,j,x::l=>by simp only[Exq.wrs,Exq.cnt_wr j x,Exq.wr_wr k j x,Exq.wrs_wrs (k+x.cnt) (j+x.cnt) l]
end
instance instMkExq:Mk Exq:=⟨Exq.cnt,Exq.wr,Exq.cnt_wr,Exq.wr_wr⟩
instance instMkEd:Mk Ed:=⟨fun e=>Mk.cnt e.frm+Mk.cnt e.to+Mk.cnt e.guard+Mk.cnt e.var+Mk.cnt e.value+Mk.cnt e.sync,
 fun k e=>⟨Mk.wr k e.frm,Mk.wr (k+Mk.cnt e.frm) e.to,Mk.wr (k+Mk.cnt e.frm+Mk.cnt e.to) e.guard,Mk.wr (k+Mk.cnt e.frm+Mk.cnt e.to+Mk.cnt e.guard) e.var,
  Mk.wr (k+Mk.cnt e.frm+Mk.cnt e.to+Mk.cnt e.guard+Mk.cnt e.var) e.value,Mk.wr (k+Mk.cnt e.frm+Mk.cnt e.to+Mk.cnt e.guard+Mk.cnt e.var+Mk.cnt e.value) e.sync⟩,
 fun k a=>by simp[Mk.cnt_wr],fun k j a=>by simp[Mk.cnt_wr,Mk.wr_wr]⟩
instance instMkPr:Mk Pr:=⟨fun p=>Mk.cnt p.locs+Mk.cnt p.edges,fun k p=>⟨Mk.wr k p.locs,Mk.wr (k+Mk.cnt p.locs) p.edges⟩,fun k a=>by simp[Mk.cnt_wr],fun k j a=>by simp[Mk.cnt_wr,Mk.wr_wr]⟩
instance instMkSy:Mk Sy:=⟨fun p=>Mk.cnt p.init+Mk.cnt p.procs,fun k p=>⟨Mk.wr k p.init,Mk.wr (k+Mk.cnt p.init) p.procs⟩,fun k a=>by simp[Mk.cnt_wr],fun k j a=>by simp[Mk.cnt_wr,Mk.wr_wr]⟩
end Go.Proofs.YtjbjnicobdpdhaaDoor

namespace Go.Proofs.YtjbjnicobdpdhaaDoor
open Go Go.RowKit
def RdF (P:Program) (t:TypeId) (α:Type) [Ty α] (fuel:Nat):Prop:=∀{H:Type}(enc:TypeId×Value→H) (W:World) (sp:Nat→Bool) (cs:List Value) (x:DataW H×List MemPlace),
 DataW.trod enc P W 0 sp true fuel t cs=some x→wOk P t x.1→∃y:α,Ty.rep (whole W) cs y
theorem rd_listF {P:Program}{t:TypeId}{α:Type} [Ty α] {e:TypeId}(ht:P.underlying t=some (.slice e)) (hc:P.cellsOf e=Ty.sz α) (hpos:0<Ty.sz α) (hby:0<P.bytesOf e) {fuel:Nat}(he:∀n,n<fuel→RdF P e α n):RdF P t (List α) fuel:=by
 intro H enc W sp cs x h hwt
 rcases DataW.trod_slice ht h with ⟨rfl,_⟩ | ⟨a,len,cap,elems,rest,n,hfu,rfl,rfl,hb,hlc,hm,hlen,hel,hsp,hns⟩
 ·exact⟨[],none,0,rfl,by simp,trivial,fun i hi=>by simp at hi⟩
 ·simp only[wOk,DataW.weights,ht,List.mem_cons,List.mem_append] at hwt
  have hsz:len≤reachBytes:=by
   have h1:=hwt _ (.inl rfl)
   simp only[List.length_map] at h1
   have h2:len*1≤(elems.length+rest.length)*P.bytesOf e:=Nat.mul_le_mul (by omega) hby
   omega
  have hwe:=wOk_all (fun n hn=>hwt n (.inr (.inl hn)))
  have hall:∀i,i<len→∃y:α,∃b off vs,some a=some (⟨b,off,none⟩:Addr)∧hcells (whole W) b (off+i*Ty.sz α) (Ty.sz α)=some vs∧Ty.rep (whole W) vs y:=by
   intro i hi
   have hget:∀i,(hi:i<len)→∃cs',W.cells? 0 (a.add (i*P.cellsOf e)) (P.cellsOf e)=some cs'∧DataW.trod enc P W 0 sp true n e cs'=some (elems[i]'(by omega)):=by
    intro i hi
    have h1:=hel i hi
    rw[List.getElem?_eq_getElem (by omega)] at h1
    exact Option.bind_eq_some_iff.1 h1
   obtain⟨cs',h1,h2⟩:=hget i hi
   obtain⟨y,hy⟩:=he n (by omega) enc W sp cs' _ h2 (hwe _ (List.mem_map.2 ⟨_,List.getElem_mem (by omega),rfl⟩))
   obtain⟨b,off,spot⟩:=a
   rw[hc] at h1
   have h0:spot=none:=by
    cases spot with
    | none=>rfl
    | some s=>
     obtain⟨cs0,g1,_⟩:=hget 0 (by omega)
     rw[hc] at g1
     simp only[Nat.zero_mul,Addr.add,if_true] at g1
     rw[cells_spot hpos] at g1
     simp at g1
   subst h0
   rw[addr_add0] at h1
   exact⟨y,b,off,cs',rfl,cells_whole h1,hy⟩
  have hch:∃l:List α,l.length=len∧∀i (hi:i<l.length),∃b off vs,some a=some (⟨b,off,none⟩:Addr)∧hcells (whole W) b (off+i*Ty.sz α) (Ty.sz α)=some vs∧Ty.rep (whole W) vs l[i]:=by
   refine⟨(List.finRange len).map fun i=>Classical.choose (hall i.1 i.2),by simp,fun i hi=>?_⟩
   have hi':i<len:=by simpa using hi
   have:=Classical.choose_spec (hall i hi')
   simpa using this
  obtain⟨l,hl,hr⟩:=hch
  refine⟨l,some a,cap,by rw[hl],⟨by omega,?_⟩,trivial,hr⟩
  have:reachBytes<4611686018427387904:=by decide
  omega
end Go.Proofs.YtjbjnicobdpdhaaDoor

namespace Go.Proofs.YtjbjnicobdpdhaaDoor
open Go Go.RowKit Go.ChangeShapes
theorem laid:laidOutB Tryd.prog=true:=by kernel_rfl
theorem own0:ownKnob Tryd.prog.godebug=none:=by kernel_rfl
theorem rdF_Exq:∀fuel,RdF Tryd.prog 89 Exq fuel:=by
 intro fuel
 induction fuel using Nat.strongRecOn with
 | _ fuel ih=>
 intro H enc W sp cs x h hwt
 obtain⟨xs,n,hfu,rfl,hlen,hxs,hf⟩:=DataW.trod_struct Tryd.underlying89 h
 rw[show Tryd.prog.cellsOf 89=3 from by kernel_rfl] at hlen
 simp only[wOk,DataW.weights,Tryd.underlying89] at hwt
 have hw:=wOk_each hwt
 have hxs:xs.length=3:=hxs
 have F0:∃y:Int,Ty.rep (whole W) ((cs.drop 0).take 1) y:=by
  have h1:=hf 0 _ rfl
  rw[show Tryd.prog.cellsOf _=1 from by kernel_rfl,List.getElem?_eq_getElem (by omega:0<xs.length)] at h1
  exact rd_int Tryd.underlying3 enc W sp n _ _ h1 (hw 0 _ _ rfl (by simp[hxs]))
 have F1:∃y:Int,Ty.rep (whole W) ((cs.drop 1).take 1) y:=by
  have h1:=hf 1 _ rfl
  rw[show Tryd.prog.cellsOf _=1 from by kernel_rfl,List.getElem?_eq_getElem (by omega:1<xs.length)] at h1
  exact rd_int Tryd.underlying3 enc W sp n _ _ h1 (hw 1 _ _ rfl (by simp[hxs]))
 have F2:∃y:List Exq,Ty.rep (whole W) ((cs.drop 2).take 1) y:=by
  have h1:=hf 2 _ rfl
  rw[show Tryd.prog.cellsOf _=1 from by kernel_rfl,List.getElem?_eq_getElem (by omega:2<xs.length)] at h1
  exact rd_listF (α:=Exq) Tryd.underlying87 (by kernel_rfl) (by decide) (by rw[show Tryd.prog.bytesOf 89=40 from by kernel_rfl];decide) (fun m hm=>ih m (by omega)) enc W sp _ _ h1 (hw 2 _ _ rfl (by simp[hxs]))
 have G2:∃y:List Exq,Ty.rep (whole W) (cs.drop 2) y:=by
  rw[List.take_of_length_le (by simp;omega)] at F2
  exact F2
 have G1:∃y:Int×List Exq,Ty.rep (whole W) (cs.drop 1) y:=rd_two F1 (by rw[List.drop_drop];exact G2)
 have G0:∃y:Int×Int×List Exq,Ty.rep (whole W) (cs.drop 0) y:=rd_two F0 (by rw[List.drop_drop];exact G1)
 obtain⟨z,hz⟩:=G0
 exact⟨Exq.mk z.1 z.2.1 z.2.2,Exq.rep_iff.2 hz⟩
theorem rd_Exq:RdT Tryd.prog 89 Exq:=fun enc W sp fuel cs x h hw=>rdF_Exq fuel enc W sp cs x h hw
theorem rd_Ed:RdT Tryd.prog 91 Ed:=by
 intro H enc W sp fuel cs x h hwt
 obtain⟨xs,n,rfl,rfl,hlen,hxs,hf⟩:=DataW.trod_struct Tryd.underlying91 h
 rw[show Tryd.prog.cellsOf 91=10 from by kernel_rfl] at hlen
 simp only[wOk,DataW.weights,Tryd.underlying91] at hwt
 have hw:=wOk_each hwt
 have hxs:xs.length=6:=hxs
 have F0:∃y:Int,Ty.rep (whole W) ((cs.drop 0).take 1) y:=by
  have h1:=hf 0 _ rfl
  rw[show Tryd.prog.cellsOf _=1 from by kernel_rfl,List.getElem?_eq_getElem (by omega:0<xs.length)] at h1
  exact rd_int Tryd.underlying3 enc W sp n _ _ h1 (hw 0 _ _ rfl (by simp[hxs]))
 have F1:∃y:Int,Ty.rep (whole W) ((cs.drop 1).take 1) y:=by
  have h1:=hf 1 _ rfl
  rw[show Tryd.prog.cellsOf _=1 from by kernel_rfl,List.getElem?_eq_getElem (by omega:1<xs.length)] at h1
  exact rd_int Tryd.underlying3 enc W sp n _ _ h1 (hw 1 _ _ rfl (by simp[hxs]))
 have F2:∃y:Exq,Ty.rep (whole W) ((cs.drop 2).take 3) y:=by
  have h1:=hf 2 _ rfl
  rw[show Tryd.prog.cellsOf _=3 from by kernel_rfl,List.getElem?_eq_getElem (by omega:2<xs.length)] at h1
  exact rd_Exq enc W sp n _ _ h1 (hw 2 _ _ rfl (by simp[hxs]))
 have F3:∃y:Int,Ty.rep (whole W) ((cs.drop 5).take 1) y:=by
  have h1:=hf 3 _ rfl
  rw[show Tryd.prog.cellsOf _=1 from by kernel_rfl,List.getElem?_eq_getElem (by omega:3<xs.length)] at h1
  exact rd_int Tryd.underlying3 enc W sp n _ _ h1 (hw 3 _ _ rfl (by simp[hxs]))
 have F4:∃y:Exq,Ty.rep (whole W) ((cs.drop 6).take 3) y:=by
  have h1:=hf 4 _ rfl
  rw[show Tryd.prog.cellsOf _=3 from by kernel_rfl,List.getElem?_eq_getElem (by omega:4<xs.length)] at h1
  exact rd_Exq enc W sp n _ _ h1 (hw 4 _ _ rfl (by simp[hxs]))
 have F5:∃y:Int,Ty.rep (whole W) ((cs.drop 9).take 1) y:=by
  have h1:=hf 5 _ rfl
  rw[show Tryd.prog.cellsOf _=1 from by kernel_rfl,List.getElem?_eq_getElem (by omega:5<xs.length)] at h1
  exact rd_int Tryd.underlying3 enc W sp n _ _ h1 (hw 5 _ _ rfl (by simp[hxs]))
 have G5:∃y:Int,Ty.rep (whole W) (cs.drop 9) y:=by
  rw[List.take_of_length_le (by simp;omega)] at F5
  exact F5
 have G4:∃y:Exq×Int,Ty.rep (whole W) (cs.drop 6) y:=rd_two F4 (by rw[List.drop_drop];exact G5)
 have G3:∃y:Int×Exq×Int,Ty.rep (whole W) (cs.drop 5) y:=rd_two F3 (by rw[List.drop_drop];exact G4)
 have G2:∃y:Exq×Int×Exq×Int,Ty.rep (whole W) (cs.drop 2) y:=rd_two F2 (by rw[List.drop_drop];exact G3)
 have G1:∃y:Int×Exq×Int×Exq×Int,Ty.rep (whole W) (cs.drop 1) y:=rd_two F1 (by rw[List.drop_drop];exact G2)
 have G0:∃y:Int×Int×Exq×Int×Exq×Int,Ty.rep (whole W) (cs.drop 0) y:=rd_two F0 (by rw[List.drop_drop];exact G1)
 obtain⟨z,hz⟩:=G0
 exact⟨⟨z.1,z.2.1,z.2.2.1,z.2.2.2.1,z.2.2.2.2.1,z.2.2.2.2.2⟩,hz⟩
theorem rd_Pr:RdT Tryd.prog 56 Pr:=by
 intro H enc W sp fuel cs x h hwt
 obtain⟨xs,n,rfl,rfl,hlen,hxs,hf⟩:=DataW.trod_struct Tryd.underlying56 h
 rw[show Tryd.prog.cellsOf 56=2 from by kernel_rfl] at hlen
 simp only[wOk,DataW.weights,Tryd.underlying56] at hwt
 have hw:=wOk_each hwt
 have hxs:xs.length=2:=hxs
 have F0:∃y:Int,Ty.rep (whole W) ((cs.drop 0).take 1) y:=by
  have h1:=hf 0 _ rfl
  rw[show Tryd.prog.cellsOf _=1 from by kernel_rfl,List.getElem?_eq_getElem (by omega:0<xs.length)] at h1
  exact rd_int Tryd.underlying3 enc W sp n _ _ h1 (hw 0 _ _ rfl (by simp[hxs]))
 have F1:∃y:List (Ed),Ty.rep (whole W) ((cs.drop 1).take 1) y:=by
  have h1:=hf 1 _ rfl
  rw[show Tryd.prog.cellsOf _=1 from by kernel_rfl,List.getElem?_eq_getElem (by omega:1<xs.length)] at h1
  exact rd_list (α:=Ed) Tryd.underlying54 (by kernel_rfl) (by decide) (by rw[show Tryd.prog.bytesOf 91=112 from by kernel_rfl];decide) (rd_Ed) enc W sp n _ _ h1 (hw 1 _ _ rfl (by simp[hxs]))
 have G1:∃y:(List (Ed)),Ty.rep (whole W) (cs.drop 1) y:=by
  rw[List.take_of_length_le (by simp;omega)] at F1
  exact F1
 have G0:∃y:Int×(List (Ed)),Ty.rep (whole W) (cs.drop 0) y:=rd_two F0 (by rw[List.drop_drop];exact G1)
 obtain⟨z,hz⟩:=G0
 exact⟨⟨z.1,z.2⟩,hz⟩
theorem rd_Sy:RdT Tryd.prog 25 Sy:=by
 intro H enc W sp fuel cs x h hwt
 obtain⟨xs,n,rfl,rfl,hlen,hxs,hf⟩:=DataW.trod_struct Tryd.underlying25 h
 rw[show Tryd.prog.cellsOf 25=2 from by kernel_rfl] at hlen
 simp only[wOk,DataW.weights,Tryd.underlying25] at hwt
 have hw:=wOk_each hwt
 have hxs:xs.length=2:=hxs
 have F0:∃y:List (Int),Ty.rep (whole W) ((cs.drop 0).take 1) y:=by
  have h1:=hf 0 _ rfl
  rw[show Tryd.prog.cellsOf _=1 from by kernel_rfl,List.getElem?_eq_getElem (by omega:0<xs.length)] at h1
  exact rd_list (α:=Int) Tryd.underlying22 (by kernel_rfl) (by decide) (by rw[show Tryd.prog.bytesOf 3=8 from by kernel_rfl];decide) (rd_int Tryd.underlying3) enc W sp n _ _ h1 (hw 0 _ _ rfl (by simp[hxs]))
 have F1:∃y:List (Pr),Ty.rep (whole W) ((cs.drop 1).take 1) y:=by
  have h1:=hf 1 _ rfl
  rw[show Tryd.prog.cellsOf _=1 from by kernel_rfl,List.getElem?_eq_getElem (by omega:1<xs.length)] at h1
  exact rd_list (α:=Pr) Tryd.underlying23 (by kernel_rfl) (by decide) (by rw[show Tryd.prog.bytesOf 56=32 from by kernel_rfl];decide) (rd_Pr) enc W sp n _ _ h1 (hw 1 _ _ rfl (by simp[hxs]))
 have G1:∃y:(List (Pr)),Ty.rep (whole W) (cs.drop 1) y:=by
  rw[List.take_of_length_le (by simp;omega)] at F1
  exact F1
 have G0:∃y:(List (Int))×(List (Pr)),Ty.rep (whole W) (cs.drop 0) y:=rd_two F0 (by rw[List.drop_drop];exact G1)
 obtain⟨z,hz⟩:=G0
 exact⟨⟨z.1,z.2⟩,hz⟩
abbrev fn_main_main:Nat:=0
abbrev fn_gosem_cut:Nat:=1
abbrev fn_gosem_cut_init:Nat:=2
abbrev fn_laws_FnExactFormatSystem:Nat:=3
abbrev fn_laws_szSystem:Nat:=4
abbrev fn_spec_FormatSystem:Nat:=5
abbrev fn_laws_toSystem:Nat:=6
abbrev fn_impl_FormatSystem:Nat:=7
abbrev fn_laws_eqSystem:Nat:=8
abbrev fn_laws_szIntS:Nat:=9
abbrev fn_laws_szProcessS:Nat:=10
abbrev fn_spec_SystemValid:Nat:=11
abbrev fn_spec_l16Dec:Nat:=12
abbrev fn_spec_l2Line:Nat:=13
abbrev fn_laws_toIntS:Nat:=14
abbrev fn_laws_toProcessS:Nat:=15
abbrev fn_impl_SystemValid:Nat:=16
abbrev fn_impl_row:Nat:=17
abbrev fn_strconv_Itoa:Nat:=18
abbrev fn_impl_Expr_text:Nat:=19
abbrev fn_impl_syncText:Nat:=20
abbrev fn_laws_eqIntS:Nat:=21
abbrev fn_laws_eqProcessS:Nat:=22
abbrev fn_laws_szProcess:Nat:=23
abbrev fn_spec_l2Process:Nat:=24
abbrev fn_spec_l1Vals:Nat:=25
abbrev fn_spec_l1Format:Nat:=26
abbrev fn_laws_toProcess:Nat:=27
abbrev fn_impl_valsOk:Nat:=28
abbrev fn_impl_in:Nat:=29
abbrev fn_slices_ContainsFunc_S_impl_Edge_impl_Edge:Nat:=30
abbrev fn_impl_SystemValid_1:Nat:=31
abbrev fn_impl_EdgeValid:Nat:=32
abbrev fn_strings_Join:Nat:=33
abbrev fn_internal_strconv_Itoa:Nat:=34
abbrev fn_laws_eqProcess:Nat:=35
abbrev fn_laws_szEdgeS:Nat:=36
abbrev fn_spec_EdgeValid:Nat:=37
abbrev fn_spec_l1Sign:Nat:=38
abbrev fn_laws_toEdgeS:Nat:=39
abbrev fn_slices_ContainsFunc_S_int_int:Nat:=40
abbrev fn_impl_valsOk_1:Nat:=41
abbrev fn_slices_IndexFunc_S_impl_Edge_impl_Edge:Nat:=42
abbrev fn_impl_ExprValid:Nat:=43
abbrev fn_impl_ExprSame:Nat:=44
abbrev fn_strings_Builder_Grow:Nat:=45
abbrev fn_strings_Builder_WriteString:Nat:=46
abbrev fn_strings_Builder_String:Nat:=47
abbrev fn_internal_strconv_FormatInt:Nat:=48
abbrev fn_laws_eqEdgeS:Nat:=49
abbrev fn_laws_szEdge:Nat:=50
abbrev fn_spec_ExprValid:Nat:=51
abbrev fn_spec_l2None:Nat:=52
abbrev fn_laws_toEdge:Nat:=53
abbrev fn_slices_IndexFunc_S_int_int:Nat:=54
abbrev fn_impl_ExprNodes:Nat:=55
abbrev fn_slices_EqualFunc_S_impl_Expr_S_impl_Expr_impl_Expr_impl_Expr:Nat:=56
abbrev fn_strings_Builder_copyCheck:Nat:=57
abbrev fn_strings_Builder_grow:Nat:=58
abbrev fn_internal_strconv_small:Nat:=59
abbrev fn_internal_strconv_numDigits:Nat:=60
abbrev fn_internal_strconv_formatBase10:Nat:=61
abbrev fn_internal_strconv_formatBits:Nat:=62
abbrev fn_laws_eqEdge:Nat:=63
abbrev fn_laws_szExpr:Nat:=64
abbrev fn_spec_l1Shape:Nat:=65
abbrev fn_spec_l1Count:Nat:=66
abbrev fn_laws_toExpr:Nat:=67
abbrev fn_impl_Expr_walk:Nat:=68
abbrev fn_internal_abi_NoEscape:Nat:=69
abbrev fn_internal_bytealg_MakeNoZero:Nat:=70
abbrev fn_internal_strconv_log10Pow2:Nat:=71
abbrev fn_math_bits_Len64:Nat:=72
abbrev fn_internal_strconv_bool2_int:Nat:=73
abbrev fn_internal_strconv_isPowerOfTwo:Nat:=74
abbrev fn_math_bits_TrailingZeros:Nat:=75
abbrev fn_laws_eqExpr:Nat:=76
abbrev fn_laws_szExprS:Nat:=77
abbrev fn_spec_l1Arity:Nat:=78
abbrev fn_laws_toExprS:Nat:=79
abbrev fn_slices_ContainsFunc_S_impl_Expr_impl_Expr:Nat:=80
abbrev fn_impl_Expr_walk_1:Nat:=81
abbrev fn_math_bits_TrailingZeros32:Nat:=82
abbrev fn_math_bits_TrailingZeros64:Nat:=83
abbrev fn_laws_eqExprS:Nat:=84
abbrev fn_slices_IndexFunc_S_impl_Expr_impl_Expr:Nat:=85
abbrev fn_runtime_boundsError_Error:Nat:=86
abbrev fn_runtime_boundsError_RuntimeError:Nat:=87
abbrev fn_runtime_errorString_Error:Nat:=88
abbrev fn_runtime_errorString_RuntimeError:Nat:=89
abbrev fn_runtime_plainError_Error:Nat:=90
abbrev fn_runtime_plainError_RuntimeError:Nat:=91
abbrev fn_runtime_errorAddressString_Error:Nat:=92
abbrev fn_runtime_errorAddressString_RuntimeError:Nat:=93
abbrev fn_runtime_TypeAssertionError_Error:Nat:=94
abbrev fn_runtime_TypeAssertionError_RuntimeError:Nat:=95
abbrev fn_runtime_PanicNilError_Error:Nat:=96
abbrev fn_runtime_PanicNilError_RuntimeError:Nat:=97
abbrev fn_internal_abi_Type_Align:Nat:=98
abbrev fn_internal_runtime_maps_unhashableTypeError_Error:Nat:=99
abbrev fn_internal_runtime_maps_unhashableTypeError_RuntimeError:Nat:=100
abbrev fn_impl_System_copyOf:Nat:=101
abbrev fn_impl_Process_reach:Nat:=102
abbrev fn_impl_Edge_same:Nat:=103
abbrev fn_strings_Builder_Reset:Nat:=104
abbrev fn_internal_abi_Kind_String:Nat:=105
abbrev fn_var_s_door_gosem_cut_vars_holds_initialisers_alone_see_the_manifest_s_row_cutvarsword_look_11_test_files_too:Nat:=106
abbrev fn_var_s_door_internal_strconv_uint64pow10_is_laid_by_its_own_initialiser_plain_data_look_11:Nat:=107
abbrev fn_var_s_door_impl_exprSigns_is_laid_by_its_own_initialiser_plain_data_look_11:Nat:=108
abbrev fn_var_s_door_math_bits_deBruijn32tab_is_laid_by_its_own_initialiser_plain_data_look_11:Nat:=109
abbrev fn_var_s_door_math_bits_deBruijn64tab_is_laid_by_its_own_initialiser_plain_data_look_11:Nat:=110
abbrev fn_var_s_door_the_look_of_gosem_cut_vars_went_over_the_folder_that_the_caller_named_as_the_repository_s_root_look_11:Nat:=111
abbrev fn_gosem_cut_vars:Nat:=112
def H_slices_IndexFunc_S_int_int:Hint:=⟨[(0,false),(1,false),(4,false),(5,false),(7,false),(8,false)],[[2,3]]⟩
abbrev K54_1:C:=.seq (.pl <| .e 6 0 <|
 .x 2 (.mv (.c (.int .i64 (-1)))) .done) (.ret)
abbrev K54_2:C:=.pl <| .e 6 1 <|
 .x 6 (.bin .add (.v 5) (.c (.int .i64 1))) <|
 .m 5 6 .done
abbrev K54_3:C:=.seq (.pl <| .e 6 1 <|
 .m 6 3 <|
 .m 2 6 .done) (.ret)
abbrev K54_4:C:=.cond 6 (.v 11) K54_3 (.skip)
abbrev K54_5:C:=.seq (.pl <| .e 6 6 <|
 .m 6 1 <|
 .m 7 0 <|
 .m 8 3 <|
 .x 9 (.ia 1 (.v 7) (.v 8)) <|
 .l 10 9 <|
 .c 11 (.callv (.v 6) [.v 10]) .done) K54_4
abbrev K54_6:C:=.seq (.block 1 (.seq (.pl <| .e 6 1 <|
 .m 6 5 <|
 .m 3 6 .done) K54_5)) K54_2
abbrev K54_7:C:=.seq (.cond 6 (.v 6) (.skip) (.exit 0)) K54_6
abbrev K54_8:C:=.seq (.pl <| .e 6 1 <|
 .x 6 (.bin .lss (.v 5) (.v 4)) .done) K54_7
abbrev K54_9:C:=.block 0 (.loop 6 [2,3] K54_8)
abbrev K54_10:C:=.seq (.seq (.pl <| .e 6 1 <|
 .m 6 0 <|
 .x 4 (.lenV (.v 6)) <|
 .x 5 (.mv (.c (.int .i64 0))) .done) K54_9) K54_1
abbrev B_slices_IndexFunc_S_int_int:C:=.seq (.pl <| .e 6 0 <|
 .x 2 (.mv (.c (.int .i64 0))) .done) K54_10
def R_slices_IndexFunc_S_int_int:FIR:=⟨B_slices_IndexFunc_S_int_int,6,[(2,none)]⟩
theorem IR_slices_IndexFunc_S_int_int:cfun Tryd.prog H_slices_IndexFunc_S_int_int Tryd.f54=some R_slices_IndexFunc_S_int_int:=by kernel_rfl
theorem EN_slices_IndexFunc_S_int_int:ENT Tryd.prog B_slices_IndexFunc_S_int_int [(2,none)] 2 6 fn_slices_IndexFunc_S_int_int:=fun hargs hw=>enter Tryd.func54 rfl IR_slices_IndexFunc_S_int_int hargs hw
def H_spec_EdgeValid:Hint:=⟨[(0,false),(1,false),(2,true),(4,false)],[]⟩
abbrev K37_1:Pl:=.n 12 (.px (some 20) (.pick (.v 16) (.v 19) (.c (.bool false)))) <|
 .x 21 (.pick (.v 12) (.c (.bool true)) (.v 20)) <|
 .m 3 21 .done
abbrev K37_2:Pl:=.x 11 (.pick (.v 7) (.v 10) (.c (.bool false))) <|
 .m 12 11 <|
 .n 12 (.als 13 none 2) <|
 .n 12 (.pget (some 14) (some 13) 2 5 none) <|
 .n 12 (.px (some 15) (.bin .geq (.v 14) (.c (.int .i64 0)))) <|
 .n 12 (.px (some 16) (.mv (.v 15))) <|
 .y 16 (.als 17 none 2) <|
 .y 16 (.pget (some 18) (some 17) 2 6 (some 3)) <|
 .st (.act (some (.v 16,true)) (.ex (some 19) (.call fn_spec_ExprValid [.v 18]))) K37_1
abbrev K37_3:C:=.seq (.pl <| .e 4 18 <|
 .a 4 2 <|
 .g 5 4 2 5 <|
 .x 6 (.bin .lss (.v 5) (.c (.int .i64 0))) <|
 .m 7 6 <|
 .y 7 (.als 8 none 2) <|
 .y 7 (.pget (some 9) (some 8) 2 6 (some 3)) <|
 .st (.act (some (.v 7,true)) (.ex (some 10) (.call fn_spec_l2None [.v 9]))) K37_2) (.ret)
abbrev K37_4:C:=.seq (.pl <| .e 4 0 <|
 .x 3 (.mv (.c (.bool false))) .done) (.ret)
abbrev K37_5:C:=.cond 4 (.v 21) K37_4 (.skip)
abbrev K37_6:C:=.seq (.seq (.pl <| .e 4 18 <|
 .a 4 2 <|
 .g 5 4 2 9 <|
 .x 6 (.bin .lss (.v 5) (.c (.int .i64 (-2)))) <|
 .m 7 6 <|
 .n 7 (.als 8 none 2) <|
 .n 7 (.pget (some 9) (some 8) 2 9 none) <|
 .n 7 (.px (some 10) (.bin .gtr (.v 9) (.c (.int .i64 2)))) <|
 .x 11 (.pick (.v 7) (.c (.bool true)) (.v 10)) <|
 .m 12 11 <|
 .n 12 (.als 13 none 2) <|
 .n 12 (.pget (some 14) (some 13) 2 5 none) <|
 .n 12 (.px (some 15) (.bin .lss (.v 14) (.c (.int .i64 (-1))))) <|
 .x 16 (.pick (.v 12) (.c (.bool true)) (.v 15)) <|
 .m 17 16 <|
 .n 17 (.als 18 none 2) <|
 .n 17 (.pget (some 19) (some 18) 2 5 none) <|
 .n 17 (.px (some 20) (.bin .geq (.v 19) (.c (.int .i64 3)))) <|
 .x 21 (.pick (.v 17) (.c (.bool true)) (.v 20)) .done) K37_5) K37_3
abbrev K37_7:C:=.seq (.pl <| .e 4 0 <|
 .x 3 (.mv (.c (.bool false))) .done) (.ret)
abbrev K37_8:C:=.cond 4 (.v 33) K37_7 (.skip)
abbrev K37_9:Pl:=.n 28 (.px (some 32) (.un .not (.v 31))) <|
 .x 33 (.pick (.v 28) (.c (.bool true)) (.v 32)) .done
abbrev K37_10:C:=.seq (.seq (.pl <| .e 4 30 <|
 .a 4 2 <|
 .g 5 4 2 0 <|
 .x 6 (.bin .lss (.v 5) (.c (.int .i64 0))) <|
 .m 7 6 <|
 .n 7 (.als 8 none 2) <|
 .n 7 (.pget (some 9) (some 8) 2 0 none) <|
 .n 7 (.px (some 10) (.mv (.v 1))) <|
 .n 7 (.px (some 11) (.bin .geq (.v 9) (.v 10))) <|
 .x 12 (.pick (.v 7) (.c (.bool true)) (.v 11)) <|
 .m 13 12 <|
 .n 13 (.als 14 none 2) <|
 .n 13 (.pget (some 15) (some 14) 2 1 none) <|
 .n 13 (.px (some 16) (.bin .lss (.v 15) (.c (.int .i64 0)))) <|
 .x 17 (.pick (.v 13) (.c (.bool true)) (.v 16)) <|
 .m 18 17 <|
 .n 18 (.als 19 none 2) <|
 .n 18 (.pget (some 20) (some 19) 2 1 none) <|
 .n 18 (.px (some 21) (.mv (.v 1))) <|
 .n 18 (.px (some 22) (.bin .geq (.v 20) (.v 21))) <|
 .x 23 (.pick (.v 18) (.c (.bool true)) (.v 22)) <|
 .m 24 23 <|
 .n 24 (.px (some 25) (.mv (.v 1))) <|
 .n 24 (.px (some 26) (.bin .gtr (.v 25) (.c (.int .i64 4)))) <|
 .x 27 (.pick (.v 24) (.c (.bool true)) (.v 26)) <|
 .m 28 27 <|
 .n 28 (.als 29 none 2) <|
 .n 28 (.pget (some 30) (some 29) 2 2 (some 3)) <|
 .st (.act (some (.v 28,false)) (.ex (some 31) (.call fn_spec_ExprValid [.v 30]))) K37_9) K37_8) K37_6
abbrev B_spec_EdgeValid:C:=.seq (.pl <| .e 4 0 <|
 .o (.pnew 2 (.v 0) []) <|
 .x 3 (.mv (.c (.bool false))) .done) K37_10
def R_spec_EdgeValid:FIR:=⟨B_spec_EdgeValid,4,[(3,none)]⟩
theorem IR_spec_EdgeValid:cfun Tryd.prog H_spec_EdgeValid Tryd.f37=some R_spec_EdgeValid:=by kernel_rfl
theorem EN_spec_EdgeValid:ENT Tryd.prog B_spec_EdgeValid [(3,none)] 2 4 fn_spec_EdgeValid:=fun hargs hw=>enter Tryd.func37 rfl IR_spec_EdgeValid hargs hw
def H_spec_ExprValid:Hint:=⟨[(0,false),(1,true),(2,false)],[]⟩
abbrev K51_1:Pl:=.y 5 (.px (some 8) (.bin .leq (.v 7) (.c (.int .i64 15)))) <|
 .x 9 (.pick (.v 5) (.v 8) (.c (.bool false))) <|
 .m 2 9 .done
abbrev K51_2:Pl:=.m 5 4 <|
 .y 5 (.pget (some 6) none 1 0 (some 3)) <|
 .st (.act (some (.v 5,true)) (.ex (some 7) (.call fn_spec_l1Count [.v 6,.c (.int .i64 6)]))) K51_1
abbrev K51_3:C:=.seq (.pl <| .e 3 7 <|
 .o (.pget (some 3) none 1 0 (some 3)) <|
 .c 4 (.call fn_spec_l1Shape [.v 3,.c (.int .i64 6)]) K51_2) (.ret)
abbrev B_spec_ExprValid:C:=.seq (.pl <| .e 3 0 <|
 .o (.pnew 1 (.v 0) []) <|
 .x 2 (.mv (.c (.bool false))) .done) K51_3
def R_spec_ExprValid:FIR:=⟨B_spec_ExprValid,3,[(2,none)]⟩
theorem IR_spec_ExprValid:cfun Tryd.prog H_spec_ExprValid Tryd.f51=some R_spec_ExprValid:=by kernel_rfl
theorem EN_spec_ExprValid:ENT Tryd.prog B_spec_ExprValid [(2,none)] 1 3 fn_spec_ExprValid:=fun hargs hw=>enter Tryd.func51 rfl IR_spec_ExprValid hargs hw
def H_spec_FormatSystem:Hint:=⟨[(0,false),(1,true),(2,false),(3,false),(4,false),(5,false),(6,false)],[[0,2,5,6],[0,2,4,6],[0,2,4]]⟩
abbrev K5_1:C:=.seq (.pl <| .e 7 1 <|
 .m 7 3 <|
 .m 2 7 .done) (.ret)
abbrev K5_2:C:=.pl <| .e 7 2 <|
 .m 7 5 <|
 .x 8 (.bin .add (.v 7) (.c (.int .i64 1))) <|
 .m 5 8 .done
abbrev K5_3:C:=.pl <| .e 7 2 <|
 .m 7 6 <|
 .x 8 (.bin .add (.v 7) (.c (.int .i64 1))) <|
 .m 6 8 .done
abbrev K5_4:Pl:=.x 18 (.bin .add (.v 7) (.v 17)) <|
 .m 3 18 .done
abbrev K5_5:C:=.seq (.block 5 (.pl <| .e 7 12 <|
 .m 7 3 <|
 .a 8 1 <|
 .g 9 8 1 1 <|
 .m 10 5 <|
 .x 11 (.ia 2 (.v 9) (.v 10)) <|
 .x 12 (.fa 1 (.v 11)) <|
 .l 13 12 <|
 .m 14 6 <|
 .x 15 (.ia 10 (.v 13) (.v 14)) <|
 .o (.ld (some 16) (.v 15) (some 10)) <|
 .c 17 (.call fn_spec_l2Line [.v 16]) K5_4)) K5_3
abbrev K5_6:C:=.cond 7 (.v 15) (.skip) (.exit 4)
abbrev K5_7:C:=.seq (.seq (.pl <| .e 7 9 <|
 .m 7 6 <|
 .a 8 1 <|
 .g 9 8 1 1 <|
 .m 10 5 <|
 .x 11 (.ia 2 (.v 9) (.v 10)) <|
 .x 12 (.fa 1 (.v 11)) <|
 .l 13 12 <|
 .x 14 (.lenV (.v 13)) <|
 .x 15 (.bin .lss (.v 7) (.v 14)) .done) K5_6) K5_5
abbrev K5_8:C:=.block 4 (.loop 7 [0,2,4] K5_7)
abbrev K5_9:C:=.seq (.pl <| .e 7 0 <|
 .x 6 (.mv (.c (.int .i64 0))) .done) K5_8
abbrev K5_10:Pl:=.x 16 (.bin .add (.v 8) (.v 15)) <|
 .x 17 (.bin .add (.v 16) (.c (.string ⟨#[10]⟩))) <|
 .m 3 17 .done
abbrev K5_11:C:=.seq (.block 3 (.seq (.pl <| .e 7 11 <|
 .m 7 3 <|
 .x 8 (.bin .add (.v 7) (.c (.string ⟨#[112,114,111,99,101,115,115,32]⟩))) <|
 .a 9 1 <|
 .g 10 9 1 1 <|
 .m 11 5 <|
 .x 12 (.ia 2 (.v 10) (.v 11)) <|
 .x 13 (.fa 0 (.v 12)) <|
 .l 14 13 <|
 .c 15 (.call fn_spec_l16Dec [.v 14]) K5_10) K5_9)) K5_2
abbrev K5_12:C:=.cond 7 (.v 11) (.skip) (.exit 2)
abbrev K5_13:C:=.seq (.seq (.pl <| .e 7 5 <|
 .m 7 5 <|
 .a 8 1 <|
 .g 9 8 1 1 <|
 .x 10 (.lenV (.v 9)) <|
 .x 11 (.bin .lss (.v 7) (.v 10)) .done) K5_12) K5_11
abbrev K5_14:C:=.block 2 (.loop 7 [0,2,4,6] K5_13)
abbrev K5_15:C:=.seq (.seq (.pl <| .e 7 0 <|
 .x 5 (.mv (.c (.int .i64 0))) .done) K5_14) K5_1
abbrev K5_16:C:=.seq (.pl <| .e 7 2 <|
 .m 7 3 <|
 .x 8 (.bin .add (.v 7) (.c (.string ⟨#[10]⟩))) <|
 .m 3 8 .done) K5_15
abbrev K5_17:C:=.pl <| .e 7 2 <|
 .m 7 4 <|
 .x 8 (.bin .add (.v 7) (.c (.int .i64 1))) <|
 .m 4 8 .done
abbrev K5_18:Pl:=.x 15 (.bin .add (.v 8) (.v 14)) <|
 .m 3 15 .done
abbrev K5_19:C:=.seq (.block 1 (.pl <| .e 7 9 <|
 .m 7 3 <|
 .x 8 (.bin .add (.v 7) (.c (.string ⟨#[32]⟩))) <|
 .a 9 1 <|
 .g 10 9 1 0 <|
 .m 11 4 <|
 .x 12 (.ia 1 (.v 10) (.v 11)) <|
 .l 13 12 <|
 .c 14 (.call fn_spec_l16Dec [.v 13]) K5_18)) K5_17
abbrev K5_20:C:=.cond 7 (.v 11) (.skip) (.exit 0)
abbrev K5_21:C:=.seq (.seq (.pl <| .e 7 5 <|
 .m 7 4 <|
 .a 8 1 <|
 .g 9 8 1 0 <|
 .x 10 (.lenV (.v 9)) <|
 .x 11 (.bin .lss (.v 7) (.v 10)) .done) K5_20) K5_19
abbrev K5_22:C:=.block 0 (.loop 7 [0,2,5,6] K5_21)
abbrev K5_23:C:=.seq (.seq (.pl <| .e 7 0 <|
 .x 4 (.mv (.c (.int .i64 0))) .done) K5_22) K5_16
abbrev K5_24:C:=.seq (.pl <| .e 7 0 <|
 .x 3 (.mv (.c (.string ⟨#[115,121,115,116,101,109]⟩))) .done) K5_23
abbrev K5_25:C:=.seq (.pl <| .e 7 0 <|
 .x 2 (.mv (.c (.string ⟨#[]⟩))) .done) (.ret)
abbrev K5_26:C:=.cond 7 (.v 9) K5_25 (.skip)
abbrev K5_27:Pl:=.x 9 (.un .not (.v 8)) .done
abbrev K5_28:C:=.seq (.seq (.pl <| .e 7 3 <|
 .o (.pget (some 7) none 1 0 (some 2)) <|
 .c 8 (.call fn_spec_SystemValid [.v 7]) K5_27) K5_26) K5_24
abbrev B_spec_FormatSystem:C:=.seq (.pl <| .e 7 0 <|
 .o (.pnew 1 (.v 0) []) <|
 .x 2 (.mv (.c (.string ⟨#[]⟩))) .done) K5_28
def R_spec_FormatSystem:FIR:=⟨B_spec_FormatSystem,7,[(2,none)]⟩
theorem IR_spec_FormatSystem:cfun Tryd.prog H_spec_FormatSystem Tryd.f5=some R_spec_FormatSystem:=by kernel_rfl
theorem EN_spec_FormatSystem:ENT Tryd.prog B_spec_FormatSystem [(2,none)] 1 7 fn_spec_FormatSystem:=fun hargs hw=>enter Tryd.func5 rfl IR_spec_FormatSystem hargs hw
def H_spec_SystemValid:Hint:=⟨[(0,false),(1,true),(2,false),(3,false)],[[0,2]]⟩
abbrev K11_1:Pl:=.m 7 6 <|
 .y 7 (.als 8 none 1) <|
 .y 7 (.pget (some 9) (some 8) 1 1 none) <|
 .y 7 (.px (some 10) (.lenV (.v 9))) <|
 .y 7 (.px (some 11) (.bin .geq (.v 10) (.c (.int .i64 1)))) <|
 .x 12 (.pick (.v 7) (.v 11) (.c (.bool false))) <|
 .m 13 12 <|
 .y 13 (.als 14 none 1) <|
 .y 13 (.pget (some 15) (some 14) 1 1 none) <|
 .y 13 (.px (some 16) (.lenV (.v 15))) <|
 .y 13 (.px (some 17) (.bin .leq (.v 16) (.c (.int .i64 3)))) <|
 .x 18 (.pick (.v 13) (.v 17) (.c (.bool false))) <|
 .m 2 18 .done
abbrev K11_2:C:=.seq (.pl <| .e 4 15 <|
 .a 4 1 <|
 .g 5 4 1 0 <|
 .c 6 (.call fn_spec_l1Vals [.v 5]) K11_1) (.ret)
abbrev K11_3:C:=.pl <| .e 4 2 <|
 .m 4 3 <|
 .x 5 (.bin .add (.v 4) (.c (.int .i64 1))) <|
 .m 3 5 .done
abbrev K11_4:C:=.seq (.pl <| .e 4 0 <|
 .x 2 (.mv (.c (.bool false))) .done) (.ret)
abbrev K11_5:C:=.cond 4 (.v 10) K11_4 (.skip)
abbrev K11_6:Pl:=.x 10 (.un .not (.v 9)) .done
abbrev K11_7:C:=.seq (.block 1 (.seq (.pl <| .e 4 7 <|
 .a 4 1 <|
 .g 5 4 1 1 <|
 .m 6 3 <|
 .x 7 (.ia 2 (.v 5) (.v 6)) <|
 .o (.ld (some 8) (.v 7) (some 2)) <|
 .c 9 (.call fn_spec_l2Process [.v 8]) K11_6) K11_5)) K11_3
abbrev K11_8:C:=.cond 4 (.v 8) (.skip) (.exit 0)
abbrev K11_9:C:=.seq (.seq (.pl <| .e 4 5 <|
 .m 4 3 <|
 .a 5 1 <|
 .g 6 5 1 1 <|
 .x 7 (.lenV (.v 6)) <|
 .x 8 (.bin .lss (.v 4) (.v 7)) .done) K11_8) K11_7
abbrev K11_10:C:=.block 0 (.loop 4 [0,2] K11_9)
abbrev K11_11:C:=.seq (.seq (.pl <| .e 4 0 <|
 .x 3 (.mv (.c (.int .i64 0))) .done) K11_10) K11_2
abbrev B_spec_SystemValid:C:=.seq (.pl <| .e 4 0 <|
 .o (.pnew 1 (.v 0) []) <|
 .x 2 (.mv (.c (.bool false))) .done) K11_11
def R_spec_SystemValid:FIR:=⟨B_spec_SystemValid,4,[(2,none)]⟩
theorem IR_spec_SystemValid:cfun Tryd.prog H_spec_SystemValid Tryd.f11=some R_spec_SystemValid:=by kernel_rfl
theorem EN_spec_SystemValid:ENT Tryd.prog B_spec_SystemValid [(2,none)] 1 4 fn_spec_SystemValid:=fun hargs hw=>enter Tryd.func11 rfl IR_spec_SystemValid hargs hw
def H_spec_l16Dec:Hint:=⟨[(0,false),(2,false),(3,false)],[[1]]⟩
abbrev K12_1:Pl:=.m 8 2 <|
 .x 9 (.bin .add (.v 7) (.v 8)) <|
 .m 1 9 .done
abbrev K12_2:Pl:=.c 7 (.bstr (.v 6)) K12_1
abbrev K12_3:C:=.seq (.pl <| .e 3 7 <|
 .m 3 0 <|
 .x 4 (.bin .add (.c (.int .i64 48)) (.v 3)) <|
 .x 5 (.conv .u8 (.v 4)) <|
 .c 6 (.bls 1 1 [.int .u8 0] [(0,1,.v 5)]) K12_2) (.ret)
abbrev K12_4:C:=.pl <| .e 3 2 <|
 .m 3 0 <|
 .x 4 (.bin .quo (.v 3) (.c (.int .i64 10))) <|
 .m 0 4 .done
abbrev K12_5:Pl:=.m 9 2 <|
 .x 10 (.bin .add (.v 8) (.v 9)) <|
 .m 2 10 .done
abbrev K12_6:Pl:=.c 8 (.bstr (.v 7)) K12_5
abbrev K12_7:C:=.block 1 (.seq (.pl <| .e 3 8 <|
 .m 3 0 <|
 .x 4 (.bin .rem (.v 3) (.c (.int .i64 10))) <|
 .x 5 (.bin .add (.c (.int .i64 48)) (.v 4)) <|
 .x 6 (.conv .u8 (.v 5)) <|
 .c 7 (.bls 1 1 [.int .u8 0] [(0,1,.v 6)]) K12_6) K12_4)
abbrev K12_8:C:=.cond 3 (.v 4) (.skip) (.exit 0)
abbrev K12_9:C:=.seq (.seq (.pl <| .e 3 2 <|
 .m 3 0 <|
 .x 4 (.bin .gtr (.v 3) (.c (.int .i64 9))) .done) K12_8) K12_7
abbrev K12_10:C:=.seq (.block 0 (.loop 3 [1] K12_9)) K12_3
abbrev K12_11:C:=.seq (.pl <| .e 3 0 <|
 .x 2 (.mv (.c (.string ⟨#[]⟩))) .done) K12_10
abbrev K12_12:Pl:=.x 6 (.bin .add (.c (.string ⟨#[45]⟩)) (.v 5)) <|
 .m 1 6 .done
abbrev K12_13:C:=.seq (.pl <| .e 3 4 <|
 .m 3 0 <|
 .x 4 (.un .neg (.v 3)) <|
 .c 5 (.call fn_spec_l16Dec [.v 4]) K12_12) (.ret)
abbrev K12_14:C:=.cond 3 (.v 4) K12_13 (.skip)
abbrev K12_15:C:=.seq (.seq (.pl <| .e 3 2 <|
 .m 3 0 <|
 .x 4 (.bin .lss (.v 3) (.c (.int .i64 0))) .done) K12_14) K12_11
abbrev K12_16:C:=.seq (.pl <| .e 3 0 <|
 .x 1 (.mv (.c (.string ⟨#[45,57,50,50,51,51,55,50,48,51,54,56,53,52,55,55,53,56,48,56]⟩))) .done) (.ret)
abbrev K12_17:C:=.cond 3 (.v 4) K12_16 (.skip)
abbrev K12_18:C:=.seq (.seq (.pl <| .e 3 2 <|
 .m 3 0 <|
 .x 4 (.bin .lss (.v 3) (.c (.int .i64 (-9223372036854775807)))) .done) K12_17) K12_15
abbrev B_spec_l16Dec:C:=.seq (.pl <| .e 3 0 <|
 .x 1 (.mv (.c (.string ⟨#[]⟩))) .done) K12_18
def R_spec_l16Dec:FIR:=⟨B_spec_l16Dec,3,[(1,none)]⟩
theorem IR_spec_l16Dec:cfun Tryd.prog H_spec_l16Dec Tryd.f12=some R_spec_l16Dec:=by kernel_rfl
theorem EN_spec_l16Dec:ENT Tryd.prog B_spec_l16Dec [(1,none)] 1 3 fn_spec_l16Dec:=fun hargs hw=>enter Tryd.func12 rfl IR_spec_l16Dec hargs hw
def H_spec_l1Arity:Hint:=⟨[(0,false),(2,false),(3,false),(4,false)],[]⟩
abbrev K78_1:C:=.seq (.pl <| .e 4 0 <|
 .x 1 (.mv (.c (.int .i64 (-1)))) .done) (.ret)
abbrev K78_2:C:=.seq (.pl <| .e 4 0 <|
 .x 1 (.mv (.c (.int .i64 2))) .done) (.ret)
abbrev K78_3:C:=.cond 4 (.v 9) K78_2 (.skip)
abbrev K78_4:C:=.seq (.seq (.pl <| .e 4 6 <|
 .m 4 0 <|
 .x 5 (.bin .geq (.v 4) (.c (.int .i64 4))) <|
 .m 6 5 <|
 .y 6 (.px (some 7) (.mv (.v 0))) <|
 .y 6 (.px (some 8) (.bin .leq (.v 7) (.c (.int .i64 9)))) <|
 .x 9 (.pick (.v 6) (.v 8) (.c (.bool false))) .done) K78_3) K78_1
abbrev K78_5:C:=.seq (.pl <| .e 4 0 <|
 .x 1 (.mv (.c (.int .i64 0))) .done) (.ret)
abbrev K78_6:C:=.seq (.pl <| .e 4 0 <|
 .x 1 (.mv (.c (.int .i64 1))) .done) (.ret)
abbrev K78_7:C:=.cond 4 (.v 5) K78_6 (.skip)
abbrev K78_8:C:=.seq (.pl <| .e 4 2 <|
 .x 4 (.bin .eql (.v 2) (.c (.int .i64 3))) <|
 .m 5 4 .done) K78_7
abbrev K78_9:C:=.cond 4 (.v 3) K78_5 K78_8
abbrev K78_10:C:=.pl <| .e 4 1 <|
 .x 4 (.bin .eql (.v 2) (.c (.int .i64 2))) <|
 .m 3 4 .done
abbrev K78_11:C:=.cond 4 (.v 3) (.skip) K78_10
abbrev K78_12:C:=.block 0 (.seq (.seq (.pl <| .e 4 1 <|
 .x 4 (.bin .eql (.v 2) (.c (.int .i64 1))) <|
 .m 3 4 .done) K78_11) K78_9)
abbrev K78_13:C:=.seq (.seq (.pl <| .e 4 0 <|
 .m 2 0 .done) K78_12) K78_4
abbrev B_spec_l1Arity:C:=.seq (.pl <| .e 4 0 <|
 .x 1 (.mv (.c (.int .i64 0))) .done) K78_13
def R_spec_l1Arity:FIR:=⟨B_spec_l1Arity,4,[(1,none)]⟩
theorem IR_spec_l1Arity:cfun Tryd.prog H_spec_l1Arity Tryd.f78=some R_spec_l1Arity:=by kernel_rfl
theorem EN_spec_l1Arity:ENT Tryd.prog B_spec_l1Arity [(1,none)] 1 4 fn_spec_l1Arity:=fun hargs hw=>enter Tryd.func78 rfl IR_spec_l1Arity hargs hw
def H_spec_l1Count:Hint:=⟨[(0,false),(1,false),(2,true),(4,false),(5,false),(6,false)],[[0,3]]⟩
abbrev K66_1:C:=.seq (.pl <| .e 6 1 <|
 .m 6 4 <|
 .m 3 6 .done) (.ret)
abbrev K66_2:C:=.pl <| .e 6 2 <|
 .m 6 5 <|
 .x 7 (.bin .add (.v 6) (.c (.int .i64 1))) <|
 .m 5 7 .done
abbrev K66_3:Pl:=.x 15 (.bin .add (.v 6) (.v 14)) <|
 .m 4 15 .done
abbrev K66_4:C:=.seq (.block 1 (.pl <| .e 6 10 <|
 .m 6 4 <|
 .a 7 2 <|
 .g 8 7 2 2 <|
 .m 9 5 <|
 .x 10 (.ia 3 (.v 8) (.v 9)) <|
 .o (.ld (some 11) (.v 10) (some 3)) <|
 .m 12 1 <|
 .x 13 (.bin .sub (.v 12) (.c (.int .i64 1))) <|
 .c 14 (.call fn_spec_l1Count [.v 11,.v 13]) K66_3)) K66_2
abbrev K66_5:C:=.cond 6 (.v 14) (.skip) (.exit 0)
abbrev K66_6:C:=.seq (.seq (.pl <| .e 6 9 <|
 .m 6 5 <|
 .a 7 2 <|
 .g 8 7 2 2 <|
 .x 9 (.lenV (.v 8)) <|
 .x 10 (.bin .lss (.v 6) (.v 9)) <|
 .m 11 10 <|
 .y 11 (.px (some 12) (.mv (.v 1))) <|
 .y 11 (.px (some 13) (.bin .gtr (.v 12) (.c (.int .i64 0)))) <|
 .x 14 (.pick (.v 11) (.v 13) (.c (.bool false))) .done) K66_5) K66_4
abbrev K66_7:C:=.block 0 (.loop 6 [0,3] K66_6)
abbrev K66_8:C:=.seq (.seq (.pl <| .e 6 0 <|
 .x 5 (.mv (.c (.int .i64 0))) .done) K66_7) K66_1
abbrev K66_9:C:=.seq (.pl <| .e 6 0 <|
 .x 4 (.mv (.c (.int .i64 1))) .done) K66_8
abbrev B_spec_l1Count:C:=.seq (.pl <| .e 6 0 <|
 .o (.pnew 2 (.v 0) []) <|
 .x 3 (.mv (.c (.int .i64 0))) .done) K66_9
def R_spec_l1Count:FIR:=⟨B_spec_l1Count,6,[(3,none)]⟩
theorem IR_spec_l1Count:cfun Tryd.prog H_spec_l1Count Tryd.f66=some R_spec_l1Count:=by kernel_rfl
theorem EN_spec_l1Count:ENT Tryd.prog B_spec_l1Count [(3,none)] 2 6 fn_spec_l1Count:=fun hargs hw=>enter Tryd.func66 rfl IR_spec_l1Count hargs hw
def H_spec_l1Format:Hint:=⟨[(0,false),(1,true),(2,false),(4,false)],[]⟩
abbrev K26_1:Pl:=.x 19 (.bin .add (.v 13) (.v 18)) <|
 .x 20 (.bin .add (.v 19) (.c (.string ⟨#[41]⟩))) <|
 .m 2 20 .done
abbrev K26_2:Pl:=.st (.re 17 (.v 16) (some 3) none) <|
 .x 13 (.bin .add (.v 9) (.v 12)) <|
 .c 18 (.call fn_spec_l1Format [.v 17]) K26_1
abbrev K26_3:Pl:=.st (.re 17 (.v 16) (some 3) none) <|
 .x 9 (.bin .add (.c (.string ⟨#[40]⟩)) (.v 8)) <|
 .c 12 (.call fn_spec_l1Sign [.v 11]) K26_2
abbrev K26_4:C:=.seq (.pl <| .e 4 17 <|
 .a 4 1 <|
 .g 5 4 1 2 <|
 .x 6 (.ia 3 (.v 5) (.c (.int .i64 0))) <|
 .o (.ld (some 7) (.v 6) (some 3)) <|
 .a 10 1 <|
 .g 11 10 1 0 <|
 .a 14 1 <|
 .g 15 14 1 2 <|
 .x 16 (.ia 3 (.v 15) (.c (.int .i64 1))) <|
 .o (.ld (some 17) (.v 16) (some 3)) <|
 .c 8 (.call fn_spec_l1Format [.v 7]) K26_3) (.ret)
abbrev K26_5:Pl:=.m 2 6 .done
abbrev K26_6:C:=.seq (.pl <| .e 4 3 <|
 .a 4 1 <|
 .g 5 4 1 1 <|
 .c 6 (.call fn_spec_l16Dec [.v 5]) K26_5) (.ret)
abbrev K26_7:C:=.seq (.pl <| .e 4 6 <|
 .a 4 1 <|
 .g 5 4 1 1 <|
 .a 6 1 <|
 .g 7 6 1 1 <|
 .x 8 (.bin .add (.v 7) (.c (.int .i64 1))) <|
 .x 9 (.sliceS (.c (.string ⟨#[120,121,122]⟩)) (some (.v 5)) (some (.v 8))) <|
 .m 2 9 .done) (.ret)
abbrev K26_8:Pl:=.x 9 (.bin .add (.c (.string ⟨#[33]⟩)) (.v 8)) <|
 .m 2 9 .done
abbrev K26_9:C:=.seq (.pl <| .e 4 6 <|
 .a 4 1 <|
 .g 5 4 1 2 <|
 .x 6 (.ia 3 (.v 5) (.c (.int .i64 0))) <|
 .o (.ld (some 7) (.v 6) (some 3)) <|
 .c 8 (.call fn_spec_l1Format [.v 7]) K26_8) (.ret)
abbrev K26_10:C:=.cond 4 (.v 5) K26_9 (.skip)
abbrev K26_11:C:=.seq (.pl <| .e 4 2 <|
 .x 4 (.bin .eql (.v 3) (.c (.int .i64 3))) <|
 .m 5 4 .done) K26_10
abbrev K26_12:C:=.cond 4 (.v 5) K26_7 K26_11
abbrev K26_13:C:=.seq (.pl <| .e 4 2 <|
 .x 4 (.bin .eql (.v 3) (.c (.int .i64 2))) <|
 .m 5 4 .done) K26_12
abbrev K26_14:C:=.cond 4 (.v 5) K26_6 K26_13
abbrev K26_15:C:=.block 0 (.seq (.pl <| .e 4 2 <|
 .x 4 (.bin .eql (.v 3) (.c (.int .i64 1))) <|
 .m 5 4 .done) K26_14)
abbrev K26_16:C:=.seq (.seq (.pl <| .e 4 1 <|
 .a 4 1 <|
 .g 3 4 1 0 .done) K26_15) K26_4
abbrev B_spec_l1Format:C:=.seq (.pl <| .e 4 0 <|
 .o (.pnew 1 (.v 0) []) <|
 .x 2 (.mv (.c (.string ⟨#[]⟩))) .done) K26_16
def R_spec_l1Format:FIR:=⟨B_spec_l1Format,4,[(2,none)]⟩
theorem IR_spec_l1Format:cfun Tryd.prog H_spec_l1Format Tryd.f26=some R_spec_l1Format:=by kernel_rfl
theorem EN_spec_l1Format:ENT Tryd.prog B_spec_l1Format [(2,none)] 1 4 fn_spec_l1Format:=fun hargs hw=>enter Tryd.func26 rfl IR_spec_l1Format hargs hw
def H_spec_l1Shape:Hint:=⟨[(0,false),(1,false),(2,true),(4,false),(5,false),(6,false),(19,false)],[[0,3,4,6]]⟩
abbrev K65_1:C:=.seq (.pl <| .e 7 0 <|
 .x 3 (.mv (.c (.bool true))) .done) (.ret)
abbrev K65_2:C:=.pl <| .e 7 2 <|
 .m 7 5 <|
 .x 8 (.bin .add (.v 7) (.c (.int .i64 1))) <|
 .m 5 8 .done
abbrev K65_3:C:=.seq (.pl <| .e 7 0 <|
 .x 3 (.mv (.c (.bool false))) .done) (.ret)
abbrev K65_4:C:=.cond 7 (.v 15) K65_3 (.skip)
abbrev K65_5:Pl:=.x 15 (.un .not (.v 14)) .done
abbrev K65_6:C:=.seq (.block 2 (.seq (.pl <| .e 7 9 <|
 .a 7 2 <|
 .g 8 7 2 2 <|
 .m 9 5 <|
 .x 10 (.ia 3 (.v 8) (.v 9)) <|
 .o (.ld (some 11) (.v 10) (some 3)) <|
 .m 12 1 <|
 .x 13 (.bin .sub (.v 12) (.c (.int .i64 1))) <|
 .c 14 (.call fn_spec_l1Shape [.v 11,.v 13]) K65_5) K65_4)) K65_2
abbrev K65_7:C:=.cond 7 (.v 11) (.skip) (.exit 1)
abbrev K65_8:C:=.seq (.seq (.pl <| .e 7 5 <|
 .m 7 5 <|
 .a 8 2 <|
 .g 9 8 2 2 <|
 .x 10 (.lenV (.v 9)) <|
 .x 11 (.bin .lss (.v 7) (.v 10)) .done) K65_7) K65_6
abbrev K65_9:C:=.block 1 (.loop 7 [0,3,4,6] K65_8)
abbrev K65_10:C:=.seq (.seq (.pl <| .e 7 0 <|
 .x 5 (.mv (.c (.int .i64 0))) .done) K65_9) K65_1
abbrev K65_11:C:=.seq (.pl <| .e 7 0 <|
 .x 3 (.mv (.c (.bool false))) .done) (.ret)
abbrev K65_12:C:=.cond 7 (.v 15) K65_11 (.skip)
abbrev K65_13:C:=.seq (.seq (.pl <| .e 7 9 <|
 .a 7 2 <|
 .g 8 7 2 1 <|
 .x 9 (.bin .lss (.v 8) (.c (.int .i64 0))) <|
 .m 10 9 <|
 .n 10 (.als 11 none 2) <|
 .n 10 (.pget (some 12) (some 11) 2 1 none) <|
 .n 10 (.px (some 13) (.mv (.v 4))) <|
 .n 10 (.px (some 14) (.bin .gtr (.v 12) (.v 13))) <|
 .x 15 (.pick (.v 10) (.c (.bool true)) (.v 14)) .done) K65_12) K65_10
abbrev K65_14:C:=.pl <| .e 7 0 <|
 .x 4 (.mv (.c (.int .i64 3))) .done
abbrev K65_15:C:=.pl <| .e 7 0 <|
 .x 4 (.mv (.c (.int .i64 2))) .done
abbrev K65_16:C:=.cond 7 (.v 8) K65_15 (.skip)
abbrev K65_17:C:=.seq (.pl <| .e 7 2 <|
 .x 7 (.bin .eql (.v 6) (.c (.int .i64 2))) <|
 .m 8 7 .done) K65_16
abbrev K65_18:C:=.cond 7 (.v 8) K65_14 K65_17
abbrev K65_19:C:=.block 0 (.seq (.pl <| .e 7 2 <|
 .x 7 (.bin .eql (.v 6) (.c (.int .i64 1))) <|
 .m 8 7 .done) K65_18)
abbrev K65_20:C:=.seq (.seq (.pl <| .e 7 1 <|
 .a 7 2 <|
 .g 6 7 2 0 .done) K65_19) K65_13
abbrev K65_21:C:=.seq (.pl <| .e 7 0 <|
 .x 4 (.mv (.c (.int .i64 0))) .done) K65_20
abbrev K65_22:C:=.seq (.pl <| .e 7 0 <|
 .x 3 (.mv (.c (.bool false))) .done) (.ret)
abbrev K65_23:C:=.cond 7 (.v 17) K65_22 (.skip)
abbrev K65_24:Pl:=.n 9 (.px (some 16) (.bin .neq (.v 12) (.v 15))) <|
 .x 17 (.pick (.v 9) (.c (.bool true)) (.v 16)) .done
abbrev K65_25:C:=.seq (.seq (.pl <| .e 7 11 <|
 .m 7 1 <|
 .x 8 (.bin .lss (.v 7) (.c (.int .i64 1))) <|
 .m 9 8 <|
 .n 9 (.als 10 none 2) <|
 .n 9 (.pget (some 11) (some 10) 2 2 none) <|
 .n 9 (.px (some 12) (.lenV (.v 11))) <|
 .n 9 (.als 13 none 2) <|
 .n 9 (.pget (some 14) (some 13) 2 0 none) <|
 .st (.act (some (.v 9,false)) (.ex (some 15) (.call fn_spec_l1Arity [.v 14]))) K65_24) K65_23) K65_21
abbrev B_spec_l1Shape:C:=.seq (.pl <| .e 7 0 <|
 .o (.pnew 2 (.v 0) []) <|
 .x 3 (.mv (.c (.bool false))) .done) K65_25
def R_spec_l1Shape:FIR:=⟨B_spec_l1Shape,7,[(3,none)]⟩
theorem IR_spec_l1Shape:cfun Tryd.prog H_spec_l1Shape Tryd.f65=some R_spec_l1Shape:=by kernel_rfl
theorem EN_spec_l1Shape:ENT Tryd.prog B_spec_l1Shape [(3,none)] 2 7 fn_spec_l1Shape:=fun hargs hw=>enter Tryd.func65 rfl IR_spec_l1Shape hargs hw
def H_spec_l1Sign:Hint:=⟨[(0,false),(2,false)],[]⟩
abbrev K38_1:C:=.seq (.pl <| .e 2 4 <|
 .m 2 0 <|
 .m 3 0 <|
 .x 4 (.bin .add (.v 3) (.c (.int .i64 1))) <|
 .x 5 (.sliceS (.c (.string ⟨#[32,32,32,32,38,124,61,60,43,45]⟩)) (some (.v 2)) (some (.v 4))) <|
 .m 1 5 .done) (.ret)
abbrev B_spec_l1Sign:C:=.seq (.pl <| .e 2 0 <|
 .x 1 (.mv (.c (.string ⟨#[]⟩))) .done) K38_1
def R_spec_l1Sign:FIR:=⟨B_spec_l1Sign,2,[(1,none)]⟩
theorem IR_spec_l1Sign:cfun Tryd.prog H_spec_l1Sign Tryd.f38=some R_spec_l1Sign:=by kernel_rfl
theorem EN_spec_l1Sign:ENT Tryd.prog B_spec_l1Sign [(1,none)] 1 2 fn_spec_l1Sign:=fun hargs hw=>enter Tryd.func38 rfl IR_spec_l1Sign hargs hw
def H_spec_l1Vals:Hint:=⟨[(0,false),(2,false),(3,false)],[[1]]⟩
abbrev K25_1:C:=.seq (.pl <| .e 3 3 <|
 .m 3 0 <|
 .x 4 (.lenV (.v 3)) <|
 .x 5 (.bin .eql (.v 4) (.c (.int .i64 3))) <|
 .m 1 5 .done) (.ret)
abbrev K25_2:C:=.pl <| .e 3 2 <|
 .m 3 2 <|
 .x 4 (.bin .add (.v 3) (.c (.int .i64 1))) <|
 .m 2 4 .done
abbrev K25_3:C:=.seq (.pl <| .e 3 0 <|
 .x 1 (.mv (.c (.bool false))) .done) (.ret)
abbrev K25_4:C:=.cond 3 (.v 14) K25_3 (.skip)
abbrev K25_5:C:=.seq (.block 1 (.seq (.pl <| .e 3 12 <|
 .m 3 0 <|
 .m 4 2 <|
 .x 5 (.ia 1 (.v 3) (.v 4)) <|
 .l 6 5 <|
 .x 7 (.bin .lss (.v 6) (.c (.int .i64 0))) <|
 .m 8 7 <|
 .n 8 (.px (some 9) (.mv (.v 0))) <|
 .n 8 (.px (some 10) (.mv (.v 2))) <|
 .n 8 (.px (some 11) (.ia 1 (.v 9) (.v 10))) <|
 .n 8 (.ld (some 12) (.v 11) none) <|
 .n 8 (.px (some 13) (.bin .gtr (.v 12) (.c (.int .i64 3)))) <|
 .x 14 (.pick (.v 8) (.c (.bool true)) (.v 13)) .done) K25_4)) K25_2
abbrev K25_6:C:=.cond 3 (.v 6) (.skip) (.exit 0)
abbrev K25_7:C:=.seq (.seq (.pl <| .e 3 4 <|
 .m 3 2 <|
 .m 4 0 <|
 .x 5 (.lenV (.v 4)) <|
 .x 6 (.bin .lss (.v 3) (.v 5)) .done) K25_6) K25_5
abbrev K25_8:C:=.block 0 (.loop 3 [1] K25_7)
abbrev K25_9:C:=.seq (.seq (.pl <| .e 3 0 <|
 .x 2 (.mv (.c (.int .i64 0))) .done) K25_8) K25_1
abbrev B_spec_l1Vals:C:=.seq (.pl <| .e 3 0 <|
 .x 1 (.mv (.c (.bool false))) .done) K25_9
def R_spec_l1Vals:FIR:=⟨B_spec_l1Vals,3,[(1,none)]⟩
theorem IR_spec_l1Vals:cfun Tryd.prog H_spec_l1Vals Tryd.f25=some R_spec_l1Vals:=by kernel_rfl
theorem EN_spec_l1Vals:ENT Tryd.prog B_spec_l1Vals [(1,none)] 1 3 fn_spec_l1Vals:=fun hargs hw=>enter Tryd.func25 rfl IR_spec_l1Vals hargs hw
def H_spec_l2Line:Hint:=⟨[(0,false),(1,true),(2,false),(3,false)],[]⟩
abbrev K13_1:C:=.seq (.pl <| .e 4 2 <|
 .m 4 3 <|
 .x 5 (.bin .add (.v 4) (.c (.string ⟨#[32,45,10]⟩))) <|
 .m 2 5 .done) (.ret)
abbrev K13_2:Pl:=.x 9 (.bin .add (.v 5) (.v 8)) <|
 .x 10 (.bin .add (.v 9) (.c (.string ⟨#[10]⟩))) <|
 .m 2 10 .done
abbrev K13_3:C:=.seq (.pl <| .e 4 7 <|
 .m 4 3 <|
 .x 5 (.bin .add (.v 4) (.c (.string ⟨#[32,33]⟩))) <|
 .a 6 1 <|
 .g 7 6 1 9 <|
 .c 8 (.call fn_spec_l16Dec [.v 7]) K13_2) (.ret)
abbrev K13_4:C:=.cond 4 (.v 6) K13_3 (.skip)
abbrev K13_5:C:=.seq (.seq (.pl <| .e 4 3 <|
 .a 4 1 <|
 .g 5 4 1 9 <|
 .x 6 (.bin .gtr (.v 5) (.c (.int .i64 0))) .done) K13_4) K13_1
abbrev K13_6:Pl:=.x 10 (.bin .add (.v 5) (.v 9)) <|
 .x 11 (.bin .add (.v 10) (.c (.string ⟨#[10]⟩))) <|
 .m 2 11 .done
abbrev K13_7:C:=.seq (.pl <| .e 4 8 <|
 .m 4 3 <|
 .x 5 (.bin .add (.v 4) (.c (.string ⟨#[32,63]⟩))) <|
 .a 6 1 <|
 .g 7 6 1 9 <|
 .x 8 (.un .neg (.v 7)) <|
 .c 9 (.call fn_spec_l16Dec [.v 8]) K13_6) (.ret)
abbrev K13_8:C:=.cond 4 (.v 6) K13_7 (.skip)
abbrev K13_9:C:=.seq (.seq (.pl <| .e 4 3 <|
 .a 4 1 <|
 .g 5 4 1 9 <|
 .x 6 (.bin .lss (.v 5) (.c (.int .i64 0))) .done) K13_8) K13_5
abbrev K13_10:C:=.pl <| .e 4 2 <|
 .m 4 3 <|
 .x 5 (.bin .add (.v 4) (.c (.string ⟨#[45]⟩))) <|
 .m 3 5 .done
abbrev K13_11:Pl:=.x 16 (.bin .add (.v 12) (.v 15)) <|
 .m 3 16 .done
abbrev K13_12:C:=.pl <| .e 4 13 <|
 .m 4 3 <|
 .a 5 1 <|
 .g 6 5 1 5 <|
 .a 7 1 <|
 .g 8 7 1 5 <|
 .x 9 (.bin .add (.v 8) (.c (.int .i64 1))) <|
 .x 10 (.sliceS (.c (.string ⟨#[120,121,122]⟩)) (some (.v 6)) (some (.v 9))) <|
 .x 11 (.bin .add (.v 4) (.v 10)) <|
 .x 12 (.bin .add (.v 11) (.c (.string ⟨#[58,61]⟩))) <|
 .a 13 1 <|
 .o (.pget (some 14) (some 13) 1 6 (some 3)) <|
 .c 15 (.call fn_spec_l1Format [.v 14]) K13_11
abbrev K13_13:C:=.cond 4 (.v 6) K13_10 K13_12
abbrev K13_14:C:=.seq (.seq (.pl <| .e 4 3 <|
 .a 4 1 <|
 .g 5 4 1 5 <|
 .x 6 (.bin .lss (.v 5) (.c (.int .i64 0))) .done) K13_13) K13_9
abbrev K13_15:Pl:=.x 17 (.bin .add (.v 13) (.v 16)) <|
 .x 18 (.bin .add (.v 17) (.c (.string ⟨#[32]⟩))) <|
 .m 3 18 .done
abbrev K13_16:Pl:=.x 12 (.bin .add (.v 8) (.v 11)) <|
 .x 13 (.bin .add (.v 12) (.c (.string ⟨#[32]⟩))) <|
 .c 16 (.call fn_spec_l1Format [.v 15]) K13_15
abbrev K13_17:Pl:=.x 7 (.bin .add (.c (.string ⟨#[101,100,103,101,32]⟩)) (.v 6)) <|
 .x 8 (.bin .add (.v 7) (.c (.string ⟨#[32]⟩))) <|
 .c 11 (.call fn_spec_l16Dec [.v 10]) K13_16
abbrev K13_18:C:=.seq (.pl <| .e 4 15 <|
 .a 4 1 <|
 .g 5 4 1 0 <|
 .a 9 1 <|
 .g 10 9 1 1 <|
 .a 14 1 <|
 .o (.pget (some 15) (some 14) 1 2 (some 3)) <|
 .c 6 (.call fn_spec_l16Dec [.v 5]) K13_17) K13_14
abbrev B_spec_l2Line:C:=.seq (.pl <| .e 4 0 <|
 .o (.pnew 1 (.v 0) []) <|
 .x 2 (.mv (.c (.string ⟨#[]⟩))) .done) K13_18
def R_spec_l2Line:FIR:=⟨B_spec_l2Line,4,[(2,none)]⟩
theorem IR_spec_l2Line:cfun Tryd.prog H_spec_l2Line Tryd.f13=some R_spec_l2Line:=by kernel_rfl
theorem EN_spec_l2Line:ENT Tryd.prog B_spec_l2Line [(2,none)] 1 4 fn_spec_l2Line:=fun hargs hw=>enter Tryd.func13 rfl IR_spec_l2Line hargs hw
def H_spec_l2None:Hint:=⟨[(0,false),(1,true),(2,false)],[]⟩
abbrev K52_1:C:=.seq (.pl <| .e 3 14 <|
 .a 3 1 <|
 .g 4 3 1 0 <|
 .x 5 (.bin .eql (.v 4) (.c (.int .i64 0))) <|
 .m 6 5 <|
 .y 6 (.als 7 none 1) <|
 .y 6 (.pget (some 8) (some 7) 1 1 none) <|
 .y 6 (.px (some 9) (.bin .eql (.v 8) (.c (.int .i64 0)))) <|
 .x 10 (.pick (.v 6) (.v 9) (.c (.bool false))) <|
 .m 11 10 <|
 .y 11 (.als 12 none 1) <|
 .y 11 (.pget (some 13) (some 12) 1 2 none) <|
 .y 11 (.px (some 14) (.lenV (.v 13))) <|
 .y 11 (.px (some 15) (.bin .eql (.v 14) (.c (.int .i64 0)))) <|
 .x 16 (.pick (.v 11) (.v 15) (.c (.bool false))) <|
 .m 2 16 .done) (.ret)
abbrev B_spec_l2None:C:=.seq (.pl <| .e 3 0 <|
 .o (.pnew 1 (.v 0) []) <|
 .x 2 (.mv (.c (.bool false))) .done) K52_1
def R_spec_l2None:FIR:=⟨B_spec_l2None,3,[(2,none)]⟩
theorem IR_spec_l2None:cfun Tryd.prog H_spec_l2None Tryd.f52=some R_spec_l2None:=by kernel_rfl
theorem EN_spec_l2None:ENT Tryd.prog B_spec_l2None [(2,none)] 1 3 fn_spec_l2None:=fun hargs hw=>enter Tryd.func52 rfl IR_spec_l2None hargs hw
def H_spec_l2Process:Hint:=⟨[(0,false),(1,true),(2,false),(3,false)],[[0,2]]⟩
abbrev K24_1:C:=.seq (.pl <| .e 4 14 <|
 .a 4 1 <|
 .g 5 4 1 0 <|
 .x 6 (.bin .geq (.v 5) (.c (.int .i64 1))) <|
 .m 7 6 <|
 .y 7 (.als 8 none 1) <|
 .y 7 (.pget (some 9) (some 8) 1 0 none) <|
 .y 7 (.px (some 10) (.bin .leq (.v 9) (.c (.int .i64 4)))) <|
 .x 11 (.pick (.v 7) (.v 10) (.c (.bool false))) <|
 .m 12 11 <|
 .y 12 (.als 13 none 1) <|
 .y 12 (.pget (some 14) (some 13) 1 1 none) <|
 .y 12 (.px (some 15) (.lenV (.v 14))) <|
 .y 12 (.px (some 16) (.bin .leq (.v 15) (.c (.int .i64 6)))) <|
 .x 17 (.pick (.v 12) (.v 16) (.c (.bool false))) <|
 .m 2 17 .done) (.ret)
abbrev K24_2:C:=.pl <| .e 4 2 <|
 .m 4 3 <|
 .x 5 (.bin .add (.v 4) (.c (.int .i64 1))) <|
 .m 3 5 .done
abbrev K24_3:C:=.seq (.pl <| .e 4 0 <|
 .x 2 (.mv (.c (.bool false))) .done) (.ret)
abbrev K24_4:C:=.cond 4 (.v 12) K24_3 (.skip)
abbrev K24_5:Pl:=.x 12 (.un .not (.v 11)) .done
abbrev K24_6:C:=.seq (.block 1 (.seq (.pl <| .e 4 9 <|
 .a 4 1 <|
 .g 5 4 1 1 <|
 .m 6 3 <|
 .x 7 (.ia 10 (.v 5) (.v 6)) <|
 .o (.ld (some 8) (.v 7) (some 10)) <|
 .a 9 1 <|
 .g 10 9 1 0 <|
 .c 11 (.call fn_spec_EdgeValid [.v 8,.v 10]) K24_5) K24_4)) K24_2
abbrev K24_7:C:=.cond 4 (.v 8) (.skip) (.exit 0)
abbrev K24_8:C:=.seq (.seq (.pl <| .e 4 5 <|
 .m 4 3 <|
 .a 5 1 <|
 .g 6 5 1 1 <|
 .x 7 (.lenV (.v 6)) <|
 .x 8 (.bin .lss (.v 4) (.v 7)) .done) K24_7) K24_6
abbrev K24_9:C:=.block 0 (.loop 4 [0,2] K24_8)
abbrev K24_10:C:=.seq (.seq (.pl <| .e 4 0 <|
 .x 3 (.mv (.c (.int .i64 0))) .done) K24_9) K24_1
abbrev B_spec_l2Process:C:=.seq (.pl <| .e 4 0 <|
 .o (.pnew 1 (.v 0) []) <|
 .x 2 (.mv (.c (.bool false))) .done) K24_10
def R_spec_l2Process:FIR:=⟨B_spec_l2Process,4,[(2,none)]⟩
theorem IR_spec_l2Process:cfun Tryd.prog H_spec_l2Process Tryd.f24=some R_spec_l2Process:=by kernel_rfl
theorem EN_spec_l2Process:ENT Tryd.prog B_spec_l2Process [(2,none)] 1 4 fn_spec_l2Process:=fun hargs hw=>enter Tryd.func24 rfl IR_spec_l2Process hargs hw
def H_strconv_Itoa:Hint:=⟨[(0,false),(2,false)],[]⟩
abbrev K18_1:Pl:=.m 1 3 .done
abbrev K18_2:C:=.seq (.pl <| .e 2 2 <|
 .m 2 0 <|
 .c 3 (.call fn_internal_strconv_Itoa [.v 2]) K18_1) (.ret)
abbrev B_strconv_Itoa:C:=.seq (.pl <| .e 2 0 <|
 .x 1 (.mv (.c (.string ⟨#[]⟩))) .done) K18_2
def R_strconv_Itoa:FIR:=⟨B_strconv_Itoa,2,[(1,none)]⟩
theorem IR_strconv_Itoa:cfun Tryd.prog H_strconv_Itoa Tryd.f18=some R_strconv_Itoa:=by kernel_rfl
theorem EN_strconv_Itoa:ENT Tryd.prog B_strconv_Itoa [(1,none)] 1 2 fn_strconv_Itoa:=fun hargs hw=>enter Tryd.func18 rfl IR_strconv_Itoa hargs hw
def VOk (vs:List Int):Prop:=vs.length=3∧∀x∈vs,0≤x∧x≤3
theorem VOk.len {vs:List Int}(h:VOk vs):vs.length=3:=h.1
theorem VOk.at {vs:List Int}(h:VOk vs) {i:Nat}(hi:i<vs.length):0≤vs[i]∧vs[i]≤3:=h.2 _ (List.getElem_mem hi)
noncomputable instance {vs:List Int}:Decidable (VOk vs):=Classical.propDecidable _
namespace Exq
def arity (k:Int):Int:=if k=1∨k=2 then 0 else if k=3 then 1 else if 4≤k∧k≤9 then 2 else -1
def most (k:Int):Int:=if k=1 then 3 else if k=2 then 2 else 0
structure Nd (x:Exq):Prop where
 ar:(x.kids.length:Int)=arity x.kind
 lo:0≤x.val
 hi:x.val≤most x.kind
def Shp:Nat→Exq→Prop
 | 0,_=>False
 | n+1,x=>x.Nd∧∀y∈x.kids,Shp n y
mutual
def nod:Exq→Nat
 | .mk _ _ l=>1+nods l
def nods:List Exq→Nat
 | []=>0
 | x::l=>x.nod+nods l
end
theorem nod_eq (x:Exq):x.nod=1+nods x.kids:=by cases x;rfl
theorem nods_take:∀{l:List Exq}{i:Nat}(hi:i<l.length),nods (l.take (i+1))=nods (l.take i)+l[i].nod
 | x::l,0,_=>by simp[nods]
 | x::l,i+1,hi=>by
  have:=nods_take (l:=l) (i:=i) (by simpa using hi)
  simp only[List.take_succ_cons,nods,List.getElem_cons_succ,this];omega
theorem nods_le:∀(l:List Exq) (i:Nat),nods (l.take i)≤nods l
 | [],i=>by simp
 | x::l,0=>by simp[nods]
 | x::l,i+1=>by
  simp only[List.take_succ_cons,nods]
  have:=nods_le l i
  omega
def Ok (x:Exq):Prop:=x.Shp 6∧x.nod≤15
noncomputable instance {x:Exq}:Decidable x.Ok:=Classical.propDecidable _
def zero:Exq:=.mk 0 0 []
theorem Nd.kind {x:Exq}(h:x.Nd):1≤x.kind∧x.kind≤9:=by
 have:=h.ar
 unfold arity at this
 split at this<;>(try split at this)<;>(try split at this)<;>omega
theorem Shp.nd {n:Nat}{x:Exq}(h:x.Shp n):x.Nd:=by
 cases n with
 | zero=>exact h.elim
 | succ n=>exact h.1
theorem Shp.kid {n:Nat}{x:Exq}(h:x.Shp (n+1)) {i:Nat}(hi:i<x.kids.length):x.kids[i].Shp n:=h.2 _ (List.getElem_mem hi)
theorem Shp.bnd:∀{n:Nat}{x:Exq},x.Shp n→x.nod<2^n
 | 0,_,h=>h.elim
 | n+1,x,h=>by
  have h1:=h.1.ar
  have h2:x.kids.length≤2:=by
   unfold arity at h1
   split at h1<;>(try split at h1)<;>(try split at h1)<;>omega
  have h3:nods x.kids+x.kids.length≤x.kids.length*2^n:=by
   have key:∀l:List Exq,(∀y∈l,Shp n y)→nods l+l.length≤l.length*2^n:=by
    intro l
    induction l with
    | nil=>intro _;simp[nods]
    | cons y l ih=>
     intro hl
     have g1:=Shp.bnd (hl y (by simp))
     have g2:=ih fun z hz=>hl z (by simp[hz])
     simp only[nods,List.length_cons,Nat.add_mul]
     omega
   exact key _ h.2
  have h4:x.kids.length*2^n≤2*2^n:=Nat.mul_le_mul_right _ h2
  have h5:0<2^n:=Nat.pow_pos (by decide)
  rw[nod_eq,Nat.pow_succ]
  by_cases h6:x.kids.length=0
  ·have:x.kids=[]:=List.length_eq_zero_iff.1 h6
   rw[this];simp only[nods];omega
  ·rcases (show x.kids.length=1∨x.kids.length=2 by omega) with h7 | h7<;>rw[h7] at h3 h4<;>omega
def tr (p:Prop) [Decidable p]:Int:=if p then 1 else 0
def evk (vs:List Int) (k v a b:Int):Int:=
 if k=1 then v else if k=2 then vs.getD v.toNat 0 else if k=3 then tr (a=0) else if k=4 then tr (a≠0∧b≠0) else if k=5 then tr (a≠0∨b≠0)
 else if k=6 then tr (a=b) else if k=7 then tr (a<b) else if k=8 then (a+b).tmod 4 else (a-b+4).tmod 4
mutual
def ev (vs:List Int):Exq→Int
 | .mk k v l=>evk vs k v ((evs vs l).getD 0 0) ((evs vs l).getD 1 0)
def evs (vs:List Int):List Exq→List Int
 | []=>[]
 | x::l=>x.ev vs::evs vs l
end
def kev (x:Exq) (vs:List Int) (j:Nat):Int:=(x.kids.map (ev vs)).getD j 0
mutual
def mkv:Exq→List Bool→List Bool
 | .mk k v l,M=>mkvs l (if k=2 then M.set v.toNat true else M)
def mkvs:List Exq→List Bool→List Bool
 | [],M=>M
 | x::l,M=>mkvs l (x.mkv M)
end
end Exq
structure Ed.Ok (e:Ed) (n:Int):Prop where
 n1:1≤n
 n4:n≤4
 f0:0≤e.frm
 f1:e.frm<n
 t0:0≤e.to
 t1:e.to<n
 gd:e.guard.Ok
 v0:-1≤e.var
 v1:e.var≤2
 vl:(0≤e.var∧e.value.Ok)∨(e.var<0∧e.value=Exq.zero)
 s0:-2≤e.sync
 s1:e.sync≤2
noncomputable instance {e:Ed}{n:Int}:Decidable (e.Ok n):=Classical.propDecidable _
structure Pr.Ok (p:Pr):Prop where
 n1:1≤p.locs
 n4:p.locs≤4
 el:p.edges.length≤6
 ed:∀e∈p.edges,e.Ok p.locs
noncomputable instance {p:Pr}:Decidable p.Ok:=Classical.propDecidable _
structure Sy.Ok (s:Sy):Prop where
 vs:VOk s.init
 p1:1≤s.procs.length
 p3:s.procs.length≤3
 pr:∀p∈s.procs,p.Ok
noncomputable instance {s:Sy}:Decidable s.Ok:=Classical.propDecidable _
theorem Sy.Ok.at {s:Sy}(h:s.Ok) {i:Nat}(hi:i<s.procs.length):s.procs[i].Ok:=h.pr _ (List.getElem_mem hi)
theorem Pr.Ok.at {p:Pr}(h:p.Ok) {i:Nat}(hi:i<p.edges.length):p.edges[i].Ok p.locs:=h.ed _ (List.getElem_mem hi)
structure LOk (l:List Exq):Prop where
 len:l.length=3
 ok:∀x∈l,x.Ok
noncomputable instance {l:List Exq}:Decidable (LOk l):=Classical.propDecidable _
def relL (labels:List Exq) (M:List Bool):List Bool:=labels.foldl (fun M x=>x.mkv M) M
def relG (s:Sy) (M:List Bool):List Bool:=s.procs.foldl (fun M p=>p.edges.foldl (fun M e=>e.guard.mkv M) M) M
def Ed.relv (M:List Bool) (e:Ed):List Bool:=if 0≤e.var∧M.getD e.var.toNat false=true then e.value.mkv M else M
def relV (s:Sy) (M:List Bool):List Bool:=s.procs.foldl (fun M p=>p.edges.foldl Ed.relv M) M
def Sy.rel (s:Sy) (labels:List Exq):List Bool:=relV s (relV s (relV s (relG s (relL labels [false,false,false]))))
def Tx (l:List UInt8):ByteArray:=⟨l.toArray⟩
theorem Tx_eta (b:ByteArray):Tx b.data.toList=b:=rfl
theorem Tx_size {l:List UInt8}:(Tx l).size=l.length:=rfl
theorem Tx_add {a b:List UInt8}:Tx a++Tx b=Tx (a++b):=by
 apply ByteArray.ext
 simp[Tx]
def spl (c:UInt8):List UInt8→List (List UInt8)
 | []=>[[]]
 | x::l=>if x=c then []::spl c l else (x::(spl c l).headD [])::(spl c l).tail
def jn (c:UInt8):List (List UInt8)→List UInt8
 | []=>[]
 | [w]=>w
 | w::r=>w++c::jn c r
theorem jn_cons {c:UInt8}{w:List UInt8}{r:List (List UInt8)}(h:r≠[]):jn c (w::r)=w++c::jn c r:=by
 cases r with
 | nil=>simp at h
 | cons x r=>rfl
def dg (n:Int):UInt8:=UInt8.ofNat (48+n.toNat)
namespace Exq
def sg (k:Int):UInt8:=if k=4 then 38 else if k=5 then 124 else if k=6 then 61 else if k=7 then 60 else if k=8 then 43 else 45
mutual
def fmt:Exq→List UInt8
 | .mk k v l=>if k=1 then [dg v] else if k=2 then [UInt8.ofNat (120+v.toNat)] else if k=3 then 33::(fmts l).getD 0 [] else 40::((fmts l).getD 0 []++sg k::((fmts l).getD 1 []++[41]))
def fmts:List Exq→List (List UInt8)
 | []=>[]
 | x::l=>fmt x::fmts l
end
theorem fmts_eq:∀l:List Exq,fmts l=l.map fmt
 | []=>rfl
 | x::l=>by rw[fmts,fmts_eq l];rfl
theorem fmt_eq (x:Exq):x.fmt=if x.kind=1 then [dg x.val] else if x.kind=2 then [UInt8.ofNat (120+x.val.toNat)] else if x.kind=3 then 33::(x.kids.map fmt).getD 0 [] else 40::((x.kids.map fmt).getD 0 []++sg x.kind::((x.kids.map fmt).getD 1 []++[41])):=by
 cases x with
 | mk k v l=>rw[fmt,fmts_eq];rfl
theorem fmt1 {x:Exq}(h:x.kind=1):x.fmt=[dg x.val]:=by rw[fmt_eq,if_pos h]
theorem fmt2 {x:Exq}(h:x.kind=2):x.fmt=[UInt8.ofNat (120+x.val.toNat)]:=by rw[fmt_eq,if_neg (by omega),if_pos h]
theorem fmt3 {x:Exq}(h:x.kind=3) (hl:0<x.kids.length):x.fmt=(33:UInt8)::x.kids[0].fmt:=by rw[fmt_eq,if_neg (by omega),if_neg (by omega),if_pos h];simp[hl]
theorem fmt4 {x:Exq}(h:4≤x.kind) (hl:1<x.kids.length):x.fmt=(40:UInt8)::(x.kids[0].fmt++sg x.kind::(x.kids[1].fmt++[41])):=by
 rw[fmt_eq,if_neg (by omega),if_neg (by omega),if_neg (by omega)]
 have h0:0<x.kids.length:=by omega
 simp[hl,h0]
theorem Nd.k3 {x:Exq}(h:x.Nd) (hk:x.kind=3):x.kids.length=1:=by
 have:=h.ar
 rw[arity,if_neg (by omega),if_pos hk] at this
 omega
theorem Nd.k4 {x:Exq}(h:x.Nd) (hk:4≤x.kind):x.kids.length=2:=by
 have:=h.ar
 have:=h.kind
 rw[arity,if_neg (by omega),if_neg (by omega),if_pos (by omega)] at *
 omega
theorem Nd.hi1 {x:Exq}(h:x.Nd) (hk:x.kind=1):x.val≤3:=by have:=h.hi;rw[most,if_pos hk] at this;exact this
theorem Nd.hi2 {x:Exq}(h:x.Nd) (hk:x.kind=2):x.val≤2:=by have:=h.hi;rw[most,if_neg (by omega),if_pos hk] at this;exact this
theorem Nd.cases {x:Exq}(h:x.Nd):x.kind=1∨x.kind=2∨x.kind=3∨(4≤x.kind∧x.kind≤9):=by have:=h.kind;omega
def fbs:List UInt8:=[48,49,50,51,120,121,122,33,40,41,38,124,61,60,43,45]
theorem nod_kids2 {x:Exq}(hl:x.kids.length=2):x.nod=1+(x.kids[0].nod+x.kids[1].nod):=by
 rw[nod_eq]
 obtain⟨a,b,h⟩:∃a b,x.kids=[a,b]:=by
  match h:x.kids,hl with
  | [a,b],_=>exact⟨a,b,rfl⟩
 simp only[h]
 simp[nods]
theorem nod_kids1 {x:Exq}(hl:x.kids.length=1):x.nod=1+x.kids[0].nod:=by
 rw[nod_eq]
 obtain⟨a,h⟩:=List.length_eq_one_iff.1 hl
 simp only[h]
 simp[nods]
theorem fmt_len:∀{n:Nat}{x:Exq},x.Shp n→1≤x.fmt.length∧x.fmt.length≤3*x.nod
 | 0,_,h=>h.elim
 | n+1,x,h=>by
  have hn:=h.nd
  rcases hn.cases with k | k | k | k
  ·rw[fmt1 k,nod_eq];simp;omega
  ·rw[fmt2 k,nod_eq];simp;omega
  ·have hl:=hn.k3 k
   have:=fmt_len (h.kid (i:=0) (by omega))
   rw[fmt3 k (by omega),nod_kids1 hl,List.length_cons];omega
  ·have hl:=hn.k4 k.1
   have h0:=fmt_len (h.kid (i:=0) (by omega))
   have h1:=fmt_len (h.kid (i:=1) (by omega))
   rw[fmt4 k.1 (by omega),nod_kids2 hl]
   simp only[List.length_cons,List.length_append,List.length_nil];omega
theorem Ok.fmt_len {x:Exq}(h:x.Ok):1≤x.fmt.length∧x.fmt.length≤45:=by
 have:=Exq.fmt_len h.1
 have:=h.2
 omega
end Exq
def wSys:List UInt8:=[115,121,115,116,101,109]
def wPrc:List UInt8:=[112,114,111,99,101,115,115]
def wEdg:List UInt8:=[101,100,103,101]
def Ed.asg (e:Ed):List UInt8:=if e.var<0 then [45] else UInt8.ofNat (120+e.var.toNat)::58::61::e.value.fmt
def syn (n:Int):List UInt8:=if 0<n then [33,dg n] else if n<0 then [63,dg (-n)] else [45]
inductive Ln where
 | sys (l:List Int)
 | prc (n:Int)
 | edg (e:Ed)
def Ln.ws:Ln→List (List UInt8)
 | .sys l=>wSys::l.map fun n=>[dg n]
 | .prc n=>[wPrc,[dg n]]
 | .edg e=>[wEdg,[dg e.frm],[dg e.to],e.guard.fmt,e.asg,syn e.sync]
def Ln.row (x:Ln):List UInt8:=jn 32 x.ws
def Pr.lns (p:Pr):List Ln:=.prc p.locs::p.edges.map .edg
def Sy.lns (s:Sy):List Ln:=.sys s.init::s.procs.flatMap Pr.lns
def rows (l:List Ln):List UInt8:=(l.map fun x=>x.row++[10]).flatten
def Sy.fmt (s:Sy):List UInt8:=rows s.lns
theorem rows_app {a b:List Ln}:rows (a++b)=rows a++rows b:=by simp[rows]
def Ln.Ok:Ln→Prop
 | .sys l=>VOk l
 | .prc n=>1≤n∧n≤4
 | .edg e=>∃n,e.Ok n
def Sy.ap (s:Sy):Ln→Sy
 | .sys l=>⟨l,s.procs⟩
 | .prc n=>⟨s.init,s.procs++[⟨n,[]⟩]⟩
 | .edg e=>⟨s.init,s.procs.set (s.procs.length-1) ⟨(s.procs.getD (s.procs.length-1) ⟨0,[]⟩).locs,(s.procs.getD (s.procs.length-1) ⟨0,[]⟩).edges++[e]⟩⟩
theorem Ln.ws_ne {x:Ln}:x.ws≠[]:=by cases x<;>simp[Ln.ws]
theorem Ed.asg_len {e:Ed}{n:Int}(h:e.Ok n):1≤e.asg.length∧e.asg.length≤48:=by
 unfold Ed.asg
 split
 ·simp
 ·rcases h.vl with ⟨_,hv⟩ | ⟨hv,_⟩
  ·have:=hv.fmt_len
   simp only[List.length_cons];omega
  ·omega
theorem syn_len {n:Int}:1≤(syn n).length∧(syn n).length≤2:=by
 unfold syn
 split
 ·simp
 ·split<;>simp
theorem Ln.row_len {x:Ln}(h:x.Ok):x.row.length≤120:=by
 cases x with
 | sys l=>
  have h:VOk l:=h
  match l,h.1 with
  | [a,b,c],_=>simp[Ln.row,Ln.ws,jn,wSys]
 | prc n=>simp[Ln.row,Ln.ws,jn,wPrc]
 | edg e=>
  obtain⟨n,h⟩:=h
  have h1:=h.gd.fmt_len
  have h2:=Ed.asg_len h
  have h3:=syn_len (n:=e.sync)
  simp only[Ln.row,Ln.ws,jn,wEdg,List.length_append,List.length_cons,List.length_nil]
  omega
def okD (n:Int):Bool:=decide (0≤n∧n≤9)
def dgs (l:List Int):List UInt8:=l.map dg
def Sta.dOk (st:Sta):Prop:=(∀n∈st.locs,0≤n∧n≤9)∧∀n∈st.vals,0≤n∧n≤9
noncomputable instance {st:Sta}:Decidable st.dOk:=Classical.propDecidable _
noncomputable def Sta.fmt (st:Sta):List UInt8:=if st.dOk then dgs st.locs++47::dgs st.vals else []
theorem all_okD {l:List Int}:l.all okD=true↔∀n∈l,0≤n∧n≤9:=by simp[okD]
def okR (l:List Int):Bool:=l.all okD
def dgR (l:List Int):List UInt8:=if okR l=true then dgs l else []
theorem okR_iff {l:List Int}:okR l=true↔∀n∈l,0≤n∧n≤9:=all_okD
theorem dgR_ok {l:List Int}(h:okR l=true):dgR l=dgs l:=by rw[dgR,if_pos h]
theorem Sta.fmt_eq (st:Sta):st.fmt=if okR st.locs=true∧okR st.vals=true then dgR st.locs++47::dgR st.vals else []:=by
 unfold Sta.fmt
 by_cases h:st.dOk
 ·have h1:=okR_iff.2 h.1
  have h2:=okR_iff.2 h.2
  rw[if_pos h,if_pos ⟨h1,h2⟩,dgR_ok h1,dgR_ok h2]
 ·rw[if_neg h,if_neg fun hh=>h ⟨okR_iff.1 hh.1,okR_iff.1 hh.2⟩]
def nums (l:List UInt8):List Int:=l.map fun c=>(c.toNat:Int)-48
def H_impl_EdgeValid:Hint:=⟨[(0,false),(1,false),(2,true),(4,false)],[]⟩
abbrev K32_1:Pl:=.x 55 (.pick (.v 51) (.v 54) (.c (.bool false))) <|
 .m 3 55 .done
abbrev K32_2:Pl:=.n 39 (.px (some 48) (.pick (.v 43) (.v 47) (.c (.bool false)))) <|
 .y 30 (.px (some 49) (.pick (.v 39) (.c (.bool true)) (.v 48))) <|
 .x 50 (.pick (.v 30) (.v 49) (.c (.bool false))) <|
 .m 51 50 <|
 .y 51 (.als 52 none 2) <|
 .y 51 (.pget (some 53) (some 52) 2 9 none) <|
 .st (.act (some (.v 51,true)) (.ex (some 54) (.call fn_impl_in [.v 53,.c (.int .i64 (-2)),.c (.int .i64 2)]))) K32_1
abbrev K32_3:Pl:=.y 30 (.px (some 38) (.pick (.v 34) (.v 37) (.c (.bool false)))) <|
 .y 30 (.px (some 39) (.mv (.v 38))) <|
 .n 39 (.als 40 none 2) <|
 .n 39 (.pget (some 41) (some 40) 2 5 none) <|
 .n 39 (.px (some 42) (.bin .lss (.v 41) (.c (.int .i64 0)))) <|
 .n 39 (.px (some 43) (.mv (.v 42))) <|
 .y 43 (.als 44 none 2) <|
 .y 43 (.pget (some 45) (some 44) 2 6 (some 3)) <|
 .y 43 (.px (some 46) (.build [.int .i64 0,.int .i64 0,.slice none 0 0] [])) <|
 .st (.act (some (.v 43,true)) (.ex (some 47) (.call fn_impl_ExprSame [.v 45,.v 46]))) K32_2
abbrev K32_4:Pl:=.x 29 (.pick (.v 25) (.v 28) (.c (.bool false))) <|
 .m 30 29 <|
 .y 30 (.als 31 none 2) <|
 .y 30 (.pget (some 32) (some 31) 2 5 none) <|
 .y 30 (.px (some 33) (.bin .geq (.v 32) (.c (.int .i64 0)))) <|
 .y 30 (.px (some 34) (.mv (.v 33))) <|
 .y 34 (.als 35 none 2) <|
 .y 34 (.pget (some 36) (some 35) 2 6 (some 3)) <|
 .st (.act (some (.v 34,true)) (.ex (some 37) (.call fn_impl_ExprValid [.v 36]))) K32_3
abbrev K32_5:Pl:=.x 24 (.pick (.v 20) (.v 23) (.c (.bool false))) <|
 .m 25 24 <|
 .y 25 (.als 26 none 2) <|
 .y 25 (.pget (some 27) (some 26) 2 5 none) <|
 .st (.act (some (.v 25,true)) (.ex (some 28) (.call fn_impl_in [.v 27,.c (.int .i64 (-1)),.c (.int .i64 2)]))) K32_4
abbrev K32_6:Pl:=.x 19 (.pick (.v 13) (.v 18) (.c (.bool false))) <|
 .m 20 19 <|
 .y 20 (.als 21 none 2) <|
 .y 20 (.pget (some 22) (some 21) 2 2 (some 3)) <|
 .st (.act (some (.v 20,true)) (.ex (some 23) (.call fn_impl_ExprValid [.v 22]))) K32_5
abbrev K32_7:Pl:=.x 12 (.pick (.v 6) (.v 11) (.c (.bool false))) <|
 .m 13 12 <|
 .y 13 (.als 14 none 2) <|
 .y 13 (.pget (some 15) (some 14) 2 1 none) <|
 .y 13 (.px (some 16) (.mv (.v 1))) <|
 .y 13 (.px (some 17) (.bin .sub (.v 16) (.c (.int .i64 1)))) <|
 .st (.act (some (.v 13,true)) (.ex (some 18) (.call fn_impl_in [.v 15,.c (.int .i64 0),.v 17]))) K32_6
abbrev K32_8:Pl:=.m 6 5 <|
 .y 6 (.als 7 none 2) <|
 .y 6 (.pget (some 8) (some 7) 2 0 none) <|
 .y 6 (.px (some 9) (.mv (.v 1))) <|
 .y 6 (.px (some 10) (.bin .sub (.v 9) (.c (.int .i64 1)))) <|
 .st (.act (some (.v 6,true)) (.ex (some 11) (.call fn_impl_in [.v 8,.c (.int .i64 0),.v 10]))) K32_7
abbrev K32_9:C:=.seq (.pl <| .e 4 52 <|
 .m 4 1 <|
 .c 5 (.call fn_impl_in [.v 4,.c (.int .i64 1),.c (.int .i64 4)]) K32_8) (.ret)
abbrev B_impl_EdgeValid:C:=.seq (.pl <| .e 4 0 <|
 .o (.pnew 2 (.v 0) []) <|
 .x 3 (.mv (.c (.bool false))) .done) K32_9
def R_impl_EdgeValid:FIR:=⟨B_impl_EdgeValid,4,[(3,none)]⟩
theorem IR_impl_EdgeValid:cfun Tryd.prog H_impl_EdgeValid Tryd.f32=some R_impl_EdgeValid:=by kernel_rfl
theorem EN_impl_EdgeValid:ENT Tryd.prog B_impl_EdgeValid [(3,none)] 2 4 fn_impl_EdgeValid:=fun hargs hw=>enter Tryd.func32 rfl IR_impl_EdgeValid hargs hw
def H_impl_ExprNodes:Hint:=⟨[(0,false),(1,true),(2,false),(3,false)],[]⟩
abbrev K55_1:C:=.seq (.pl <| .e 4 1 <|
 .l 4 3 <|
 .m 2 4 .done) (.ret)
abbrev K55_2:C:=.seq (.pl <| .e 4 0 <|
 .x 2 (.mv (.c (.int .i64 0))) .done) (.ret)
abbrev K55_3:C:=.cond 4 (.v 6) K55_2 (.skip)
abbrev K55_4:Pl:=.x 6 (.un .not (.v 5)) .done
abbrev K55_5:C:=.seq (.seq (.pl <| .e 4 3 <|
 .o (.pget (some 4) none 1 0 (some 3)) <|
 .c 5 (.call fn_impl_Expr_walk [.v 4,.c (.int .i64 1),.v 3]) K55_4) K55_3) K55_1
abbrev K55_6:Pl:=.o (.ex none (.store 1 (.v 3) (.c (.int .i64 0)))) .done
abbrev K55_7:C:=.seq (.pl <| .e 4 0 <|
 .c 3 (.alloc (.c (.int .i64 0))) K55_6) K55_5
abbrev B_impl_ExprNodes:C:=.seq (.pl <| .e 4 0 <|
 .o (.pnew 1 (.v 0) []) <|
 .x 2 (.mv (.c (.int .i64 0))) .done) K55_7
def R_impl_ExprNodes:FIR:=⟨B_impl_ExprNodes,4,[(2,none)]⟩
theorem IR_impl_ExprNodes:cfun Tryd.prog H_impl_ExprNodes Tryd.f55=some R_impl_ExprNodes:=by kernel_rfl
theorem EN_impl_ExprNodes:ENT Tryd.prog B_impl_ExprNodes [(2,none)] 1 4 fn_impl_ExprNodes:=fun hargs hw=>enter Tryd.func55 rfl IR_impl_ExprNodes hargs hw
def H_impl_ExprSame:Hint:=⟨[(0,false),(1,false),(2,true),(3,true),(4,false)],[]⟩
abbrev K44_1:Pl:=.x 23 (.pick (.v 17) (.v 22) (.c (.bool false))) <|
 .m 4 23 .done
abbrev K44_2:C:=.seq (.pl <| .e 5 19 <|
 .a 5 2 <|
 .g 6 5 2 0 <|
 .a 7 3 <|
 .g 8 7 3 0 <|
 .x 9 (.bin .eql (.v 6) (.v 8)) <|
 .m 10 9 <|
 .y 10 (.als 11 none 2) <|
 .y 10 (.pget (some 12) (some 11) 2 1 none) <|
 .y 10 (.als 13 none 3) <|
 .y 10 (.pget (some 14) (some 13) 3 1 none) <|
 .y 10 (.px (some 15) (.bin .eql (.v 12) (.v 14))) <|
 .x 16 (.pick (.v 10) (.v 15) (.c (.bool false))) <|
 .m 17 16 <|
 .y 17 (.als 18 none 2) <|
 .y 17 (.pget (some 19) (some 18) 2 2 none) <|
 .y 17 (.als 20 none 3) <|
 .y 17 (.pget (some 21) (some 20) 3 2 none) <|
 .st (.act (some (.v 17,true)) (.ex (some 22) (.call fn_slices_EqualFunc_S_impl_Expr_S_impl_Expr_impl_Expr_impl_Expr [.v 19,.v 21,.c (.func (.func 44) #[] #[])]))) K44_1) (.ret)
abbrev B_impl_ExprSame:C:=.seq (.pl <| .e 5 0 <|
 .o (.pnew 2 (.v 0) []) <|
 .o (.pnew 3 (.v 1) []) <|
 .x 4 (.mv (.c (.bool false))) .done) K44_2
def R_impl_ExprSame:FIR:=⟨B_impl_ExprSame,5,[(4,none)]⟩
theorem IR_impl_ExprSame:cfun Tryd.prog H_impl_ExprSame Tryd.f44=some R_impl_ExprSame:=by kernel_rfl
theorem EN_impl_ExprSame:ENT Tryd.prog B_impl_ExprSame [(4,none)] 2 5 fn_impl_ExprSame:=fun hargs hw=>enter Tryd.func44 rfl IR_impl_ExprSame hargs hw
def H_impl_ExprValid:Hint:=⟨[(0,false),(1,true),(2,false)],[]⟩
abbrev K43_1:Pl:=.x 5 (.bin .gtr (.v 4) (.c (.int .i64 0))) <|
 .m 2 5 .done
abbrev K43_2:C:=.seq (.pl <| .e 3 3 <|
 .o (.pget (some 3) none 1 0 (some 3)) <|
 .c 4 (.call fn_impl_ExprNodes [.v 3]) K43_1) (.ret)
abbrev B_impl_ExprValid:C:=.seq (.pl <| .e 3 0 <|
 .o (.pnew 1 (.v 0) []) <|
 .x 2 (.mv (.c (.bool false))) .done) K43_2
def R_impl_ExprValid:FIR:=⟨B_impl_ExprValid,3,[(2,none)]⟩
theorem IR_impl_ExprValid:cfun Tryd.prog H_impl_ExprValid Tryd.f43=some R_impl_ExprValid:=by kernel_rfl
theorem EN_impl_ExprValid:ENT Tryd.prog B_impl_ExprValid [(2,none)] 1 3 fn_impl_ExprValid:=fun hargs hw=>enter Tryd.func43 rfl IR_impl_ExprValid hargs hw
def H_impl_Expr_text:Hint:=⟨[(0,false),(1,true),(2,false),(4,false)],[]⟩
abbrev K19_1:Pl:=.st (.re 10 (.c (.pointer (some ⟨0,0,none⟩))) none none) <|
 .st (.re 14 (.v 13) none none) <|
 .x 21 (.bin .add (.v 15) (.v 20)) <|
 .x 22 (.bin .add (.v 21) (.c (.string ⟨#[41]⟩))) <|
 .m 2 22 .done
abbrev K19_2:Pl:=.st (.re 10 (.c (.pointer (some ⟨0,0,none⟩))) none none) <|
 .st (.re 14 (.v 13) none none) <|
 .st (.re 19 (.v 18) (some 3) none) <|
 .x 9 (.bin .add (.c (.string ⟨#[40]⟩)) (.v 8)) <|
 .x 15 (.bin .add (.v 9) (.v 14)) <|
 .c 20 (.call fn_impl_Expr_text [.v 19]) K19_1
abbrev K19_3:C:=.seq (.pl <| .e 4 19 <|
 .a 4 1 <|
 .g 5 4 1 2 <|
 .x 6 (.ia 3 (.v 5) (.c (.int .i64 0))) <|
 .o (.ld (some 7) (.v 6) (some 3)) <|
 .o (.ld (some 10) (.c (.pointer (some ⟨0,0,none⟩))) none) <|
 .a 11 1 <|
 .g 12 11 1 0 <|
 .x 13 (.ia 1 (.v 10) (.v 12)) <|
 .l 14 13 <|
 .a 16 1 <|
 .g 17 16 1 2 <|
 .x 18 (.ia 3 (.v 17) (.c (.int .i64 1))) <|
 .o (.ld (some 19) (.v 18) (some 3)) <|
 .c 8 (.call fn_impl_Expr_text [.v 7]) K19_2) (.ret)
abbrev K19_4:Pl:=.m 2 6 .done
abbrev K19_5:C:=.seq (.pl <| .e 4 3 <|
 .a 4 1 <|
 .g 5 4 1 1 <|
 .c 6 (.call fn_strconv_Itoa [.v 5]) K19_4) (.ret)
abbrev K19_6:C:=.seq (.pl <| .e 4 6 <|
 .a 4 1 <|
 .g 5 4 1 1 <|
 .a 6 1 <|
 .g 7 6 1 1 <|
 .x 8 (.bin .add (.v 7) (.c (.int .i64 1))) <|
 .x 9 (.sliceS (.c (.string ⟨#[120,121,122]⟩)) (some (.v 5)) (some (.v 8))) <|
 .m 2 9 .done) (.ret)
abbrev K19_7:Pl:=.x 9 (.bin .add (.c (.string ⟨#[33]⟩)) (.v 8)) <|
 .m 2 9 .done
abbrev K19_8:C:=.seq (.pl <| .e 4 6 <|
 .a 4 1 <|
 .g 5 4 1 2 <|
 .x 6 (.ia 3 (.v 5) (.c (.int .i64 0))) <|
 .o (.ld (some 7) (.v 6) (some 3)) <|
 .c 8 (.call fn_impl_Expr_text [.v 7]) K19_7) (.ret)
abbrev K19_9:C:=.cond 4 (.v 5) K19_8 (.skip)
abbrev K19_10:C:=.seq (.pl <| .e 4 2 <|
 .x 4 (.bin .eql (.v 3) (.c (.int .i64 3))) <|
 .m 5 4 .done) K19_9
abbrev K19_11:C:=.cond 4 (.v 5) K19_6 K19_10
abbrev K19_12:C:=.seq (.pl <| .e 4 2 <|
 .x 4 (.bin .eql (.v 3) (.c (.int .i64 2))) <|
 .m 5 4 .done) K19_11
abbrev K19_13:C:=.cond 4 (.v 5) K19_5 K19_12
abbrev K19_14:C:=.block 0 (.seq (.pl <| .e 4 2 <|
 .x 4 (.bin .eql (.v 3) (.c (.int .i64 1))) <|
 .m 5 4 .done) K19_13)
abbrev K19_15:C:=.seq (.seq (.pl <| .e 4 1 <|
 .a 4 1 <|
 .g 3 4 1 0 .done) K19_14) K19_3
abbrev B_impl_Expr_text:C:=.seq (.pl <| .e 4 0 <|
 .o (.pnew 1 (.v 0) []) <|
 .x 2 (.mv (.c (.string ⟨#[]⟩))) .done) K19_15
def R_impl_Expr_text:FIR:=⟨B_impl_Expr_text,4,[(2,none)]⟩
theorem IR_impl_Expr_text:cfun Tryd.prog H_impl_Expr_text Tryd.f19=some R_impl_Expr_text:=by kernel_rfl
theorem EN_impl_Expr_text:ENT Tryd.prog B_impl_Expr_text [(2,none)] 1 4 fn_impl_Expr_text:=fun hargs hw=>enter Tryd.func19 rfl IR_impl_Expr_text hargs hw
def H_impl_Expr_walk:Hint:=⟨[(0,false),(1,false),(2,false),(3,true),(4,false),(5,false),(6,false),(7,false),(8,false),(15,false)],[]⟩
abbrev K68_1:Pl:=.x 14 (.un .not (.v 13)) <|
 .m 6 14 .done
abbrev K68_2:C:=.seq (.pl <| .e 10 5 <|
 .a 10 3 <|
 .g 11 10 3 2 <|
 .x 12 (.mkf (.func fn_impl_Expr_walk_1) [] [.v 4,.v 5]) <|
 .c 13 (.call fn_slices_ContainsFunc_S_impl_Expr_impl_Expr [.v 11,.v 12]) K68_1) (.ret)
abbrev K68_3:C:=.seq (.pl <| .e 10 0 <|
 .x 6 (.mv (.c (.bool false))) .done) (.ret)
abbrev K68_4:C:=.cond 10 (.v 37) K68_3 (.skip)
abbrev K68_5:Pl:=.n 24 (.px (some 29) (.un .not (.v 28))) <|
 .x 30 (.pick (.v 24) (.c (.bool true)) (.v 29)) <|
 .m 31 30 <|
 .n 31 (.als 32 none 3) <|
 .n 31 (.pget (some 33) (some 32) 3 2 none) <|
 .n 31 (.px (some 34) (.lenV (.v 33))) <|
 .n 31 (.px (some 35) (.mv (.v 7))) <|
 .n 31 (.px (some 36) (.bin .neq (.v 34) (.v 35))) <|
 .x 37 (.pick (.v 31) (.c (.bool true)) (.v 36)) .done
abbrev K68_6:Pl:=.n 18 (.px (some 22) (.un .not (.v 21))) <|
 .x 23 (.pick (.v 18) (.c (.bool true)) (.v 22)) <|
 .m 24 23 <|
 .n 24 (.als 25 none 3) <|
 .n 24 (.pget (some 26) (some 25) 3 1 none) <|
 .n 24 (.px (some 27) (.mv (.v 8))) <|
 .st (.act (some (.v 24,false)) (.ex (some 28) (.call fn_impl_in [.v 26,.c (.int .i64 0),.v 27]))) K68_5
abbrev K68_7:C:=.seq (.seq (.pl <| .e 10 28 <|
 .l 10 4 <|
 .x 11 (.bin .gtr (.v 10) (.c (.int .i64 6))) <|
 .m 12 11 <|
 .n 12 (.ld (some 13) (.v 5) none) <|
 .n 12 (.px (some 14) (.nilc (.v 13))) <|
 .n 12 (.ld (some 15) (.v 14) none) <|
 .n 12 (.px (some 16) (.bin .gtr (.v 15) (.c (.int .i64 15)))) <|
 .x 17 (.pick (.v 12) (.c (.bool true)) (.v 16)) <|
 .m 18 17 <|
 .n 18 (.als 19 none 3) <|
 .n 18 (.pget (some 20) (some 19) 3 0 none) <|
 .st (.act (some (.v 18,false)) (.ex (some 21) (.call fn_impl_in [.v 20,.c (.int .i64 1),.c (.int .i64 9)]))) K68_6) K68_4) K68_2
abbrev K68_8:C:=.pl <| .e 10 0 <|
 .x 7 (.mv (.c (.int .i64 0))) <|
 .x 8 (.mv (.c (.int .i64 3))) .done
abbrev K68_9:C:=.pl <| .e 10 0 <|
 .x 7 (.mv (.c (.int .i64 0))) <|
 .x 8 (.mv (.c (.int .i64 2))) .done
abbrev K68_10:C:=.pl <| .e 10 0 <|
 .x 7 (.mv (.c (.int .i64 1))) .done
abbrev K68_11:C:=.cond 10 (.v 11) K68_10 (.skip)
abbrev K68_12:C:=.seq (.pl <| .e 10 2 <|
 .x 10 (.bin .eql (.v 9) (.c (.int .i64 3))) <|
 .m 11 10 .done) K68_11
abbrev K68_13:C:=.cond 10 (.v 11) K68_9 K68_12
abbrev K68_14:C:=.seq (.pl <| .e 10 2 <|
 .x 10 (.bin .eql (.v 9) (.c (.int .i64 2))) <|
 .m 11 10 .done) K68_13
abbrev K68_15:C:=.cond 10 (.v 11) K68_8 K68_14
abbrev K68_16:C:=.block 0 (.seq (.pl <| .e 10 2 <|
 .x 10 (.bin .eql (.v 9) (.c (.int .i64 1))) <|
 .m 11 10 .done) K68_15)
abbrev K68_17:C:=.seq (.seq (.pl <| .e 10 1 <|
 .a 10 3 <|
 .g 9 10 3 0 .done) K68_16) K68_7
abbrev K68_18:C:=.seq (.pl <| .e 10 0 <|
 .x 7 (.mv (.c (.int .i64 2))) <|
 .x 8 (.mv (.c (.int .i64 0))) .done) K68_17
abbrev K68_19:C:=.seq (.pl <| .e 10 5 <|
 .l 10 5 <|
 .x 11 (.nilc (.v 10)) <|
 .l 12 11 <|
 .x 13 (.bin .add (.v 12) (.c (.int .i64 1))) <|
 .x 14 (.nilc (.v 10)) <|
 .o (.ex none (.store 1 (.v 14) (.v 13))) .done) K68_18
abbrev K68_20:Pl:=.x 6 (.mv (.c (.bool false))) .done
abbrev K68_21:Pl:=.c 5 (.alloc (.v 2)) K68_20
abbrev B_impl_Expr_walk:C:=.seq (.pl <| .e 10 0 <|
 .o (.pnew 3 (.v 0) []) <|
 .c 4 (.alloc (.v 1)) K68_21) K68_19
def R_impl_Expr_walk:FIR:=⟨B_impl_Expr_walk,10,[(6,none)]⟩
theorem IR_impl_Expr_walk:cfun Tryd.prog H_impl_Expr_walk Tryd.f68=some R_impl_Expr_walk:=by kernel_rfl
theorem EN_impl_Expr_walk:ENT Tryd.prog B_impl_Expr_walk [(6,none)] 3 10 fn_impl_Expr_walk:=fun hargs hw=>enter Tryd.func68 rfl IR_impl_Expr_walk hargs hw
def H_impl_Expr_walk_1:Hint:=⟨[(0,false),(1,false),(2,false),(3,true),(4,false)],[]⟩
abbrev K81_1:Pl:=.x 10 (.un .not (.v 9)) <|
 .m 4 10 .done
abbrev K81_2:C:=.seq (.pl <| .e 5 6 <|
 .o (.pget (some 5) none 3 0 (some 3)) <|
 .l 6 1 <|
 .x 7 (.bin .add (.v 6) (.c (.int .i64 1))) <|
 .l 8 2 <|
 .c 9 (.call fn_impl_Expr_walk [.v 5,.v 7,.v 8]) K81_1) (.ret)
abbrev B_impl_Expr_walk_1:C:=.seq (.pl <| .e 5 0 <|
 .o (.pnew 3 (.v 0) []) <|
 .x 4 (.mv (.c (.bool false))) .done) K81_2
def R_impl_Expr_walk_1:FIR:=⟨B_impl_Expr_walk_1,5,[(4,none)]⟩
theorem IR_impl_Expr_walk_1:cfun Tryd.prog H_impl_Expr_walk_1 Tryd.f81=some R_impl_Expr_walk_1:=by kernel_rfl
theorem EN_impl_Expr_walk_1:ENT Tryd.prog B_impl_Expr_walk_1 [(4,none)] 3 5 fn_impl_Expr_walk_1:=fun hargs hw=>enter Tryd.func81 rfl IR_impl_Expr_walk_1 hargs hw
def H_impl_FormatSystem:Hint:=⟨[(0,false),(1,true),(2,false),(3,false),(5,true),(7,true),(8,false),(30,false),(31,false),(32,false),(44,false),(45,false),(46,false)],[[0,1,2,4,5,6,10,11,12],[0,1,2,4,5,6]]⟩
abbrev K7_1:C:=.seq (.pl <| .e 13 1 <|
 .m 13 3 <|
 .m 2 13 .done) (.ret)
abbrev K7_2:C:=.pl <| .e 13 1 <|
 .x 13 (.bin .add (.v 9) (.c (.int .i64 1))) <|
 .m 9 13 .done
abbrev K7_3:C:=.pl <| .e 13 1 <|
 .x 13 (.bin .add (.v 12) (.c (.int .i64 1))) <|
 .m 12 13 .done
abbrev K7_4:Pl:=.x 29 (.bin .add (.v 13) (.v 28)) <|
 .m 3 29 .done
abbrev K7_5:Pl:=.c 28 (.call fn_impl_row [.v 27]) K7_4
abbrev K7_6:Pl:=.c 27 (.bls 1 6 [.string ⟨#[]⟩] [(0,1,.c (.string ⟨#[101,100,103,101]⟩)),(1,1,.v 16),(2,1,.v 19),(3,1,.v 22),(4,1,.v 23),(5,1,.v 26)]) K7_5
abbrev K7_7:Pl:=.c 26 (.call fn_impl_syncText [.v 25]) K7_6
abbrev K7_8:Pl:=.c 22 (.call fn_impl_Expr_text [.v 21]) K7_7
abbrev K7_9:Pl:=.c 19 (.call fn_strconv_Itoa [.v 18]) K7_8
abbrev K7_10:C:=.pl <| .e 13 17 <|
 .m 13 3 <|
 .a 14 5 <|
 .g 15 14 5 0 <|
 .a 17 5 <|
 .g 18 17 5 1 <|
 .a 20 5 <|
 .o (.pget (some 21) (some 20) 5 2 (some 3)) <|
 .m 23 6 <|
 .a 24 5 <|
 .g 25 24 5 9 <|
 .c 16 (.call fn_strconv_Itoa [.v 15]) K7_9
abbrev K7_11:Pl:=.x 23 (.bin .add (.v 19) (.v 22)) <|
 .m 6 23 .done
abbrev K7_12:C:=.pl <| .e 13 11 <|
 .a 13 5 <|
 .g 14 13 5 5 <|
 .a 15 5 <|
 .g 16 15 5 5 <|
 .x 17 (.bin .add (.v 16) (.c (.int .i64 1))) <|
 .x 18 (.sliceS (.c (.string ⟨#[120,121,122]⟩)) (some (.v 14)) (some (.v 17))) <|
 .x 19 (.bin .add (.v 18) (.c (.string ⟨#[58,61]⟩))) <|
 .a 20 5 <|
 .o (.pget (some 21) (some 20) 5 6 (some 3)) <|
 .c 22 (.call fn_impl_Expr_text [.v 21]) K7_11
abbrev K7_13:C:=.cond 13 (.v 15) K7_12 (.skip)
abbrev K7_14:C:=.seq (.seq (.pl <| .e 13 3 <|
 .a 13 5 <|
 .g 14 13 5 5 <|
 .x 15 (.bin .geq (.v 14) (.c (.int .i64 0))) .done) K7_13) K7_10
abbrev K7_15:C:=.seq (.pl <| .e 13 0 <|
 .x 6 (.mv (.c (.string ⟨#[45]⟩))) .done) K7_14
abbrev K7_16:C:=.seq (.block 3 (.seq (.pl <| .e 13 2 <|
 .x 13 (.ia 10 (.v 10) (.v 12)) <|
 .o (.ld (some 14) (.v 13) (some 10)) <|
 .o (.pnew 5 (.c (.agg #[.int .i64 0,.int .i64 0,.int .i64 0,.int .i64 0,.slice none 0 0,.int .i64 0,.int .i64 0,.int .i64 0,.slice none 0 0,.int .i64 0])) []) <|
 .o (.pset none 5 0 10 (.v 14)) .done) K7_15)) K7_3
abbrev K7_17:C:=.seq (.cond 13 (.v 13) (.skip) (.exit 2)) K7_16
abbrev K7_18:C:=.seq (.pl <| .e 13 1 <|
 .x 13 (.bin .lss (.v 12) (.v 11)) .done) K7_17
abbrev K7_19:C:=.block 2 (.loop 13 [0,1,2,4,5,6] K7_18)
abbrev K7_20:C:=.seq (.pl <| .e 13 1 <|
 .a 13 4 <|
 .g 10 13 4 1 <|
 .x 11 (.lenV (.v 10)) <|
 .x 12 (.mv (.c (.int .i64 0))) .done) K7_19
abbrev K7_21:Pl:=.x 19 (.bin .add (.v 13) (.v 18)) <|
 .m 3 19 .done
abbrev K7_22:Pl:=.c 18 (.call fn_impl_row [.v 17]) K7_21
abbrev K7_23:Pl:=.c 17 (.bls 1 2 [.string ⟨#[]⟩] [(0,1,.c (.string ⟨#[112,114,111,99,101,115,115]⟩)),(1,1,.v 16)]) K7_22
abbrev K7_24:C:=.seq (.pl <| .e 13 7 <|
 .m 13 3 <|
 .a 14 4 <|
 .g 15 14 4 0 <|
 .c 16 (.call fn_strconv_Itoa [.v 15]) K7_23) K7_20
abbrev K7_25:C:=.seq (.block 1 (.seq (.pl <| .e 13 2 <|
 .x 13 (.ia 2 (.v 7) (.v 9)) <|
 .o (.ld (some 14) (.v 13) (some 2)) <|
 .o (.pnew 4 (.c (.agg #[.int .i64 0,.slice none 0 0])) []) <|
 .o (.pset none 4 0 2 (.v 14)) .done) K7_24)) K7_2
abbrev K7_26:C:=.seq (.cond 13 (.v 13) (.skip) (.exit 0)) K7_25
abbrev K7_27:C:=.seq (.pl <| .e 13 1 <|
 .x 13 (.bin .lss (.v 9) (.v 8)) .done) K7_26
abbrev K7_28:C:=.block 0 (.loop 13 [0,1,2,4,5,6,10,11,12] K7_27)
abbrev K7_29:C:=.seq (.seq (.pl <| .e 13 1 <|
 .a 13 1 <|
 .g 7 13 1 1 <|
 .x 8 (.lenV (.v 7)) <|
 .x 9 (.mv (.c (.int .i64 0))) .done) K7_28) K7_1
abbrev K7_30:Pl:=.m 3 29 .done
abbrev K7_31:Pl:=.c 29 (.call fn_impl_row [.v 28]) K7_30
abbrev K7_32:Pl:=.c 28 (.bls 1 4 [.string ⟨#[]⟩] [(0,1,.c (.string ⟨#[115,121,115,116,101,109]⟩)),(1,1,.v 17),(2,1,.v 22),(3,1,.v 27)]) K7_31
abbrev K7_33:Pl:=.st (.re 26 (.v 25) none none) <|
 .c 27 (.call fn_strconv_Itoa [.v 26]) K7_32
abbrev K7_34:Pl:=.st (.re 21 (.v 20) none none) <|
 .st (.re 26 (.v 25) none none) <|
 .c 22 (.call fn_strconv_Itoa [.v 21]) K7_33
abbrev K7_35:C:=.seq (.pl <| .e 13 17 <|
 .a 13 1 <|
 .g 14 13 1 0 <|
 .x 15 (.ia 1 (.v 14) (.c (.int .i64 0))) <|
 .l 16 15 <|
 .a 18 1 <|
 .g 19 18 1 0 <|
 .x 20 (.ia 1 (.v 19) (.c (.int .i64 1))) <|
 .l 21 20 <|
 .a 23 1 <|
 .g 24 23 1 0 <|
 .x 25 (.ia 1 (.v 24) (.c (.int .i64 2))) <|
 .l 26 25 <|
 .c 17 (.call fn_strconv_Itoa [.v 16]) K7_34) K7_29
abbrev K7_36:C:=.seq (.pl <| .e 13 0 <|
 .x 2 (.mv (.c (.string ⟨#[]⟩))) .done) (.ret)
abbrev K7_37:C:=.cond 13 (.v 15) K7_36 (.skip)
abbrev K7_38:Pl:=.x 15 (.un .not (.v 14)) .done
abbrev K7_39:C:=.seq (.seq (.pl <| .e 13 3 <|
 .o (.pget (some 13) none 1 0 (some 2)) <|
 .c 14 (.call fn_impl_SystemValid [.v 13]) K7_38) K7_37) K7_35
abbrev B_impl_FormatSystem:C:=.seq (.pl <| .e 13 0 <|
 .o (.pnew 1 (.v 0) []) <|
 .x 2 (.mv (.c (.string ⟨#[]⟩))) .done) K7_39
def R_impl_FormatSystem:FIR:=⟨B_impl_FormatSystem,13,[(2,none)]⟩
theorem IR_impl_FormatSystem:cfun Tryd.prog H_impl_FormatSystem Tryd.f7=some R_impl_FormatSystem:=by kernel_rfl
theorem EN_impl_FormatSystem:ENT Tryd.prog B_impl_FormatSystem [(2,none)] 1 13 fn_impl_FormatSystem:=fun hargs hw=>enter Tryd.func7 rfl IR_impl_FormatSystem hargs hw
def H_impl_SystemValid:Hint:=⟨[(0,false),(1,true),(2,false),(4,false),(17,false),(18,false),(19,false)],[[0,1,2,3]]⟩
abbrev K16_1:C:=.seq (.pl <| .e 7 0 <|
 .x 2 (.mv (.c (.bool true))) .done) (.ret)
abbrev K16_2:C:=.pl <| .e 7 1 <|
 .x 7 (.bin .add (.v 6) (.c (.int .i64 1))) <|
 .m 6 7 .done
abbrev K16_3:C:=.seq (.pl <| .e 7 0 <|
 .x 2 (.mv (.c (.bool false))) .done) (.ret)
abbrev K16_4:C:=.cond 7 (.v 22) K16_3 (.skip)
abbrev K16_5:Pl:=.x 22 (.pick (.v 17) (.c (.bool true)) (.v 21)) .done
abbrev K16_6:Pl:=.x 10 (.un .not (.v 9)) <|
 .m 11 10 <|
 .n 11 (.px (some 12) (.fa 1 (.v 3))) <|
 .n 11 (.ld (some 13) (.v 12) none) <|
 .n 11 (.px (some 14) (.lenV (.v 13))) <|
 .n 11 (.px (some 15) (.bin .gtr (.v 14) (.c (.int .i64 6)))) <|
 .x 16 (.pick (.v 11) (.c (.bool true)) (.v 15)) <|
 .m 17 16 <|
 .n 17 (.px (some 18) (.fa 1 (.v 3))) <|
 .n 17 (.ld (some 19) (.v 18) none) <|
 .n 17 (.px (some 20) (.mkf (.func fn_impl_SystemValid_1) [] [.v 3])) <|
 .st (.act (some (.v 17,false)) (.ex (some 21) (.call fn_slices_ContainsFunc_S_impl_Edge_impl_Edge [.v 19,.v 20]))) K16_5
abbrev K16_7:C:=.seq (.pl <| .e 7 16 <|
 .x 7 (.fa 0 (.v 3)) <|
 .l 8 7 <|
 .c 9 (.call fn_impl_in [.v 8,.c (.int .i64 1),.c (.int .i64 4)]) K16_6) K16_4
abbrev K16_8:Pl:=.o (.ex none (.store 2 (.v 3) (.v 8))) .done
abbrev K16_9:C:=.seq (.block 1 (.seq (.pl <| .e 7 2 <|
 .x 7 (.ia 2 (.v 4) (.v 6)) <|
 .o (.ld (some 8) (.v 7) (some 2)) <|
 .c 3 (.alloc (.c (.agg #[.int .i64 0,.slice none 0 0]))) K16_8) K16_7)) K16_2
abbrev K16_10:C:=.seq (.cond 7 (.v 7) (.skip) (.exit 0)) K16_9
abbrev K16_11:C:=.seq (.pl <| .e 7 1 <|
 .x 7 (.bin .lss (.v 6) (.v 5)) .done) K16_10
abbrev K16_12:C:=.block 0 (.loop 7 [0,1,2,3] K16_11)
abbrev K16_13:C:=.seq (.seq (.pl <| .e 7 1 <|
 .a 7 1 <|
 .g 4 7 1 1 <|
 .x 5 (.lenV (.v 4)) <|
 .x 6 (.mv (.c (.int .i64 0))) .done) K16_12) K16_1
abbrev K16_14:C:=.seq (.pl <| .e 7 0 <|
 .x 2 (.mv (.c (.bool false))) .done) (.ret)
abbrev K16_15:C:=.cond 7 (.v 17) K16_14 (.skip)
abbrev K16_16:Pl:=.n 11 (.px (some 16) (.un .not (.v 15))) <|
 .x 17 (.pick (.v 11) (.c (.bool true)) (.v 16)) .done
abbrev K16_17:Pl:=.x 10 (.un .not (.v 9)) <|
 .m 11 10 <|
 .n 11 (.als 12 none 1) <|
 .n 11 (.pget (some 13) (some 12) 1 1 none) <|
 .n 11 (.px (some 14) (.lenV (.v 13))) <|
 .st (.act (some (.v 11,false)) (.ex (some 15) (.call fn_impl_in [.v 14,.c (.int .i64 1),.c (.int .i64 3)]))) K16_16
abbrev K16_18:C:=.seq (.seq (.pl <| .e 7 11 <|
 .a 7 1 <|
 .g 8 7 1 0 <|
 .c 9 (.call fn_impl_valsOk [.v 8]) K16_17) K16_15) K16_13
abbrev B_impl_SystemValid:C:=.seq (.pl <| .e 7 0 <|
 .o (.pnew 1 (.v 0) []) <|
 .x 2 (.mv (.c (.bool false))) .done) K16_18
def R_impl_SystemValid:FIR:=⟨B_impl_SystemValid,7,[(2,none)]⟩
theorem IR_impl_SystemValid:cfun Tryd.prog H_impl_SystemValid Tryd.f16=some R_impl_SystemValid:=by kernel_rfl
theorem EN_impl_SystemValid:ENT Tryd.prog B_impl_SystemValid [(2,none)] 1 7 fn_impl_SystemValid:=fun hargs hw=>enter Tryd.func16 rfl IR_impl_SystemValid hargs hw
def H_impl_SystemValid_1:Hint:=⟨[(0,false),(1,false),(2,true),(3,false)],[]⟩
abbrev K31_1:Pl:=.x 8 (.un .not (.v 7)) <|
 .m 3 8 .done
abbrev K31_2:C:=.seq (.pl <| .e 4 5 <|
 .o (.pget (some 4) none 2 0 (some 10)) <|
 .x 5 (.fa 0 (.v 1)) <|
 .l 6 5 <|
 .c 7 (.call fn_impl_EdgeValid [.v 4,.v 6]) K31_1) (.ret)
abbrev B_impl_SystemValid_1:C:=.seq (.pl <| .e 4 0 <|
 .o (.pnew 2 (.v 0) []) <|
 .x 3 (.mv (.c (.bool false))) .done) K31_2
def R_impl_SystemValid_1:FIR:=⟨B_impl_SystemValid_1,4,[(3,none)]⟩
theorem IR_impl_SystemValid_1:cfun Tryd.prog H_impl_SystemValid_1 Tryd.f31=some R_impl_SystemValid_1:=by kernel_rfl
theorem EN_impl_SystemValid_1:ENT Tryd.prog B_impl_SystemValid_1 [(3,none)] 2 4 fn_impl_SystemValid_1:=fun hargs hw=>enter Tryd.func31 rfl IR_impl_SystemValid_1 hargs hw
def H_impl_in:Hint:=⟨[(0,false),(1,false),(2,false),(6,false)],[]⟩
abbrev K29_1:C:=.seq (.pl <| .e 4 8 <|
 .m 4 0 <|
 .m 5 1 <|
 .x 6 (.bin .geq (.v 4) (.v 5)) <|
 .m 7 6 <|
 .y 7 (.px (some 8) (.mv (.v 0))) <|
 .y 7 (.px (some 9) (.mv (.v 2))) <|
 .y 7 (.px (some 10) (.bin .leq (.v 8) (.v 9))) <|
 .x 11 (.pick (.v 7) (.v 10) (.c (.bool false))) <|
 .m 3 11 .done) (.ret)
abbrev B_impl_in:C:=.seq (.pl <| .e 4 0 <|
 .x 3 (.mv (.c (.bool false))) .done) K29_1
def R_impl_in:FIR:=⟨B_impl_in,4,[(3,none)]⟩
theorem IR_impl_in:cfun Tryd.prog H_impl_in Tryd.f29=some R_impl_in:=by kernel_rfl
theorem EN_impl_in:ENT Tryd.prog B_impl_in [(3,none)] 3 4 fn_impl_in:=fun hargs hw=>enter Tryd.func29 rfl IR_impl_in hargs hw
def H_impl_row:Hint:=⟨[(0,false),(2,false)],[]⟩
abbrev K17_1:Pl:=.x 4 (.bin .add (.v 3) (.c (.string ⟨#[10]⟩))) <|
 .m 1 4 .done
abbrev K17_2:C:=.seq (.pl <| .e 2 3 <|
 .m 2 0 <|
 .c 3 (.call fn_strings_Join [.v 2,.c (.string ⟨#[32]⟩)]) K17_1) (.ret)
abbrev B_impl_row:C:=.seq (.pl <| .e 2 0 <|
 .x 1 (.mv (.c (.string ⟨#[]⟩))) .done) K17_2
def R_impl_row:FIR:=⟨B_impl_row,2,[(1,none)]⟩
theorem IR_impl_row:cfun Tryd.prog H_impl_row Tryd.f17=some R_impl_row:=by kernel_rfl
theorem EN_impl_row:ENT Tryd.prog B_impl_row [(1,none)] 1 2 fn_impl_row:=fun hargs hw=>enter Tryd.func17 rfl IR_impl_row hargs hw
def H_impl_syncText:Hint:=⟨[(0,false),(2,false)],[]⟩
abbrev K20_1:C:=.seq (.pl <| .e 2 0 <|
 .x 1 (.mv (.c (.string ⟨#[45]⟩))) .done) (.ret)
abbrev K20_2:Pl:=.x 4 (.bin .add (.c (.string ⟨#[33]⟩)) (.v 3)) <|
 .m 1 4 .done
abbrev K20_3:C:=.seq (.pl <| .e 2 3 <|
 .m 2 0 <|
 .c 3 (.call fn_strconv_Itoa [.v 2]) K20_2) (.ret)
abbrev K20_4:Pl:=.x 5 (.bin .add (.c (.string ⟨#[63]⟩)) (.v 4)) <|
 .m 1 5 .done
abbrev K20_5:C:=.seq (.pl <| .e 2 4 <|
 .m 2 0 <|
 .x 3 (.un .neg (.v 2)) <|
 .c 4 (.call fn_strconv_Itoa [.v 3]) K20_4) (.ret)
abbrev K20_6:C:=.cond 2 (.v 4) K20_5 (.skip)
abbrev K20_7:C:=.seq (.pl <| .e 2 3 <|
 .m 2 0 <|
 .x 3 (.bin .lss (.v 2) (.c (.int .i64 0))) <|
 .m 4 3 .done) K20_6
abbrev K20_8:C:=.cond 2 (.v 4) K20_3 K20_7
abbrev K20_9:C:=.seq (.block 0 (.seq (.pl <| .e 2 3 <|
 .m 2 0 <|
 .x 3 (.bin .gtr (.v 2) (.c (.int .i64 0))) <|
 .m 4 3 .done) K20_8)) K20_1
abbrev B_impl_syncText:C:=.seq (.pl <| .e 2 0 <|
 .x 1 (.mv (.c (.string ⟨#[]⟩))) .done) K20_9
def R_impl_syncText:FIR:=⟨B_impl_syncText,2,[(1,none)]⟩
theorem IR_impl_syncText:cfun Tryd.prog H_impl_syncText Tryd.f20=some R_impl_syncText:=by kernel_rfl
theorem EN_impl_syncText:ENT Tryd.prog B_impl_syncText [(1,none)] 1 2 fn_impl_syncText:=fun hargs hw=>enter Tryd.func20 rfl IR_impl_syncText hargs hw
def H_impl_valsOk:Hint:=⟨[(0,false),(2,false)],[]⟩
abbrev K28_1:Pl:=.y 5 (.px (some 8) (.un .not (.v 7))) <|
 .x 9 (.pick (.v 5) (.v 8) (.c (.bool false))) <|
 .m 1 9 .done
abbrev K28_2:C:=.seq (.pl <| .e 2 8 <|
 .m 2 0 <|
 .x 3 (.lenV (.v 2)) <|
 .x 4 (.bin .eql (.v 3) (.c (.int .i64 3))) <|
 .m 5 4 <|
 .y 5 (.px (some 6) (.mv (.v 0))) <|
 .st (.act (some (.v 5,true)) (.ex (some 7) (.call fn_slices_ContainsFunc_S_int_int [.v 6,.c (.func (.func 41) #[] #[])]))) K28_1) (.ret)
abbrev B_impl_valsOk:C:=.seq (.pl <| .e 2 0 <|
 .x 1 (.mv (.c (.bool false))) .done) K28_2
def R_impl_valsOk:FIR:=⟨B_impl_valsOk,2,[(1,none)]⟩
theorem IR_impl_valsOk:cfun Tryd.prog H_impl_valsOk Tryd.f28=some R_impl_valsOk:=by kernel_rfl
theorem EN_impl_valsOk:ENT Tryd.prog B_impl_valsOk [(1,none)] 1 2 fn_impl_valsOk:=fun hargs hw=>enter Tryd.func28 rfl IR_impl_valsOk hargs hw
def H_impl_valsOk_1:Hint:=⟨[(0,false),(2,false)],[]⟩
abbrev K41_1:Pl:=.x 4 (.un .not (.v 3)) <|
 .m 1 4 .done
abbrev K41_2:C:=.seq (.pl <| .e 2 3 <|
 .m 2 0 <|
 .c 3 (.call fn_impl_in [.v 2,.c (.int .i64 0),.c (.int .i64 3)]) K41_1) (.ret)
abbrev B_impl_valsOk_1:C:=.seq (.pl <| .e 2 0 <|
 .x 1 (.mv (.c (.bool false))) .done) K41_2
def R_impl_valsOk_1:FIR:=⟨B_impl_valsOk_1,2,[(1,none)]⟩
theorem IR_impl_valsOk_1:cfun Tryd.prog H_impl_valsOk_1 Tryd.f41=some R_impl_valsOk_1:=by kernel_rfl
theorem EN_impl_valsOk_1:ENT Tryd.prog B_impl_valsOk_1 [(1,none)] 1 2 fn_impl_valsOk_1:=fun hargs hw=>enter Tryd.func41 rfl IR_impl_valsOk_1 hargs hw
def H_internal_strconv_FormatInt:Hint:=⟨[(0,false),(1,false),(4,false),(5,false),(6,false),(7,false),(9,false)],[]⟩
abbrev K48_1:C:=.seq (.pl <| .e 7 1 <|
 .m 7 6 <|
 .m 2 7 .done) (.ret)
abbrev K48_2:Pl:=.m 13 12 <|
 .x 14 (.extract 0 (.v 13)) <|
 .x 15 (.extract 1 (.v 13)) <|
 .m 16 14 <|
 .m 6 15 .done
abbrev K48_3:C:=.seq (.pl <| .e 7 10 <|
 .m 7 0 <|
 .x 8 (.conv .u64 (.v 7)) <|
 .m 9 1 <|
 .m 10 0 <|
 .x 11 (.bin .lss (.v 10) (.c (.int .i64 0))) <|
 .c 12 (.call fn_internal_strconv_formatBits [.c (.slice none 0 0),.v 8,.v 9,.v 11,.c (.bool false)]) K48_2) K48_1
abbrev K48_4:Pl:=.m 2 10 .done
abbrev K48_5:C:=.seq (.pl <| .e 7 4 <|
 .m 7 5 <|
 .x 8 (.bin .add (.c (.int .i64 1)) (.v 7)) <|
 .o (.px none (.extract 0 (.c (.tuple #[])))) <|
 .c 10 (.bstr (.v 9)) K48_4) (.ret)
abbrev K48_6:Pl:=.m 2 10 .done
abbrev K48_7:C:=.seq (.pl <| .e 7 4 <|
 .m 7 5 <|
 .x 8 (.bin .add (.c (.int .i64 1)) (.v 7)) <|
 .o (.px none (.extract 0 (.c (.tuple #[])))) <|
 .c 10 (.bstr (.v 9)) K48_6) (.ret)
abbrev K48_8:C:=.seq (.pl <| .e 7 1 <|
 .x 7 (.iaA 24 1 (.v 3) (.c (.int .i64 0))) <|
 .o (.ex none (.store 1 (.v 7) (.c (.int .u8 45)))) .done) K48_7
abbrev K48_9:C:=.cond 7 (.v 8) K48_8 (.skip)
abbrev K48_10:C:=.seq (.seq (.pl <| .e 7 2 <|
 .m 7 0 <|
 .x 8 (.bin .lss (.v 7) (.c (.int .i64 0))) .done) K48_9) K48_5
abbrev K48_11:C:=.seq (.pl <| .e 7 5 <|
 .m 7 5 <|
 .x 8 (.bin .add (.c (.int .i64 1)) (.v 7)) <|
 .o (.px none (.extract 0 (.c (.tuple #[])))) <|
 .m 10 4 <|
 .c 11 (.call fn_internal_strconv_formatBase10 [.v 9,.v 10]) .done) K48_10
abbrev K48_12:Pl:=.m 5 8 .done
abbrev K48_13:C:=.seq (.pl <| .e 7 2 <|
 .m 7 4 <|
 .c 8 (.call fn_internal_strconv_numDigits [.v 7]) K48_12) K48_11
abbrev K48_14:C:=.pl <| .e 7 2 <|
 .m 7 4 <|
 .x 8 (.un .neg (.v 7)) <|
 .m 4 8 .done
abbrev K48_15:C:=.cond 7 (.v 8) K48_14 (.skip)
abbrev K48_16:C:=.seq (.seq (.pl <| .e 7 2 <|
 .m 7 0 <|
 .x 8 (.bin .lss (.v 7) (.c (.int .i64 0))) .done) K48_15) K48_13
abbrev K48_17:C:=.seq (.pl <| .e 7 2 <|
 .m 7 0 <|
 .x 8 (.conv .u64 (.v 7)) <|
 .m 4 8 .done) K48_16
abbrev K48_18:C:=.seq (.pl <| .e 7 0 <|
 .c 3 (.alloc (.c (.agg #[.int .u8 0,.int .u8 0,.int .u8 0,.int .u8 0,.int .u8 0,.int .u8 0,.int .u8 0,.int .u8 0,.int .u8 0,.int .u8 0,.int .u8 0,.int .u8 0,.int .u8 0,.int .u8 0,.int .u8 0,.int .u8 0,.int .u8 0,.int .u8 0,.int .u8 0,.int .u8 0,.int .u8 0,.int .u8 0,.int .u8 0,.int .u8 0]))) .done) K48_17
abbrev K48_19:Pl:=.m 2 8 .done
abbrev K48_20:C:=.seq (.pl <| .e 7 2 <|
 .m 7 0 <|
 .c 8 (.call fn_internal_strconv_small [.v 7]) K48_19) (.ret)
abbrev K48_21:C:=.cond 7 (.v 12) K48_20 (.skip)
abbrev K48_22:C:=.seq (.seq (.pl <| .e 7 6 <|
 .m 7 0 <|
 .x 8 (.bin .leq (.c (.int .i64 0)) (.v 7)) <|
 .m 9 8 <|
 .y 9 (.px (some 10) (.mv (.v 0))) <|
 .y 9 (.px (some 11) (.bin .lss (.v 10) (.c (.int .i64 100)))) <|
 .x 12 (.pick (.v 9) (.v 11) (.c (.bool false))) .done) K48_21) K48_18
abbrev K48_23:C:=.cond 7 (.v 8) K48_22 (.skip)
abbrev K48_24:C:=.seq (.seq (.pl <| .e 7 2 <|
 .m 7 1 <|
 .x 8 (.bin .eql (.v 7) (.c (.int .i64 10))) .done) K48_23) K48_3
abbrev B_internal_strconv_FormatInt:C:=.seq (.pl <| .e 7 0 <|
 .x 2 (.mv (.c (.string ⟨#[]⟩))) .done) K48_24
def R_internal_strconv_FormatInt:FIR:=⟨B_internal_strconv_FormatInt,7,[(2,none)]⟩
theorem IR_internal_strconv_FormatInt:cfun Tryd.prog H_internal_strconv_FormatInt Tryd.f48=some R_internal_strconv_FormatInt:=by kernel_rfl
theorem EN_internal_strconv_FormatInt:ENT Tryd.prog B_internal_strconv_FormatInt [(2,none)] 2 7 fn_internal_strconv_FormatInt:=fun hargs hw=>enter Tryd.func48 rfl IR_internal_strconv_FormatInt hargs hw
def H_internal_strconv_Itoa:Hint:=⟨[(0,false),(2,false)],[]⟩
abbrev K34_1:Pl:=.m 1 3 .done
abbrev K34_2:C:=.seq (.pl <| .e 2 2 <|
 .m 2 0 <|
 .c 3 (.call fn_internal_strconv_FormatInt [.v 2,.c (.int .i64 10)]) K34_1) (.ret)
abbrev B_internal_strconv_Itoa:C:=.seq (.pl <| .e 2 0 <|
 .x 1 (.mv (.c (.string ⟨#[]⟩))) .done) K34_2
def R_internal_strconv_Itoa:FIR:=⟨B_internal_strconv_Itoa,2,[(1,none)]⟩
theorem IR_internal_strconv_Itoa:cfun Tryd.prog H_internal_strconv_Itoa Tryd.f34=some R_internal_strconv_Itoa:=by kernel_rfl
theorem EN_internal_strconv_Itoa:ENT Tryd.prog B_internal_strconv_Itoa [(1,none)] 1 2 fn_internal_strconv_Itoa:=fun hargs hw=>enter Tryd.func34 rfl IR_internal_strconv_Itoa hargs hw
def H_internal_strconv_small:Hint:=⟨[(0,false),(2,false)],[]⟩
abbrev K59_1:C:=.seq (.pl <| .e 2 6 <|
 .m 2 0 <|
 .x 3 (.bin .mul (.v 2) (.c (.int .i64 2))) <|
 .m 4 0 <|
 .x 5 (.bin .mul (.v 4) (.c (.int .i64 2))) <|
 .x 6 (.bin .add (.v 5) (.c (.int .i64 2))) <|
 .x 7 (.sliceS (.c (.string ⟨#[48,48,48,49,48,50,48,51,48,52,48,53,48,54,48,55,48,56,48,57,49,48,49,49,49,50,49,51,49,52,49,53,49,54,49,55,49,56,49,57,50,48,50,49,50,50,50,51,50,52,50,53,50,54,50,55,50,56,50,57,51,48,51,49,51,50,51,51,51,52,51,53,51,54,51,55,51,56,51,57,52,48,52,49,52,50,52,51,52,52,52,53,52,54,52,55,52,56,52,57,53,48,53,49,53,50,53,51,53,52,53,53,53,54,53,55,53,56,53,57,54,48,54,49,54,50,54,51,54,52,54,53,54,54,54,55,54,56,54,57,55,48,55,49,55,50,55,51,55,52,55,53,55,54,55,55,55,56,55,57,56,48,56,49,56,50,56,51,56,52,56,53,56,54,56,55,56,56,56,57,57,48,57,49,57,50,57,51,57,52,57,53,57,54,57,55,57,56,57,57]⟩)) (some (.v 3)) (some (.v 6))) <|
 .m 1 7 .done) (.ret)
abbrev K59_2:C:=.seq (.pl <| .e 2 4 <|
 .m 2 0 <|
 .m 3 0 <|
 .x 4 (.bin .add (.v 3) (.c (.int .i64 1))) <|
 .x 5 (.sliceS (.c (.string ⟨#[48,49,50,51,52,53,54,55,56,57,97,98,99,100,101,102,103,104,105,106,107,108,109,110,111,112,113,114,115,116,117,118,119,120,121,122]⟩)) (some (.v 2)) (some (.v 4))) <|
 .m 1 5 .done) (.ret)
abbrev K59_3:C:=.cond 2 (.v 3) K59_2 (.skip)
abbrev K59_4:C:=.seq (.seq (.pl <| .e 2 2 <|
 .m 2 0 <|
 .x 3 (.bin .lss (.v 2) (.c (.int .i64 10))) .done) K59_3) K59_1
abbrev B_internal_strconv_small:C:=.seq (.pl <| .e 2 0 <|
 .x 1 (.mv (.c (.string ⟨#[]⟩))) .done) K59_4
def R_internal_strconv_small:FIR:=⟨B_internal_strconv_small,2,[(1,none)]⟩
theorem IR_internal_strconv_small:cfun Tryd.prog H_internal_strconv_small Tryd.f59=some R_internal_strconv_small:=by kernel_rfl
theorem EN_internal_strconv_small:ENT Tryd.prog B_internal_strconv_small [(1,none)] 1 2 fn_internal_strconv_small:=fun hargs hw=>enter Tryd.func59 rfl IR_internal_strconv_small hargs hw
def H_laws_FnExactFormatSystem:Hint:=⟨[(0,false),(1,true),(2,false),(3,false),(4,false),(5,true),(6,false)],[]⟩
abbrev K3_1:C:=.seq (.pl <| .e 7 0 <|
 .x 2 (.mv (.c (.bool true))) .done) (.ret)
abbrev K3_2:C:=.seq (.pl <| .e 7 0 <|
 .x 2 (.mv (.c (.bool false))) .done) (.ret)
abbrev K3_3:C:=.cond 7 (.v 11) K3_2 (.skip)
abbrev K3_4:Pl:=.x 11 (.un .not (.v 10)) .done
abbrev K3_5:Pl:=.c 10 (.call fn_laws_eqSystem [.v 7,.v 9]) K3_4
abbrev K3_6:C:=.seq (.seq (.pl <| .e 7 5 <|
 .o (.pget (some 7) none 5 0 (some 2)) <|
 .o (.pget (some 8) none 1 0 (some 2)) <|
 .c 9 (.call fn_laws_toSystem [.v 8]) K3_5) K3_3) K3_1
abbrev K3_7:C:=.seq (.pl <| .e 7 0 <|
 .x 2 (.mv (.c (.bool false))) .done) (.ret)
abbrev K3_8:C:=.cond 7 (.v 9) K3_7 (.skip)
abbrev K3_9:C:=.seq (.seq (.pl <| .e 7 3 <|
 .m 7 6 <|
 .m 8 4 <|
 .x 9 (.bin .neq (.v 7) (.v 8)) .done) K3_8) K3_6
abbrev K3_10:Pl:=.m 6 8 .done
abbrev K3_11:C:=.seq (.pl <| .e 7 2 <|
 .o (.pget (some 7) none 5 0 (some 2)) <|
 .c 8 (.call fn_impl_FormatSystem [.v 7]) K3_10) K3_9
abbrev K3_12:Pl:=.o (.pnew 5 (.c (.agg #[.slice none 0 0,.slice none 0 0])) []) <|
 .o (.pset none 5 0 2 (.v 8)) .done
abbrev K3_13:C:=.seq (.pl <| .e 7 2 <|
 .o (.pget (some 7) none 1 0 (some 2)) <|
 .c 8 (.call fn_laws_toSystem [.v 7]) K3_12) K3_11
abbrev K3_14:Pl:=.m 4 9 .done
abbrev K3_15:Pl:=.c 9 (.call fn_spec_FormatSystem [.v 8]) K3_14
abbrev K3_16:C:=.seq (.pl <| .e 7 3 <|
 .o (.pget (some 7) none 1 0 (some 2)) <|
 .c 8 (.call fn_laws_toSystem [.v 7]) K3_15) K3_13
abbrev K3_17:C:=.seq (.pl <| .e 7 0 <|
 .x 2 (.mv (.c (.bool true))) .done) (.ret)
abbrev K3_18:C:=.cond 7 (.v 8) K3_17 (.skip)
abbrev K3_19:C:=.seq (.seq (.pl <| .e 7 2 <|
 .m 7 3 <|
 .x 8 (.bin .lss (.v 7) (.c (.int .i64 0))) .done) K3_18) K3_16
abbrev K3_20:Pl:=.m 3 9 .done
abbrev K3_21:C:=.seq (.pl <| .e 7 3 <|
 .o (.pget (some 7) none 1 0 (some 2)) <|
 .m 8 3 <|
 .c 9 (.call fn_laws_szSystem [.v 7,.v 8]) K3_20) K3_19
abbrev K3_22:C:=.seq (.pl <| .e 7 0 <|
 .x 3 (.mv (.c (.int .i64 1048576))) .done) K3_21
abbrev B_laws_FnExactFormatSystem:C:=.seq (.pl <| .e 7 0 <|
 .o (.pnew 1 (.v 0) []) <|
 .x 2 (.mv (.c (.bool false))) .done) K3_22
def R_laws_FnExactFormatSystem:FIR:=⟨B_laws_FnExactFormatSystem,7,[(2,none)]⟩
theorem IR_laws_FnExactFormatSystem:cfun Tryd.prog H_laws_FnExactFormatSystem Tryd.f3=some R_laws_FnExactFormatSystem:=by kernel_rfl
theorem EN_laws_FnExactFormatSystem:ENT Tryd.prog B_laws_FnExactFormatSystem [(2,none)] 1 7 fn_laws_FnExactFormatSystem:=fun hargs hw=>enter Tryd.func3 rfl IR_laws_FnExactFormatSystem hargs hw
def H_laws_eqEdge:Hint:=⟨[(0,false),(1,false),(2,true),(3,true),(4,false)],[]⟩
abbrev K63_1:C:=.seq (.pl <| .e 5 0 <|
 .x 4 (.mv (.c (.bool true))) .done) (.ret)
abbrev K63_2:C:=.seq (.pl <| .e 5 0 <|
 .x 4 (.mv (.c (.bool false))) .done) (.ret)
abbrev K63_3:C:=.cond 5 (.v 9) K63_2 (.skip)
abbrev K63_4:C:=.seq (.seq (.pl <| .e 5 5 <|
 .a 5 2 <|
 .g 6 5 2 9 <|
 .a 7 3 <|
 .g 8 7 3 9 <|
 .x 9 (.bin .neq (.v 6) (.v 8)) .done) K63_3) K63_1
abbrev K63_5:C:=.seq (.pl <| .e 5 0 <|
 .x 4 (.mv (.c (.bool false))) .done) (.ret)
abbrev K63_6:C:=.cond 5 (.v 10) K63_5 (.skip)
abbrev K63_7:Pl:=.x 10 (.un .not (.v 9)) .done
abbrev K63_8:C:=.seq (.seq (.pl <| .e 5 6 <|
 .a 5 2 <|
 .o (.pget (some 6) (some 5) 2 6 (some 3)) <|
 .a 7 3 <|
 .o (.pget (some 8) (some 7) 3 6 (some 3)) <|
 .c 9 (.call fn_laws_eqExpr [.v 6,.v 8]) K63_7) K63_6) K63_4
abbrev K63_9:C:=.seq (.pl <| .e 5 0 <|
 .x 4 (.mv (.c (.bool false))) .done) (.ret)
abbrev K63_10:C:=.cond 5 (.v 9) K63_9 (.skip)
abbrev K63_11:C:=.seq (.seq (.pl <| .e 5 5 <|
 .a 5 2 <|
 .g 6 5 2 5 <|
 .a 7 3 <|
 .g 8 7 3 5 <|
 .x 9 (.bin .neq (.v 6) (.v 8)) .done) K63_10) K63_8
abbrev K63_12:C:=.seq (.pl <| .e 5 0 <|
 .x 4 (.mv (.c (.bool false))) .done) (.ret)
abbrev K63_13:C:=.cond 5 (.v 10) K63_12 (.skip)
abbrev K63_14:Pl:=.x 10 (.un .not (.v 9)) .done
abbrev K63_15:C:=.seq (.seq (.pl <| .e 5 6 <|
 .a 5 2 <|
 .o (.pget (some 6) (some 5) 2 2 (some 3)) <|
 .a 7 3 <|
 .o (.pget (some 8) (some 7) 3 2 (some 3)) <|
 .c 9 (.call fn_laws_eqExpr [.v 6,.v 8]) K63_14) K63_13) K63_11
abbrev K63_16:C:=.seq (.pl <| .e 5 0 <|
 .x 4 (.mv (.c (.bool false))) .done) (.ret)
abbrev K63_17:C:=.cond 5 (.v 9) K63_16 (.skip)
abbrev K63_18:C:=.seq (.seq (.pl <| .e 5 5 <|
 .a 5 2 <|
 .g 6 5 2 1 <|
 .a 7 3 <|
 .g 8 7 3 1 <|
 .x 9 (.bin .neq (.v 6) (.v 8)) .done) K63_17) K63_15
abbrev K63_19:C:=.seq (.pl <| .e 5 0 <|
 .x 4 (.mv (.c (.bool false))) .done) (.ret)
abbrev K63_20:C:=.cond 5 (.v 9) K63_19 (.skip)
abbrev K63_21:C:=.seq (.seq (.pl <| .e 5 5 <|
 .a 5 2 <|
 .g 6 5 2 0 <|
 .a 7 3 <|
 .g 8 7 3 0 <|
 .x 9 (.bin .neq (.v 6) (.v 8)) .done) K63_20) K63_18
abbrev B_laws_eqEdge:C:=.seq (.pl <| .e 5 0 <|
 .o (.pnew 2 (.v 0) []) <|
 .o (.pnew 3 (.v 1) []) <|
 .x 4 (.mv (.c (.bool false))) .done) K63_21
def R_laws_eqEdge:FIR:=⟨B_laws_eqEdge,5,[(4,none)]⟩
theorem IR_laws_eqEdge:cfun Tryd.prog H_laws_eqEdge Tryd.f63=some R_laws_eqEdge:=by kernel_rfl
theorem EN_laws_eqEdge:ENT Tryd.prog B_laws_eqEdge [(4,none)] 2 5 fn_laws_eqEdge:=fun hargs hw=>enter Tryd.func63 rfl IR_laws_eqEdge hargs hw
def H_laws_eqEdgeS:Hint:=⟨[(0,false),(1,false),(4,false),(5,false)],[[2]]⟩
abbrev K49_1:C:=.seq (.pl <| .e 4 0 <|
 .x 2 (.mv (.c (.bool true))) .done) (.ret)
abbrev K49_2:C:=.pl <| .e 4 2 <|
 .m 4 3 <|
 .x 5 (.bin .add (.v 4) (.c (.int .i64 1))) <|
 .m 3 5 .done
abbrev K49_3:C:=.seq (.pl <| .e 4 0 <|
 .x 2 (.mv (.c (.bool false))) .done) (.ret)
abbrev K49_4:C:=.cond 4 (.v 13) K49_3 (.skip)
abbrev K49_5:Pl:=.x 13 (.un .not (.v 12)) .done
abbrev K49_6:C:=.seq (.block 1 (.seq (.pl <| .e 4 10 <|
 .m 4 0 <|
 .m 5 3 <|
 .x 6 (.ia 10 (.v 4) (.v 5)) <|
 .o (.ld (some 7) (.v 6) (some 10)) <|
 .m 8 1 <|
 .m 9 3 <|
 .x 10 (.ia 10 (.v 8) (.v 9)) <|
 .o (.ld (some 11) (.v 10) (some 10)) <|
 .c 12 (.call fn_laws_eqEdge [.v 7,.v 11]) K49_5) K49_4)) K49_2
abbrev K49_7:C:=.cond 4 (.v 7) (.skip) (.exit 0)
abbrev K49_8:C:=.seq (.seq (.pl <| .e 4 4 <|
 .m 4 3 <|
 .m 5 0 <|
 .x 6 (.lenV (.v 5)) <|
 .x 7 (.bin .lss (.v 4) (.v 6)) .done) K49_7) K49_6
abbrev K49_9:C:=.block 0 (.loop 4 [2] K49_8)
abbrev K49_10:C:=.seq (.seq (.pl <| .e 4 0 <|
 .x 3 (.mv (.c (.int .i64 0))) .done) K49_9) K49_1
abbrev K49_11:C:=.seq (.pl <| .e 4 0 <|
 .x 2 (.mv (.c (.bool false))) .done) (.ret)
abbrev K49_12:C:=.cond 4 (.v 8) K49_11 (.skip)
abbrev K49_13:C:=.seq (.seq (.pl <| .e 4 5 <|
 .m 4 0 <|
 .x 5 (.lenV (.v 4)) <|
 .m 6 1 <|
 .x 7 (.lenV (.v 6)) <|
 .x 8 (.bin .neq (.v 5) (.v 7)) .done) K49_12) K49_10
abbrev B_laws_eqEdgeS:C:=.seq (.pl <| .e 4 0 <|
 .x 2 (.mv (.c (.bool false))) .done) K49_13
def R_laws_eqEdgeS:FIR:=⟨B_laws_eqEdgeS,4,[(2,none)]⟩
theorem IR_laws_eqEdgeS:cfun Tryd.prog H_laws_eqEdgeS Tryd.f49=some R_laws_eqEdgeS:=by kernel_rfl
theorem EN_laws_eqEdgeS:ENT Tryd.prog B_laws_eqEdgeS [(2,none)] 2 4 fn_laws_eqEdgeS:=fun hargs hw=>enter Tryd.func49 rfl IR_laws_eqEdgeS hargs hw
def H_laws_eqExpr:Hint:=⟨[(0,false),(1,false),(2,true),(3,true),(4,false)],[]⟩
abbrev K76_1:C:=.seq (.pl <| .e 5 0 <|
 .x 4 (.mv (.c (.bool true))) .done) (.ret)
abbrev K76_2:C:=.seq (.pl <| .e 5 0 <|
 .x 4 (.mv (.c (.bool false))) .done) (.ret)
abbrev K76_3:C:=.cond 5 (.v 10) K76_2 (.skip)
abbrev K76_4:Pl:=.x 10 (.un .not (.v 9)) .done
abbrev K76_5:C:=.seq (.seq (.pl <| .e 5 6 <|
 .a 5 2 <|
 .g 6 5 2 2 <|
 .a 7 3 <|
 .g 8 7 3 2 <|
 .c 9 (.call fn_laws_eqExprS [.v 6,.v 8]) K76_4) K76_3) K76_1
abbrev K76_6:C:=.seq (.pl <| .e 5 0 <|
 .x 4 (.mv (.c (.bool false))) .done) (.ret)
abbrev K76_7:C:=.cond 5 (.v 9) K76_6 (.skip)
abbrev K76_8:C:=.seq (.seq (.pl <| .e 5 5 <|
 .a 5 2 <|
 .g 6 5 2 1 <|
 .a 7 3 <|
 .g 8 7 3 1 <|
 .x 9 (.bin .neq (.v 6) (.v 8)) .done) K76_7) K76_5
abbrev K76_9:C:=.seq (.pl <| .e 5 0 <|
 .x 4 (.mv (.c (.bool false))) .done) (.ret)
abbrev K76_10:C:=.cond 5 (.v 9) K76_9 (.skip)
abbrev K76_11:C:=.seq (.seq (.pl <| .e 5 5 <|
 .a 5 2 <|
 .g 6 5 2 0 <|
 .a 7 3 <|
 .g 8 7 3 0 <|
 .x 9 (.bin .neq (.v 6) (.v 8)) .done) K76_10) K76_8
abbrev B_laws_eqExpr:C:=.seq (.pl <| .e 5 0 <|
 .o (.pnew 2 (.v 0) []) <|
 .o (.pnew 3 (.v 1) []) <|
 .x 4 (.mv (.c (.bool false))) .done) K76_11
def R_laws_eqExpr:FIR:=⟨B_laws_eqExpr,5,[(4,none)]⟩
theorem IR_laws_eqExpr:cfun Tryd.prog H_laws_eqExpr Tryd.f76=some R_laws_eqExpr:=by kernel_rfl
theorem EN_laws_eqExpr:ENT Tryd.prog B_laws_eqExpr [(4,none)] 2 5 fn_laws_eqExpr:=fun hargs hw=>enter Tryd.func76 rfl IR_laws_eqExpr hargs hw
def H_laws_eqExprS:Hint:=⟨[(0,false),(1,false),(4,false),(5,false)],[[2]]⟩
abbrev K84_1:C:=.seq (.pl <| .e 4 0 <|
 .x 2 (.mv (.c (.bool true))) .done) (.ret)
abbrev K84_2:C:=.pl <| .e 4 2 <|
 .m 4 3 <|
 .x 5 (.bin .add (.v 4) (.c (.int .i64 1))) <|
 .m 3 5 .done
abbrev K84_3:C:=.seq (.pl <| .e 4 0 <|
 .x 2 (.mv (.c (.bool false))) .done) (.ret)
abbrev K84_4:C:=.cond 4 (.v 13) K84_3 (.skip)
abbrev K84_5:Pl:=.x 13 (.un .not (.v 12)) .done
abbrev K84_6:C:=.seq (.block 1 (.seq (.pl <| .e 4 10 <|
 .m 4 0 <|
 .m 5 3 <|
 .x 6 (.ia 3 (.v 4) (.v 5)) <|
 .o (.ld (some 7) (.v 6) (some 3)) <|
 .m 8 1 <|
 .m 9 3 <|
 .x 10 (.ia 3 (.v 8) (.v 9)) <|
 .o (.ld (some 11) (.v 10) (some 3)) <|
 .c 12 (.call fn_laws_eqExpr [.v 7,.v 11]) K84_5) K84_4)) K84_2
abbrev K84_7:C:=.cond 4 (.v 7) (.skip) (.exit 0)
abbrev K84_8:C:=.seq (.seq (.pl <| .e 4 4 <|
 .m 4 3 <|
 .m 5 0 <|
 .x 6 (.lenV (.v 5)) <|
 .x 7 (.bin .lss (.v 4) (.v 6)) .done) K84_7) K84_6
abbrev K84_9:C:=.block 0 (.loop 4 [2] K84_8)
abbrev K84_10:C:=.seq (.seq (.pl <| .e 4 0 <|
 .x 3 (.mv (.c (.int .i64 0))) .done) K84_9) K84_1
abbrev K84_11:C:=.seq (.pl <| .e 4 0 <|
 .x 2 (.mv (.c (.bool false))) .done) (.ret)
abbrev K84_12:C:=.cond 4 (.v 8) K84_11 (.skip)
abbrev K84_13:C:=.seq (.seq (.pl <| .e 4 5 <|
 .m 4 0 <|
 .x 5 (.lenV (.v 4)) <|
 .m 6 1 <|
 .x 7 (.lenV (.v 6)) <|
 .x 8 (.bin .neq (.v 5) (.v 7)) .done) K84_12) K84_10
abbrev B_laws_eqExprS:C:=.seq (.pl <| .e 4 0 <|
 .x 2 (.mv (.c (.bool false))) .done) K84_13
def R_laws_eqExprS:FIR:=⟨B_laws_eqExprS,4,[(2,none)]⟩
theorem IR_laws_eqExprS:cfun Tryd.prog H_laws_eqExprS Tryd.f84=some R_laws_eqExprS:=by kernel_rfl
theorem EN_laws_eqExprS:ENT Tryd.prog B_laws_eqExprS [(2,none)] 2 4 fn_laws_eqExprS:=fun hargs hw=>enter Tryd.func84 rfl IR_laws_eqExprS hargs hw
def H_laws_eqIntS:Hint:=⟨[(0,false),(1,false),(4,false),(5,false)],[[2]]⟩
abbrev K21_1:C:=.seq (.pl <| .e 4 0 <|
 .x 2 (.mv (.c (.bool true))) .done) (.ret)
abbrev K21_2:C:=.pl <| .e 4 2 <|
 .m 4 3 <|
 .x 5 (.bin .add (.v 4) (.c (.int .i64 1))) <|
 .m 3 5 .done
abbrev K21_3:C:=.seq (.pl <| .e 4 0 <|
 .x 2 (.mv (.c (.bool false))) .done) (.ret)
abbrev K21_4:C:=.cond 4 (.v 12) K21_3 (.skip)
abbrev K21_5:C:=.seq (.block 1 (.seq (.pl <| .e 4 9 <|
 .m 4 0 <|
 .m 5 3 <|
 .x 6 (.ia 1 (.v 4) (.v 5)) <|
 .l 7 6 <|
 .m 8 1 <|
 .m 9 3 <|
 .x 10 (.ia 1 (.v 8) (.v 9)) <|
 .l 11 10 <|
 .x 12 (.bin .neq (.v 7) (.v 11)) .done) K21_4)) K21_2
abbrev K21_6:C:=.cond 4 (.v 7) (.skip) (.exit 0)
abbrev K21_7:C:=.seq (.seq (.pl <| .e 4 4 <|
 .m 4 3 <|
 .m 5 0 <|
 .x 6 (.lenV (.v 5)) <|
 .x 7 (.bin .lss (.v 4) (.v 6)) .done) K21_6) K21_5
abbrev K21_8:C:=.block 0 (.loop 4 [2] K21_7)
abbrev K21_9:C:=.seq (.seq (.pl <| .e 4 0 <|
 .x 3 (.mv (.c (.int .i64 0))) .done) K21_8) K21_1
abbrev K21_10:C:=.seq (.pl <| .e 4 0 <|
 .x 2 (.mv (.c (.bool false))) .done) (.ret)
abbrev K21_11:C:=.cond 4 (.v 8) K21_10 (.skip)
abbrev K21_12:C:=.seq (.seq (.pl <| .e 4 5 <|
 .m 4 0 <|
 .x 5 (.lenV (.v 4)) <|
 .m 6 1 <|
 .x 7 (.lenV (.v 6)) <|
 .x 8 (.bin .neq (.v 5) (.v 7)) .done) K21_11) K21_9
abbrev B_laws_eqIntS:C:=.seq (.pl <| .e 4 0 <|
 .x 2 (.mv (.c (.bool false))) .done) K21_12
def R_laws_eqIntS:FIR:=⟨B_laws_eqIntS,4,[(2,none)]⟩
theorem IR_laws_eqIntS:cfun Tryd.prog H_laws_eqIntS Tryd.f21=some R_laws_eqIntS:=by kernel_rfl
theorem EN_laws_eqIntS:ENT Tryd.prog B_laws_eqIntS [(2,none)] 2 4 fn_laws_eqIntS:=fun hargs hw=>enter Tryd.func21 rfl IR_laws_eqIntS hargs hw
def H_laws_eqProcess:Hint:=⟨[(0,false),(1,false),(2,true),(3,true),(4,false)],[]⟩
abbrev K35_1:C:=.seq (.pl <| .e 5 0 <|
 .x 4 (.mv (.c (.bool true))) .done) (.ret)
abbrev K35_2:C:=.seq (.pl <| .e 5 0 <|
 .x 4 (.mv (.c (.bool false))) .done) (.ret)
abbrev K35_3:C:=.cond 5 (.v 10) K35_2 (.skip)
abbrev K35_4:Pl:=.x 10 (.un .not (.v 9)) .done
abbrev K35_5:C:=.seq (.seq (.pl <| .e 5 6 <|
 .a 5 2 <|
 .g 6 5 2 1 <|
 .a 7 3 <|
 .g 8 7 3 1 <|
 .c 9 (.call fn_laws_eqEdgeS [.v 6,.v 8]) K35_4) K35_3) K35_1
abbrev K35_6:C:=.seq (.pl <| .e 5 0 <|
 .x 4 (.mv (.c (.bool false))) .done) (.ret)
abbrev K35_7:C:=.cond 5 (.v 9) K35_6 (.skip)
abbrev K35_8:C:=.seq (.seq (.pl <| .e 5 5 <|
 .a 5 2 <|
 .g 6 5 2 0 <|
 .a 7 3 <|
 .g 8 7 3 0 <|
 .x 9 (.bin .neq (.v 6) (.v 8)) .done) K35_7) K35_5
abbrev B_laws_eqProcess:C:=.seq (.pl <| .e 5 0 <|
 .o (.pnew 2 (.v 0) []) <|
 .o (.pnew 3 (.v 1) []) <|
 .x 4 (.mv (.c (.bool false))) .done) K35_8
def R_laws_eqProcess:FIR:=⟨B_laws_eqProcess,5,[(4,none)]⟩
theorem IR_laws_eqProcess:cfun Tryd.prog H_laws_eqProcess Tryd.f35=some R_laws_eqProcess:=by kernel_rfl
theorem EN_laws_eqProcess:ENT Tryd.prog B_laws_eqProcess [(4,none)] 2 5 fn_laws_eqProcess:=fun hargs hw=>enter Tryd.func35 rfl IR_laws_eqProcess hargs hw
def H_laws_eqProcessS:Hint:=⟨[(0,false),(1,false),(4,false),(5,false)],[[2]]⟩
abbrev K22_1:C:=.seq (.pl <| .e 4 0 <|
 .x 2 (.mv (.c (.bool true))) .done) (.ret)
abbrev K22_2:C:=.pl <| .e 4 2 <|
 .m 4 3 <|
 .x 5 (.bin .add (.v 4) (.c (.int .i64 1))) <|
 .m 3 5 .done
abbrev K22_3:C:=.seq (.pl <| .e 4 0 <|
 .x 2 (.mv (.c (.bool false))) .done) (.ret)
abbrev K22_4:C:=.cond 4 (.v 13) K22_3 (.skip)
abbrev K22_5:Pl:=.x 13 (.un .not (.v 12)) .done
abbrev K22_6:C:=.seq (.block 1 (.seq (.pl <| .e 4 10 <|
 .m 4 0 <|
 .m 5 3 <|
 .x 6 (.ia 2 (.v 4) (.v 5)) <|
 .o (.ld (some 7) (.v 6) (some 2)) <|
 .m 8 1 <|
 .m 9 3 <|
 .x 10 (.ia 2 (.v 8) (.v 9)) <|
 .o (.ld (some 11) (.v 10) (some 2)) <|
 .c 12 (.call fn_laws_eqProcess [.v 7,.v 11]) K22_5) K22_4)) K22_2
abbrev K22_7:C:=.cond 4 (.v 7) (.skip) (.exit 0)
abbrev K22_8:C:=.seq (.seq (.pl <| .e 4 4 <|
 .m 4 3 <|
 .m 5 0 <|
 .x 6 (.lenV (.v 5)) <|
 .x 7 (.bin .lss (.v 4) (.v 6)) .done) K22_7) K22_6
abbrev K22_9:C:=.block 0 (.loop 4 [2] K22_8)
abbrev K22_10:C:=.seq (.seq (.pl <| .e 4 0 <|
 .x 3 (.mv (.c (.int .i64 0))) .done) K22_9) K22_1
abbrev K22_11:C:=.seq (.pl <| .e 4 0 <|
 .x 2 (.mv (.c (.bool false))) .done) (.ret)
abbrev K22_12:C:=.cond 4 (.v 8) K22_11 (.skip)
abbrev K22_13:C:=.seq (.seq (.pl <| .e 4 5 <|
 .m 4 0 <|
 .x 5 (.lenV (.v 4)) <|
 .m 6 1 <|
 .x 7 (.lenV (.v 6)) <|
 .x 8 (.bin .neq (.v 5) (.v 7)) .done) K22_12) K22_10
abbrev B_laws_eqProcessS:C:=.seq (.pl <| .e 4 0 <|
 .x 2 (.mv (.c (.bool false))) .done) K22_13
def R_laws_eqProcessS:FIR:=⟨B_laws_eqProcessS,4,[(2,none)]⟩
theorem IR_laws_eqProcessS:cfun Tryd.prog H_laws_eqProcessS Tryd.f22=some R_laws_eqProcessS:=by kernel_rfl
theorem EN_laws_eqProcessS:ENT Tryd.prog B_laws_eqProcessS [(2,none)] 2 4 fn_laws_eqProcessS:=fun hargs hw=>enter Tryd.func22 rfl IR_laws_eqProcessS hargs hw
def H_laws_eqSystem:Hint:=⟨[(0,false),(1,false),(2,true),(3,true),(4,false)],[]⟩
abbrev K8_1:C:=.seq (.pl <| .e 5 0 <|
 .x 4 (.mv (.c (.bool true))) .done) (.ret)
abbrev K8_2:C:=.seq (.pl <| .e 5 0 <|
 .x 4 (.mv (.c (.bool false))) .done) (.ret)
abbrev K8_3:C:=.cond 5 (.v 10) K8_2 (.skip)
abbrev K8_4:Pl:=.x 10 (.un .not (.v 9)) .done
abbrev K8_5:C:=.seq (.seq (.pl <| .e 5 6 <|
 .a 5 2 <|
 .g 6 5 2 1 <|
 .a 7 3 <|
 .g 8 7 3 1 <|
 .c 9 (.call fn_laws_eqProcessS [.v 6,.v 8]) K8_4) K8_3) K8_1
abbrev K8_6:C:=.seq (.pl <| .e 5 0 <|
 .x 4 (.mv (.c (.bool false))) .done) (.ret)
abbrev K8_7:C:=.cond 5 (.v 10) K8_6 (.skip)
abbrev K8_8:Pl:=.x 10 (.un .not (.v 9)) .done
abbrev K8_9:C:=.seq (.seq (.pl <| .e 5 6 <|
 .a 5 2 <|
 .g 6 5 2 0 <|
 .a 7 3 <|
 .g 8 7 3 0 <|
 .c 9 (.call fn_laws_eqIntS [.v 6,.v 8]) K8_8) K8_7) K8_5
abbrev B_laws_eqSystem:C:=.seq (.pl <| .e 5 0 <|
 .o (.pnew 2 (.v 0) []) <|
 .o (.pnew 3 (.v 1) []) <|
 .x 4 (.mv (.c (.bool false))) .done) K8_9
def R_laws_eqSystem:FIR:=⟨B_laws_eqSystem,5,[(4,none)]⟩
theorem IR_laws_eqSystem:cfun Tryd.prog H_laws_eqSystem Tryd.f8=some R_laws_eqSystem:=by kernel_rfl
theorem EN_laws_eqSystem:ENT Tryd.prog B_laws_eqSystem [(4,none)] 2 5 fn_laws_eqSystem:=fun hargs hw=>enter Tryd.func8 rfl IR_laws_eqSystem hargs hw
def H_laws_szEdge:Hint:=⟨[(0,false),(1,false),(2,true),(4,false)],[]⟩
abbrev K50_1:C:=.seq (.pl <| .e 4 1 <|
 .m 4 1 <|
 .m 3 4 .done) (.ret)
abbrev K50_2:C:=.seq (.pl <| .e 4 0 <|
 .x 3 (.mv (.c (.int .i64 (-1)))) .done) (.ret)
abbrev K50_3:C:=.cond 4 (.v 5) K50_2 (.skip)
abbrev K50_4:C:=.seq (.seq (.pl <| .e 4 2 <|
 .m 4 1 <|
 .x 5 (.bin .lss (.v 4) (.c (.int .i64 0))) .done) K50_3) K50_1
abbrev K50_5:Pl:=.m 1 7 .done
abbrev K50_6:C:=.seq (.pl <| .e 4 4 <|
 .a 4 2 <|
 .o (.pget (some 5) (some 4) 2 6 (some 3)) <|
 .m 6 1 <|
 .c 7 (.call fn_laws_szExpr [.v 5,.v 6]) K50_5) K50_4
abbrev K50_7:C:=.seq (.pl <| .e 4 0 <|
 .x 3 (.mv (.c (.int .i64 (-1)))) .done) (.ret)
abbrev K50_8:C:=.cond 4 (.v 5) K50_7 (.skip)
abbrev K50_9:C:=.seq (.seq (.pl <| .e 4 2 <|
 .m 4 1 <|
 .x 5 (.bin .lss (.v 4) (.c (.int .i64 0))) .done) K50_8) K50_6
abbrev K50_10:Pl:=.m 1 7 .done
abbrev K50_11:C:=.seq (.pl <| .e 4 4 <|
 .a 4 2 <|
 .o (.pget (some 5) (some 4) 2 2 (some 3)) <|
 .m 6 1 <|
 .c 7 (.call fn_laws_szExpr [.v 5,.v 6]) K50_10) K50_9
abbrev B_laws_szEdge:C:=.seq (.pl <| .e 4 0 <|
 .o (.pnew 2 (.v 0) []) <|
 .x 3 (.mv (.c (.int .i64 0))) .done) K50_11
def R_laws_szEdge:FIR:=⟨B_laws_szEdge,4,[(3,none)]⟩
theorem IR_laws_szEdge:cfun Tryd.prog H_laws_szEdge Tryd.f50=some R_laws_szEdge:=by kernel_rfl
theorem EN_laws_szEdge:ENT Tryd.prog B_laws_szEdge [(3,none)] 2 4 fn_laws_szEdge:=fun hargs hw=>enter Tryd.func50 rfl IR_laws_szEdge hargs hw
def H_laws_szEdgeS:Hint:=⟨[(0,false),(1,false),(4,false),(5,false)],[[2]]⟩
abbrev K36_1:C:=.seq (.pl <| .e 4 1 <|
 .m 4 1 <|
 .m 2 4 .done) (.ret)
abbrev K36_2:C:=.pl <| .e 4 2 <|
 .m 4 3 <|
 .x 5 (.bin .add (.v 4) (.c (.int .i64 1))) <|
 .m 3 5 .done
abbrev K36_3:C:=.seq (.pl <| .e 4 0 <|
 .x 2 (.mv (.c (.int .i64 (-1)))) .done) (.ret)
abbrev K36_4:C:=.cond 4 (.v 5) K36_3 (.skip)
abbrev K36_5:C:=.seq (.pl <| .e 4 2 <|
 .m 4 1 <|
 .x 5 (.bin .lss (.v 4) (.c (.int .i64 0))) .done) K36_4
abbrev K36_6:Pl:=.m 1 9 .done
abbrev K36_7:C:=.seq (.block 1 (.seq (.pl <| .e 4 6 <|
 .m 4 0 <|
 .m 5 3 <|
 .x 6 (.ia 10 (.v 4) (.v 5)) <|
 .o (.ld (some 7) (.v 6) (some 10)) <|
 .m 8 1 <|
 .c 9 (.call fn_laws_szEdge [.v 7,.v 8]) K36_6) K36_5)) K36_2
abbrev K36_8:C:=.cond 4 (.v 7) (.skip) (.exit 0)
abbrev K36_9:C:=.seq (.seq (.pl <| .e 4 4 <|
 .m 4 3 <|
 .m 5 0 <|
 .x 6 (.lenV (.v 5)) <|
 .x 7 (.bin .lss (.v 4) (.v 6)) .done) K36_8) K36_7
abbrev K36_10:C:=.block 0 (.loop 4 [2] K36_9)
abbrev K36_11:C:=.seq (.seq (.pl <| .e 4 0 <|
 .x 3 (.mv (.c (.int .i64 0))) .done) K36_10) K36_1
abbrev K36_12:C:=.seq (.pl <| .e 4 0 <|
 .x 2 (.mv (.c (.int .i64 (-1)))) .done) (.ret)
abbrev K36_13:C:=.cond 4 (.v 5) K36_12 (.skip)
abbrev K36_14:C:=.seq (.seq (.pl <| .e 4 2 <|
 .m 4 1 <|
 .x 5 (.bin .lss (.v 4) (.c (.int .i64 0))) .done) K36_13) K36_11
abbrev K36_15:C:=.seq (.pl <| .e 4 4 <|
 .m 4 1 <|
 .m 5 0 <|
 .x 6 (.lenV (.v 5)) <|
 .x 7 (.bin .sub (.v 4) (.v 6)) <|
 .m 1 7 .done) K36_14
abbrev B_laws_szEdgeS:C:=.seq (.pl <| .e 4 0 <|
 .x 2 (.mv (.c (.int .i64 0))) .done) K36_15
def R_laws_szEdgeS:FIR:=⟨B_laws_szEdgeS,4,[(2,none)]⟩
theorem IR_laws_szEdgeS:cfun Tryd.prog H_laws_szEdgeS Tryd.f36=some R_laws_szEdgeS:=by kernel_rfl
theorem EN_laws_szEdgeS:ENT Tryd.prog B_laws_szEdgeS [(2,none)] 2 4 fn_laws_szEdgeS:=fun hargs hw=>enter Tryd.func36 rfl IR_laws_szEdgeS hargs hw
def H_laws_szExpr:Hint:=⟨[(0,false),(1,false),(2,true),(4,false)],[]⟩
abbrev K64_1:C:=.seq (.pl <| .e 4 1 <|
 .m 4 1 <|
 .m 3 4 .done) (.ret)
abbrev K64_2:C:=.seq (.pl <| .e 4 0 <|
 .x 3 (.mv (.c (.int .i64 (-1)))) .done) (.ret)
abbrev K64_3:C:=.cond 4 (.v 5) K64_2 (.skip)
abbrev K64_4:C:=.seq (.seq (.pl <| .e 4 2 <|
 .m 4 1 <|
 .x 5 (.bin .lss (.v 4) (.c (.int .i64 0))) .done) K64_3) K64_1
abbrev K64_5:Pl:=.m 1 7 .done
abbrev K64_6:C:=.seq (.pl <| .e 4 4 <|
 .a 4 2 <|
 .g 5 4 2 2 <|
 .m 6 1 <|
 .c 7 (.call fn_laws_szExprS [.v 5,.v 6]) K64_5) K64_4
abbrev B_laws_szExpr:C:=.seq (.pl <| .e 4 0 <|
 .o (.pnew 2 (.v 0) []) <|
 .x 3 (.mv (.c (.int .i64 0))) .done) K64_6
def R_laws_szExpr:FIR:=⟨B_laws_szExpr,4,[(3,none)]⟩
theorem IR_laws_szExpr:cfun Tryd.prog H_laws_szExpr Tryd.f64=some R_laws_szExpr:=by kernel_rfl
theorem EN_laws_szExpr:ENT Tryd.prog B_laws_szExpr [(3,none)] 2 4 fn_laws_szExpr:=fun hargs hw=>enter Tryd.func64 rfl IR_laws_szExpr hargs hw
def H_laws_szExprS:Hint:=⟨[(0,false),(1,false),(4,false),(5,false)],[[2]]⟩
abbrev K77_1:C:=.seq (.pl <| .e 4 1 <|
 .m 4 1 <|
 .m 2 4 .done) (.ret)
abbrev K77_2:C:=.pl <| .e 4 2 <|
 .m 4 3 <|
 .x 5 (.bin .add (.v 4) (.c (.int .i64 1))) <|
 .m 3 5 .done
abbrev K77_3:C:=.seq (.pl <| .e 4 0 <|
 .x 2 (.mv (.c (.int .i64 (-1)))) .done) (.ret)
abbrev K77_4:C:=.cond 4 (.v 5) K77_3 (.skip)
abbrev K77_5:C:=.seq (.pl <| .e 4 2 <|
 .m 4 1 <|
 .x 5 (.bin .lss (.v 4) (.c (.int .i64 0))) .done) K77_4
abbrev K77_6:Pl:=.m 1 9 .done
abbrev K77_7:C:=.seq (.block 1 (.seq (.pl <| .e 4 6 <|
 .m 4 0 <|
 .m 5 3 <|
 .x 6 (.ia 3 (.v 4) (.v 5)) <|
 .o (.ld (some 7) (.v 6) (some 3)) <|
 .m 8 1 <|
 .c 9 (.call fn_laws_szExpr [.v 7,.v 8]) K77_6) K77_5)) K77_2
abbrev K77_8:C:=.cond 4 (.v 7) (.skip) (.exit 0)
abbrev K77_9:C:=.seq (.seq (.pl <| .e 4 4 <|
 .m 4 3 <|
 .m 5 0 <|
 .x 6 (.lenV (.v 5)) <|
 .x 7 (.bin .lss (.v 4) (.v 6)) .done) K77_8) K77_7
abbrev K77_10:C:=.block 0 (.loop 4 [2] K77_9)
abbrev K77_11:C:=.seq (.seq (.pl <| .e 4 0 <|
 .x 3 (.mv (.c (.int .i64 0))) .done) K77_10) K77_1
abbrev K77_12:C:=.seq (.pl <| .e 4 0 <|
 .x 2 (.mv (.c (.int .i64 (-1)))) .done) (.ret)
abbrev K77_13:C:=.cond 4 (.v 5) K77_12 (.skip)
abbrev K77_14:C:=.seq (.seq (.pl <| .e 4 2 <|
 .m 4 1 <|
 .x 5 (.bin .lss (.v 4) (.c (.int .i64 0))) .done) K77_13) K77_11
abbrev K77_15:C:=.seq (.pl <| .e 4 4 <|
 .m 4 1 <|
 .m 5 0 <|
 .x 6 (.lenV (.v 5)) <|
 .x 7 (.bin .sub (.v 4) (.v 6)) <|
 .m 1 7 .done) K77_14
abbrev B_laws_szExprS:C:=.seq (.pl <| .e 4 0 <|
 .x 2 (.mv (.c (.int .i64 0))) .done) K77_15
def R_laws_szExprS:FIR:=⟨B_laws_szExprS,4,[(2,none)]⟩
theorem IR_laws_szExprS:cfun Tryd.prog H_laws_szExprS Tryd.f77=some R_laws_szExprS:=by kernel_rfl
theorem EN_laws_szExprS:ENT Tryd.prog B_laws_szExprS [(2,none)] 2 4 fn_laws_szExprS:=fun hargs hw=>enter Tryd.func77 rfl IR_laws_szExprS hargs hw
def H_laws_szIntS:Hint:=⟨[(0,false),(1,false),(4,false)],[]⟩
abbrev K9_1:C:=.seq (.pl <| .e 3 1 <|
 .m 3 1 <|
 .m 2 3 .done) (.ret)
abbrev K9_2:C:=.seq (.pl <| .e 3 0 <|
 .x 2 (.mv (.c (.int .i64 (-1)))) .done) (.ret)
abbrev K9_3:C:=.cond 3 (.v 4) K9_2 (.skip)
abbrev K9_4:C:=.seq (.seq (.pl <| .e 3 2 <|
 .m 3 1 <|
 .x 4 (.bin .lss (.v 3) (.c (.int .i64 0))) .done) K9_3) K9_1
abbrev K9_5:C:=.seq (.pl <| .e 3 4 <|
 .m 3 1 <|
 .m 4 0 <|
 .x 5 (.lenV (.v 4)) <|
 .x 6 (.bin .sub (.v 3) (.v 5)) <|
 .m 1 6 .done) K9_4
abbrev B_laws_szIntS:C:=.seq (.pl <| .e 3 0 <|
 .x 2 (.mv (.c (.int .i64 0))) .done) K9_5
def R_laws_szIntS:FIR:=⟨B_laws_szIntS,3,[(2,none)]⟩
theorem IR_laws_szIntS:cfun Tryd.prog H_laws_szIntS Tryd.f9=some R_laws_szIntS:=by kernel_rfl
theorem EN_laws_szIntS:ENT Tryd.prog B_laws_szIntS [(2,none)] 2 3 fn_laws_szIntS:=fun hargs hw=>enter Tryd.func9 rfl IR_laws_szIntS hargs hw
def H_laws_szProcess:Hint:=⟨[(0,false),(1,false),(2,true),(4,false)],[]⟩
abbrev K23_1:C:=.seq (.pl <| .e 4 1 <|
 .m 4 1 <|
 .m 3 4 .done) (.ret)
abbrev K23_2:C:=.seq (.pl <| .e 4 0 <|
 .x 3 (.mv (.c (.int .i64 (-1)))) .done) (.ret)
abbrev K23_3:C:=.cond 4 (.v 5) K23_2 (.skip)
abbrev K23_4:C:=.seq (.seq (.pl <| .e 4 2 <|
 .m 4 1 <|
 .x 5 (.bin .lss (.v 4) (.c (.int .i64 0))) .done) K23_3) K23_1
abbrev K23_5:Pl:=.m 1 7 .done
abbrev K23_6:C:=.seq (.pl <| .e 4 4 <|
 .a 4 2 <|
 .g 5 4 2 1 <|
 .m 6 1 <|
 .c 7 (.call fn_laws_szEdgeS [.v 5,.v 6]) K23_5) K23_4
abbrev B_laws_szProcess:C:=.seq (.pl <| .e 4 0 <|
 .o (.pnew 2 (.v 0) []) <|
 .x 3 (.mv (.c (.int .i64 0))) .done) K23_6
def R_laws_szProcess:FIR:=⟨B_laws_szProcess,4,[(3,none)]⟩
theorem IR_laws_szProcess:cfun Tryd.prog H_laws_szProcess Tryd.f23=some R_laws_szProcess:=by kernel_rfl
theorem EN_laws_szProcess:ENT Tryd.prog B_laws_szProcess [(3,none)] 2 4 fn_laws_szProcess:=fun hargs hw=>enter Tryd.func23 rfl IR_laws_szProcess hargs hw
def H_laws_szProcessS:Hint:=⟨[(0,false),(1,false),(4,false),(5,false)],[[2]]⟩
abbrev K10_1:C:=.seq (.pl <| .e 4 1 <|
 .m 4 1 <|
 .m 2 4 .done) (.ret)
abbrev K10_2:C:=.pl <| .e 4 2 <|
 .m 4 3 <|
 .x 5 (.bin .add (.v 4) (.c (.int .i64 1))) <|
 .m 3 5 .done
abbrev K10_3:C:=.seq (.pl <| .e 4 0 <|
 .x 2 (.mv (.c (.int .i64 (-1)))) .done) (.ret)
abbrev K10_4:C:=.cond 4 (.v 5) K10_3 (.skip)
abbrev K10_5:C:=.seq (.pl <| .e 4 2 <|
 .m 4 1 <|
 .x 5 (.bin .lss (.v 4) (.c (.int .i64 0))) .done) K10_4
abbrev K10_6:Pl:=.m 1 9 .done
abbrev K10_7:C:=.seq (.block 1 (.seq (.pl <| .e 4 6 <|
 .m 4 0 <|
 .m 5 3 <|
 .x 6 (.ia 2 (.v 4) (.v 5)) <|
 .o (.ld (some 7) (.v 6) (some 2)) <|
 .m 8 1 <|
 .c 9 (.call fn_laws_szProcess [.v 7,.v 8]) K10_6) K10_5)) K10_2
abbrev K10_8:C:=.cond 4 (.v 7) (.skip) (.exit 0)
abbrev K10_9:C:=.seq (.seq (.pl <| .e 4 4 <|
 .m 4 3 <|
 .m 5 0 <|
 .x 6 (.lenV (.v 5)) <|
 .x 7 (.bin .lss (.v 4) (.v 6)) .done) K10_8) K10_7
abbrev K10_10:C:=.block 0 (.loop 4 [2] K10_9)
abbrev K10_11:C:=.seq (.seq (.pl <| .e 4 0 <|
 .x 3 (.mv (.c (.int .i64 0))) .done) K10_10) K10_1
abbrev K10_12:C:=.seq (.pl <| .e 4 0 <|
 .x 2 (.mv (.c (.int .i64 (-1)))) .done) (.ret)
abbrev K10_13:C:=.cond 4 (.v 5) K10_12 (.skip)
abbrev K10_14:C:=.seq (.seq (.pl <| .e 4 2 <|
 .m 4 1 <|
 .x 5 (.bin .lss (.v 4) (.c (.int .i64 0))) .done) K10_13) K10_11
abbrev K10_15:C:=.seq (.pl <| .e 4 4 <|
 .m 4 1 <|
 .m 5 0 <|
 .x 6 (.lenV (.v 5)) <|
 .x 7 (.bin .sub (.v 4) (.v 6)) <|
 .m 1 7 .done) K10_14
abbrev B_laws_szProcessS:C:=.seq (.pl <| .e 4 0 <|
 .x 2 (.mv (.c (.int .i64 0))) .done) K10_15
def R_laws_szProcessS:FIR:=⟨B_laws_szProcessS,4,[(2,none)]⟩
theorem IR_laws_szProcessS:cfun Tryd.prog H_laws_szProcessS Tryd.f10=some R_laws_szProcessS:=by kernel_rfl
theorem EN_laws_szProcessS:ENT Tryd.prog B_laws_szProcessS [(2,none)] 2 4 fn_laws_szProcessS:=fun hargs hw=>enter Tryd.func10 rfl IR_laws_szProcessS hargs hw
def H_laws_szSystem:Hint:=⟨[(0,false),(1,false),(2,true),(4,false)],[]⟩
abbrev K4_1:C:=.seq (.pl <| .e 4 1 <|
 .m 4 1 <|
 .m 3 4 .done) (.ret)
abbrev K4_2:C:=.seq (.pl <| .e 4 0 <|
 .x 3 (.mv (.c (.int .i64 (-1)))) .done) (.ret)
abbrev K4_3:C:=.cond 4 (.v 5) K4_2 (.skip)
abbrev K4_4:C:=.seq (.seq (.pl <| .e 4 2 <|
 .m 4 1 <|
 .x 5 (.bin .lss (.v 4) (.c (.int .i64 0))) .done) K4_3) K4_1
abbrev K4_5:Pl:=.m 1 7 .done
abbrev K4_6:C:=.seq (.pl <| .e 4 4 <|
 .a 4 2 <|
 .g 5 4 2 1 <|
 .m 6 1 <|
 .c 7 (.call fn_laws_szProcessS [.v 5,.v 6]) K4_5) K4_4
abbrev K4_7:C:=.seq (.pl <| .e 4 0 <|
 .x 3 (.mv (.c (.int .i64 (-1)))) .done) (.ret)
abbrev K4_8:C:=.cond 4 (.v 5) K4_7 (.skip)
abbrev K4_9:C:=.seq (.seq (.pl <| .e 4 2 <|
 .m 4 1 <|
 .x 5 (.bin .lss (.v 4) (.c (.int .i64 0))) .done) K4_8) K4_6
abbrev K4_10:Pl:=.m 1 7 .done
abbrev K4_11:C:=.seq (.pl <| .e 4 4 <|
 .a 4 2 <|
 .g 5 4 2 0 <|
 .m 6 1 <|
 .c 7 (.call fn_laws_szIntS [.v 5,.v 6]) K4_10) K4_9
abbrev B_laws_szSystem:C:=.seq (.pl <| .e 4 0 <|
 .o (.pnew 2 (.v 0) []) <|
 .x 3 (.mv (.c (.int .i64 0))) .done) K4_11
def R_laws_szSystem:FIR:=⟨B_laws_szSystem,4,[(3,none)]⟩
theorem IR_laws_szSystem:cfun Tryd.prog H_laws_szSystem Tryd.f4=some R_laws_szSystem:=by kernel_rfl
theorem EN_laws_szSystem:ENT Tryd.prog B_laws_szSystem [(3,none)] 2 4 fn_laws_szSystem:=fun hargs hw=>enter Tryd.func4 rfl IR_laws_szSystem hargs hw
def H_laws_toEdge:Hint:=⟨[(0,false),(1,true),(2,true),(3,true)],[]⟩
abbrev K53_1:C:=.seq (.pl <| .e 4 1 <|
 .o (.pget (some 4) none 3 0 (some 10)) <|
 .o (.pset none 2 0 10 (.v 4)) .done) (.ret)
abbrev K53_2:C:=.seq (.pl <| .e 4 3 <|
 .a 4 1 <|
 .g 5 4 1 9 <|
 .a 6 3 <|
 .o (.pset (some 6) 3 9 1 (.v 5)) .done) K53_1
abbrev K53_3:Pl:=.a 7 3 <|
 .o (.pset (some 7) 3 6 3 (.v 6)) .done
abbrev K53_4:C:=.seq (.pl <| .e 4 4 <|
 .a 4 1 <|
 .o (.pget (some 5) (some 4) 1 6 (some 3)) <|
 .c 6 (.call fn_laws_toExpr [.v 5]) K53_3) K53_2
abbrev K53_5:C:=.seq (.pl <| .e 4 3 <|
 .a 4 1 <|
 .g 5 4 1 5 <|
 .a 6 3 <|
 .o (.pset (some 6) 3 5 1 (.v 5)) .done) K53_4
abbrev K53_6:Pl:=.a 7 3 <|
 .o (.pset (some 7) 3 2 3 (.v 6)) .done
abbrev K53_7:C:=.seq (.pl <| .e 4 4 <|
 .a 4 1 <|
 .o (.pget (some 5) (some 4) 1 2 (some 3)) <|
 .c 6 (.call fn_laws_toExpr [.v 5]) K53_6) K53_5
abbrev K53_8:C:=.seq (.pl <| .e 4 3 <|
 .a 4 1 <|
 .g 5 4 1 1 <|
 .a 6 3 <|
 .o (.pset (some 6) 3 1 1 (.v 5)) .done) K53_7
abbrev K53_9:C:=.seq (.pl <| .e 4 3 <|
 .a 4 1 <|
 .g 5 4 1 0 <|
 .a 6 3 <|
 .o (.pset (some 6) 3 0 1 (.v 5)) .done) K53_8
abbrev K53_10:C:=.seq (.pl <| .e 4 0 <|
 .o (.pnew 3 (.c (.agg #[.int .i64 0,.int .i64 0,.int .i64 0,.int .i64 0,.slice none 0 0,.int .i64 0,.int .i64 0,.int .i64 0,.slice none 0 0,.int .i64 0])) []) .done) K53_9
abbrev B_laws_toEdge:C:=.seq (.pl <| .e 4 0 <|
 .o (.pnew 1 (.v 0) []) <|
 .o (.pnew 2 (.c (.agg #[.int .i64 0,.int .i64 0,.int .i64 0,.int .i64 0,.slice none 0 0,.int .i64 0,.int .i64 0,.int .i64 0,.slice none 0 0,.int .i64 0])) []) .done) K53_10
def R_laws_toEdge:FIR:=⟨B_laws_toEdge,4,[(2,some (some 10))]⟩
theorem IR_laws_toEdge:cfun Tryd.prog H_laws_toEdge Tryd.f53=some R_laws_toEdge:=by kernel_rfl
theorem EN_laws_toEdge:ENT Tryd.prog B_laws_toEdge [(2,some (some 10))] 1 4 fn_laws_toEdge:=fun hargs hw=>enter Tryd.func53 rfl IR_laws_toEdge hargs hw
def H_laws_toEdgeS:Hint:=⟨[(0,false),(2,false),(3,false),(4,false)],[[1]]⟩
abbrev K39_1:C:=.seq (.pl <| .e 4 1 <|
 .m 4 2 <|
 .m 1 4 .done) (.ret)
abbrev K39_2:C:=.pl <| .e 4 2 <|
 .m 4 3 <|
 .x 5 (.bin .add (.v 4) (.c (.int .i64 1))) <|
 .m 3 5 .done
abbrev K39_3:Pl:=.x 11 (.ia 10 (.v 4) (.v 5)) <|
 .o (.ex none (.store 10 (.v 11) (.v 10))) .done
abbrev K39_4:C:=.seq (.block 1 (.pl <| .e 4 8 <|
 .m 4 2 <|
 .m 5 3 <|
 .m 6 0 <|
 .m 7 3 <|
 .x 8 (.ia 10 (.v 6) (.v 7)) <|
 .o (.ld (some 9) (.v 8) (some 10)) <|
 .c 10 (.call fn_laws_toEdge [.v 9]) K39_3)) K39_2
abbrev K39_5:C:=.cond 4 (.v 7) (.skip) (.exit 0)
abbrev K39_6:C:=.seq (.seq (.pl <| .e 4 4 <|
 .m 4 3 <|
 .m 5 0 <|
 .x 6 (.lenV (.v 5)) <|
 .x 7 (.bin .lss (.v 4) (.v 6)) .done) K39_5) K39_4
abbrev K39_7:C:=.block 0 (.loop 4 [1] K39_6)
abbrev K39_8:C:=.seq (.seq (.pl <| .e 4 0 <|
 .x 3 (.mv (.c (.int .i64 0))) .done) K39_7) K39_1
abbrev K39_9:Pl:=.m 2 6 .done
abbrev K39_10:C:=.seq (.pl <| .e 4 3 <|
 .m 4 0 <|
 .x 5 (.lenV (.v 4)) <|
 .c 6 (.mks 112 10 [.int .i64 0,.int .i64 0,.int .i64 0,.int .i64 0,.slice none 0 0,.int .i64 0,.int .i64 0,.int .i64 0,.slice none 0 0,.int .i64 0] (.v 5) (.v 5)) K39_9) K39_8
abbrev B_laws_toEdgeS:C:=.seq (.pl <| .e 4 0 <|
 .x 1 (.mv (.c (.slice none 0 0))) .done) K39_10
def R_laws_toEdgeS:FIR:=⟨B_laws_toEdgeS,4,[(1,none)]⟩
theorem IR_laws_toEdgeS:cfun Tryd.prog H_laws_toEdgeS Tryd.f39=some R_laws_toEdgeS:=by kernel_rfl
theorem EN_laws_toEdgeS:ENT Tryd.prog B_laws_toEdgeS [(1,none)] 1 4 fn_laws_toEdgeS:=fun hargs hw=>enter Tryd.func39 rfl IR_laws_toEdgeS hargs hw
def H_laws_toExpr:Hint:=⟨[(0,false),(1,true),(2,true),(3,true)],[]⟩
abbrev K67_1:C:=.seq (.pl <| .e 4 1 <|
 .o (.pget (some 4) none 3 0 (some 3)) <|
 .o (.pset none 2 0 3 (.v 4)) .done) (.ret)
abbrev K67_2:Pl:=.a 7 3 <|
 .o (.pset (some 7) 3 2 1 (.v 6)) .done
abbrev K67_3:C:=.seq (.pl <| .e 4 4 <|
 .a 4 1 <|
 .g 5 4 1 2 <|
 .c 6 (.call fn_laws_toExprS [.v 5]) K67_2) K67_1
abbrev K67_4:C:=.seq (.pl <| .e 4 3 <|
 .a 4 1 <|
 .g 5 4 1 1 <|
 .a 6 3 <|
 .o (.pset (some 6) 3 1 1 (.v 5)) .done) K67_3
abbrev K67_5:C:=.seq (.pl <| .e 4 3 <|
 .a 4 1 <|
 .g 5 4 1 0 <|
 .a 6 3 <|
 .o (.pset (some 6) 3 0 1 (.v 5)) .done) K67_4
abbrev K67_6:C:=.seq (.pl <| .e 4 0 <|
 .o (.pnew 3 (.c (.agg #[.int .i64 0,.int .i64 0,.slice none 0 0])) []) .done) K67_5
abbrev B_laws_toExpr:C:=.seq (.pl <| .e 4 0 <|
 .o (.pnew 1 (.v 0) []) <|
 .o (.pnew 2 (.c (.agg #[.int .i64 0,.int .i64 0,.slice none 0 0])) []) .done) K67_6
def R_laws_toExpr:FIR:=⟨B_laws_toExpr,4,[(2,some (some 3))]⟩
theorem IR_laws_toExpr:cfun Tryd.prog H_laws_toExpr Tryd.f67=some R_laws_toExpr:=by kernel_rfl
theorem EN_laws_toExpr:ENT Tryd.prog B_laws_toExpr [(2,some (some 3))] 1 4 fn_laws_toExpr:=fun hargs hw=>enter Tryd.func67 rfl IR_laws_toExpr hargs hw
def H_laws_toExprS:Hint:=⟨[(0,false),(2,false),(3,false),(4,false)],[[1]]⟩
abbrev K79_1:C:=.seq (.pl <| .e 4 1 <|
 .m 4 2 <|
 .m 1 4 .done) (.ret)
abbrev K79_2:C:=.pl <| .e 4 2 <|
 .m 4 3 <|
 .x 5 (.bin .add (.v 4) (.c (.int .i64 1))) <|
 .m 3 5 .done
abbrev K79_3:Pl:=.x 11 (.ia 3 (.v 4) (.v 5)) <|
 .o (.ex none (.store 3 (.v 11) (.v 10))) .done
abbrev K79_4:C:=.seq (.block 1 (.pl <| .e 4 8 <|
 .m 4 2 <|
 .m 5 3 <|
 .m 6 0 <|
 .m 7 3 <|
 .x 8 (.ia 3 (.v 6) (.v 7)) <|
 .o (.ld (some 9) (.v 8) (some 3)) <|
 .c 10 (.call fn_laws_toExpr [.v 9]) K79_3)) K79_2
abbrev K79_5:C:=.cond 4 (.v 7) (.skip) (.exit 0)
abbrev K79_6:C:=.seq (.seq (.pl <| .e 4 4 <|
 .m 4 3 <|
 .m 5 0 <|
 .x 6 (.lenV (.v 5)) <|
 .x 7 (.bin .lss (.v 4) (.v 6)) .done) K79_5) K79_4
abbrev K79_7:C:=.block 0 (.loop 4 [1] K79_6)
abbrev K79_8:C:=.seq (.seq (.pl <| .e 4 0 <|
 .x 3 (.mv (.c (.int .i64 0))) .done) K79_7) K79_1
abbrev K79_9:Pl:=.m 2 6 .done
abbrev K79_10:C:=.seq (.pl <| .e 4 3 <|
 .m 4 0 <|
 .x 5 (.lenV (.v 4)) <|
 .c 6 (.mks 40 3 [.int .i64 0,.int .i64 0,.slice none 0 0] (.v 5) (.v 5)) K79_9) K79_8
abbrev B_laws_toExprS:C:=.seq (.pl <| .e 4 0 <|
 .x 1 (.mv (.c (.slice none 0 0))) .done) K79_10
def R_laws_toExprS:FIR:=⟨B_laws_toExprS,4,[(1,none)]⟩
theorem IR_laws_toExprS:cfun Tryd.prog H_laws_toExprS Tryd.f79=some R_laws_toExprS:=by kernel_rfl
theorem EN_laws_toExprS:ENT Tryd.prog B_laws_toExprS [(1,none)] 1 4 fn_laws_toExprS:=fun hargs hw=>enter Tryd.func79 rfl IR_laws_toExprS hargs hw
def H_laws_toIntS:Hint:=⟨[(0,false),(2,false),(3,false),(4,false)],[[1]]⟩
abbrev K14_1:C:=.seq (.pl <| .e 4 1 <|
 .m 4 2 <|
 .m 1 4 .done) (.ret)
abbrev K14_2:C:=.pl <| .e 4 2 <|
 .m 4 3 <|
 .x 5 (.bin .add (.v 4) (.c (.int .i64 1))) <|
 .m 3 5 .done
abbrev K14_3:C:=.seq (.block 1 (.pl <| .e 4 7 <|
 .m 4 2 <|
 .m 5 3 <|
 .m 6 0 <|
 .m 7 3 <|
 .x 8 (.ia 1 (.v 6) (.v 7)) <|
 .l 9 8 <|
 .x 10 (.ia 1 (.v 4) (.v 5)) <|
 .o (.ex none (.store 1 (.v 10) (.v 9))) .done)) K14_2
abbrev K14_4:C:=.cond 4 (.v 7) (.skip) (.exit 0)
abbrev K14_5:C:=.seq (.seq (.pl <| .e 4 4 <|
 .m 4 3 <|
 .m 5 0 <|
 .x 6 (.lenV (.v 5)) <|
 .x 7 (.bin .lss (.v 4) (.v 6)) .done) K14_4) K14_3
abbrev K14_6:C:=.block 0 (.loop 4 [1] K14_5)
abbrev K14_7:C:=.seq (.seq (.pl <| .e 4 0 <|
 .x 3 (.mv (.c (.int .i64 0))) .done) K14_6) K14_1
abbrev K14_8:Pl:=.m 2 6 .done
abbrev K14_9:C:=.seq (.pl <| .e 4 3 <|
 .m 4 0 <|
 .x 5 (.lenV (.v 4)) <|
 .c 6 (.mks 8 1 [.int .i64 0] (.v 5) (.v 5)) K14_8) K14_7
abbrev B_laws_toIntS:C:=.seq (.pl <| .e 4 0 <|
 .x 1 (.mv (.c (.slice none 0 0))) .done) K14_9
def R_laws_toIntS:FIR:=⟨B_laws_toIntS,4,[(1,none)]⟩
theorem IR_laws_toIntS:cfun Tryd.prog H_laws_toIntS Tryd.f14=some R_laws_toIntS:=by kernel_rfl
theorem EN_laws_toIntS:ENT Tryd.prog B_laws_toIntS [(1,none)] 1 4 fn_laws_toIntS:=fun hargs hw=>enter Tryd.func14 rfl IR_laws_toIntS hargs hw
def H_laws_toProcess:Hint:=⟨[(0,false),(1,true),(2,true),(3,true)],[]⟩
abbrev K27_1:C:=.seq (.pl <| .e 4 1 <|
 .o (.pget (some 4) none 3 0 (some 2)) <|
 .o (.pset none 2 0 2 (.v 4)) .done) (.ret)
abbrev K27_2:Pl:=.a 7 3 <|
 .o (.pset (some 7) 3 1 1 (.v 6)) .done
abbrev K27_3:C:=.seq (.pl <| .e 4 4 <|
 .a 4 1 <|
 .g 5 4 1 1 <|
 .c 6 (.call fn_laws_toEdgeS [.v 5]) K27_2) K27_1
abbrev K27_4:C:=.seq (.pl <| .e 4 3 <|
 .a 4 1 <|
 .g 5 4 1 0 <|
 .a 6 3 <|
 .o (.pset (some 6) 3 0 1 (.v 5)) .done) K27_3
abbrev K27_5:C:=.seq (.pl <| .e 4 0 <|
 .o (.pnew 3 (.c (.agg #[.int .i64 0,.slice none 0 0])) []) .done) K27_4
abbrev B_laws_toProcess:C:=.seq (.pl <| .e 4 0 <|
 .o (.pnew 1 (.v 0) []) <|
 .o (.pnew 2 (.c (.agg #[.int .i64 0,.slice none 0 0])) []) .done) K27_5
def R_laws_toProcess:FIR:=⟨B_laws_toProcess,4,[(2,some (some 2))]⟩
theorem IR_laws_toProcess:cfun Tryd.prog H_laws_toProcess Tryd.f27=some R_laws_toProcess:=by kernel_rfl
theorem EN_laws_toProcess:ENT Tryd.prog B_laws_toProcess [(2,some (some 2))] 1 4 fn_laws_toProcess:=fun hargs hw=>enter Tryd.func27 rfl IR_laws_toProcess hargs hw
def H_laws_toProcessS:Hint:=⟨[(0,false),(2,false),(3,false),(4,false)],[[1]]⟩
abbrev K15_1:C:=.seq (.pl <| .e 4 1 <|
 .m 4 2 <|
 .m 1 4 .done) (.ret)
abbrev K15_2:C:=.pl <| .e 4 2 <|
 .m 4 3 <|
 .x 5 (.bin .add (.v 4) (.c (.int .i64 1))) <|
 .m 3 5 .done
abbrev K15_3:Pl:=.x 11 (.ia 2 (.v 4) (.v 5)) <|
 .o (.ex none (.store 2 (.v 11) (.v 10))) .done
abbrev K15_4:C:=.seq (.block 1 (.pl <| .e 4 8 <|
 .m 4 2 <|
 .m 5 3 <|
 .m 6 0 <|
 .m 7 3 <|
 .x 8 (.ia 2 (.v 6) (.v 7)) <|
 .o (.ld (some 9) (.v 8) (some 2)) <|
 .c 10 (.call fn_laws_toProcess [.v 9]) K15_3)) K15_2
abbrev K15_5:C:=.cond 4 (.v 7) (.skip) (.exit 0)
abbrev K15_6:C:=.seq (.seq (.pl <| .e 4 4 <|
 .m 4 3 <|
 .m 5 0 <|
 .x 6 (.lenV (.v 5)) <|
 .x 7 (.bin .lss (.v 4) (.v 6)) .done) K15_5) K15_4
abbrev K15_7:C:=.block 0 (.loop 4 [1] K15_6)
abbrev K15_8:C:=.seq (.seq (.pl <| .e 4 0 <|
 .x 3 (.mv (.c (.int .i64 0))) .done) K15_7) K15_1
abbrev K15_9:Pl:=.m 2 6 .done
abbrev K15_10:C:=.seq (.pl <| .e 4 3 <|
 .m 4 0 <|
 .x 5 (.lenV (.v 4)) <|
 .c 6 (.mks 32 2 [.int .i64 0,.slice none 0 0] (.v 5) (.v 5)) K15_9) K15_8
abbrev B_laws_toProcessS:C:=.seq (.pl <| .e 4 0 <|
 .x 1 (.mv (.c (.slice none 0 0))) .done) K15_10
def R_laws_toProcessS:FIR:=⟨B_laws_toProcessS,4,[(1,none)]⟩
theorem IR_laws_toProcessS:cfun Tryd.prog H_laws_toProcessS Tryd.f15=some R_laws_toProcessS:=by kernel_rfl
theorem EN_laws_toProcessS:ENT Tryd.prog B_laws_toProcessS [(1,none)] 1 4 fn_laws_toProcessS:=fun hargs hw=>enter Tryd.func15 rfl IR_laws_toProcessS hargs hw
def H_laws_toSystem:Hint:=⟨[(0,false),(1,true),(2,true),(3,true)],[]⟩
abbrev K6_1:C:=.seq (.pl <| .e 4 1 <|
 .o (.pget (some 4) none 3 0 (some 2)) <|
 .o (.pset none 2 0 2 (.v 4)) .done) (.ret)
abbrev K6_2:Pl:=.a 7 3 <|
 .o (.pset (some 7) 3 1 1 (.v 6)) .done
abbrev K6_3:C:=.seq (.pl <| .e 4 4 <|
 .a 4 1 <|
 .g 5 4 1 1 <|
 .c 6 (.call fn_laws_toProcessS [.v 5]) K6_2) K6_1
abbrev K6_4:Pl:=.a 7 3 <|
 .o (.pset (some 7) 3 0 1 (.v 6)) .done
abbrev K6_5:C:=.seq (.pl <| .e 4 4 <|
 .a 4 1 <|
 .g 5 4 1 0 <|
 .c 6 (.call fn_laws_toIntS [.v 5]) K6_4) K6_3
abbrev K6_6:C:=.seq (.pl <| .e 4 0 <|
 .o (.pnew 3 (.c (.agg #[.slice none 0 0,.slice none 0 0])) []) .done) K6_5
abbrev B_laws_toSystem:C:=.seq (.pl <| .e 4 0 <|
 .o (.pnew 1 (.v 0) []) <|
 .o (.pnew 2 (.c (.agg #[.slice none 0 0,.slice none 0 0])) []) .done) K6_6
def R_laws_toSystem:FIR:=⟨B_laws_toSystem,4,[(2,some (some 2))]⟩
theorem IR_laws_toSystem:cfun Tryd.prog H_laws_toSystem Tryd.f6=some R_laws_toSystem:=by kernel_rfl
theorem EN_laws_toSystem:ENT Tryd.prog B_laws_toSystem [(2,some (some 2))] 1 4 fn_laws_toSystem:=fun hargs hw=>enter Tryd.func6 rfl IR_laws_toSystem hargs hw
def H_slices_ContainsFunc_S_impl_Edge_impl_Edge:Hint:=⟨[(0,false),(1,false),(4,false)],[]⟩
abbrev K30_1:Pl:=.x 6 (.bin .geq (.v 5) (.c (.int .i64 0))) <|
 .m 2 6 .done
abbrev K30_2:C:=.seq (.pl <| .e 3 4 <|
 .m 3 0 <|
 .m 4 1 <|
 .c 5 (.call fn_slices_IndexFunc_S_impl_Edge_impl_Edge [.v 3,.v 4]) K30_1) (.ret)
abbrev B_slices_ContainsFunc_S_impl_Edge_impl_Edge:C:=.seq (.pl <| .e 3 0 <|
 .x 2 (.mv (.c (.bool false))) .done) K30_2
def R_slices_ContainsFunc_S_impl_Edge_impl_Edge:FIR:=⟨B_slices_ContainsFunc_S_impl_Edge_impl_Edge,3,[(2,none)]⟩
theorem IR_slices_ContainsFunc_S_impl_Edge_impl_Edge:cfun Tryd.prog H_slices_ContainsFunc_S_impl_Edge_impl_Edge Tryd.f30=some R_slices_ContainsFunc_S_impl_Edge_impl_Edge:=by kernel_rfl
theorem EN_slices_ContainsFunc_S_impl_Edge_impl_Edge:ENT Tryd.prog B_slices_ContainsFunc_S_impl_Edge_impl_Edge [(2,none)] 2 3 fn_slices_ContainsFunc_S_impl_Edge_impl_Edge:=fun hargs hw=>enter Tryd.func30 rfl IR_slices_ContainsFunc_S_impl_Edge_impl_Edge hargs hw
def H_slices_ContainsFunc_S_impl_Expr_impl_Expr:Hint:=⟨[(0,false),(1,false),(4,false)],[]⟩
abbrev K80_1:Pl:=.x 6 (.bin .geq (.v 5) (.c (.int .i64 0))) <|
 .m 2 6 .done
abbrev K80_2:C:=.seq (.pl <| .e 3 4 <|
 .m 3 0 <|
 .m 4 1 <|
 .c 5 (.call fn_slices_IndexFunc_S_impl_Expr_impl_Expr [.v 3,.v 4]) K80_1) (.ret)
abbrev B_slices_ContainsFunc_S_impl_Expr_impl_Expr:C:=.seq (.pl <| .e 3 0 <|
 .x 2 (.mv (.c (.bool false))) .done) K80_2
def R_slices_ContainsFunc_S_impl_Expr_impl_Expr:FIR:=⟨B_slices_ContainsFunc_S_impl_Expr_impl_Expr,3,[(2,none)]⟩
theorem IR_slices_ContainsFunc_S_impl_Expr_impl_Expr:cfun Tryd.prog H_slices_ContainsFunc_S_impl_Expr_impl_Expr Tryd.f80=some R_slices_ContainsFunc_S_impl_Expr_impl_Expr:=by kernel_rfl
theorem EN_slices_ContainsFunc_S_impl_Expr_impl_Expr:ENT Tryd.prog B_slices_ContainsFunc_S_impl_Expr_impl_Expr [(2,none)] 2 3 fn_slices_ContainsFunc_S_impl_Expr_impl_Expr:=fun hargs hw=>enter Tryd.func80 rfl IR_slices_ContainsFunc_S_impl_Expr_impl_Expr hargs hw
def H_slices_ContainsFunc_S_int_int:Hint:=⟨[(0,false),(1,false),(4,false)],[]⟩
abbrev K40_1:Pl:=.x 6 (.bin .geq (.v 5) (.c (.int .i64 0))) <|
 .m 2 6 .done
abbrev K40_2:C:=.seq (.pl <| .e 3 4 <|
 .m 3 0 <|
 .m 4 1 <|
 .c 5 (.call fn_slices_IndexFunc_S_int_int [.v 3,.v 4]) K40_1) (.ret)
abbrev B_slices_ContainsFunc_S_int_int:C:=.seq (.pl <| .e 3 0 <|
 .x 2 (.mv (.c (.bool false))) .done) K40_2
def R_slices_ContainsFunc_S_int_int:FIR:=⟨B_slices_ContainsFunc_S_int_int,3,[(2,none)]⟩
theorem IR_slices_ContainsFunc_S_int_int:cfun Tryd.prog H_slices_ContainsFunc_S_int_int Tryd.f40=some R_slices_ContainsFunc_S_int_int:=by kernel_rfl
theorem EN_slices_ContainsFunc_S_int_int:ENT Tryd.prog B_slices_ContainsFunc_S_int_int [(2,none)] 2 3 fn_slices_ContainsFunc_S_int_int:=fun hargs hw=>enter Tryd.func40 rfl IR_slices_ContainsFunc_S_int_int hargs hw
def H_slices_EqualFunc_S_impl_Expr_S_impl_Expr_impl_Expr_impl_Expr:Hint:=⟨[(0,false),(1,false),(2,false),(6,false),(7,false),(8,true),(9,true),(15,false),(16,false),(17,false)],[[0,3,4,5,6]]⟩
abbrev K56_1:C:=.seq (.pl <| .e 10 0 <|
 .x 3 (.mv (.c (.bool true))) .done) (.ret)
abbrev K56_2:C:=.pl <| .e 10 1 <|
 .x 10 (.bin .add (.v 9) (.c (.int .i64 1))) <|
 .m 9 10 .done
abbrev K56_3:C:=.seq (.pl <| .e 10 0 <|
 .x 3 (.mv (.c (.bool false))) .done) (.ret)
abbrev K56_4:C:=.cond 10 (.v 14) K56_3 (.skip)
abbrev K56_5:Pl:=.x 14 (.un .not (.v 13)) .done
abbrev K56_6:C:=.seq (.pl <| .e 10 5 <|
 .m 10 2 <|
 .o (.pget (some 11) none 5 0 (some 3)) <|
 .o (.pget (some 12) none 6 0 (some 3)) <|
 .c 13 (.callv (.v 10) [.v 11,.v 12]) K56_5) K56_4
abbrev K56_7:C:=.seq (.pl <| .e 10 4 <|
 .m 10 1 <|
 .m 11 4 <|
 .x 12 (.ia 3 (.v 10) (.v 11)) <|
 .o (.ld (some 13) (.v 12) (some 3)) <|
 .o (.pnew 6 (.c (.agg #[.int .i64 0,.int .i64 0,.slice none 0 0])) []) <|
 .o (.pset none 6 0 3 (.v 13)) .done) K56_6
abbrev K56_8:C:=.seq (.block 1 (.seq (.pl <| .e 10 3 <|
 .m 10 9 <|
 .x 11 (.ia 3 (.v 7) (.v 9)) <|
 .o (.ld (some 12) (.v 11) (some 3)) <|
 .o (.pnew 5 (.c (.agg #[.int .i64 0,.int .i64 0,.slice none 0 0])) []) <|
 .m 4 10 <|
 .o (.pset none 5 0 3 (.v 12)) .done) K56_7)) K56_2
abbrev K56_9:C:=.seq (.cond 10 (.v 10) (.skip) (.exit 0)) K56_8
abbrev K56_10:C:=.seq (.pl <| .e 10 1 <|
 .x 10 (.bin .lss (.v 9) (.v 8)) .done) K56_9
abbrev K56_11:C:=.block 0 (.loop 10 [0,3,4,5,6] K56_10)
abbrev K56_12:C:=.seq (.seq (.pl <| .e 10 0 <|
 .m 7 0 <|
 .x 8 (.lenV (.v 7)) <|
 .x 9 (.mv (.c (.int .i64 0))) .done) K56_11) K56_1
abbrev K56_13:C:=.seq (.pl <| .e 10 0 <|
 .x 3 (.mv (.c (.bool false))) .done) (.ret)
abbrev K56_14:C:=.cond 10 (.v 14) K56_13 (.skip)
abbrev K56_15:C:=.seq (.seq (.pl <| .e 10 5 <|
 .m 10 0 <|
 .x 11 (.lenV (.v 10)) <|
 .m 12 1 <|
 .x 13 (.lenV (.v 12)) <|
 .x 14 (.bin .neq (.v 11) (.v 13)) .done) K56_14) K56_12
abbrev B_slices_EqualFunc_S_impl_Expr_S_impl_Expr_impl_Expr_impl_Expr:C:=.seq (.pl <| .e 10 0 <|
 .x 3 (.mv (.c (.bool false))) .done) K56_15
def R_slices_EqualFunc_S_impl_Expr_S_impl_Expr_impl_Expr_impl_Expr:FIR:=⟨B_slices_EqualFunc_S_impl_Expr_S_impl_Expr_impl_Expr_impl_Expr,10,[(3,none)]⟩
theorem IR_slices_EqualFunc_S_impl_Expr_S_impl_Expr_impl_Expr_impl_Expr:cfun Tryd.prog H_slices_EqualFunc_S_impl_Expr_S_impl_Expr_impl_Expr_impl_Expr Tryd.f56=some R_slices_EqualFunc_S_impl_Expr_S_impl_Expr_impl_Expr_impl_Expr:=by kernel_rfl
theorem EN_slices_EqualFunc_S_impl_Expr_S_impl_Expr_impl_Expr_impl_Expr:ENT Tryd.prog B_slices_EqualFunc_S_impl_Expr_S_impl_Expr_impl_Expr_impl_Expr [(3,none)] 3 10 fn_slices_EqualFunc_S_impl_Expr_S_impl_Expr_impl_Expr_impl_Expr:=fun hargs hw=>enter Tryd.func56 rfl IR_slices_EqualFunc_S_impl_Expr_S_impl_Expr_impl_Expr_impl_Expr hargs hw
def H_slices_IndexFunc_S_impl_Edge_impl_Edge:Hint:=⟨[(0,false),(1,false),(4,false),(5,false),(7,false),(8,false)],[[2,3]]⟩
abbrev K42_1:C:=.seq (.pl <| .e 6 0 <|
 .x 2 (.mv (.c (.int .i64 (-1)))) .done) (.ret)
abbrev K42_2:C:=.pl <| .e 6 1 <|
 .x 6 (.bin .add (.v 5) (.c (.int .i64 1))) <|
 .m 5 6 .done
abbrev K42_3:C:=.seq (.pl <| .e 6 1 <|
 .m 6 3 <|
 .m 2 6 .done) (.ret)
abbrev K42_4:C:=.cond 6 (.v 11) K42_3 (.skip)
abbrev K42_5:C:=.seq (.pl <| .e 6 6 <|
 .m 6 1 <|
 .m 7 0 <|
 .m 8 3 <|
 .x 9 (.ia 10 (.v 7) (.v 8)) <|
 .o (.ld (some 10) (.v 9) (some 10)) <|
 .c 11 (.callv (.v 6) [.v 10]) .done) K42_4
abbrev K42_6:C:=.seq (.block 1 (.seq (.pl <| .e 6 1 <|
 .m 6 5 <|
 .m 3 6 .done) K42_5)) K42_2
abbrev K42_7:C:=.seq (.cond 6 (.v 6) (.skip) (.exit 0)) K42_6
abbrev K42_8:C:=.seq (.pl <| .e 6 1 <|
 .x 6 (.bin .lss (.v 5) (.v 4)) .done) K42_7
abbrev K42_9:C:=.block 0 (.loop 6 [2,3] K42_8)
abbrev K42_10:C:=.seq (.seq (.pl <| .e 6 1 <|
 .m 6 0 <|
 .x 4 (.lenV (.v 6)) <|
 .x 5 (.mv (.c (.int .i64 0))) .done) K42_9) K42_1
abbrev B_slices_IndexFunc_S_impl_Edge_impl_Edge:C:=.seq (.pl <| .e 6 0 <|
 .x 2 (.mv (.c (.int .i64 0))) .done) K42_10
def R_slices_IndexFunc_S_impl_Edge_impl_Edge:FIR:=⟨B_slices_IndexFunc_S_impl_Edge_impl_Edge,6,[(2,none)]⟩
theorem IR_slices_IndexFunc_S_impl_Edge_impl_Edge:cfun Tryd.prog H_slices_IndexFunc_S_impl_Edge_impl_Edge Tryd.f42=some R_slices_IndexFunc_S_impl_Edge_impl_Edge:=by kernel_rfl
theorem EN_slices_IndexFunc_S_impl_Edge_impl_Edge:ENT Tryd.prog B_slices_IndexFunc_S_impl_Edge_impl_Edge [(2,none)] 2 6 fn_slices_IndexFunc_S_impl_Edge_impl_Edge:=fun hargs hw=>enter Tryd.func42 rfl IR_slices_IndexFunc_S_impl_Edge_impl_Edge hargs hw
def H_slices_IndexFunc_S_impl_Expr_impl_Expr:Hint:=⟨[(0,false),(1,false),(4,false),(5,false),(7,false),(8,false)],[[2,3]]⟩
abbrev K85_1:C:=.seq (.pl <| .e 6 0 <|
 .x 2 (.mv (.c (.int .i64 (-1)))) .done) (.ret)
abbrev K85_2:C:=.pl <| .e 6 1 <|
 .x 6 (.bin .add (.v 5) (.c (.int .i64 1))) <|
 .m 5 6 .done
abbrev K85_3:C:=.seq (.pl <| .e 6 1 <|
 .m 6 3 <|
 .m 2 6 .done) (.ret)
abbrev K85_4:C:=.cond 6 (.v 11) K85_3 (.skip)
abbrev K85_5:C:=.seq (.pl <| .e 6 6 <|
 .m 6 1 <|
 .m 7 0 <|
 .m 8 3 <|
 .x 9 (.ia 3 (.v 7) (.v 8)) <|
 .o (.ld (some 10) (.v 9) (some 3)) <|
 .c 11 (.callv (.v 6) [.v 10]) .done) K85_4
abbrev K85_6:C:=.seq (.block 1 (.seq (.pl <| .e 6 1 <|
 .m 6 5 <|
 .m 3 6 .done) K85_5)) K85_2
abbrev K85_7:C:=.seq (.cond 6 (.v 6) (.skip) (.exit 0)) K85_6
abbrev K85_8:C:=.seq (.pl <| .e 6 1 <|
 .x 6 (.bin .lss (.v 5) (.v 4)) .done) K85_7
abbrev K85_9:C:=.block 0 (.loop 6 [2,3] K85_8)
abbrev K85_10:C:=.seq (.seq (.pl <| .e 6 1 <|
 .m 6 0 <|
 .x 4 (.lenV (.v 6)) <|
 .x 5 (.mv (.c (.int .i64 0))) .done) K85_9) K85_1
abbrev B_slices_IndexFunc_S_impl_Expr_impl_Expr:C:=.seq (.pl <| .e 6 0 <|
 .x 2 (.mv (.c (.int .i64 0))) .done) K85_10
def R_slices_IndexFunc_S_impl_Expr_impl_Expr:FIR:=⟨B_slices_IndexFunc_S_impl_Expr_impl_Expr,6,[(2,none)]⟩
theorem IR_slices_IndexFunc_S_impl_Expr_impl_Expr:cfun Tryd.prog H_slices_IndexFunc_S_impl_Expr_impl_Expr Tryd.f85=some R_slices_IndexFunc_S_impl_Expr_impl_Expr:=by kernel_rfl
theorem EN_slices_IndexFunc_S_impl_Expr_impl_Expr:ENT Tryd.prog B_slices_IndexFunc_S_impl_Expr_impl_Expr [(2,none)] 2 6 fn_slices_IndexFunc_S_impl_Expr_impl_Expr:=fun hargs hw=>enter Tryd.func85 rfl IR_slices_IndexFunc_S_impl_Expr_impl_Expr hargs hw
theorem c_toIntS {h:Heap}{a:Value}{x:List Int}(Ra:Rep h a x) (hs:Sz.sz x≤1048576):CallE Tryd.prog fn_laws_toIntS [a] h (fun v h'=>HS h [ow v x] h'):=by
 rw[sz_list] at hs
 refine CallE.gen fun k hk=>EN_laws_toIntS rfl ?_
 simp -implicitDefEqProofs (disch:=first|omega|(simp only[LnZ];omega))[wrap64,Ra.I]
 refine HS.init.mks (z:=(0:Int)) rfl rfl (own_zero (by decide) (by decide)) (Nat.le_refl _) (by omega) (by omega) fun v h1 H=>?_
 simp -implicitDefEqProofs (disch:=omega)[wrap64]
 refine wp_count x.length (fun i e h'=>e=[some a,none,some v,some (.int .i64 i)]∧∃y,HS h [ow v y] h'∧y.length=x.length∧y.take i=x.take i) ⟨rfl,_,H,by simp,by simp⟩ ?_
 rintro J i _ h2 hJ hi ⟨rfl,y,H,hl,hy⟩
 simp -implicitDefEqProofs (disch:=first|omega|(simp only[LnZ];omega))[wrap64,Ra.I]
 refine IteW.mk (fun hlt=>?_) (fun hge=>?_)
 ·have hlx:i<x.length:=by omega
  simp -implicitDefEqProofs (disch:=first|omega|(simp only[LnZ];omega))[wrap64,H.rep.I,(Ra.on H).I]
  refine H.storeF x[i] (by omega) rfl rfl (Ra.okI hlx) rfl fun h3 H=>?_
  simp -implicitDefEqProofs (disch:=omega)[wrap64]
  exact hJ _ _ hlx ⟨rfl,_,H,by simp[hl],take_set_succ hy hlx hl⟩
 ·simp -implicitDefEqProofs (disch:=omega)[wrap64]
  refine RetK.keep (hk _ _ ?_)
  rw[← eq_of_take hy (by omega) hl];exact H
theorem c_szIntS {h:Heap}{a:Value}{x:List Int}(Ra:Rep h a x) {n:Int}(hn:0≤n∧n≤1048576):CallE Tryd.prog fn_laws_szIntS [a,.int .i64 n] h (fun v h'=>h'=h∧∃m:Int,v=.int .i64 m∧(m = -1∨(0≤m∧m+Sz.sz x=n))):=by
 rw[sz_list,szL_zero (fun _=>rfl)]
 refine CallE.gen fun k hk=>EN_laws_szIntS rfl ?_
 have hL:=Ra.lt
 simp -implicitDefEqProofs (disch:=first|omega|(simp only[LnZ];omega))[wrap64,Ra.I]
 refine IteW.mk (fun hlt=>?_) (fun hge=>?_)
 ·simp -implicitDefEqProofs (disch:=omega)[wrap64]
  exact RetK.keep (hk _ _ ⟨rfl,_,rfl,.inl rfl⟩)
 ·simp -implicitDefEqProofs (disch:=omega)[wrap64]
  exact RetK.keep (hk _ _ ⟨rfl,_,rfl,.inr (by omega)⟩)
theorem c_eqIntS {h:Heap}{a b:Value}{x y:List Int}(Ra:Rep h a x) (Rb:Rep h b y):CallE Tryd.prog fn_laws_eqIntS [a,b] h (fun v h'=>h'=h∧v=.bool (decide (x=y))):=by
 refine CallE.gen fun k hk=>EN_laws_eqIntS rfl ?_
 have hL:=Ra.lt
 simp -implicitDefEqProofs (disch:=first|omega|(simp only[LnZ];omega))[wrap64,Ra.len,Rb.len]
 refine IteW.mkr (fun hne=>?_) (fun heq=>?_)
 ·simp -implicitDefEqProofs (disch:=omega)[wrap64]
  exact RetK.keep (hk _ _ ⟨rfl,by simp;rintro rfl;exact hne rfl⟩)
 simp -implicitDefEqProofs (disch:=omega)[wrap64]
 refine wp_count x.length (fun i e h'=>h'=h∧e=[some a,some b,none,some (.int .i64 i)]∧x.take i=y.take i) ⟨rfl,rfl,rfl⟩ ?_
 rintro J i _ _ hJ hi ⟨rfl,rfl,hxy⟩
 simp -implicitDefEqProofs (disch:=first|omega|(simp only[LnZ];omega))[wrap64,Ra.len]
 refine IteW.mk (fun hlt=>?_) (fun hge=>?_)
 ·have hly:i<y.length:=by omega
  have hlx:i<x.length:=by omega
  simp -implicitDefEqProofs (disch:=first|omega|(simp only[LnZ];omega))[wrap64,Ra.I,Rb.I]
  refine IteW.mkr (fun hne=>?_) (fun heq=>?_)
  ·simp -implicitDefEqProofs (disch:=omega)[wrap64]
   exact RetK.keep (hk _ _ ⟨rfl,by simp;rintro rfl;exact hne rfl⟩)
  simp -implicitDefEqProofs (disch:=omega)[wrap64]
  exact hJ _ _ hlx ⟨rfl,rfl,take_step hxy hlx hly heq⟩
 ·simp -implicitDefEqProofs (disch:=omega)[wrap64]
  refine RetK.keep (hk _ _ ⟨rfl,?_⟩)
  simp
  rw[List.take_of_length_le (by omega),List.take_of_length_le (by omega)] at hxy
  exact hxy
theorem i64_0:I64 0:=⟨by decide,by decide⟩
def Ed.zero:Ed:=⟨0,0,Exq.zero,0,Exq.zero,0⟩
def Pr.zero:Pr:=⟨0,[]⟩
theorem own_zeroE:Ty.own Heap.nil [.int .i64 0,.int .i64 0,.slice none 0 0] Exq.zero:=ownExq.2 ⟨_,rfl,i64_0,i64_0,Own_nils⟩
theorem own_zeroEd:Ty.own Heap.nil [.int .i64 0,.int .i64 0,.int .i64 0,.int .i64 0,.slice none 0 0,.int .i64 0,.int .i64 0,.int .i64 0,.slice none 0 0,.int .i64 0] Ed.zero:=
 ownEd.2 ⟨.slice none 0 0,.slice none 0 0,Heap.nil,Heap.nil,rfl,⟨i64_0,i64_0,i64_0,i64_0,i64_0,i64_0,i64_0,i64_0⟩,by simp,by simp,Own_nils,Own_nils⟩
theorem own_zeroPr:Ty.own Heap.nil [.int .i64 0,.slice none 0 0] Pr.zero:=⟨[_],[_],Heap.nil,Heap.nil,rfl,by simp,by simp,⟨rfl,rfl,i64_0⟩,own_nils⟩
theorem c_toExprS_of {h:Heap}{a:Value}{x:List Exq}(ih:∀y∈x,∀{h:Heap}{v:Value},Rep h v y→Sz.sz y≤1048576→CallE Tryd.prog fn_laws_toExpr [v] h (fun u h'=>HS h [ow u y] h')) (Ra:Rep h a x) (hs:Sz.sz x≤1048576):CallE Tryd.prog fn_laws_toExprS [a] h (fun v h'=>HS h [ow v x] h'):=by
 rw[sz_list] at hs
 refine CallE.gen fun k hk=>EN_laws_toExprS rfl ?_
 simp -implicitDefEqProofs (disch:=first|omega|(simp only[LnZ];omega))[wrap64,Ra.len]
 refine HS.init.mks (α:=Exq) (z:=Exq.zero) rfl rfl (own_zeroE) (Nat.le_refl _) (by omega) (by omega) fun v h1 H=>?_
 simp -implicitDefEqProofs (disch:=omega)[wrap64]
 refine wp_count x.length (fun i e h'=>e=[some a,none,some v,some (.int .i64 i)]∧∃y,HS h [ow v y] h'∧y.length=x.length∧y.take i=x.take i) ⟨rfl,_,H,by simp,by simp⟩ ?_
 clear H
 rintro J i _ h2 hJ hi ⟨rfl,y,H,hl,hy⟩
 simp -implicitDefEqProofs (disch:=first|omega|(simp only[LnZ];omega))[wrap64,Ra.len]
 refine IteW.mk (fun hlt=>?_) (fun hge=>?_)
 ·have hlx:i<x.length:=by omega
  obtain⟨u,hu,Ru⟩:=(Ra.on H).ld hlx
  change hload _ (some (elp 3 a i)) (some 3)=some u at hu
  have hsi:=szL_get hlx
  simp -implicitDefEqProofs (disch:=first|omega|(simp only[LnZ];omega))[wrap64,Ra.X (n:=3) rfl,hu]
  refine (ih _ (List.getElem_mem hlx) Ru (by omega)).go ?_
  intro w h3 G
  have H:=G.app H
  simp -implicitDefEqProofs (disch:=first|omega|(simp only[LnZ];omega))[wrap64,H.sw1.rep.X (n:=3) rfl,G.rep.aExq]
  refine HS.store H (by omega) rfl rfl rfl fun h4 H=>?_
  simp -implicitDefEqProofs (disch:=omega)[wrap64]
  exact hJ _ _ hlx ⟨rfl,_,H,by simp[hl],take_set_succ hy hlx hl⟩
 ·simp -implicitDefEqProofs (disch:=omega)[wrap64]
  refine RetK.keep (hk _ _ ?_)
  rw[← eq_of_take hy (by omega) hl];exact H
theorem c_toExpr:∀(x:Exq) {h:Heap}{v:Value},Rep h v x→Sz.sz x≤1048576→CallE Tryd.prog fn_laws_toExpr [v] h (fun u h'=>HS h [ow u x] h'):=by
 refine Exq.ind fun x ih h v R hs=>?_
 obtain⟨w,rfl,k1,k2,R1⟩:=Rep_Exq.1 R
 rw[sz_Exq] at hs
 refine CallE.gen fun k hk=>EN_laws_toExpr rfl ?_
 simp -implicitDefEqProofs (disch:=first|omega|(simp only[LnZ];omega))[wrap64,setC]
 refine (c_toExprS_of ih R1 hs).go ?_
 intro u h1 G
 simp -implicitDefEqProofs (disch:=first|omega|(simp only[LnZ];omega))[wrap64,setC,G.rep.cells,G.rep.one]
 exact RetK.keep (hk _ _ (G.mkExq k1 k2))
theorem c_toEdge {e:Ed}{h:Heap}{v:Value}(R:Rep h v e) (hs:Sz.sz e≤1048576):CallE Tryd.prog fn_laws_toEdge [v] h (fun u h'=>HS h [ow u e] h'):=by
 obtain⟨w1,w2,rfl,ok,R1,R2⟩:=Rep_Ed.1 R
 have hs':Sz.sz e.guard+Sz.sz e.value≤1048576:=hs
 have G1:Rep h (.agg #[.int .i64 e.guard.kind,.int .i64 e.guard.val,w1]) e.guard:=Rep_Exq.2 ⟨w1,rfl,ok.gk,ok.gv,R1⟩
 have G2:Rep h (.agg #[.int .i64 e.value.kind,.int .i64 e.value.val,w2]) e.value:=Rep_Exq.2 ⟨w2,rfl,ok.vk,ok.vv,R2⟩
 refine CallE.gen fun k hk=>EN_laws_toEdge rfl ?_
 simp -implicitDefEqProofs (disch:=first|omega|(simp only[LnZ];omega))[wrap64,setC,Ed.cs]
 refine (c_toExpr _ G1 (by omega)).go ?_
 intro u1 h1 H1
 obtain⟨x1,rfl,_,_,H1⟩:=H1.unExq
 have F1:=H1.rep.cells
 have F2:=H1.rep.one
 simp -implicitDefEqProofs (disch:=first|omega|(simp only[LnZ];omega))[wrap64,setC,Ed.cs,F1,F2]
 refine (c_toExpr _ (G2.on H1) (by omega)).go ?_
 intro u2 h2 H2
 obtain⟨x2,rfl,_,_,H2⟩:=H2.unExq
 have F3:=H2.rep.cells
 have F4:=H2.rep.one
 have H:=H2.app H1
 simp -implicitDefEqProofs (disch:=first|omega|(simp only[LnZ];omega))[wrap64,setC,Ed.cs,F1,F2,F3,F4]
 exact RetK.keep (hk _ _ (H.sw1.mkEd ok))
theorem c_toEdgeS {h:Heap}{a:Value}{x:List Ed}(Ra:Rep h a x) (hs:Sz.sz x≤1048576):CallE Tryd.prog fn_laws_toEdgeS [a] h (fun v h'=>HS h [ow v x] h'):=by
 rw[sz_list] at hs
 refine CallE.gen fun k hk=>EN_laws_toEdgeS rfl ?_
 simp -implicitDefEqProofs (disch:=first|omega|(simp only[LnZ];omega))[wrap64,Ra.len]
 refine HS.init.mks (α:=Ed) (z:=Ed.zero) rfl rfl (own_zeroEd) (Nat.le_refl _) (by omega) (by omega) fun v h1 H=>?_
 simp -implicitDefEqProofs (disch:=omega)[wrap64]
 refine wp_count x.length (fun i e h'=>e=[some a,none,some v,some (.int .i64 i)]∧∃y,HS h [ow v y] h'∧y.length=x.length∧y.take i=x.take i) ⟨rfl,_,H,by simp,by simp⟩ ?_
 clear H
 rintro J i _ h2 hJ hi ⟨rfl,y,H,hl,hy⟩
 simp -implicitDefEqProofs (disch:=first|omega|(simp only[LnZ];omega))[wrap64,Ra.len]
 refine IteW.mk (fun hlt=>?_) (fun hge=>?_)
 ·have hlx:i<x.length:=by omega
  obtain⟨u,hu,Ru⟩:=(Ra.on H).ld hlx
  change hload _ (some (elp 10 a i)) (some 10)=some u at hu
  have hsi:=szL_get hlx
  simp -implicitDefEqProofs (disch:=first|omega|(simp only[LnZ];omega))[wrap64,Ra.X (n:=10) rfl,hu]
  refine (c_toEdge Ru (by omega)).go ?_
  intro w h3 G
  have H:=G.app H
  simp -implicitDefEqProofs (disch:=first|omega|(simp only[LnZ];omega))[wrap64,H.sw1.rep.X (n:=10) rfl,G.rep.aEd]
  refine HS.store H (by omega) rfl rfl rfl fun h4 H=>?_
  simp -implicitDefEqProofs (disch:=omega)[wrap64]
  exact hJ _ _ hlx ⟨rfl,_,H,by simp[hl],take_set_succ hy hlx hl⟩
 ·simp -implicitDefEqProofs (disch:=omega)[wrap64]
  refine RetK.keep (hk _ _ ?_)
  rw[← eq_of_take hy (by omega) hl];exact H
theorem c_toProcess {p:Pr}{h:Heap}{v:Value}(R:Rep h v p) (hs:Sz.sz p≤1048576):CallE Tryd.prog fn_laws_toProcess [v] h (fun u h'=>HS h [ow u p] h'):=by
 obtain⟨w,rfl,k1,R1⟩:=Rep_Pr.1 R
 refine CallE.gen fun k hk=>EN_laws_toProcess rfl ?_
 simp -implicitDefEqProofs (disch:=first|omega|(simp only[LnZ];omega))[wrap64,setC]
 refine (c_toEdgeS R1 hs).go ?_
 intro u h1 G
 simp -implicitDefEqProofs (disch:=first|omega|(simp only[LnZ];omega))[wrap64,setC,G.rep.cells,G.rep.one]
 exact RetK.keep (hk _ _ (G.mkPr k1))
theorem c_toProcessS {h:Heap}{a:Value}{x:List Pr}(Ra:Rep h a x) (hs:Sz.sz x≤1048576):CallE Tryd.prog fn_laws_toProcessS [a] h (fun v h'=>HS h [ow v x] h'):=by
 rw[sz_list] at hs
 refine CallE.gen fun k hk=>EN_laws_toProcessS rfl ?_
 simp -implicitDefEqProofs (disch:=first|omega|(simp only[LnZ];omega))[wrap64,Ra.len]
 refine HS.init.mks (α:=Pr) (z:=Pr.zero) rfl rfl (own_zeroPr) (Nat.le_refl _) (by omega) (by omega) fun v h1 H=>?_
 simp -implicitDefEqProofs (disch:=omega)[wrap64]
 refine wp_count x.length (fun i e h'=>e=[some a,none,some v,some (.int .i64 i)]∧∃y,HS h [ow v y] h'∧y.length=x.length∧y.take i=x.take i) ⟨rfl,_,H,by simp,by simp⟩ ?_
 clear H
 rintro J i _ h2 hJ hi ⟨rfl,y,H,hl,hy⟩
 simp -implicitDefEqProofs (disch:=first|omega|(simp only[LnZ];omega))[wrap64,Ra.len]
 refine IteW.mk (fun hlt=>?_) (fun hge=>?_)
 ·have hlx:i<x.length:=by omega
  obtain⟨u,hu,Ru⟩:=(Ra.on H).ld hlx
  change hload _ (some (elp 2 a i)) (some 2)=some u at hu
  have hsi:=szL_get hlx
  simp -implicitDefEqProofs (disch:=first|omega|(simp only[LnZ];omega))[wrap64,Ra.X (n:=2) rfl,hu]
  refine (c_toProcess Ru (by omega)).go ?_
  intro w h3 G
  have H:=G.app H
  simp -implicitDefEqProofs (disch:=first|omega|(simp only[LnZ];omega))[wrap64,H.sw1.rep.X (n:=2) rfl,G.rep.aPr]
  refine HS.store H (by omega) rfl rfl rfl fun h4 H=>?_
  simp -implicitDefEqProofs (disch:=omega)[wrap64]
  exact hJ _ _ hlx ⟨rfl,_,H,by simp[hl],take_set_succ hy hlx hl⟩
 ·simp -implicitDefEqProofs (disch:=omega)[wrap64]
  refine RetK.keep (hk _ _ ?_)
  rw[← eq_of_take hy (by omega) hl];exact H
theorem c_toSystem {h:Heap}{v:Value}{a:Sy}(Ra:Rep h v a) (hs:Sz.sz a≤1048576):CallE Tryd.prog fn_laws_toSystem [v] h (fun v h'=>HS h [ow v a] h'):=by
 have hs':Sz.sz a.init+Sz.sz a.procs≤1048576:=hs
 obtain⟨v1,v2,rfl,R1,R2⟩:=Rep_Sy.1 Ra
 refine CallE.gen fun k hk=>EN_laws_toSystem rfl ?_
 have H0:HS h [] h:=HS.init
 simp -implicitDefEqProofs (disch:=first|omega|(simp only[LnZ];omega))[wrap64,setC]
 refine (c_toIntS (R1.on H0) (by omega)).go ?_
 intro u1 h1 G1
 have H1:=HS.app G1 H0
 simp -implicitDefEqProofs (disch:=first|omega|(simp only[LnZ];omega))[wrap64,setC,G1.rep.cells,G1.rep.one]
 refine (c_toProcessS (R2.on H1) (by omega)).go ?_
 intro u2 h2 G2
 have H2:=HS.app G2 H1
 simp -implicitDefEqProofs (disch:=first|omega|(simp only[LnZ];omega))[wrap64,setC,G1.rep.cells,G1.rep.one,G2.rep.cells,G2.rep.one]
 exact RetK.keep (hk _ _ (HS.mkSy H2.sw1))
theorem c_szExprS_of {h:Heap}{a:Value}{x:List Exq}(ih:∀y∈x,∀{h:Heap}{a:Value},Rep h a y→∀{n:Int},0≤n∧n≤1048576→CallE Tryd.prog fn_laws_szExpr [a,.int .i64 n] h (fun v h'=>h'=h∧∃m:Int,v=.int .i64 m∧(m = -1∨(0≤m∧m+Sz.sz y=n)))) (Ra:Rep h a x) {n:Int}(hn:0≤n∧n≤1048576):CallE Tryd.prog fn_laws_szExprS [a,.int .i64 n] h (fun v h'=>h'=h∧∃m:Int,v=.int .i64 m∧(m = -1∨(0≤m∧m+Sz.sz x=n))):=by
 rw[sz_list]
 refine CallE.gen fun k hk=>EN_laws_szExprS rfl ?_
 have hL:=Ra.lt
 simp -implicitDefEqProofs (disch:=first|omega|(simp only[LnZ];omega))[wrap64,Ra.len]
 refine IteW.mk (fun hlt=>?_) (fun hge=>?_)
 ·simp -implicitDefEqProofs (disch:=omega)[wrap64]
  exact RetK.keep (hk _ _ ⟨rfl,_,rfl,.inl rfl⟩)
 simp -implicitDefEqProofs (disch:=omega)[wrap64]
 refine wp_count x.length (fun i e h'=>h'=h∧∃m:Int,e=[some a,some (.int .i64 m),none,some (.int .i64 i)]∧0≤m∧m+x.length+szL (x.take i)=n) ⟨rfl,_,rfl,by omega,by simp[szL]⟩ ?_
 rintro J i _ _ hJ hi ⟨rfl,m,rfl,hm,hmn⟩
 simp -implicitDefEqProofs (disch:=first|omega|(simp only[LnZ];omega))[wrap64,Ra.len]
 refine IteW.mk (fun hlt=>?_) (fun hge2=>?_)
 ·have hlx:i<x.length:=by omega
  obtain⟨u,hu,Ru⟩:=Ra.ld hlx
  change hload _ (some (elp 3 a i)) (some 3)=some u at hu
  simp -implicitDefEqProofs (disch:=first|omega|(simp only[LnZ];omega))[wrap64,Ra.X (n:=3) rfl,hu]
  refine (ih _ (List.getElem_mem hlx) Ru (n:=m) (by omega)).go ?_
  rintro _ _ ⟨rfl,m2,rfl,q⟩
  simp -implicitDefEqProofs (disch:=omega)[wrap64]
  refine IteW.mk (fun hlt=>?_) (fun hge=>?_)
  ·simp -implicitDefEqProofs (disch:=omega)[wrap64]
   exact RetK.keep (hk _ _ ⟨rfl,_,rfl,.inl rfl⟩)
  ·simp -implicitDefEqProofs (disch:=omega)[wrap64]
   exact hJ _ _ hlx ⟨rfl,_,rfl,by omega,by rw[szL_take hlx];omega⟩
 ·simp -implicitDefEqProofs (disch:=omega)[wrap64]
  rw[List.take_of_length_le (by omega)] at hmn
  exact RetK.keep (hk _ _ ⟨rfl,_,rfl,.inr (by omega)⟩)
theorem c_szExpr:∀(x:Exq) {h:Heap}{a:Value},Rep h a x→∀{n:Int},0≤n∧n≤1048576→CallE Tryd.prog fn_laws_szExpr [a,.int .i64 n] h (fun v h'=>h'=h∧∃m:Int,v=.int .i64 m∧(m = -1∨(0≤m∧m+Sz.sz x=n))):=by
 refine Exq.ind fun x ih h a R n hn=>?_
 obtain⟨w,rfl,k1,k2,R1⟩:=Rep_Exq.1 R
 rw[sz_Exq]
 refine CallE.gen fun k hk=>EN_laws_szExpr rfl ?_
 simp -implicitDefEqProofs (disch:=omega)[wrap64]
 refine (c_szExprS_of ih R1 hn).go ?_
 rintro _ _ ⟨rfl,m,rfl,q⟩
 simp -implicitDefEqProofs (disch:=omega)[wrap64]
 refine IteW.mk (fun hlt=>?_) (fun hge=>?_)
 ·simp -implicitDefEqProofs (disch:=omega)[wrap64]
  exact RetK.keep (hk _ _ ⟨rfl,_,rfl,.inl rfl⟩)
 ·simp -implicitDefEqProofs (disch:=omega)[wrap64]
  exact RetK.keep (hk _ _ ⟨rfl,_,rfl,.inr (by omega)⟩)
theorem c_szEdge {e:Ed}{h:Heap}{a:Value}(R:Rep h a e) {n:Int}(hn:0≤n∧n≤1048576):CallE Tryd.prog fn_laws_szEdge [a,.int .i64 n] h (fun v h'=>h'=h∧∃m:Int,v=.int .i64 m∧(m = -1∨(0≤m∧m+Sz.sz e=n))):=by
 obtain⟨w1,w2,rfl,ok,R1,R2⟩:=Rep_Ed.1 R
 have G1:Rep h (.agg #[.int .i64 e.guard.kind,.int .i64 e.guard.val,w1]) e.guard:=Rep_Exq.2 ⟨w1,rfl,ok.gk,ok.gv,R1⟩
 have G2:Rep h (.agg #[.int .i64 e.value.kind,.int .i64 e.value.val,w2]) e.value:=Rep_Exq.2 ⟨w2,rfl,ok.vk,ok.vv,R2⟩
 have hz:Sz.sz e=Sz.sz e.guard+Sz.sz e.value:=rfl
 refine CallE.gen fun k hk=>EN_laws_szEdge rfl ?_
 simp -implicitDefEqProofs (disch:=first|omega|(simp only[LnZ];omega))[wrap64,Ed.cs]
 refine (c_szExpr _ G1 hn).go ?_
 rintro _ _ ⟨rfl,m,rfl,q⟩
 simp -implicitDefEqProofs (disch:=omega)[wrap64]
 refine IteW.mk (fun hlt=>?_) (fun hge=>?_)
 ·simp -implicitDefEqProofs (disch:=omega)[wrap64]
  exact RetK.keep (hk _ _ ⟨rfl,_,rfl,.inl rfl⟩)
 simp -implicitDefEqProofs (disch:=first|omega|(simp only[LnZ];omega))[wrap64,Ed.cs]
 refine (c_szExpr _ G2 (by omega)).go ?_
 rintro _ _ ⟨rfl,m2,rfl,q2⟩
 simp -implicitDefEqProofs (disch:=omega)[wrap64]
 refine IteW.mk (fun hlt=>?_) (fun hge=>?_)
 ·simp -implicitDefEqProofs (disch:=omega)[wrap64]
  exact RetK.keep (hk _ _ ⟨rfl,_,rfl,.inl rfl⟩)
 simp -implicitDefEqProofs (disch:=omega)[wrap64]
 exact RetK.keep (hk _ _ ⟨rfl,_,rfl,.inr (by omega)⟩)
theorem c_szEdgeS {h:Heap}{a:Value}{x:List Ed}(Ra:Rep h a x) {n:Int}(hn:0≤n∧n≤1048576):CallE Tryd.prog fn_laws_szEdgeS [a,.int .i64 n] h (fun v h'=>h'=h∧∃m:Int,v=.int .i64 m∧(m = -1∨(0≤m∧m+Sz.sz x=n))):=by
 rw[sz_list]
 refine CallE.gen fun k hk=>EN_laws_szEdgeS rfl ?_
 have hL:=Ra.lt
 simp -implicitDefEqProofs (disch:=first|omega|(simp only[LnZ];omega))[wrap64,Ra.len]
 refine IteW.mk (fun hlt=>?_) (fun hge=>?_)
 ·simp -implicitDefEqProofs (disch:=omega)[wrap64]
  exact RetK.keep (hk _ _ ⟨rfl,_,rfl,.inl rfl⟩)
 simp -implicitDefEqProofs (disch:=omega)[wrap64]
 refine wp_count x.length (fun i e h'=>h'=h∧∃m:Int,e=[some a,some (.int .i64 m),none,some (.int .i64 i)]∧0≤m∧m+x.length+szL (x.take i)=n) ⟨rfl,_,rfl,by omega,by simp[szL]⟩ ?_
 rintro J i _ _ hJ hi ⟨rfl,m,rfl,hm,hmn⟩
 simp -implicitDefEqProofs (disch:=first|omega|(simp only[LnZ];omega))[wrap64,Ra.len]
 refine IteW.mk (fun hlt=>?_) (fun hge2=>?_)
 ·have hlx:i<x.length:=by omega
  obtain⟨u,hu,Ru⟩:=Ra.ld hlx
  change hload _ (some (elp 10 a i)) (some 10)=some u at hu
  simp -implicitDefEqProofs (disch:=first|omega|(simp only[LnZ];omega))[wrap64,Ra.X (n:=10) rfl,hu]
  refine (c_szEdge Ru (n:=m) (by omega)).go ?_
  rintro _ _ ⟨rfl,m2,rfl,q⟩
  simp -implicitDefEqProofs (disch:=omega)[wrap64]
  refine IteW.mk (fun hlt=>?_) (fun hge=>?_)
  ·simp -implicitDefEqProofs (disch:=omega)[wrap64]
   exact RetK.keep (hk _ _ ⟨rfl,_,rfl,.inl rfl⟩)
  ·simp -implicitDefEqProofs (disch:=omega)[wrap64]
   exact hJ _ _ hlx ⟨rfl,_,rfl,by omega,by rw[szL_take hlx];omega⟩
 ·simp -implicitDefEqProofs (disch:=omega)[wrap64]
  rw[List.take_of_length_le (by omega)] at hmn
  exact RetK.keep (hk _ _ ⟨rfl,_,rfl,.inr (by omega)⟩)
theorem c_szProcess {p:Pr}{h:Heap}{a:Value}(R:Rep h a p) {n:Int}(hn:0≤n∧n≤1048576):CallE Tryd.prog fn_laws_szProcess [a,.int .i64 n] h (fun v h'=>h'=h∧∃m:Int,v=.int .i64 m∧(m = -1∨(0≤m∧m+Sz.sz p=n))):=by
 obtain⟨w,rfl,k1,R1⟩:=Rep_Pr.1 R
 have hz:Sz.sz p=Sz.sz p.edges:=rfl
 refine CallE.gen fun k hk=>EN_laws_szProcess rfl ?_
 simp -implicitDefEqProofs (disch:=omega)[wrap64]
 refine (c_szEdgeS R1 hn).go ?_
 rintro _ _ ⟨rfl,m,rfl,q⟩
 simp -implicitDefEqProofs (disch:=omega)[wrap64]
 refine IteW.mk (fun hlt=>?_) (fun hge=>?_)
 ·simp -implicitDefEqProofs (disch:=omega)[wrap64]
  exact RetK.keep (hk _ _ ⟨rfl,_,rfl,.inl rfl⟩)
 ·simp -implicitDefEqProofs (disch:=omega)[wrap64]
  exact RetK.keep (hk _ _ ⟨rfl,_,rfl,.inr (by omega)⟩)
theorem c_szProcessS {h:Heap}{a:Value}{x:List Pr}(Ra:Rep h a x) {n:Int}(hn:0≤n∧n≤1048576):CallE Tryd.prog fn_laws_szProcessS [a,.int .i64 n] h (fun v h'=>h'=h∧∃m:Int,v=.int .i64 m∧(m = -1∨(0≤m∧m+Sz.sz x=n))):=by
 rw[sz_list]
 refine CallE.gen fun k hk=>EN_laws_szProcessS rfl ?_
 have hL:=Ra.lt
 simp -implicitDefEqProofs (disch:=first|omega|(simp only[LnZ];omega))[wrap64,Ra.len]
 refine IteW.mk (fun hlt=>?_) (fun hge=>?_)
 ·simp -implicitDefEqProofs (disch:=omega)[wrap64]
  exact RetK.keep (hk _ _ ⟨rfl,_,rfl,.inl rfl⟩)
 simp -implicitDefEqProofs (disch:=omega)[wrap64]
 refine wp_count x.length (fun i e h'=>h'=h∧∃m:Int,e=[some a,some (.int .i64 m),none,some (.int .i64 i)]∧0≤m∧m+x.length+szL (x.take i)=n) ⟨rfl,_,rfl,by omega,by simp[szL]⟩ ?_
 rintro J i _ _ hJ hi ⟨rfl,m,rfl,hm,hmn⟩
 simp -implicitDefEqProofs (disch:=first|omega|(simp only[LnZ];omega))[wrap64,Ra.len]
 refine IteW.mk (fun hlt=>?_) (fun hge2=>?_)
 ·have hlx:i<x.length:=by omega
  obtain⟨u,hu,Ru⟩:=Ra.ld hlx
  change hload _ (some (elp 2 a i)) (some 2)=some u at hu
  simp -implicitDefEqProofs (disch:=first|omega|(simp only[LnZ];omega))[wrap64,Ra.X (n:=2) rfl,hu]
  refine (c_szProcess Ru (n:=m) (by omega)).go ?_
  rintro _ _ ⟨rfl,m2,rfl,q⟩
  simp -implicitDefEqProofs (disch:=omega)[wrap64]
  refine IteW.mk (fun hlt=>?_) (fun hge=>?_)
  ·simp -implicitDefEqProofs (disch:=omega)[wrap64]
   exact RetK.keep (hk _ _ ⟨rfl,_,rfl,.inl rfl⟩)
  ·simp -implicitDefEqProofs (disch:=omega)[wrap64]
   exact hJ _ _ hlx ⟨rfl,_,rfl,by omega,by rw[szL_take hlx];omega⟩
 ·simp -implicitDefEqProofs (disch:=omega)[wrap64]
  rw[List.take_of_length_le (by omega)] at hmn
  exact RetK.keep (hk _ _ ⟨rfl,_,rfl,.inr (by omega)⟩)
theorem c_szSystem {h:Heap}{a:Value}{x:Sy}(Ra:Rep h a x) {n:Int}(hn:0≤n∧n≤1048576):CallE Tryd.prog fn_laws_szSystem [a,.int .i64 n] h (fun v h'=>h'=h∧∃m:Int,v=.int .i64 m∧(m = -1∨(0≤m∧m+Sz.sz x=n))):=by
 have hz:Sz.sz x=Sz.sz x.init+Sz.sz x.procs:=rfl
 obtain⟨v1,v2,rfl,R1,R2⟩:=Rep_Sy.1 Ra
 refine CallE.gen fun k hk=>EN_laws_szSystem rfl ?_
 simp -implicitDefEqProofs (disch:=omega)[wrap64]
 refine (c_szIntS R1 (by omega)).go ?_
 rintro _ _ ⟨rfl,m1,rfl,q1⟩
 simp -implicitDefEqProofs (disch:=omega)[wrap64]
 refine IteW.mk (fun hlt=>?_) (fun hge=>?_)
 ·simp -implicitDefEqProofs (disch:=omega)[wrap64]
  exact RetK.keep (hk _ _ ⟨rfl,_,rfl,.inl rfl⟩)
 simp -implicitDefEqProofs (disch:=omega)[wrap64]
 refine (c_szProcessS R2 (by omega)).go ?_
 rintro _ _ ⟨rfl,m2,rfl,q2⟩
 simp -implicitDefEqProofs (disch:=omega)[wrap64]
 refine IteW.mk (fun hlt=>?_) (fun hge=>?_)
 ·simp -implicitDefEqProofs (disch:=omega)[wrap64]
  exact RetK.keep (hk _ _ ⟨rfl,_,rfl,.inl rfl⟩)
 try simp -implicitDefEqProofs (disch:=omega)[wrap64]
 exact RetK.keep (hk _ _ ⟨rfl,_,rfl,.inr (by omega)⟩)
theorem c_eqExprS_of {h:Heap}{a b:Value}{x y:List Exq}(ih:∀z∈x,∀{h:Heap}{a b:Value}{w:Exq},Rep h a z→Rep h b w→CallE Tryd.prog fn_laws_eqExpr [a,b] h (fun v h'=>h'=h∧v=.bool (decide (z=w)))) (Ra:Rep h a x) (Rb:Rep h b y):CallE Tryd.prog fn_laws_eqExprS [a,b] h (fun v h'=>h'=h∧v=.bool (decide (x=y))):=by
 refine CallE.gen fun k hk=>EN_laws_eqExprS rfl ?_
 have hL:=Ra.lt
 simp -implicitDefEqProofs (disch:=first|omega|(simp only[LnZ];omega))[wrap64,Ra.len,Rb.len]
 refine IteW.mkr (fun hne=>?_) (fun heq=>?_)
 ·simp -implicitDefEqProofs (disch:=omega)[wrap64]
  exact RetK.keep (hk _ _ ⟨rfl,by simp;rintro rfl;exact hne rfl⟩)
 simp -implicitDefEqProofs (disch:=omega)[wrap64]
 refine wp_count x.length (fun i e h'=>h'=h∧e=[some a,some b,none,some (.int .i64 i)]∧x.take i=y.take i) ⟨rfl,rfl,rfl⟩ ?_
 rintro J i _ _ hJ hi ⟨rfl,rfl,hxy⟩
 simp -implicitDefEqProofs (disch:=first|omega|(simp only[LnZ];omega))[wrap64,Ra.len]
 refine IteW.mk (fun hlt=>?_) (fun hge=>?_)
 ·have hly:i<y.length:=by omega
  have hlx:i<x.length:=by omega
  obtain⟨u,hu,Ru⟩:=Ra.ld hlx
  obtain⟨w,hw,Rw⟩:=Rb.ld hly
  change hload _ (some (elp 3 a i)) (some 3)=some u at hu
  change hload _ (some (elp 3 b i)) (some 3)=some w at hw
  simp -implicitDefEqProofs (disch:=first|omega|(simp only[LnZ];omega))[wrap64,Ra.X (n:=3) rfl,Rb.X (n:=3) rfl,hu,hw]
  refine (ih _ (List.getElem_mem hlx) Ru Rw).go ?_
  rintro _ _ ⟨rfl,rfl⟩
  simp -implicitDefEqProofs (disch:=omega)[wrap64]
  refine IteW.mkr (fun hne=>?_) (fun heq=>?_)
  ·simp -implicitDefEqProofs (disch:=omega)[wrap64]
   exact RetK.keep (hk _ _ ⟨rfl,by simp;rintro rfl;exact hne rfl⟩)
  simp -implicitDefEqProofs (disch:=omega)[wrap64]
  exact hJ _ _ hlx ⟨rfl,rfl,take_step hxy hlx hly heq⟩
 ·simp -implicitDefEqProofs (disch:=omega)[wrap64]
  refine RetK.keep (hk _ _ ⟨rfl,?_⟩)
  simp
  rw[List.take_of_length_le (by omega),List.take_of_length_le (by omega)] at hxy
  exact hxy
theorem c_eqExpr':∀(x:Exq) {h:Heap}{a b:Value}{y:Exq},Rep h a x→Rep h b y→CallE Tryd.prog fn_laws_eqExpr [a,b] h (fun v h'=>h'=h∧v=.bool (decide (x=y))):=by
 refine Exq.ind fun x ih h a b y Ra Rb=>?_
 obtain⟨w,rfl,k1,k2,R1⟩:=Rep_Exq.1 Ra
 obtain⟨w2,rfl,k3,k4,R2⟩:=Rep_Exq.1 Rb
 refine CallE.gen fun k hk=>EN_laws_eqExpr rfl ?_
 simp -implicitDefEqProofs (disch:=omega)[wrap64]
 refine IteW.mkr (fun h1=>?_) (fun h1=>?_)
 ·simp -implicitDefEqProofs (disch:=omega)[wrap64]
  exact RetK.keep (hk _ _ ⟨rfl,by simp[Exq.ext_iff',h1]⟩)
 simp -implicitDefEqProofs (disch:=omega)[wrap64]
 refine IteW.mkr (fun h2=>?_) (fun h2=>?_)
 ·simp -implicitDefEqProofs (disch:=omega)[wrap64]
  exact RetK.keep (hk _ _ ⟨rfl,by simp[Exq.ext_iff',h2]⟩)
 simp -implicitDefEqProofs (disch:=omega)[wrap64]
 refine (c_eqExprS_of ih R1 R2).go ?_
 rintro _ _ ⟨rfl,rfl⟩
 simp -implicitDefEqProofs (disch:=omega)[wrap64]
 refine IteW.mkr (fun h3=>?_) (fun h3=>?_)
 ·simp -implicitDefEqProofs (disch:=omega)[wrap64]
  exact RetK.keep (hk _ _ ⟨rfl,by simp[Exq.ext_iff',h3]⟩)
 simp -implicitDefEqProofs (disch:=omega)[wrap64]
 exact RetK.keep (hk _ _ ⟨rfl,by simp[Exq.ext_iff',h1,h2,h3]⟩)
theorem c_eqExpr {x:Exq}{h:Heap}{a b:Value}{y:Exq}(Ra:Rep h a x) (Rb:Rep h b y):CallE Tryd.prog fn_laws_eqExpr [a,b] h (fun v h'=>h'=h∧v=.bool (decide (x=y))):=c_eqExpr' x Ra Rb
theorem c_eqEdge {x y:Ed}{h:Heap}{a b:Value}(Ra:Rep h a x) (Rb:Rep h b y):CallE Tryd.prog fn_laws_eqEdge [a,b] h (fun v h'=>h'=h∧v=.bool (decide (x=y))):=by
 obtain⟨w1,w2,rfl,ok,R1,R2⟩:=Rep_Ed.1 Ra
 obtain⟨w3,w4,rfl,ok2,R3,R4⟩:=Rep_Ed.1 Rb
 have G1:Rep h (.agg #[.int .i64 x.guard.kind,.int .i64 x.guard.val,w1]) x.guard:=Rep_Exq.2 ⟨w1,rfl,ok.gk,ok.gv,R1⟩
 have G2:Rep h (.agg #[.int .i64 x.value.kind,.int .i64 x.value.val,w2]) x.value:=Rep_Exq.2 ⟨w2,rfl,ok.vk,ok.vv,R2⟩
 have G3:Rep h (.agg #[.int .i64 y.guard.kind,.int .i64 y.guard.val,w3]) y.guard:=Rep_Exq.2 ⟨w3,rfl,ok2.gk,ok2.gv,R3⟩
 have G4:Rep h (.agg #[.int .i64 y.value.kind,.int .i64 y.value.val,w4]) y.value:=Rep_Exq.2 ⟨w4,rfl,ok2.vk,ok2.vv,R4⟩
 refine CallE.gen fun k hk=>EN_laws_eqEdge rfl ?_
 simp -implicitDefEqProofs (disch:=first|omega|(simp only[LnZ];omega))[wrap64,Ed.cs]
 refine IteW.mkr (fun h1=>?_) (fun h1=>?_)
 ·simp -implicitDefEqProofs (disch:=omega)[wrap64]
  exact RetK.keep (hk _ _ ⟨rfl,by simp[Ed.ext_iff',h1]⟩)
 simp -implicitDefEqProofs (disch:=first|omega|(simp only[LnZ];omega))[wrap64,Ed.cs]
 refine IteW.mkr (fun h2=>?_) (fun h2=>?_)
 ·simp -implicitDefEqProofs (disch:=omega)[wrap64]
  exact RetK.keep (hk _ _ ⟨rfl,by simp[Ed.ext_iff',h2]⟩)
 simp -implicitDefEqProofs (disch:=first|omega|(simp only[LnZ];omega))[wrap64,Ed.cs]
 refine (c_eqExpr G1 G3).go ?_
 rintro _ _ ⟨rfl,rfl⟩
 simp -implicitDefEqProofs (disch:=first|omega|(simp only[LnZ];omega))[wrap64,Ed.cs]
 refine IteW.mkr (fun h3=>?_) (fun h3=>?_)
 ·simp -implicitDefEqProofs (disch:=omega)[wrap64]
  exact RetK.keep (hk _ _ ⟨rfl,by simp[Ed.ext_iff',h3]⟩)
 simp -implicitDefEqProofs (disch:=first|omega|(simp only[LnZ];omega))[wrap64,Ed.cs]
 refine IteW.mkr (fun h4=>?_) (fun h4=>?_)
 ·simp -implicitDefEqProofs (disch:=omega)[wrap64]
  exact RetK.keep (hk _ _ ⟨rfl,by simp[Ed.ext_iff',h4]⟩)
 simp -implicitDefEqProofs (disch:=first|omega|(simp only[LnZ];omega))[wrap64,Ed.cs]
 refine (c_eqExpr G2 G4).go ?_
 rintro _ _ ⟨rfl,rfl⟩
 simp -implicitDefEqProofs (disch:=first|omega|(simp only[LnZ];omega))[wrap64,Ed.cs]
 refine IteW.mkr (fun h5=>?_) (fun h5=>?_)
 ·simp -implicitDefEqProofs (disch:=omega)[wrap64]
  exact RetK.keep (hk _ _ ⟨rfl,by simp[Ed.ext_iff',h5]⟩)
 simp -implicitDefEqProofs (disch:=first|omega|(simp only[LnZ];omega))[wrap64,Ed.cs]
 refine IteW.mkr (fun h6=>?_) (fun h6=>?_)
 ·simp -implicitDefEqProofs (disch:=omega)[wrap64]
  exact RetK.keep (hk _ _ ⟨rfl,by simp[Ed.ext_iff',h6]⟩)
 simp -implicitDefEqProofs (disch:=omega)[wrap64]
 exact RetK.keep (hk _ _ ⟨rfl,by simp[Ed.ext_iff',h1,h2,h3,h4,h5,h6]⟩)
theorem c_eqEdgeS {h:Heap}{a b:Value}{x y:List Ed}(Ra:Rep h a x) (Rb:Rep h b y):CallE Tryd.prog fn_laws_eqEdgeS [a,b] h (fun v h'=>h'=h∧v=.bool (decide (x=y))):=by
 refine CallE.gen fun k hk=>EN_laws_eqEdgeS rfl ?_
 have hL:=Ra.lt
 simp -implicitDefEqProofs (disch:=first|omega|(simp only[LnZ];omega))[wrap64,Ra.len,Rb.len]
 refine IteW.mkr (fun hne=>?_) (fun heq=>?_)
 ·simp -implicitDefEqProofs (disch:=omega)[wrap64]
  exact RetK.keep (hk _ _ ⟨rfl,by simp;rintro rfl;exact hne rfl⟩)
 simp -implicitDefEqProofs (disch:=omega)[wrap64]
 refine wp_count x.length (fun i e h'=>h'=h∧e=[some a,some b,none,some (.int .i64 i)]∧x.take i=y.take i) ⟨rfl,rfl,rfl⟩ ?_
 rintro J i _ _ hJ hi ⟨rfl,rfl,hxy⟩
 simp -implicitDefEqProofs (disch:=first|omega|(simp only[LnZ];omega))[wrap64,Ra.len]
 refine IteW.mk (fun hlt=>?_) (fun hge=>?_)
 ·have hly:i<y.length:=by omega
  have hlx:i<x.length:=by omega
  obtain⟨u,hu,Ru⟩:=Ra.ld hlx
  obtain⟨w,hw,Rw⟩:=Rb.ld hly
  change hload _ (some (elp 10 a i)) (some 10)=some u at hu
  change hload _ (some (elp 10 b i)) (some 10)=some w at hw
  simp -implicitDefEqProofs (disch:=first|omega|(simp only[LnZ];omega))[wrap64,Ra.X (n:=10) rfl,Rb.X (n:=10) rfl,hu,hw]
  refine (c_eqEdge Ru Rw).go ?_
  rintro _ _ ⟨rfl,rfl⟩
  simp -implicitDefEqProofs (disch:=omega)[wrap64]
  refine IteW.mkr (fun hne=>?_) (fun heq=>?_)
  ·simp -implicitDefEqProofs (disch:=omega)[wrap64]
   exact RetK.keep (hk _ _ ⟨rfl,by simp;rintro rfl;exact hne rfl⟩)
  simp -implicitDefEqProofs (disch:=omega)[wrap64]
  exact hJ _ _ hlx ⟨rfl,rfl,take_step hxy hlx hly heq⟩
 ·simp -implicitDefEqProofs (disch:=omega)[wrap64]
  refine RetK.keep (hk _ _ ⟨rfl,?_⟩)
  simp
  rw[List.take_of_length_le (by omega),List.take_of_length_le (by omega)] at hxy
  exact hxy
theorem c_eqProcess {x y:Pr}{h:Heap}{a b:Value}(Ra:Rep h a x) (Rb:Rep h b y):CallE Tryd.prog fn_laws_eqProcess [a,b] h (fun v h'=>h'=h∧v=.bool (decide (x=y))):=by
 obtain⟨w,rfl,k1,R1⟩:=Rep_Pr.1 Ra
 obtain⟨w2,rfl,k3,R2⟩:=Rep_Pr.1 Rb
 refine CallE.gen fun k hk=>EN_laws_eqProcess rfl ?_
 simp -implicitDefEqProofs (disch:=omega)[wrap64]
 refine IteW.mkr (fun h1=>?_) (fun h1=>?_)
 ·simp -implicitDefEqProofs (disch:=omega)[wrap64]
  exact RetK.keep (hk _ _ ⟨rfl,by simp[Pr.ext_iff',h1]⟩)
 simp -implicitDefEqProofs (disch:=omega)[wrap64]
 refine (c_eqEdgeS R1 R2).go ?_
 rintro _ _ ⟨rfl,rfl⟩
 simp -implicitDefEqProofs (disch:=omega)[wrap64]
 refine IteW.mkr (fun h3=>?_) (fun h3=>?_)
 ·simp -implicitDefEqProofs (disch:=omega)[wrap64]
  exact RetK.keep (hk _ _ ⟨rfl,by simp[Pr.ext_iff',h3]⟩)
 simp -implicitDefEqProofs (disch:=omega)[wrap64]
 exact RetK.keep (hk _ _ ⟨rfl,by simp[Pr.ext_iff',h1,h3]⟩)
theorem c_eqProcessS {h:Heap}{a b:Value}{x y:List Pr}(Ra:Rep h a x) (Rb:Rep h b y):CallE Tryd.prog fn_laws_eqProcessS [a,b] h (fun v h'=>h'=h∧v=.bool (decide (x=y))):=by
 refine CallE.gen fun k hk=>EN_laws_eqProcessS rfl ?_
 have hL:=Ra.lt
 simp -implicitDefEqProofs (disch:=first|omega|(simp only[LnZ];omega))[wrap64,Ra.len,Rb.len]
 refine IteW.mkr (fun hne=>?_) (fun heq=>?_)
 ·simp -implicitDefEqProofs (disch:=omega)[wrap64]
  exact RetK.keep (hk _ _ ⟨rfl,by simp;rintro rfl;exact hne rfl⟩)
 simp -implicitDefEqProofs (disch:=omega)[wrap64]
 refine wp_count x.length (fun i e h'=>h'=h∧e=[some a,some b,none,some (.int .i64 i)]∧x.take i=y.take i) ⟨rfl,rfl,rfl⟩ ?_
 rintro J i _ _ hJ hi ⟨rfl,rfl,hxy⟩
 simp -implicitDefEqProofs (disch:=first|omega|(simp only[LnZ];omega))[wrap64,Ra.len]
 refine IteW.mk (fun hlt=>?_) (fun hge=>?_)
 ·have hly:i<y.length:=by omega
  have hlx:i<x.length:=by omega
  obtain⟨u,hu,Ru⟩:=Ra.ld hlx
  obtain⟨w,hw,Rw⟩:=Rb.ld hly
  change hload _ (some (elp 2 a i)) (some 2)=some u at hu
  change hload _ (some (elp 2 b i)) (some 2)=some w at hw
  simp -implicitDefEqProofs (disch:=first|omega|(simp only[LnZ];omega))[wrap64,Ra.X (n:=2) rfl,Rb.X (n:=2) rfl,hu,hw]
  refine (c_eqProcess Ru Rw).go ?_
  rintro _ _ ⟨rfl,rfl⟩
  simp -implicitDefEqProofs (disch:=omega)[wrap64]
  refine IteW.mkr (fun hne=>?_) (fun heq=>?_)
  ·simp -implicitDefEqProofs (disch:=omega)[wrap64]
   exact RetK.keep (hk _ _ ⟨rfl,by simp;rintro rfl;exact hne rfl⟩)
  simp -implicitDefEqProofs (disch:=omega)[wrap64]
  exact hJ _ _ hlx ⟨rfl,rfl,take_step hxy hlx hly heq⟩
 ·simp -implicitDefEqProofs (disch:=omega)[wrap64]
  refine RetK.keep (hk _ _ ⟨rfl,?_⟩)
  simp
  rw[List.take_of_length_le (by omega),List.take_of_length_le (by omega)] at hxy
  exact hxy
theorem c_eqSystem {h:Heap}{a b:Value}{x y:Sy}(Ra:Rep h a x) (Rb:Rep h b y):CallE Tryd.prog fn_laws_eqSystem [a,b] h (fun v h'=>h'=h∧v=.bool (decide (x=y))):=by
 obtain⟨v1,v2,rfl,R1,R2⟩:=Rep_Sy.1 Ra
 obtain⟨w1,w2,rfl,S1,S2⟩:=Rep_Sy.1 Rb
 refine CallE.gen fun k hk=>EN_laws_eqSystem rfl ?_
 simp -implicitDefEqProofs (disch:=omega)[wrap64]
 refine (c_eqIntS R1 S1).go ?_
 rintro _ _ ⟨rfl,rfl⟩
 simp -implicitDefEqProofs (disch:=omega)[wrap64]
 refine IteW.mkr (fun h1=>?_) (fun h1=>?_)
 ·simp -implicitDefEqProofs (disch:=omega)[wrap64]
  exact RetK.keep (hk _ _ ⟨rfl,by simp_all [Sy.ext_iff']⟩)
 simp -implicitDefEqProofs (disch:=omega)[wrap64]
 refine (c_eqProcessS R2 S2).go ?_
 rintro _ _ ⟨rfl,rfl⟩
 simp -implicitDefEqProofs (disch:=omega)[wrap64]
 refine IteW.mkr (fun h2=>?_) (fun h2=>?_)
 ·simp -implicitDefEqProofs (disch:=omega)[wrap64]
  exact RetK.keep (hk _ _ ⟨rfl,by simp_all [Sy.ext_iff']⟩)
 try simp -implicitDefEqProofs (disch:=omega)[wrap64]
 exact RetK.keep (hk _ _ ⟨rfl,by simp_all [Sy.ext_iff']⟩)
theorem c_IndexFunc_int {h:Heap}{a fv:Value}{x:List (Int)}(Ra:Rep h a x) {f:FuncId}{c1 c2:List Value}(hf:fnOf fv=some (f,c1,c2)) (p:(Int)→Bool)
  (hp:∀h1,h.le h1→∀(i:Nat) (hi:i<x.length) (u:Value),Rep h1 u x[i]→CallE Tryd.prog f (c1++u::c2) h1 (fun v h'=>h1.le h'∧v=.bool (p x[i]))) :
  CallE Tryd.prog fn_slices_IndexFunc_S_int_int [a,fv] h (fun v h'=>h.le h'∧v=.int .i64 (match x.findIdx? p with | some i=>(i:Int) | none=>-1)):=by
 refine CallE.gen fun k hk=>EN_slices_IndexFunc_S_int_int rfl ?_
 have hL:=Ra.lt
 simp -implicitDefEqProofs (disch:=first|omega|(simp only[LnZ];omega))[wrap64,Ra.len]
 refine wp_count x.length (fun i e h'=>e=[some a,some fv,none,none,some (.int .i64 x.length),some (.int .i64 i)]∧h.le h'∧∀(j:Nat) (hj:j<x.length),j<i→p x[j]=false) ⟨rfl,Heap.le.refl h,fun j _ hj=>absurd hj (Nat.not_lt_zero j)⟩ ?_
 rintro J i _ h1 hJ hi ⟨rfl,hl,hn⟩
 simp -implicitDefEqProofs (disch:=omega)[wrap64]
 refine IteW.mk (fun hlt=>?_) (fun hge=>?_)
 ·have hlx:i<x.length:=by omega
  obtain⟨u,hu,Ru⟩:=(Ra.le hl).ld hlx
  change hload _ (some (elp 1 a i)) none=some u at hu
  simp -implicitDefEqProofs (disch:=first|omega|(simp only[LnZ];omega))[wrap64,(Ra.le hl).X (n:=1) rfl,hu,hf]
  refine (hp h1 hl i hlx u Ru).go ?_
  rintro _ h2 ⟨hl2,rfl⟩
  simp -implicitDefEqProofs (disch:=omega)[wrap64]
  refine IteW.mk (fun hq=>?_) (fun hq=>?_)
  ·simp -implicitDefEqProofs (disch:=omega)[wrap64]
   refine RetK.keep (hk _ _ ⟨hl.trans hl2,?_⟩)
   have h3:x.findIdx? p=some i:=by
    rw[List.findIdx?_eq_some_iff_getElem]
    exact⟨hlx,hq,fun j hj=>by rw[hn j (by omega) hj];simp⟩
   rw[h3]
  ·simp -implicitDefEqProofs (disch:=omega)[wrap64]
   refine hJ _ _ hlx ⟨rfl,hl.trans hl2,fun j hj hji=>?_⟩
   by_cases hji2:j=i
   ·subst hji2;simpa using hq
   ·exact hn j hj (by omega)
 ·simp -implicitDefEqProofs (disch:=omega)[wrap64]
  refine RetK.keep (hk _ _ ⟨hl,?_⟩)
  have h3:x.findIdx? p=none:=by
   rw[List.findIdx?_eq_none_iff]
   intro y hy
   obtain⟨j,hj,rfl⟩:=List.mem_iff_getElem.1 hy
   exact hn j hj (by omega)
  rw[h3]
theorem c_ContainsFunc_int {h:Heap}{a fv:Value}{x:List (Int)}(Ra:Rep h a x) {f:FuncId}{c1 c2:List Value}(hf:fnOf fv=some (f,c1,c2)) (p:(Int)→Bool)
  (hp:∀h1,h.le h1→∀(i:Nat) (hi:i<x.length) (u:Value),Rep h1 u x[i]→CallE Tryd.prog f (c1++u::c2) h1 (fun v h'=>h1.le h'∧v=.bool (p x[i]))) :
  CallE Tryd.prog fn_slices_ContainsFunc_S_int_int [a,fv] h (fun v h'=>h.le h'∧v=.bool (x.any p)):=by
 refine CallE.gen fun k hk=>EN_slices_ContainsFunc_S_int_int rfl ?_
 simp -implicitDefEqProofs (disch:=omega)[wrap64]
 refine (c_IndexFunc_int Ra hf p hp).go ?_
 rintro _ h1 ⟨hl,rfl⟩
 simp -implicitDefEqProofs (disch:=omega)[wrap64]
 refine RetK.keep (hk _ _ ⟨hl,?_⟩)
 congr 1
 rw[← List.findIdx?_isSome]
 cases x.findIdx? p<;>simp
@[simp] theorem nilcV_ptr {a:Addr}:nilcV (.pointer (some a))=some (.pointer (some a)):=rfl
theorem c_in {h:Heap}{n lo hi:Int}:CallE Tryd.prog fn_impl_in [.int .i64 n,.int .i64 lo,.int .i64 hi] h (fun u h'=>h'=h∧u=.bool (decide (lo≤n∧n≤hi))):=by
 refine CallE.gen fun k hk=>EN_impl_in rfl ?_
 by_cases h1:lo≤n
 ·simp -implicitDefEqProofs (disch:=first|omega|(simp only[LnZ];omega))[wrap64,h1]
  exact RetK.keep (hk _ _ ⟨rfl,by simp[h1]⟩)
 ·simp -implicitDefEqProofs (disch:=first|omega|(simp only[LnZ];omega))[wrap64,h1]
  exact RetK.keep (hk _ _ ⟨rfl,by simp[h1]⟩)
def WalkQ (g:Heap) (Γ:List HP) (b n m:Nat) (x:Exq) (neg:Bool) (v:Value) (h':Heap):Prop:=
 ∃(n':Nat) (ok:Bool),v=.bool (ok != neg)∧HS g (bx b [.int .i64 n']::Γ) h'∧(ok=true↔x.Shp m∧n+x.nod≤15)∧(ok=true→n'=n+x.nod)
theorem c_IndexFunc_walk {g h:Heap}{Γ:List HP}{a fv:Value}{l:List Exq}{b n m:Nat}(Ra:Rep g a l) {f:FuncId}{c1 c2:List Value}(hf:fnOf fv=some (f,c1,c2)) (H:HS g (bx b [.int .i64 n]::Γ) h) (hn:n≤15)
  (hp:∀(i:Nat) (hi:i<l.length) (u:Value) (n:Nat) (h1:Heap),Rep g u l[i]→HS g (bx b [.int .i64 n]::Γ) h1→n≤15→CallE Tryd.prog f (c1++u::c2) h1 (WalkQ g Γ b n m l[i] true)) :
  CallE Tryd.prog fn_slices_IndexFunc_S_impl_Expr_impl_Expr [a,fv] h (fun v h'=>∃(n':Nat) (j:Int),v=.int .i64 j∧HS g (bx b [.int .i64 n']::Γ) h'∧(j<0↔(∀y∈l,y.Shp m)∧n+Exq.nods l≤15)∧(j<0→n'=n+Exq.nods l)):=by
 refine CallE.gen fun k hk=>EN_slices_IndexFunc_S_impl_Expr_impl_Expr rfl ?_
 have hL:=Ra.lt
 simp -implicitDefEqProofs (disch:=first|omega|(simp only[LnZ];omega))[wrap64,Ra.len]
 refine wp_count l.length (fun i e h'=>e=[some a,some fv,none,none,some (.int .i64 l.length),some (.int .i64 i)]∧HS g (bx b [.int .i64 ((n+Exq.nods (l.take i):Nat):Int)]::Γ) h'∧n+Exq.nods (l.take i)≤15∧∀(j:Nat) (hj:j<l.length),j<i→l[j].Shp m) ⟨rfl,by simpa[Exq.nods] using H,by simpa[Exq.nods] using hn,fun j _ hj=>absurd hj (Nat.not_lt_zero j)⟩ ?_
 clear H
 rintro J i _ h1 hJ hi ⟨rfl,H,hle,hall⟩
 simp -implicitDefEqProofs (disch:=omega)[wrap64]
 refine IteW.mk (fun hlt=>?_) (fun hge=>?_)
 ·have hlx:i<l.length:=by omega
  have hnt:=Exq.nods_take hlx
  have hnl:=Exq.nods_le l (i+1)
  obtain⟨u,hu,Ru⟩:=Ra.ld hlx
  have hu2:=hload_le H.base hu
  change hload _ (some (elp 3 a i)) (some 3)=some u at hu2
  simp -implicitDefEqProofs (disch:=first|omega|(simp only[LnZ];omega))[wrap64,Ra.X (n:=3) rfl,hu2,hf]
  refine (hp i hlx u _ h1 Ru H hle).go ?_
  rintro _ h2 ⟨n',ok,rfl,H,hok,hn'⟩
  simp -implicitDefEqProofs (disch:=omega)[wrap64]
  refine IteW.mk (fun hq=>?_) (fun hq=>?_)
  ·simp -implicitDefEqProofs (disch:=omega)[wrap64]
   refine RetK.keep (hk _ _ ⟨n',_,rfl,H,⟨fun hh=>absurd hh (by omega),fun ⟨e1,e2⟩=>?_⟩,fun hh=>absurd hh (by omega)⟩)
   have:ok=true:=hok.2 ⟨e1 _ (List.getElem_mem hlx),by omega⟩
   rw[this] at hq
   simp at hq
  ·have hok1:ok=true:=by simpa using hq
   have e1:=hok.1 hok1
   have e2:=hn' hok1
   subst e2
   simp -implicitDefEqProofs (disch:=omega)[wrap64]
   refine hJ _ _ hlx ⟨rfl,?_,by omega,fun j hj hji=>?_⟩
   ·rw[hnt,← Nat.add_assoc];exact H
   ·by_cases hji2:j=i
    ·subst hji2;exact e1.1
    ·exact hall j hj (by omega)
 ·simp -implicitDefEqProofs (disch:=omega)[wrap64]
  rw[List.take_of_length_le (by omega)] at H hle
  refine RetK.keep (hk _ _ ⟨_,_,rfl,H,⟨fun _=>⟨fun y hy=>?_,hle⟩,fun _=>by omega⟩,fun _=>rfl⟩)
  obtain⟨j,hj,rfl⟩:=List.mem_iff_getElem.1 hy
  exact hall j hj (by omega)
theorem c_ContainsFunc_walk {g h:Heap}{Γ:List HP}{a fv:Value}{l:List Exq}{b n m:Nat}(Ra:Rep g a l) {f:FuncId}{c1 c2:List Value}(hf:fnOf fv=some (f,c1,c2)) (H:HS g (bx b [.int .i64 n]::Γ) h) (hn:n≤15)
  (hp:∀(i:Nat) (hi:i<l.length) (u:Value) (n:Nat) (h1:Heap),Rep g u l[i]→HS g (bx b [.int .i64 n]::Γ) h1→n≤15→CallE Tryd.prog f (c1++u::c2) h1 (WalkQ g Γ b n m l[i] true)) :
  CallE Tryd.prog fn_slices_ContainsFunc_S_impl_Expr_impl_Expr [a,fv] h (fun v h'=>∃(n':Nat) (ok:Bool),v=.bool (!ok)∧HS g (bx b [.int .i64 n']::Γ) h'∧(ok=true↔(∀y∈l,y.Shp m)∧n+Exq.nods l≤15)∧(ok=true→n'=n+Exq.nods l)):=by
 refine CallE.gen fun k hk=>EN_slices_ContainsFunc_S_impl_Expr_impl_Expr rfl ?_
 simp -implicitDefEqProofs (disch:=omega)[wrap64]
 refine (c_IndexFunc_walk Ra hf H hn hp).go ?_
 rintro _ h1 ⟨n',j,rfl,H,hj,hn'⟩
 simp -implicitDefEqProofs (disch:=omega)[wrap64]
 refine RetK.keep (hk _ _ ⟨n',decide (j<0),?_,H,by rw[decide_eq_true_iff];exact hj,by rw[decide_eq_true_iff];exact hn'⟩)
 congr 1
 by_cases e:j<0
 ·simp[e]
 ·simp[e];omega
theorem c_walk:∀(x:Exq) {g h:Heap}{Γ:List HP}{v:Value}{b n d:Nat}{dv:Int},dv=d→Rep g v x→HS g (bx b [.int .i64 n]::Γ) h→n≤15→1≤d→d≤7 →
  CallE Tryd.prog fn_impl_Expr_walk [v,.int .i64 dv,.pointer (some ⟨b,0,none⟩)] h (WalkQ g Γ b n (7-d) x false):=by
 refine Exq.ind fun x ih g h Γ v b n d dv hdv R H hn hd1 hd7=>?_
 obtain⟨w,rfl,k1,k2,R1⟩:=Rep_Exq.1 R
 have hnod:=x.nod_eq
 have hkl:=R1.lt
 obtain⟨ln,hln⟩:∃ln:Int,ln=x.kids.length:=⟨_,rfl⟩
 have hlen:=R1.len
 rw[← hln] at hlen
 refine CallE.gen fun k hk=>EN_impl_Expr_walk rfl ?_
 simp -implicitDefEqProofs (disch:=omega)[wrap64]
 refine H.alloc rfl fun b4 h1 H=>?_
 simp -implicitDefEqProofs (disch:=omega)[wrap64]
 refine H.alloc rfl fun b5 h2 H=>?_
 simp only[cells_int,cells_pointer] at H
 simp -implicitDefEqProofs (disch:=first|omega|(simp only[LnZ];omega))[wrap64,H.bxld0,H.sw2.bxld0]
 refine HS.bxst (o:=0) (sz:=1) (u:=.int .i64 ((n:Int)+1)) H.sw2 rfl rfl rfl rfl (by simp) fun h3 H=>?_
 have H:HS g (bx b [.int .i64 ((n+1:Nat):Int)]::bx b5 [.pointer (some ⟨b,0,none⟩)]::bx b4 [.int .i64 dv]::Γ) h3:=H
 -- what is wanted where it fails
 have hno:¬(x.Shp (7-d)∧n+x.nod≤15)→k (.bool false) h3:=fun hh=>hk _ _ ⟨_,false,rfl,H.sw1.drop.sw1.drop,⟨fun e=>by simp at e,fun e=>absurd e hh⟩,fun e=>by simp at e⟩
 -- and where the operands were asked
 have hfin:x.Nd→d≤6→∀{h4:Heap}{n':Nat}{ok:Bool},(ok=true↔(∀y∈x.kids,y.Shp (6-d))∧n+1+Exq.nods x.kids≤15)→(ok=true→n'=n+1+Exq.nods x.kids) →
   HS g (bx b [.int .i64 n']::bx b5 [.pointer (some ⟨b,0,none⟩)]::bx b4 [.int .i64 dv]::Γ) h4→k (.bool ok) h4:=by
  intro hnd hd6 h4 n' ok g1 g2 H4
  refine hk _ _ ⟨n',ok,by simp,H4.sw1.drop.sw1.drop,?_,fun e=>by have:=g2 e;omega⟩
  rw[g1,show 7-d=(6-d)+1 by omega]
  exact⟨fun ⟨h5,h6⟩=>⟨⟨hnd,h5⟩,by omega⟩,fun ⟨h5,h6⟩=>⟨h5.2,by omega⟩⟩
 -- an operand
 have hkid:d≤6→∀(i:Nat) (hi:i<x.kids.length) (u:Value) (n:Nat) (h1:Heap),Rep g u x.kids[i]→HS g (bx b [.int .i64 n]::bx b5 [.pointer (some ⟨b,0,none⟩)]::bx b4 [.int .i64 dv]::Γ) h1→n≤15 →
   CallE Tryd.prog fn_impl_Expr_walk_1 ([]++u::[.pointer (some ⟨b4,0,none⟩),.pointer (some ⟨b5,0,none⟩)]) h1 (WalkQ g (bx b5 [.pointer (some ⟨b,0,none⟩)]::bx b4 [.int .i64 dv]::Γ) b n (6-d) x.kids[i] true):=by
  intro hd6 i hi u n h1 Ru H hn
  refine CallE.gen fun k hk=>EN_impl_Expr_walk_1 rfl ?_
  have Fu:=Ru.aExq
  simp -implicitDefEqProofs (disch:=first|omega|(simp only[LnZ];omega))[wrap64,Fu,H.sw2.bxld0,H.sw1.bxld0]
  refine (ih _ (List.getElem_mem hi) (d:=d+1) (dv:=dv+1) (by omega) Ru H hn (by omega) (by omega)).go ?_
  rintro _ h2 ⟨n',ok,rfl,H,g1,g2⟩
  rw[show 7-(d+1)=6-d by omega] at g1
  simp -implicitDefEqProofs (disch:=omega)[wrap64]
  exact RetK.keep (hk _ _ ⟨n',ok,by simp,H,g1,g2⟩)
 by_cases c1:x.kind=1
 ·revert hno hfin
  intro hno hfin
  by_cases e1:(6:Int)<dv
  ·simp -implicitDefEqProofs (disch:=first|omega|(simp only[LnZ];omega))[wrap64,c1,H.bxld0,H.sw1.bxld0,H.sw2.bxld0,e1]
   exact RetK.keep (hno fun hh=>by have:=hh.1;rw[show 7-d=0 by omega] at this;exact this)
  by_cases e2:(15:Int)<(n:Int)+1
  ·simp -implicitDefEqProofs (disch:=first|omega|(simp only[LnZ];omega))[wrap64,c1,H.bxld0,H.sw1.bxld0,H.sw2.bxld0,e1,e2]
   exact RetK.keep (hno fun hh=>by have:=hh.2;omega)
  simp -implicitDefEqProofs (disch:=first|omega|(simp only[LnZ];omega))[wrap64,c1,H.bxld0,H.sw1.bxld0,H.sw2.bxld0,e1,e2]
  refine c_in.go ?_
  rintro _ _ ⟨rfl,rfl⟩
  have e3:1≤x.kind∧x.kind≤9:=by omega
  have e6:=e3
  simp -implicitDefEqProofs (disch:=first|omega|(simp only[LnZ];omega))[wrap64,c1,e3]
  refine c_in.go ?_
  rintro _ _ ⟨rfl,rfl⟩
  by_cases e4:0≤x.val∧x.val≤3
  case neg=>
   simp -implicitDefEqProofs (disch:=first|omega|(simp only[LnZ];omega))[wrap64,c1,e4]
   exact RetK.keep (hno fun hh=>e4 ⟨hh.1.nd.lo,by have:=hh.1.nd.hi;simpa[Exq.most,c1] using this⟩)
  simp -implicitDefEqProofs (disch:=first|omega|(simp only[LnZ];omega))[wrap64,c1,e4,hlen]
  by_cases e5:ln=0
  case neg=>
   simp -implicitDefEqProofs (disch:=first|omega|(simp only[LnZ];omega))[wrap64,c1,e5,hlen]
   exact RetK.keep (hno fun hh=>e5 (by have:=hh.1.nd.ar;rw[← hln] at this;simpa[Exq.arity,c1,e3,e6] using this))
  simp -implicitDefEqProofs (disch:=first|omega|(simp only[LnZ];omega))[wrap64,c1,e5,hlen]
  refine (c_ContainsFunc_walk (m:=6-d) R1 (c1:=[]) (c2:=[.pointer (some ⟨b4,0,none⟩),.pointer (some ⟨b5,0,none⟩)]) rfl H (by omega) (hkid (by omega))).go ?_
  rintro _ h4 ⟨n',ok,rfl,H4,g1,g2⟩
  simp -implicitDefEqProofs (disch:=omega)[wrap64]
  exact RetK.keep (hfin ⟨by rw[← hln];simp only[Exq.arity,c1];simpa[e3,e6] using e5,e4.1,by simp only[Exq.most,c1];simpa using e4.2⟩ (by omega) g1 g2 H4)
 by_cases c2:x.kind=2
 ·revert hno hfin
  intro hno hfin
  by_cases e1:(6:Int)<dv
  ·simp -implicitDefEqProofs (disch:=first|omega|(simp only[LnZ];omega))[wrap64,c1,c2,H.bxld0,H.sw1.bxld0,H.sw2.bxld0,e1]
   exact RetK.keep (hno fun hh=>by have:=hh.1;rw[show 7-d=0 by omega] at this;exact this)
  by_cases e2:(15:Int)<(n:Int)+1
  ·simp -implicitDefEqProofs (disch:=first|omega|(simp only[LnZ];omega))[wrap64,c1,c2,H.bxld0,H.sw1.bxld0,H.sw2.bxld0,e1,e2]
   exact RetK.keep (hno fun hh=>by have:=hh.2;omega)
  simp -implicitDefEqProofs (disch:=first|omega|(simp only[LnZ];omega))[wrap64,c1,c2,H.bxld0,H.sw1.bxld0,H.sw2.bxld0,e1,e2]
  refine c_in.go ?_
  rintro _ _ ⟨rfl,rfl⟩
  have e3:1≤x.kind∧x.kind≤9:=by omega
  have e6:=e3
  simp -implicitDefEqProofs (disch:=first|omega|(simp only[LnZ];omega))[wrap64,c1,c2,e3]
  refine c_in.go ?_
  rintro _ _ ⟨rfl,rfl⟩
  by_cases e4:0≤x.val∧x.val≤2
  case neg=>
   simp -implicitDefEqProofs (disch:=first|omega|(simp only[LnZ];omega))[wrap64,c1,c2,e4]
   exact RetK.keep (hno fun hh=>e4 ⟨hh.1.nd.lo,by have:=hh.1.nd.hi;simpa[Exq.most,c1,c2] using this⟩)
  simp -implicitDefEqProofs (disch:=first|omega|(simp only[LnZ];omega))[wrap64,c1,c2,e4,hlen]
  by_cases e5:ln=0
  case neg=>
   simp -implicitDefEqProofs (disch:=first|omega|(simp only[LnZ];omega))[wrap64,c1,c2,e5,hlen]
   exact RetK.keep (hno fun hh=>e5 (by have:=hh.1.nd.ar;rw[← hln] at this;simpa[Exq.arity,c1,c2,e3,e6] using this))
  simp -implicitDefEqProofs (disch:=first|omega|(simp only[LnZ];omega))[wrap64,c1,c2,e5,hlen]
  refine (c_ContainsFunc_walk (m:=6-d) R1 (c1:=[]) (c2:=[.pointer (some ⟨b4,0,none⟩),.pointer (some ⟨b5,0,none⟩)]) rfl H (by omega) (hkid (by omega))).go ?_
  rintro _ h4 ⟨n',ok,rfl,H4,g1,g2⟩
  simp -implicitDefEqProofs (disch:=omega)[wrap64]
  exact RetK.keep (hfin ⟨by rw[← hln];simp only[Exq.arity,c1,c2];simpa[e3,e6] using e5,e4.1,by simp only[Exq.most,c1,c2];simpa using e4.2⟩ (by omega) g1 g2 H4)
 by_cases c3:x.kind=3
 ·revert hno hfin
  intro hno hfin
  by_cases e1:(6:Int)<dv
  ·simp -implicitDefEqProofs (disch:=first|omega|(simp only[LnZ];omega))[wrap64,c1,c2,c3,H.bxld0,H.sw1.bxld0,H.sw2.bxld0,e1]
   exact RetK.keep (hno fun hh=>by have:=hh.1;rw[show 7-d=0 by omega] at this;exact this)
  by_cases e2:(15:Int)<(n:Int)+1
  ·simp -implicitDefEqProofs (disch:=first|omega|(simp only[LnZ];omega))[wrap64,c1,c2,c3,H.bxld0,H.sw1.bxld0,H.sw2.bxld0,e1,e2]
   exact RetK.keep (hno fun hh=>by have:=hh.2;omega)
  simp -implicitDefEqProofs (disch:=first|omega|(simp only[LnZ];omega))[wrap64,c1,c2,c3,H.bxld0,H.sw1.bxld0,H.sw2.bxld0,e1,e2]
  refine c_in.go ?_
  rintro _ _ ⟨rfl,rfl⟩
  have e3:1≤x.kind∧x.kind≤9:=by omega
  have e6:=e3
  simp -implicitDefEqProofs (disch:=first|omega|(simp only[LnZ];omega))[wrap64,c1,c2,c3,e3]
  refine c_in.go ?_
  rintro _ _ ⟨rfl,rfl⟩
  by_cases e4:0≤x.val∧x.val≤0
  case neg=>
   simp -implicitDefEqProofs (disch:=first|omega|(simp only[LnZ];omega))[wrap64,c1,c2,c3,e4]
   exact RetK.keep (hno fun hh=>e4 ⟨hh.1.nd.lo,by have:=hh.1.nd.hi;simpa[Exq.most,c1,c2,c3] using this⟩)
  simp -implicitDefEqProofs (disch:=first|omega|(simp only[LnZ];omega))[wrap64,c1,c2,c3,e4,hlen]
  by_cases e5:ln=1
  case neg=>
   simp -implicitDefEqProofs (disch:=first|omega|(simp only[LnZ];omega))[wrap64,c1,c2,c3,e5,hlen]
   exact RetK.keep (hno fun hh=>e5 (by have:=hh.1.nd.ar;rw[← hln] at this;simpa[Exq.arity,c1,c2,c3,e3,e6] using this))
  simp -implicitDefEqProofs (disch:=first|omega|(simp only[LnZ];omega))[wrap64,c1,c2,c3,e5,hlen]
  refine (c_ContainsFunc_walk (m:=6-d) R1 (c1:=[]) (c2:=[.pointer (some ⟨b4,0,none⟩),.pointer (some ⟨b5,0,none⟩)]) rfl H (by omega) (hkid (by omega))).go ?_
  rintro _ h4 ⟨n',ok,rfl,H4,g1,g2⟩
  simp -implicitDefEqProofs (disch:=omega)[wrap64]
  exact RetK.keep (hfin ⟨by rw[← hln];simp only[Exq.arity,c1,c2,c3];simpa[e3,e6] using e5,e4.1,by simp only[Exq.most,c1,c2,c3];simpa using e4.2⟩ (by omega) g1 g2 H4)
 by_cases e1:(6:Int)<dv
 ·simp -implicitDefEqProofs (disch:=first|omega|(simp only[LnZ];omega))[wrap64,c1,c2,c3,H.bxld0,H.sw1.bxld0,H.sw2.bxld0,e1]
  exact RetK.keep (hno fun hh=>by have:=hh.1;rw[show 7-d=0 by omega] at this;exact this)
 by_cases e2:(15:Int)<(n:Int)+1
 ·simp -implicitDefEqProofs (disch:=first|omega|(simp only[LnZ];omega))[wrap64,c1,c2,c3,H.bxld0,H.sw1.bxld0,H.sw2.bxld0,e1,e2]
  exact RetK.keep (hno fun hh=>by have:=hh.2;omega)
 simp -implicitDefEqProofs (disch:=first|omega|(simp only[LnZ];omega))[wrap64,c1,c2,c3,H.bxld0,H.sw1.bxld0,H.sw2.bxld0,e1,e2]
 refine c_in.go ?_
 rintro _ _ ⟨rfl,rfl⟩
 by_cases e3:1≤x.kind∧x.kind≤9
 case neg=>
  simp -implicitDefEqProofs (disch:=first|omega|(simp only[LnZ];omega))[wrap64,c1,c2,c3,e3]
  exact RetK.keep (hno fun hh=>e3 hh.1.nd.kind)
 have e6:4≤x.kind:=by omega
 simp -implicitDefEqProofs (disch:=first|omega|(simp only[LnZ];omega))[wrap64,c1,c2,c3,e3]
 refine c_in.go ?_
 rintro _ _ ⟨rfl,rfl⟩
 by_cases e4:0≤x.val∧x.val≤0
 case neg=>
  simp -implicitDefEqProofs (disch:=first|omega|(simp only[LnZ];omega))[wrap64,c1,c2,c3,e4]
  exact RetK.keep (hno fun hh=>e4 ⟨hh.1.nd.lo,by have:=hh.1.nd.hi;simpa[Exq.most,c1,c2,c3] using this⟩)
 simp -implicitDefEqProofs (disch:=first|omega|(simp only[LnZ];omega))[wrap64,c1,c2,c3,e4,hlen]
 by_cases e5:ln=2
 case neg=>
  simp -implicitDefEqProofs (disch:=first|omega|(simp only[LnZ];omega))[wrap64,c1,c2,c3,e5,hlen]
  exact RetK.keep (hno fun hh=>e5 (by have:=hh.1.nd.ar;rw[← hln] at this;simpa[Exq.arity,c1,c2,c3,e3,e6] using this))
 simp -implicitDefEqProofs (disch:=first|omega|(simp only[LnZ];omega))[wrap64,c1,c2,c3,e5,hlen]
 refine (c_ContainsFunc_walk (m:=6-d) R1 (c1:=[]) (c2:=[.pointer (some ⟨b4,0,none⟩),.pointer (some ⟨b5,0,none⟩)]) rfl H (by omega) (hkid (by omega))).go ?_
 rintro _ h4 ⟨n',ok,rfl,H4,g1,g2⟩
 simp -implicitDefEqProofs (disch:=omega)[wrap64]
 exact RetK.keep (hfin ⟨by rw[← hln];simp only[Exq.arity,c1,c2,c3];simpa[e3,e6] using e5,e4.1,by simp only[Exq.most,c1,c2,c3];simpa using e4.2⟩ (by omega) g1 g2 H4)
end Go.Proofs.YtjbjnicobdpdhaaDoor
