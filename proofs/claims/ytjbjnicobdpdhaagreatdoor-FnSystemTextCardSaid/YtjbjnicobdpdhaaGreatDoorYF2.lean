/-
  Texts of this proof, one behind the other.
-/
import Derived.Test.YtjbjnicobdpdhaaGreatDoorYF1
set_option linter.all false
set_option linter.unusedVariables false
set_option linter.unusedSimpArgs false
set_option linter.defProp false
set_option maxRecDepth 1000000
namespace Go.Proofs.YtjbjnicobdpdhaaGreatDoor
open Go
universe u
section
variable {P:Program}{base:Nat}{lay:Lay}{L:Nat→Prop}{e:Env}{h:Heap}{w:World}{a:Act}
def Wr (lay:Lay) (o:Oper) (i:Nat):Prop:=∃t k,o.dst=some t∧lfind lay t=some (i,k)
theorem St.weaken (S:St base lay L e h w a) {L':Nat→Prop}(hL:∀i,L' i→L i):St base lay L' e h w a:=by
 obtain⟨blk,h1,h2⟩:=S.cov
 exact⟨⟨blk,fun i t k hi hl=>h1 i t k hi (hL i hl),fun i j hi hj=>h2 i j (hL i hi) (hL j hj)⟩,S.sub,S.sz,S.low,S.len⟩
theorem wr_cdst {o:Oper}{d:Option Nat}(hd:cdst lay o.dst=some d) {i:Nat}(hi:Wr lay o i):d=some i:=by
 obtain⟨t,k,h1,h2⟩:=hi
 rw[h1] at hd
 simp only[cdst,Option.map_eq_some_iff] at hd
 obtain⟨p,hp,rfl⟩:=hd
 have:=plainAt_spec hp
 rw[h2] at this
 simp at this
 simp[this.1]
theorem St.value2 (hd:Dist lay) (S:St base lay L e h w a) {h':Heap}{w':World}(hs:h'.sub w') (f:Frm h w h' w') {o:Oper}{d:Option Nat}(hdst:cdst lay o.dst=some d) (v:Value) :
  St base lay (fun i=>L i∨Wr lay o i) (dput d (some v) e) h' w' (a.put o.dst v):=
 (S.value hd hs f hdst v).weaken fun i hi=>hi.imp id (wr_cdst hdst)
theorem priv_val {blk:Nat→Nat}(hcov:∀(i t:Nat) (k:Knd),lay[i]? = some (t,k)→L i→Cov base e h w a.eval blk i t k) {o:Oper}(hL:OpL lay L o) {x:Operand}(hx:x∈o.op.operands) {c:Option Nat}{i off:Nat}
  (hp:priv lay x=some (c,i,off)) (hc:aok e c=true) {v:Value}(hv:eget e i=some v) :
  ∃t,a.eval x=.pointer (some ⟨blk i,off,none⟩)∧Blk w h base (blk i) v.cells∧lay[i]? = some (t,.bx)∧L i:=by
 cases x with
 | tmp t=>
  simp only[priv] at hp
  split at hp
  ·rename_i j hj
   simp only[Option.some.injEq,Prod.mk.injEq] at hp
   obtain⟨rfl,rfl,rfl⟩:=hp
   have hl:=(hL t hx j .bx hj).1
   have:=hcov j t .bx (lfind_spec hj) hl v hv
   exact⟨t,this.1,this.2,lfind_spec hj,hl⟩
  ·rename_i p j off' hj
   split at hp
   ·rename_i t' ht'
    simp only[Option.some.injEq,Prod.mk.injEq] at hp
    obtain⟨rfl,rfl,rfl⟩:=hp
    obtain⟨hl,hl2⟩:=hL t hx p _ hj
    have hl2:=hl2 j off' rfl
    have h1:=hcov p t _ (lfind_spec hj) hl
    have h2:=hcov j t' .bx ht' hl2 v hv
    refine⟨t',h1 ?_,h2.2,ht',hl2⟩
    simp only[aok] at hc
    split at hc
    ·rename_i b hb;subst hc;exact hb
    ·simp at hc
   ·simp at hp
  ·simp at hp
 | const v=>simp[priv] at hp
 | global g=>simp[priv] at hp
 | func f=>simp[priv] at hp
theorem pgetV_run {b off:Nat}{v r:Value}{t:TypeId}{s:Option Nat}(ht:szT P t=some s) (hb:∃el,w.heap[b]? = some (.cells v.cells el (0,0))) (hv:pgetV (some v) off s=some r) :
  (Instr.loadAt t (.pointer (some ⟨b,off,none⟩))).run P w=.ok r w:=by
 obtain⟨el,hb⟩:=hb
 have hcell:∀j u,v.cells.toList[j]? = some u→w.cell? ⟨b,j,none⟩=some u:=by
  intro j u hj
  have:v.cells[j]? = some u:=by simpa using hj
  simp[World.cell?,hb,this]
 have hsz:=szT_spec ht
 cases s with
 | none=>
  simp only[pgetV] at hv
  simp only[Instr.loadAt,Instr.sureAddr,loadVar,Sem.run_bind,Sem.run_pure,Result.andThen_ok,hsz w,Bool.false_eq_true,if_false,run_load,hcell _ _ hv]
 | some n=>
  simp only at hsz
  have key:∀l:List Value,l=(v.cells.toList.drop off).take n→l.length=n→(Instr.loadAt t (.pointer (some ⟨b,off,none⟩))).run P w=.ok (.agg l.toArray) w:=by
   intro l hl hn
   have hload:=run_loadCells_list (P:=P) w ⟨b,off,none⟩ l (fun j u hj=>by
    rw[addr_add0]
    apply hcell
    subst hl
    rw[List.getElem?_take] at hj
    split at hj
    ·rw[List.getElem?_drop] at hj;exact hj
    ·simp at hj)
   rw[hn] at hload
   simp only[Instr.loadAt,Instr.sureAddr,loadVar,Sem.run_bind,Sem.run_pure,Result.andThen_ok,hsz.1 w,hsz.2 w,if_true,hload]
  simp only[pgetV] at hv
  split at hv
  ·rename_i hc
   obtain⟨rfl,hc⟩:=hc
   simp only[Option.some.injEq] at hv
   subst hv
   have:=key v.cells.toList (by rw[List.drop_zero,List.take_of_length_le (by simp[hc])]) (by simpa using hc)
   simpa using this
  ·simp only[partV] at hv
   split at hv
   ·rename_i hle
    simp only[Option.some.injEq] at hv
    subst hv
    exact key _ rfl (by simp at hle ⊢;omega)
   ·simp at hv
theorem psetV_spec {v x r:Value}{off sz:Nat}(hv:psetV (some v) off sz (some x)=some r) :
  x.cells.size=sz∧off+sz≤v.cells.size∧(∀u∈x.cells.toList,u.oneCell'=true)∧r.cells=(setC v.cells.toList off x.cells.toList).toArray:=by
 simp only[psetV] at hv
 split at hv
 ·rename_i hc
  obtain⟨h1,h2,h3⟩:=hc
  refine⟨h1,h2,fun u hu=>List.all_eq_true.1 h3 u hu,?_⟩
  split at hv
  ·rename_i c
   simp only[Option.some.injEq] at hv
   subst hv
   split
   ·rename_i hh
    obtain⟨rfl,rfl⟩:=hh
    simp only[Value.cells] at *
    apply Array.ext'
    simp[setC,h1]
   ·simp[Value.cells]
  ·rename_i hna
   split at hv
   ·rename_i hs1
    subst hs1
    have hvc:v.cells = #[v]:=by
     cases v<;>first | rfl | exact absurd rfl (hna _)
    rw[hvc] at h2 ⊢
    simp at h2
    subst h2
    have hx1:∃u,x.cells = #[u]:=by
     cases hx:x.cells with
     | mk l=>
      cases l with
      | nil=>simp[hx] at h1
      | cons u l=>
       cases l with
       | nil=>exact⟨u,rfl⟩
       | cons _ _=>simp[hx] at h1
    obtain⟨u,hu⟩:=hx1
    rw[hu] at hv h3 ⊢
    simp at hv
    subst hv
    have hu1:u.oneCell'=true:=by simpa using h3
    have:u.cells = #[u]:=by cases u<;>first | rfl | simp[Value.oneCell'] at hu1
    rw[this]
    simp[setC]
   ·simp at hv
 ·simp at hv
theorem setRow_sub {b:Nat}{cs:Array Value}(hs:h.sub w) (hb:h b=none):h.sub (w.setRow b cs):=by
 intro b' o hb'
 have hne:b'≠b:=fun he=>by subst he;rw[hb] at hb';simp at hb'
 rw[setRow_other w b b' _ hne]
 exact hs _ _ hb'
theorem St.pset (S:St base lay L e h w a) {blk:Nat→Nat}(hcov:∀(i t:Nat) (k:Knd),lay[i]? = some (t,k)→L i→Cov base e h w a.eval blk i t k)
  (hinj:∀i j,L i→L j→Act' lay e i→Act' lay e j→i≠j→blk i≠blk j) {i t0:Nat}(hi:lay[i]? = some (t0,.bx)) (hL:L i) {v r:Value}(hv:eget e i=some v) :
  St base lay L (eset e i (some r)) h (w.setRow (blk i) r.cells) a∧FrB base h w h (w.setRow (blk i) r.cells):=by
 obtain⟨h1,⟨el,h2⟩,h3,h4⟩:=hcov i t0 .bx hi hL v hv
 have hown:∀x,Act' lay (eset e i (some r)) x→Act' lay e x:=by
  rintro x ⟨t,k,u,g1,g2,g3⟩
  by_cases hx:i=x
  ·subst hx;exact⟨t,k,v,g1,g2,hv⟩
  ·exact⟨t,k,u,g1,g2,by rwa [eget_eset_ne _ _ _ _ hx] at g3⟩
 refine⟨⟨⟨blk,?_,?_⟩,setRow_sub S.sub h3,S.sz,by simpa using S.low,by simpa[eset_length] using S.len⟩,⟨rfl,rfl,rfl,by simp,?_,fun _ _ hb=>hb⟩⟩
 ·intro j t k hj hl
  by_cases hij:i=j
  ·subst hij
   rw[hi] at hj
   simp only[Option.some.injEq,Prod.mk.injEq] at hj
   obtain⟨rfl,rfl⟩:=hj
   intro u hu
   refine⟨h1,?_⟩
   rcases eget_eset_same e i (some r) with g | g
   ·rw[g] at hu
    simp only[Option.some.injEq] at hu
    subst hu
    exact⟨⟨el,setRow_heap w (blk i) v.cells r.cells el (0,0) h2⟩,h3,h4⟩
   ·rw[g] at hu;simp at hu
  ·refine (hcov j t k hj hl).keep (.inl (eget_eset_ne _ _ _ _ hij)) rfl rfl (fun _ _ _=>.inr rfl) ?_
   intro c hk hex hb
   obtain⟨⟨el',g1⟩,g2,g3⟩:=hb
   have hne:blk j≠blk i:=by
    obtain⟨u,hu⟩:=hex
    exact fun he=>hinj i j hL hl ⟨t0,.bx,v,hi,rfl,hv⟩ ⟨t,k,u,hj,hk,hu⟩ hij he.symm
   exact⟨⟨el',by rw[setRow_other w (blk i) _ _ hne];exact g1⟩,g2,g3⟩
 ·intro x y hx hy ax ay hxy
  exact hinj x y hx hy (hown x ax) (hown y ay) hxy
 ·intro b hb hn
  exact setRow_other w (blk i) b _ (by omega)
theorem St.fresh (hd:Dist lay) (S:St base lay L e h w a) {i t0:Nat}{k0:Knd}(hi:lfind lay t0=some (i,k0)) (hk0:isOwn k0=true) {v:Value}{c:Array Value}{el:TypeId}{cl:List Nat}{u:Value}
  (hal:∀(p t off:Nat),lay[p]? = some (t,.al i off)→p∈cl) (hcl:∀p∈cl,p≠i)
  (hval:match k0 with | .bx=>u=.pointer (some ⟨w.heap.size,0,none⟩)∧c=v.cells | .ps n=>u=.slice (some ⟨w.heap.size,0,none⟩) n n∧v=.agg c | _=>False) {o:Oper}(ho:o.dst=some t0) :
  St base lay (fun j=>L j∨Wr lay o j) (efgt (eset e i (some v)) cl) h (w.alloc (.cells c el (0,0))) (a.put o.dst u)∧FrB base h w h (w.alloc (.cells c el (0,0))):=by
 obtain⟨blk,hcov,hinj⟩:=S.cov
 have hi':=lfind_spec hi
 have hsub:h.sub (w.alloc (.cells c el (0,0))):=by
  intro b o' hb
  have:=S.sub _ _ hb
  rw[alloc_old w _ (Array.getElem?_eq_some_iff.1 this).1]
  exact this
 have hold:∀b c',Blk w h base b c'→Blk (w.alloc (.cells c el (0,0))) h base b c'∧b≠w.heap.size:=by
  rintro b c' ⟨⟨el',g1⟩,g2,g3⟩
  have hlt:=(Array.getElem?_eq_some_iff.1 g1).1
  exact⟨⟨⟨el',by rw[alloc_old w _ hlt];exact g1⟩,g2,g3⟩,by omega⟩
 have hLw:∀j,(L j∨Wr lay o j)→i≠j→L j:=by
  rintro j (hj | ⟨t,k,g1,g2⟩) hij
  ·exact hj
  ·rw[ho] at g1;simp only[Option.some.injEq] at g1;subst g1;rw[hi] at g2;simp at g2;exact absurd g2.1 hij
 have hblkne:∀j,L j→Act' lay e j→blk j≠w.heap.size:=by
  rintro j hl ⟨t,k,x,g1,g2,g3⟩
  cases k with
  | bx=>exact (hold _ _ (hcov j t _ g1 hl x g3).2).2
  | ps n=>obtain⟨c',_,_,hb⟩:=hcov j t _ g1 hl x g3;exact (hold _ _ hb).2
  | pl=>simp[isOwn] at g2
  | al _ _=>simp[isOwn] at g2
 refine⟨⟨⟨fun j=>if j=i then w.heap.size else blk j,?_,?_⟩,hsub,?_,by rw[alloc_size];have:=S.low;omega,by simpa[efgt_length,eset_length] using S.len⟩,⟨rfl,rfl,rfl,by rw[alloc_size];omega,fun b hb _=>alloc_old w _ (Nat.lt_of_lt_of_le hb S.low),fun _ _ hb=>hb⟩⟩
 ·intro j t k hj hl
  by_cases hij:i=j
  ·subst hij
   rw[hi'] at hj
   simp only[Option.some.injEq,Prod.mk.injEq] at hj
   obtain⟨rfl,rfl⟩:=hj
   have hget:∀x,eget (efgt (eset e i (some v)) cl) i=some x→x=v:=by
    intro x hx
    rcases eget_efgt cl (eset e i (some v)) i with g | g
    ·rw[g] at hx
     rcases eget_eset_same e i (some v) with g' | g'<;>rw[g'] at hx<;>simp at hx
     exact hx.symm
    ·rw[g] at hx;simp at hx
   have hput:(a.put o.dst u).eval (.tmp t0)=u:=by rw[ho];exact put_eval (S.sz _ _ _ hi')
   have hnew:Blk (w.alloc (.cells c el (0,0))) h base w.heap.size c:=⟨⟨el,alloc_last w _⟩,sub_fresh S.sub,S.low⟩
   cases k0 with
   | bx=>
    obtain⟨rfl,rfl⟩:=hval
    intro x hx
    obtain rfl:=hget x hx
    rw[hput]
    simpa using hnew
   | ps n=>
    obtain⟨rfl,rfl⟩:=hval
    intro x hx
    obtain rfl:=hget x hx
    refine⟨c,rfl,?_⟩
    rw[hput]
    simpa using hnew
   | pl=>exact hval.elim
   | al _ _=>exact hval.elim
  ·have hlj:=hLw j hl hij
   have hne:o.dst≠some t:=by
    rw[ho];intro he;simp only[Option.some.injEq] at he;subst he;exact hij (hd _ _ _ _ _ hi' hj)
   refine (hcov j t k hj hlj).keep ?_ (put_eval_ne hne) (by simp[Ne.symm hij]) ?_ (fun c' _ _ hb=>(hold _ _ hb).1)
   ·rcases eget_efgt cl (eset e i (some v)) j with g | g
    ·rw[g,eget_eset_ne _ _ _ _ hij];exact .inl rfl
    ·exact .inr g
   ·intro j' off hk
    by_cases hj':j'=i
    ·subst hj';subst hk
     exact .inl (eget_efgt_mem _ _ _ (hal j t off hj))
    ·exact .inr (by simp[hj'])
 ·intro x y hx hy ax ay hxy
  have hact:∀z,z≠i→Act' lay (efgt (eset e i (some v)) cl) z→Act' lay e z:=by
   rintro z hz ⟨t,k,q,g1,g2,g3⟩
   refine⟨t,k,q,g1,g2,?_⟩
   rcases eget_efgt cl (eset e i (some v)) z with g | g
   ·rwa [g,eget_eset_ne _ _ _ _ (Ne.symm hz)] at g3
   ·rw[g] at g3;simp at g3
  by_cases hxi:x=i
  ·subst hxi
   have hyi:y≠x:=Ne.symm hxy
   simp only[if_true,if_neg hyi]
   exact (hblkne y (hLw y hy (Ne.symm hyi)) (hact y hyi ay)).symm
  ·by_cases hyi:y=i
   ·subst hyi
    simp only[if_true,if_neg hxi]
    exact hblkne x (hLw x hx (Ne.symm hxi)) (hact x hxi ax)
   ·simp only[if_neg hxi,if_neg hyi]
    exact hinj x y (hLw x hx (Ne.symm hxi)) (hLw y hy (Ne.symm hyi)) (hact x hxi ax) (hact y hyi ay) hxy
 ·intro j t k hj;rw[put_size];exact S.sz j t k hj
theorem St.alias (hd:Dist lay) (S:St base lay L e h w a) {blk:Nat→Nat}(hcov:∀(i t:Nat) (k:Knd),lay[i]? = some (t,k)→L i→Cov base e h w a.eval blk i t k)
  (hinj:∀i j,L i→L j→Act' lay e i→Act' lay e j→i≠j→blk i≠blk j) {t0 p i off:Nat}(hp:lfind lay t0=some (p,.al i off)) {o:Oper}(ho:o.dst=some t0) :
  St base lay (fun j=>L j∨Wr lay o j) (eset e p (some (.bool true))) h w (a.put o.dst (.pointer (some ⟨blk i,off,none⟩))):=by
 have hp':=lfind_spec hp
 refine⟨⟨blk,?_,?_⟩,S.sub,?_,S.low,by simpa[eset_length] using S.len⟩
 ·intro j t k hj hl
  by_cases hpj:p=j
  ·subst hpj
   rw[hp'] at hj
   simp only[Option.some.injEq,Prod.mk.injEq] at hj
   obtain⟨rfl,rfl⟩:=hj
   intro _
   rw[ho]
   exact put_eval (S.sz _ _ _ hp')
  ·have hlj:L j:=by
    rcases hl with hl | ⟨t',k',g1,g2⟩
    ·exact hl
    ·rw[ho] at g1;simp only[Option.some.injEq] at g1;subst g1;rw[hp] at g2;simp at g2;exact absurd g2.1 hpj
   have hne:o.dst≠some t:=by
    rw[ho];intro he;simp only[Option.some.injEq] at he;subst he;exact hpj (hd _ _ _ _ _ hp' hj)
   exact (hcov j t k hj hlj).keep (.inl (eget_eset_ne _ _ _ _ hpj)) (put_eval_ne hne) rfl (fun _ _ _=>.inr rfl) (fun _ _ _ hb=>hb)
 ·have back:∀x,(L x∨Wr lay o x)→Act' lay (eset e p (some (.bool true))) x→L x∧Act' lay e x:=by
   rintro x hx ax
   have ax':Act' lay e x:=Act'.of_set ax (fun t k htk=>by rw[hp'] at htk;simp at htk;rw[← htk.2];rfl)
   refine⟨?_,ax'⟩
   rcases hx with hx | ⟨t',k',g1,g2⟩
   ·exact hx
   ·rw[ho] at g1;simp only[Option.some.injEq] at g1;subst g1;rw[hp] at g2;simp at g2
    obtain⟨rfl,rfl⟩:=g2
    obtain⟨t,k,_,q1,q2,_⟩:=ax'
    rw[hp'] at q1;simp at q1;rw[← q1.2] at q2;simp[isOwn] at q2
  intro x y hx hy ax ay hxy
  obtain⟨h1,h2⟩:=back x hx ax
  obtain⟨h3,h4⟩:=back y hy ay
  exact hinj x y h1 h3 h2 h4 hxy
 ·intro j t k hj;rw[put_size];exact S.sz j t k hj
theorem aliasesOf_mem {i:Nat}:∀{lay:Lay}{n p t off:Nat},lay[p]? = some (t,.al i off)→n+p∈aliasesOf lay i n
 | [],n,p,t,off,h=>by simp at h
 | (t',k)::r,n,0,t,off,h=>by
  simp at h
  obtain⟨rfl,rfl⟩:=h
  simp[aliasesOf]
 | (t',k)::r,n,p+1,t,off,h=>by
  have ih:=aliasesOf_mem (lay:=r) (n:=n+1) (p:=p) (by simpa using h)
  rw[show n+1+p=n+(p+1) by omega] at ih
  cases k with
  | al j off'=>simp only[aliasesOf];split<;>simp[ih]
  | pl=>simpa[aliasesOf] using ih
  | bx=>simpa[aliasesOf] using ih
  | ps m=>simpa[aliasesOf] using ih
theorem aliasesOf_inv {i:Nat}:∀{lay:Lay}{n p:Nat},p∈aliasesOf lay i n→∃q t off,p=n+q∧lay[q]? = some (t,.al i off)
 | [],n,p,h=>by simp[aliasesOf] at h
 | (t',k)::r,n,p,h=>by
  have step:p∈aliasesOf r i (n+1)→∃q t off,p=n+q∧((t',k)::r)[q]? = some (t,.al i off):=by
   intro h
   obtain⟨q,t,off,rfl,hq⟩:=aliasesOf_inv h
   exact⟨q+1,t,off,by omega,by simpa using hq⟩
  cases k with
  | al j off'=>
   simp only[aliasesOf] at h
   split at h
   ·rename_i hj
    rcases List.mem_cons.1 h with rfl | h
    ·exact⟨0,t',off',rfl,by simp[hj]⟩
    ·exact step h
   ·exact step h
  | pl=>exact step h
  | bx=>exact step h
  | ps m=>exact step h
theorem alloc_run {t:TypeId}{z:Value}(hz:zeroT P t=some z):(Instr.alloc t true (.tuple #[])).run P w=.ok (.pointer (some ⟨w.heap.size,0,none⟩)) (w.alloc (.cells z.cells t (0,0))):=by
 simp only[Instr.alloc,Sem.run_bind,run_zeroValue hz,Result.andThen_ok,newVar,newRow,run_newObj,Sem.run_pure]
 rfl
theorem box_run {t:TypeId}{v:Value}:(Instr.box t v).run P w=.ok (.pointer (some ⟨w.heap.size,0,none⟩)) (w.alloc (.cells v.cells t (0,0))):=by
 simp only[Instr.box,newVar,newRow,Sem.run_bind,run_newObj,Result.andThen_ok,Sem.run_pure]
 rfl
theorem act_step (hd:Dist lay) (S:St base lay L e h w a) {o:Oper}{g:Guard}(hL:OpL lay L o) {k:Env→Heap→Prop}{x:A}(hx:cact P lay g o=some x) (hw:x.wp P k e h) :
  UponE P ((execOp a.eval o).run P w) fun v w'=>∃e' h',k e' h'∧St base lay (fun i=>L i∨Wr lay o i) e' h' w' (a.put o.dst v)∧FrB base h w h' w':=by
 have hag:=S.ag hL
 unfold cact at hx
 split at hx
 ·-- private boxes
  rename_i s hs
  simp only[Option.some.injEq] at hx
  subst hx
  obtain⟨blk,hcov,hinj⟩:=S.cov
  unfold cprv at hs
  split at hs
  ·-- alloc
   rename_i t hop
   split at hs
   ·rename_i _ i z hb hz
    simp only[Option.some.injEq] at hs;subst hs
    simp only[Option.bind_eq_some_iff] at hb
    obtain⟨t0,ho,hi⟩:=hb
    simp only[A.wp,O.get] at hw
    obtain⟨v,hv,hk⟩:=hw
    simp only[Option.some.injEq] at hv;subst hv
    have:=S.fresh hd hi rfl (v:=z) (c:=z.cells) (el:=t) (cl:=aliasesOf lay i 0) (u:=.pointer (some ⟨w.heap.size,0,none⟩))
     (fun p t off hp=>by simpa using aliasesOf_mem (n:=0) hp) (fun p hp=>by
      obtain⟨q,t,off,rfl,hq⟩:=aliasesOf_inv hp
      intro he
      rw[Nat.zero_add] at he;subst he
      rw[lfind_spec hi] at hq;simp at hq) ⟨rfl,rfl⟩ ho
    simp only[execOp,hop,Sem.run_bind,alloc_run hz,Result.andThen_ok,Sem.run_pure]
    exact⟨_,_,hk,this.1,this.2⟩
   ·simp at hs
  ·-- box
   rename_i t x hop
   split at hs
   ·rename_i _ i ov hb hx
    simp only[Option.some.injEq] at hs;subst hs
    simp only[Option.bind_eq_some_iff] at hb
    obtain⟨t0,ho,hi⟩:=hb
    simp only[A.wp] at hw
    obtain⟨v,hv,hk⟩:=hw
    have hx':a.eval x=v:=ag_get (hag x (by simp[Op.operands,hop])) hx hv
    have:=S.fresh hd hi rfl (v:=v) (c:=v.cells) (el:=t) (cl:=aliasesOf lay i 0) (u:=.pointer (some ⟨w.heap.size,0,none⟩))
     (fun p t off hp=>by simpa using aliasesOf_mem (n:=0) hp) (fun p hp=>by
      obtain⟨q,t,off,rfl,hq⟩:=aliasesOf_inv hp
      intro he
      rw[Nat.zero_add] at he;subst he
      rw[lfind_spec hi] at hq;simp at hq) ⟨rfl,rfl⟩ ho
    simp only[execOp,hop,hx',Sem.run_bind,box_run,Result.andThen_ok,Sem.run_pure]
    exact⟨_,_,hk,this.1,this.2⟩
   ·simp at hs
  ·-- move
   rename_i x hop
   split at hs
   ·rename_i c i off d i' off' hp hb
    split at hs
    ·rename_i hc
     obtain⟨rfl,rfl⟩:=hc
     simp only[Option.some.injEq] at hs;subst hs
     simp only[Option.bind_eq_some_iff] at hb
     obtain⟨t0,ho,hi⟩:=hb
     simp only[A.wp] at hw
     obtain⟨h1,h2,hk⟩:=hw
     obtain⟨v,hv⟩:=Option.isSome_iff_exists.1 h2
     obtain⟨t,hx,hB,_,_⟩:=priv_val hcov hL (x:=x) (by simp[Op.operands,hop]) hp h1 hv
     simp only[execOp,hop,hx,Sem.run_pure]
     exact⟨_,_,hk,S.alias hd hcov hinj hi ho,FrB.refl _ _ _⟩
    ·simp at hs
   ·simp at hs
  ·-- nilCheck
   rename_i x hop
   split at hs
   ·rename_i c i off d i' off' hp hb
    split at hs
    ·rename_i hc
     obtain⟨rfl,rfl⟩:=hc
     simp only[Option.some.injEq] at hs;subst hs
     simp only[Option.bind_eq_some_iff] at hb
     obtain⟨t0,ho,hi⟩:=hb
     simp only[A.wp] at hw
     obtain⟨h1,h2,hk⟩:=hw
     obtain⟨v,hv⟩:=Option.isSome_iff_exists.1 h2
     obtain⟨t,hx,hB,_,_⟩:=priv_val hcov hL (x:=x) (by simp[Op.operands,hop]) hp h1 hv
     simp only[execOp,hop,hx,Sem.run_pure]
     exact⟨_,_,hk,S.alias hd hcov hinj hi ho,FrB.refl _ _ _⟩
    ·simp at hs
   ·simp at hs
  ·-- fieldAddr
   rename_i t x f hop
   split at hs
   ·rename_i c i off fo d i' off' hp hf hb
    split at hs
    ·rename_i hc
     obtain⟨rfl,rfl⟩:=hc
     simp only[Option.some.injEq] at hs;subst hs
     simp only[Option.bind_eq_some_iff] at hb
     obtain⟨t0,ho,hi⟩:=hb
     simp only[A.wp] at hw
     obtain⟨h1,h2,hk⟩:=hw
     obtain⟨v,hv⟩:=Option.isSome_iff_exists.1 h2
     obtain⟨t',hx,hB,_,_⟩:=priv_val hcov hL (x:=x) (by simp[Op.operands,hop]) hp h1 hv
     unfold fieldOff at hf
     split at hf
     ·rename_i fs hu
      split at hf
      ·rename_i fd hfd
       split at hf
       ·rename_i inf hinf
        split at hf
        ·simp at hf
        ·rename_i hne
         simp only[Option.some.injEq] at hf
         subst hf
         have hr:(Instr.fieldAt t (.pointer (some ⟨blk i,off,none⟩)) f).run P w=.ok (.pointer (some ⟨blk i,off+fd.offset,none⟩)) w:=by
          simp[Instr.fieldAt,run_underlying hu,hfd,Instr.sureAddr,fieldPlace,run_sizeOf hinf,hne,addr_add0]
         simp only[execOp,hop,hx,Sem.run_bind,hr,Result.andThen_ok,Sem.run_pure]
         exact⟨_,_,hk,S.alias hd hcov hinj hi ho,FrB.refl _ _ _⟩
       ·simp at hf
      ·simp at hf
     ·simp at hf
    ·simp at hs
   ·simp at hs
  ·-- load
   rename_i t x hop
   split at hs
   ·rename_i c i off s d hp hsz hdst
    simp only[Option.some.injEq] at hs;subst hs
    simp only[A.wp] at hw
    obtain⟨r,hr,hk⟩:=hw
    unfold pgetC at hr
    split at hr
    ·rename_i hc
     cases hv:eget e i with
     | none=>rw[hv] at hr;simp[pgetV] at hr
     | some v=>
      rw[hv] at hr
      obtain⟨t',hx,hB,_,_⟩:=priv_val hcov hL (x:=x) (by simp[Op.operands,hop]) hp hc hv
      have:=pgetV_run (P:=P) hsz hB.1 hr
      simp only[execOp,hop,hx,Sem.run_bind,this,Result.andThen_ok,Sem.run_pure]
      exact⟨_,_,hk,S.value2 hd S.sub (Frm.refl _ _) hdst r,FrB.refl _ _ _⟩
    ·simp at hr
   ·simp at hs
  ·-- store
   rename_i t x y hop
   split at hs
   ·rename_i c i off yo inf hp hy hi hdn
    simp only[Option.some.injEq] at hs;subst hs
    simp only[A.wp] at hw
    obtain⟨hc,r,hr,hk⟩:=hw
    cases hv:eget e i with
    | none=>rw[hv] at hr;simp[psetV] at hr
    | some v=>
     cases hyv:yo.get e with
     | none=>rw[hv,hyv] at hr;simp[psetV] at hr
     | some yv=>
      rw[hv,hyv] at hr
      obtain⟨t',hx,hB,hbx,hLi⟩:=priv_val hcov hL (x:=x) (by simp[Op.operands,hop]) hp hc hv
      have hy':a.eval y=yv:=ag_get (hag y (by simp[Op.operands,hop])) hy hyv
      obtain⟨g1,g2,g3,g4⟩:=psetV_spec hr
      obtain⟨⟨el,hb⟩,_,_⟩:=hB
      have hst:=run_storeCells_at (P:=P) (blk i) off el yv.cells.toList 0 v.cells w hb (by simp[g1];omega) g3
      have hrow:(v.cells.toList.take (off+0)++yv.cells.toList++v.cells.toList.drop (off+0+yv.cells.toList.length)).toArray=r.cells:=by
       rw[g4];simp[setC]
      rw[hrow] at hst
      have hSt:=S.pset hcov hinj hbx hLi hv (r:=r)
      have hrun:(Instr.storeAt t (.pointer (some ⟨blk i,off,none⟩)) yv).run P w=.ok () (w.setRow (blk i) r.cells):=by
       simp only[Instr.storeAt,Instr.sureAddr,storeVar,Sem.run_bind,Sem.run_pure,Result.andThen_ok,run_sizeOf hi,g1,ne_eq,not_true_eq_false,if_false,hst]
      simp only[execOp,hop,hx,hy',Sem.run_bind,hrun,Result.andThen_ok,Sem.run_pure]
      refine⟨_,_,hk,?_,hSt.2⟩
      rw[hdn]
      refine hSt.1.weaken ?_
      rintro j (hj | ⟨t,k,q1,_⟩)
      ·exact hj
      ·rw[hdn] at q1;simp at q1
   ·simp at hs
  ·-- a private slice
   rename_i t len ps hop
   split at hs
   ·rename_i _ i n sz z l hb hbl
    split at hs
    ·rename_i hn
     obtain⟨rfl,hal⟩:=hn
     simp only[Option.some.injEq] at hs;subst hs
     simp only[Option.bind_eq_some_iff] at hb
     obtain⟨t0,ho,hi⟩:=hb
     simp only[A.wp] at hw
     obtain⟨cs,hcs,hk⟩:=hw
     obtain⟨el,_,hr⟩:=partsBls (w:=w) hbl hcs (fun y hy=>hag y.2 (by simp[Op.operands,hop];exact⟨y.1,by simpa using hy⟩))
     have:=S.fresh hd hi rfl (v:=.agg cs.toArray) (c:=cs.toArray) (el:=el) (cl:=[]) (u:=.slice (some ⟨w.heap.size,0,none⟩) n n)
      (fun p t off hp=>by
       have:=aliasesOf_mem (n:=0) hp
       rw[hal] at this
       simp at this) (fun p hp=>by simp at hp) ⟨rfl,rfl⟩ ho
     simp only[execOp,hop,Sem.run_bind,hr,Result.andThen_ok,Sem.run_pure]
     exact⟨_,_,hk,this.1,this.2⟩
    ·simp at hs
   ·simp at hs
  ·simp at hs
 ·split at hx
  ·simp at hx
  ·rename_i d hdst
   split at hx
   ·-- a load from the heap
    rename_i t y hop
    split at hx
    ·rename_i xo s hy hs
     simp only[Option.some.injEq] at hx
     subst hx
     simp only[A.wp] at hw
     obtain⟨v,hv,hk⟩:=hw
     cases hg:xo.get e with
     | none=>rw[hg] at hv;simp[hload] at hv
     | some p=>
      rw[hg] at hv
      have hx':a.eval y=p:=ag_get (hag y (by simp[Op.operands,hop])) hy hg
      have:=hload_run (P:=P) S.sub hs hv
      simp only[execOp,hop,hx',Sem.run_bind,this,Result.andThen_ok,Sem.run_pure]
      exact⟨_,_,hk,S.value2 hd S.sub (Frm.refl _ _) hdst v,FrB.refl _ _ _⟩
    ·simp at hx
   ·rename_i op hnl
    split at hx
    ·rename_i y hy
     simp only[Option.some.injEq] at hx
     subst hx
     simp only[A.wp] at hw
     obtain⟨v,hv,hk⟩:=hw
     rw[px_run hy hag hv]
     exact⟨_,_,hk,S.value2 hd S.sub (Frm.refl _ _) hdst v,FrB.refl _ _ _⟩
    ·split at hx
     ·rename_i y hy
      simp only[Option.some.injEq] at hx
      subst hx
      simp only[A.wp] at hw
      have:=ex_run hy hag (S.psv hL) S.sub hw
      refine UponE.mono this ?_
      rintro v w' ⟨h',⟨h2,hle,hk⟩,hs',hf⟩
      have hf2:Frm h w h2 w':=⟨hf.tape,hf.os,hf.output,hf.size,hf.keep,fun b hb hn=>by
       cases hh:h2 b with
       | none=>rfl
       | some o=>have:=hle b o hh;rw[hf.fresh b hb hn] at this;simp at this⟩
      have hs2:h2.sub w':=fun b o hb=>hs' b o (hle b o hb)
      exact⟨_,_,hk,S.value2 hd hs2 hf2 hdst v,FrB.of_frm S.low hf2⟩
     ·simp at hx
end
section
variable {P:Program}{base:Nat}{lay:Lay}{L:Nat→Prop}{e:Env}{h:Heap}{w:World}{a:Act}
theorem upon_wp {o:Oper}{R:Value→World→Prop}{K:Act→World→Prop}{Q:Exit→Act→World→Prop}(hr:UponE P ((execOp a.eval o).run P w) R) (hK:∀v w',R v w'→K (a.put o.dst v) w'):o.wp P a w K Q:=by
 unfold Oper.wp
 unfold UponE at hr
 generalize (execOp a.eval o).run P w=r at hr
 cases r with
 | halt x w'=>cases x<;>exact hr.elim
 | ok n w'=>
  cases n<;>first | exact hr.elim | skip
  ·exact hK _ _ hr
  ·exact hK _ _ hr
  ·exact Calls.mono hr fun e w'' ⟨v,he,hv⟩=>by subst he;exact hK _ _ hv
def GdL (lay:Lay) (L:Nat→Prop) (ops:Array Oper) (o:Oper):Prop:=
 ∀j b t i,o.guard=some (j,b)→(ops[j]?).bind (·.dst)=some t→plainAt lay t=some i→L i
theorem guard_spec (S:St base lay L e h w a) {ops:Array Oper}{o:Oper}{g:Guard}(hg:guardOf lay ops o.guard=some g) (hG:GdL lay L ops o) {b:Bool}(hb:gcond e g=some b) :
  Region.wanted o (yielded ops a.tmps)=b:=by
 unfold Region.wanted
 cases ho:o.guard with
 | none=>
  rw[ho] at hg
  simp only[guardOf,Option.some.injEq] at hg
  subst hg
  simpa[gcond] using hb
 | some jw=>
  obtain⟨j,want⟩:=jw
  rw[ho] at hg
  simp only[guardOf] at hg
  split at hg
  ·rename_i t ht
   simp only[Option.map_eq_some_iff] at hg
   obtain⟨i,hi,rfl⟩:=hg
   have hLi:=hG j want t i ho ht hi
   obtain⟨blk,hcov,_⟩:=S.cov
   have hl:=lfind_spec (plainAt_spec hi)
   have hc:=hcov i t .pl hl hLi
   have hsz:=S.sz i t .pl hl
   simp only[gcond,O.get] at hb
   simp only
   have hy:yielded ops a.tmps j=match a.eval (.tmp t) with | .bool b=>some b | _=>none:=by
    unfold yielded
    rw[ht]
    simp only[Option.bind_some,Act.eval,Array.getD_eq_getD_getElem?]
    have:a.tmps[t]? = some a.tmps[t]:=Array.getElem?_eq_getElem hsz
    rw[this]
    simp only[Option.getD_some]
    split<;>simp_all
   split at hb
   ·rename_i c hcv
    simp only[Option.some.injEq] at hb
    rw[hy,hc _ hcv,← hb]
    cases c<;>cases want<;>rfl
   ·rename_i v hv hcv
    simp only[Option.some.injEq] at hb
    rw[hy,hc _ hcv,← hb]
    cases v<;>first | rfl | exact absurd rfl (hv _)
   ·simp at hb
  ·simp at hg
theorem cact_dst {g:Guard}{o:Oper}{x:A}(hx:cact P lay g o=some x) :
  (cdst lay o.dst=some x.dst∧(∀d v,x.val e h=some (d,v)→d=x.dst)) ∨
  (x.val e h=none∧((∃t0 d j off,o.dst=some t0∧lfind lay t0=some (d,.al j off)∧x.dst=some d)∨(o.dst=none∧x.dst=none)∨g=none)):=by
 unfold cact at hx
 split at hx
 ·rename_i s hs
  simp only[Option.some.injEq] at hx
  subst hx
  unfold cprv at hs
  split at hs
  ·split at hs
   ·simp only[Option.some.injEq] at hs;subst hs;exact .inr ⟨rfl,.inr (.inr rfl)⟩
   ·simp at hs
  ·split at hs
   ·simp only[Option.some.injEq] at hs;subst hs;exact .inr ⟨rfl,.inr (.inr rfl)⟩
   ·simp at hs
  ·split at hs
   ·rename_i c i off d i' off' hp hb
    split at hs
    ·simp only[Option.some.injEq] at hs;subst hs
     simp only[Option.bind_eq_some_iff] at hb
     obtain⟨t0,ho,hi⟩:=hb
     exact .inr ⟨rfl,.inl ⟨t0,d,_,_,ho,hi,rfl⟩⟩
    ·simp at hs
   ·simp at hs
  ·split at hs
   ·rename_i c i off d i' off' hp hb
    split at hs
    ·simp only[Option.some.injEq] at hs;subst hs
     simp only[Option.bind_eq_some_iff] at hb
     obtain⟨t0,ho,hi⟩:=hb
     exact .inr ⟨rfl,.inl ⟨t0,d,_,_,ho,hi,rfl⟩⟩
    ·simp at hs
   ·simp at hs
  ·split at hs
   ·rename_i c i off fo d i' off' hp hf hb
    split at hs
    ·simp only[Option.some.injEq] at hs;subst hs
     simp only[Option.bind_eq_some_iff] at hb
     obtain⟨t0,ho,hi⟩:=hb
     exact .inr ⟨rfl,.inl ⟨t0,d,_,_,ho,hi,rfl⟩⟩
    ·simp at hs
   ·simp at hs
  ·split at hs
   ·rename_i c i off s d hp hsz hdst
    simp only[Option.some.injEq] at hs;subst hs
    refine .inl ⟨hdst,?_⟩
    intro d' v hv
    simp only[A.val,Option.some.injEq,Prod.mk.injEq] at hv
    exact hv.1.symm
   ·simp at hs
  ·split at hs
   ·rename_i c i off y inf hp hy hi hdn
    simp only[Option.some.injEq] at hs;subst hs
    exact .inr ⟨rfl,.inr (.inl ⟨hdn,rfl⟩)⟩
   ·simp at hs
  ·split at hs
   ·split at hs
    ·simp only[Option.some.injEq] at hs;subst hs;exact .inr ⟨rfl,.inr (.inr rfl)⟩
    ·simp at hs
   ·simp at hs
  ·simp at hs
 ·split at hx
  ·simp at hx
  ·rename_i d hdst
   split at hx
   ·split at hx
    ·simp only[Option.some.injEq] at hx;subst hx
     refine .inl ⟨hdst,?_⟩
     intro d' v hv
     simp only[A.val,Option.some.injEq,Prod.mk.injEq] at hv
     exact hv.1.symm
    ·simp at hx
   ·split at hx
    ·simp only[Option.some.injEq] at hx;subst hx
     refine .inl ⟨hdst,?_⟩
     intro d' v hv
     simp only[A.val,Option.some.injEq,Prod.mk.injEq] at hv
     exact hv.1.symm
    ·split at hx
     ·simp only[Option.some.injEq] at hx;subst hx
      refine .inl ⟨hdst,?_⟩
      intro d' v hv
      simp[A.val] at hv
     ·simp at hx
theorem St.skipAl (hd:Dist lay) (S:St base lay L e h w a) {t0 p j off:Nat}(hp:lfind lay t0=some (p,.al j off)) {o:Oper}(ho:o.dst=some t0) :
  St base lay (fun i=>L i∨Wr lay o i) (eset e p (some undef)) h w (a.put o.dst undef):=by
 obtain⟨blk,hcov,hinj⟩:=S.cov
 have hp':=lfind_spec hp
 refine⟨⟨blk,?_,?_⟩,S.sub,?_,S.low,by simpa[eset_length] using S.len⟩
 ·intro i t k hi hl
  by_cases hpi:p=i
  ·subst hpi
   rw[hp'] at hi
   simp only[Option.some.injEq,Prod.mk.injEq] at hi
   obtain⟨rfl,rfl⟩:=hi
   intro hv
   rcases eget_eset_same e p (some undef) with g | g<;>rw[g] at hv<;>simp[undef] at hv
  ·have hli:L i:=by
    rcases hl with hl | ⟨t',k',g1,g2⟩
    ·exact hl
    ·rw[ho] at g1;simp only[Option.some.injEq] at g1;subst g1;rw[hp] at g2;simp at g2;exact absurd g2.1 hpi
   have hne:o.dst≠some t:=by
    rw[ho];intro he;simp only[Option.some.injEq] at he;subst he;exact hpi (hd _ _ _ _ _ hp' hi)
   exact (hcov i t k hi hli).keep (.inl (eget_eset_ne _ _ _ _ hpi)) (put_eval_ne hne) rfl (fun _ _ _=>.inr rfl) (fun _ _ _ hb=>hb)
 ·have back:∀x,(L x∨Wr lay o x)→Act' lay (eset e p (some undef)) x→L x∧Act' lay e x:=by
   rintro x hx ax
   have ax':Act' lay e x:=Act'.of_set ax (fun t k htk=>by rw[hp'] at htk;simp at htk;rw[← htk.2];rfl)
   refine⟨?_,ax'⟩
   rcases hx with hx | ⟨t',k',g1,g2⟩
   ·exact hx
   ·rw[ho] at g1;simp only[Option.some.injEq] at g1;subst g1;rw[hp] at g2;simp at g2
    obtain⟨rfl,rfl⟩:=g2
    obtain⟨t,k,_,q1,q2,_⟩:=ax'
    rw[hp'] at q1;simp at q1;rw[← q1.2] at q2;simp[isOwn] at q2
  intro x y hx hy ax ay hxy
  obtain⟨h1,h2⟩:=back x hx ax
  obtain⟨h3,h4⟩:=back y hy ay
  exact hinj x y h1 h3 h2 h4 hxy
 ·intro i t k hi;rw[put_size];exact S.sz i t k hi
theorem put_defers' {d:Option Tmp}{v:Value}:SameA a (a.put d v):=⟨by cases d<;>rfl,put_size⟩
theorem op_step (hd:Dist lay) (S:St base lay L e h w a) {ops:Array Oper}{i:Nat}{o:Oper}(hi:ops[i]? = some o) (hL:OpL lay L o) (hG:GdL lay L ops o) {k:Env→Heap→Prop}
  (hw:(cop P lay ops o).wp P k e h) {K:Act→World→Prop}{Q:Exit→Act→World→Prop}
  (hK:∀e' h' a' w',k e' h'→St base lay (fun j=>L j∨Wr lay o j) e' h' w' a'→FrB base h w h' w'→SameA a a'→K a' w'):wpOp P ops Q i K a w:=by
 have hstuck:∀k:Env→Heap→Prop,(stuckS none).wp P k e h→False:=by
  intro k hs
  simp[stuckS,stuckA,Go.Proofs.YtjbjnicobdpdhaaGreatDoor.S.wp,A.wp,PX.ev,O.get,undef] at hs
 unfold cop at hw
 split at hw
 ·exact (hstuck _ hw).elim
 ·rename_i g hg
  split at hw
  ·exact (hstuck _ hw).elim
  ·rename_i x hx
   -- where the guard says yes
   have yes:Region.wanted o (yielded ops a.tmps)=true→x.wp P k e h→wpOp P ops Q i K a w:=by
    intro hwant hxw
    unfold wpOp
    simp only[hi,hwant,if_true]
    left
    refine upon_wp (act_step hd S hL hx hxw) ?_
    rintro v w' ⟨e',h',hk,hS,hF⟩
    exact hK e' h' _ w' hk hS hF put_defers'
   cases g with
   | none=>
    simp only[Go.Proofs.YtjbjnicobdpdhaaGreatDoor.S.wp] at hw
    exact yes (guard_spec S hg hG rfl) hw
   | some gg=>
    simp only[Go.Proofs.YtjbjnicobdpdhaaGreatDoor.S.wp] at hw
    obtain⟨b,hb,hw⟩:=hw
    have hwant:=guard_spec S hg hG hb
    rcases cact_dst (e:=e) (h:=h) hx with ⟨hdst,hval⟩ | ⟨hval,hkind⟩
    ·-- a plain place
     cases b with
     | true=>
      refine yes hwant ?_
      cases hv:x.val e h with
      | none=>simp only[hv] at hw;exact hw.1 (by simp)
      | some dv=>
       obtain⟨d,v⟩:=dv
       simp only[hv] at hw
       obtain⟨h1,h2⟩:=hw
       obtain⟨u,rfl⟩:=Option.isSome_iff_exists.1 (h1 trivial)
       cases x<;>simp only[A.val,Option.some.injEq,Prod.mk.injEq,reduceCtorEq] at hv
       ·obtain⟨rfl,hv⟩:=hv;exact⟨u,hv,by simpa[gval] using h2⟩
       ·obtain⟨rfl,hv⟩:=hv;exact⟨u,hv,by simpa[gval] using h2⟩
       ·obtain⟨rfl,hv⟩:=hv;exact⟨u,hv,by simpa[gval] using h2⟩
     | false=>
      unfold wpOp
      simp only[hi,hwant,Bool.false_eq_true,if_false]
      have hSk:=S.value2 hd S.sub (Frm.refl _ _) hdst undef
      refine hK _ _ _ _ ?_ hSk (FrB.refl _ _ _) put_defers'
      cases hv:x.val e h with
      | none=>simp only[hv] at hw;exact hw.2 (by simp)
      | some dv=>
       obtain⟨d,v⟩:=dv
       simp only[hv] at hw
       rw[← hval d v hv]
       simpa[gval] using hw.2
    ·rw[hval] at hw
     simp only at hw
     cases b with
     | true=>exact yes hwant (hw.1 (by simp))
     | false=>
      unfold wpOp
      simp only[hi,hwant,Bool.false_eq_true,if_false]
      rcases hkind with ⟨t0,d,j,off,ho,hl,hxd⟩ | ⟨ho,hxd⟩ | hgn
      ·refine hK _ _ _ _ (hw.2 (by simp)) ?_ (FrB.refl _ _ _) put_defers'
       rw[hxd]
       exact S.skipAl hd hl ho
      ·refine hK _ _ _ _ (hw.2 (by simp)) ?_ (FrB.refl _ _ _) put_defers'
       rw[hxd,ho]
       refine S.weaken ?_
       rintro j (hj | ⟨t,k,q1,_⟩)
       ·exact hj
       ·rw[ho] at q1;simp at q1
      ·simp at hgn
theorem seq_ops (hd:Dist lay) {ops:Array Oper}{k:Env→Heap→Prop}{Q:Exit→Act→World→Prop}:∀(r:List Oper) (n:Nat) (e:Env) (h:Heap) (w:World) (a:Act),(∀j,j<r.length→ops[n+j]? = r[j]?) →
  St base lay (fun _=>True) e h w a→(seqP P lay ops r).wp P k e h →
  (∀e' h' a' w',k e' h'→St base lay (fun _=>True) e' h' w' a'→FrB base h w h' w'→SameA a a'→Q .normal a' w')→wpOps P ops Q (List.range' n r.length) a w
 | [],n,e,h,w,a,_,S,hw,hQ=>by
  simp only[List.length_nil,List.range'_zero,wpOps]
  exact hQ e h a w hw S (FrB.refl _ _ _) ⟨rfl,rfl⟩
 | o::r,n,e,h,w,a,hr,S,hw,hQ=>by
  simp only[List.length_cons,List.range'_succ,wpOps_cons]
  have hi:ops[n]? = some o:=by simpa using hr 0 (by simp)
  simp only[seqP,Pl.wp] at hw
  refine op_step hd S hi (fun _ _ _ _ _=>⟨trivial,fun _ _ _=>trivial⟩) (fun _ _ _ _ _ _ _=>trivial) hw ?_
  intro e' h' a' w' hk S' hF hdef
  refine seq_ops hd r (n+1) e' h' w' a' (fun j hj=>by
   have:=hr (j+1) (by simpa using hj)
   rw[show n+1+j=n+(j+1) by omega,this]
   simp) (S'.weaken fun _ _=>.inl trivial) hk ?_
  intro e2 h2 a2 w2 hk2 S2 hF2 hd2
  exact hQ e2 h2 a2 w2 hk2 S2 (hF.trans hF2) (hd2.trans hdef)
end
section
variable {e e2:Env}{h h2:Heap}
theorem oget_congr {o:O}(hr:∀p∈o.rd,eget e p=eget e2 p):o.get e=o.get e2:=by
 cases o with
 | v i=>exact hr i (by simp[O.rd])
 | c x=>rfl
theorem ogets_congr:∀{l:List O},(∀p∈ords l,eget e p=eget e2 p)→ogets e l=ogets e2 l
 | [],_=>rfl
 | o::l,hr=>by
  simp only[ogets]
  rw[oget_congr (o:=o) fun p hp=>hr p (by simp[ords,hp]),ogets_congr (l:=l) fun p hp=>hr p (by simp[ords,hp])]
theorem fillP_congr:∀{ps:List (Nat×Nat×O)}{c:List Value},(∀p∈prds ps,eget e p=eget e2 p)→fillP e c ps=fillP e2 c ps
 | [],_,_=>rfl
 | (off,sz,o)::r,c,hr=>by
  simp only[fillP]
  rw[oget_congr (o:=o) fun p hp=>hr p (by simp[prds,hp])]
  cases o.get e2 with
  | none=>rfl
  | some v=>simp only;split
            ·exact fillP_congr fun p hp=>hr p (by simp[prds,hp])
            ·rfl
theorem oordO_congr {o:Option O}(hr:∀p∈oordO o,eget e p=eget e2 p):o.map (·.get e)=o.map (·.get e2):=by
 cases o with
 | none=>rfl
 | some o=>simp only[Option.map_some];rw[oget_congr (o:=o) fun p hp=>hr p (by simpa[oordO] using hp)]
theorem ev_congr {x:PX}(hr:∀p∈x.rd,eget e p=eget e2 p):x.ev e=x.ev e2:=by
 cases x<;>simp only[PX.rd,List.mem_append] at hr<;>simp only[PX.ev]
 case mv a=>exact oget_congr hr
 case pick c a b=>
  rw[oget_congr (o:=c) fun p hp=>hr p (.inl (.inl hp)),oget_congr (o:=a) fun p hp=>hr p (.inl (.inr hp)),oget_congr (o:=b) fun p hp=>hr p (.inr hp)]
 case build z ps=>rw[fillP_congr hr]
 case sliceS a l h=>
  rw[oget_congr (o:=a) fun p hp=>hr p (.inl (.inl hp)),oordO_congr (o:=l) fun p hp=>hr p (.inl (.inr hp)),oordO_congr (o:=h) fun p hp=>hr p (.inr hp)]
 case sliceV n a l h m=>
  rw[oget_congr (o:=a) fun p hp=>hr p (.inl (.inl (.inl hp))),oordO_congr (o:=l) fun p hp=>hr p (.inl (.inl (.inr hp))),oordO_congr (o:=h) fun p hp=>hr p (.inl (.inr hp)),oordO_congr (o:=m) fun p hp=>hr p (.inr hp)]
 case mkf f a b=>rw[ogets_congr (l:=a) fun p hp=>hr p (.inl hp),ogets_congr (l:=b) fun p hp=>hr p (.inr hp)]
 all_goals first
  | (rename_i a b;rw[oget_congr (o:=a) fun p hp=>hr p (.inl hp),oget_congr (o:=b) fun p hp=>hr p (.inr hp)];done)
  | (rename_i a;rw[oget_congr (o:=a) hr];done)
def A.nv (e:Env) (h:Heap):A→Option (Option Nat×Option Value)
 | .px d x=>(x.ev e).map fun v=>(d,some v)
 | .ld d a sz=>(hload h (a.get e) sz).map fun v=>(d,some v)
 | .pget d c i off sz=>(pgetC e c i off sz).map fun v=>(d,some v)
 | .als d c i=>if aok e c=true∧(eget e i).isSome=true then some (some d,some (.bool true)) else none
 | .psl d z ps=>(fillP e z ps).map fun cs=>(some d,some (.agg cs.toArray))
 | .pnew i x _=>(x.get e).map fun v=>(some i,some v)
 | _=>none
def S.nv (e:Env) (h:Heap):S→Option (Option Nat×Option Value)
 | .act g x=>match gcond e g with
  | none=>none
  | some b=>if b then x.nv e h else some (x.dst,some undef)
 | _=>none
theorem map_some2 {α β:Type}{o:Option α}{f:α→β}{v:β}(h:o.map f=some v):∃a,o=some a∧f a=v:=by simpa[Option.map_eq_some_iff] using h
theorem nwp {P:Program}{k:Env→Heap→Prop}{s:S}(hn:isN s=true):s.wp P k e h↔∃d v,s.nv e h=some (d,v)∧k (dput d v e) h:=by
 unfold isN at hn
 split at hn
 ·rename_i g d x
  cases g with
  | none=>
   simp only[S.wp,A.wp,S.nv,gcond,A.nv,if_true]
   constructor
   ·rintro⟨v,hv,hk⟩;exact⟨d,some v,by simp[hv],hk⟩
   ·rintro⟨d',v',hv,hk⟩
    obtain⟨v,hu,he⟩:=map_some2 hv
    simp only[Prod.mk.injEq] at he
    obtain⟨rfl,rfl⟩:=he
    exact⟨v,hu,hk⟩
  | some gg=>
   simp only[S.wp,S.nv,A.nv,A.val,A.dst]
   constructor
   ·rintro⟨b,hb,h1,hk⟩
    cases b with
    | true=>
     obtain⟨u,hu⟩:=Option.isSome_iff_exists.1 (h1 rfl)
     exact⟨d,some u,by simp[hb,hu],by simpa[gval,hu] using hk⟩
    | false=>exact⟨d,some undef,by simp[hb],by simpa[gval] using hk⟩
   ·rintro⟨d',v',hv,hk⟩
    cases hb:gcond e (some gg) with
    | none=>simp[hb] at hv
    | some b=>
     simp only[hb] at hv
     refine⟨b,rfl,?_⟩
     cases b with
     | true=>
      simp only[if_true] at hv
      obtain⟨v,hu,he⟩:=map_some2 hv
      simp only[Prod.mk.injEq] at he
      obtain⟨rfl,rfl⟩:=he
      exact⟨by simp[hu],by simpa[gval,hu] using hk⟩
     | false=>
      simp only[Bool.false_eq_true,if_false,Option.some.injEq,Prod.mk.injEq] at hv
      obtain⟨rfl,rfl⟩:=hv
      exact⟨by simp,by simpa[gval] using hk⟩
 ·rename_i g d a sz
  cases g with
  | none=>
   simp only[S.wp,A.wp,S.nv,gcond,A.nv,if_true]
   constructor
   ·rintro⟨v,hv,hk⟩;exact⟨d,some v,by simp[hv],hk⟩
   ·rintro⟨d',v',hv,hk⟩
    obtain⟨v,hu,he⟩:=map_some2 hv
    simp only[Prod.mk.injEq] at he
    obtain⟨rfl,rfl⟩:=he
    exact⟨v,hu,hk⟩
  | some gg=>
   simp only[S.wp,S.nv,A.nv,A.val,A.dst]
   constructor
   ·rintro⟨b,hb,h1,hk⟩
    cases b with
    | true=>
     obtain⟨u,hu⟩:=Option.isSome_iff_exists.1 (h1 rfl)
     exact⟨d,some u,by simp[hb,hu],by simpa[gval,hu] using hk⟩
    | false=>exact⟨d,some undef,by simp[hb],by simpa[gval] using hk⟩
   ·rintro⟨d',v',hv,hk⟩
    cases hb:gcond e (some gg) with
    | none=>simp[hb] at hv
    | some b=>
     simp only[hb] at hv
     refine⟨b,rfl,?_⟩
     cases b with
     | true=>
      simp only[if_true] at hv
      obtain⟨v,hu,he⟩:=map_some2 hv
      simp only[Prod.mk.injEq] at he
      obtain⟨rfl,rfl⟩:=he
      exact⟨by simp[hu],by simpa[gval,hu] using hk⟩
     | false=>
      simp only[Bool.false_eq_true,if_false,Option.some.injEq,Prod.mk.injEq] at hv
      obtain⟨rfl,rfl⟩:=hv
      exact⟨by simp,by simpa[gval] using hk⟩
 ·rename_i g d c i off sz
  cases g with
  | none=>
   simp only[S.wp,A.wp,S.nv,gcond,A.nv,if_true]
   constructor
   ·rintro⟨v,hv,hk⟩;exact⟨d,some v,by simp[hv],hk⟩
   ·rintro⟨d',v',hv,hk⟩
    obtain⟨v,hu,he⟩:=map_some2 hv
    simp only[Prod.mk.injEq] at he
    obtain⟨rfl,rfl⟩:=he
    exact⟨v,hu,hk⟩
  | some gg=>
   simp only[S.wp,S.nv,A.nv,A.val,A.dst]
   constructor
   ·rintro⟨b,hb,h1,hk⟩
    cases b with
    | true=>
     obtain⟨u,hu⟩:=Option.isSome_iff_exists.1 (h1 rfl)
     exact⟨d,some u,by simp[hb,hu],by simpa[gval,hu] using hk⟩
    | false=>exact⟨d,some undef,by simp[hb],by simpa[gval] using hk⟩
   ·rintro⟨d',v',hv,hk⟩
    cases hb:gcond e (some gg) with
    | none=>simp[hb] at hv
    | some b=>
     simp only[hb] at hv
     refine⟨b,rfl,?_⟩
     cases b with
     | true=>
      simp only[if_true] at hv
      obtain⟨v,hu,he⟩:=map_some2 hv
      simp only[Prod.mk.injEq] at he
      obtain⟨rfl,rfl⟩:=he
      exact⟨by simp[hu],by simpa[gval,hu] using hk⟩
     | false=>
      simp only[Bool.false_eq_true,if_false,Option.some.injEq,Prod.mk.injEq] at hv
      obtain⟨rfl,rfl⟩:=hv
      exact⟨by simp,by simpa[gval] using hk⟩
 ·rename_i g d c i
  cases g with
  | none=>
   simp only[S.wp,A.wp,S.nv,gcond,A.nv,if_true]
   constructor
   ·rintro⟨h1,h2,hk⟩;exact⟨some d,some (.bool true),by simp[h1,h2],hk⟩
   ·rintro⟨d',v',hv,hk⟩
    split at hv
    ·rename_i hc
     simp only[Option.some.injEq,Prod.mk.injEq] at hv
     obtain⟨rfl,rfl⟩:=hv
     exact⟨hc.1,hc.2,hk⟩
    ·simp at hv
  | some gg=>
   simp only[S.wp,S.nv,A.nv,A.val,A.dst,A.wp]
   constructor
   ·rintro⟨b,hb,h1,h2⟩
    cases b with
    | true=>
     obtain⟨g1,g2,hk⟩:=h1 rfl
     exact⟨some d,some (.bool true),by simp[hb,g1,g2],hk⟩
    | false=>exact⟨some d,some undef,by simp[hb],h2 rfl⟩
   ·rintro⟨d',v',hv,hk⟩
    cases hb:gcond e (some gg) with
    | none=>simp[hb] at hv
    | some b=>
     simp only[hb] at hv
     refine⟨b,rfl,?_⟩
     cases b with
     | true=>
      simp only[if_true] at hv
      split at hv
      ·rename_i hc
       simp only[Option.some.injEq,Prod.mk.injEq] at hv
       obtain⟨rfl,rfl⟩:=hv
       exact⟨fun _=>⟨hc.1,hc.2,hk⟩,by simp⟩
      ·simp at hv
     | false=>
      simp only[Bool.false_eq_true,if_false,Option.some.injEq,Prod.mk.injEq] at hv
      obtain⟨rfl,rfl⟩:=hv
      exact⟨by simp,fun _=>hk⟩
 ·rename_i d z ps
  simp only[S.wp,A.wp,S.nv,gcond,A.nv,if_true]
  constructor
  ·rintro⟨v,hv,hk⟩;exact⟨some d,some (.agg v.toArray),by simp[hv],hk⟩
  ·rintro⟨d',v',hv,hk⟩
   obtain⟨v,hu,he⟩:=map_some2 hv
   simp only[Prod.mk.injEq] at he
   obtain⟨rfl,rfl⟩:=he
   exact⟨v,hu,hk⟩
 ·rename_i i x
  simp only[S.wp,A.wp,S.nv,gcond,A.nv,if_true,efgt]
  constructor
  ·rintro⟨v,hv,hk⟩;exact⟨some i,some v,by simp[hv],hk⟩
  ·rintro⟨d',v',hv,hk⟩
   obtain⟨v,hu,he⟩:=map_some2 hv
   simp only[Prod.mk.injEq] at he
   obtain⟨rfl,rfl⟩:=he
   exact⟨v,hu,hk⟩
 ·simp at hn
theorem gcond_congr {g:Guard}(hr:∀p∈grd g,eget e p=eget e2 p):gcond e g=gcond e2 g:=by
 cases g with
 | none=>rfl
 | some ow=>obtain⟨o,w⟩:=ow;simp only[gcond];rw[oget_congr (o:=o) hr]
theorem aok_congr {c:Option Nat}(hr:∀p∈c.toList,eget e p=eget e2 p):aok e c=aok e2 c:=by
 cases c with
 | none=>rfl
 | some p=>simp only[aok];rw[hr p (by simp)]
def LdSame (s:S) (e:Env) (h:Heap) (e2:Env) (h2:Heap):Prop:=
 match s with
 | .act g (.ld _ a sz)=>gcond e g=some true→hload h2 (a.get e2) sz=hload h (a.get e) sz
 | _=>True
theorem nv_congr {s:S}(hn:isN s=true) (hr:∀p∈s.rd,eget e p=eget e2 p) (hw:∀p∈s.wk,(eget e p).isSome=true→(eget e2 p).isSome=true) (hl:LdSame s e h e2 h2)
  {r:Option Nat×Option Value}(hv:s.nv e h=some r):s.nv e2 h2=some r:=by
 have key:∀g x,s=.act g x→(gcond e g=some true→x.nv e h=some r→x.nv e2 h2=some r)→s.nv e2 h2=some r:=by
  intro g x hs hx
  subst hs
  simp only[S.nv] at hv ⊢
  rw[← gcond_congr fun p hp=>hr p (by simp[S.rd,hp])]
  cases hb:gcond e g with
  | none=>simp[hb] at hv
  | some b=>
   simp only[hb] at hv ⊢
   cases b with
   | true=>simp only[if_true] at hv ⊢;exact hx hb hv
   | false=>simpa using hv
 unfold isN at hn
 split at hn
 ·rename_i g d x
  exact key g _ rfl fun _ hx=>by simpa only[A.nv,← ev_congr (x:=x) fun p hp=>hr p (by simp[S.rd,A.rd,hp])] using hx
 ·rename_i g d a sz
  exact key g _ rfl fun hb hx=>by
   simp only[A.nv] at hx ⊢
   rw[hl hb]
   exact hx
 ·rename_i g d c i off sz
  refine key g _ rfl fun _ hx=>?_
  simp only[A.nv,pgetC] at hx ⊢
  rw[← aok_congr (c:=c) fun p hp=>hr p (by simp[S.rd,A.rd];exact .inr (.inr (by simpa using hp))),← hr i (by simp[S.rd,A.rd])]
  exact hx
 ·rename_i g d c i
  refine key g _ rfl fun _ hx=>?_
  simp only[A.nv] at hx ⊢
  split at hx
  ·rename_i hc
   rw[if_pos ⟨by rw[← aok_congr (c:=c) fun p hp=>hr p (by simp[S.rd,A.rd];exact .inr (by simpa using hp))];exact hc.1,hw i (by simp[S.wk,A.wkp]) hc.2⟩]
   exact hx
  ·simp at hx
 ·rename_i d z ps
  exact key none _ rfl fun _ hx=>by simpa only[A.nv,← fillP_congr (ps:=ps) fun p hp=>hr p (by simp[S.rd,A.rd,hp])] using hx
 ·rename_i i x
  exact key none _ rfl fun _ hx=>by simpa only[A.nv,← oget_congr (o:=x) fun p hp=>hr p (by simp[S.rd,A.rd,hp])] using hx
 ·simp at hn
theorem nv_wr {s:S}(hn:isN s=true) {d:Option Nat}{v:Option Value}(hv:s.nv e h=some (d,v)):∀p,d=some p→p∈s.wr:=by
 have key:∀g x,s=.act g x→(∀d v,x.nv e h=some (d,v)→∀p,d=some p→p∈x.wrp)→(∀p,x.dst=some p→p∈x.wrp)→∀p,d=some p→p∈s.wr:=by
  intro g x hs h1 h2 p hp
  subst hs
  simp only[S.nv] at hv
  split at hv
  ·simp at hv
  ·split at hv
   ·exact h1 d v hv p hp
   ·simp only[Option.some.injEq,Prod.mk.injEq] at hv
    exact h2 p (hv.1.trans hp)
 unfold isN at hn
 split at hn
 ·rename_i g d' x
  exact key g _ rfl (fun d v hx p hp=>by obtain⟨_,_,he⟩:=map_some2 hx;simp only[Prod.mk.injEq] at he;simp[A.wrp,he.1,hp]) (fun p hp=>by simpa[A.wrp,A.dst] using hp)
 ·rename_i g d' a sz
  exact key g _ rfl (fun d v hx p hp=>by obtain⟨_,_,he⟩:=map_some2 hx;simp only[Prod.mk.injEq] at he;simp[A.wrp,he.1,hp]) (fun p hp=>by simpa[A.wrp,A.dst] using hp)
 ·rename_i g d' c i off sz
  exact key g _ rfl (fun d v hx p hp=>by obtain⟨_,_,he⟩:=map_some2 hx;simp only[Prod.mk.injEq] at he;simp[A.wrp,he.1,hp]) (fun p hp=>by simpa[A.wrp,A.dst] using hp)
 ·rename_i g d' c i
  refine key g _ rfl (fun d v hx p hp=>?_) (fun p hp=>by simp[A.dst] at hp;simp[A.wrp,hp])
  simp only[A.nv] at hx
  split at hx
  ·simp only[Option.some.injEq,Prod.mk.injEq] at hx
   rw[← hx.1] at hp
   simp at hp
   simp[A.wrp,hp]
  ·simp at hx
 ·rename_i d' z ps
  exact key none _ rfl (fun d v hx p hp=>by obtain⟨_,_,he⟩:=map_some2 hx;simp only[Prod.mk.injEq] at he;rw[← he.1] at hp;simp at hp;simp[A.wrp,hp]) (fun p hp=>by simp[A.dst] at hp;simp[A.wrp,hp])
 ·rename_i i x
  exact key none _ rfl (fun d v hx p hp=>by obtain⟨_,_,he⟩:=map_some2 hx;simp only[Prod.mk.injEq] at he;rw[← he.1] at hp;simp at hp;simp[A.wrp,hp]) (fun p hp=>by simp[A.dst] at hp)
 ·simp at hn
theorem eset_self_iff:∀{e:Env}{p:Nat}{v:Option Value},eset e p v=e↔(p<e.length→eget e p=v)
 | [],p,v=>by simp[eset]
 | x::t,0,v=>by simp[eset,eget,eq_comm]
 | x::t,n+1,v=>by simp[eset,eget,eset_self_iff (e:=t)]
def Idem (s:S) (e:Env) (h:Heap):Prop:=∃d v,s.nv e h=some (d,v)∧dput d v e=e
theorem Idem.congr {s:S}(hn:isN s=true) (hi:Idem s e h) (hlen:e2.length=e.length) (hr:∀p∈s.rd,eget e p=eget e2 p) (hw:∀p∈s.wk,(eget e p).isSome=true→(eget e2 p).isSome=true)
  (hwr:∀p∈s.wr,eget e p=eget e2 p) (hl:LdSame s e h e2 h2):Idem s e2 h2:=by
 obtain⟨d,v,hv,hd⟩:=hi
 refine⟨d,v,nv_congr hn hr hw hl hv,?_⟩
 cases d with
 | none=>rfl
 | some p=>
  simp only[dput] at hd ⊢
  rw[eset_self_iff] at hd ⊢
  intro hp
  rw[← hwr p (nv_wr hn hv p rfl)]
  exact hd (by omega)
theorem eset_eset:∀(e:Env) (p:Nat) (v:Option Value),eset (eset e p v) p v=eset e p v
 | [],_,_=>rfl
 | _::_,0,_=>rfl
 | _::t,n+1,v=>by simp[eset,eset_eset t n v]
theorem dput_ne {d:Option Nat}{v:Option Value}{p:Nat}(hp:∀q,d=some q→q≠p):eget (dput d v e) p=eget e p:=by
 cases d with
 | none=>rfl
 | some q=>exact eget_eset_ne _ _ _ _ (hp q rfl)
theorem Idem.self {s:S}(hn:isN s=true) {d:Option Nat}{v:Option Value}(hv:s.nv e h=some (d,v)) (hrw:∀p∈s.wr,p∉s.rd∧p∉s.wk):Idem s (dput d v e) h:=by
 refine⟨d,v,nv_congr hn (fun p hp=>?_) (fun p hp=>?_) ?_ hv,?_⟩
 ·rw[dput_ne]
  intro q hq he
  subst he
  exact (hrw q (nv_wr hn hv q hq)).1 hp
 ·rw[dput_ne]
  ·exact id
  ·intro q hq he
   subst he
   exact (hrw q (nv_wr hn hv q hq)).2 hp
 ·unfold LdSame
  split
  ·rename_i g d' a sz
   intro _
   congr 1
   apply oget_congr
   intro p hp
   rw[dput_ne]
   intro q hq he
   subst he
   exact (hrw q (nv_wr hn hv q hq)).1 (by simp[S.rd,A.rd,hp])
  ·trivial
 ·cases d with
  | none=>rfl
  | some p=>exact eset_eset _ _ _
end
theorem CallE.mono {P:Program}{f:FuncId}{vs:List Value}{h:Heap}{k k':Value→Heap→Prop}(hk:∀v h',k v h'→k' v h') (hc:CallE P f vs h k):CallE P f vs h k':=by
 intro w hs
 have:=hc w hs
 unfold Landed at *
 split at this
 ·exact Calls.mono this fun e w' ⟨v,h',he,h1,h2,h3⟩=>⟨v,h',he,hk _ _ h1,h2,h3⟩
 ·obtain⟨v,h',he,h1,h2,h3⟩:=this
  exact⟨v,h',he,hk _ _ h1,h2,h3⟩
 ·exact this.elim
theorem EX.wp_mono {P:Program}{e:Env}{h:Heap}{k k':Value→Heap→Prop}(hk:∀v h',k v h'→k' v h') {x:EX}(hx:x.wp P e h k):x.wp P e h k':=by
 cases x<;>simp only[EX.wp] at hx ⊢
 case store=>obtain⟨b,off,v,h',h1,h2,h3,h4,h5⟩:=hx;exact⟨b,off,v,h',h1,h2,h3,h4,hk _ _ h5⟩
 case alloc=>obtain⟨v,h1,h2⟩:=hx;exact⟨v,h1,fun b el hb=>hk _ _ (h2 b el hb)⟩
 case mks=>obtain⟨l,c,j,j',h1,h2,h3,h4,h5,h6⟩:=hx;exact⟨l,c,j,j',h1,h2,h3,h4,h5,fun b el hb=>hk _ _ (h6 b el hb)⟩
 case bls=>obtain⟨cs,h1,h2⟩:=hx;exact⟨cs,h1,fun b el hb=>hk _ _ (h2 b el hb)⟩
 case app a b=>
  obtain⟨n,cs,h1,h2⟩:=hx
  refine⟨n,cs,h1,?_⟩
  cases a with
  | o y=>
   simp only at h2 ⊢
   obtain⟨p,len,cap,g1,g2,g3⟩:=h2
   refine⟨p,len,cap,g1,fun hle=>?_,fun hlt=>?_⟩
   ·have:=g2 hle
    split at this
    ·exact⟨this.1,hk _ _ this.2⟩
    ·rcases this with ⟨h,h'⟩ | ⟨h',g,g'⟩
     ·exact .inl ⟨h,hk _ _ h'⟩
     ·exact .inr ⟨h',g,hk _ _ g'⟩
    ·exact this.elim
   ·obtain⟨m,old,q1,q2,q3,q4⟩:=g3 hlt
    exact⟨m,old,q1,q2,q3,fun b el c hb hc=>hk _ _ (q4 b el c hb hc)⟩
  | p m i=>
   simp only at h2 ⊢
   obtain⟨g1,g2,g3,g4⟩:=h2
   refine⟨g1,g2,fun hn p=>hk _ _ (g3 hn p),fun hn=>?_⟩
   obtain⟨q1,q2,q3⟩:=g4 hn
   exact⟨q1,q2,fun b el c hb hc=>hk _ _ (q3 b el c hb hc)⟩
  | z _ _ _=>exact h2.elim
 case copy=>
  obtain⟨p,n,m,cap,cs,h1,h2,h3⟩:=hx
  refine⟨p,n,m,cap,cs,h1,h2,?_⟩
  split at h3
  ·exact hk _ _ h3
  ·obtain⟨h',g,g'⟩:=h3;exact⟨h',g,hk _ _ g'⟩
  ·exact h3.elim
 case call=>obtain⟨vs,h1,h2⟩:=hx;exact⟨vs,h1,h2.mono hk⟩
 case callv=>obtain⟨f,a,b,vs,h1,h2,h3⟩:=hx;exact⟨f,a,b,vs,h1,h2,h3.mono hk⟩
 case mkm=>exact fun b hb=>hk _ _ (hx b hb)
 case mget=>obtain⟨b,es,cl,kv,r,h1,h2,h3,h4,h5,h6⟩:=hx;exact⟨b,es,cl,kv,r,h1,h2,h3,h4,h5,hk _ _ h6⟩
 case mput=>
  obtain⟨b,es,cl,kv,v,r,h1,h2,h3,h4,h5,h6,h7⟩:=hx
  refine⟨b,es,cl,kv,v,r,h1,h2,h3,h4,h5,h6,?_⟩
  cases r with
  | none=>exact hk _ _ h7
  | some ij=>exact fun kk=>hk _ _ (h7 kk)
 case mlen=>obtain⟨b,es,cl,h1,h2,h3⟩:=hx;exact⟨b,es,cl,h1,h2,hk _ _ h3⟩
 case bstr=>obtain⟨b,off,n,cap,l,h1,h2,h3⟩:=hx;exact⟨b,off,n,cap,l,h1,h2,hk _ _ h3⟩
structure Kp (s:S) (e e':Env):Prop where
 len:e'.length=e.length
 same:∀p,p∉s.wr→p∉s.cw→eget e' p=eget e p
 ex:∀p,p∉s.wr→(eget e p).isSome=true→(eget e' p).isSome=true
theorem Kp.put {s:S}{e:Env}{d:Option Nat}{v:Option Value}(hd:∀p,d=some p→p∈s.wr):Kp s e (dput d v e) where
 len:=dput_length _ _ _
 same p h1 _:=dput_ne fun q hq he=>by subst he;exact h1 (hd q hq)
 ex p h1 h2:=by rw[dput_ne fun q hq he=>by subst he;exact h1 (hd q hq)];exact h2
theorem efgt_same:∀(l:List Nat) (e:Env) (p:Nat),p∉l→eget (efgt e l) p=eget e p
 | [],_,_,_=>rfl
 | i::l,e,p,hp=>by
  simp only[List.mem_cons,not_or] at hp
  simp only[efgt]
  rw[efgt_same l _ p hp.2,eget_eset_ne _ _ _ _ (Ne.symm hp.1)]
theorem A.keep {P:Program}{e:Env}{h:Heap}{k:Env→Heap→Prop}{g:Guard}{x:A}(hx:x.wp P k e h):x.wp P (fun e' h'=>k e' h'∧Kp (.act g x) e e') e h:=by
 cases x<;>simp only[A.wp] at hx ⊢
 case px d x=>obtain⟨v,h1,h2⟩:=hx;exact⟨v,h1,h2,Kp.put fun p hp=>by simp[S.wr,A.wrp,hp]⟩
 case ld d a sz=>obtain⟨v,h1,h2⟩:=hx;exact⟨v,h1,h2,Kp.put fun p hp=>by simp[S.wr,A.wrp,hp]⟩
 case ex d x=>exact EX.wp_mono (fun v h' ⟨h2,hle,hk⟩=>⟨h2,hle,hk,Kp.put fun p hp=>by simp[S.wr,A.wrp,hp]⟩) hx
 case pnew i x cl=>
  obtain⟨v,h1,h2⟩:=hx
  refine⟨v,h1,h2,by simp[efgt_length,eset_length],?_,?_⟩
  ·intro p hp _
   simp only[S.wr,A.wrp,List.mem_cons,not_or] at hp
   rw[efgt_same _ _ _ hp.2,eget_eset_ne _ _ _ _ (Ne.symm hp.1)]
  ·intro p hp hs
   simp only[S.wr,A.wrp,List.mem_cons,not_or] at hp
   rw[efgt_same _ _ _ hp.2,eget_eset_ne _ _ _ _ (Ne.symm hp.1)]
   exact hs
 case pget d c i off sz=>obtain⟨v,h1,h2⟩:=hx;exact⟨v,h1,h2,Kp.put fun p hp=>by simp[S.wr,A.wrp,hp]⟩
 case pset c i off sz x=>
  obtain⟨h0,v,h1,h2⟩:=hx
  refine⟨h0,v,h1,h2,eset_length _ _ _,?_,?_⟩
  ·intro p _ hp
   simp only[S.cw,A.cwp,List.mem_singleton] at hp
   exact eget_eset_ne _ _ _ _ (Ne.symm hp)
  ·intro p _ hs
   by_cases hip:i=p
   ·subst hip
    have hlt:i<e.length:=by
     rcases Nat.lt_or_ge i e.length with h | h
     ·exact h
     ·have:∀(e:Env) (i:Nat),e.length≤i→eget e i=none:=by
       intro e
       induction e with
       | nil=>intro i _;rfl
       | cons x t ih=>
        intro i hi
        cases i with
        | zero=>simp at hi
        | succ i=>exact ih i (by simpa using hi)
      rw[this e i h] at hs
      simp at hs
    rcases eget_eset_same e i (some v) with g | g
    ·rw[g];rfl
    ·have h3:eset (eset e i (some v)) i (some v)=eset e i (some v):=eset_eset _ _ _
     rw[eset_self_iff] at h3
     rw[h3 (by rw[eset_length];exact hlt)]
     rfl
   ·rw[eget_eset_ne _ _ _ _ hip];exact hs
 case als d c i=>obtain⟨h1,h2,h3⟩:=hx;exact⟨h1,h2,h3,Kp.put (d:=some d) fun p hp=>by simp at hp;simp[S.wr,A.wrp,hp]⟩
 case psl d z ps=>obtain⟨cs,h1,h2⟩:=hx;exact⟨cs,h1,h2,Kp.put (d:=some d) fun p hp=>by simp at hp;simp[S.wr,A.wrp,hp]⟩
theorem S.keep {P:Program}{e:Env}{h:Heap}{k:Env→Heap→Prop}{g:Guard}{x:A}(hw:(S.act g x).wp P k e h):(S.act g x).wp P (fun e' h'=>k e' h'∧Kp (.act g x) e e') e h:=by
 cases g with
 | none=>simp only[S.wp] at hw ⊢;exact A.keep hw
 | some gg=>
  simp only[S.wp] at hw ⊢
  obtain⟨b,hb,hw⟩:=hw
  refine⟨b,hb,?_⟩
  cases hv:x.val e h with
  | some dv=>
   obtain⟨d,v⟩:=dv
   simp only[hv] at hw ⊢
   refine⟨hw.1,hw.2,Kp.put fun p hp=>?_⟩
   cases x<;>simp only[A.val,Option.some.injEq,Prod.mk.injEq,reduceCtorEq] at hv
   ·simp[S.wr,A.wrp,hv.1,hp]
   ·simp[S.wr,A.wrp,hv.1,hp]
   ·simp[S.wr,A.wrp,hv.1,hp]
  | none=>
   simp only[hv] at hw ⊢
   refine⟨fun hb=>A.keep (hw.1 hb),fun hb=>⟨hw.2 hb,Kp.put fun p hp=>?_⟩⟩
   cases x<;>simp only[A.dst,Option.some.injEq,reduceCtorEq] at hp<;>simp[S.wr,A.wrp,hp]
theorem beforeOf_spec:∀(l:List Oper) (acc:List Nat),(beforeOf l acc).take acc.length=acc∧(beforeOf l acc).length=acc.length+l.length ∧
  ∀i (hi:i<l.length),(beforeOf l acc)[acc.length+i]? = some (l[i].after.foldl (fun s e=>if Region.binds .any e then s|||2^e.on|||((beforeOf l acc).take (acc.length+i)).getD e.on 0 else s) 0)
 | [],acc=>by simp[beforeOf]
 | o::r,acc=>by
  obtain⟨h1,h2,h3⟩:=beforeOf_spec r (acc++[o.after.foldl (fun s e=>if Region.binds .any e then s|||2^e.on|||acc.getD e.on 0 else s) 0])
  simp only[beforeOf]
  have h1':(beforeOf r (acc++[o.after.foldl (fun s e=>if Region.binds .any e then s|||2^e.on|||acc.getD e.on 0 else s) 0])).take acc.length=acc:=by
   have:=congrArg (List.take acc.length) h1
   rw[List.take_take] at this
   simpa using this
  refine⟨h1',by rw[h2];simp;omega,?_⟩
  intro i hi
  cases i with
  | zero=>
   simp only[Nat.add_zero,List.getElem_cons_zero,h1']
   have:=congrArg (fun l:List Nat=>l[acc.length]?) h1
   simp only[List.length_append,List.length_cons,List.length_nil] at this
   rw[List.getElem?_take] at this
   simpa using this
  | succ i=>
   have:=h3 i (by simpa using hi)
   simp only[List.length_append,List.length_cons,List.length_nil] at this
   rw[show acc.length+(0+1)+i=acc.length+(i+1) by omega] at this
   simpa using this
theorem foldl_bits (g:Nat→Nat):∀(l:List Edge) (s j:Nat),(l.foldl (fun s e=>if Region.binds .any e then s|||2^e.on|||g e.on else s) s).testBit j=true →
  s.testBit j=true∨∃e∈l,Region.binds .any e=true∧(e.on=j∨(g e.on).testBit j=true)
 | [],s,j,h=>.inl h
 | x::l,s,j,h=>by
  simp only[List.foldl_cons] at h
  rcases foldl_bits g l _ j h with h | ⟨e,he,hb⟩
  ·split at h
   ·rename_i hx
    simp only[Nat.testBit_or,Bool.or_eq_true,Nat.testBit_two_pow,decide_eq_true_eq] at h
    rcases h with (h | h) | h
    ·exact .inl h
    ·exact .inr ⟨x,by simp,hx,.inl h⟩
    ·exact .inr ⟨x,by simp,hx,.inr h⟩
   ·exact .inl h
  ·exact .inr ⟨e,by simp[he],hb⟩
def Closed (ops:Array Oper) (F:Nat→Prop):Prop:=∀i o,ops[i]? = some o→F i→∀e∈o.after.toList,Region.binds .any e=true→F e.on
theorem before_sub {ops:Array Oper}{F:Nat→Prop}(hF:Closed ops F) (hedge:∀i o,ops[i]? = some o→∀e∈o.after.toList,Region.binds .any e=true→e.on<i) :
  ∀i o,ops[i]? = some o→(∀e∈o.after.toList,Region.binds .any e=true→F e.on)→∀j,(((beforeOf ops.toList []).toArray).getD i 0).testBit j=true→F j:=by
 intro i
 induction i using Nat.strongRecOn with
 | _ i ih=>
  intro o ho hpre j hj
  obtain⟨_,h2,h3⟩:=beforeOf_spec ops.toList []
  have hi:i<ops.toList.length:=by simpa using (Array.getElem?_eq_some_iff.1 ho).1
  have hoi:ops.toList[i]=o:=by
   have:=(Array.getElem?_eq_some_iff.1 ho).2
   simpa using this
  have h3:=h3 i hi
  simp only[List.length_nil,Nat.zero_add,hoi] at h3
  rw[Array.getD_eq_getD_getElem?,List.getElem?_toArray,h3] at hj
  simp only[Option.getD_some] at hj
  rw[← Array.foldl_toList] at hj
  rcases foldl_bits (fun x=>((beforeOf ops.toList []).take i).getD x 0) o.after.toList 0 j hj with h | ⟨e,he,hb,h⟩
  ·simp at h
  ·have hlt:=hedge i o ho e he hb
   rcases h with h | h
   ·subst h;exact hpre e he hb
   ·have hin:e.on<ops.size:=by
     have:i<ops.size:=by simpa using hi
     omega
    refine ih e.on hlt ops[e.on] (Array.getElem?_eq_getElem hin) (fun e' he' hb'=>hF e.on _ (Array.getElem?_eq_getElem hin) (hpre e he hb) e' he' hb') j ?_
    rw[Array.getD_eq_getD_getElem?,List.getElem?_toArray]
    simp only[List.getD_eq_getElem?_getD,List.getElem?_take,hlt,if_true] at h
    exact h
theorem itsFrom_mem {P:Program}{lay:Lay}{n:Nat}{ops:Array Oper}{b:Array Nat}:∀{l:List Oper}{i0:Nat}{x:It},x∈itsFrom P lay n ops b l i0→∃j o,l[j]? = some o∧x=itOf P lay n ops b (i0+j) o
 | [],_,_,h=>by simp[itsFrom] at h
 | o::r,i0,x,h=>by
  simp only[itsFrom,List.mem_cons] at h
  rcases h with rfl | h
  ·exact⟨0,o,rfl,rfl⟩
  ·obtain⟨j,o',h1,h2⟩:=itsFrom_mem h
   exact⟨j+1,o',by simpa using h1,by rw[h2];congr 1;omega⟩
theorem itsFrom_of {P:Program}{lay:Lay}{n:Nat}{ops:Array Oper}{b:Array Nat}:∀{l:List Oper}{i0 j:Nat}{o:Oper},l[j]? = some o→itOf P lay n ops b (i0+j) o∈itsFrom P lay n ops b l i0
 | [],_,_,_,h=>by simp at h
 | o'::r,i0,0,o,h=>by simp at h;subst h;simp[itsFrom]
 | o'::r,i0,j+1,o,h=>by
  have:=itsFrom_of (P:=P) (lay:=lay) (n:=n) (ops:=ops) (b:=b) (l:=r) (i0:=i0+1) (j:=j) (o:=o) (by simpa using h)
  rw[show i0+1+j=i0+(j+1) by omega] at this
  simp[itsFrom,this]
def itsR (P:Program) (lay:Lay) (n:Nat) (ops:Array Oper):List It:=itsFrom P lay n ops (beforeOf ops.toList []).toArray ops.toList 0
section
variable {P:Program}{lay:Lay}{n:Nat}{ops:Array Oper}
theorem its_of {i:Nat}{o:Oper}(ho:ops[i]? = some o):itOf P lay n ops (beforeOf ops.toList []).toArray i o∈itsR P lay n ops:=by
 have:=itsFrom_of (P:=P) (lay:=lay) (n:=n) (ops:=ops) (b:=(beforeOf ops.toList []).toArray) (l:=ops.toList) (i0:=0) (j:=i) (o:=o) (by simpa using ho)
 simpa[itsR] using this
theorem its_mem {x:It}(hx:x∈itsR P lay n ops):∃o,ops[x.i]? = some o∧x=itOf P lay n ops (beforeOf ops.toList []).toArray x.i o:=by
 obtain⟨j,o,h1,h2⟩:=itsFrom_mem hx
 have hi:x.i=j:=by rw[h2];simp[itOf]
 refine⟨o,by rw[hi];simpa using h1,?_⟩
 rw[hi,h2]
 simp
theorem its_inj {x y:It}(hx:x∈itsR P lay n ops) (hy:y∈itsR P lay n ops) (h:x.i=y.i):x=y:=by
 obtain⟨o,h1,h2⟩:=its_mem hx
 obtain⟨o',h3,h4⟩:=its_mem hy
 rw[h] at h1
 rw[h1] at h3
 simp only[Option.some.injEq] at h3
 subst h3
 rw[h2,h4,h]
theorem edge_of (hk:drawOk n ops (itsR P lay n ops)=true):∀i o,ops[i]? = some o→∀e∈o.after.toList,Region.binds .any e=true→e.on<i:=by
 intro i o ho e he hb
 have:=List.all_eq_true.1 hk _ (its_of ho)
 simp only[Bool.and_eq_true] at this
 have h1:=this.1.1
 simp only[edgesOk,itOf,ho] at h1
 rw[← Array.all_toList] at h1
 have:=List.all_eq_true.1 h1 e he
 rw[hb] at this
 simp only[Bool.not_true,Bool.false_or] at this
 exact of_decide_eq_true this
theorem pair_of (hk:drawOk n ops (itsR P lay n ops)=true) {x y:It}(hx:x∈itsR P lay n ops) (hy:y∈itsR P lay n ops):pairOk n x y=true:=by
 have:=List.all_eq_true.1 hk _ hx
 simp only[Bool.and_eq_true] at this
 exact List.all_eq_true.1 this.2 _ hy
theorem wr_ds (hk:drawOk n ops (itsR P lay n ops)=true) {x:It}(hx:x∈itsR P lay n ops) {p:Nat}(hp:p∈x.wr):p∈x.ds:=by
 have:=List.all_eq_true.1 hk _ hx
 simp only[Bool.and_eq_true] at this
 simpa using List.all_eq_true.1 this.1.2 _ hp
theorem mem_meets {a b:List Nat}{p:Nat}(ha:p∈a) (hb:p∈b):p∈meets a b:=by
 simp[meets,ha,hb]
theorem touch_cases (hk:drawOk n ops (itsR P lay n ops)=true) {x y:It}(hx:x∈itsR P lay n ops) (hy:y∈itsR P lay n ops) (hne:x.i≠y.i) {p:Nat}(hp:p∈touch x y) :
  y.before.testBit x.i=true∨(x.eff=true∧p<n∧x.before.testBit y.i=true):=by
 have:=pair_of hk hx hy
 simp only[pairOk,if_neg hne,Bool.or_eq_true,Bool.and_eq_true] at this
 rcases this with (h | h) | ⟨⟨h1,h2⟩,h3⟩
 ·rw[List.isEmpty_iff] at h;rw[h] at hp;simp at hp
 ·exact .inl h
 ·exact .inr ⟨h1,by simpa using List.all_eq_true.1 h2 p hp,h3⟩
theorem self_cases (hk:drawOk n ops (itsR P lay n ops)=true) {x:It}(hx:x∈itsR P lay n ops) {p:Nat}(hp:p∈x.wr) (hp':p∈x.rd∨p∈x.op):x.eff=true∧p<n:=by
 have:=pair_of hk hx hx
 simp only[pairOk,if_true] at this
 have:=List.all_eq_true.1 this p (mem_meets hp (List.mem_append.2 hp'))
 simpa using this
def Unl (listed:Array Bool) (i:Nat):Prop:=listed.getD i false=false
def Lst (listed:Array Bool) (i:Nat):Prop:=listed.getD i false=true
theorem dstPos_wr {o:Oper}{p:Nat}:p∈dstPos lay o↔Wr lay o p:=by
 unfold dstPos Wr
 constructor
 ·intro h
  split at h
  ·rename_i t ht
   split at h
   ·rename_i i k hi
    simp only[List.mem_singleton] at h
    subst h
    exact⟨t,k,ht,hi⟩
   ·simp at h
  ·simp at h
 ·rintro⟨t,k,h1,h2⟩
  simp[h1,h2]
def LL (lay:Lay) (ops:Array Oper) (n:Nat) (listed:Array Bool) (D:Nat) (p:Nat):Prop:=∀i o,ops[i]? = some o→Wr lay o p→Lst listed i∨(p<n∧D.testBit i=false)
structure Inv (P:Program) (lay:Lay) (n:Nat) (ops:Array Oper) (listed:Array Bool) (D:Nat) (past:List It) (e:Env) (h:Heap):Prop where
 sz:listed.size=ops.size
 sub:∀i o,ops[i]? = some o→Lst listed i→D.testBit i=true
 clS:Closed ops (Lst listed)
 clD:Closed ops fun i=>D.testBit i=true
 effS:∀x∈itsR P lay n ops,x.eff=true→D.testBit x.i=true→Lst listed x.i
 idem:∀x∈itsR P lay n ops,x.eff=false→D.testBit x.i=true→Unl listed x.i→Idem x.s e h
 past:∀x∈itsR P lay n ops,x.eff=false→D.testBit x.i=true→x∈past
theorem isN_of {x:It}(hx:x∈itsR P lay n ops) (he:x.eff=false):isN x.s=true:=by
 obtain⟨o,_,h⟩:=its_mem hx
 rw[h] at he ⊢
 simp only[itOf,isEff,Bool.or_eq_false_iff,Bool.not_eq_false'] at he ⊢
 exact he.1
theorem it_rd {x:It}(hx:x∈itsR P lay n ops):x.rd=x.s.rd∧(∀p∈x.s.wk,p∈x.op)∧(∀p∈x.s.wr,p∈x.wr)∧x.cw=x.s.cw:=by
 obtain⟨o,_,h⟩:=its_mem hx
 rw[h]
 exact⟨rfl,fun p hp=>by simp[itOf] at hp ⊢;simp[hp],fun p hp=>by simp[itOf] at hp ⊢;simp[hp],rfl⟩
theorem in_touch_wr {x y:It}{p:Nat}(h1:p∈x.wr) (h2:p∈y.rd∨p∈y.op∨p∈y.wr∨p∈y.cw):p∈touch x y:=by
 unfold touch
 refine List.mem_append.2 (.inl (mem_meets h1 ?_))
 simp only[List.mem_append]
 rcases h2 with h | h | h | h<;>simp[h]
theorem in_touch_cw {x y:It}{p:Nat}(h1:p∈x.cw) (h2:p∈y.rd∨p∈y.wr∨p∈y.cw):p∈touch x y:=by
 unfold touch
 refine List.mem_append.2 (.inr (mem_meets h1 ?_))
 simp only[List.mem_append]
 rcases h2 with h | h | h<;>simp[h]
theorem ready_iff {d:Nat}{i:Nat}{o:Oper}(ho:ops[i]? = some o):readyIt d ops i=true↔∀e∈o.after.toList,Region.binds .any e=true→d.testBit e.on=true:=by
 unfold readyIt
 rw[ho]
 simp only
 rw[← Array.all_toList,List.all_eq_true]
 constructor
 ·intro h e he hb
  have:=h e he
  simpa[hb] using this
 ·intro h e he
  cases hb:Region.binds .any e
  ·simp
  ·simp[h e he hb]
theorem testBit_set (d i j:Nat):(d|||2^i).testBit j=(d.testBit j||decide (i=j)):=by
 rw[Nat.testBit_or,Nat.testBit_two_pow]
theorem advance (hk:drawOk n ops (itsR P lay n ops)=true) {k:Env→Heap→Prop}{h:Heap}{listed:Array Bool}{T:Pl}:∀(rest:List It) (d:Nat) (e:Env),(∀x∈rest,x∈itsR P lay n ops) →
  (∀x∈itsR P lay n ops,x.eff=false→d.testBit x.i=true→Unl listed x.i→Idem x.s e h)→(Closed ops fun i=>d.testBit i=true) →
  (stepsP (freeOf ops rest d).1 T).wp P k e h →
  ∃e2,T.wp P k e2 h∧e2.length=e.length∧(∀p,(∀y∈(freeOf ops rest d).1,p∉y.s.wr)→eget e2 p=eget e p) ∧
   (∀x∈itsR P lay n ops,x.eff=false→(freeOf ops rest d).2.testBit x.i=true→Unl listed x.i→Idem x.s e2 h) ∧
   (Closed ops fun i=>(freeOf ops rest d).2.testBit i=true) ∧
   (∀i,d.testBit i=true→(freeOf ops rest d).2.testBit i=true) ∧
   (∀i,(freeOf ops rest d).2.testBit i=true→d.testBit i=true∨∃y∈(freeOf ops rest d).1,y.i=i) ∧
   (∀y∈(freeOf ops rest d).1,y∈rest∧y.eff=false∧d.testBit y.i=false∧(freeOf ops rest d).2.testBit y.i=true)
 | [],d,e,_,hidem,hcl,hw=>by
  simp only[freeOf,stepsP] at hw ⊢
  exact⟨e,hw,rfl,fun _ _=>rfl,hidem,hcl,fun _ h=>h,fun _ h=>.inl h,by simp⟩
 | x::r,d,e,hrest,hidem,hcl,hw=>by
  have hrest':∀y∈r,y∈itsR P lay n ops:=fun y hy=>hrest y (by simp[hy])
  by_cases hc:(!x.eff && !d.testBit x.i&&readyIt d ops x.i)=true
  ·simp only[Bool.and_eq_true,Bool.not_eq_true'] at hc
   have hfr:freeOf ops (x::r) d=(x::(freeOf ops r (d|||2^x.i)).1,(freeOf ops r (d|||2^x.i)).2):=by
    simp only[freeOf,hc.1.1,hc.1.2,hc.2,Bool.not_false,Bool.and_self,if_true]
   rw[hfr] at hw ⊢
   simp only[stepsP,Pl.wp] at hw
   have hxm:=hrest x (by simp)
   obtain⟨o,ho,hxo⟩:=its_mem hxm
   have hN:=isN_of hxm hc.1.1
   obtain⟨dd,v,hv,hk1⟩:=(nwp hN).1 hw
   have hwr:∀p,dd=some p→p∈x.wr:=fun p hp=>(it_rd hxm).2.2.1 p (nv_wr hN hv p hp)
   have hready:=(ready_iff ho).1 hc.2
   -- the others are not touched
   have hoth:∀y∈itsR P lay n ops,y.eff=false→d.testBit y.i=true→∀p,dd=some p→p∉y.rd∧p∉y.op∧p∉y.wr:=by
    intro y hy hye hyd p hp
    have hne:x.i≠y.i:=fun he=>by rw[he,hyd] at hc;simp at hc
    have hno:p∉touch x y:=by
     intro ht
     rcases touch_cases hk hxm hy hne ht with h1 | ⟨h1,_,_⟩
     ·obtain⟨o',ho',hyo⟩:=its_mem hy
      have:d.testBit x.i=true:=by
       refine before_sub hcl (edge_of hk) y.i o' ho' (fun e he hb=>hcl y.i o' ho' hyd e he hb) x.i ?_
       rw[hyo] at h1
       simpa[itOf] using h1
      rw[hc.1.2] at this
      simp at this
     ·rw[hc.1.1] at h1;simp at h1
    exact⟨fun h=>hno (in_touch_wr (hwr p hp) (.inl h)),fun h=>hno (in_touch_wr (hwr p hp) (.inr (.inl h))),fun h=>hno (in_touch_wr (hwr p hp) (.inr (.inr (.inl h))))⟩
   have hidem1:∀y∈itsR P lay n ops,y.eff=false→(d|||2^x.i).testBit y.i=true→Unl listed y.i→Idem y.s (dput dd v e) h:=by
    intro y hy hye hyd hyu
    rw[testBit_set] at hyd
    by_cases hxy:x.i=y.i
    ·have:=its_inj hxm hy hxy
     subst this
     refine Idem.self hN hv fun p hp=>?_
     have hpw:=(it_rd hxm).2.2.1 p hp
     refine⟨fun hr=>?_,fun hr=>?_⟩
     ·have:=(self_cases hk hxm hpw (.inl (by rw[(it_rd hxm).1];exact hr))).1
      rw[hc.1.1] at this;simp at this
     ·have:=(self_cases hk hxm hpw (.inr ((it_rd hxm).2.1 p hr))).1
      rw[hc.1.1] at this;simp at this
    ·have hyd':d.testBit y.i=true:=by simpa[hxy] using hyd
     have hyN:=isN_of hy hye
     have hsame:∀p,(p∈y.s.rd∨p∈y.s.wk∨p∈y.s.wr)→eget (dput dd v e) p=eget e p:=by
      intro p hp
      refine dput_ne fun q hq he=>?_
      subst he
      obtain⟨g1,g2,g3⟩:=hoth y hy hye hyd' q hq
      rcases hp with hp | hp | hp
      ·exact g1 (by rw[(it_rd hy).1];exact hp)
      ·exact g2 ((it_rd hy).2.1 q hp)
      ·exact g3 ((it_rd hy).2.2.1 q hp)
     refine (hidem y hy hye hyd' hyu).congr hyN (dput_length _ _ _) (fun p hp=>(hsame p (.inl hp)).symm) (fun p hp hs=>by rw[hsame p (.inr (.inl hp))];exact hs) (fun p hp=>(hsame p (.inr (.inr hp))).symm) ?_
     unfold LdSame
     split
     ·rename_i g d' a sz hs
      intro _
      congr 1
      apply oget_congr
      intro p hp
      exact hsame p (.inl (by rw[hs];simp[S.rd,A.rd,hp]))
     ·trivial
   have hcl1:Closed ops fun i=>(d|||2^x.i).testBit i=true:=by
    intro i o' ho' hi e' he' hb
    simp only[testBit_set] at hi ⊢
    by_cases hxi:x.i=i
    ·subst hxi
     rw[ho] at ho'
     simp only[Option.some.injEq] at ho'
     subst ho'
     simp[hready e' he' hb]
    ·simp only[hxi,decide_false,Bool.or_false] at hi
     simp[hcl i o' ho' hi e' he' hb]
   obtain⟨e2,g1,g2,g3,g4,g5,g6,g7,g8⟩:=advance hk r (d|||2^x.i) (dput dd v e) hrest' hidem1 hcl1 hk1
   refine⟨e2,g1,g2.trans (dput_length _ _ _),?_,g4,g5,?_,?_,?_⟩
   ·intro p hp
    rw[g3 p fun y hy=>hp y (by simp[hy]),dput_ne]
    intro q hq he
    subst he
    exact hp x (by simp) (nv_wr hN hv q hq)
   ·intro i hi;exact g6 i (by rw[testBit_set,hi];rfl)
   ·intro i hi
    rcases g7 i hi with h1 | ⟨y,hy,h1⟩
    ·rw[testBit_set] at h1
     simp only[Bool.or_eq_true,decide_eq_true_eq] at h1
     rcases h1 with h1 | h1
     ·exact .inl h1
     ·exact .inr ⟨x,by simp,h1⟩
    ·exact .inr ⟨y,by simp[hy],h1⟩
   ·intro y hy
    rcases List.mem_cons.1 hy with rfl | hy
    ·exact⟨by simp,hc.1.1,hc.1.2,g6 y.i (by rw[testBit_set];simp)⟩
    ·obtain⟨q1,q2,q3,q4⟩:=g8 y hy
     rw[testBit_set] at q3
     simp only[Bool.or_eq_false_iff] at q3
     exact⟨by simp[q1],q2,q3.1,q4⟩
  ·have hfr:freeOf ops (x::r) d=freeOf ops r d:=by
    simp only[freeOf,hc,Bool.false_eq_true,if_false]
   rw[hfr] at hw ⊢
   obtain⟨e2,g1,g2,g3,g4,g5,g6,g7,g8⟩:=advance hk r d e hrest' hidem hcl hw
   exact⟨e2,g1,g2,g3,g4,g5,g6,g7,fun y hy=>by obtain⟨q1,q2,q3⟩:=g8 y hy;exact⟨by simp[q1],q2,q3⟩⟩
theorem again_spec {k:Env→Heap→Prop}{e:Env}{h:Heap}{x:It}{T:Pl}:∀{past:List It},(againP x past T).wp P k e h→T.wp P k e h ∧
  ∀y∈past,∀g d a sz,y.s=.act g (.ld d a sz)→x.before.testBit y.i=false→∃p,d=some p∧∃b,gcond e g=some b∧(b=true→hload h (a.get e) sz=eget e p)
 | [],hw=>⟨hw,by simp⟩
 | y::r,hw=>by
  have hstuck:∀(k:Env→Heap→Prop),(Pl.st (stuckS none) .done).wp P k e h→False:=by
   intro k hs
   simp[Pl.wp,stuckS,stuckA,S.wp,A.wp,PX.ev,O.get,undef] at hs
  simp only[againP] at hw
  split at hw
  ·rename_i g d a sz hs
   split at hw
   ·rename_i hb
    obtain⟨h1,h2⟩:=again_spec hw
    refine⟨h1,fun z hz g' d' a' sz' hzs hzb=>?_⟩
    rcases List.mem_cons.1 hz with rfl | hz
    ·rw[hb] at hzb;simp at hzb
    ·exact h2 z hz g' d' a' sz' hzs hzb
   ·simp only[Pl.wp] at hw
    have hre:∃b,gcond e g=some b∧(b=true→hload h (a.get e) sz=eget e d)∧(againP x r T).wp P k e h:=by
     cases g with
     | none=>simp only[S.wp] at hw;exact⟨true,rfl,fun _=>hw.1,hw.2⟩
     | some gg=>simpa only[S.wp] using hw
    obtain⟨b,hb,hbl,hw⟩:=hre
    obtain⟨h1,h2⟩:=again_spec hw
    refine⟨h1,fun z hz g' d' a' sz' hzs hzb=>?_⟩
    rcases List.mem_cons.1 hz with rfl | hz
    ·rw[hs] at hzs
     simp only[S.act.injEq,A.ld.injEq] at hzs
     obtain⟨rfl,rfl,rfl,rfl⟩:=hzs
     exact⟨d,rfl,b,hb,hbl⟩
    ·exact h2 z hz g' d' a' sz' hzs hzb
  ·exact (hstuck _ hw).elim
  ·rename_i hn1 hn2
   obtain⟨h1,h2⟩:=again_spec hw
   refine⟨h1,fun z hz g' d' a' sz' hzs hzb=>?_⟩
   rcases List.mem_cons.1 hz with rfl | hz
   ·cases d' with
    | none=>exact (hn2 _ _ _ hzs).elim
    | some p=>exact (hn1 _ _ _ _ hzs).elim
   ·exact h2 z hz g' d' a' sz' hzs hzb
theorem both_mem {k:Env→Heap→Prop}{e:Env}{h:Heap}{p:Pl}:∀{l:List Pl},(bothP l).wp P k e h→p∈l→p.wp P k e h
 | [],_,hp=>by simp at hp
 | [q],hw,hp=>by simp at hp;subst hp;exact hw
 | q::q'::r,hw,hp=>by
  simp only[bothP,Pl.wp] at hw
  rcases List.mem_cons.1 hp with rfl | hp
  ·exact hw.1
  ·exact both_mem (l:=q'::r) hw.2 hp
end
def cntU (listed:Array Bool):Nat→Nat
 | 0=>0
 | n+1=>(if listed.getD n false then 0 else 1)+cntU listed n
theorem getD_set {l:Array Bool}{i j:Nat}(hi:i<l.size):(l.setIfInBounds i true).getD j false=if i=j then true else l.getD j false:=by
 simp only[Array.getD_eq_getD_getElem?,Array.getElem?_setIfInBounds]
 split
 ·rename_i h;subst h;simp[hi]
 ·rfl
theorem cntU_set {l:Array Bool}{i:Nat}(hi:i<l.size) (hu:l.getD i false=false):∀n,(i<n→cntU (l.setIfInBounds i true) n+1=cntU l n)∧(n≤i→cntU (l.setIfInBounds i true) n=cntU l n)
 | 0=>⟨fun h=>by omega,fun _=>rfl⟩
 | n+1=>by
  obtain⟨h1,h2⟩:=cntU_set hi hu n
  simp only[cntU,getD_set hi]
  refine⟨fun h=>?_,fun h=>?_⟩
  ·by_cases hin:i=n
   ·subst hin
    have:=h2 (Nat.le_refl _)
    simp[hu,this];omega
   ·have:=h1 (by omega)
    simp only[if_neg hin]
    omega
  ·have hin:i≠n:=by omega
   simp only[if_neg hin]
   rw[h2 (by omega)]
theorem cntU_zero {l:Array Bool}:∀{n},cntU l n=0→∀i<n,l.getD i false=true
 | 0,_,i,hi=>by omega
 | n+1,h,i,hi=>by
  simp only[cntU] at h
  by_cases hin:i=n
  ·subst hin
   cases hb:l.getD i false
   ·simp[hb] at h
   ·rfl
  ·exact cntU_zero (n:=n) (by omega) i (by omega)
section
variable {P:Program}{base:Nat}{lay:Lay}{n:Nat}{ops:Array Oper}
theorem mem_ready {listed:Array Bool}(hsz:listed.size=ops.size) {i:Nat}:i∈Region.ready .any ops listed↔∃o,ops[i]? = some o∧Unl listed i∧∀e∈o.after.toList,Region.binds .any e=true→Lst listed e.on:=by
 unfold Region.ready
 rw[List.mem_filter]
 constructor
 ·rintro⟨h1,h2⟩
  have hi:i<ops.size:=by simpa using h1
  have ho:ops[i]? = some ops[i]:=Array.getElem?_eq_getElem hi
  rw[ho] at h2
  simp only[Option.map_some,Option.getD_some,Bool.and_eq_true,Bool.not_eq_true'] at h2
  refine⟨_,ho,?_,?_⟩
  ·have:listed.getD i true=listed.getD i false:=by
    simp only[Array.getD_eq_getD_getElem?,Array.getElem?_eq_getElem (show i<listed.size by omega),Option.getD_some]
   unfold Unl;rw[← this];exact h2.1
  ·intro e he hb
   have h3:=h2.2
   rw[← Array.all_toList] at h3
   have:=List.all_eq_true.1 h3 e he
   rw[hb] at this
   simpa[Lst] using this
 ·rintro⟨o,ho,hu,hp⟩
  have hi:i<ops.size:=(Array.getElem?_eq_some_iff.1 ho).1
  refine⟨by simpa using hi,?_⟩
  rw[ho]
  simp only[Option.map_some,Option.getD_some,Bool.and_eq_true,Bool.not_eq_true']
  refine⟨?_,?_⟩
  ·have:listed.getD i true=listed.getD i false:=by
    simp only[Array.getD_eq_getD_getElem?,Array.getElem?_eq_getElem (show i<listed.size by omega),Option.getD_some]
   rw[this];exact hu
  ·rw[← Array.all_toList,List.all_eq_true]
   intro e he
   cases hb:Region.binds .any e
   ·simp
   ·simpa[Lst] using hp e he hb
theorem all_listed (hk:drawOk n ops (itsR P lay n ops)=true) {listed:Array Bool}(hsz:listed.size=ops.size) (hr:Region.ready .any ops listed=[]):∀i o,ops[i]? = some o→Lst listed i:=by
 intro i
 induction i using Nat.strongRecOn with
 | _ i ih=>
  intro o ho
  cases hu:listed.getD i false with
  | true=>exact hu
  | false=>
   exfalso
   have:i∈Region.ready .any ops listed:=(mem_ready hsz).2 ⟨o,ho,hu,fun e he hb=>by
    have hlt:=edge_of hk i o ho e he hb
    have hin:e.on<ops.size:=by have:=(Array.getElem?_eq_some_iff.1 ho).1;omega
    exact ih e.on hlt _ (Array.getElem?_eq_getElem hin)⟩
   rw[hr] at this
   simp at this
theorem St.envc {e e2:Env}{h:Heap}{w:World}{a:Act}{L:Nat→Prop}(S:St base lay L e h w a) (hlen:e2.length=e.length) (hs:∀p,L p→eget e2 p=eget e p):St base lay L e2 h w a:=by
 obtain⟨blk,hcov,hinj⟩:=S.cov
 refine⟨⟨blk,?_,?_⟩,S.sub,S.sz,S.low,by rw[hlen];exact S.len⟩
 ·intro i t k hi hl
  exact (hcov i t k hi hl).keep (.inl (hs i hl)) rfl rfl (fun _ _ _=>.inr rfl) (fun _ _ _ hb=>hb)
 ·intro i j hi hj ai aj hij
  have back:∀x,L x→Act' lay e2 x→Act' lay e x:=by
   rintro x hx ⟨t,k,v,h1,h2,h3⟩
   exact⟨t,k,v,h1,h2,by rw[← hs x hx];exact h3⟩
  exact hinj i j hi hj (back i hi ai) (back j hj aj) hij
theorem mem_opPos:∀{l:List Operand}{t i:Nat}{k:Knd},Operand.tmp t∈l→lfind lay t=some (i,k)→i∈opPos lay l∧∀j off,k=.al j off→j∈opPos lay l
 | [],_,_,_,h,_=>by simp at h
 | x::l,t,i,k,h,hf=>by
  rcases List.mem_cons.1 h with rfl | h
  ·simp only[opPos,posOf,hf]
   cases k with
   | al j off=>exact⟨by simp,fun j' off' h=>by cases h;simp⟩
   | pl=>exact⟨by simp,by simp⟩
   | bx=>exact⟨by simp,by simp⟩
   | ps m=>exact⟨by simp,by simp⟩
  ·obtain⟨h1,h2⟩:=mem_opPos h hf
   cases x<;>simp only[opPos]
   ·exact⟨List.mem_append.2 (.inr h1),fun j off hk=>List.mem_append.2 (.inr (h2 j off hk))⟩
   all_goals exact⟨h1,h2⟩
theorem tree_any (hd:Dist lay) (hk:drawOk n ops (itsR P lay n ops)=true) {k:Env→Heap→Prop}{Q:Exit→Act→World→Prop}:∀(fuel tf:Nat) (listed:Array Bool) (D:Nat) (past:List It) (e:Env) (h:Heap) (w:World) (a:Act),
  Inv P lay n ops listed D past e h→cntU listed ops.size≤fuel→St base lay (LL lay ops n listed D) e h w a →
  (nodeP ops (itsR P lay n ops) (treeP ops (itsR P lay n ops) tf) D past).wp P k e h →
  (∀e' h' a' w',k e' h'→St base lay (fun _=>True) e' h' w' a'→FrB base h w h' w'→SameA a a'→Q .normal a' w') →
  wpAny P .any ops Q fuel listed a w:=by
 have hstuck:∀(k:Env→Heap→Prop) (e:Env) (h:Heap),(Pl.st (stuckS none) .done).wp P k e h→False:=by
  intro k e h hs
  simp[Pl.wp,stuckS,stuckA,Go.Proofs.YtjbjnicobdpdhaaGreatDoor.S.wp,A.wp,PX.ev,O.get,undef] at hs
 -- the end
 have fin:∀(tf:Nat) (listed:Array Bool) (D:Nat) (past:List It) (e:Env) (h:Heap) (w:World) (a:Act),
   Inv P lay n ops listed D past e h→St base lay (LL lay ops n listed D) e h w a→(nodeP ops (itsR P lay n ops) (treeP ops (itsR P lay n ops) tf) D past).wp P k e h →
   (∀e' h' a' w',k e' h'→St base lay (fun _=>True) e' h' w' a'→FrB base h w h' w'→SameA a a'→Q .normal a' w')→(∀i o,ops[i]? = some o→Lst listed i)→Q .normal a w:=by
  intro tf listed D past e h w a I T hw hQ hall
  simp only[nodeP] at hw
  split at hw
  ·have hbr:((itsR P lay n ops).filter fun x=>x.eff && !D.testBit x.i&&readyIt D ops x.i)=[]:=by
    rw[List.filter_eq_nil_iff]
    intro x hx
    obtain⟨o,ho,_⟩:=its_mem hx
    simp[I.sub x.i o ho (hall x.i o ho)]
   rw[hbr] at hw
   simp only[List.map_nil,bothP,Pl.wp] at hw
   exact hQ e h a w hw (T.weaken fun p _ i o ho _=>.inl (hall i o ho)) (FrB.refl _ _ _) ⟨rfl,rfl⟩
  ·exact (hstuck _ _ _ hw).elim
 intro fuel
 induction fuel with
 | zero=>
  intro tf listed D past e h w a I hc T hw hQ
  have hall:∀i o,ops[i]? = some o→Lst listed i:=fun i o ho=>cntU_zero (by omega) i (Array.getElem?_eq_some_iff.1 ho).1
  refine⟨?_,fin tf listed D past e h w a I T hw hQ hall⟩
  rw[List.eq_nil_iff_forall_not_mem]
  intro i hi
  obtain⟨o,ho,hu,_⟩:=(mem_ready I.sz).1 hi
  have:=hall i o ho
  unfold Lst at this
  unfold Unl at hu
  rw[hu] at this
  simp at this
 | succ fuel ih=>
  intro tf listed D past e h w a I hc T hw hQ
  refine⟨fun hr=>fin tf listed D past e h w a I T hw hQ (all_listed hk I.sz hr),?_⟩
  intro i hi
  obtain⟨o,ho,hu,hpre⟩:=(mem_ready I.sz).1 hi
  have hisz:i<ops.size:=(Array.getElem?_eq_some_iff.1 ho).1
  have hlsz:i<listed.size:=by rw[I.sz];exact hisz
  have hxm:=its_of (P:=P) (lay:=lay) (n:=n) ho
  generalize hx:itOf P lay n ops (beforeOf ops.toList []).toArray i o=x at hxm
  have hxi:x.i=i:=by rw[← hx];rfl
  have hxs:x.s=cop P lay ops o:=by rw[← hx];rfl
  have hxop:x.op=x.s.wk++opPos lay o.op.operands.toList++gdPos lay ops o:=by rw[← hx];rfl
  have hxds:x.ds=dstPos lay o:=by rw[← hx];rfl
  -- whoever stands ahead has been done
  have hbefore:∀j,x.before.testBit j=true→Lst listed j:=by
   intro j hj
   refine before_sub I.clS (edge_of hk) i o ho hpre j ?_
   rw[← hx] at hj
   exact hj
  have hnotbefore:∀y∈itsR P lay n ops,Lst listed y.i→y.before.testBit i=false:=by
   intro y hy hl
   cases hb:y.before.testBit i with
   | false=>rfl
   | true=>
    obtain⟨oy,hoy,hyy⟩:=its_mem hy
    have:Lst listed i:=by
     refine before_sub I.clS (edge_of hk) y.i oy hoy (fun e he hb'=>I.clS y.i oy hoy hl e he hb') i ?_
     rw[hyy] at hb
     exact hb
    unfold Lst at this
    unfold Unl at hu
    rw[hu] at this
    simp at this
  -- its operands can be trusted
  have hOp:∀p∈x.op,(x.eff=true→D.testBit i=false)→LL lay ops n listed D p:=by
   intro p hp hself j oj hoj hw'
   have hym:=its_of (P:=P) (lay:=lay) (n:=n) hoj
   generalize hy:itOf P lay n ops (beforeOf ops.toList []).toArray j oj=y at hym
   have hyi:y.i=j:=by rw[← hy];rfl
   have hywr:p∈y.wr:=by rw[← hy];simp only[itOf];exact List.mem_append.2 (.inr (dstPos_wr.2 hw'))
   by_cases hij:y.i=x.i
   ·have:=its_inj hym hxm hij
    subst this
    obtain⟨h1,h2⟩:=self_cases hk hym hywr (.inr hp)
    have:j=i:=by rw[← hyi,hxi]
    subst this
    exact .inr ⟨h2,hself h1⟩
   ·rcases touch_cases hk hym hxm hij (in_touch_wr hywr (.inr (.inl hp))) with h1 | ⟨h1,h2,h3⟩
    ·left;rw[← hyi];exact hbefore y.i h1
    ·right
     refine⟨h2,?_⟩
     cases hDj:D.testBit j with
     | false=>rfl
     | true=>
      have hl:=I.effS y hym h1 (by rw[hyi];exact hDj)
      have:=hnotbefore y hym hl
      rw[hxi] at h3
      rw[h3] at this
      simp at this
  have hOpL:(x.eff=true→D.testBit i=false)→OpL lay (LL lay ops n listed D) o:=by
   intro hself t ht i' k' hf
   obtain⟨h1,h2⟩:=mem_opPos (l:=o.op.operands.toList) (by simpa using ht) hf
   exact⟨hOp i' (by rw[hxop];simp[h1]) hself,fun j off hk'=>hOp j (by rw[hxop];simp[h2 j off hk']) hself⟩
  have hGd:(x.eff=true→D.testBit i=false)→GdL lay (LL lay ops n listed D) ops o:=by
   intro hself j b t i' h1 h2 h3
   exact hOp i' (by rw[hxop];simp[gdPos,h1,h2,h3]) hself
  have hlist:∀j,(listed.setIfInBounds i true).getD j false=if i=j then true else listed.getD j false:=fun j=>getD_set hlsz
  have hLst':∀j,Lst (listed.setIfInBounds i true) j↔i=j∨Lst listed j:=by
   intro j;unfold Lst;rw[hlist];split<;>simp_all
  have hUnl':∀j,Unl (listed.setIfInBounds i true) j↔i≠j∧Unl listed j:=by
   intro j;unfold Unl;rw[hlist];split<;>simp_all
  have hclS':Closed ops (Lst (listed.setIfInBounds i true)):=by
   intro j oj hoj hl e' he' hb
   rw[hLst'] at hl ⊢
   rcases hl with rfl | hl
   ·rw[ho] at hoj;simp only[Option.some.injEq] at hoj;subst hoj
    exact .inr (hpre e' he' hb)
   ·exact .inr (I.clS j oj hoj hl e' he' hb)
  have hcnt:cntU (listed.setIfInBounds i true) ops.size≤fuel:=by
   have:=(cntU_set hlsz hu ops.size).1 hisz
   omega
  have hready:readyIt D ops i=true:=(ready_iff ho).2 fun e' he' hb=>by
   have hl:=hpre e' he' hb
   have hlt:=edge_of hk i o ho e' he' hb
   exact I.sub e'.on _ (Array.getElem?_eq_getElem (show e'.on<ops.size by omega)) hl
  simp only[nodeP] at hw
  split at hw
  case isFalse=>exact (hstuck _ _ _ hw).elim
  rename_i hsat
  cases hxe:x.eff with
  | false=>
   -- an operation without effect: it has been reckoned with
   have hD:D.testBit i=true:=by
    have:=List.all_eq_true.1 hsat x hxm
    rw[hxe,hxi,hready] at this
    simpa using this
   have hN:=isN_of hxm hxe
   obtain⟨d,v,hv,hdv⟩:=I.idem x hxm hxe (by rw[hxi];exact hD) (by rw[hxi];exact hu)
   have hself:x.eff=true→D.testBit i=false:=by intro h;rw[hxe] at h;simp at h
   have hwp:(cop P lay ops o).wp P (fun e' h'=>e'=e∧h'=h) e h:=by
    rw[← hxs]
    exact (nwp hN).2 ⟨d,v,hv,hdv,rfl⟩
   refine op_step hd T ho (hOpL hself) (hGd hself) hwp ?_
   rintro e' h' a' w' ⟨rfl,rfl⟩ T' hF hdf
   have I':Inv P lay n ops (listed.setIfInBounds i true) D past e' h':=by
    refine⟨by simp[I.sz],?_,hclS',I.clD,?_,?_,I.past⟩
    ·intro j oj hoj hl
     rw[hLst'] at hl
     rcases hl with rfl | hl
     ·exact hD
     ·exact I.sub j oj hoj hl
    ·intro y hy h1 h2;rw[hLst'];exact .inr (I.effS y hy h1 h2)
    ·intro y hy h1 h2 h3;rw[hUnl'] at h3;exact I.idem y hy h1 h2 h3.2
   refine ih tf _ D past e' h' w' a' I' hcnt ?_ (by simp only[nodeP];rw[if_pos hsat];exact hw) ?_
   ·refine T'.weaken fun p hp=>?_
    by_cases hwp:Wr lay o p
    ·exact .inr hwp
    ·left
     intro j oj hoj hw'
     rcases hp j oj hoj hw' with h1 | h1
     ·rw[hLst'] at h1
      rcases h1 with rfl | h1
      ·rw[ho] at hoj;simp only[Option.some.injEq] at hoj;subst hoj;exact absurd hw' hwp
      ·exact .inl h1
     ·exact .inr h1
   ·intro e2 h2 a2 w2 hk2 T2 hF2 hd2
    exact hQ e2 h2 a2 w2 hk2 T2 (hF.trans hF2) (hd2.trans hdf)
  | true=>
   -- an effect: a branch of the tree
   have hD:D.testBit i=false:=by
    cases hDi:D.testBit i with
    | false=>rfl
    | true=>
     have:=I.effS x hxm hxe (by rw[hxi];exact hDi)
     rw[hxi] at this
     unfold Lst at this
     unfold Unl at hu
     rw[hu] at this
     simp at this
   have hmem:x∈(itsR P lay n ops).filter fun x=>x.eff && !D.testBit x.i&&readyIt D ops x.i:=by
    rw[List.mem_filter]
    refine⟨hxm,?_⟩
    rw[hxi,hxe,hD,hready]
    rfl
   have hbr:=both_mem hw (List.mem_map.2 ⟨x,hmem,rfl⟩)
   simp only[Pl.wp] at hbr
   rw[hxs] at hbr
   -- the statement,with what it leaves
   have hbr':(cop P lay ops o).wp P (fun e' h'=>(againP x past (treeP ops (itsR P lay n ops) tf (D|||2^x.i) past)).wp P k e' h'∧Kp x.s e e') e h:=by
    rw[hxs]
    unfold cop at hbr ⊢
    split at hbr
    ·exact (hstuck _ _ _ (by simpa[Pl.wp] using hbr)).elim
    ·split at hbr
     ·exact (hstuck _ _ _ (by simpa[Pl.wp] using hbr)).elim
     ·exact Go.Proofs.YtjbjnicobdpdhaaGreatDoor.S.keep hbr
   refine op_step hd T ho (hOpL fun _=>hD) (hGd fun _=>hD) hbr' ?_
   rintro e' h' a' w' ⟨hagain,hKp⟩ T' hF hdf
   obtain⟨htree,hre⟩:=again_spec hagain
   cases tf with
   | zero=>simp only[treeP] at htree;exact (hstuck _ _ _ htree).elim
   | succ tf=>
    simp only[treeP] at htree
    rw[hxi] at htree
    -- what is pending is as it was
    have hpend:∀y∈itsR P lay n ops,y.eff=false→(D|||2^i).testBit y.i=true→Unl (listed.setIfInBounds i true) y.i→Idem y.s e' h':=by
     intro y hy hye hyD hyu
     rw[hUnl'] at hyu
     rw[testBit_set] at hyD
     have hyD':D.testBit y.i=true:=by simpa[hyu.1] using hyD
     have hid:=I.idem y hy hye hyD' hyu.2
     have hyN:=isN_of hy hye
     obtain⟨oy,hoy,hyy⟩:=its_mem hy
     have hyb:y.before.testBit i=false:=by
      cases hb:y.before.testBit i with
      | false=>rfl
      | true=>
       have:D.testBit i=true:=by
        refine before_sub I.clD (edge_of hk) y.i oy hoy (fun e he hb'=>I.clD y.i oy hoy hyD' e he hb') i ?_
        rw[hyy] at hb
        exact hb
       rw[hD] at this
       simp at this
     have hxb:x.before.testBit y.i=false:=by
      cases hb:x.before.testBit y.i with
      | false=>rfl
      | true=>
       have:=hbefore y.i hb
       unfold Lst at this
       have h2:=hyu.2
       unfold Unl at h2
       rw[h2] at this
       simp at this
     have hno:∀p,p∉touch x y:=by
      intro p hp
      have hne:x.i≠y.i:=by rw[hxi];exact hyu.1
      rcases touch_cases hk hxm hy hne hp with h1 | ⟨_,_,h1⟩
      ·rw[hxi,hyb] at h1;simp at h1
      ·rw[hxb] at h1;simp at h1
     obtain⟨q1,q2,q3,q4⟩:=it_rd hxm
     obtain⟨r1,r2,r3,r4⟩:=it_rd hy
     have hsame:∀p,(p∈y.s.rd∨p∈y.s.wr)→eget e' p=eget e p:=by
      intro p hp
      refine hKp.same p (fun hw=>?_) (fun hw=>?_)
      ·exact hno p (in_touch_wr (q3 p hw) (by rcases hp with hp | hp;exact .inl (by rw[r1];exact hp);exact .inr (.inr (.inl (r3 p hp)))))
      ·exact hno p (in_touch_cw (by rw[q4];exact hw) (by rcases hp with hp | hp;exact .inl (by rw[r1];exact hp);exact .inr (.inl (r3 p hp))))
     refine hid.congr hyN hKp.len (fun p hp=>(hsame p (.inl hp)).symm) (fun p hp hs=>hKp.ex p (fun hw=>hno p (in_touch_wr (q3 p hw) (.inr (.inl (r2 p hp))))) hs) (fun p hp=>(hsame p (.inr hp)).symm) ?_
     unfold LdSame
     split
     ·rename_i g d a0 sz hys
      intro hg
      obtain⟨p,rfl,b,hb,hbl⟩:=hre y (I.past y hy hye hyD') g d a0 sz hys hxb
      have hgc:gcond e' g=gcond e g:=gcond_congr fun p hp=>hsame p (.inl (by rw[hys];simp[Go.Proofs.YtjbjnicobdpdhaaGreatDoor.S.rd,hp]))
      rw[hgc,hg] at hb
      simp only[Option.some.injEq] at hb
      rw[hbl hb.symm]
      obtain⟨d',v',hv',hd'⟩:=hid
      rw[hys] at hv'
      simp only[S.nv,hg,if_true,A.nv] at hv'
      obtain⟨u,hu',he'⟩:=map_some2 hv'
      simp only[Prod.mk.injEq] at he'
      obtain⟨rfl,rfl⟩:=he'
      rw[hsame p (.inr (by rw[hys];simp[Go.Proofs.YtjbjnicobdpdhaaGreatDoor.S.wr,A.wrp])),hu']
      simp only[dput] at hd'
      have hpl:p<e.length:=by
       have hpw:p∈y.wr:=r3 p (by rw[hys];simp[Go.Proofs.YtjbjnicobdpdhaaGreatDoor.S.wr,A.wrp])
       have:=wr_ds hk hy hpw
       have:p∈dstPos lay oy:=by rw[hyy] at this;exact this
       obtain⟨t,kk,_,hf⟩:=dstPos_wr.1 this
       have hlt:=(List.getElem?_eq_some_iff.1 (lfind_spec hf)).1
       exact Nat.lt_of_lt_of_le hlt T.len
      exact eset_self_iff.1 hd' hpl
     ·trivial
    have hcl':Closed ops fun j=>(D|||2^i).testBit j=true:=by
     intro j oj hoj hl e2 he2 hb
     simp only[testBit_set,Bool.or_eq_true,decide_eq_true_eq] at hl ⊢
     rcases hl with hl | rfl
     ·exact .inl (I.clD j oj hoj hl e2 he2 hb)
     ·rw[ho] at hoj;simp only[Option.some.injEq] at hoj;subst hoj
      exact .inl ((ready_iff ho).1 hready e2 he2 hb)
    obtain⟨e2,g1,g2,g3,g4,g5,g6,g7,g8⟩:=advance hk (itsR P lay n ops) (D|||2^i) e' (fun _ hx=>hx) hpend hcl' htree
    generalize hfree:freeOf ops (itsR P lay n ops) (D|||2^i)=fr at g1 g3 g4 g5 g6 g7 g8
    have I':Inv P lay n ops (listed.setIfInBounds i true) fr.2 (past++fr.1) e2 h':=by
     refine⟨by simp[I.sz],?_,hclS',g5,?_,g4,?_⟩
     ·intro j oj hoj hl
      rw[hLst'] at hl
      refine g6 j ?_
      rw[testBit_set]
      rcases hl with rfl | hl
      ·simp
      ·simp[I.sub j oj hoj hl]
     ·intro y hy h1 h2
      rw[hLst']
      rcases g7 y.i h2 with h3 | ⟨z,hz,h3⟩
      ·rw[testBit_set] at h3
       simp only[Bool.or_eq_true,decide_eq_true_eq] at h3
       rcases h3 with h3 | h3
       ·exact .inr (I.effS y hy h1 h3)
       ·exact .inl h3
      ·obtain⟨z1,z2,_⟩:=g8 z hz
       have:=its_inj z1 hy h3
       subst this
       rw[h1] at z2;simp at z2
     ·intro y hy h1 h2
      rcases g7 y.i h2 with h3 | ⟨z,hz,h3⟩
      ·rw[testBit_set] at h3
       simp only[Bool.or_eq_true,decide_eq_true_eq] at h3
       rcases h3 with h3 | h3
       ·exact List.mem_append.2 (.inl (I.past y hy h1 h3))
       ·have:=its_inj hxm hy (by rw[hxi];exact h3)
        subst this
        rw[hxe] at h1;simp at h1
      ·obtain⟨z1,_,_⟩:=g8 z hz
       have:=its_inj z1 hy h3
       subst this
       exact List.mem_append.2 (.inr hz)
    have hLL:∀p,LL lay ops n (listed.setIfInBounds i true) fr.2 p→(LL lay ops n listed D p∨Wr lay o p)∧∀y∈fr.1,p∉y.s.wr:=by
     intro p hp
     refine⟨?_,?_⟩
     ·by_cases hwp:Wr lay o p
      ·exact .inr hwp
      ·left
       intro j oj hoj hw'
       rcases hp j oj hoj hw' with h1 | ⟨h1,h2⟩
       ·rw[hLst'] at h1
        rcases h1 with rfl | h1
        ·rw[ho] at hoj;simp only[Option.some.injEq] at hoj;subst hoj;exact absurd hw' hwp
        ·exact .inl h1
       ·right
        refine⟨h1,?_⟩
        cases hDj:D.testBit j with
        | false=>rfl
        | true=>rw[g6 j (by rw[testBit_set,hDj];rfl)] at h2;simp at h2
     ·intro y hy hpy
      obtain⟨y1,y2,y3,y4⟩:=g8 y hy
      obtain⟨oy,hoy,hyy⟩:=its_mem y1
      have hpw:=(it_rd y1).2.2.1 p hpy
      have hds:=wr_ds hk y1 hpw
      have hds':p∈dstPos lay oy:=by rw[hyy] at hds;exact hds
      rcases hp y.i oy hoy (dstPos_wr.1 hds') with h1 | ⟨_,h1⟩
      ·rw[hLst'] at h1
       rw[testBit_set] at y3
       simp only[Bool.or_eq_false_iff,decide_eq_false_iff_not] at y3
       rcases h1 with h1 | h1
       ·exact y3.2 h1
       ·have:=I.sub y.i oy hoy h1
        rw[y3.1] at this
        simp at this
      ·rw[y4] at h1;simp at h1
    refine ih tf _ fr.2 (past++fr.1) e2 h' w' a' I' hcnt ((T'.weaken fun p hp=>(hLL p hp).1).envc g2 fun p hp=>g3 p (hLL p hp).2) g1 ?_
    intro e3 h3 a3 w3 hk3 T3 hF3 hd3
    exact hQ e3 h3 a3 w3 hk3 T3 (hF.trans hF3) (hd3.trans hdf)
section
def HFin (h:Heap):Prop:=∃N,∀b,N≤b→h b=none
theorem HFin.le {h h':Heap}(hf:HFin h') (hl:h.le h'):HFin h:=by
 obtain⟨N,hN⟩:=hf
 refine⟨N,fun b hb=>?_⟩
 cases hh:h b with
 | none=>rfl
 | some o=>have:=hl b o hh;rw[hN b hb] at this;simp at this
theorem HFin.set {h:Heap}(hf:HFin h) (b:Nat) (o:Obj):HFin (h.set b o):=by
 obtain⟨N,hN⟩:=hf
 refine⟨max N (b+1),fun x hx=>?_⟩
 simp only[Heap.set]
 rw[if_neg (by omega)]
 exact hN x (by omega)
theorem HFin.fresh {h:Heap}(hf:HFin h) (c:Nat):∃b,b≠c∧h b=none:=by
 obtain⟨N,hN⟩:=hf
 exact⟨max N (c+1),by omega,hN _ (by omega)⟩
theorem HFin.sub {h:Heap}{w:World}(hs:h.sub w):HFin h:=by
 refine⟨w.heap.size,fun b hb=>?_⟩
 cases hh:h b with
 | none=>rfl
 | some o=>
  have:=hs b o hh
  rw[Array.getElem?_eq_none hb] at this
  simp at this
theorem hstore_some {h h':Heap}{b off:Nat}{vs:List Value}(hs:hstore h b off vs=some h'):∃c el,h b=some (.cells c el (0,0))∧h'=h.set b (.cells (setC c.toList off vs).toArray el (0,0))∧off+vs.length≤c.size∧vs.all Value.oneCell'=true:=by
 unfold hstore at hs
 split at hs
 ·rename_i c el fr hb
  split at hs
  ·rename_i hc
   obtain⟨rfl,h2,h3⟩:=hc
   simp only[Option.some.injEq] at hs
   exact⟨c,el,hb,hs.symm,h2,h3⟩
  ·simp at hs
 ·simp at hs
theorem hstore_of {h:Heap}{b off:Nat}{vs:List Value}{c:Array Value}{el:TypeId}(hb:h b=some (.cells c el (0,0))) (h2:off+vs.length≤c.size) (h3:vs.all Value.oneCell'=true):hstore h b off vs=some (h.set b (.cells (setC c.toList off vs).toArray el (0,0))):=by
 unfold hstore
 rw[hb]
 simp only
 rw[if_pos ⟨trivial,h2,h3⟩]
theorem set_comm {h:Heap}{b c:Nat}{o o':Obj}(hbc:b≠c):(h.set b o).set c o'=(h.set c o').set b o:=by
 funext x
 simp only[Heap.set]
 by_cases h1:x=c
 ·subst h1;simp[Ne.symm hbc]
 ·simp[h1]
theorem le_set {h h':Heap}(hl:h.le h') (b:Nat) (o:Obj):(h.set b o).le (h'.set b o):=by
 intro x o' hx
 simp only[Heap.set] at hx ⊢
 split at hx
 ·rename_i e;subst e;simpa using hx
 ·rename_i e;rw[if_neg e];exact hl x o' hx
theorem le_tr {a b c:Heap}(h1:a.le b) (h2:b.le c):a.le c:=fun x o h=>h2 x o (h1 x o h)
theorem le_rf {a:Heap}:a.le a:=fun _ _ h=>h
theorem eset_comm:∀(e:Env) {i j:Nat}{u v:Option Value},i≠j→eset (eset e i u) j v=eset (eset e j v) i u
 | [],_,_,_,_,_=>rfl
 | _::_,0,0,_,_,h=>absurd rfl h
 | _::_,0,_+1,_,_,_=>rfl
 | _::_,_+1,0,_,_,_=>rfl
 | _::t,i+1,j+1,_,_,h=>by simp only[eset];rw[eset_comm t (by omega)]
inductive RS where
 | pure (d:Nat) (v:Value)
 | alloc (d:Nat) (f:Nat→Value) (c:Array Value)
 | store (b off:Nat) (vs:List Value)
def RS.wp (k:Env→Heap→Prop) (e:Env) (h:Heap):RS→Prop
 | .pure d v=>k (eset e d (some v)) h
 | .alloc d f c=>∀b el,h b=none→Fgt k (eset e d (some (f b))) (h.set b (.cells c el (0,0)))
 | .store b off vs=>∃h',hstore h b off vs=some h'∧Fgt k e h'
def RS.dst:RS→List Nat
 | .pure d _=>[d]
 | .alloc d _ _=>[d]
 | .store _ _ _=>[]
def RS.isSt:RS→Bool
 | .store _ _ _=>true
 | _=>false
def rs (e:Env):S→Option RS
 | .act none (.px (some d) x)=>(x.ev e).map (.pure d)
 | .act none (.ex (some d) (.alloc x))=>(x.get e).map fun v=>.alloc d (fun b=>.pointer (some ⟨b,0,none⟩)) v.cells
 | .act none (.ex (some d) (.mks bytes _ zero len cap))=>match len.get e,cap.get e with
  | some (.int _ l),some (.int _ c)=>if 0≤l∧l≤c∧c.toNat<2^62∧bytes*c.toNat≤2^48 then some (.alloc d (fun b=>.slice (some ⟨b,0,none⟩) l.toNat c.toNat) (reps c.toNat zero).toArray) else none
  | _,_=>none
 | .act none (.ex none (.store sz a x))=>match a.get e,x.get e with
  | some (.pointer (some ⟨b,off,none⟩)),some v=>if v.cells.size=sz then some (.store b off v.cells.toList) else none
  | _,_=>none
 | _=>none
variable {P:Program}{k:Env→Heap→Prop}{e e2:Env}{h:Heap}
theorem rs_wp {s:S}(hs:skind s≠0):s.wp P k e h↔∃r,rs e s=some r∧r.wp k e h:=by
 unfold skind at hs
 split at hs
 ·rename_i d x
  simp only[S.wp,A.wp,rs,Option.map_eq_some_iff]
  constructor
  ·rintro⟨v,h1,h2⟩;exact⟨_,⟨v,h1,rfl⟩,h2⟩
  ·rintro⟨_,⟨v,h1,rfl⟩,h2⟩;exact⟨v,h1,h2⟩
 ·rename_i d x
  simp only[S.wp,A.wp,rs,EX.wp,Option.map_eq_some_iff]
  constructor
  ·rintro⟨v,h1,h2⟩;exact⟨_,⟨v,h1,rfl⟩,h2⟩
  ·rintro⟨_,⟨v,h1,rfl⟩,h2⟩;exact⟨v,h1,h2⟩
 ·rename_i d bytes esz zero len cap
  simp only[S.wp,A.wp,rs,EX.wp]
  constructor
  ·rintro⟨l,c,j,j',h1,h2,h3,h4,h5,h6⟩
   rw[h1,h2]
   simp only
   rw[if_pos (by simp;omega)]
   exact⟨_,rfl,fun b el hb=>by simpa[dput] using h6 b el hb⟩
  ·rintro⟨r,h1,h2⟩
   split at h1
   ·rename_i j l j' c hl hc
    split at h1
    ·rename_i hh
     simp only[Option.some.injEq] at h1
     subst h1
     refine⟨l.toNat,c.toNat,j,j',?_,?_,by omega,hh.2.2.1,hh.2.2.2,h2⟩
     ·rw[hl,Int.toNat_of_nonneg hh.1]
     ·rw[hc,Int.toNat_of_nonneg (by omega)]
    ·simp at h1
   ·simp at h1
 ·rename_i sz a x
  simp only[S.wp,A.wp,rs,EX.wp]
  constructor
  ·rintro⟨b,off,v,h',h1,h2,h3,h4,h5⟩
   rw[h1,h2]
   simp only[h3,if_true]
   exact⟨_,rfl,h',h4,h5⟩
  ·rintro⟨r,h1,h2⟩
   split at h1
   ·rename_i b off v ha hx
    split at h1
    ·rename_i hsz
     simp only[Option.some.injEq] at h1
     subst h1
     obtain⟨h',h3,h4⟩:=h2
     exact⟨b,off,v,h',ha,hx,hsz,h3,h4⟩
    ·simp at h1
   ·simp at h1
 ·exact absurd rfl hs
theorem rs_congr {s:S}(hs:skind s≠0) (hr:∀p∈crd s,eget e p=eget e2 p):rs e s=rs e2 s:=by
 unfold skind at hs
 split at hs
 ·simp only[rs];rw[ev_congr fun p hp=>hr p (by simp[crd,hp])]
 ·simp only[rs];rw[oget_congr fun p hp=>hr p (by simp[crd,hp])]
 ·rename_i d bytes esz zero len cap
  simp only[rs]
  rw[oget_congr (o:=len) fun p hp=>hr p (by simp[crd,hp]),oget_congr (o:=cap) fun p hp=>hr p (by simp[crd,hp])]
 ·rename_i sz a x
  simp only[rs]
  rw[oget_congr (o:=a) fun p hp=>hr p (by simp[crd,hp]),oget_congr (o:=x) fun p hp=>hr p (by simp[crd,hp])]
 ·exact absurd rfl hs
theorem rs_dst {s:S}{r:RS}(hr:rs e s=some r):(∀p∈r.dst,p∈cwr s)∧(r.isSt=true→skind s=3):=by
 unfold rs at hr
 split at hr
 ·simp only[Option.map_eq_some_iff] at hr
  obtain⟨v,_,rfl⟩:=hr
  simp[RS.dst,RS.isSt,cwr]
 ·simp only[Option.map_eq_some_iff] at hr
  obtain⟨v,_,rfl⟩:=hr
  simp[RS.dst,RS.isSt,cwr]
 ·split at hr
  ·split at hr
   ·simp only[Option.some.injEq] at hr;subst hr;simp[RS.dst,RS.isSt,cwr]
   ·simp at hr
  ·simp at hr
 ·split at hr
  ·split at hr
   ·simp only[Option.some.injEq] at hr;subst hr;simp[RS.dst,RS.isSt,skind]
   ·simp at hr
  ·simp at hr
 ·simp at hr
theorem RS.mono {k k':Env→Heap→Prop}{r:RS}(hk:∀e h,k e h→k' e h) (hr:r.wp k e h):r.wp k' e h:=by
 have hf:∀e h,Fgt k e h→Fgt k' e h:=fun e h ⟨h',h1,h2⟩=>⟨h',h1,hk _ _ h2⟩
 cases r with
 | pure d v=>exact hk _ _ hr
 | alloc d f c=>exact fun b el hb=>hf _ _ (hr b el hb)
 | store b off vs=>obtain⟨h',h1,h2⟩:=hr;exact⟨h',h1,hf _ _ h2⟩
theorem RS.fin {k:Env→Heap→Prop}{r:RS}(hF:HFin h) (hr:r.wp k e h):r.wp (fun e h=>HFin h∧k e h) e h:=by
 cases r with
 | pure d v=>exact⟨hF,hr⟩
 | alloc d f c=>
  intro b el hb
  obtain⟨h',h1,h2⟩:=hr b el hb
  exact⟨h',h1,(hF.set _ _).le h1,h2⟩
 | store b off vs=>
  obtain⟨h',h1,h2,h3,h4⟩:=hr
  obtain⟨c,el,_,rfl,_⟩:=hstore_some h1
  exact⟨_,h1,h2,h3,(hF.set _ _).le h3,h4⟩
theorem RS.comm {r1 r2:RS}(hd:∀p∈r1.dst,p∉r2.dst) (hs:¬(r1.isSt=true∧r2.isSt=true)) (hF:HFin h) (hw:r1.wp (fun e h=>r2.wp k e h) e h):r2.wp (fun e h=>r1.wp k e h) e h:=by
 cases r1 with
 | pure d v=>
  cases r2 with
  | pure d2 v2=>
   have hne:d≠d2:=by simpa[RS.dst] using hd
   simp only[RS.wp] at hw ⊢
   rw[eset_comm e hne.symm];exact hw
  | alloc d2 f2 c2=>
   have hne:d≠d2:=by simpa[RS.dst] using hd
   intro b el hb
   obtain⟨h',h1,h2⟩:=hw b el hb
   exact⟨h',h1,by show k _ _;rw[eset_comm e hne.symm];exact h2⟩
  | store b off vs=>
   obtain⟨h',h1,h2,h3,h4⟩:=hw
   exact⟨h',h1,h2,h3,h4⟩
 | alloc d f c=>
  cases r2 with
  | pure d2 v2=>
   have hne:d≠d2:=by simpa[RS.dst] using hd
   intro b el hb
   obtain⟨h',h1,h2⟩:=hw b el hb
   have h2:k _ _:=h2
   rw[eset_comm e hne] at h2
   exact⟨h',h1,h2⟩
  | alloc d2 f2 c2=>
   have hne:d≠d2:=by simpa[RS.dst] using hd
   intro b2 el2 hb2
   refine⟨_,le_rf,fun b el hb=>?_⟩
   have hbb:b≠b2:=by
    intro e0;subst e0
    simp[Heap.set] at hb
   have hb':h b=none:=by simpa[Heap.set,hbb] using hb
   obtain⟨h1,g1,g2⟩:=hw b el hb'
   have h1b:h1 b2=none:=by
    cases hh:h1 b2 with
    | none=>rfl
    | some o=>
     have:=g1 _ _ hh
     simp only[Heap.set,if_neg (Ne.symm hbb)] at this
     rw[hb2] at this;simp at this
   obtain⟨h2,g3,g4⟩:=g2 b2 el2 h1b
   refine⟨h2,le_tr g3 ?_,by rw[eset_comm e hne.symm];exact g4⟩
   rw[set_comm (Ne.symm hbb)]
   exact le_set g1 _ _
  | store b off vs=>
   obtain⟨b0,hb0,hb1⟩:=hF.fresh b
   obtain⟨h1,g1,h2,g2,g3⟩:=hw b0 0 hb1
   obtain⟨c0,el0,k1,rfl,k3,k4⟩:=hstore_some g2
   have hb:h b=some (.cells c0 el0 (0,0)):=by
    have:=g1 _ _ k1
    simpa[Heap.set,Ne.symm hb0] using this
   refine⟨_,hstore_of hb k3 k4,_,le_rf,fun b' el' hb'=>?_⟩
   have hne:b'≠b:=by intro e0;subst e0;simp[Heap.set] at hb'
   have hbn:h b'=none:=by simpa[Heap.set,hne] using hb'
   obtain⟨h1',g1',h2',g2',g3'⟩:=hw b' el' hbn
   obtain⟨c0',el0',k1',rfl,k3',k4'⟩:=hstore_some g2'
   have hc:c0'=c0∧el0'=el0:=by
    have:=g1' _ _ k1'
    simp only[Heap.set,if_neg (Ne.symm hne)] at this
    rw[hb] at this
    simpa[eq_comm] using this
   obtain⟨rfl,rfl⟩:=hc
   obtain⟨h3,g4,g5⟩:=g3'
   refine⟨h3,le_tr g4 ?_,g5⟩
   rw[set_comm (Ne.symm hne)]
   exact le_set g1' _ _
 | store b off vs=>
  cases r2 with
  | pure d2 v2=>
   obtain⟨h',h1,h2,h3,h4⟩:=hw
   exact⟨h',h1,h2,h3,h4⟩
  | alloc d2 f2 c2=>
   obtain⟨h',h1,h2,h3,h4⟩:=hw
   obtain⟨c0,el0,k1,rfl,k3,k4⟩:=hstore_some h1
   intro b2 el2 hb2
   have hne:b2≠b:=by intro e0;subst e0;rw[k1] at hb2;simp at hb2
   refine⟨_,le_rf,_,hstore_of (by simp only[Heap.set,if_neg (Ne.symm hne)];exact k1) k3 k4,?_⟩
   have h2b:h2 b2=none:=by
    cases hh:h2 b2 with
    | none=>rfl
    | some o=>
     have:=h3 _ _ hh
     simp only[Heap.set,if_neg hne] at this
     rw[hb2] at this;simp at this
   obtain⟨h5,g1,g2⟩:=h4 b2 el2 h2b
   refine⟨h5,le_tr g1 ?_,g2⟩
   rw[set_comm hne]
   exact le_set h3 _ _
  | store b2 off2 vs2=>simp[RS.isSt] at hs
theorem mem_meets' {a b:List Nat}(h:(meets a b).isEmpty=true) {p:Nat}(ha:p∈a) (hb:p∈b):False:=by
 have:p∈meets a b:=by
  simp only[meets,List.mem_filter]
  exact⟨ha,by simpa using hb⟩
 rw[List.isEmpty_iff.1 h] at this
 simp at this
theorem RS.env {r:RS}{k:Env→Heap→Prop}(hr:r.wp k e h):r.wp (fun e' h'=>k e' h'∧∀p,p∉r.dst→eget e' p=eget e p) e h:=by
 cases r with
 | pure d v=>exact⟨hr,fun p hp=>eget_eset_ne _ _ _ _ (by simp[RS.dst] at hp;exact Ne.symm hp)⟩
 | alloc d f c=>
  intro b el hb
  obtain⟨h',h1,h2⟩:=hr b el hb
  exact⟨h',h1,h2,fun p hp=>eget_eset_ne _ _ _ _ (by simp[RS.dst] at hp;exact Ne.symm hp)⟩
 | store b off vs=>
  obtain⟨h',h1,h2,h3,h4⟩:=hr
  exact⟨h',h1,h2,h3,h4,fun _ _=>rfl⟩
theorem RS.some {r:RS}{p:Prop}(hF:HFin h) (hr:r.wp (fun _ _=>p) e h):p:=by
 cases r with
 | pure d v=>exact hr
 | alloc d f c=>
  obtain⟨b,_,hb⟩:=hF.fresh 0
  obtain⟨_,_,h2⟩:=hr b 0 hb
  exact h2
 | store b off vs=>obtain⟨_,_,_,_,h4⟩:=hr;exact h4
theorem S.swap {x y:S}(hc:commB x y=true) (hF:HFin h) (hw:x.wp P (y.wp P k) e h):y.wp P (x.wp P k) e h:=by
 simp only[commB,Bool.and_eq_true,bne_iff_ne,ne_eq,Bool.not_eq_true',Bool.and_eq_false_imp,beq_iff_eq] at hc
 obtain⟨⟨⟨⟨h1,h2⟩,h3⟩,h4⟩,h5⟩:=hc
 obtain⟨r1,e1,w1⟩:=(rs_wp h1).1 hw
 obtain⟨d1,s1⟩:=rs_dst e1
 have w2:=RS.env w1
 have hst:∃r2,rs e y=Option.some r2:=by
  refine RS.some (e:=e) hF (RS.mono ?_ w2)
  rintro e' h' ⟨g1,g2⟩
  obtain⟨r2,g3,_⟩:=(rs_wp h2).1 g1
  refine⟨r2,?_⟩
  rw[← g3]
  exact rs_congr h2 fun p hp=>(g2 p fun hd=>mem_meets' h4 (d1 p hd) (by simp[hp])).symm
 obtain⟨r2,e2⟩:=hst
 obtain⟨d2,s2⟩:=rs_dst e2
 refine (rs_wp h2).2 ⟨r2,e2,?_⟩
 have hdd:∀p∈r1.dst,p∉r2.dst:=fun p hp hp2=>mem_meets' h4 (d1 p hp) (by simp[d2 p hp2])
 have w3:r1.wp (fun e h=>r2.wp k e h) e h:=by
  refine RS.mono ?_ w2
  rintro e' h' ⟨g1,g2⟩
  obtain⟨r2',g3,g4⟩:=(rs_wp h2).1 g1
  have:rs e' y=rs e y:=rs_congr h2 fun p hp=>g2 p fun hd=>mem_meets' h4 (d1 p hd) (by simp[hp])
  rw[this,e2] at g3
  simp only[Option.some.injEq] at g3
  subst g3
  exact g4
 have w4:=RS.env (RS.comm hdd (fun hh=>by have:=h3 (s1 hh.1);simp[s2 hh.2] at this) hF w3)
 refine RS.mono ?_ w4
 rintro e' h' ⟨g1,g2⟩
 refine (rs_wp h1).2 ⟨r1,?_,g1⟩
 rw[← e1]
 exact rs_congr h1 fun p hp=>g2 p fun hd=>mem_meets' h5 (d2 p hd) hp
theorem S.fin {x:S}(hx:skind x≠0) (hF:HFin h) (hw:x.wp P k e h):x.wp P (fun e h=>HFin h∧k e h) e h:=by
 obtain⟨r,h1,h2⟩:=(rs_wp hx).1 hw
 exact (rs_wp hx).2 ⟨r,h1,RS.fin hF h2⟩
theorem S.monoK {x:S}{k':Env→Heap→Prop}(hx:skind x≠0) (hk:∀e h,k e h→k' e h) (hw:x.wp P k e h):x.wp P k' e h:=by
 obtain⟨r,h1,h2⟩:=(rs_wp hx).1 hw
 exact (rs_wp hx).2 ⟨r,h1,RS.mono hk h2⟩
theorem steps_front {x:It}:∀{l r:List It}{e:Env}{h:Heap}{T:Pl},(∀y∈l,commB y.s x.s=true)→HFin h→(stepsP (l++x::r) T).wp P k e h→(stepsP (x::(l++r)) T).wp P k e h
 | [],_,_,_,_,_,_,hw=>hw
 | y::l,r,e,h,T,hc,hF,hw=>by
  have hy:=hc y (by simp)
  have hk:skind y.s≠0:=by
   simp only[commB,Bool.and_eq_true,bne_iff_ne,ne_eq] at hy
   exact hy.1.1.1.1
  simp only[List.cons_append,stepsP,Pl.wp] at hw ⊢
  refine S.swap hy hF ?_
  refine S.monoK hk ?_ (S.fin hk hF hw)
  rintro e' h' ⟨hF',hw'⟩
  exact steps_front (fun z hz=>hc z (by simp[hz])) hF' hw'
def remI (its:List It) (d:Nat):List It:=its.filter fun x=>!d.testBit x.i
theorem itsFrom_pw {P:Program}{lay:Lay}{n:Nat}{ops:Array Oper}{b:Array Nat}:∀(l:List Oper) (i0:Nat),(itsFrom P lay n ops b l i0).Pairwise (fun x y=>x.i<y.i)∧∀x∈itsFrom P lay n ops b l i0,i0≤x.i
 | [],_=>⟨.nil,by simp[itsFrom]⟩
 | o::r,i0=>by
  obtain⟨h1,h2⟩:=itsFrom_pw (P:=P) (lay:=lay) (n:=n) (ops:=ops) (b:=b) r (i0+1)
  refine⟨?_,?_⟩
  ·simp only[itsFrom,List.pairwise_cons]
   refine⟨fun y hy=>?_,h1⟩
   have:=h2 y hy
   show i0<y.i
   omega
  ·intro x hx
   simp only[itsFrom,List.mem_cons] at hx
   rcases hx with rfl | hx
   ·exact Nat.le_refl _
   ·have:=h2 x hx;omega
theorem effCount_append:∀(l r:List It),effCount (l++r)=effCount l+effCount r
 | [],r=>by simp[effCount]
 | x::l,r=>by simp[effCount,effCount_append l r];omega
theorem testBit_or2 (d i j:Nat):(d|||2^i).testBit j=(d.testBit j||decide (i=j)):=by rw[Nat.testBit_or,Nat.testBit_two_pow]
theorem rem_split {its:List It}(hp:its.Pairwise fun x y=>x.i<y.i) {d:Nat}{x:It}(hx:x∈its) (hd:d.testBit x.i=false):∃l r,remI its d=l++x::r∧remI its (d|||2^x.i)=l++r∧∀y∈l,y∈its∧d.testBit y.i=false∧y.i<x.i:=by
 have hm:x∈remI its d:=by simp[remI,hx,hd]
 obtain⟨l,r,he⟩:=List.append_of_mem hm
 have hpr:(remI its d).Pairwise fun x y=>x.i<y.i:=List.Pairwise.filter _ hp
 rw[he,List.pairwise_append] at hpr
 obtain⟨h1,h2,h3⟩:=hpr
 rw[List.pairwise_cons] at h2
 refine⟨l,r,he,?_,fun y hy=>?_⟩
 ·have:remI its (d|||2^x.i)=(remI its d).filter fun y=>!decide (x.i=y.i):=by
   simp only[remI,List.filter_filter]
   congr 1
   funext y
   rw[testBit_or2]
   cases d.testBit y.i<;>simp
  rw[this,he,List.filter_append,List.filter_cons]
  simp only[decide_true,Bool.not_true,Bool.false_eq_true,if_false]
  rw[List.filter_eq_self.2,List.filter_eq_self.2]
  ·intro y hy
   have:=h2.1 y hy
   simp;omega
  ·intro y hy
   have:=h3 y hy x (by simp)
   simp;omega
 ·have hy2:y∈remI its d:=by rw[he];simp[hy]
  simp only[remI,List.mem_filter,Bool.not_eq_true'] at hy2
  exact⟨hy2.1,hy2.2,h3 y hy x (by simp)⟩
theorem behind_ready {ops:Array Oper}{d i j:Nat}(hb:behind ops i j=true) (hr:readyIt d ops j=true):d.testBit i=true:=by
 unfold behind at hb
 unfold readyIt at hr
 split at hb
 ·rename_i o ho
  rw[ho] at hr
  simp only at hr
  rw[← Array.any_toList,List.any_eq_true] at hb
  rw[← Array.all_toList,List.all_eq_true] at hr
  obtain⟨e,he,h1⟩:=hb
  simp only[Bool.and_eq_true,beq_iff_eq] at h1
  have:=hr e he
  simp only[h1.1,Bool.not_true,Bool.false_or] at this
  rw[h1.2] at this
  exact this
 ·simp at hb
structure SeqC (ops:Array Oper) (its:List It):Prop where
 pw:its.Pairwise fun x y=>x.i<y.i
 kind:∀y∈its,skind y.s≠0
 comm:∀x∈its,∀y∈its,x.i<y.i→behind ops x.i y.i=true∨commB x.s y.s=true
 edge:∀x∈its,∀i o,ops[i]? = some o→∀e∈o.after.toList,Region.binds .any e=true→e.on<i
 all:∀i o,ops[i]? = some o→∃x∈its,x.i=i
 op:∀x∈its,∃o,ops[x.i]? = some o
variable {ops:Array Oper}{its:List It}
theorem SeqC.front (C:SeqC ops its) {d:Nat}{x:It}(hx:x∈its) (hd:d.testBit x.i=false) (hr:readyIt d ops x.i=true) (hF:HFin h) (hw:(stepsP (remI its d) .done).wp P k e h) :
  (stepsP (x::remI its (d|||2^x.i)) .done).wp P k e h∧effCount (remI its d)=effCount (remI its (d|||2^x.i))+(if x.eff then 1 else 0):=by
 obtain⟨l,r,h1,h2,h3⟩:=rem_split C.pw hx hd
 rw[h1] at hw
 refine⟨?_,?_⟩
 ·rw[h2]
  refine steps_front (fun y hy=>?_) hF hw
  obtain⟨g1,g2,g3⟩:=h3 y hy
  rcases C.comm y g1 x hx g3 with h4 | h4
  ·have:=behind_ready h4 hr
   rw[g2] at this;simp at this
  ·exact h4
 ·rw[h1,h2,effCount_append,effCount_append]
  simp[effCount];omega
theorem ready_mono {d i j:Nat}(hne:∀o,ops[j]? = some o→∀e∈o.after.toList,Region.binds .any e=true→e.on≠i) (hr:readyIt d ops j=false):readyIt (d|||2^i) ops j=false:=by
 unfold readyIt at hr ⊢
 split at hr
 ·rename_i o ho
  rw[← Array.all_toList,List.all_eq_false] at hr ⊢
  obtain⟨e,he,h1⟩:=hr
  refine⟨e,he,?_⟩
  simp only[Bool.or_eq_true,Bool.not_eq_true',not_or,Bool.not_eq_false,Bool.not_eq_true] at h1 ⊢
  refine⟨h1.1,?_⟩
  rw[testBit_or2,h1.2]
  simp only[Bool.false_or,decide_eq_false_iff_not]
  exact fun e0=>hne o ho e he h1.1 e0.symm
 ·rfl
theorem SeqC.free (C:SeqC ops its):∀(l2 l1:List It) (d:Nat),its=l1++l2→(∀x∈l1,x.eff=true∨d.testBit x.i=true∨readyIt d ops x.i=false) →
  (∀x∈its,x.eff=true∨(freeOf ops l2 d).2.testBit x.i=true∨readyIt (freeOf ops l2 d).2 ops x.i=false)∧(∀x∈(freeOf ops l2 d).1,x∈its)∧effCount (remI its (freeOf ops l2 d).2)=effCount (remI its d) ∧
  ∀(k:Env→Heap→Prop) (e:Env) (h:Heap) (T:Pl),HFin h→(stepsP (remI its d) .done).wp P k e h→(∀e h,HFin h→(stepsP (remI its (freeOf ops l2 d).2) .done).wp P k e h→T.wp P k e h)→(stepsP (freeOf ops l2 d).1 T).wp P k e h
 | [],l1,d,he,hl=>by
  simp only[List.append_nil] at he
  subst he
  exact⟨hl,by simp[freeOf],rfl,fun k e h T hF hw hT=>hT e h hF hw⟩
 | x::l2,l1,d,he,hl=>by
  have hx:x∈its:=by rw[he];simp
  by_cases hc:(!x.eff && !d.testBit x.i&&readyIt d ops x.i)=true
  ·have hfr:freeOf ops (x::l2) d=(x::(freeOf ops l2 (d|||2^x.i)).1,(freeOf ops l2 (d|||2^x.i)).2):=by
    simp only[freeOf,hc,if_true]
   simp only[Bool.and_eq_true,Bool.not_eq_true'] at hc
   rw[hfr]
   have hpw:=C.pw
   have hbef:∀y∈l1,y.i<x.i:=by
    intro y hy
    rw[he,List.pairwise_append] at hpw
    exact hpw.2.2 y hy x (by simp)
   obtain⟨i1,i2,i3,i4⟩:=C.free l2 (l1++[x]) (d|||2^x.i) (by rw[he];simp) (by
    intro y hy
    rcases List.mem_append.1 hy with hy | hy
    ·rcases hl y hy with h1 | h1 | h1
     ·exact .inl h1
     ·exact .inr (.inl (by rw[testBit_or2,h1];rfl))
     ·refine .inr (.inr (ready_mono (fun o ho e hee hb e0=>?_) h1))
      have:=C.edge x hx _ o ho e hee hb
      have:=hbef y hy
      omega
    ·obtain rfl:y=x:=by simpa using hy
     exact .inr (.inl (by rw[testBit_or2];simp)))
   have hfe:∀(k:Env→Heap→Prop) (e:Env) (h:Heap),HFin h→(stepsP (remI its d) .done).wp P k e h→_:=fun k e h hF hw=>C.front (P:=P) (k:=k) (e:=e) (h:=h) hx hc.1.2 hc.2 hF hw
   refine⟨i1,?_,?_,?_⟩
   ·intro y hy
    rcases List.mem_cons.1 hy with rfl | hy
    ·exact hx
    ·exact i2 y hy
   ·rw[i3]
    obtain⟨l,r,h1,h2,_⟩:=rem_split C.pw hx hc.1.2
    rw[h1,h2,effCount_append,effCount_append]
    simp[effCount,hc.1.1]
   ·intro k e h T hF hw hT
    have h1:=(hfe k e h hF hw).1
    simp only[stepsP,Pl.wp] at h1 ⊢
    refine S.monoK (C.kind x hx) ?_ (S.fin (C.kind x hx) hF h1)
    rintro e' h' ⟨hF',h2⟩
    exact i4 k e' h' T hF' h2 hT
  ·have hfr:freeOf ops (x::l2) d=freeOf ops l2 d:=by
    have hc':(!x.eff && !d.testBit x.i&&readyIt d ops x.i)=false:=by simpa using hc
    simp only[freeOf,hc',Bool.false_eq_true,if_false]
   rw[hfr]
   refine C.free l2 (l1++[x]) d (by rw[he];simp) ?_
   intro y hy
   rcases List.mem_append.1 hy with hy | hy
   ·exact hl y hy
   ·obtain rfl:y=x:=by simpa using hy
    cases h1:y.eff
    ·cases h2:d.testBit y.i
     ·cases h3:readyIt d ops y.i
      ·exact .inr (.inr rfl)
      ·simp[h1,h2,h3] at hc
     ·exact .inr (.inl rfl)
    ·exact .inl rfl
theorem again_none {x:It}:∀{past:List It}{p:Pl},(∀y∈past,skind y.s≠0)→againP x past p=p
 | [],p,_=>rfl
 | y::past,p,hp=>by
  have hy:=hp y (by simp)
  unfold againP
  split
  ·rename_i hs
   rw[hs] at hy;simp[skind] at hy
  ·rename_i hs
   rw[hs] at hy;simp[skind] at hy
  ·exact again_none fun z hz=>hp z (by simp[hz])
theorem bothP_of {l:List Pl}(hl:∀p∈l,p.wp P k e h) (h0:l=[]→k e h):(bothP l).wp P k e h:=by
 match l,hl,h0 with
 | [],_,h0=>exact h0 rfl
 | [p],hl,_=>exact hl p (by simp)
 | p::q::r,hl,_=>
  refine⟨hl p (by simp),bothP_of (l:=q::r) (fun p hp=>hl p (by simp at hp ⊢;exact .inr hp)) (by simp)⟩
theorem SeqC.tree (C:SeqC ops its):∀(fuel d:Nat) (past:List It) (k:Env→Heap→Prop) (e:Env) (h:Heap),effCount (remI its d)<fuel→(∀y∈past,skind y.s≠0)→HFin h→(stepsP (remI its d) .done).wp P k e h→(treeP ops its fuel d past).wp P k e h
 | 0,_,_,_,_,_,hf,_,_,_=>by omega
 | fuel+1,d,past,k,e,h,hf,hp,hF,hw=>by
  obtain⟨i1,i2,i3,i4⟩:=C.free (P:=P) its [] d rfl (by simp)
  simp only[treeP]
  refine i4 k e h _ hF hw ?_
  intro e h hF hw
  generalize hd':(freeOf ops its d).2=d' at *
  have hp':∀y∈past++(freeOf ops its d).1,skind y.s≠0:=by
   intro y hy
   rcases List.mem_append.1 hy with hy | hy
   ·exact hp y hy
   ·exact C.kind y (i2 y hy)
  generalize past++(freeOf ops its d).1=past' at *
  unfold nodeP
  have hall:(its.all fun x=>x.eff||d'.testBit x.i || !readyIt d' ops x.i)=true:=by
   rw[List.all_eq_true]
   intro x hx
   rcases i1 x hx with h1 | h1 | h1<;>simp[h1]
  simp only[hall,if_true]
  refine bothP_of ?_ ?_
  ·intro p hpm
   obtain⟨x,hx,rfl⟩:=List.mem_map.1 hpm
   simp only[List.mem_filter,Bool.and_eq_true,Bool.not_eq_true'] at hx
   obtain⟨hx,⟨hx1,hx2⟩,hx3⟩:=hx
   obtain⟨h1,h2⟩:=C.front hx hx2 hx3 hF hw
   simp only[stepsP,Pl.wp] at h1 ⊢
   rw[again_none hp']
   refine S.monoK (C.kind x hx) ?_ (S.fin (C.kind x hx) hF h1)
   rintro e' h' ⟨hF',h3⟩
   refine C.tree fuel _ past' k e' h' ?_ hp' hF' h3
   rw[hx1] at h2
   simp at h2
   omega
  ·intro hnil
   have hrem:remI its d'=[]:=by
    cases hr:remI its d' with
    | nil=>rfl
    | cons x r=>
     exfalso
     have hxm:x∈remI its d':=by rw[hr];simp
     have hxm2:=hxm
     simp only[remI,List.mem_filter,Bool.not_eq_true'] at hxm2
     have hpr:(remI its d').Pairwise fun x y=>x.i<y.i:=List.Pairwise.filter _ C.pw
     rw[hr,List.pairwise_cons] at hpr
     have hready:readyIt d' ops x.i=true:=by
      obtain⟨o,ho⟩:=C.op x hxm2.1
      unfold readyIt
      rw[ho]
      simp only
      rw[← Array.all_toList,List.all_eq_true]
      intro ed hed
      cases hb:Region.binds .any ed
      ·simp
      ·simp only[Bool.not_true,Bool.false_or]
       have hlt:=C.edge x hxm2.1 _ o ho ed hed hb
       cases ht:d'.testBit ed.on
       ·exfalso
        have hos:∃o',ops[ed.on]? = some o':=by
         have:=(Array.getElem?_eq_some_iff.1 ho).1
         exact⟨_,Array.getElem?_eq_getElem (show ed.on<ops.size by omega)⟩
        obtain⟨o',ho'⟩:=hos
        obtain⟨z,hz,hzi⟩:=C.all _ o' ho'
        have hzr:z∈remI its d':=by simp[remI,hz,hzi,ht]
        rw[hr] at hzr
        rcases List.mem_cons.1 hzr with rfl | hzr
        ·omega
        ·have:=hpr.1 z hzr;omega
       ·rfl
     have hxe:x.eff=true:=by
      rcases i1 x hxm2.1 with h1 | h1 | h1
      ·exact h1
      ·rw[hxm2.2] at h1;simp at h1
      ·rw[hready] at h1;simp at h1
     have:x∈its.filter fun x=>x.eff && !d'.testBit x.i&&readyIt d' ops x.i:=by
      simp[hxm2.1,hxm2.2,hxe,hready]
     have h3:=List.mem_map_of_mem (f:=fun x=>Pl.st x.s (againP x past' (treeP ops its fuel (d' ||| 2^x.i) past'))) this
     rw[hnil] at h3
     simp at h3
   rw[hrem] at hw
   exact hw
theorem SeqC.mk' {lay:Lay}{n:Nat}(hk:drawOk n ops (itsR P lay n ops)=true) (hs:seqOk ops (itsR P lay n ops)=true):SeqC ops (itsR P lay n ops):=by
 unfold seqOk at hs
 rw[Bool.and_eq_true] at hs
 have hs:=List.all_eq_true.1 hs.2
 refine⟨(itsFrom_pw _ _).1,?_,?_,fun _ _=>edge_of hk,?_,?_⟩
 ·intro y hy
  have:=hs y hy
  simp only[Bool.and_eq_true,bne_iff_ne,ne_eq] at this
  exact this.1
 ·intro x hx y hy hlt
  have:=hs y hy
  rw[Bool.and_eq_true] at this
  have:=List.all_eq_true.1 this.2 x hx
  simpa[hlt] using this
 ·intro i o ho
  exact⟨_,its_of ho,rfl⟩
 ·intro x hx
  obtain⟨o,ho,_⟩:=its_mem hx
  exact⟨o,ho⟩
end
theorem draw_region (hd:Dist lay) {id:Nat}{k:Env→Heap→Prop}{Q:Exit→Act→World→Prop}{e:Env}{h:Heap}{w:World}{a:Act}(T:St base lay (fun _=>True) e h w a)
  (hw:(drawP P lay n ops).wp P k e h)
  (hQ:∀e' h' a' w',k e' h'→St base lay (fun _=>True) e' h' w' a'→FrB base h w h' w'→SameA a a'→Q .normal a' w'):(Code.region id ops true).wp P Q a w:=by
 have hstuck:∀(k:Env→Heap→Prop) (e:Env) (h:Heap),(Pl.st (stuckS none) .done).wp P k e h→False:=by
  intro k e h hs
  simp[Pl.wp,stuckS,stuckA,S.wp,A.wp,PX.ev,O.get,undef] at hs
 unfold drawP at hw
 simp only at hw
 split at hw
 case isFalse=>exact (hstuck _ _ _ hw).elim
 rename_i hc
 rw[Bool.and_eq_true] at hc
 obtain⟨hm,hk⟩:=hc
 change drawOk n ops (itsR P lay n ops)=true at hk
 have hw:(treeP ops (itsR P lay n ops) (effCount (itsR P lay n ops)+1) 0 []).wp P k e h:=by
  change (if seqOk ops (itsR P lay n ops) then stepsP (itsR P lay n ops) .done else treeP ops (itsR P lay n ops) (effCount (itsR P lay n ops)+1) 0 []).wp P k e h at hw
  split at hw
  ·rename_i hs
   have hr:remI (itsR P lay n ops) 0=itsR P lay n ops:=by simp[remI]
   exact (SeqC.mk' hk hs).tree _ _ _ _ _ _ (by rw[hr];omega) (by simp) (HFin.sub T.sub) (by rw[hr];exact hw)
  ·exact hw
 generalize effCount (itsR P lay n ops)=tf at hw
 refine wp_region_any hm ?_
 simp only[treeP,List.nil_append] at hw
 have hrep:∀i,(Array.replicate ops.size false).getD i false=false:=by
  intro i
  simp only[Array.getD_eq_getD_getElem?,Array.getElem?_replicate]
  split<;>rfl
 have hnl:∀i,¬Lst (Array.replicate ops.size false) i:=by intro i h;unfold Lst at h;rw[hrep] at h;simp at h
 obtain⟨e2,g1,g2,g3,g4,g5,g6,g7,g8⟩:=advance (listed:=Array.replicate ops.size false) hk (itsR P lay n ops) 0 e (fun _ hx=>hx) (fun x _ _ h1=>by simp at h1) (fun i o _ h1=>by simp at h1) hw
 generalize freeOf ops (itsR P lay n ops) 0=fr at g1 g3 g4 g5 g6 g7 g8
 have T0:St base lay (fun _=>True) e h { w with drawn:=w.drawn+1 } a:=by
  obtain⟨blk,h1,h2⟩:=T.cov
  exact⟨⟨blk,fun i t kk hi hl=>by
   have:=h1 i t kk hi hl
   cases kk<;>exact this,h2⟩,T.sub,T.sz,T.low,T.len⟩
 have I:Inv P lay n ops (Array.replicate ops.size false) fr.2 fr.1 e2 h:=by
  refine⟨by simp,fun i o _ hl=>absurd hl (hnl i),fun i o _ hl=>absurd hl (hnl i),g5,?_,g4,?_⟩
  ·intro y hy h1 h2
   rcases g7 y.i h2 with h3 | ⟨z,hz,h3⟩
   ·simp at h3
   ·obtain⟨z1,z2,_⟩:=g8 z hz
    have:=its_inj z1 hy h3
    subst this
    rw[h1] at z2;simp at z2
  ·intro y hy h1 h2
   rcases g7 y.i h2 with h3 | ⟨z,hz,h3⟩
   ·simp at h3
   ·obtain⟨z1,_,_⟩:=g8 z hz
    have:=its_inj z1 hy h3
    subst this
    exact hz
 have hLL:∀p,LL lay ops n (Array.replicate ops.size false) fr.2 p→∀y∈fr.1,p∉y.s.wr:=by
  intro p hp y hy hpy
  obtain⟨y1,y2,y3,y4⟩:=g8 y hy
  obtain⟨oy,hoy,hyy⟩:=its_mem y1
  have hds:=wr_ds hk y1 ((it_rd y1).2.2.1 p hpy)
  have hds':p∈dstPos lay oy:=by rw[hyy] at hds;exact hds
  rcases hp y.i oy hoy (dstPos_wr.1 hds') with h1 | ⟨_,h1⟩
  ·exact hnl _ h1
  ·rw[y4] at h1;simp at h1
 refine tree_any hd hk ops.size tf _ fr.2 fr.1 e2 h _ a I ?_ ((T0.weaken fun _ _=>trivial).envc g2 fun p hp=>g3 p (hLL p hp)) g1 ?_
 ·have:∀(l:Array Bool) m,cntU l m≤m:=by
   intro l m
   induction m with
   | zero=>simp[cntU]
   | succ m ih=>simp only[cntU];split<;>omega
  exact this _ _
 ·intro e' h' a' w' hk' T' hF hdf
  refine hQ e' h' a' w' hk' T' ?_ hdf
  exact⟨hF.tape,hF.os,hF.output,hF.size,hF.keep,hF.fresh⟩
end
theorem exists_least {p:Nat→Prop}(h:∃m,p m):∃m,p m∧∀k,p k→m≤k:=by
 obtain⟨m,hm⟩:=h
 induction m using Nat.strongRecOn with
 | _ m ih=>
  by_cases hx:∃k,k<m∧p k
  ·obtain⟨k,hk,hp⟩:=hx
   exact ih k hk hp
  ·refine⟨m,hm,fun k hk=>?_⟩
   rcases Nat.lt_or_ge k m with h | h
   ·exact absurd ⟨k,h,hk⟩ hx
   ·exact h
theorem layOf_prefix {P:Program}{ops:Array Oper}:∀(l:List Oper) (lay:Lay),∃r,layOf P ops lay l=lay++r
 | [],lay=>⟨[],by simp[layOf]⟩
 | o::l,lay=>by
  simp only[layOf]
  split
  ·exact layOf_prefix l lay
  ·rename_i t _
   split
   ·exact layOf_prefix l lay
   ·obtain⟨r,hr⟩:=layOf_prefix (P:=P) (ops:=ops) l (lay++[(t,kndOf P lay ops t o)])
    exact⟨_,by rw[hr,List.append_assoc]⟩
theorem distinctN_get:∀{l:List Nat},distinctN l=true→∀(i j t:Nat),l[i]? = some t→l[j]? = some t→i=j
 | [],_,i,j,t,h,_=>by simp at h
 | a::l,hd,0,0,t,_,_=>rfl
 | a::l,hd,0,j+1,t,h1,h2=>by
  simp only[distinctN,Bool.and_eq_true,Bool.not_eq_true'] at hd
  simp at h1 h2
  subst h1
  have:=List.mem_of_getElem? h2
  simp[this] at hd
 | a::l,hd,i+1,0,t,h1,h2=>by
  simp only[distinctN,Bool.and_eq_true,Bool.not_eq_true'] at hd
  simp at h1 h2
  subst h2
  have:=List.mem_of_getElem? h1
  simp[this] at hd
 | a::l,hd,i+1,j+1,t,h1,h2=>by
  simp only[distinctN,Bool.and_eq_true] at hd
  rw[distinctN_get hd.2 i j t (by simpa using h1) (by simpa using h2)]
theorem okLay_dist {nt:Nat}{lay:Lay}(h:okLay nt lay=true):Dist lay:=by
 intro i j t k k' h1 h2
 simp only[okLay,Bool.and_eq_true] at h
 exact distinctN_get h.1 i j t (by simp[h1]) (by simp[h2])
theorem okLay_lt {nt:Nat}{lay:Lay}(h:okLay nt lay=true) {i t:Nat}{k:Knd}(h1:lay[i]? = some (t,k)):t<nt:=by
 simp only[okLay,Bool.and_eq_true] at h
 simpa using List.all_eq_true.1 h.2 _ (List.mem_of_getElem? h1)
theorem eget_none:∀(e:Env) (i:Nat),e.length≤i→eget e i=none
 | [],_,_=>rfl
 | _::_,0,h=>by simp at h
 | _::t,n+1,h=>eget_none t n (by simpa using h)
theorem eget_take:∀(e:Env) (n i:Nat),i<n→eget (e.take n) i=eget e i
 | [],_,_,_=>by simp[eget]
 | _::_,0,i,h=>by omega
 | _::_,n+1,0,_=>rfl
 | _::t,n+1,i+1,h=>by simp only[List.take_succ_cons,eget];exact eget_take t n i (by omega)
theorem eget_append:∀(e r:Env) (i:Nat),eget (e++r) i=if i<e.length then eget e i else eget r (i-e.length)
 | [],r,i=>by simp
 | _::_,r,0=>by simp[eget]
 | _::t,r,i+1=>by
  simp only[List.cons_append,eget,List.length_cons,Nat.add_lt_add_iff_right]
  rw[eget_append t r i,Nat.add_sub_add_right]
theorem eget_replicate:∀(m i:Nat),eget (List.replicate m none) i=none
 | 0,_=>rfl
 | _+1,0=>rfl
 | m+1,i+1=>by simp only[List.replicate_succ,eget];exact eget_replicate m i
section
variable {P:Program}{b0:Nat}{nt:Nat}{base:Lay}
theorem St.relay {lay lay':Lay}{e e2:Env}{h:Heap}{w:World}{a:Act}(T:St b0 lay (fun _=>True) e h w a) {r r':Lay}(hl:lay=base++r) (hl':lay'=base++r')
  (hsame:∀i,i<base.length→eget e2 i=eget e i∨eget e2 i=none) (hnone:∀i,base.length≤i→eget e2 i=none) (hsz:∀(i t:Nat) (k:Knd),lay'[i]? = some (t,k)→t<a.tmps.size) (hlen:lay'.length≤e2.length) :
  St b0 lay' (fun _=>True) e2 h w a:=by
 obtain⟨blk,hcov,hinj⟩:=T.cov
 have hb:∀i t k,lay'[i]? = some (t,k)→i<base.length→lay[i]? = some (t,k):=by
  intro i t k hi hlt
  rw[hl',List.getElem?_append_left hlt] at hi
  rw[hl,List.getElem?_append_left hlt]
  exact hi
 refine⟨⟨blk,?_,?_⟩,T.sub,hsz,T.low,hlen⟩
 ·intro i t k hi _
  by_cases hlt:i<base.length
  ·refine (hcov i t k (hb i t k hi hlt) trivial).keep (hsame i hlt) rfl rfl (fun _ _ _=>.inr rfl) (fun _ _ _ hb=>hb)
  ·have:=hnone i (by omega)
   cases k with
   | pl=>intro v hv;rw[this] at hv;simp at hv
   | bx=>intro v hv;rw[this] at hv;simp at hv
   | al j off=>intro hv;rw[this] at hv;simp at hv
   | ps n=>intro v hv;rw[this] at hv;simp at hv
 ·intro i j _ _ ai aj hij
  have back:∀x,Act' lay' e2 x→Act' lay e x:=by
   rintro x ⟨t,k,v,h1,h2,h3⟩
   have hlt:x<base.length:=by
    rcases Nat.lt_or_ge x base.length with h | h
    ·exact h
    ·rw[hnone x h] at h3;simp at h3
   refine⟨t,k,v,hb x t k h1 hlt,h2,?_⟩
   rcases hsame x hlt with g | g
   ·rw[← g];exact h3
   ·rw[g] at h3;simp at h3
  exact hinj i j trivial trivial (back i ai) (back j aj) hij
def exOf:Ex→Exit
 | .nrm=>.normal
 | .exit i=>.exit i
 | .ret=>.ret
def SP (b0:Nat) (base lay:Lay) (x:Ex) (e:Env) (h:Heap) (w:World) (a:Act):Prop:=
 match x with
 | .nrm=>St b0 lay (fun _=>True) e h w a
 | _=>∃r,St b0 (base++r) (fun _=>True) e h w a
theorem SP.any {lay:Lay}{x:Ex}{e:Env}{h:Heap}{w:World}{a:Act}(hl:∃r,lay=base++r) (T:SP b0 base lay x e h w a):∃r,St b0 (base++r) (fun _=>True) e h w a:=by
 obtain⟨r,rfl⟩:=hl
 cases x with
 | nrm=>exact⟨r,T⟩
 | _=>exact T
theorem SP.size {lay:Lay}{x:Ex}{e:Env}{h:Heap}{w:World}{a:Act}(hl:∃r,lay=base++r) (T:SP b0 base lay x e h w a):base.length≤e.length∧∀(i t:Nat) (k:Knd),base[i]? = some (t,k)→t<a.tmps.size:=by
 obtain⟨r,T⟩:=T.any hl
 refine⟨by have:=T.len;simp at this;omega,fun i t k hi=>T.sz i t k ?_⟩
 rw[List.getElem?_append_left (List.getElem?_eq_some_iff.1 hi).1]
 exact hi
theorem St.toBase {r:Lay}{e:Env}{h:Heap}{w:World}{a:Act}(T:St b0 (base++r) (fun _=>True) e h w a):St b0 base (fun _=>True) (e.take base.length) h w a:=by
 refine T.relay (base:=base) (r:=r) (r':=[]) rfl (by simp) (fun i hi=>.inl (eget_take e _ i hi)) (fun i hi=>eget_none _ _ (by simp;omega)) (fun i t k hi=>T.sz i t k ?_) ?_
 ·rw[List.getElem?_append_left (List.getElem?_eq_some_iff.1 hi).1];exact hi
 ·have:=T.len;simp at this ⊢;omega
theorem St.toBase' {r:Lay}{e:Env}{h:Heap}{w:World}{a:Act}(T:St b0 (base++r) (fun _=>True) e h w a):St b0 base (fun _=>True) e h w a:=by
 obtain⟨blk,hcov,hinj⟩:=T.cov
 have hb:∀(i t:Nat) (k:Knd),base[i]? = some (t,k)→(base++r)[i]? = some (t,k):=by
  intro i t k hi
  rw[List.getElem?_append_left (List.getElem?_eq_some_iff.1 hi).1];exact hi
 refine⟨⟨blk,fun i t k hi hl=>hcov i t k (hb i t k hi) hl,?_⟩,T.sub,fun i t k hi=>T.sz i t k (hb i t k hi),T.low,by have:=T.len;simp at this;omega⟩
 intro i j hi hj ai aj hij
 have back:∀x,Act' base e x→Act' (base++r) e x:=by
  rintro x ⟨t,k,v,h1,h2,h3⟩
  exact⟨t,k,v,hb x t k h1,h2,h3⟩
 exact hinj i j hi hj (back i ai) (back j aj) hij
theorem St.weakEnv {lay:Lay}{e e2:Env}{h:Heap}{w:World}{a:Act}(T:St b0 lay (fun _=>True) e h w a) (hs:∀i,eget e2 i=eget e i∨eget e2 i=none) (hl:e2.length=e.length):St b0 lay (fun _=>True) e2 h w a:=by
 obtain⟨blk,hcov,hinj⟩:=T.cov
 refine⟨⟨blk,fun i t k hi hL=>(hcov i t k hi hL).keep (hs i) rfl rfl (fun _ _ _=>.inr rfl) (fun _ _ _ hb=>hb),?_⟩,T.sub,T.sz,T.low,by rw[hl];exact T.len⟩
 intro i j hi hj ai aj hij
 have back:∀x,Act' lay e2 x→Act' lay e x:=by
  rintro x ⟨t,k,v,h1,h2,h3⟩
  refine⟨t,k,v,h1,h2,?_⟩
  rcases hs x with g | g
  ·rw[← g];exact h3
  ·rw[g] at h3;simp at h3
 exact hinj i j hi hj (back i ai) (back j aj) hij
theorem St.forget {lay:Lay}{e:Env}{h:Heap}{w:World}{a:Act}(T:St b0 lay (fun _=>True) e h w a) (fg:List Nat):St b0 lay (fun _=>True) (efgt e fg) h w a:=
 T.weakEnv (fun i=>eget_efgt fg e i) (efgt_length _ _)
theorem cco_lay:∀(c:Code) (lay:Lay) (fg:List (List Nat)),(∃r,lay=base++r)→∃r,(cco P nt base c lay fg).2.1=base++r
 | .skip,lay,fg,h=>by simpa[cco] using h
 | .region _ ops draw,lay,fg,h=>by
  simp only[cco]
  split
  ·exact layOf_prefix _ _
  ·exact⟨[],by simp⟩
 | .seq x y,lay,fg,h=>by
  simp only[cco]
  exact cco_lay y _ _ (cco_lay x lay fg h)
 | .cond c x y,lay,fg,h=>by
  simp only[cco]
  split<;>exact⟨[],by simp⟩
 | .block id x,lay,fg,h=>⟨[],by simp[cco]⟩
 | .loop x,lay,fg,h=>⟨[],by simp[cco]⟩
 | .exit id,lay,fg,h=>by simpa[cco] using h
 | .ret,lay,fg,h=>by simpa[cco] using h
 | .scope _,_,_,_=>⟨[],by simp[cco]⟩
 | .label _,_,_,_=>⟨[],by simp[cco]⟩
 | .goto _,_,_,_=>⟨[],by simp[cco]⟩
 | .refuse _,_,_,_=>⟨[],by simp[cco]⟩
 | .rangeFunc ..,_,_,_=>⟨[],by simp[cco]⟩
theorem stuckC_false {Q:Ex→Env→Heap→Prop}{e:Env}{h:Heap}(hs:stuckC.wp P Q e h):False:=by
 simp[stuckC,C.wp,Pl.wp,stuckS,stuckA,S.wp,A.wp,PX.ev,O.get,undef] at hs
theorem eext_get {n m:Nat}{e:Env}(hn:n≤e.length) (i:Nat):eget (eext n m e) i=if i<n then eget e i else none:=by
 unfold eext
 rw[eget_append]
 have:(e.take n).length=n:=by simp[Nat.min_eq_left hn]
 rw[this]
 split
 ·rename_i h;exact eget_take e n i h
 ·exact eget_replicate _ _
theorem cco_sound (hok:okLay nt base=true):∀(c:Code) (lay:Lay) (fg:List (List Nat)) (Q:Ex→Env→Heap→Prop) (R:Exit→Act→World→Prop) (e:Env) (h:Heap) (w:World) (a:Act),
  (∃r,lay=base++r)→St b0 lay (fun _=>True) e h w a→nt≤a.tmps.size→(cco P nt base c lay fg).1.wp P Q e h →
  (∀x e' h' a' w',Q x e' h'→SP b0 base (cco P nt base c lay fg).2.1 x e' h' w' a'→FrB b0 h w h' w'→SameA a a'→R (exOf x) a' w')→c.wp P R a w
 | .skip,lay,fg,Q,R,e,h,w,a,hl,T,hnt,hw,hR=>by
  simp only[cco,C.wp] at hw hR
  exact wp_skip (hR .nrm e h a w hw T (FrB.refl _ _ _) ⟨rfl,rfl⟩)
 | .exit id,lay,fg,Q,R,e,h,w,a,hl,T,hnt,hw,hR=>by
  simp only[cco,C.wp] at hw hR
  obtain⟨r,rfl⟩:=hl
  exact wp_exit (hR (.exit id) e h a w hw ⟨r,T⟩ (FrB.refl _ _ _) ⟨rfl,rfl⟩)
 | .ret,lay,fg,Q,R,e,h,w,a,hl,T,hnt,hw,hR=>by
  simp only[cco,C.wp] at hw hR
  obtain⟨r,rfl⟩:=hl
  exact wp_ret (hR .ret e h a w hw ⟨r,T⟩ (FrB.refl _ _ _) ⟨rfl,rfl⟩)
 | .region id ops draw,lay,fg,Q,R,e,h,w,a,hl,T,hnt,hw,hR=>by
  simp only[cco] at hw hR
  split at hw
  case isFalse=>exact (stuckC_false hw).elim
  rename_i hokr
  rw[if_pos hokr] at hR
  obtain⟨r,rfl⟩:=hl
  obtain⟨r',hr'⟩:=layOf_prefix (P:=P) (ops:=ops) ops.toList base
  have hd:=okLay_dist hokr
  have hlen:base.length≤e.length:=by have:=T.len;simp at this;omega
  have T':St b0 (layOf P ops base ops.toList) (fun _=>True) (eext base.length ((layOf P ops base ops.toList).length-base.length) e) h w a:=by
   refine T.relay rfl hr' (fun i hi=>.inl (by rw[eext_get hlen,if_pos hi])) (fun i hi=>by rw[eext_get hlen,if_neg (by omega)]) (fun i t k hi=>Nat.lt_of_lt_of_le (okLay_lt hokr hi) hnt) ?_
   rw[hr']
   simp[eext]
   omega
  simp only[C.wp,Pl.wp,S.wp] at hw
  cases draw with
  | true=>
   simp only[if_true] at hw
   exact draw_region hd T' hw fun e' h' a' w' hq T2 hF hS=>hR .nrm e' h' a' w' hq T2 hF hS
  | false=>
   simp only[Bool.false_eq_true,if_false] at hw
   refine wp_region ?_
   have:=seq_ops (Q:=R) hd ops.toList 0 _ h w a (fun j hj=>by simp) T' hw fun e' h' a' w' hq T2 hF hS=>hR .nrm e' h' a' w' hq T2 hF hS
   simpa[List.range_eq_range'] using this
 | .seq x y,lay,fg,Q,R,e,h,w,a,hl,T,hnt,hw,hR=>by
  simp only[cco,C.wp] at hw hR
  refine wp_seq (cco_sound hok x lay fg _ _ e h w a hl T hnt hw ?_)
  intro z e1 h1 a1 w1 hq hsp hF hS
  cases z with
  | nrm=>
   simp only[exOf,Exit.then] at hq ⊢
   refine cco_sound hok y _ _ Q R e1 h1 w1 a1 (cco_lay x lay fg hl) hsp (by rw[hS.2];exact hnt) hq ?_
   intro z2 e2 h2 a2 w2 hq2 hsp2 hF2 hS2
   exact hR z2 e2 h2 a2 w2 hq2 hsp2 (hF.trans hF2) (hS2.trans hS)
  | exit i=>exact hR (.exit i) e1 h1 a1 w1 hq hsp hF hS
  | ret=>exact hR .ret e1 h1 a1 w1 hq hsp hF hS
 | .cond c x y,lay,fg,Q,R,e,h,w,a,hl,T,hnt,hw,hR=>by
  simp only[cco] at hw hR
  cases ho:opr lay c with
  | none=>rw[ho] at hw;exact (stuckC_false hw).elim
  | some o=>
   rw[ho] at hw hR
   simp only[C.wp] at hw
   obtain⟨t,ht,h1,h2⟩:=hw
   obtain⟨r,rfl⟩:=hl
   have hc:a.eval c=.bool t:=by
    obtain⟨blk,hcov,_⟩:=T.cov
    cases c with
    | tmp s=>
     simp only[opr,Option.map_eq_some_iff] at ho
     obtain⟨i,hi,rfl⟩:=ho
     exact hcov i s .pl (lfind_spec (plainAt_spec hi)) trivial _ ht
    | const v=>simp only[opr,Option.some.injEq] at ho;subst ho;simpa[O.get,Act.eval] using ht
    | global g=>simp only[opr,Option.some.injEq] at ho;subst ho;simp[O.get] at ht
    | func f=>simp only[opr,Option.some.injEq] at ho;subst ho;simp[O.get] at ht
   have hback:∀(lz:Lay),(∃r,lz=base++r)→∀z e' h' a' w',Q z e' h'→SP b0 base lz z e' h' w' a'→FrB b0 h w h' w'→SameA a a'→R (exOf z) a' w':=by
    intro lz hlz z e' h' a' w' hq hsp hF hS
    refine hR z e' h' a' w' hq ?_ hF hS
    cases z with
    | nrm=>obtain⟨r',rfl⟩:=hlz;exact hsp.toBase'
    | exit i=>exact hsp
    | ret=>exact hsp
   refine wp_cond_split hc (fun htt=>?_) (fun htf=>?_)
   ·exact cco_sound hok x base fg Q R _ h w a ⟨[],by simp⟩ T.toBase hnt (h1 htt) (hback _ (cco_lay x base fg ⟨[],by simp⟩))
   ·exact cco_sound hok y base _ Q R _ h w a ⟨[],by simp⟩ T.toBase hnt (h2 htf) (hback _ (cco_lay y base _ ⟨[],by simp⟩))
 | .block id x,lay,fg,Q,R,e,h,w,a,hl,T,hnt,hw,hR=>by
  simp only[cco,C.wp] at hw hR
  refine wp_block (cco_sound hok x lay fg _ _ e h w a hl T hnt hw ?_)
  intro z e1 h1 a1 w1 hq hsp hF hS
  obtain⟨r,T1⟩:=hsp.any (cco_lay x lay fg hl)
  cases z with
  | nrm=>exact hR .nrm e1 h1 a1 w1 hq T1.toBase' hF hS
  | exit i=>
   simp only[exOf,Exit.inBlock] at hq ⊢
   split at hq
   ·rename_i hi;rw[if_pos hi];exact hR .nrm e1 h1 a1 w1 hq T1.toBase' hF hS
   ·rename_i hi;rw[if_neg hi];exact hR (.exit i) e1 h1 a1 w1 hq ⟨r,T1⟩ hF hS
  | ret=>exact hR .ret e1 h1 a1 w1 hq ⟨r,T1⟩ hF hS
 | .loop x,lay,fg,Q,R,e,h,w,a,hl,T,hnt,hw,hR=>by
  simp only[cco,C.wp] at hw hR
  obtain⟨I,⟨m0,hI0⟩,hround⟩:=hw
  obtain⟨r,rfl⟩:=hl
  -- the model's loop,by what the small language keeps
  let J:Nat→Act→World→Prop:=fun m a1 w1=>∃e1 h1,I m e1 h1∧St b0 base (fun _=>True) e1 h1 w1 a1∧FrB b0 h w h1 w1∧SameA a a1
  let μ:Act→World→Nat:=fun a1 w1=>by classical exact if hx:∃m,J m a1 w1 then Classical.choose (exists_least hx) else 0
  have hμ:∀m a1 w1,J m a1 w1→J (μ a1 w1) a1 w1∧μ a1 w1≤m:=by
   intro m a1 w1 hJ
   have hx:∃m,J m a1 w1:=⟨m,hJ⟩
   have:=Classical.choose_spec (exists_least hx)
   have hm:μ a1 w1=Classical.choose (exists_least hx):=by simp only[μ,dif_pos hx]
   rw[hm]
   exact⟨this.1,this.2 m hJ⟩
  refine wp_loop (fun a1 w1=>∃m,J m a1 w1) μ ⟨m0,_,_,hI0,T.toBase.forget _,FrB.refl _ _ _,⟨rfl,rfl⟩⟩ ?_
  rintro a1 w1 ⟨m,hJ⟩
  obtain⟨⟨e1,h1,hI,T1,hF1,hS1⟩,_⟩:=hμ m a1 w1 hJ
  refine cco_sound hok x base fg.tail _ _ e1 h1 w1 a1 ⟨[],by simp⟩ T1 (by rw[hS1.2];exact hnt) (hround _ _ _ hI) ?_
  intro z e2 h2 a2 w2 hq hsp hF2 hS2
  cases z with
  | nrm=>
   simp only at hq
   obtain⟨m',hlt,hI'⟩:=hq
   simp only[exOf,Exit.then]
   obtain⟨r2,T2⟩:=hsp.any (cco_lay x base fg.tail ⟨[],by simp⟩)
   have hJ2:J m' a2 w2:=⟨_,h2,hI',T2.toBase.forget _,hF1.trans hF2,hS2.trans hS1⟩
   exact⟨⟨m',hJ2⟩,Nat.lt_of_le_of_lt (hμ m' a2 w2 hJ2).2 hlt⟩
  | exit i=>
   exact hR (.exit i) e2 h2 a2 w2 hq (hsp.any (cco_lay x base fg.tail ⟨[],by simp⟩)) (hF1.trans hF2) (hS2.trans hS1)
  | ret=>
   exact hR .ret e2 h2 a2 w2 hq (hsp.any (cco_lay x base fg.tail ⟨[],by simp⟩)) (hF1.trans hF2) (hS2.trans hS1)
 | .scope _,lay,fg,Q,R,e,h,w,a,hl,T,hnt,hw,hR=>(stuckC_false (by simpa[cco] using hw)).elim
 | .label _,lay,fg,Q,R,e,h,w,a,hl,T,hnt,hw,hR=>(stuckC_false (by simpa[cco] using hw)).elim
 | .goto _,lay,fg,Q,R,e,h,w,a,hl,T,hnt,hw,hR=>(stuckC_false (by simpa[cco] using hw)).elim
 | .refuse _,lay,fg,Q,R,e,h,w,a,hl,T,hnt,hw,hR=>(stuckC_false (by simpa[cco] using hw)).elim
 | .rangeFunc ..,lay,fg,Q,R,e,h,w,a,hl,T,hnt,hw,hR=>(stuckC_false (by simpa[cco] using hw)).elim
theorem parsOk_spec:∀{n i:Nat}{l:List (Nat×Bool)},parsOk n i l=true→n≤l.length∧∀j,j<n→l[j]? = some (i+j,false)
 | 0,_,_,_=>⟨Nat.zero_le _,fun j hj=>by omega⟩
 | n+1,i,[],h=>by simp[parsOk] at h
 | n+1,i,(t,b)::r,h=>by
  simp only[parsOk,Bool.and_eq_true,beq_iff_eq,Bool.not_eq_true'] at h
  obtain⟨⟨h1,h2⟩,h3⟩:=h
  obtain⟨g1,g2⟩:=parsOk_spec h3
  refine⟨by simp;omega,fun j hj=>?_⟩
  cases j with
  | zero=>simp[h1,h2]
  | succ j=>
   have:=g2 j (by omega)
   rw[List.getElem?_cons_succ,this]
   congr 2
   omega
theorem env0_get {args:List Value}{n i:Nat}:eget (env0 args n) i=args[i]?:=by
 unfold env0
 rw[eget_append]
 simp only[List.length_map]
 split
 ·rename_i h
  have:∀(l:List Value) (i:Nat),i<l.length→eget (l.map some) i=l[i]?:=by
   intro l
   induction l with
   | nil=>intro i hi;simp at hi
   | cons x l ih=>
    intro i hi
    cases i with
    | zero=>rfl
    | succ i=>simp only[List.map_cons,eget,List.getElem?_cons_succ];exact ih i (by simpa using hi)
  exact this args i h
 ·rename_i h
  rw[eget_replicate,List.getElem?_eq_none (by omega)]
def resM (tmps:Array Value):ResultVar→Sem Value
 | .tmp t=>pure (tmps.getD t undef)
 | .cell s t=>do loadVar t (← asAddr (tmps.getD s undef))
theorem cres_run {lay:Lay}{e:Env}{h:Heap}{w:World}{a:Act}(T:St b0 lay (fun _=>True) e h w a):∀{l:List ResultVar}{r:List (Nat×Option (Option Nat))}{vs:List Value},cres P lay l=some r→resV e r=some vs →
  (l.mapM (resM a.tmps)).run P w=.ok vs w
 | [],r,vs,h1,h2=>by simp[cres] at h1;subst h1;simp[resV] at h2;simp[h2]
 | .tmp t::l,r,vs,h1,h2=>by
  simp only[cres] at h1
  split at h1
  ·rename_i i r' hi hr
   simp only[Option.some.injEq] at h1
   subst h1
   simp only[resV] at h2
   split at h2
   ·rename_i v vs' hv hvs
    simp only[Option.some.injEq] at h2
    subst h2
    obtain⟨blk,hcov,_⟩:=T.cov
    have:a.tmps.getD t undef=v:=hcov i t .pl (lfind_spec (plainAt_spec hi)) trivial v hv
    have ih:=cres_run T hr hvs
    simp only[List.mapM_cons,resM,Sem.run_bind,Sem.run_pure,Result.andThen_ok,this]
    rw[ih]
    rfl
   ·simp at h2
  ·simp at h1
 | .cell s t::l,r,vs,h1,h2=>by
  simp only[cres] at h1
  split at h1
  ·rename_i i sz r' hi hsz hr
   simp only[Option.some.injEq] at h1
   subst h1
   simp only[resV] at h2
   split at h2
   ·rename_i v vs' hv hvs
    simp only[Option.some.injEq] at h2
    subst h2
    obtain⟨blk,hcov,_⟩:=T.cov
    cases hg:eget e i with
    | none=>rw[hg] at hv;simp[pgetV] at hv
    | some u=>
     rw[hg] at hv
     obtain⟨g1,g2,_⟩:=hcov i s .bx (lfind_spec hi) trivial u hg
     have g1':a.tmps.getD s undef=.pointer (some ⟨blk i,0,none⟩):=g1
     have hload:=pgetV_run (P:=P) hsz g2 hv
     have hload':(loadVar t ⟨blk i,0,none⟩).run P w=.ok v w:=by
      simpa[Instr.loadAt,Instr.sureAddr] using hload
     have ih:=cres_run T hr hvs
     simp only[List.mapM_cons,resM,Sem.run_bind,g1',asAddr,Sem.run_pure,Result.andThen_ok,hload']
     rw[ih]
     rfl
   ·simp at h2
  ·simp at h1
theorem enter {hn:Hint}{f:FuncId}{fn:Func}{ir:FIR}{args:List Value}{h:Heap}{k:Value→Heap→Prop}(hf:P.funcs[f]? = some fn) (hname:(fn.name == "runtime.NumGoroutine")=false) (hc:cfun P hn fn=some ir)
  (hargs:args.length=fn.params.size+fn.nfree) (hw:ir.body.wp P (fun x e h'=>match x with
   | .exit _=>False
   | _=>∃vs,resV e ir.res=some vs∧∃h2,h2.le h'∧k (tupV vs) h2) (env0 args ir.size) h):CallE P f args h k:=by
 unfold cfun at hc
 split at hc
 case h_2=>simp at hc
 rename_i c r hb hr
 split at hc
 case isFalse=>simp at hc
 rename_i hck
 simp only[Option.some.injEq] at hc
 subst hc
 simp only at hw
 rw[Bool.and_eq_true] at hck
 obtain⟨hp,hok⟩:=hck
 obtain⟨hp1,hp2⟩:=parsOk_spec hp
 intro w hs
 have hname':¬fn.name = "runtime.NumGoroutine":=by simpa using hname
 have hcall:(callFunc f args.toArray).run P w=.ok (.enter f args.toArray) w:=by
  simp[callFunc,hf,hname',hb]
 rw[hcall]
 refine calls_of_wp hf hb ?_
 have hsz:fn.ntmps≤(args.toArray++Array.replicate (fn.ntmps-args.toArray.size) undef).size:=by simp;omega
 have hlay:∀(i t:Nat) (kk:Knd),(baseLay hn)[i]? = some (t,kk)→∃b,hn.vars[i]? = some (t,b)∧kk=if b then .bx else .pl:=by
  intro i t kk hi
  simp only[baseLay,List.getElem?_map,Option.map_eq_some_iff] at hi
  obtain⟨⟨t',b⟩,h1,h2⟩:=hi
  simp only[Prod.mk.injEq] at h2
  obtain⟨rfl,rfl⟩:=h2
  exact⟨b,h1,rfl⟩
 have T:St w.heap.size (baseLay hn) (fun _=>True) (env0 args hn.vars.length) h w { tmps:=args.toArray++Array.replicate (fn.ntmps-args.toArray.size) undef,defers:=[] }:=by
  have hpar:∀(i t:Nat) (kk:Knd) (v:Value),(baseLay hn)[i]? = some (t,kk)→eget (env0 args hn.vars.length) i=some v→kk=.pl∧t=i∧args[i]? = some v:=by
   intro i t kk v hi hv
   rw[env0_get] at hv
   have hlt:i<args.length:=(List.getElem?_eq_some_iff.1 hv).1
   obtain⟨b,hb',hkk⟩:=hlay i t kk hi
   have:=hp2 i (by omega)
   rw[this] at hb'
   simp only[Option.some.injEq,Prod.mk.injEq] at hb'
   obtain⟨h1,h2⟩:=hb'
   subst h2
   exact⟨hkk,by omega,hv⟩
  refine⟨⟨fun _=>0,?_,?_⟩,hs,fun i t kk hi=>Nat.lt_of_lt_of_le (okLay_lt hok hi) hsz,Nat.le_refl _,?_⟩
  ·intro i t kk hi _
   cases kk with
   | pl=>
    intro v hv
    obtain⟨_,rfl,h1⟩:=hpar i t _ v hi hv
    have hlt:=(List.getElem?_eq_some_iff.1 h1).1
    have h2:(args.toArray++Array.replicate (fn.ntmps-args.toArray.size) undef)[t]? = some v:=by
     rw[Array.getElem?_append_left (by simpa using hlt)]
     simpa using h1
    simp only[Act.eval,Array.getD_eq_getD_getElem?,h2,Option.getD_some]
   | bx=>intro v hv;obtain⟨h1,_,_⟩:=hpar i t _ v hi hv;simp at h1
   | al j off=>obtain⟨b,_,h1⟩:=hlay i t _ hi;split at h1<;>simp at h1
   | ps m=>obtain⟨b,_,h1⟩:=hlay i t _ hi;split at h1<;>simp at h1
  ·rintro i j _ _ ⟨t,kk,v,h1,h2,h3⟩ _ _
   obtain⟨rfl,_,_⟩:=hpar i t kk v h1 h3
   simp[isOwn] at h2
  ·simp[baseLay,env0];omega
 refine cco_sound hok c (baseLay hn) hn.fg _ _ _ h w _ ⟨[],by simp⟩ T hsz hw ?_
 intro x e' h' a' w' hq hsp hF hS
 obtain⟨r',T'⟩:=hsp.any (cco_lay c (baseLay hn) hn.fg ⟨[],by simp⟩)
 have hpost:(∃vs,resV e' r=some vs∧∃h2,h2.le h'∧k (tupV vs) h2)→a'.defers=[]∧∃v,(results fn a'.tmps).run P w'=.ok v w'∧∃v' h'',Ending.returned v=.returned v'∧k v' h''∧h''.sub w'∧Frm h w h'' w':=by
  rintro⟨vs,hvs,h2,hle,hk⟩
  have hres:=cres_run T'.toBase' hr hvs
  refine⟨hS.1,tupV vs,?_,tupV vs,h2,rfl,hk,fun b o hb=>T'.sub b o (hle b o hb),⟨hF.tape,hF.os,hF.output,hF.size,hF.keep,fun b hb hn=>by
   cases hh:h2 b with
   | none=>rfl
   | some o=>have:=hle b o hh;rw[hF.fresh b hb hn] at this;simp at this⟩⟩
  have hres':(fn.results.mapM (resM a'.tmps)).run P w'=.ok vs.toArray w':=by
   rw[Array.mapM_eq_mapM_toList,Sem.run_map,hres]
   rfl
  have hdef:results fn a'.tmps=(do let vs ← fn.results.mapM (resM a'.tmps);pure (if h:vs.size=1 then vs[0] else .tuple vs)):=by
   unfold results
   congr 1
  rw[hdef]
  simp only[Sem.run_bind]
  rw[hres']
  simp only[Result.andThen_ok,Sem.run_pure]
  congr 1
  cases vs with
  | nil=>rfl
  | cons v vs=>
   cases vs with
   | nil=>rfl
   | cons u vs=>simp[tupV]
 cases x with
 | exit i=>exact hq.elim
 | nrm=>exact hpost hq
 | ret=>exact hpost hq
end
def retQ (res:List (Nat×Option (Option Nat))) (k:Value→Heap→Prop) (x:Ex) (e:Env) (h:Heap):Prop:=
 match x with
 | .exit _=>False
 | _=>∃vs,resV e res=some vs∧∃h2,h2.le h∧k (tupV vs) h2
def RetK (k:Value→Heap→Prop) (v:Value) (h:Heap):Prop:=∃h2,h2.le h∧k v h2
theorem RetK.keep {k:Value→Heap→Prop}{v:Value}{h:Heap}(hk:k v h):RetK k v h:=⟨h,fun _ _ hb=>hb,hk⟩
theorem RetK.drop {k:Value→Heap→Prop}{v:Value}{h h2:Heap}(hl:h2.le h) (hk:k v h2):RetK k v h:=⟨h2,hl,hk⟩
def ExW {α:Type}(x:Option α) (k:α→Prop):Prop:=∃v,x=some v∧k v
@[simp] theorem ExW_some {α:Type}{v:α}{k:α→Prop}:ExW (some v) k=k v:=by simp[ExW]
theorem ExW.mk {α:Type}{x:Option α}{k:α→Prop}{v:α}(hx:x=some v) (hk:k v):ExW x k:=⟨v,hx,hk⟩
def AndW (p A:Prop):Prop:=p∧A
@[simp] theorem AndW_true {A:Prop}:AndW True A=A:=by simp[AndW]
theorem AndW.mk {p A:Prop}(hp:p) (hA:A):AndW p A:=⟨hp,hA⟩
def fnOf:Value→Option (FuncId×List Value×List Value)
 | .func (.func f) first cap=>some (f,first.toList,cap.toList)
 | _=>none
def IteW (p A B:Prop):Prop:=(p→A)∧(¬p→B)
theorem IteW.mk {p A B:Prop}(h1:p→A) (h2:¬p→B):IteW p A B:=⟨h1,h2⟩
@[simp] theorem IteW_true {A B:Prop}:IteW True A B=A:=by simp[IteW]
@[simp] theorem IteW_false {A B:Prop}:IteW False A B=B:=by simp[IteW]
@[simp] theorem IteW_not {p A B:Prop}:IteW (¬p) A B=IteW p B A:=by simp[IteW,And.comm]
theorem IteW_pos {p A B:Prop}(h:p):IteW p A B=A:=by simp[IteW,h]
theorem IteW_neg {p A B:Prop}(h:¬p):IteW p A B=B:=by simp[IteW,h]
def condW (v:Option Value) (A B:Prop):Prop:=∃t,v=some (.bool t)∧IteW (t=true) A B
@[simp] theorem condW_bool {b:Bool}{A B:Prop}:condW (some (.bool b)) A B=IteW (b=true) A B:=by simp[condW]
theorem A.wp_mono {P:Program}{k k':Env→Heap→Prop}(hk:∀e h,k e h→k' e h) {e:Env}{h:Heap}{x:A}(hx:x.wp P k e h):x.wp P k' e h:=by
 cases x<;>simp only[A.wp] at hx ⊢
 case px=>obtain⟨v,h1,h2⟩:=hx;exact⟨v,h1,hk _ _ h2⟩
 case ld=>obtain⟨v,h1,h2⟩:=hx;exact⟨v,h1,hk _ _ h2⟩
 case ex=>exact EX.wp_mono (fun v h' ⟨h2,hl,h3⟩=>⟨h2,hl,hk _ _ h3⟩) hx
 case pnew=>obtain⟨v,h1,h2⟩:=hx;exact⟨v,h1,hk _ _ h2⟩
 case pget=>obtain⟨v,h1,h2⟩:=hx;exact⟨v,h1,hk _ _ h2⟩
 case pset=>obtain⟨h0,v,h1,h2⟩:=hx;exact⟨h0,v,h1,hk _ _ h2⟩
 case als=>exact⟨hx.1,hx.2.1,hk _ _ hx.2.2⟩
 case psl=>obtain⟨v,h1,h2⟩:=hx;exact⟨v,h1,hk _ _ h2⟩
theorem S.wp_mono {P:Program}{k k':Env→Heap→Prop}(hk:∀e h,k e h→k' e h) {e:Env}{h:Heap}{s:S}(hx:s.wp P k e h):s.wp P k' e h:=by
 cases s with
 | act g x=>
  cases g with
  | none=>exact A.wp_mono hk hx
  | some g=>
   simp only[S.wp] at hx ⊢
   obtain⟨b,h1,h2⟩:=hx
   refine⟨b,h1,?_⟩
   cases hv:x.val e h with
   | none=>rw[hv] at h2;exact⟨fun hb=>A.wp_mono hk (h2.1 hb),fun hb=>hk _ _ (h2.2 hb)⟩
   | some dv=>rw[hv] at h2;exact⟨h2.1,hk _ _ h2.2⟩
 | re d a sz g=>
  cases g with
  | none=>exact⟨hx.1,hk _ _ hx.2⟩
  | some g=>obtain⟨b,h1,h2,h3⟩:=hx;exact⟨b,h1,h2,hk _ _ h3⟩
 | ext n m=>exact hk _ _ hx
theorem Pl.wp_mono {P:Program}{k k':Env→Heap→Prop}(hk:∀e h,k e h→k' e h):∀(p:Pl) {e:Env}{h:Heap},p.wp P k e h→p.wp P k' e h
 | .done,_,_,hx=>hk _ _ hx
 | .st _ n,_,_,hx=>S.wp_mono (fun _ _=>Pl.wp_mono hk n) hx
 | .both a b,_,_,hx=>⟨Pl.wp_mono hk a hx.1,Pl.wp_mono hk b hx.2⟩
theorem C.wp_mono {P:Program}:∀(c:C) {Q Q':Ex→Env→Heap→Prop}(_:∀x e h,Q x e h→Q' x e h) {e:Env}{h:Heap},c.wp P Q e h→c.wp P Q' e h
 | .skip,_,_,hQ,_,_,hx=>hQ _ _ _ hx
 | .pl p,_,_,hQ,_,_,hx=>Pl.wp_mono (hQ .nrm) p hx
 | .seq a b,_,_,hQ,_,_,hx=>C.wp_mono a (fun x e h=>by cases x<;>first | exact hQ _ _ _ | exact C.wp_mono b hQ) hx
 | .cond n o a b,_,_,hQ,_,_,⟨t,h1,h2,h3⟩=>⟨t,h1,fun ht=>C.wp_mono a hQ (h2 ht),fun ht=>C.wp_mono b hQ (h3 ht)⟩
 | .block id a,_,_,hQ,_,_,hx=>C.wp_mono a (fun x e h hx=>by
   cases x with
   | exit i=>
    by_cases hi:i=id
    ·simp only[if_pos hi] at hx ⊢;exact hQ _ _ _ hx
    ·simp only[if_neg hi] at hx ⊢;exact hQ _ _ _ hx
   | nrm=>exact hQ _ _ _ hx
   | ret=>exact hQ _ _ _ hx) hx
 | .loop n fg a,_,_,hQ,_,_,⟨I,h0,hs⟩=>⟨I,h0,fun m e h hI=>C.wp_mono a (fun x e h hx=>by
   cases x with
   | nrm=>exact hx
   | exit i=>exact hQ _ _ _ hx
   | ret=>exact hQ _ _ _ hx) (hs m e h hI)⟩
 | .exit _,_,_,hQ,_,_,hx=>hQ _ _ _ hx
 | .ret,_,_,hQ,_,_,hx=>hQ _ _ _ hx
section
variable {P:Program}{Q:Ex→Env→Heap→Prop}{e:Env}{h:Heap}
def seqQ (P:Program) (b:C) (Q:Ex→Env→Heap→Prop) (x:Ex) (e:Env) (h:Heap):Prop:=
 match x with
 | .nrm=>b.wp P Q e h
 | x=>Q x e h
def blockQ (id:Nat) (Q:Ex→Env→Heap→Prop) (x:Ex) (e:Env) (h:Heap):Prop:=
 match x with
 | .exit i=>if i=id then Q .nrm e h else Q (.exit i) e h
 | x=>Q x e h
def loopQ (n:Nat) (fg:List Nat) (I:Env→Heap→Prop) (Q:Ex→Env→Heap→Prop) (x:Ex) (e:Env) (h:Heap):Prop:=
 match x with
 | .nrm=>I (efgt (e.take n) fg) h
 | x=>Q x e h
@[simp] theorem seqQ_nrm {b:C}:seqQ P b Q .nrm e h=b.wp P Q e h:=rfl
@[simp] theorem seqQ_ret {b:C}:seqQ P b Q .ret e h=Q .ret e h:=rfl
@[simp] theorem seqQ_exit {b:C}{i:Nat}:seqQ P b Q (.exit i) e h=Q (.exit i) e h:=rfl
@[simp] theorem blockQ_nrm {i:Nat}:blockQ i Q .nrm e h=Q .nrm e h:=rfl
@[simp] theorem blockQ_ret {i:Nat}:blockQ i Q .ret e h=Q .ret e h:=rfl
@[simp] theorem blockQ_exit {i j:Nat}:blockQ i Q (.exit j) e h=if j=i then Q .nrm e h else Q (.exit j) e h:=rfl
@[simp] theorem loopQ_nrm {n:Nat}{fg:List Nat}{I:Env→Heap→Prop}:loopQ n fg I Q .nrm e h=I (efgt (e.take n) fg) h:=rfl
@[simp] theorem loopQ_ret {n:Nat}{fg:List Nat}{I:Env→Heap→Prop}:loopQ n fg I Q .ret e h=Q .ret e h:=rfl
@[simp] theorem loopQ_exit {n:Nat}{fg:List Nat}{I:Env→Heap→Prop}{i:Nat}:loopQ n fg I Q (.exit i) e h=Q (.exit i) e h:=rfl
@[simp] theorem retQ_nrm {res:List (Nat×Option (Option Nat))}{k:Value→Heap→Prop}:retQ res k .nrm e h=ExW (resV e res) (fun vs=>RetK k (tupV vs) h):=rfl
@[simp] theorem retQ_ret {res:List (Nat×Option (Option Nat))}{k:Value→Heap→Prop}:retQ res k .ret e h=ExW (resV e res) (fun vs=>RetK k (tupV vs) h):=rfl
@[simp] theorem retQ_exit {res:List (Nat×Option (Option Nat))}{k:Value→Heap→Prop}{i:Nat}:retQ res k (.exit i) e h=False:=rfl
theorem wp_skip:C.skip.wp P Q e h=Q .nrm e h:=rfl
theorem wp_pl {p:Pl}:(C.pl p).wp P Q e h=p.wp P (Q .nrm) e h:=rfl
theorem wp_seq {a b:C}:(C.seq a b).wp P Q e h=a.wp P (seqQ P b Q) e h:=by
 simp only[C.wp]
 congr 1
theorem wp_cond {n:Nat}{o:O}{a b:C}:(C.cond n o a b).wp P Q e h=condW (o.get e) (a.wp P Q (e.take n) h) (b.wp P Q (e.take n) h):=by
 simp[C.wp,condW,IteW]
theorem wp_block {i:Nat}{a:C}:(C.block i a).wp P Q e h=a.wp P (blockQ i Q) e h:=by
 simp only[C.wp]
 congr 1
theorem wp_exit {i:Nat}:(C.exit i).wp P Q e h=Q (.exit i) e h:=rfl
theorem wp_ret:C.ret.wp P Q e h=Q .ret e h:=rfl
theorem wp_loop {n:Nat}{fg:List Nat}{a:C}(I:Nat→Env→Heap→Prop) (h0:∃m,I m (efgt (e.take n) fg) h)
  (hs:∀(I':Env→Heap→Prop) m e h,(∀m' e h,m'<m→I m' e h→I' e h)→I m e h→a.wp P (loopQ n fg I' Q) e h):(C.loop n fg a).wp P Q e h:=by
 refine⟨I,h0,fun m e h hI=>?_⟩
 have h1:=hs (fun e' h'=>∃m',m'<m∧I m' e' h') m e h (fun m' e h hm hI=>⟨m',hm,hI⟩) hI
 have h2:(fun (x:Ex) (e':Env) (h':Heap)=>match x with
       | .nrm=>∃m',m'<m∧I m' (efgt (e'.take n) fg) h'
       | x=>Q x e' h')=loopQ n fg (fun e' h'=>∃m',m'<m∧I m' e' h') Q:=by
  funext x e' h'
  cases x<;>rfl
 exact h2▸h1
theorem wp_count {n:Nat}{fg:List Nat}{a:C}(N:Nat) (J:Nat→Env→Heap→Prop) (h0:J 0 (efgt (e.take n) fg) h)
  (hs:∀(J':Env→Heap→Prop) i e h,(∀e h,i<N→J (i+1) e h→J' e h)→i≤N→J i e h→a.wp P (loopQ n fg J' Q) e h):(C.loop n fg a).wp P Q e h:=by
 refine wp_loop (fun m e h=>∃i,i≤N∧m=N-i∧J i e h) ⟨N,0,by omega,by omega,h0⟩ ?_
 rintro I' m e h hI ⟨i,hi,rfl,hJ⟩
 exact hs I' i e h (fun e h hlt hJ=>hI (N-(i+1)) e h (by omega) ⟨i+1,hlt,rfl,hJ⟩) hi hJ
theorem pl_done {k:Env→Heap→Prop}:Pl.done.wp P k e h=k e h:=rfl
theorem pl_st {s:S}{n:Pl}{k:Env→Heap→Prop}:(Pl.st s n).wp P k e h=s.wp P (n.wp P k) e h:=rfl
theorem s_act {x:A}{k:Env→Heap→Prop}:(S.act none x).wp P k e h=x.wp P k e h:=rfl
def gvw (w:Bool):Option Value→Option Bool
 | some (.bool b)=>some (b == w)
 | some _=>some false
 | none=>none
def guardW (v:Option Value) (w:Bool) (A B:Prop):Prop:=∃b,gvw w v=some b∧(b=true→A)∧(b=false→B)
@[congr] theorem guardW_congr {v v':Option Value}{w:Bool}{A B:Prop}(hv:v=v'):guardW v w A B=guardW v' w A B:=by rw[hv]
@[simp] theorem guardW_tt {A B:Prop}:guardW (some (.bool true)) true A B=A:=by simp[guardW,gvw]
@[simp] theorem guardW_ff {A B:Prop}:guardW (some (.bool false)) false A B=A:=by simp[guardW,gvw]
@[simp] theorem guardW_tf {A B:Prop}:guardW (some (.bool true)) false A B=B:=by simp[guardW,gvw]
@[simp] theorem guardW_ft {A B:Prop}:guardW (some (.bool false)) true A B=B:=by simp[guardW,gvw]
@[simp] theorem guardW_undef {w:Bool}{A B:Prop}:guardW (some undef) w A B=B:=by simp[guardW,gvw,undef]
theorem gcond_gvw {o:O}{w:Bool}:gcond e (some (o,w))=gvw w (o.get e):=by
 simp only[gcond]
 cases o.get e with
 | none=>rfl
 | some v=>cases v<;>rfl
theorem s_gp {v:Option Value}{d:Option Nat}{b:Bool}{k:Env→Heap→Prop}:((b=true→v.isSome=true)∧k (dput d (gval b v) e) h)↔((b=true→∃u,v=some u∧k (dput d (some u) e) h)∧(b=false→k (dput d (some undef) e) h)):=by
 cases b
 ·simp[gval]
 ·cases v<;>simp[gval]
theorem s_g {o:O}{w:Bool}{x:A}{k:Env→Heap→Prop}:(S.act (some (o,w)) x).wp P k e h=guardW (o.get e) w (x.wp P k e h) (k (dput x.dst (some undef) e) h):=by
 have key:∀b:Bool,(match x.val e h with
  | some (d,v)=>(b=true→v.isSome=true)∧k (dput d (gval b v) e) h
  | none=>(b=true→x.wp P k e h)∧(b=false→k (dput x.dst (some undef) e) h))↔(b=true→x.wp P k e h)∧(b=false→k (dput x.dst (some undef) e) h):=by
  intro b
  cases x
  case px=>exact s_gp
  case ld=>exact s_gp
  case pget=>exact s_gp
  all_goals exact Iff.rfl
 apply propext
 constructor
 ·rintro⟨b,h1,h2⟩;exact⟨b,gcond_gvw▸h1,(key b).1 h2⟩
 ·rintro⟨b,h1,h2⟩;exact⟨b,gcond_gvw▸h1,(key b).2 h2⟩
theorem s_re {d:Nat}{a:O}{sz:Option Nat}{k:Env→Heap→Prop}:(S.re d a sz none).wp P k e h=AndW (hload h (a.get e) sz=eget e d) (k e h):=rfl
theorem s_reg {d:Nat}{a:O}{sz:Option Nat}{g:O×Bool}{k:Env→Heap→Prop}:(S.re d a sz (some g)).wp P k e h =
  ∃b,gcond e (some g)=some b∧(b=true→hload h (a.get e) sz=eget e d)∧k e h:=rfl
theorem s_ext {n m:Nat}{k:Env→Heap→Prop}:(S.ext n m).wp P k e h=k (eext n m e) h:=rfl
theorem a_px {d:Option Nat}{x:PX}{k:Env→Heap→Prop}:(A.px d x).wp P k e h=ExW (x.ev e) (fun v=>k (dput d (some v) e) h):=rfl
theorem a_ld {d:Option Nat}{a:O}{sz:Option Nat}{k:Env→Heap→Prop}:(A.ld d a sz).wp P k e h=ExW (hload h (a.get e) sz) (fun v=>k (dput d (some v) e) h):=rfl
theorem a_pnew {i:Nat}{x:O}{cl:List Nat}{k:Env→Heap→Prop}:(A.pnew i x cl).wp P k e h=ExW (x.get e) (fun v=>k (efgt (eset e i (some v)) cl) h):=rfl
theorem a_pget {d c:Option Nat}{i off:Nat}{sz:Option Nat}{k:Env→Heap→Prop}:(A.pget d c i off sz).wp P k e h=ExW (pgetC e c i off sz) (fun v=>k (dput d (some v) e) h):=rfl
theorem a_pset {c:Option Nat}{i off sz:Nat}{x:O}{k:Env→Heap→Prop}:(A.pset c i off sz x).wp P k e h=AndW (aok e c=true) (ExW (psetV (eget e i) off sz (x.get e)) (fun v=>k (eset e i (some v)) h)):=rfl
theorem a_als {d:Nat}{c:Option Nat}{i:Nat}{k:Env→Heap→Prop}:(A.als d c i).wp P k e h=AndW (aok e c=true) (AndW ((eget e i).isSome=true) (k (eset e d (some (.bool true))) h)):=rfl
theorem a_psl {d:Nat}{z:List Value}{ps:List (Nat×Nat×O)}{k:Env→Heap→Prop}:(A.psl d z ps).wp P k e h=ExW (fillP e z ps) (fun cs=>k (eset e d (some (.agg cs.toArray))) h):=rfl
theorem a_call {d:Option Nat}{f:FuncId}{args:List O}{k:Env→Heap→Prop}:(A.ex d (.call f args)).wp P k e h=ExW (ogets e args) (fun vs=>CallE P f vs h fun v h'=>Fgt k (dput d (some v) e) h'):=rfl
theorem a_callv {d:Option Nat}{fo:O}{args:List O}{k:Env→Heap→Prop}:(A.ex d (.callv fo args)).wp P k e h =
  ExW ((fo.get e).bind fnOf) (fun c=>ExW (ogets e args) (fun vs=>CallE P c.1 (c.2.1++vs++c.2.2) h fun v h'=>Fgt k (dput d (some v) e) h')):=by
 apply propext
 constructor
 ·rintro⟨f,first,cap,vs,h1,h2,h3⟩
  exact⟨(f,first.toList,cap.toList),by rw[h1];rfl,vs,h2,h3⟩
 ·rintro⟨⟨f,first,cap⟩,h1,vs,h2,h3⟩
  cases hf:fo.get e with
  | none=>rw[hf] at h1;simp at h1
  | some v=>
   rw[hf] at h1
   simp only[Option.bind_some] at h1
   unfold fnOf at h1
   split at h1
   ·simp only[Option.some.injEq,Prod.mk.injEq] at h1
    obtain⟨rfl,rfl,rfl⟩:=h1
    exact⟨_,_,_,vs,hf,h2,h3⟩
   ·simp at h1
@[simp] theorem fnOf_func {f:FuncId}{a b:Array Value}:fnOf (.func (.func f) a b)=some (f,a.toList,b.toList):=rfl
@[simp] theorem eget_zero {x:Option Value}{l:Env}:eget (x::l) 0=x:=rfl
@[simp] theorem eget_succ {x:Option Value}{l:Env}{n:Nat}:eget (x::l) (n+1)=eget l n:=rfl
@[simp] theorem eset_zero {x v:Option Value}{l:Env}:eset (x::l) 0 v=v::l:=rfl
@[simp] theorem eset_succ {x v:Option Value}{l:Env}{n:Nat}:eset (x::l) (n+1) v=x::eset l n v:=rfl
@[simp] theorem efgt_nil {l:Env}:efgt l []=l:=rfl
@[simp] theorem efgt_cons {l:Env}{i:Nat}{r:List Nat}:efgt l (i::r)=efgt (eset l i none) r:=rfl
@[simp] theorem eext_zero {m:Nat}{l:Env}:eext 0 m l=List.replicate m none:=rfl
@[simp] theorem eext_succ {n m:Nat}{x:Option Value}{l:Env}:eext (n+1) m (x::l)=x::eext n m l:=rfl
@[simp] theorem get_v {i:Nat}:(O.v i).get e=eget e i:=rfl
@[simp] theorem get_c {x:Value}:(O.c x).get e=some x:=rfl
@[simp] theorem ogets_nil:ogets e []=some []:=rfl
@[simp] theorem dput_none {v:Option Value}:dput none v e=e:=rfl
@[simp] theorem dput_some {i:Nat}{v:Option Value}:dput (some i) v e=eset e i v:=rfl
@[simp] theorem gval_true {v:Option Value}:gval true v=v:=rfl
@[simp] theorem gval_false {v:Option Value}:gval false v=some undef:=rfl
@[simp] theorem tupV_one {v:Value}:tupV [v]=v:=rfl
@[simp] theorem tupV_two {v u:Value}{l:List Value}:tupV (v::u::l)=.tuple (v::u::l).toArray:=rfl
theorem le_refl':h.le h:=fun _ _ hb=>hb
theorem Fgt.keep {k:Env→Heap→Prop}(hk:k e h):Fgt k e h:=⟨h,le_refl',hk⟩
theorem Fgt.drop {k:Env→Heap→Prop}{h':Heap}(hl:h'.le h) (hk:k e h'):Fgt k e h:=⟨h',hl,hk⟩
theorem wrap64 {n:Int}(h1:-9223372036854775808≤n) (h2:n<9223372036854775808):IntKind.i64.wrap n=n:=by
 rw[IntKind.wrap_i64];omega
end
def allOne:List Value→Bool
 | []=>true
 | v::l=>v.oneCell'&&allOne l
@[simp] theorem allOne_nil:allOne []=true:=rfl
@[simp] theorem allOne_cons {v:Value}{l:List Value}:allOne (v::l)=(v.oneCell'&&allOne l):=rfl
theorem allOne_eq:∀l,List.all l Value.oneCell'=allOne l
 | []=>rfl
 | v::l=>by simp[allOne,allOne_eq l]
@[simp] theorem cells_agg {c:Array Value}:(Value.agg c).cells=c:=rfl
@[simp] theorem cells_int {k:IntKind}{n:Int}:(Value.int k n).cells = #[.int k n]:=rfl
@[simp] theorem cells_bool {b:Bool}:(Value.bool b).cells = #[.bool b]:=rfl
@[simp] theorem cells_string {b:ByteArray}:(Value.string b).cells = #[.string b]:=rfl
@[simp] theorem cells_slice {p:Option Addr}{n c:Nat}:(Value.slice p n c).cells = #[.slice p n c]:=rfl
@[simp] theorem cells_pointer {p:Option Addr}:(Value.pointer p).cells = #[.pointer p]:=rfl
@[simp] theorem cells_map {p:Option Nat}:(Value.map p).cells = #[.map p]:=rfl
@[simp] theorem cells_func {f:Fn}{a b:Array Value}:(Value.func f a b).cells = #[.func f a b]:=rfl
@[simp] theorem cells_nilFunc:Value.nilFunc.cells = #[.nilFunc]:=rfl
@[simp] theorem pgetV_agg {c:Array Value}{off:Nat}:pgetV (some (.agg c)) off none=c.toList[off]?:=rfl
@[simp] theorem pgetV_aggs {c:Array Value}{off n:Nat}:pgetV (some (.agg c)) off (some n)=if off=0∧c.size=n then some (.agg c) else partV c.toList off (some n):=rfl
@[simp] theorem pgetV_int {k:IntKind}{n:Int}:pgetV (some (.int k n)) 0 none=some (.int k n):=rfl
@[simp] theorem pgetV_bool {b:Bool}:pgetV (some (.bool b)) 0 none=some (.bool b):=rfl
@[simp] theorem pgetV_string {b:ByteArray}:pgetV (some (.string b)) 0 none=some (.string b):=rfl
@[simp] theorem pgetV_slice {p:Option Addr}{n c:Nat}:pgetV (some (.slice p n c)) 0 none=some (.slice p n c):=rfl
@[simp] theorem psetV_agg {c:Array Value}{off sz:Nat}{x:Value}:psetV (some (.agg c)) off sz (some x)=if x.cells.size=sz∧off+sz≤c.size∧allOne x.cells.toList=true then
  some (if off=0∧sz=c.size then .agg x.cells else .agg (setC c.toList off x.cells.toList).toArray) else none:=by
 rw[← allOne_eq];rfl
@[simp] theorem psetV_int {k:IntKind}{n:Int}{x:Value}:psetV (some (.int k n)) 0 1 (some x)=if x.cells.size=1∧allOne x.cells.toList=true then x.cells[0]? else none:=by
 rw[← allOne_eq]
 simp only[psetV,cells_int]
 simp
@[simp] theorem psetV_bool {b:Bool}{x:Value}:psetV (some (.bool b)) 0 1 (some x)=if x.cells.size=1∧allOne x.cells.toList=true then x.cells[0]? else none:=by
 rw[← allOne_eq]
 simp only[psetV,cells_bool]
 simp
@[simp] theorem psetV_string {b:ByteArray}{x:Value}:psetV (some (.string b)) 0 1 (some x)=if x.cells.size=1∧allOne x.cells.toList=true then x.cells[0]? else none:=by
 rw[← allOne_eq]
 simp only[psetV,cells_string]
 simp
@[simp] theorem psetV_slice {p:Option Addr}{n c:Nat}{x:Value}:psetV (some (.slice p n c)) 0 1 (some x)=if x.cells.size=1∧allOne x.cells.toList=true then x.cells[0]? else none:=by
 rw[← allOne_eq]
 simp only[psetV,cells_slice]
 simp
@[simp] theorem one_int {k:IntKind}{n:Int}:(Value.int k n).oneCell'=true:=rfl
@[simp] theorem one_bool {b:Bool}:(Value.bool b).oneCell'=true:=rfl
@[simp] theorem one_string {b:ByteArray}:(Value.string b).oneCell'=true:=rfl
@[simp] theorem one_slice {p:Option Addr}{n c:Nat}:(Value.slice p n c).oneCell'=true:=rfl
@[simp] theorem one_pointer {p:Option Addr}:(Value.pointer p).oneCell'=true:=rfl
@[simp] theorem one_map {p:Option Nat}:(Value.map p).oneCell'=true:=rfl
@[simp] theorem one_func {f:Fn}{a b:Array Value}:(Value.func f a b).oneCell'=true:=rfl
@[simp] theorem one_nilFunc:Value.nilFunc.oneCell'=true:=rfl
attribute [simp] wp_skip wp_pl wp_seq wp_cond wp_block wp_exit wp_ret pl_done pl_st s_act s_g A.dst s_re s_reg s_ext
 a_px a_ld a_pnew a_pget a_pset a_als a_psl a_call a_callv PX.ev gcond env0 binV intV strV unV resV ogets pgetC aok eqB eqL fillP partV
theorem CallE.gen {P:Program}{f:FuncId}{args:List Value}{h:Heap}{Q:Value→Heap→Prop}(hg:∀k:Value→Heap→Prop,(∀v h',Q v h'→k v h')→CallE P f args h k):CallE P f args h Q:=hg Q fun _ _ hq=>hq
theorem CallE.to {P:Program}{f:FuncId}{args:List Value}{h:Heap}{Q k:Value→Heap→Prop}(hc:CallE P f args h Q) (hk:∀v h',Q v h'→k v h'):CallE P f args h k:=CallE.mono hk hc
def Heap.nil:Heap:=fun _=>none
def Heap.one (b:Nat) (o:Obj):Heap:=fun x=>if x=b then some o else none
def clash:Obj:=.map #[] 0
def oplus:Option Obj→Option Obj→Option Obj
 | none,y=>y
 | some x,none=>some x
 | some _,some _=>some clash
def Heap.add (h r:Heap):Heap:=fun b=>oplus (h b) (r b)
def Dj (h r:Heap):Prop:=∀b,h b=none∨r b=none
section
variable {a b c h h' r r':Heap}
@[simp] theorem oplus_none {x:Option Obj}:oplus x none=x:=by cases x<;>rfl
@[simp] theorem none_oplus {x:Option Obj}:oplus none x=x:=rfl
@[simp] theorem oplus_eq_none {x y:Option Obj}:oplus x y=none↔x=none∧y=none:=by cases x<;>cases y<;>simp[oplus]
@[simp] theorem add_nil:h.add Heap.nil=h:=by funext b;simp[Heap.add,Heap.nil]
@[simp] theorem nil_add:Heap.nil.add h=h:=by funext b;simp[Heap.add,Heap.nil]
theorem add_assoc:(a.add b).add c=a.add (b.add c):=by
 funext x
 simp only[Heap.add]
 cases a x<;>cases b x<;>cases c x<;>rfl
theorem add_comm:a.add b=b.add a:=by
 funext x
 simp only[Heap.add]
 cases a x<;>cases b x<;>rfl
instance:Std.Associative Heap.add:=⟨fun _ _ _=>add_assoc⟩
instance:Std.Commutative Heap.add:=⟨fun _ _=>add_comm⟩
theorem Dj.symm (d:Dj a b):Dj b a:=fun x=>(d x).symm
theorem Dj.comm (_:Dj a b):a.add b=b.add a:=add_comm
@[simp] theorem Dj_nil:Dj h Heap.nil:=fun _=>.inr rfl
@[simp] theorem nil_Dj:Dj Heap.nil h:=fun _=>.inl rfl
theorem Dj_add:Dj h (a.add b)↔Dj h a∧Dj h b:=by
 constructor
 ·intro d
  constructor<;>intro x<;>rcases d x with h1 | h1
  ·exact .inl h1
  ·simp only[Heap.add,oplus_eq_none] at h1;exact .inr h1.1
  ·exact .inl h1
  ·simp only[Heap.add,oplus_eq_none] at h1;exact .inr h1.2
 ·rintro⟨d1,d2⟩ x
  rcases d1 x with h1 | h1
  ·exact .inl h1
  ·rcases d2 x with h2 | h2
   ·exact .inl h2
   ·exact .inr (by simp[Heap.add,h1,h2])
theorem add_Dj:Dj (a.add b) h↔Dj a h∧Dj b h:=
 ⟨fun d=>⟨(Dj_add.1 d.symm).1.symm,(Dj_add.1 d.symm).2.symm⟩,fun d=>(Dj_add.2 ⟨d.1.symm,d.2.symm⟩).symm⟩
theorem Dj_one {b:Nat}{o:Obj}:Dj h (Heap.one b o)↔h b=none:=by
 constructor
 ·intro d
  rcases d b with h1 | h1
  ·exact h1
  ·simp[Heap.one] at h1
 ·intro h1 x
  by_cases hx:x=b
  ·subst hx;exact .inl h1
  ·exact .inr (by simp[Heap.one,hx])
theorem one_Dj {b:Nat}{o:Obj}:Dj (Heap.one b o) h↔h b=none:=⟨fun d=>Dj_one.1 d.symm,fun d=>(Dj_one.2 d).symm⟩
theorem set_new {b:Nat}{o:Obj}(hb:h b=none):h.set b o=h.add (Heap.one b o):=by
 funext x
 by_cases hx:x=b
 ·subst hx;simp[Heap.set,Heap.add,Heap.one,hb]
 ·simp[Heap.set,Heap.add,Heap.one,hx]
theorem set_one {b:Nat}{o o':Obj}(hb:h b=none):(h.add (Heap.one b o)).set b o'=h.add (Heap.one b o'):=by
 funext x
 by_cases hx:x=b
 ·subst hx;simp[Heap.set,Heap.add,Heap.one,hb]
 ·simp[Heap.set,Heap.add,Heap.one,hx]
theorem add_one_set {b:Nat}{o o':Obj}(hb:h b=none) (hr:r b=none):(h.add ((Heap.one b o).add r)).set b o'=h.add ((Heap.one b o').add r):=by
 funext x
 by_cases hx:x=b
 ·subst hx;simp[Heap.set,Heap.add,Heap.one,hb,hr]
 ·simp[Heap.set,Heap.add,Heap.one,hx]
theorem Heap.le.refl (h:Heap):h.le h:=fun _ _ hb=>hb
theorem Heap.le.trans (h1:a.le b) (h2:b.le c):a.le c:=fun x o hb=>h2 x o (h1 x o hb)
theorem le_add (d:Dj h r):h.le (h.add r):=fun x o hb=>by
 rcases d x with h1 | h1
 ·rw[h1] at hb;simp at hb
 ·simp[Heap.add,h1,hb]
theorem le_add' (d:Dj h r):r.le (h.add r):=add_comm (a:=h)▸le_add d.symm
theorem le_drop (d0:Dj h r) (d:Dj r c):(h.add c).le ((h.add r).add c):=by
 intro x o hb
 simp only[Heap.add] at hb ⊢
 rcases d x with h1 | h1
 ·simpa[h1] using hb
 ·rcases d0 x with h2 | h2
  ·rw[h1,h2] at hb;simp at hb
  ·simpa[h2] using hb
theorem add_swap (_:Dj a b):(h.add a).add b=(h.add b).add a:=by rw[add_assoc,add_comm (a:=a),add_assoc]
theorem Dj.le (d:Dj h r) (hl:h'.le h):Dj h' r:=fun x=>by
 rcases d x with h1 | h1
 ·cases hx:h' x with
  | none=>exact .inl rfl
  | some o=>rw[hl x o hx] at h1;simp at h1
 ·exact .inr h1
theorem hcell_le {i off:Nat}{v:Value}(hl:h.le h') (hc:hcell h i off=some v):hcell h' i off=some v:=by
 unfold hcell at hc ⊢
 split at hc
 ·rename_i c el fr hb
  rw[hl _ _ hb]
  exact hc
 ·simp at hc
theorem hcells_le {i:Nat}:∀{n off:Nat}{l:List Value}(_:h.le h') (_:hcells h i off n=some l),hcells h' i off n=some l
 | 0,_,_,_,hc=>hc
 | n+1,off,l,hl,hc=>by
  simp only[hcells] at hc ⊢
  split at hc
  ·rename_i v r hv hr
   rw[hcell_le hl hv,hcells_le hl hr]
   exact hc
  ·simp at hc
theorem hload_le {p:Option Value}{sz:Option Nat}{v:Value}(hl:h.le h') (hc:hload h p sz=some v):hload h' p sz=some v:=by
 unfold hload at hc ⊢
 split at hc
 ·split at hc
  ·exact hcell_le hl hc
  ·simp only[Option.map_eq_some_iff] at hc ⊢
   obtain⟨l,h1,h2⟩:=hc
   exact⟨l,hcells_le hl h1,h2⟩
 ·simp at hc
theorem hcells_mk {i:Nat}{c:Array Value}{el:TypeId}{fr:Nat×Nat}(hb:h i=some (.cells c el fr)):∀{n off:Nat},off+n≤c.size→hcells h i off n=some ((c.toList.drop off).take n)
 | 0,_,_=>by simp[hcells]
 | n+1,off,ho=>by
  simp only[hcells]
  rw[hcells_mk hb (n:=n) (off:=off+1) (by omega)]
  have h1:hcell h i off=some c[off]:=by simp[hcell,hb]
  rw[h1]
  simp only[Option.some.injEq]
  rw[List.drop_eq_getElem_cons (by simp;omega:off<c.toList.length)]
  simp
end
class Ty (α:Type) where
 agg:Bool
 sz:Nat
 rep:Heap→List Value→α→Prop
 own:Heap→List Value→α→Prop
 one:agg=false→sz=1
 len:∀{h cs x},rep h cs x→cs.length=sz
 cell:∀{h cs x},rep h cs x→∀v∈cs,v.oneCell'=true
 mono:∀{h h' cs x},Heap.le h h'→rep h cs x→rep h' cs x
 own_rep:∀{r cs x},own r cs x→rep r cs x
def valC (agg:Bool) (cs:List Value):Value:=if agg then .agg cs.toArray else cs.headD undef
def Rep {α:Type} [Ty α] (h:Heap) (v:Value) (x:α):Prop:=∃cs,v=valC (Ty.agg α) cs∧Ty.rep h cs x
def Own {α:Type} [Ty α] (r:Heap) (v:Value) (x:α):Prop:=∃cs,v=valC (Ty.agg α) cs∧Ty.own r cs x
def szo (α:Type) [Ty α]:Option Nat:=if Ty.agg α then some (Ty.sz α) else none
section
variable {α:Type} [Ty α] {h h' r:Heap}{v:Value}{x:α}
theorem Rep.le (hr:Rep h v x) (hl:h.le h'):Rep h' v x:=by
 obtain⟨cs,h1,h2⟩:=hr
 exact⟨cs,h1,Ty.mono hl h2⟩
theorem Own.rep (ho:Own r v x):Rep r v x:=by
 obtain⟨cs,h1,h2⟩:=ho
 exact⟨cs,h1,Ty.own_rep h2⟩
theorem Own.rep' (ho:Own r v x) (d:Dj h r):Rep (h.add r) v x:=ho.rep.le (le_add' d)
theorem Rep.add (hr:Rep h v x) (d:Dj h r):Rep (h.add r) v x:=hr.le (le_add d)
theorem valC_cells {cs:List Value}(h1:Ty.agg α=false→cs.length=1) (h2:∀v∈cs,v.oneCell'=true):(valC (Ty.agg α) cs).cells.toList=cs:=by
 unfold valC
 cases ha:Ty.agg α with
 | true=>rfl
 | false=>
  have:=h1 ha
  match cs,this with
  | [u],_=>
   have h3:=h2 u (by simp)
   cases u<;>first | rfl | simp[Value.oneCell'] at h3
theorem rep_cells {cs:List Value}(hr:Ty.rep h cs x):(valC (Ty.agg α) cs).cells.toList=cs:=
 valC_cells (fun ha=>by rw[Ty.len hr,Ty.one ha]) (Ty.cell hr)
end
def ownL {α:Type} [Ty α]:List α→List Value→Heap→Prop
 | [],_,r=>r=Heap.nil
 | x::l,cs,r=>∃r1 r2,r=r1.add r2∧Dj r1 r2∧Ty.own r1 (cs.take (Ty.sz α)) x∧ownL l (cs.drop (Ty.sz α)) r2
def okP (p:Option Addr):Prop:=p=none∨∃b off,p=some ⟨b,off,none⟩
section
variable {α:Type} [Ty α]
def repL (h:Heap) (p:Option Addr) (l:List α):Prop:=∀i (hi:i<l.length),∃b off vs,p=some ⟨b,off,none⟩∧hcells h b (off+i*Ty.sz α) (Ty.sz α)=some vs∧Ty.rep h vs l[i]
theorem repL_le {h h':Heap}{p:Option Addr}{l:List α}(hl:h.le h') (hr:repL h p l):repL h' p l:=fun i hi=>by
 obtain⟨b,off,vs,h1,h2,h3⟩:=hr i hi
 exact⟨b,off,vs,h1,hcells_le hl h2,Ty.mono hl h3⟩
theorem ownL_at:∀{l:List α}{cs:List Value}{r:Heap},ownL l cs r→∀i (hi:i<l.length),∃r1 r2,r=r1.add r2∧Dj r1 r2∧Ty.own r1 ((cs.drop (i*Ty.sz α)).take (Ty.sz α)) l[i] ∧
  ∀r1' c' y,Dj r1' r2→Ty.own r1' c' y→ownL (l.set i y) (setC cs (i*Ty.sz α) c') (r1'.add r2)
 | [],_,_,_,i,hi=>by simp at hi
 | x::l,cs,r,ho,0,_=>by
  obtain⟨r1,r2,h1,h2,h3,h4⟩:=ho
  refine⟨r1,r2,h1,h2,by simpa using h3,?_⟩
  intro r1' c' y d o'
  have hlen:=Ty.len (Ty.own_rep o')
  refine⟨r1',r2,rfl,d,?_,?_⟩
  ·simpa[setC,List.take_append,hlen] using o'
  ·simpa[setC,List.drop_append,hlen] using h4
 | x::l,cs,r,ho,i+1,hi=>by
  obtain⟨r1,r2,h1,h2,h3,h4⟩:=ho
  obtain⟨s1,s2,g1,g2,g3,g4⟩:=ownL_at h4 i (by simpa using hi)
  subst h1;subst g1
  obtain⟨d1,d2⟩:=Dj_add.1 h2
  refine⟨s1,r1.add s2,?_,?_,?_,?_⟩
  ·rw[← add_assoc,d1.comm,add_assoc]
  ·exact Dj_add.2 ⟨d1.symm,g2⟩
  ·simpa[List.drop_drop,Nat.add_mul,Nat.add_comm] using g3
  ·intro r1' c' y d o'
   obtain⟨e1,e2⟩:=Dj_add.1 d
   have hlen:=Ty.len (Ty.own_rep h3)
   have hlen':=Ty.len (Ty.own_rep o')
   have hcs:Ty.sz α≤cs.length:=by
    have:=hlen
    simp at this
    omega
   have ha:(i+1)*Ty.sz α=Ty.sz α+i*Ty.sz α:=by rw[Nat.add_mul];omega
   refine⟨r1,r1'.add s2,?_,Dj_add.2 ⟨e1.symm,d2⟩,?_,?_⟩
   ·rw[← add_assoc,e1.comm,add_assoc]
   ·have:(setC cs ((i+1)*Ty.sz α) c').take (Ty.sz α)=cs.take (Ty.sz α):=by
     rw[setC,ha,List.append_assoc,List.take_append_of_le_length (by simp;omega),List.take_take]
     congr 1;omega
    rw[this];exact h3
   ·have:(setC cs ((i+1)*Ty.sz α) c').drop (Ty.sz α)=setC (cs.drop (Ty.sz α)) (i*Ty.sz α) c':=by
     unfold setC
     rw[ha,List.append_assoc,List.drop_append_of_le_length (by simp;omega),List.drop_take,List.append_assoc,List.drop_drop]
     congr 2
     ·omega
     ·congr 1;omega
    rw[this]
    exact g4 r1' c' y e2 o'
theorem ownL_sub {l:List α}{cs:List Value}{r:Heap}(ho:ownL l cs r) (i:Nat) (hi:i<l.length):Ty.rep r ((cs.drop (i*Ty.sz α)).take (Ty.sz α)) l[i]:=by
 obtain⟨r1,r2,h1,h2,h3,_⟩:=ownL_at ho i hi
 subst h1
 exact Ty.mono (le_add h2) (Ty.own_rep h3)
theorem ownL_len:∀{l:List α}{cs:List Value}{r:Heap},ownL l cs r→l.length*Ty.sz α≤cs.length
 | [],_,_,_=>by simp
 | x::l,cs,r,ho=>by
  obtain⟨r1,r2,h1,h2,h3,h4⟩:=ho
  have:=ownL_len h4
  have hlen:=Ty.len (Ty.own_rep h3)
  simp at this hlen ⊢
  rw[Nat.add_mul]
  omega
theorem ownL_congr:∀{l:List α}{cs cs':List Value}{r:Heap},ownL l cs r→cs.take (l.length*Ty.sz α)=cs'.take (l.length*Ty.sz α)→ownL l cs' r
 | [],_,_,_,ho,_=>ho
 | x::l,cs,cs',r,ho,he=>by
  obtain⟨r1,r2,h1,h2,h3,h4⟩:=ho
  have ha:(x::l).length*Ty.sz α=Ty.sz α+l.length*Ty.sz α:=by simp[Nat.add_mul];omega
  rw[ha] at he
  refine⟨r1,r2,h1,h2,?_,?_⟩
  ·have:=congrArg (List.take (Ty.sz α)) he
   rw[List.take_take,List.take_take,Nat.min_eq_left (by omega)] at this
   rw[← this];exact h3
  ·refine ownL_congr h4 ?_
   have:=congrArg (List.drop (Ty.sz α)) he
   rw[List.drop_take,List.drop_take] at this
   simpa using this
theorem ownL_append:∀{l l2:List α}{cs cs2:List Value}{r r2:Heap},ownL l cs r→cs.length=l.length*Ty.sz α→ownL l2 cs2 r2→Dj r r2→ownL (l++l2) (cs++cs2) (r.add r2)
 | [],l2,cs,cs2,r,r2,ho,hc,h2,_=>by
  have:cs=[]:=by simpa using hc
  subst this
  have hr:r=Heap.nil:=ho
  subst hr
  simpa using h2
 | x::l,l2,cs,cs2,r,r2,ho,hc,h2,d=>by
  obtain⟨s1,s2,e1,e2,e3,e4⟩:=ho
  subst e1
  obtain⟨d1,d2⟩:=add_Dj.1 d
  have hlen:=Ty.len (Ty.own_rep e3)
  have ha:cs.length=Ty.sz α+l.length*Ty.sz α:=by rw[hc];simp[Nat.add_mul];omega
  refine⟨s1,s2.add r2,by rw[add_assoc],Dj_add.2 ⟨e2,d1⟩,?_,?_⟩
  ·rw[List.take_append_of_le_length (by omega)];exact e3
  ·rw[List.drop_append_of_le_length (by omega)]
   exact ownL_append e4 (by simp;omega) h2 d2
theorem ownL_reps {z:List Value}{y:α}(hz:Ty.own Heap.nil z y):∀n,ownL (List.replicate n y) (reps n z) Heap.nil
 | 0=>rfl
 | n+1=>by
  have hlen:=Ty.len (Ty.own_rep hz)
  refine⟨Heap.nil,Heap.nil,by simp,by simp,?_,?_⟩
  ·simpa[reps,List.replicate_succ,List.take_append,hlen] using hz
  ·simpa[reps,List.replicate_succ,List.drop_append,hlen] using ownL_reps hz n
end
section
variable {α:Type} [Ty α]
def repS (h:Heap) (cs:List Value) (l:List α):Prop:=∃p cap,cs=[.slice p l.length cap]∧(l.length≤cap∧l.length<4611686018427387904)∧True∧repL h p l
def ownS (r:Heap) (cs:List Value) (l:List α):Prop:=
 (∃p,cs=[.slice p 0 0]∧l=[]∧r=Heap.nil∧okP p) ∨
 ∃(b off cap:Nat) (cells:List Value) (el:TypeId) (r':Heap),cs=[.slice (some ⟨b,off,none⟩) l.length cap]∧(l.length≤cap∧l.length<4611686018427387904)∧off+cap*Ty.sz α≤cells.length ∧
  r=(Heap.one b (.cells cells.toArray el (0,0))).add r'∧r' b=none∧ownL l (cells.drop off) r'
theorem ownS_rep {r:Heap}{cs:List Value}{l:List α}(ho:ownS r cs l):repS r cs l:=by
 rcases ho with ⟨p,h1,h2,h3,h4⟩ | ⟨b,off,cap,cells,el,r',h1,h2,h3,h4,h5,h6⟩
 ·subst h2
  exact⟨p,0,h1,by simp,trivial,fun i hi=>by simp at hi⟩
 ·refine⟨_,cap,h1,h2,trivial,?_⟩
  intro i hi
  subst h4
  have hb:((Heap.one b (.cells cells.toArray el (0,0))).add r') b=some (.cells cells.toArray el (0,0)):=by simp[Heap.add,Heap.one,h5]
  have hsz:i*Ty.sz α+Ty.sz α≤cap*Ty.sz α:=by
   rw[← Nat.succ_mul]
   exact Nat.mul_le_mul_right _ (by have:=h2.1;omega)
  refine⟨b,off,_,rfl,hcells_mk hb (by simp;omega),?_⟩
  have:=ownL_sub h6 i hi
  rw[List.drop_drop] at this
  exact Ty.mono (le_add' (one_Dj.2 h5)) this
instance instTyList:Ty (List α) where
 agg:=false
 sz:=1
 rep:=repS
 own:=ownS
 one:=fun _=>rfl
 len:=by rintro h cs x ⟨p,cap,rfl,_⟩;rfl
 cell:=by rintro h cs x ⟨p,cap,rfl,_⟩ v hv;simp at hv;subst hv;rfl
 mono:=by
  rintro h h' cs x hl ⟨p,cap,h1,h2,h3,h4⟩
  exact⟨p,cap,h1,h2,h3,repL_le hl h4⟩
 own_rep:=ownS_rep
end
instance instTyInt:Ty Int where
 agg:=false
 sz:=1
 rep:=fun _ cs n=>cs=[.int .i64 n]∧-9223372036854775808≤n∧n<9223372036854775808
 own:=fun r cs n=>r=Heap.nil∧cs=[.int .i64 n]∧-9223372036854775808≤n∧n<9223372036854775808
 one:=fun _=>rfl
 len:=by rintro h cs x ⟨rfl,_⟩;rfl
 cell:=by rintro h cs x ⟨rfl,_⟩ v hv;simp at hv;subst hv;rfl
 mono:=fun _ hr=>hr
 own_rep:=fun ho=>ho.2
instance instTyBool:Ty Bool where
 agg:=false
 sz:=1
 rep:=fun _ cs n=>cs=[.bool n]
 own:=fun r cs n=>r=Heap.nil∧cs=[.bool n]
 one:=fun _=>rfl
 len:=by rintro h cs x rfl;rfl
 cell:=by rintro h cs x rfl v hv;simp at hv;subst hv;rfl
 mono:=fun _ hr=>hr
 own_rep:=fun ho=>ho.2
instance instTyStr:Ty ByteArray where
 agg:=false
 sz:=1
 rep:=fun _ cs n=>cs=[.string n]
 own:=fun r cs n=>r=Heap.nil∧cs=[.string n]
 one:=fun _=>rfl
 len:=by rintro h cs x rfl;rfl
 cell:=by rintro h cs x rfl v hv;simp at hv;subst hv;rfl
 mono:=fun _ hr=>hr
 own_rep:=fun ho=>ho.2
instance instTyU64:Ty (BitVec 64) where
 agg:=false
 sz:=1
 rep:=fun _ cs n=>cs=[.int .u64 n.toNat]
 own:=fun r cs n=>r=Heap.nil∧cs=[.int .u64 n.toNat]
 one:=fun _=>rfl
 len:=by rintro h cs x rfl;rfl
 cell:=by rintro h cs x rfl v hv;simp at hv;subst hv;rfl
 mono:=fun _ hr=>hr
 own_rep:=fun ho=>ho.2
instance instTyProd {α β:Type} [Ty α] [Ty β]:Ty (α×β) where
 agg:=true
 sz:=Ty.sz α+Ty.sz β
 rep:=fun h cs x=>∃c1 c2,cs=c1++c2∧Ty.rep h c1 x.1∧Ty.rep h c2 x.2
 own:=fun r cs x=>∃c1 c2 r1 r2,cs=c1++c2∧r=r1.add r2∧Dj r1 r2∧Ty.own r1 c1 x.1∧Ty.own r2 c2 x.2
 one:=fun h=>by simp at h
 len:=by rintro h cs x ⟨c1,c2,rfl,h1,h2⟩;simp[Ty.len h1,Ty.len h2]
 cell:=by
  rintro h cs x ⟨c1,c2,rfl,h1,h2⟩ v hv
  rcases List.mem_append.1 hv with h3 | h3
  ·exact Ty.cell h1 v h3
  ·exact Ty.cell h2 v h3
 mono:=by rintro h h' cs x hl ⟨c1,c2,h0,h1,h2⟩;exact⟨c1,c2,h0,Ty.mono hl h1,Ty.mono hl h2⟩
 own_rep:=by
  rintro r cs x ⟨c1,c2,r1,r2,h0,rfl,d,h1,h2⟩
  exact⟨c1,c2,h0,Ty.mono (le_add d) (Ty.own_rep h1),Ty.mono (le_add' d) (Ty.own_rep h2)⟩
@[reducible] def Ty.via {α β:Type} [Ty β] (f:α→β):Ty α where
 agg:=true
 sz:=Ty.sz β
 rep:=fun h cs x=>Ty.rep h cs (f x)
 own:=fun r cs x=>Ty.own r cs (f x)
 one:=fun h=>by simp at h
 len:=fun h=>Ty.len h
 cell:=fun h=>Ty.cell h
 mono:=fun hl h=>Ty.mono hl h
 own_rep:=fun h=>Ty.own_rep h
class Flat (α:Type) [Ty α] where
 enc:α→List Value
 ok:α→Prop
 rep_iff:∀{h cs}{x:α},Ty.rep h cs x↔cs=enc x∧ok x
 own_iff:∀{r cs}{x:α},Ty.own r cs x↔r=Heap.nil∧cs=enc x∧ok x
instance:Flat Int:=⟨fun n=>[.int .i64 n],fun n=>-9223372036854775808≤n∧n<9223372036854775808,Iff.rfl,Iff.rfl⟩
instance:Flat Bool:=⟨fun n=>[.bool n],fun _=>True,by simp[Ty.rep],by simp[Ty.own]⟩
instance:Flat ByteArray:=⟨fun n=>[.string n],fun _=>True,by simp[Ty.rep],by simp[Ty.own]⟩
instance:Flat (BitVec 64):=⟨fun n=>[.int .u64 n.toNat],fun _=>True,by simp[Ty.rep],by simp[Ty.own]⟩
instance {α β:Type} [Ty α] [Ty β] [Flat α] [Flat β]:Flat (α×β):=⟨fun x=>Flat.enc x.1++Flat.enc x.2,fun x=>Flat.ok x.1∧Flat.ok x.2,by
  intro h cs x
  simp only[Ty.rep,Flat.rep_iff]
  constructor
  ·rintro⟨c1,c2,rfl,⟨rfl,h1⟩,rfl,h2⟩;exact⟨rfl,h1,h2⟩
  ·rintro⟨rfl,h1,h2⟩;exact⟨_,_,rfl,⟨rfl,h1⟩,rfl,h2⟩,by
  intro h cs x
  simp only[Ty.own,Flat.own_iff]
  constructor
  ·rintro⟨c1,c2,r1,r2,rfl,rfl,_,⟨rfl,rfl,h1⟩,rfl,rfl,h2⟩;exact⟨by simp,rfl,h1,h2⟩
  ·rintro⟨rfl,rfl,h1,h2⟩;exact⟨_,_,Heap.nil,Heap.nil,rfl,by simp,by simp,⟨rfl,rfl,h1⟩,rfl,rfl,h2⟩⟩
@[reducible] def Flat.via {α β:Type} [Ty β] [Flat β] (f:α→β):@Flat α (Ty.via f):=
 let _:=Ty.via f
 ⟨fun x=>Flat.enc (f x),fun x=>Flat.ok (f x),fun {_ _ x}=>Flat.rep_iff (x:=f x),fun {_ _ x}=>Flat.own_iff (x:=f x)⟩
def elp (sz:Nat) (v:Value) (i:Nat):Value:=
 match v with
 | .slice (some p) _ _=>.pointer (some (p.add (i*sz)))
 | _=>undef
theorem srcV_slice {h:Heap}{b off n cap esz:Nat}{l:List Value}(hc:hcells h b off (n*esz)=some l):srcV h esz (some (.slice (some ⟨b,off,none⟩) n cap))=some (n,l):=by
 cases n with
 | zero=>simp[hcells] at hc;subst hc;rfl
 | succ n=>simp only[srcV,hc];rfl
theorem add_none (b off n:Nat):(⟨b,off,none⟩:Addr).add n=⟨b,off+n,none⟩:=by
 unfold Addr.add
 split
 ·next hn=>simp[hn]
 ·rfl
section
variable {α:Type} [Ty α] {h h' g r:Heap}{v:Value}{l:List α}
theorem Rep_list:Rep h v l↔∃p cap,v=.slice p l.length cap∧(l.length≤cap∧l.length<4611686018427387904)∧True∧repL h p l:=by
 constructor
 ·rintro⟨cs,rfl,p,cap,rfl,h1,h2,h3⟩;exact⟨p,cap,rfl,h1,h2,h3⟩
 ·rintro⟨p,cap,rfl,h1,h2,h3⟩;exact⟨_,rfl,p,cap,rfl,h1,h2,h3⟩
theorem Own_list:Own r v l↔(∃p,v=.slice p 0 0∧l=[]∧r=Heap.nil∧okP p) ∨
  ∃(b off cap:Nat) (cells:List Value) (el:TypeId) (r':Heap),v=.slice (some ⟨b,off,none⟩) l.length cap∧(l.length≤cap∧l.length<4611686018427387904)∧off+cap*Ty.sz α≤cells.length ∧
  r=(Heap.one b (.cells cells.toArray el (0,0))).add r'∧r' b=none∧ownL l (cells.drop off) r':=by
 constructor
 ·rintro⟨cs,rfl,⟨p,rfl,h1,h2,h3⟩ | ⟨b,off,cap,cells,el,r',rfl,h1,h2,h3,h4,h5⟩⟩
  ·exact .inl ⟨p,rfl,h1,h2,h3⟩
  ·exact .inr ⟨b,off,cap,cells,el,r',rfl,h1,h2,h3,h4,h5⟩
 ·rintro (⟨p,rfl,h1,h2,h3⟩ | ⟨b,off,cap,cells,el,r',rfl,h1,h2,h3,h4,h5⟩)
  ·exact⟨_,rfl,.inl ⟨p,rfl,h1,h2,h3⟩⟩
  ·exact⟨_,rfl,.inr ⟨b,off,cap,cells,el,r',rfl,h1,h2,h3,h4,h5⟩⟩
theorem Rep.len (hr:Rep h v l):lenVV v=some (.int .i64 l.length):=by
 obtain⟨p,cap,rfl,_⟩:=Rep_list.1 hr
 rfl
theorem Rep.lt (hr:Rep h v l):l.length<4611686018427387904:=by
 obtain⟨p,cap,rfl,h1,_⟩:=Rep_list.1 hr
 exact h1.2
theorem Rep.cells (hr:Rep h v l):v.cells = #[v]:=by
 obtain⟨p,cap,rfl,h1,_⟩:=Rep_list.1 hr
 rfl
theorem Rep.one (hr:Rep h v l):v.oneCell'=true:=by
 obtain⟨p,cap,rfl,h1,_⟩:=Rep_list.1 hr
 rfl
theorem Rep.ia (hr:Rep h v l) {k:IntKind}{i:Int}(h0:0≤i) (h1:i<l.length):iaV (Ty.sz α) v (.int k i)=some (elp (Ty.sz α) v i.toNat):=by
 obtain⟨p,cap,rfl,hc,hp,hl⟩:=Rep_list.1 hr
 obtain⟨b,off,vs,rfl,_⟩:=hl i.toNat (by omega)
 simp[iaV,elp,h0,h1]
theorem Rep.ld (hr:Rep h v l) {i:Nat}(hi:i<l.length):∃u,hload h (some (elp (Ty.sz α) v i)) (szo α)=some u∧Rep h u l[i]:=by
 obtain⟨p,cap,rfl,hc,hp,hl⟩:=Rep_list.1 hr
 obtain⟨b,off,vs,rfl,h1,h2⟩:=hl i hi
 refine⟨valC (Ty.agg α) vs,?_,vs,rfl,h2⟩
 simp only[elp,add_none,hload,szo,valC]
 cases ha:Ty.agg α with
 | true=>simp[h1]
 | false=>
  have h3:=Ty.one ha
  rw[h3] at h1
  simp only[hcells] at h1
  rw[h3]
  simp only[Bool.false_eq_true,if_false]
  split at h1
  ·rename_i v r hv hr
   simp only[Option.some.injEq] at h1
   subst h1
   simpa using hv
  ·simp at h1
theorem Rep.ia' {n:Nat}(hr:Rep h v l) (hn:n=Ty.sz α) {k:IntKind}{i:Int}(h0:0≤i) (h1:i<l.length):iaV n v (.int k i)=some (elp n v i.toNat):=by
 subst hn;exact hr.ia h0 h1
theorem Rep.ian {n:Nat}(hr:Rep h v l) (hn:n=Ty.sz α) {k:IntKind}{i:Nat}(h1:i<l.length):iaV n v (.int k i)=some (elp n v i):=by
 have:=hr.ia' hn (k:=k) (i:=(i:Int)) (by omega) (by omega)
 simpa using this
theorem Rep.ldF [Flat α] (hr:Rep h v l) {i:Nat}(hi:i<l.length):hload h (some (elp (Ty.sz α) v i)) (szo α)=some (valC (Ty.agg α) (Flat.enc l[i])):=by
 obtain⟨u,h1,cs,h2,h3⟩:=hr.ld hi
 rw[h1,h2,(Flat.rep_iff.1 h3).1]
theorem Rep.okF [Flat α] (hr:Rep h v l) {i:Nat}(hi:i<l.length):Flat.ok l[i]:=by
 obtain⟨u,h1,cs,h2,h3⟩:=hr.ld hi
 exact (Flat.rep_iff.1 h3).2
end
theorem Rep.ldI {h:Heap}{v:Value}{l:List Int}(hr:Rep h v l) {i:Nat}(hi:i<l.length):hload h (some (elp 1 v i)) none=some (.int .i64 l[i]):=hr.ldF hi
theorem Rep.ldB {h:Heap}{v:Value}{l:List Bool}(hr:Rep h v l) {i:Nat}(hi:i<l.length):hload h (some (elp 1 v i)) none=some (.bool l[i]):=hr.ldF hi
theorem Rep.ldS {h:Heap}{v:Value}{l:List ByteArray}(hr:Rep h v l) {i:Nat}(hi:i<l.length):hload h (some (elp 1 v i)) none=some (.string l[i]):=hr.ldF hi
theorem own_nils {α:Type} [Ty α]:Ty.own (α:=List α) Heap.nil [.slice none 0 0] []:=.inl ⟨none,rfl,rfl,rfl,.inl rfl⟩
theorem Own_nils {α:Type} [Ty α]:Own (α:=List α) Heap.nil (.slice none 0 0) []:=⟨_,rfl,own_nils⟩
theorem Rep_int {h:Heap}{v:Value}{n:Int}:Rep h v n↔v=.int .i64 n∧-9223372036854775808≤n∧n<9223372036854775808:=
 ⟨fun ⟨_,h1,h2,h3⟩=>by subst h2;exact⟨h1,h3⟩,fun ⟨h1,h2⟩=>⟨[.int .i64 n],h1,rfl,h2⟩⟩
theorem take_set_succ {α:Type}{x y:List α}{i:Nat}(h1:y.take i=x.take i) (hi:i<x.length) (hl:y.length=x.length):(y.set i x[i]).take (i+1)=x.take (i+1):=by
 rw[List.take_add_one,List.take_add_one,List.take_set_of_le (Nat.le_refl i),h1]
 simp[hi,hl]
theorem eq_of_take {α:Type}{x y:List α}{i:Nat}(h1:y.take i=x.take i) (hi:x.length≤i) (hl:y.length=x.length):y=x:=by
 rwa [List.take_of_length_le (by omega),List.take_of_length_le hi] at h1
def Hole {α:Type} [Ty α] (r:Heap) (v:Value) (l:List α) (i:Nat) (u:Value):Prop:=
 ∃(b off cap:Nat) (cells:List Value) (el:TypeId) (r':Heap),v=.slice (some ⟨b,off,none⟩) l.length cap∧i<l.length∧(l.length≤cap∧l.length<4611686018427387904)∧off+cap*Ty.sz α≤cells.length ∧
  r=(Heap.one b (.cells cells.toArray el (0,0))).add r'∧r' b=none∧u=valC (Ty.agg α) (((cells.drop off).drop (i*Ty.sz α)).take (Ty.sz α)) ∧
  ∀r1' c' y,Dj r1' r'→Ty.own r1' c' y→ownL (l.set i y) (setC (cells.drop off) (i*Ty.sz α) c') (r1'.add r')
theorem setC_self {cs c:List Value}{n m:Nat}(h1:(cs.drop n).take m=c) (hc:c.length=m):setC cs n c=cs:=by
 subst h1
 simp at hc
 unfold setC
 conv=>rhs;rw[← List.take_append_drop n cs]
 rw[List.append_assoc]
 congr 1
 rw[List.length_take,List.length_drop]
 conv=>rhs;rw[← List.take_append_drop m (cs.drop n)]
 rw[List.drop_drop]
 congr 2
 omega
section
variable {α:Type} [Ty α] {h h' g r r2 ru:Heap}{v u:Value}{l:List α}{i:Nat}
theorem valC_inj {c:List Value}{c':List Value}(h1:Ty.agg α=false→c.length=1) (h2:Ty.agg α=false→c'.length=1) (hv:valC (Ty.agg α) c=valC (Ty.agg α) c'):c=c':=by
 unfold valC at hv
 cases ha:Ty.agg α with
 | true=>rw[ha] at hv;simpa using hv
 | false=>
  rw[ha] at hv
  have e1:=h1 ha
  have e2:=h2 ha
  match c,c',e1,e2 with
  | [x],[y],_,_=>simpa using hv
theorem slot_le {i n c s:Nat}(h1:i<n) (h2:n≤c):i*s+s≤c*s:=by
 rw[← Nat.succ_mul]
 exact Nat.mul_le_mul_right _ (by omega)
theorem Own.take (O:Own r v l) (hi:i<l.length):∃u r1 r2,r=r1.add r2∧Dj r1 r2∧Own r1 u l[i]∧Hole r2 v l i u:=by
 rcases Own_list.1 O with ⟨p,_,rfl,_⟩ | ⟨b,off,cap,cells,el,r',rfl,⟨h1,hM⟩,h2,rfl,h4,h5⟩
 ·simp at hi
 ·obtain⟨s1,s2,g1,g2,g3,g4⟩:=ownL_at h5 i hi
  subst g1
  obtain⟨n1,n2⟩:s1 b=none∧s2 b=none:=by simpa[Heap.add] using h4
  refine⟨_,s1,(Heap.one b (.cells cells.toArray el (0,0))).add s2,?_,Dj_add.2 ⟨Dj_one.2 n1,g2⟩,⟨_,rfl,g3⟩,b,off,cap,cells,el,s2,rfl,hi,⟨h1,hM⟩,h2,rfl,n2,rfl,g4⟩
  rw[← add_assoc,← add_assoc,(one_Dj.2 n1).comm]
theorem Hole.put {r1:Heap}{y:α}(H:Hole r2 v l i u) (d:Dj r1 r2) (O:Own r1 u y):Own (r1.add r2) v (l.set i y):=by
 obtain⟨b,off,cap,cells,el,r',rfl,hi,⟨h1,hM⟩,h2,rfl,h4,h5,h6⟩:=H
 obtain⟨c,hc,ho⟩:=O
 obtain⟨d1,d2⟩:=Dj_add.1 d
 have hs:=slot_le (s:=Ty.sz α) hi h1
 have hl:((((cells.drop off).drop (i*Ty.sz α)).take (Ty.sz α))).length=Ty.sz α:=by simp;omega
 have hlen:=Ty.len (Ty.own_rep ho)
 have e1:c=((cells.drop off).drop (i*Ty.sz α)).take (Ty.sz α):=valC_inj (α:=α) (fun ha=>by rw[hlen,Ty.one ha]) (fun ha=>by rw[hl,Ty.one ha]) (by rw[← hc,h5])
 have h7:=h6 r1 c y d2 ho
 rw[setC_self e1.symm hlen] at h7
 refine Own_list.2 (.inr ⟨b,off,cap,cells,el,r1.add r',by simp,⟨by simpa using h1,by simpa using hM⟩,h2,?_,?_,h7⟩)
 ·rw[← add_assoc,← add_assoc,d1.comm]
 ·simp[Heap.add,h4];exact Dj_one.1 d1
theorem Hole.ld (H:Hole r2 v l i u):hload r2 (some (elp (Ty.sz α) v i)) (szo α)=some u:=by
 obtain⟨b,off,cap,cells,el,r',rfl,hi,⟨h1,hM⟩,h2,rfl,h4,h5,h6⟩:=H
 have hs:=slot_le (s:=Ty.sz α) hi h1
 have hb:((Heap.one b (.cells cells.toArray el (0,0))).add r') b=some (.cells cells.toArray el (0,0)):=by simp[Heap.add,Heap.one,h4]
 have hc:=hcells_mk hb (n:=Ty.sz α) (off:=off+i*Ty.sz α) (by simp;omega)
 simp only[elp,add_none,hload,szo]
 rw[List.drop_drop] at h5
 cases ha:Ty.agg α with
 | true=>simp only[if_true,hc];rw[h5];simp[valC,ha]
 | false=>
  have h3:=Ty.one ha
  rw[h3] at hc h5 h2
  rw[ha] at h5
  simp only[Bool.false_eq_true,if_false]
  rw[h3] at hs ⊢
  have hlt:off+i*1<cells.length:=by omega
  rw[List.drop_eq_getElem_cons hlt] at h5
  simp only[valC,List.take_succ_cons,Bool.false_eq_true,if_false,List.headD_cons] at h5
  rw[h5]
  simp only[hcell,hb]
  simp at hlt ⊢
theorem Hole.len (H:Hole r2 v l i u):lenVV v=some (.int .i64 l.length):=by
 obtain⟨b,off,cap,cells,el,r',rfl,_⟩:=H
 rfl
theorem Hole.ia (H:Hole r2 v l i u) {k:IntKind}{n:Int}(h0:0≤n) (h1:n<l.length):iaV (Ty.sz α) v (.int k n)=some (elp (Ty.sz α) v n.toNat):=by
 obtain⟨b,off,cap,cells,el,r',rfl,_⟩:=H
 simp[iaV,elp,h0,h1]
theorem drop_setC {cs c:List Value}{a n:Nat}(h:a+n+c.length≤cs.length):(setC cs (a+n) c).drop a=setC (cs.drop a) n c:=by
 unfold setC
 rw[List.append_assoc,List.drop_append_of_le_length (by simp;omega),List.drop_take,List.append_assoc,List.drop_drop]
 congr 2
 ·omega
 ·congr 1;omega
theorem setC_length {cs c:List Value}{n:Nat}(h:n+c.length≤cs.length):(setC cs n c).length=cs.length:=by
 unfold setC;simp;omega
theorem Hole.store {y:α}(H:Hole r v l i u) {u':Value}(d:Dj g r) (d2:Dj (g.add r) ru) (Ou:Own ru u' y) :
  ∃b off h',elp (Ty.sz α) v i=.pointer (some ⟨b,off,none⟩)∧u'.cells.size=Ty.sz α∧hstore ((g.add r).add ru) b off u'.cells.toList=some h'∧∃r',h'=g.add r'∧Dj g r'∧Own r' v (l.set i y):=by
 obtain⟨b,off,cap,cells,el,r',rfl,hi,⟨h1,hM⟩,h2,rfl,h4,h5,h6⟩:=H
 obtain⟨c,rfl,ho⟩:=Ou
 have hlen:=Ty.len (Ty.own_rep ho)
 have hcell:=Ty.cell (Ty.own_rep ho)
 have hcs:=rep_cells (Ty.own_rep ho)
 have hs:=slot_le (s:=Ty.sz α) hi h1
 obtain⟨d3,d4⟩:=Dj_add.1 d
 obtain⟨d5,d6⟩:=add_Dj.1 d2
 obtain⟨d7,d8⟩:=add_Dj.1 d6
 have hb:(((g.add ((Heap.one b (.cells cells.toArray el (0,0))).add r')).add ru)) b=some (.cells cells.toArray el (0,0)):=by
  have:=Dj_one.1 d3
  simp[Heap.add,Heap.one,this,h4,one_Dj.1 d7]
 refine⟨b,off+i*Ty.sz α,g.add ((Heap.one b (.cells (setC cells (off+i*Ty.sz α) c).toArray el (0,0))).add (r'.add ru)),by simp[elp,add_none],?_,?_,?_⟩
 ·have:=congrArg List.length hcs
  simpa[hlen] using this
 ·unfold hstore
  rw[hb]
  simp only[hcs]
  rw[if_pos (by refine⟨trivial,?_,by simpa using hcell⟩;simp[hlen];omega)]
  rw[add_assoc (a:=g),add_assoc (b:=r'),add_one_set (Dj_one.1 d3) (by simp[Heap.add,h4,one_Dj.1 d7])]
 ·refine⟨(Heap.one b (.cells (setC cells (off+i*Ty.sz α) c).toArray el (0,0))).add (r'.add ru),?_,?_,?_⟩
  ·rfl
  ·exact Dj_add.2 ⟨Dj_one.2 (Dj_one.1 d3),Dj_add.2 ⟨d4,d5⟩⟩
  ·have h7:=h6 ru c y d8.symm ho
   refine Own_list.2 (.inr ⟨b,off,cap,_,el,_,by simp,⟨by simpa using h1,by simpa using hM⟩,?_,rfl,?_,?_⟩)
   ·rw[setC_length (by rw[hlen];omega)];exact h2
   ·simp[Heap.add,h4];exact one_Dj.1 d7
   ·rw[drop_setC (by rw[hlen];omega),d8.comm];exact h7
end
section
variable {α:Type} [Ty α] {P:Program}{k:Env→Heap→Prop}{e:Env}{h h' g r r2 ru rs:Heap}{v u:Value}{l l2:List α}{i:Nat}
theorem a_store {sz:Nat}{a x:O}{y:α}{u':Value}(O:Own r v l) (hi:i<l.length) (Ou:Own ru u' y) (d:Dj g r) (d2:Dj (g.add r) ru) (hh:h=(g.add r).add ru) (hp:a.get e=some (elp (Ty.sz α) v i)) (hx:x.get e=some u') (hsz:sz=Ty.sz α)
  (K:∀r',Dj g r'→Own r' v (l.set i y)→k e (g.add r')):(A.ex none (.store sz a x)).wp P k e h:=by
 subst hh;subst hsz
 obtain⟨u,r1,r2,rfl,d3,O1,H⟩:=O.take hi
 obtain⟨d4,d5⟩:=Dj_add.1 d
 obtain⟨d6,d7⟩:=add_Dj.1 d2
 obtain⟨d8,d9⟩:=add_Dj.1 d7
 -- the element's own part stays behind
 have hd:Dj (g.add r1) r2:=add_Dj.2 ⟨d5,d3⟩
 have hd2:Dj ((g.add r1).add r2) ru:=by rw[add_assoc];exact d2
 obtain⟨b,off,h',h1,h2,h3,r',rfl,h4,h5⟩:=H.store hd hd2 Ou
 refine⟨b,off,u',_,by rw[hp,h1],hx,h2,by rw[← add_assoc];exact h3,?_⟩
 obtain⟨d10,d11⟩:=add_Dj.1 h4
 exact Fgt.drop (le_drop d4 d11) (K r' d10 h5)
theorem Own_flat [Flat α] {y:α}:Own r u y↔r=Heap.nil∧u=valC (Ty.agg α) (Flat.enc y)∧Flat.ok y:=by
 constructor
 ·rintro⟨cs,rfl,ho⟩
  obtain⟨h1,rfl,h2⟩:=Flat.own_iff.1 ho
  exact⟨h1,rfl,h2⟩
 ·rintro⟨rfl,rfl,h1⟩
  exact⟨_,rfl,Flat.own_iff.2 ⟨rfl,rfl,h1⟩⟩
theorem a_storeF [Flat α] {sz:Nat}{a x:O}(y:α) (O:Own r v l) (hi:i<l.length) (d:Dj g r) (hh:h=g.add r) (hp:a.get e=some (elp (Ty.sz α) v i)) (hx:x.get e=some (valC (Ty.agg α) (Flat.enc y))) (hy:Flat.ok y) (hsz:sz=Ty.sz α)
  (K:∀r',Dj g r'→Own r' v (l.set i y)→k e (g.add r')):(A.ex none (.store sz a x)).wp P k e h:=
 a_store O hi (Own_flat.2 ⟨rfl,rfl,hy⟩) d Dj_nil (by simp[hh]) hp hx hsz K
theorem a_mks {bytes esz:Nat}{zero:List Value}{len cap:O}{j j':IntKind}{n c:Nat}{dst:Nat}{z:α}(hl:len.get e=some (.int j n)) (hc:cap.get e=some (.int j' c)) (hz:Ty.own Heap.nil zero z) (h1:n≤c) (h2:c<2^62) (h3:bytes*c≤2^48)
  (K:∀v r,Dj h r→Own r v (List.replicate n z)→k (eset e dst (some v)) (h.add r)):(A.ex (some dst) (.mks bytes esz zero len cap)).wp P k e h:=by
 refine⟨n,c,j,j',hl,hc,h1,h2,h3,fun b el hb=>Fgt.keep ?_⟩
 rw[set_new hb]
 refine K _ _ (Dj_one.2 hb) (Own_list.2 (.inr ⟨b,0,c,reps c zero,el,Heap.nil,by simp,⟨by simpa using h1,by simp;omega⟩,?_,by simp,rfl,?_⟩))
 ·have:=ownL_len (ownL_reps hz c)
  simpa using this
 ·have hlen:=Ty.len (Ty.own_rep hz)
  refine ownL_congr (ownL_reps hz n) ?_
  simp only[List.length_replicate,List.drop_zero]
  rw[show reps c zero=reps n zero++reps (c-n) zero by
   rw[reps,reps,reps,← List.flatten_append,List.replicate_append_replicate];congr 3;omega]
  have:(reps n zero).length=n*Ty.sz α:=by simp[reps,hlen]
  rw[List.take_append_of_le_length (by omega)]
theorem ownL_cell:∀{l:List α}{cs:List Value}{r:Heap},ownL l cs r→∀v∈cs.take (l.length*Ty.sz α),v.oneCell'=true
 | [],_,_,_,v,hv=>by simp at hv
 | x::l,cs,r,⟨r1,r2,h1,h2,h3,h4⟩,v,hv=>by
  have ha:(x::l).length*Ty.sz α=Ty.sz α+l.length*Ty.sz α:=by simp[Nat.add_mul];omega
  rw[ha,List.take_add] at hv
  rcases List.mem_append.1 hv with h5 | h5
  ·exact Ty.cell (Ty.own_rep h3) v h5
  ·exact ownL_cell h4 v h5
theorem a_app {bytes esz:Nat}{zero:List Value}{a:O}{b:AO}{dst:Nat}{cs:List Value}(O:Own r v l) (ha:a.get e=some v) (hs:b.src h e esz=some (l2.length,cs)) (hcs:cs.length=l2.length*Ty.sz α) (Os:ownL l2 cs rs)
  (d:Dj g r) (d2:Dj (g.add r) rs) (hh:h=(g.add r).add rs) (hsz:esz=Ty.sz α) (hz:zero.length=Ty.sz α) (hb:(l.length+l2.length)*bytes≤140737488355328) (hn:l.length+l2.length<2^62)
  (K:∀v' r',Dj g r'→Own r' v' (l++l2)→k (eset e dst (some v')) (g.add r')):(A.ex (some dst) (.app bytes esz zero (.o a) b)).wp P k e h:=by
 subst hsz
 obtain⟨d5,d6⟩:=add_Dj.1 d2
 have hcell:cs.all Value.oneCell'=true:=by
  have:=ownL_cell Os
  rw[← hcs,List.take_length] at this
  simpa using this
 refine⟨l2.length,cs,hs,?_⟩
 rcases Own_list.1 O with ⟨p,rfl,rfl,rfl,hp⟩ | ⟨bb,off,cap,cells,el,r',rfl,⟨h1,hM⟩,h2,rfl,h4,h5⟩
 ·refine⟨p,0,0,ha,?_,?_⟩
  ·intro h1
   have hl2:l2=[]:=by cases l2 with
    | nil=>rfl
    | cons _ _=>simp at h1
   subst hl2
   have hcs0:cs=[]:=by simpa using hcs
   have hrs:rs=Heap.nil:=Os
   subst hrs
   have hk:∀p,okP p→Fgt k (eset e dst (some (.slice p (0+([]:List α).length) 0))) h:=by
    intro p hp
    subst hh
    refine Fgt.keep ?_
    simpa using K (.slice p 0 0) Heap.nil Dj_nil (Own_list.2 (.inl ⟨p,rfl,rfl,rfl,hp⟩))
   rcases hp with rfl | ⟨b',o',rfl⟩
   ·exact⟨hcs0,hk _ (.inl rfl)⟩
   ·exact .inl ⟨hcs0,hk _ (.inr ⟨b',o',rfl⟩)⟩
  ·intro h1
   refine⟨0,[],?_,?_,by simpa using hn,?_⟩
   ·rcases hp with rfl | ⟨b',o',rfl⟩
    ·rfl
    ·simp[srcV,hcells]
   ·exact growslice_fits h1 (by simpa using hb)
   ·intro b' el c hb' hc
    subst hh
    rw[set_new hb']
    simp only[add_nil] at hb' ⊢
    have n1:g b'=none∧rs b'=none:=by simpa[Heap.add] using hb'
    refine Fgt.keep ?_
    rw[add_assoc]
    simp only[List.length_nil,Nat.zero_add] at hn ⊢
    refine K _ _ (Dj_add.2 ⟨d5,Dj_one.2 n1.1⟩) ?_
    rw[(Dj_one.2 n1.2).comm]
    refine Own_list.2 (.inr ⟨b',0,c,_,el,rs,by simp,⟨by simpa using hc,by simpa using hn⟩,?_,rfl,n1.2,?_⟩)
    ·simp[reps,hz,hcs]
     rw[← Nat.add_mul]
     exact Nat.mul_le_mul_right _ (by simp at hc;omega)
    ·refine ownL_congr Os ?_
     simp only[List.drop_zero,List.nil_append]
     exact (List.take_append_of_le_length (by rw[hcs];exact Nat.le_refl _)).symm
 ·have hbk:((g.add ((Heap.one bb (.cells cells.toArray el (0,0))).add r')).add rs) bb=some (.cells cells.toArray el (0,0)):=by
   have:=Dj_one.1 (Dj_add.1 d).1
   simp[Heap.add,Heap.one,this,h4,one_Dj.1 (add_Dj.1 d6).1]
  obtain⟨d3,d4⟩:=Dj_add.1 d
  obtain⟨d7,d8⟩:=add_Dj.1 d6
  have hll:=ownL_len h5
  have hfit:l.length*Ty.sz α≤cap*Ty.sz α:=Nat.mul_le_mul_right _ h1
  have hold:ownL l ((cells.drop off).take (l.length*Ty.sz α)) r':=by
   refine ownL_congr h5 ?_
   rw[List.take_take,Nat.min_self]
  refine⟨_,l.length,cap,ha,?_,?_⟩
  ·intro hle
   right
   have hf2:l.length*Ty.sz α+l2.length*Ty.sz α≤cap*Ty.sz α:=by rw[← Nat.add_mul];exact Nat.mul_le_mul_right _ hle
   refine⟨g.add ((Heap.one bb (.cells (setC cells (off+l.length*Ty.sz α) cs).toArray el (0,0))).add (r'.add rs)),?_,Fgt.keep ?_⟩
   ·unfold hstore
    rw[hh,hbk]
    simp only
    rw[if_pos (by refine⟨trivial,?_,hcell⟩;simp[hcs];omega)]
    rw[add_assoc (a:=g),add_assoc (b:=r'),add_one_set (Dj_one.1 d3) (by simp[Heap.add,h4,one_Dj.1 d7])]
   ·refine K _ _ (Dj_add.2 ⟨Dj_one.2 (Dj_one.1 d3),Dj_add.2 ⟨d4,d5⟩⟩) ?_
    refine Own_list.2 (.inr ⟨bb,off,cap,_,el,_,by simp,⟨by simpa using hle,by simpa using hn⟩,?_,rfl,?_,?_⟩)
    ·rw[setC_length (by rw[hcs];omega)];exact h2
    ·simp[Heap.add,h4];exact one_Dj.1 d7
    ·rw[drop_setC (by rw[hcs];omega)]
     have h9:=ownL_append hold (by simp;omega) Os d8
     refine ownL_congr h9 ?_
     rw[List.length_append,Nat.add_mul]
     exact (List.take_append_of_le_length (by rw[List.length_append,List.length_take,Nat.min_eq_left hll,hcs];exact Nat.le_refl _)).symm
  ·intro hlt
   refine⟨l.length,(cells.drop off).take (l.length*Ty.sz α),?_,growslice_fits hlt hb,hn,?_⟩
   ·rw[srcV_slice (l:=(cells.drop off).take (l.length*Ty.sz α))]
    rw[hh,hcells_mk hbk (by simp;omega)]
   ·intro b' el' c hb' hc
    subst hh
    rw[set_new hb']
    have n1:g b'=none∧r' b'=none∧rs b'=none:=by
     simp only[Heap.add,oplus_eq_none] at hb'
     exact⟨hb'.1.1,hb'.1.2.2,hb'.2⟩
    have hne:Dj (Heap.one bb (.cells cells.toArray el (0,0))) ((r'.add rs).add (Heap.one b' (.cells ((cells.drop off).take (l.length*Ty.sz α)++cs++reps (c-(l.length+l2.length)) zero).toArray el' (0,0)))):=by
     refine Dj_add.2 ⟨Dj_add.2 ⟨one_Dj.2 h4,d7⟩,Dj_one.2 ?_⟩
     simp only[Heap.add,oplus_eq_none] at hb'
     exact hb'.1.2.1
    refine Fgt.drop (h':=g.add ((r'.add rs).add (Heap.one b' (.cells ((cells.drop off).take (l.length*Ty.sz α)++cs++reps (c-(l.length+l2.length)) zero).toArray el' (0,0))))) ?_ ?_
    ·have:=le_drop d3 hne
     simpa[add_assoc] using this
    ·refine K _ _ (Dj_add.2 ⟨Dj_add.2 ⟨d4,d5⟩,Dj_one.2 n1.1⟩) ?_
     rw[(Dj_one.2 (show (r'.add rs) b'=none by simp[Heap.add,n1.2])).comm]
     refine Own_list.2 (.inr ⟨b',0,c,_,el',r'.add rs,by simp,⟨by simpa using hc,by simpa using hn⟩,?_,rfl,by simp[Heap.add,n1.2],?_⟩)
     ·have:(l.length+l2.length)*Ty.sz α+(c-(l.length+l2.length))*Ty.sz α=c*Ty.sz α:=by
       rw[← Nat.add_mul];congr 1;omega
      rw[Nat.add_mul] at this
      simp[reps,hz,hcs]
      omega
     ·have h9:=ownL_append hold (by simp;omega) Os d8
      refine ownL_congr h9 ?_
      rw[List.drop_zero,List.length_append,Nat.add_mul]
      exact (List.take_append_of_le_length (by rw[List.length_append,List.length_take,Nat.min_eq_left hll,hcs];exact Nat.le_refl _)).symm
theorem a_appP {bytes esz:Nat}{zero:List Value}{j:Nat}{b:AO}{dst:Nat}{cs:List Value}{c0:Array Value}(hp:eget e j=some (.agg c0)) (hs:b.src h e esz=some (l2.length,cs)) (hcs:cs.length=l2.length*Ty.sz α) (Os:ownL l2 cs rs)
  (d:Dj g rs) (hh:h=g.add rs) (hz:zero.length=Ty.sz α) (hb:l2.length*bytes≤140737488355328) (hn:l2.length<2^62)
  (K:∀v' r',Dj g r'→Own r' v' l2→k (eset e dst (some v')) (g.add r')):(A.ex (some dst) (.app bytes esz zero (.p 0 j) b)).wp P k e h:=by
 refine⟨l2.length,cs,hs,rfl,⟨c0,hp⟩,?_,?_⟩
 ·intro hl2 b'
  have hl2:l2=[]:=by simpa using hl2
  subst hl2
  have hrs:rs=Heap.nil:=Os
  subst hrs
  subst hh
  refine Fgt.keep ?_
  simpa using K _ Heap.nil Dj_nil (Own_list.2 (.inl ⟨some ⟨b',0,none⟩,rfl,rfl,rfl,.inr ⟨b',0,rfl⟩⟩))
 ·intro hpos
  refine⟨growslice_fits hpos (by simpa using hb),hn,?_⟩
  intro b' el c hb' hc
  subst hh
  rw[set_new hb']
  have n1:g b'=none∧rs b'=none:=by simpa[Heap.add] using hb'
  refine Fgt.keep ?_
  rw[add_assoc]
  refine K _ _ (Dj_add.2 ⟨d,Dj_one.2 n1.1⟩) ?_
  rw[(Dj_one.2 n1.2).comm]
  refine Own_list.2 (.inr ⟨b',0,c,_,el,rs,rfl,⟨hc,by omega⟩,?_,rfl,n1.2,?_⟩)
  ·simp[reps,hz,hcs]
   rw[← Nat.add_mul]
   exact Nat.mul_le_mul_right _ (by omega)
  ·refine ownL_congr Os ?_
   simp only[List.drop_zero]
   exact (List.take_append_of_le_length (by rw[hcs];exact Nat.le_refl _)).symm
def encL [Flat α] (l:List α):List Value:=(l.map Flat.enc).flatten
theorem flat_len [Flat α] {x:α}(hx:Flat.ok x):(Flat.enc x).length=Ty.sz α:=Ty.len (h:=Heap.nil) (Flat.rep_iff.2 ⟨rfl,hx⟩)
theorem encL_len [Flat α]:∀{l:List α},(∀x∈l,Flat.ok x)→(encL l).length=l.length*Ty.sz α
 | [],_=>by simp[encL]
 | x::l,h=>by
  have:=encL_len (l:=l) (fun y hy=>h y (by simp[hy]))
  simp only[encL,List.map_cons,List.flatten_cons,List.length_append,flat_len (h x (by simp)),List.length_cons] at this ⊢
  rw[this,Nat.add_mul];omega
theorem ownL_enc [Flat α]:∀{l:List α},(∀x∈l,Flat.ok x)→ownL l (encL l) Heap.nil
 | [],_=>rfl
 | x::l,h=>by
  have hx:=flat_len (h x (by simp))
  refine⟨Heap.nil,Heap.nil,by simp,by simp,?_,?_⟩
  ·rw[show encL (x::l)=Flat.enc x++encL l from rfl,← hx,List.take_left]
   exact Flat.own_iff.2 ⟨rfl,rfl,h x (by simp)⟩
  ·rw[show encL (x::l)=Flat.enc x++encL l from rfl,← hx,List.drop_left]
   exact ownL_enc (fun y hy=>h y (by simp[hy]))
theorem hcells_add {h:Heap}{b:Nat}:∀{n m off:Nat}{c1 c2:List Value},hcells h b off n=some c1→hcells h b (off+n) m=some c2→hcells h b off (n+m)=some (c1++c2)
 | 0,m,off,c1,c2,h1,h2=>by simp[hcells] at h1;subst h1;simpa using h2
 | n+1,m,off,c1,c2,h1,h2=>by
  rw[show n+1+m=(n+m)+1 by omega]
  simp only[hcells] at h1 ⊢
  split at h1
  ·rename_i v r hv hr
   simp only[Option.some.injEq] at h1
   subst h1
   rw[hv,hcells_add hr (by rw[← h2];congr 1;omega)]
   rfl
  ·simp at h1
theorem repL_enc [Flat α] {h:Heap}{b off:Nat}:∀{l:List α},repL h (some ⟨b,off,none⟩) l→hcells h b off (l.length*Ty.sz α)=some (encL l)
 | l,hr=>by
  have key:∀n,n≤l.length→hcells h b off (n*Ty.sz α)=some (encL (l.take n)):=by
   intro n
   induction n with
   | zero=>intro _;simp[hcells,encL]
   | succ n ih=>
    intro hn
    obtain⟨b',off',vs,h1,h2,h3⟩:=hr n (by omega)
    simp only[Option.some.injEq,Addr.mk.injEq] at h1
    obtain⟨rfl,rfl,_⟩:=h1
    have h4:=hcells_add (ih (by omega)) h2
    rw[show (n+1)*Ty.sz α=n*Ty.sz α+Ty.sz α by rw[Nat.add_mul];omega,h4]
    rw[List.take_add_one,List.getElem?_eq_getElem (by omega)]
    rw[encL,encL,List.map_append,List.flatten_append,(Flat.rep_iff.1 h3).1]
    simp
  have:=key l.length (Nat.le_refl _)
  rwa [List.take_length] at this
theorem Rep.okL [Flat α] {h:Heap}{v:Value}{l:List α}(hr:Rep h v l):∀x∈l,Flat.ok x:=by
 intro x hx
 obtain⟨i,hi,rfl⟩:=List.mem_iff_getElem.1 hx
 exact hr.okF hi
theorem Rep.src [Flat α] {h:Heap}{v:Value}{l:List α}(hr:Rep h v l):srcV h (Ty.sz α) (some v)=some (l.length,encL l):=by
 obtain⟨p,cap,rfl,h1,h2,h3⟩:=Rep_list.1 hr
 cases l with
 | nil=>rfl
 | cons x l=>
  obtain⟨b,off,vs,rfl,_⟩:=h3 0 (by simp)
  have h4:=repL_enc h3
  simp only[List.length_cons] at h4 ⊢
  simp only[srcV,h4]
  rfl
theorem a_appPL [Flat α] {bytes esz:Nat}{zero:List Value}{j:Nat}{x:O}{dst:Nat}{c0:Array Value}{u:Value}(hp:eget e j=some (.agg c0)) (hx:x.get e=some u) (hr:Rep h u l2) (hsz:esz=Ty.sz α) (hz:zero.length=Ty.sz α) (hb:l2.length*bytes≤140737488355328)
  (K:∀v' r',Dj h r'→Own r' v' l2→k (eset e dst (some v')) (h.add r')):(A.ex (some dst) (.app bytes esz zero (.p 0 j) (.o x))).wp P k e h:=by
 subst hsz
 refine a_appP (rs:=Heap.nil) (l2:=l2) hp ?_ (encL_len hr.okL) (ownL_enc hr.okL) Dj_nil (by simp) hz hb (by have:=hr.lt;omega) K
 simp only[AO.src,hx]
 exact hr.src
theorem a_appF [Flat α] {bytes esz:Nat}{zero:List Value}{a:O}{n j:Nat}{dst:Nat}{c0:Array Value}(O:Own r v l) (ha:a.get e=some v) (hp:eget e j=some (.agg c0)) (hn:n=l2.length) (hc:c0.toList=encL l2) (hok:∀x∈l2,Flat.ok x) (d:Dj g r) (hh:h=g.add r) (hsz:esz=Ty.sz α) (hz:zero.length=Ty.sz α)
  (hb:(l.length+l2.length)*bytes≤140737488355328) (hn2:l.length+l2.length<2^62)
  (K:∀v' r',Dj g r'→Own r' v' (l++l2)→k (eset e dst (some v')) (g.add r')):(A.ex (some dst) (.app bytes esz zero (.o a) (.p n j))).wp P k e h:=by
 subst hsz hn
 refine a_app (rs:=Heap.nil) (l2:=l2) O ha ?_ (encL_len hok) (ownL_enc hok) d Dj_nil (by simp[hh]) rfl hz hb hn2 K
 have h1:=encL_len hok
 have h2:c0.size=l2.length*Ty.sz α:=by rw[← h1,← hc];simp
 simp only[AO.src,hp,h2,if_true,hc]
end
def elpo (sz:Nat) (v:Value) (i fo:Nat):Value:=
 match v with
 | .slice (some p) _ _=>.pointer (some ((p.add (i*sz)).add fo))
 | _=>undef
section
variable {α:Type} [Ty α] {P:Program}{k:Env→Heap→Prop}{e:Env}{h g r:Heap}{v:Value}{l:List α}{i:Nat}
theorem Rep.fa {n:Nat}(hr:Rep h v l) (hi:i<l.length) {fo:Nat}:faV fo (elp n v i)=some (elpo n v i fo):=by
 obtain⟨p,cap,rfl,hc,hp,hl⟩:=Rep_list.1 hr
 obtain⟨b,off,vs,rfl,_⟩:=hl i hi
 rfl
end
def same {α:Sort u}(x:α):α:=x
@[simp] theorem same_eq {α:Sort u}(x:α):same x=x:=Eq.trans (Eq.refl x) (Eq.refl x)
section
variable {P:Program}{e e':Env}{h:Heap}{Q:Ex→Env→Heap→Prop}{k:Env→Heap→Prop}
@[congr] theorem C.wp_congr {c:C}(he:same e=e'):C.wp P c Q e h=C.wp P c Q e' h:=by rw[← he,same_eq]
@[congr] theorem Pl.wp_congr {p:Pl}(he:same e=e'):Pl.wp P k p e h=Pl.wp P k p e' h:=by rw[← he,same_eq]
@[congr] theorem S.wp_congr {s:S}(he:same e=e'):S.wp P k e h s=S.wp P k e' h s:=by rw[← he,same_eq]
@[congr] theorem A.wp_congr {x:A}(he:same e=e'):A.wp P k e h x=A.wp P k e' h x:=by rw[← he,same_eq]
@[congr] theorem seqQ_congr {b:C}{x x':Ex}(hx:x=x') (he:same e=e'):seqQ P b Q x e h=seqQ P b Q x' e' h:=by rw[hx,← he,same_eq]
@[congr] theorem blockQ_congr {i:Nat}{x x':Ex}(hx:x=x') (he:same e=e'):blockQ i Q x e h=blockQ i Q x' e' h:=by rw[hx,← he,same_eq]
@[congr] theorem loopQ_congr {n:Nat}{fg:List Nat}{I:Env→Heap→Prop}{x x':Ex}(hx:x=x') (he:same e=e'):loopQ n fg I Q x e h=loopQ n fg I Q x' e' h:=by rw[hx,← he,same_eq]
@[congr] theorem Fgt_congr (he:same e=e'):Fgt k e h=Fgt k e' h:=by rw[← he,same_eq]
@[congr] theorem RetK_congr {k:Value→Heap→Prop}{v v':Value}(hv:same v=v'):RetK k v h=RetK k v' h:=by rw[← hv,same_eq]
@[congr] theorem CallE_congr {f f':FuncId}{a a':List Value}{q:Value→Heap→Prop}(hf:f=f') (ha:same a=a'):CallE P f a h q=CallE P f' a' h q:=by rw[hf,← ha,same_eq]
@[congr] theorem IteW_congr {p p' A B:Prop}(hp:same p=p'):IteW p A B=IteW p' A B:=by rw[← hp,same_eq]
@[congr] theorem condW_congr {v v':Option Value}{A B:Prop}(hv:same v=v'):condW v A B=condW v' A B:=by rw[← hv,same_eq]
@[congr] theorem guardW_congr' {v v':Option Value}{w:Bool}{A B:Prop}(hv:same v=v'):guardW v w A B=guardW v' w A B:=by rw[← hv,same_eq]
@[congr] theorem ExW_congr {α:Type}{x x':Option α}{k:α→Prop}(hx:same x=x'):ExW x k=ExW x' k:=by rw[← hx,same_eq]
@[congr] theorem AndW_congr {p p' A:Prop}(hp:same p=p'):AndW p A=AndW p' A:=by rw[← hp,same_eq]
attribute [simp] List.getElem?_cons_zero List.getElem?_cons_succ List.getElem_cons_zero List.getElem_cons_succ
theorem C.wpe {c c':C}(hc:c=c') {P:Program}{Q:Ex→Env→Heap→Prop}{e:Env}{h:Heap}:C.wp P c Q e h=C.wp P c' Q e h:=by rw[hc]
theorem Pl.wpe {c c':Pl}(hc:c=c') {P:Program}{k:Env→Heap→Prop}{e:Env}{h:Heap}:Pl.wp P k c e h=Pl.wp P k c' e h:=by rw[hc]
end
theorem CallE.go {P:Program}{f:FuncId}{args:List Value}{h:Heap}{Q:Value→Heap→Prop}{k:Env→Heap→Prop}{d:Option Nat}{e:Env}(hc:CallE P f args h Q) (hk:∀v h',Q v h'→k (dput d (some v) e) h') :
  CallE P f args h fun v h'=>Fgt k (dput d (some v) e) h':=CallE.mono (fun v h' hq=>Fgt.keep (hk v h' hq)) hc
abbrev HP:=Heap→Prop
def HS:Heap→List HP→Heap→Prop
 | g,[],h=>g.le h
 | g,p::Γ,h=>∃g' r,h=g'.add r∧Dj g' r∧p r∧HS g Γ g'
def Heap.minus (h r:Heap):Heap:=fun b=>match r b with
 | none=>h b
 | some _=>none
section
variable {g h h' r:Heap}
theorem minus_add (hl:r.le h):(h.minus r).add r=h:=by
 funext b
 simp only[Heap.add,Heap.minus]
 cases hr:r b with
 | none=>simp
 | some o=>simp[hl b o hr]
theorem minus_Dj:Dj (h.minus r) r:=fun b=>by
 cases hr:r b with
 | none=>exact .inr rfl
 | some o=>exact .inl (by simp[Heap.minus,hr])
theorem le_minus (hl:g.le h) (d:Dj g r):g.le (h.minus r):=fun b o hb=>by
 rcases d b with h1 | h1
 ·rw[h1] at hb;simp at hb
 ·simp[Heap.minus,h1,hl b o hb]
def ow {α:Type} [Ty α] (v:Value) (x:α):HP:=fun r=>Own r v x
def hole {α:Type} [Ty α] (v:Value) (l:List α) (i:Nat) (u:Value):HP:=fun r=>Hole r v l i u
def bx (b:Nat) (c:List Value):HP:=fun r=>∃el,r=Heap.one b (.cells c.toArray el (0,0))
theorem HS.le:∀{Γ:List HP}{h h':Heap},HS g Γ h→h.le h'→HS g Γ h'
 | [],_,_,H,hl=>Heap.le.trans H hl
 | _::_,_,h',⟨g',r,e,d,hp,H⟩,hl=>by
  subst e
  have h1:r.le h':=(le_add' d).trans hl
  have h2:g'.le h':=(le_add d).trans hl
  exact⟨h'.minus r,r,(minus_add h1).symm,minus_Dj,hp,H.le (le_minus h2 d)⟩
theorem HS.base:∀{Γ:List HP}{h:Heap},HS g Γ h→g.le h
 | [],_,H=>H
 | _::_,_,⟨_,_,e,d,_,H⟩=>by subst e;exact H.base.trans (le_add d)
theorem HS.init:HS h [] h:=Heap.le.refl h
theorem HS.drop {p:HP}{Γ:List HP}(H:HS g (p::Γ) h):HS g Γ h:=by
 obtain⟨g',r,rfl,d,hp,H⟩:=H
 exact H.le (le_add d)
theorem HS.app:∀{Δ Γ:List HP}{h h':Heap},HS h Δ h'→HS g Γ h→HS g (Δ++Γ) h'
 | [],_,_,_,H1,H=>H.le H1
 | _::_,_,_,_,⟨g',r,e,d,hp,H1⟩,H=>⟨g',r,e,d,hp,H1.app H⟩
theorem HS.sw1 {p q:HP}{Γ:List HP}(H:HS g (p::q::Γ) h):HS g (q::p::Γ) h:=by
 obtain⟨g1,r1,rfl,d1,hp,g2,r2,rfl,d2,hq,H⟩:=H
 obtain⟨d3,d4⟩:=add_Dj.1 d1
 exact⟨g2.add r1,r2,add_swap d4,add_Dj.2 ⟨d2,d4.symm⟩,hq,g2,r1,rfl,d3,hp,H⟩
theorem HS.under {p:HP}{Γ Γ':List HP}(hH:∀h,HS g Γ h→HS g Γ' h) (H:HS g (p::Γ) h):HS g (p::Γ') h:=by
 obtain⟨g',r,rfl,d,hp,H⟩:=H
 exact⟨g',r,rfl,d,hp,hH _ H⟩
theorem HS.imp {p q:HP}{Γ:List HP}(H:HS g (p::Γ) h) (hpq:∀r,p r→q r):HS g (q::Γ) h:=by
 obtain⟨g',r,e,d,hp,H⟩:=H
 exact⟨g',r,e,d,hpq r hp,H⟩
theorem HS.sw2 {a b c:HP}{Γ:List HP}(H:HS g (a::b::c::Γ) h):HS g (c::a::b::Γ) h:=(H.under fun _=>HS.sw1).sw1
theorem HS.sw3 {a b c d:HP}{Γ:List HP}(H:HS g (a::b::c::d::Γ) h):HS g (d::a::b::c::Γ) h:=(H.under fun _=>HS.sw2).sw1
theorem HS.of {α:Type} [Ty α] {v:Value}{x:α}(H:∃r,Dj h r∧h'=h.add r∧Own r v x):HS h [ow v x] h':=by
 obtain⟨r,d,rfl,O⟩:=H
 exact⟨h,r,rfl,d,O,HS.init⟩
theorem HS.rep {α:Type} [Ty α] {v:Value}{x:α}{Γ:List HP}(H:HS g (ow v x::Γ) h):Rep h v x:=by
 obtain⟨g',r,rfl,d,O,_⟩:=H
 exact Own.rep' O d
theorem Rep.on {α:Type} [Ty α] {v:Value}{x:α}{Γ:List HP}(R:Rep g v x) (H:HS g Γ h):Rep h v x:=R.le H.base
end
section
variable {α:Type} [Ty α] {P:Program}{k:Env→Heap→Prop}{e:Env}{g h:Heap}{Γ:List HP}{v u:Value}{l l2:List α}{i:Nat}
theorem HS.storeF [Flat α] (H:HS g (ow v l::Γ) h) (y:α) {sz:Nat}{a x:O}(hi:i<l.length) (hp:a.get e=some (elp (Ty.sz α) v i)) (hx:x.get e=some (valC (Ty.agg α) (Flat.enc y))) (hy:Flat.ok y) (hsz:sz=Ty.sz α)
  (K:∀h',HS g (ow v (l.set i y)::Γ) h'→k e h'):(A.ex none (.store sz a x)).wp P k e h:=by
 obtain⟨g',r,rfl,d,O,H⟩:=H
 exact a_storeF y O hi d rfl hp hx hy hsz fun r' d' O'=>K _ ⟨g',r',rfl,d',O',H⟩
theorem HS.store {y:α}{u':Value}(H:HS g (ow u' y::ow v l::Γ) h) {sz:Nat}{a x:O}(hi:i<l.length) (hp:a.get e=some (elp (Ty.sz α) v i)) (hx:x.get e=some u') (hsz:sz=Ty.sz α)
  (K:∀h',HS g (ow v (l.set i y)::Γ) h'→k e h'):(A.ex none (.store sz a x)).wp P k e h:=by
 obtain⟨g1,ru,rfl,d2,Ou,g',r,rfl,d,O,H⟩:=H
 exact a_store O hi Ou d d2 rfl hp hx hsz fun r' d' O'=>K _ ⟨g',r',rfl,d',O',H⟩
theorem HS.take (H:HS g (ow v l::Γ) h) (hi:i<l.length):∃u,hload h (some (elp (Ty.sz α) v i)) (szo α)=some u∧HS g (ow u l[i]::hole v l i u::Γ) h:=by
 obtain⟨g',r,rfl,d,O,H⟩:=H
 obtain⟨u,r1,r2,rfl,d1,O1,Ho⟩:=Own.take O hi
 obtain⟨d2,d3⟩:=Dj_add.1 d
 refine⟨u,hload_le (Heap.le.trans (le_add' d1) (le_add' d)) Ho.ld,g'.add r2,r1,?_,add_Dj.2 ⟨d2,d1.symm⟩,O1,g',r2,rfl,d3,Ho,H⟩
 rw[add_assoc,d1.comm]
theorem HS.put {y:α}(H:HS g (ow u y::hole v l i u::Γ) h):HS g (ow v (l.set i y)::Γ) h:=by
 obtain⟨g1,r1,rfl,d1,O1,g',r2,rfl,d2,Ho,H⟩:=H
 obtain⟨d3,d4⟩:=add_Dj.1 d1
 refine⟨g',r1.add r2,?_,Dj_add.2 ⟨d3,d2⟩,Ho.put d4.symm O1,H⟩
 rw[add_assoc,d4.comm]
theorem HS.holeld (H:HS g (hole v l i u::Γ) h):hload h (some (elp (Ty.sz α) v i)) (szo α)=some u:=by
 obtain⟨g',r,rfl,d,Ho,H⟩:=H
 exact hload_le (le_add' d) (Hole.ld Ho)
theorem HS.holeia (H:HS g (hole v l i u::Γ) h) {n:Nat}(hn:n=Ty.sz α) {kd:IntKind}{j:Nat}(hj:j<l.length):iaV n v (.int kd j)=some (elp n v j):=by
 obtain⟨g',r,rfl,d,Ho,H⟩:=H
 subst hn
 simpa using Hole.ia Ho (k:=kd) (n:=(j:Int)) (by omega) (by omega)
theorem HS.mks (H:HS g Γ h) {bytes esz:Nat}{zero:List Value}{len cap:O}{j j':IntKind}{n c:Nat}{dst:Nat}{z:α}(hl:len.get e=some (.int j n)) (hc:cap.get e=some (.int j' c)) (hz:Ty.own Heap.nil zero z) (h1:n≤c) (h2:c<2^62) (h3:bytes*c≤2^48)
  (K:∀v h',HS g (ow v (List.replicate n z)::Γ) h'→k (eset e dst (some v)) h'):(A.ex (some dst) (.mks bytes esz zero len cap)).wp P k e h:=
 a_mks hl hc hz h1 h2 h3 fun v r d O=>K _ _ ⟨h,r,rfl,d,O,H⟩
theorem HS.appF [Flat α] (H:HS g (ow v l::Γ) h) (l2:List α) {bytes esz:Nat}{zero:List Value}{a:O}{n j:Nat}{dst:Nat}{c0:Array Value}(ha:a.get e=some v) (hp:eget e j=some (.agg c0)) (hn:n=l2.length) (hc:c0.toList=encL l2) (hok:∀x∈l2,Flat.ok x) (hsz:esz=Ty.sz α) (hz:zero.length=Ty.sz α)
  (hb:(l.length+l2.length)*bytes≤140737488355328) (hn2:l.length+l2.length<2^62)
  (K:∀v' h',HS g (ow v' (l++l2)::Γ) h'→k (eset e dst (some v')) h'):(A.ex (some dst) (.app bytes esz zero (.o a) (.p n j))).wp P k e h:=by
 obtain⟨g',r,rfl,d,O,H⟩:=H
 exact a_appF O ha hp hn hc hok d rfl hsz hz hb hn2 fun v' r' d' O'=>K _ _ ⟨g',r',rfl,d',O',H⟩
theorem HS.app1 [Flat α] (H:HS g (ow v l::Γ) h) (y:α) {bytes esz:Nat}{zero:List Value}{a:O}{j:Nat}{dst:Nat}{c0:Array Value}(ha:a.get e=some v) (hp:eget e j=some (.agg c0)) (hc:c0.toList=Flat.enc y) (hok:Flat.ok y) (hsz:esz=Ty.sz α) (hz:zero.length=Ty.sz α)
  (hb:(l.length+1)*bytes≤140737488355328) (hl1:l.length+1<2^62)
  (K:∀v' h',HS g (ow v' (l++[y])::Γ) h'→k (eset e dst (some v')) h'):(A.ex (some dst) (.app bytes esz zero (.o a) (.p 1 j))).wp P k e h:=by
 refine H.appF [y] ha hp rfl (by simpa[encL] using hc) (by simpa using hok) hsz hz (by simpa using hb) ?_ K
 exact hl1
theorem HS.appO {y:α}(H:HS g (ow u y::ow v l::Γ) h) {bytes esz:Nat}{zero:List Value}{a:O}{j:Nat}{dst:Nat}{c0:Array Value}(ha:a.get e=some v) (hp:eget e j=some (.agg c0)) (hc:c0.toList=u.cells.toList) (hsz:esz=Ty.sz α) (hz:zero.length=Ty.sz α)
  (hb:(l.length+1)*bytes≤140737488355328) (hl1:l.length+1<2^62)
  (K:∀v' h',HS g (ow v' (l++[y])::Γ) h'→k (eset e dst (some v')) h'):(A.ex (some dst) (.app bytes esz zero (.o a) (.p 1 j))).wp P k e h:=by
 obtain⟨g1,ru,rfl,d2,⟨cs,rfl,ho⟩,g',r,rfl,d,O,H⟩:=H
 have h1:=Ty.len (Ty.own_rep ho)
 rw[rep_cells (Ty.own_rep ho)] at hc
 have h2:c0.size=1*esz:=by rw[hsz,Nat.one_mul,← h1,← hc];simp
 refine a_app (l2:=[y]) (cs:=cs) (rs:=ru) O ha ?_ (by simpa using h1) ⟨ru,Heap.nil,by simp,by simp,by simpa[← h1] using ho,rfl⟩ d d2 rfl hsz hz (by simpa using hb) hl1 fun v' r' d' O'=>K _ _ ⟨g',r',rfl,d',O',H⟩
 simp only[AO.src,hp,h2,if_true,hc,List.length_singleton]
theorem HS.appPL [Flat α] (H:HS g Γ h) {bytes esz:Nat}{zero:List Value}{j:Nat}{x:O}{dst:Nat}{c0:Array Value}(hp:eget e j=some (.agg c0)) (hx:x.get e=some u) (hr:Rep h u l2) (hsz:esz=Ty.sz α) (hz:zero.length=Ty.sz α) (hb:l2.length*bytes≤140737488355328)
  (K:∀v' h',HS g (ow v' l2::Γ) h'→k (eset e dst (some v')) h'):(A.ex (some dst) (.app bytes esz zero (.p 0 j) (.o x))).wp P k e h:=
 a_appPL hp hx hr hsz hz hb fun v' r' d' O'=>K _ _ ⟨h,r',rfl,d',O',H⟩
theorem HS.nil_ow (H:HS g Γ h):HS g (ow (.slice none 0 0) ([]:List α)::Γ) h:=⟨h,Heap.nil,by simp,by simp,Own_nils,H⟩
theorem encL_cons [Flat α] {x:α}{l:List α}:encL (x::l)=Flat.enc x++encL l:=rfl
theorem HS.bls [Flat α] (H:HS g Γ h) (l2:List α) {esz len:Nat}{zero:List Value}{parts:List (Nat×Nat×O)}{dst:Nat}(hf:fillP e (reps len zero) parts=some (encL l2)) (hn:len=l2.length) (hok:∀x∈l2,Flat.ok x) (hl:len<4611686018427387904)
  (K:∀v' h',HS g (ow v' l2::Γ) h'→k (eset e dst (some v')) h'):(A.ex (some dst) (.bls esz len zero parts)).wp P k e h:=by
 subst hn
 refine⟨_,hf,fun b el hb=>Fgt.keep ?_⟩
 rw[set_new hb]
 refine K _ _ ⟨h,_,rfl,Dj_one.2 hb,Own_list.2 (.inr ⟨b,0,l2.length,encL l2,el,Heap.nil,rfl,⟨Nat.le_refl _,hl⟩,?_,by simp,rfl,by simpa using ownL_enc hok⟩),H⟩
 rw[encL_len hok];omega
end
section
variable {P:Program}{k:Env→Heap→Prop}{e:Env}{g h:Heap}{Γ:List HP}
theorem HS.alloc (H:HS g Γ h) {x:O}{dst:Nat}{u:Value}(hx:x.get e=some u) (K:∀b h',HS g (bx b u.cells.toList::Γ) h'→k (eset e dst (some (.pointer (some ⟨b,0,none⟩)))) h'):(A.ex (some dst) (.alloc x)).wp P k e h:=by
 refine⟨u,hx,fun b el hb=>Fgt.keep ?_⟩
 rw[set_new hb]
 exact K _ _ ⟨h,_,rfl,Dj_one.2 hb,⟨el,rfl⟩,H⟩
theorem HS.bxld {b:Nat}{c:List Value}(H:HS g (bx b c::Γ) h) {o:Nat}{u:Value}(ho:c[o]? = some u):hload h (some (.pointer (some ⟨b,o,none⟩))) none=some u:=by
 obtain⟨g',r,rfl,d,⟨el,rfl⟩,H⟩:=H
 refine hload_le (le_add' d) ?_
 simp[hload,hcell,Heap.one,ho]
theorem HS.bxld0 {b:Nat}{u:Value}(H:HS g (bx b [u]::Γ) h):hload h (some (.pointer (some ⟨b,0,none⟩))) none=some u:=H.bxld rfl
theorem HS.bxst {b:Nat}{c:List Value}(H:HS g (bx b c::Γ) h) {o sz:Nat}{a x:O}{u:Value}(hp:a.get e=some (.pointer (some ⟨b,o,none⟩))) (hx:x.get e=some u) (hu:u.cells.size=sz) (hu1:allOne u.cells.toList=true) (ho:o+sz≤c.length)
  (K:∀h',HS g (bx b (setC c o u.cells.toList)::Γ) h'→k e h'):(A.ex none (.store sz a x)).wp P k e h:=by
 obtain⟨g',r,rfl,d,⟨el,rfl⟩,H⟩:=H
 have hn:=Dj_one.1 d
 refine⟨b,o,u,g'.add (Heap.one b (.cells (setC c o u.cells.toList).toArray el (0,0))),hp,hx,hu,?_,Fgt.keep (K _ ⟨g',_,rfl,Dj_one.2 hn,⟨el,rfl⟩,H⟩)⟩
 have hb:(g'.add (Heap.one b (.cells c.toArray el (0,0)))) b=some (.cells c.toArray el (0,0)):=by simp[Heap.add,Heap.one,hn]
 unfold hstore
 rw[hb]
 simp only
 rw[if_pos ⟨trivial,by simpa[hu] using ho,by rw[allOne_eq];exact hu1⟩,set_one hn]
end
def Pl.x (d:Nat) (a:PX) (p:Pl):Pl:=.st (.act none (.px (some d) a)) p
def Pl.m (d s:Nat) (p:Pl):Pl:=.st (.act none (.px (some d) (.mv (.v s)))) p
def Pl.l (d s:Nat) (p:Pl):Pl:=.st (.act none (.ld (some d) (.v s) none)) p
def Pl.a (d n:Nat) (p:Pl):Pl:=.st (.act none (.als d none n)) p
def Pl.g (d s n o:Nat) (p:Pl):Pl:=.st (.act none (.pget (some d) (some s) n o none)) p
def Pl.o (a:A) (p:Pl):Pl:=.st (.act none a) p
def Pl.c (d:Nat) (a:EX) (p:Pl):Pl:=.st (.act none (.ex (some d) a)) p
def Pl.e (n m:Nat) (p:Pl):Pl:=.st (.ext n m) p
def Pl.y (i:Nat) (a:A) (p:Pl):Pl:=.st (.act (some (.v i,true)) a) p
def Pl.n (i:Nat) (a:A) (p:Pl):Pl:=.st (.act (some (.v i,false)) a) p
section
variable {P:Program}{k:Env→Heap→Prop}{e:Env}{h:Heap}{d s n m o i:Nat}{p:Pl}
@[simp] theorem Pl.x_wp {a:PX}:Pl.wp P k (Pl.x d a p) e h=Pl.wp P k (.st (.act none (.px (some d) a)) p) e h:=by unfold Pl.x;exact rfl
@[simp] theorem Pl.m_wp:Pl.wp P k (Pl.m d s p) e h=Pl.wp P k (.st (.act none (.px (some d) (.mv (.v s)))) p) e h:=by unfold Pl.m;exact rfl
@[simp] theorem Pl.l_wp:Pl.wp P k (Pl.l d s p) e h=Pl.wp P k (.st (.act none (.ld (some d) (.v s) none)) p) e h:=by unfold Pl.l;exact rfl
@[simp] theorem Pl.a_wp:Pl.wp P k (Pl.a d n p) e h=Pl.wp P k (.st (.act none (.als d none n)) p) e h:=by unfold Pl.a;exact rfl
@[simp] theorem Pl.g_wp:Pl.wp P k (Pl.g d s n o p) e h=Pl.wp P k (.st (.act none (.pget (some d) (some s) n o none)) p) e h:=by unfold Pl.g;exact rfl
@[simp] theorem Pl.e_wp:Pl.wp P k (Pl.e n m p) e h=Pl.wp P k (.st (.ext n m) p) e h:=by unfold Pl.e;exact rfl
@[simp] theorem Pl.o_wp {a:A}:Pl.wp P k (Pl.o a p) e h=Pl.wp P k (.st (.act none a) p) e h:=by unfold Pl.o;exact rfl
@[simp] theorem Pl.c_wp {a:EX}:Pl.wp P k (Pl.c d a p) e h=Pl.wp P k (.st (.act none (.ex (some d) a)) p) e h:=by unfold Pl.c;exact rfl
@[simp] theorem Pl.y_wp {a:A}:Pl.wp P k (Pl.y i a p) e h=Pl.wp P k (.st (.act (some (.v i,true)) a) p) e h:=by unfold Pl.y;exact rfl
@[simp] theorem Pl.n_wp {a:A}:Pl.wp P k (Pl.n i a p) e h=Pl.wp P k (.st (.act (some (.v i,false)) a) p) e h:=by unfold Pl.n;exact rfl
end
theorem C.w {c c':C}(hc:c=c'):∀⦃P:Program⦄ ⦃Q:Ex→Env→Heap→Prop⦄ ⦃e:Env⦄ ⦃h:Heap⦄,C.wp P c Q e h=C.wp P c' Q e h:=fun _ _ _ _=>C.wpe hc
theorem Pl.w {c c':Pl}(hc:c=c'):∀⦃P:Program⦄ ⦃k:Env→Heap→Prop⦄ ⦃e:Env⦄ ⦃h:Heap⦄,Pl.wp P k c e h=Pl.wp P k c' e h:=fun _ _ _ _=>Pl.wpe hc
def ENT (P:Program) (B:C) (r:List (Nat×Option (Option Nat))) (n m:Nat) (f:FuncId):Prop:=∀{args:List Value}{h:Heap}{k:Value→Heap→Prop},args.length=n→B.wp P (retQ r k) (env0 args m) h→CallE P f args h k
end Go.Proofs.YtjbjnicobdpdhaaGreatDoor
