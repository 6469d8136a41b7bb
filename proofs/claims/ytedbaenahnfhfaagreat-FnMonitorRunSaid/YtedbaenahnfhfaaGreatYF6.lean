/-
  Texts of this proof, one behind the other.
-/
import Derived.Test.YtedbaenahnfhfaaGreatYF5
set_option linter.all false
set_option linter.unusedVariables false
set_option linter.unusedSimpArgs false
set_option linter.defProp false
set_option maxRecDepth 1000000
namespace Go.Proofs.YtedbaenahnfhfaaGreat
open Go
theorem kidx_all {K:Nat→Bool}:∀{n:Nat},kidx K n=n→∀q,q<n→K q=true∧kidx K q=q
 | 0,_,q,hq=>absurd hq (Nat.not_lt_zero q)
 | n+1,h,q,hq=>by
  rw[kidx_succ] at h
  have hl:=kidx_le (K:=K) (q:=n)
  have hk:K n=true:=by
   cases hk:K n with
   | true=>rfl
   | false=>rw[hk] at h;simp at h;omega
  rw[hk] at h
  simp only[if_true] at h
  have h1:kidx K n=n:=by omega
  by_cases e:q=n
  ·subst e;exact⟨hk,h1⟩
  ·exact kidx_all h1 q (by omega)
theorem map_range_getD {l:List Bool}:((List.range l.length).map fun q=>l.getD q false)=l:=by
 apply List.ext_getElem (by simp)
 intro i h1 h2
 simp[h2]
theorem Aut.ext3 {a b:Aut}(h1:a.init=b.init) (h2:a.acc=b.acc) (h3:a.edges=b.edges):a=b:=by
 cases a;cases b;simp_all
theorem Aut.keep_full {a:Aut}(ha:a.Ok) {K:Nat→Bool}(h:kidx K a.acc.length=a.acc.length):a.keep K=a:=by
 have hn:=ha.n
 have hall:=kidx_all h
 unfold Aut.keep
 rw[if_neg (by omega)]
 refine Aut.ext3 ?_ ?_ ?_
 ·show (a.init.filter _).map _=_
  rw[List.filter_eq_self.2]
  ·conv=>rhs;rw[← List.map_id a.init]
   apply List.map_congr_left
   intro q hq
   have:=incr_mem ha.i q hq
   have h1:=(hall q.toNat (by omega)).2
   simp only[kout,h1,id]
   omega
  ·intro q hq
   have:=incr_mem ha.i q hq
   exact (hall q.toNat (by omega)).1
 ·show ((List.range a.acc.length).filter K).map _=_
  rw[List.filter_eq_self.2]
  ·exact map_range_getD
  ·intro q hq
   exact (hall q (by simpa using hq)).1
 ·show (a.edges.filter _).map _=_
  rw[List.filter_eq_self.2]
  ·conv=>rhs;rw[← List.map_id a.edges]
   apply List.map_congr_left
   intro e he
   have hx:=ha.2.2.2 e he
   unfold Tr.Ok at hx
   have h1:=(hall e.frm.toNat (by omega)).2
   have h2:=(hall e.to.toNat (by omega)).2
   have e1:((e.frm.toNat:Nat):Int)=e.frm:=by omega
   have e2:((e.to.toNat:Nat):Int)=e.to:=by omega
   simp only[Tr.ren,kout,h1,h2,id,e1,e2]
  ·intro e he
   have hx:=ha.2.2.2 e he
   unfold Tr.Ok at hx
   rw[(hall e.frm.toNat (by omega)).1,(hall e.to.toNat (by omega)).1];rfl
theorem Aut.trim_len {a:Aut}(ha:a.Ok):a.trim.acc.length≤a.acc.length∧(a.trim.acc.length=a.acc.length→a.trim=a∨(a.acc.length=1∧a.trim=⟨[],[false],[]⟩)):=by
 have hn:=ha.n
 have hl:=kidx_le (K:=a.tkeep) (q:=a.acc.length)
 by_cases h0:kidx a.tkeep a.acc.length=0
 ·have ht:a.trim=⟨[],[false],[]⟩:=by unfold Aut.trim Aut.keep;rw[if_pos h0]
  rw[ht]
  exact⟨hn.1,fun h=>.inr ⟨h.symm,rfl⟩⟩
 ·have hk:a.trim.acc.length=kidx a.tkeep a.acc.length:=Aut.keep_len h0
  rw[hk]
  exact⟨hl,fun h=>.inl (Aut.keep_full ha h)⟩
theorem grpS_full {e:Nat→Nat→Bool}:∀{n:Nat},(grpS e n).2=n→(grpS e n).1=List.range n∧∀i,i<n→(List.range i).find? (fun k=>e i k)=none
 | 0,_=>⟨rfl,fun i hi=>absurd hi (Nat.not_lt_zero i)⟩
 | n+1,h=>by
  have hl:=grpS_le (e:=e) n
  cases hf:(List.range n).find? (fun k=>e n k) with
  | some k=>
   rw[grpS_old hf] at h
   have h:(grpS e n).2=n+1:=h
   omega
  | none=>
   rw[grpS_new hf] at h ⊢
   have h:(grpS e n).2+1=n+1:=h
   have h1:(grpS e n).2=n:=by omega
   obtain⟨h2,h3⟩:=grpS_full h1
   refine⟨by show (grpS e n).1++[(grpS e n).2]=_;rw[h2,h1,List.range_succ],fun i hi=>?_⟩
   by_cases ei:i=n
   ·subst ei;exact hf
   ·exact h3 i (by omega)
theorem accG_full {a:Aut}{e:Nat→Nat→Bool}:∀{n:Nat},(∀i,i<n→(List.range i).find? (fun k=>e i k)=none)→accG a e n=(List.range n).map fun q=>a.acc.getD q false
 | 0,_=>rfl
 | n+1,h=>by
  have ih:=accG_full (a:=a) (e:=e) (n:=n) fun i hi=>h i (by omega)
  simp only[accG,h n (by omega)]
  rw[ih,List.range_succ,List.map_append]
  rfl
theorem gnm_full {e:Nat→Nat→Bool}{n:Nat}(h:(grpS e n).1=List.range n) {x:Int}(h0:0≤x) (h1:x<n):gnm e n x=x:=by
 unfold gnm
 rw[h]
 simp[show x.toNat<n by omega]
 omega
theorem memL_self {n:Nat}{l:List Int}(h:incr n (-1) l) {K:Nat→Bool}(hK:∀q,q<n→(K q=true↔(q:Int)∈l)):memL K n=l:=by
 refine incr_ext (memL_incr (Nat.le_refl _)) h fun x=>?_
 rw[memL_mem]
 constructor
 ·rintro⟨q,rfl,h1,h2⟩;exact (hK q h1).1 h2
 ·intro hx
  have:=incr_mem h x hx
  refine⟨x.toNat,by omega,by omega,(hK _ (by omega)).2 ?_⟩
  rwa [Int.toNat_of_nonneg (by omega)]
theorem Aut.mergeE_full {a:Aut}(ha:a.Ok) {e:Nat→Nat→Bool}(h:(grpS e a.acc.length).2=a.acc.length):a.mergeE e=⟨a.init,a.acc,ded a.edges⟩:=by
 obtain⟨h1,h2⟩:=grpS_full h
 have hg:∀x:Int,0≤x→x<a.acc.length→gnm e a.acc.length x=x:=fun x=>gnm_full h1
 refine Aut.ext3 ?_ ?_ ?_
 ·show memL _ (grpS e a.acc.length).2=_
  rw[h]
  refine memL_self ha.i fun q hq=>?_
  simp only[List.any_eq_true,decide_eq_true_eq]
  constructor
  ·rintro⟨p,hp,h3⟩
   have:=incr_mem ha.i p hp
   rw[hg p (by omega) (by omega)] at h3
   rw[← h3];exact hp
  ·intro hm
   exact⟨q,hm,hg q (by omega) (by omega)⟩
 ·show accG a e a.acc.length=_
  rw[accG_full h2,map_range_getD]
 ·show ded (a.edges.map _)=ded a.edges
  congr 1
  conv=>rhs;rw[← List.map_id a.edges]
  apply List.map_congr_left
  intro t ht
  have hx:=ha.2.2.2 t ht
  unfold Tr.Ok at hx
  simp only[Tr.ren,hg t.frm hx.1 hx.2.1,hg t.to hx.2.2.1 hx.2.2.2.1,id]
theorem Aut.mrg_len {a:Aut}(ha:a.Ok):a.mrg.acc.length≤a.acc.length∧(a.mrg.acc.length=a.acc.length→a.mrg=⟨a.init,a.acc,ded a.edges⟩):=by
 have h1:∀e,(a.mergeE e).acc.length=(grpS e a.acc.length).2:=fun e=>accG_len a.acc.length
 unfold Aut.mrg
 rw[h1]
 exact⟨grpS_le _,fun h=>Aut.mergeE_full ha h⟩
theorem ded_same {l:List Tr}(h:l.length≤(ded l).length):ded l=l:=by
 have key:∀(l o:List Tr),(l.foldl (fun o f=>if f∈o then o else o++[f]) o).length≤o.length+l.length∧(o.length+l.length≤(l.foldl (fun o f=>if f∈o then o else o++[f]) o).length→l.foldl (fun o f=>if f∈o then o else o++[f]) o=o++l):=by
  intro l
  induction l with
  | nil=>simp
  | cons y l ih=>
   intro o
   rw[List.foldl_cons]
   by_cases hy:y∈o
   ·rw[if_pos hy]
    obtain⟨i1,i2⟩:=ih o
    refine⟨by simp;omega,fun h=>?_⟩
    simp at h;omega
   ·rw[if_neg hy]
    obtain⟨i1,i2⟩:=ih (o++[y])
    simp only[List.length_append,List.length_cons,List.length_nil] at i1 i2
    refine⟨by simp;omega,fun h=>?_⟩
    rw[i2 (by simp at h;omega)]
    simp
 have:=(key l []).2 (by simpa[ded] using h)
 simpa[ded] using this
noncomputable def Aut.rnd (a:Aut):Aut:=a.trim.mrg
def Aut.mea (a:Aut):Nat:=a.acc.length*4096+a.acc.count true+a.init.length+a.edges.length
theorem Aut.trim_ok {a:Aut}(ha:a.Ok):a.trim.Ok:=Aut.keep_ok ha _
theorem Aut.rnd_ok {a:Aut}(ha:a.Ok):a.rnd.Ok:=Aut.mrg_ok (Aut.trim_ok ha)
theorem Aut.rnd_less {a:Aut}(ha:a.Ok) (hne:a.rnd≠a):a.rnd.mea<a.mea:=by
 have ht:=Aut.trim_ok ha
 have hr:=Aut.rnd_ok ha
 obtain⟨t1,t2⟩:=Aut.trim_len ha
 obtain⟨m1,m2⟩:=Aut.mrg_len ht
 have m1:a.rnd.acc.length≤a.trim.acc.length:=m1
 have b1:=hr.il
 have b2:=hr.e
 have b3:=List.count_le_length (a:=true) (l:=a.rnd.acc)
 have b4:=hr.n
 by_cases hlt:a.rnd.acc.length<a.acc.length
 ·unfold Aut.mea
  omega
 ·have e1:a.trim.acc.length=a.acc.length:=by omega
  have hm:a.rnd=⟨a.trim.init,a.trim.acc,ded a.trim.edges⟩:=m2 (by show a.rnd.acc.length=_;omega)
  rcases t2 e1 with h | ⟨h1,h⟩
  ·rw[h] at hm
   have hd:=ded_len (l:=a.edges)
   have hdl:(ded a.edges).length<a.edges.length:=by
    rcases Nat.lt_or_ge (ded a.edges).length a.edges.length with h3 | h3
    ·exact h3
    ·exact absurd (by rw[hm,ded_same h3]) hne
   rw[hm]
   unfold Aut.mea
   show a.acc.length*4096+a.acc.count true+a.init.length+(ded a.edges).length<_
   omega
  ·rw[h] at hm
   have hm:a.rnd=⟨[],[false],[]⟩:=hm
   rw[hm]
   have h3:Aut.mea ⟨[],[false],[]⟩=4096:=by rfl
   rw[h3]
   unfold Aut.mea
   rw[h1]
   have:a.acc.count true+a.init.length+a.edges.length≠0:=by
    intro h4
    have g1:a.init=[]:=List.eq_nil_of_length_eq_zero (by omega)
    have g2:a.edges=[]:=List.eq_nil_of_length_eq_zero (by omega)
    have g3:a.acc=[false]:=by
     match hq:a.acc,h1 with
     | [x],_=>
      rw[hq] at h4
      cases x with
      | false=>rfl
      | true=>simp at h4
    exact hne (by rw[hm];exact (Aut.ext3 g1 g3 g2).symm)
   omega
inductive SmpR:Aut→Aut→Prop
 | stop {a:Aut}(h:a.rnd=a):SmpR a a
 | more {a r:Aut}(h:a.rnd≠a) (hr:SmpR a.rnd r):SmpR a r
theorem SmpR.fn {a r s:Aut}(h:SmpR a r):SmpR a s→r=s:=by
 induction h with
 | stop h=>
  intro h'
  cases h' with
  | stop _=>rfl
  | more h2 _=>exact absurd h h2
 | more h _ ih=>
  intro h'
  cases h' with
  | stop h2=>exact absurd h2 h
  | more _ h3=>exact ih h3
theorem SmpR.ex:∀(m:Nat) (a:Aut),a.mea≤m→a.Ok→∃r,SmpR a r∧r.Ok
 | 0,a,hm,ha=>by
  have:=ha.n
  unfold Aut.mea at hm
  omega
 | m+1,a,hm,ha=>by
  by_cases h:a.rnd=a
  ·exact⟨a,.stop h,ha⟩
  ·have:=Aut.rnd_less ha h
   obtain⟨r,h1,h2⟩:=SmpR.ex m a.rnd (by omega) (Aut.rnd_ok ha)
   exact⟨r,.more h h1,h2⟩
def Las.Ok (l:Las):Prop:=((∀x∈l.stem,0≤x∧x≤7)∧∀x∈l.loop,0≤x∧x≤7)∧l.stem.length≤80∧1≤l.loop.length∧l.loop.length≤80
instance instDecLasOk (l:Las):Decidable l.Ok:=by unfold Las.Ok;infer_instance
def Las.size (l:Las):Nat:=l.stem.length+l.loop.length
def Las.all (l:Las):List Int:=l.stem++l.loop
def Las.nx (l:Las) (i:Nat):Nat:=if i+1=l.size then l.stem.length else i+1
def Las.pos (l:Las):Nat→Nat
 | 0=>0
 | t+1=>l.nx (l.pos t)
def Las.word (l:Las) (t:Nat):Int:=l.all.getD (l.pos t) 0
theorem Las.nx_lt {l:Las}(h:1≤l.loop.length) {i:Nat}(hi:i<l.size):l.nx i<l.size:=by
 unfold Las.nx Las.size at *
 split<;>omega
theorem Las.pos_lt {l:Las}(h:1≤l.loop.length):∀t,l.pos t<l.size
 | 0=>by unfold Las.pos Las.size;omega
 | t+1=>Las.nx_lt h (Las.pos_lt h t)
theorem Las.all_len {l:Las}:l.all.length=l.size:=by simp[Las.all,Las.size]
theorem Las.word_ok {l:Las}(h:l.Ok) (t:Nat):0≤l.word t∧l.word t≤7:=by
 have h1:=Las.pos_lt h.2.2.1 t
 unfold Las.word
 rw[List.getD_eq_getElem?_getD,List.getElem?_eq_getElem (by rw[Las.all_len];exact h1)]
 have hm:l.all[l.pos t]'(by rw[Las.all_len];exact h1)∈l.all:=List.getElem_mem _
 simp only[Option.getD_some]
 unfold Las.all at hm
 rcases List.mem_append.1 hm with hm | hm
 ·exact h.1.1 _ hm
 ·exact h.1.2 _ hm
def StE (E:List Tr) (w:Nat→Int) (t p q:Nat):Prop:=∃e∈E,e.frm=p∧e.to=q∧e.on (w t)=true
inductive FR (E:List Tr) (w:Nat→Int):Nat→Nat→Nat→Nat→Prop
 | refl (t p:Nat):FR E w t p t p
 | step {t p q u r:Nat}(h:StE E w t p q) (k:FR E w (t+1) q u r):FR E w t p u r
section
variable {E:List Tr}{w:Nat→Int}{A:List Bool}{t p u q v r:Nat}
theorem FR.trans (h:FR E w t p u q) (k:FR E w u q v r):FR E w t p v r:=by
 induction h with
 | refl=>exact k
 | step h _ ih=>exact .step h (ih k)
theorem FR.le (h:FR E w t p u q):t≤u:=by
 induction h with
 | refl=>exact Nat.le_refl _
 | step h _ ih=>omega
theorem FR.one (h:StE E w t p q):FR E w t p (t+1) q:=.step h (.refl _ _)
end
def Goes (A:List Bool) (E:List Tr) (w:Nat→Int) (C:Nat→Nat→Prop):Prop:=∀t p,C t p→∃u q,t<u∧FR E w t p u q∧tru A q∧C u q
def Run (A:List Bool) (E:List Tr) (w:Nat→Int) (t p:Nat):Prop:=∃C,C t p∧Goes A E w C
def Aut.Lang (a:Aut) (w:Nat→Int):Prop:=∃s:Nat,(s:Int)∈a.init∧Run a.acc a.edges w 0 s
theorem Run.before {A:List Bool}{E:List Tr}{w:Nat→Int}{t p u q:Nat}(h:FR E w t p u q) (k:Run A E w u q):Run A E w t p:=by
 obtain⟨C,hC,hG⟩:=k
 refine⟨fun t' p'=>(t'=t∧p'=p)∨C t' p',.inl ⟨rfl,rfl⟩,?_⟩
 rintro t' p' (⟨rfl,rfl⟩ | h1)
 ·obtain⟨v,r,h2,h3,h4,h5⟩:=hG u q hC
  have:=h.le
  exact⟨v,r,by omega,h.trans h3,h4,.inr h5⟩
 ·obtain⟨v,r,h2,h3,h4,h5⟩:=hG t' p' h1
  exact⟨v,r,h2,h3,h4,.inr h5⟩
theorem Run.sim {A A':List Bool}{E E':List Tr}{w:Nat→Int}(M:Nat→Nat→Prop)
  (hs:∀t p q p',M p p'→StE E w t p q→Run A E w (t+1) q→∃q',StE E' w t p' q'∧M q q') (ha:∀p p',M p p'→tru A p→tru A' p') {t p p':Nat}(h:Run A E w t p) (hm:M p p'):Run A' E' w t p':=by
 have fr:∀{t p u r:Nat},FR E w t p u r→Run A E w u r→∀p',M p p'→∃r',FR E' w t p' u r'∧M r r':=by
  intro t p u r h
  induction h with
  | refl=>intro _ p' hm;exact⟨p',.refl _ _,hm⟩
  | step h k ih=>
   intro hr p' hm
   obtain⟨q',h1,h2⟩:=hs _ _ _ _ hm h (hr.before k)
   obtain⟨r',h3,h4⟩:=ih hr q' h2
   exact⟨r',.step h1 h3,h4⟩
 obtain⟨C,hC,hG⟩:=h
 refine⟨fun t p'=>∃p,C t p∧M p p',⟨p,hC,hm⟩,?_⟩
 rintro t p' ⟨p,hC,hm⟩
 obtain⟨u,q,h2,h3,h4,h5⟩:=hG t p hC
 obtain⟨q',h6,h7⟩:=fr h3 ⟨C,h5,hG⟩ p' hm
 exact⟨u,q',h2,h6,ha _ _ h7 h4,q,h5,h7⟩
theorem fin_cyc {T:Nat→Nat→Prop}(tr:∀x y z,T x y→T y z→T x z) (N:Nat):∀(m:Nat) (D:Nat→Prop),(((List.range N).filter fun x=>@decide (D x) (Classical.propDecidable _)).length≤m)→(∀x,D x→x<N)→(∃x,D x)→(∀x,D x→∃y,D y∧T x y)→∃x,D x∧T x x:=by
 intro m
 induction m with
 | zero=>
  rintro D hm hN ⟨x,hx⟩ _
  exfalso
  have:x∈(List.range N).filter fun x=>@decide (D x) (Classical.propDecidable _):=by
   rw[List.mem_filter]
   exact⟨List.mem_range.2 (hN x hx),by simpa using hx⟩
  have:=List.length_pos_of_mem this
  omega
 | succ m ih=>
  rintro D hm hN ⟨x,hx⟩ hT
  by_cases hxx:T x x
  ·exact⟨x,hx,hxx⟩
  obtain⟨y,hy,hxy⟩:=hT x hx
  obtain⟨z,⟨hz,_⟩,hzz⟩:=ih (fun y=>D y∧T x y) (by
   have:=filter_lt_of (p:=fun y=>@decide (D y∧T x y) (Classical.propDecidable _)) (q:=fun y=>@decide (D y) (Classical.propDecidable _)) (fun y hy=>by
    simp only[decide_eq_true_eq] at hy ⊢
    exact hy.1) (l:=List.range N) ⟨x,List.mem_range.2 (hN x hx),by simp[hxx],by simpa using hx⟩
   omega) (fun y hy=>hN y hy.1) ⟨y,hy,hxy⟩ (fun z hz=>by
    obtain⟨v,h1,h2⟩:=hT z hz.1
    exact⟨v,⟨h1,tr _ _ _ hz.2 h2⟩,h2⟩)
  exact⟨z,hz,hzz⟩
def Rch1 (E:Nat→Nat→Prop) (x y:Nat):Prop:=∃z,E x z∧Rch E z y
theorem Rch1.trans {E:Nat→Nat→Prop}{x y z:Nat}(h:Rch1 E x y) (k:Rch1 E y z):Rch1 E x z:=by
 obtain⟨u,h1,h2⟩:=h
 obtain⟨v,h3,h4⟩:=k
 exact⟨u,h1,h2.trans (.step h3 h4)⟩
theorem Rch1.rch {E:Nat→Nat→Prop}{x y:Nat}(h:Rch1 E x y):Rch E x y:=by
 obtain⟨u,h1,h2⟩:=h
 exact .step h1 h2
theorem fin_rch {E:Nat→Nat→Prop}{N:Nat}{D:Nat→Prop}(hN:∀x,D x→x<N) (h0:∃x,D x) (hT:∀x,D x→∃y,D y∧Rch1 E x y):∃x,D x∧Cyc E x:=
 fin_cyc (T:=Rch1 E) (fun _ _ _ h k=>Rch1.trans h k) N _ D (Nat.le_refl _) hN h0 hT
def Aut.PE (a:Aut) (l:Las) (x y:Nat):Prop:=∃e∈a.edges,∃i,i<l.size∧x=i*a.acc.length+e.frm.toNat∧y=l.nx i*a.acc.length+e.to.toNat∧e.on (l.all.getD i 0)=true
section
variable {a:Aut}{l:Las}
theorem Aut.Ok.tr (ha:a.Ok) {e:Tr}(he:e∈a.edges):∃f g:Nat,e.frm=f∧e.to=g∧f<a.acc.length∧g<a.acc.length:=by
 have:=ha.2.2.2 e he
 unfold Tr.Ok at this
 exact⟨e.frm.toNat,e.to.toNat,by omega,by omega,by omega,by omega⟩
theorem Aut.Ok.st (ha:a.Ok) {w:Nat→Int}{t p q:Nat}(h:StE a.edges w t p q):p<a.acc.length∧q<a.acc.length:=by
 obtain⟨e,he,h1,h2,_⟩:=h
 obtain⟨f,g,h3,h4,h5,h6⟩:=ha.tr he
 exact⟨by omega,by omega⟩
theorem Aut.Ok.ini (ha:a.Ok) {s:Nat}(hs:(s:Int)∈a.init):s<a.acc.length:=by
 have:=incr_mem ha.i _ hs
 omega
theorem PE.of (hl:1≤l.loop.length) {t p q:Nat}(h:StE a.edges l.word t p q):a.PE l (l.pos t*a.acc.length+p) (l.pos (t+1)*a.acc.length+q):=by
 obtain⟨e,he,h1,h2,h3⟩:=h
 exact⟨e,he,l.pos t,Las.pos_lt hl t,by rw[h1];rfl,by rw[h2];rfl,h3⟩
theorem PE.rch (hl:1≤l.loop.length) {t p u q:Nat}(h:FR a.edges l.word t p u q):Rch (a.PE l) (l.pos t*a.acc.length+p) (l.pos u*a.acc.length+q):=by
 induction h with
 | refl=>exact .refl _
 | step h _ ih=>exact .step (PE.of hl h) ih
theorem PE.rch1 (hl:1≤l.loop.length) {t p u q:Nat}(h:FR a.edges l.word t p u q) (htu:t<u):Rch1 (a.PE l) (l.pos t*a.acc.length+p) (l.pos u*a.acc.length+q):=by
 cases h with
 | refl=>omega
 | step h k=>exact⟨_,PE.of hl h,PE.rch hl k⟩
theorem FR.lt (ha:a.Ok) {w:Nat→Int}{t p u q:Nat}(h:FR a.edges w t p u q) (hp:p<a.acc.length):q<a.acc.length:=by
 induction h with
 | refl=>exact hp
 | step h _ ih=>exact ih (ha.st h).2
end
theorem Run.live {a:Aut}(ha:a.Ok) {w:Nat→Int}{t p:Nat}(hp:p<a.acc.length) (h:Run a.acc a.edges w t p):a.Live p:=by
 have rch:∀{t p u q:Nat},FR a.edges w t p u q→Rch a.E p q:=by
  intro t p u q h
  induction h with
  | refl=>exact .refl _
  | step h _ ih=>
   obtain⟨e,he,h1,h2,_⟩:=h
   exact .step ⟨e,he,h1,h2⟩ ih
 have rch1:∀{t p u q:Nat},FR a.edges w t p u q→t<u→Rch1 a.E p q:=by
  intro t p u q h hlt
  cases h with
  | refl=>omega
  | step h k=>
   obtain⟨e,he,h1,h2,_⟩:=h
   exact⟨_,⟨e,he,h1,h2⟩,rch k⟩
 obtain⟨C,hC,hG⟩:=h
 obtain⟨x,⟨t,g1,g2,g3,g4⟩,hx⟩:=fin_rch (E:=a.E) (N:=a.acc.length) (D:=fun x=>∃t,C t x∧x<a.acc.length∧tru a.acc x∧Rch a.E p x)
  (by rintro x ⟨t,g1,g2,_⟩;exact g2)
  (by
   obtain⟨u,q,h1,h2,h3,h4⟩:=hG t p hC
   exact⟨q,u,h4,h2.lt ha hp,h3,rch h2⟩)
  (by
   rintro x ⟨t,g1,g2,g3,g4⟩
   obtain⟨u,q,h1,h2,h3,h4⟩:=hG t x g1
   exact⟨q,⟨u,h4,h2.lt ha g2,h3,g4.trans (rch h2)⟩,rch1 h2 h1⟩)
 exact⟨x,g4,hx,g3⟩
namespace Fm
mutual
def sat (w:Nat→Int):Exq→Nat→Prop
 | .mk k v l,t=>if k=1 then True else if k=2 then (w t).toNat.testBit v.toNat=true
  else if k=3 then ¬(satL w l).getD 0 (fun _=>False) t
  else if k=4 then (satL w l).getD 0 (fun _=>False) t∧(satL w l).getD 1 (fun _=>False) t
  else if k=5 then (satL w l).getD 0 (fun _=>False) t∨(satL w l).getD 1 (fun _=>False) t
  else if k=6 then (satL w l).getD 0 (fun _=>False) (t+1)
  else if k=7 then ∃u,t≤u∧(satL w l).getD 1 (fun _=>False) u∧∀v,t≤v→v<u→(satL w l).getD 0 (fun _=>False) v
  else if k=8 then ∀u,t≤u→(satL w l).getD 1 (fun _=>False) u∨∃v,t≤v∧v<u∧(satL w l).getD 0 (fun _=>False) v
  else if k=9 then ∃u,t≤u∧(satL w l).getD 0 (fun _=>False) u
  else ∀u,t≤u→(satL w l).getD 0 (fun _=>False) u
def satL (w:Nat→Int):List Exq→List (Nat→Prop)
 | []=>[]
 | x::l=>sat w x::satL w l
end
theorem satL_eq {w:Nat→Int}:∀l,satL w l=l.map (sat w)
 | []=>rfl
 | x::l=>by simp only[satL,List.map_cons,satL_eq l]
def sk (w:Nat→Int) (x:Exq) (j:Nat):Nat→Prop:=(x.kids.map (sat w)).getD j (fun _=>False)
theorem sk_at {w:Nat→Int}{x:Exq}{j:Nat}(hj:j<x.kids.length):sk w x j=sat w x.kids[j]:=by simp[sk,hj]
section
variable {w:Nat→Int}
theorem sat_eq (x:Exq) (t:Nat):sat w x t=if x.kind=1 then True else if x.kind=2 then (w t).toNat.testBit x.val.toNat=true
  else if x.kind=3 then ¬sk w x 0 t else if x.kind=4 then sk w x 0 t∧sk w x 1 t else if x.kind=5 then sk w x 0 t∨sk w x 1 t
  else if x.kind=6 then sk w x 0 (t+1) else if x.kind=7 then ∃u,t≤u∧sk w x 1 u∧∀v,t≤v→v<u→sk w x 0 v
  else if x.kind=8 then ∀u,t≤u→sk w x 1 u∨∃v,t≤v∧v<u∧sk w x 0 v
  else if x.kind=9 then ∃u,t≤u∧sk w x 0 u else ∀u,t≤u→sk w x 0 u:=by
 cases x with
 | mk k v l=>simp only[sat,satL_eq];rfl
variable {x:Exq}{t:Nat}
theorem sat1 (h:x.kind=1):sat w x t:=by rw[sat_eq];simp[h]
theorem sat2 (h:x.kind=2):sat w x t↔(w t).toNat.testBit x.val.toNat=true:=by rw[sat_eq];simp[h]
theorem sat3 (h:x.kind=3):sat w x t↔¬sk w x 0 t:=by rw[sat_eq];simp[h]
theorem sat4 (h:x.kind=4):sat w x t↔sk w x 0 t∧sk w x 1 t:=by rw[sat_eq];simp[h]
theorem sat5 (h:x.kind=5):sat w x t↔sk w x 0 t∨sk w x 1 t:=by rw[sat_eq];simp[h]
theorem sat6 (h:x.kind=6):sat w x t↔sk w x 0 (t+1):=by rw[sat_eq];simp[h]
theorem sat7 (h:x.kind=7):sat w x t↔∃u,t≤u∧sk w x 1 u∧∀v,t≤v→v<u→sk w x 0 v:=by rw[sat_eq];simp[h]
theorem sat8 (h:x.kind=8):sat w x t↔∀u,t≤u→sk w x 1 u∨∃v,t≤v∧v<u∧sk w x 0 v:=by rw[sat_eq];simp[h]
theorem sat9 (h:x.kind=9):sat w x t↔∃u,t≤u∧sk w x 0 u:=by rw[sat_eq];simp[h]
theorem sat10 (h:x.kind=10):sat w x t↔∀u,t≤u→sk w x 0 u:=by rw[sat_eq];simp[h]
theorem until_step {a b:Nat→Prop}{t:Nat}:(∃u,t≤u∧b u∧∀v,t≤v→v<u→a v)↔b t∨(a t∧∃u,t+1≤u∧b u∧∀v,t+1≤v→v<u→a v):=by
 constructor
 ·rintro⟨u,h1,h2,h3⟩
  by_cases e:u=t
  ·subst e;exact .inl h2
  ·exact .inr ⟨h3 t (Nat.le_refl _) (by omega),u,by omega,h2,fun v hv hv2=>h3 v (by omega) hv2⟩
 ·rintro (h | ⟨h,u,h1,h2,h3⟩)
  ·exact⟨t,Nat.le_refl _,h,fun v hv hv2=>by omega⟩
  ·refine⟨u,by omega,h2,fun v hv hv2=>?_⟩
   by_cases e:v=t
   ·subst e;exact h
   ·exact h3 v (by omega) hv2
theorem release_step {a b:Nat→Prop}{t:Nat}:(∀u,t≤u→b u∨∃v,t≤v∧v<u∧a v)↔b t∧(a t∨∀u,t+1≤u→b u∨∃v,t+1≤v∧v<u∧a v):=by
 constructor
 ·intro h
  refine⟨(h t (Nat.le_refl _)).elim id fun ⟨v,h1,h2,_⟩=>by omega,?_⟩
  by_cases ha:a t
  ·exact .inl ha
  ·refine .inr fun u hu=>?_
   rcases h u (by omega) with h1 | ⟨v,h1,h2,h3⟩
   ·exact .inl h1
   ·by_cases e:v=t
    ·subst e;exact absurd h3 ha
    ·exact .inr ⟨v,by omega,h2,h3⟩
 ·rintro⟨h1,h2⟩ u hu
  by_cases e:u=t
  ·subst e;exact .inl h1
  rcases h2 with h2 | h2
  ·exact .inr ⟨t,Nat.le_refl _,by omega,h2⟩
  ·rcases h2 u (by omega) with h3 | ⟨v,h3,h4,h5⟩
   ·exact .inl h3
   ·exact .inr ⟨v,by omega,h4,h5⟩
theorem ev_step {b:Nat→Prop}{t:Nat}:(∃u,t≤u∧b u)↔b t∨∃u,t+1≤u∧b u:=by
 constructor
 ·rintro⟨u,h1,h2⟩
  by_cases e:u=t
  ·subst e;exact .inl h2
  ·exact .inr ⟨u,by omega,h2⟩
 ·rintro (h | ⟨u,h1,h2⟩)
  ·exact⟨t,Nat.le_refl _,h⟩
  ·exact⟨u,by omega,h2⟩
theorem al_step {b:Nat→Prop}{t:Nat}:(∀u,t≤u→b u)↔b t∧∀u,t+1≤u→b u:=by
 constructor
 ·exact fun h=>⟨h t (Nat.le_refl _),fun u hu=>h u (by omega)⟩
 ·rintro⟨h1,h2⟩ u hu
  by_cases e:u=t
  ·subst e;exact h1
  ·exact h2 u (by omega)
theorem sat_shift (d:Nat):∀(x:Exq) (t:Nat),sat (fun k=>w (k+d)) x t↔sat w x (t+d):=by
 refine Exq.ind fun x ih t=>?_
 have hk:∀j t,sk (fun k=>w (k+d)) x j t↔sk w x j (t+d):=by
  intro j t
  by_cases hj:j<x.kids.length
  ·rw[sk_at hj,sk_at hj];exact ih _ (List.getElem_mem hj) t
  ·simp[sk,hj]
 rw[sat_eq,sat_eq]
 split
 ·rfl
 split
 ·rfl
 split
 ·rw[hk]
 split
 ·rw[hk,hk]
 split
 ·rw[hk,hk]
 split
 ·rw[hk];rw[show t+1+d=t+d+1 by omega]
 split
 ·constructor
  ·rintro⟨u,h1,h2,h3⟩
   refine⟨u+d,by omega,(hk _ _).1 h2,fun v hv hv2=>?_⟩
   have:=(hk 0 (v-d)).1 (h3 (v-d) (by omega) (by omega))
   rwa [show v-d+d=v by omega] at this
  ·rintro⟨u,h1,h2,h3⟩
   refine⟨u-d,by omega,(hk _ _).2 (by rwa [show u-d+d=u by omega]),fun v hv hv2=>(hk _ _).2 (h3 _ (by omega) (by omega))⟩
 split
 ·constructor
  ·intro h u hu
   rcases h (u-d) (by omega) with h1 | ⟨v,h1,h2,h3⟩
   ·have:=(hk _ _).1 h1
    rw[show u-d+d=u by omega] at this
    exact .inl this
   ·exact .inr ⟨v+d,by omega,by omega,(hk _ _).1 h3⟩
  ·intro h u hu
   rcases h (u+d) (by omega) with h1 | ⟨v,h1,h2,h3⟩
   ·exact .inl ((hk _ _).2 h1)
   ·exact .inr ⟨v-d,by omega,by omega,(hk _ _).2 (by rwa [show v-d+d=v by omega])⟩
 split
 ·constructor
  ·rintro⟨u,h1,h2⟩
   exact⟨u+d,by omega,(hk _ _).1 h2⟩
  ·rintro⟨u,h1,h2⟩
   exact⟨u-d,by omega,(hk _ _).2 (by rwa [show u-d+d=u by omega])⟩
 ·constructor
  ·intro h u hu
   have:=(hk _ _).1 (h (u-d) (by omega))
   rwa [show u-d+d=u by omega] at this
  ·exact fun h u hu=>(hk _ _).2 (h _ (by omega))
theorem sat_congr {w':Nat→Int}(h:∀t,w t=w' t) (x:Exq) (t:Nat):sat w x t↔sat w' x t:=by rw[show w=w' from funext h]
theorem sat_tru:sat w tru t:=sat1 rfl
theorem sat_neg {x:Exq}:sat w (neg x) t↔¬sat w x t:=by rw[sat3 rfl];rfl
theorem sat_push:∀(x:Exq) {n:Nat},Shp n x→∀(b:Bool) (t:Nat),sat w (push x b) t↔(if b then ¬sat w x t else sat w x t):=by
 refine Exq.ind fun x ih n hs b t=>?_
 obtain⟨m,rfl⟩:∃m,n=m+1:=⟨n-1,by cases n with
  | zero=>exact hs.elim
  | succ n=>rfl⟩
 have hk:∀(b:Bool) (j t:Nat),j<x.kids.length→(sat w (kp x b j) t↔(if b then ¬sk w x j t else sk w x j t)):=by
  intro b j t hj
  rw[kp_at hj,sk_at hj]
  exact ih _ (List.getElem_mem hj) (hs.kid hj) b t
 have hk0:=hs.nd.kind
 rw[push_eq]
 by_cases c1:x.kind=1
 ·rw[if_pos (.inl c1)]
  have h1:sat w (.mk x.kind x.val []) t:=sat1 c1
  have h2:sat w x t:=sat1 c1
  cases b
  ·simp[h1,h2]
  ·simp only[if_true];rw[sat_neg];simp[h1,h2]
 by_cases c2:x.kind=2
 ·rw[if_pos (.inr c2)]
  have h1:sat w (.mk x.kind x.val []) t↔sat w x t:=by rw[sat2 c2,sat2 (x:=.mk x.kind x.val []) c2];rfl
  cases b
  ·simp[h1]
  ·simp only[if_true];rw[sat_neg,h1]
 rw[if_neg (by omega)]
 by_cases c3:x.kind=3
 ·rw[if_pos c3,hk _ _ _ (by rw[hs.one (.inl c3)];omega),sat3 c3]
  cases b<;>simp
 rw[if_neg c3]
 by_cases c6:x.kind=6
 ·rw[if_pos c6,sat6 rfl,sat6 c6]
  show sat w (kp x b 0) (t+1)↔_
  rw[hk _ _ _ (by rw[hs.one (.inr (.inl c6))];omega)]
 rw[if_neg c6]
 by_cases c9:x.kind=9
 ·rw[if_pos (.inl c9)]
  have hl:0<x.kids.length:=by rw[hs.one (.inr (.inr (.inl c9)))];omega
  cases b
  ·rw[if_pos (by simp[c9]),sat7 rfl]
   simp only[Bool.false_eq_true,if_false]
   rw[sat9 c9]
   constructor
   ·rintro⟨u,h1,h2,_⟩;exact⟨u,h1,(hk false 0 u hl).1 h2⟩
   ·rintro⟨u,h1,h2⟩;exact⟨u,h1,(hk false 0 u hl).2 h2,fun v _ _=>show sat w tru v from sat_tru⟩
  ·rw[if_neg (by simp[c9]),sat8 rfl]
   simp only[if_true]
   rw[sat9 c9]
   constructor
   ·rintro h ⟨u,h1,h2⟩
    rcases h u h1 with h3 | ⟨v,_,_,h3⟩
    ·exact (hk true 0 u hl).1 h3 h2
    ·exact absurd sat_tru (sat_neg.1 h3)
   ·intro h u hu
    exact .inl ((hk true 0 u hl).2 fun hh=>h ⟨u,hu,hh⟩)
 by_cases c10:x.kind=10
 ·rw[if_pos (.inr c10)]
  have hl:0<x.kids.length:=by rw[hs.one (.inr (.inr (.inr c10)))];omega
  cases b
  ·rw[if_neg (by simp[c10]),sat8 rfl]
   simp only[Bool.false_eq_true,if_false]
   rw[sat10 c10]
   constructor
   ·intro h u hu
    rcases h u hu with h3 | ⟨v,_,_,h3⟩
    ·exact (hk false 0 u hl).1 h3
    ·exact absurd sat_tru (sat_neg.1 h3)
   ·exact fun h u hu=>.inl ((hk false 0 u hl).2 (h u hu))
  ·rw[if_pos (by simp[c10]),sat7 rfl]
   simp only[if_true]
   rw[sat10 c10]
   constructor
   ·rintro⟨u,h1,h2,_⟩ h;exact (hk true 0 u hl).1 h2 (h u h1)
   ·intro h
    rw[Classical.not_forall] at h
    obtain⟨u,hu⟩:=h
    rw[Classical.not_imp] at hu
    exact⟨u,hu.1,(hk true 0 u hl).2 hu.2,fun v _ _=>show sat w tru v from sat_tru⟩
 rw[if_neg (by omega)]
 have c:x.kind=4∨x.kind=5∨x.kind=7∨x.kind=8:=by omega
 have hl:=hs.two c
 have k0:=fun b t=>hk b 0 t (by omega)
 have k1:=fun b t=>hk b 1 t (by omega)
 have q0:∀{k:Int}{t:Nat},sk w (.mk k 0 [kp x b 0,kp x b 1]) 0 t↔(if b then ¬sk w x 0 t else sk w x 0 t):=fun {k t}=>k0 b t
 have q1:∀{k:Int}{t:Nat},sk w (.mk k 0 [kp x b 0,kp x b 1]) 1 t↔(if b then ¬sk w x 1 t else sk w x 1 t):=fun {k t}=>k1 b t
 clear k0 k1
 rcases c with c | c | c | c
 ·cases b
  ·rw[if_neg (by simp),sat4 (x:=.mk x.kind 0 _) c,q0,q1,sat4 c];simp
  ·rw[if_pos rfl,sat5 (by simp[c,dual]),q0,q1,sat4 c]
   simp only[if_true]
   rw[Classical.not_and_iff_not_or_not]
 ·cases b
  ·rw[if_neg (by simp),sat5 (x:=.mk x.kind 0 _) c,q0,q1,sat5 c];simp
  ·rw[if_pos rfl,sat4 (by simp[c,dual]),q0,q1,sat5 c]
   simp only[if_true,not_or]
 ·cases b
  ·simp only[Bool.false_eq_true,if_false] at q0 q1 ⊢
   rw[sat7 (x:=.mk x.kind 0 _) c,sat7 c]
   simp only[q0,q1]
  ·simp only[if_true] at q0 q1 ⊢
   rw[sat8 (by simp[c,dual]),sat7 c]
   simp only[q0,q1]
   constructor
   ·rintro h ⟨u,h1,h2,h3⟩
    rcases h u h1 with h4 | ⟨v,h4,h5,h6⟩
    ·exact h4 h2
    ·exact h6 (h3 v h4 h5)
   ·intro h u hu
    by_cases h1:sk w x 1 u
    ·refine .inr ?_
     by_cases h2:∃v,t≤v∧v<u∧¬sk w x 0 v
     ·exact h2
     ·exact absurd ⟨u,hu,h1,fun v hv hv2=>Classical.byContradiction fun hh=>h2 ⟨v,hv,hv2,hh⟩⟩ h
    ·exact .inl h1
 ·cases b
  ·simp only[Bool.false_eq_true,if_false] at q0 q1 ⊢
   rw[sat8 (x:=.mk x.kind 0 _) c,sat8 c]
   simp only[q0,q1]
  ·simp only[if_true] at q0 q1 ⊢
   rw[sat7 (by simp[c,dual]),sat8 c]
   simp only[q0,q1]
   constructor
   ·rintro⟨u,h1,h2,h3⟩ h
    rcases h u h1 with h4 | ⟨v,h4,h5,h6⟩
    ·exact h2 h4
    ·exact h3 v h4 h5 h6
   ·intro h
    rw[Classical.not_forall] at h
    obtain⟨u,hu⟩:=h
    rw[Classical.not_imp,not_or] at hu
    exact⟨u,hu.1,hu.2.1,fun v hv hv2 hh=>hu.2.2 ⟨v,hv,hv2,hh⟩⟩
end
end Fm
namespace Fm
theorem bits_ex (b:Nat→Prop):∀n,∃s,s<2^n∧∀i,i<n→(s.testBit i=true↔b i)
 | 0=>⟨0,by simp,fun i hi=>absurd hi (Nat.not_lt_zero i)⟩
 | n+1=>by
  obtain⟨s,h1,h2⟩:=bits_ex b n
  have hp:2^(n+1)=2*2^n:=by rw[Nat.pow_succ];omega
  by_cases hb:b n
  ·refine⟨2^n+s,by omega,fun i hi=>?_⟩
   by_cases e:i=n
   ·subst e
    rw[Nat.testBit_two_pow_add_eq,Nat.testBit_lt_two_pow h1]
    simp[hb]
   ·rw[Nat.testBit_two_pow_add_gt (by omega)]
    exact h2 i (by omega)
  ·refine⟨s,by omega,fun i hi=>?_⟩
   by_cases e:i=n
   ·subst e
    rw[Nat.testBit_lt_two_pow h1]
    simp[hb]
   ·exact h2 i (by omega)
theorem shl_bit {k a:Nat}:(1<<<k).testBit a=decide (k=a):=by
 rw[Nat.one_shiftLeft,Nat.testBit_two_pow]
theorem ltc_bit {B:List Exq}{a:Nat}:∀n,n≤B.length→((ltc B n).testBit a=true↔∃(i:Nat) (hi:i<B.length),i<n∧B[i].kind=2∧B[i].val.toNat=a)
 | 0,_=>by simp[ltc]
 | n+1,hn=>by
  have ih:=ltc_bit (B:=B) (a:=a) n (by omega)
  have e:B.getD n Exq.zero=B[n]'(by omega):=by simp[show n<B.length by omega]
  rw[ltc,e]
  split
  ·rename_i hk
   rw[Nat.testBit_or,Bool.or_eq_true,ih,shl_bit,decide_eq_true_iff]
   constructor
   ·rintro (⟨i,hi,h1,h2,h3⟩ | h)
    ·exact⟨i,hi,by omega,h2,h3⟩
    ·exact⟨n,by omega,by omega,hk,h⟩
   ·rintro⟨i,hi,h1,h2,h3⟩
    by_cases e:i=n
    ·subst e;exact .inr h3
    ·exact .inl ⟨i,hi,by omega,h2,h3⟩
  ·rename_i hk
   rw[ih]
   constructor
   ·rintro⟨i,hi,h1,h2,h3⟩;exact⟨i,hi,by omega,h2,h3⟩
   ·rintro⟨i,hi,h1,h2,h3⟩
    by_cases e:i=n
    ·subst e;exact absurd h2 hk
    ·exact⟨i,hi,by omega,h2,h3⟩
theorem ltv_bit {B:List Exq}{s a:Nat}:∀n,n≤B.length→((ltv B s n).testBit a=true↔∃(i:Nat) (hi:i<B.length),i<n∧B[i].kind=2∧s.testBit i=true∧B[i].val.toNat=a)
 | 0,_=>by simp[ltv]
 | n+1,hn=>by
  have ih:=ltv_bit (B:=B) (s:=s) (a:=a) n (by omega)
  have e:B.getD n Exq.zero=B[n]'(by omega):=by simp[show n<B.length by omega]
  rw[ltv,e]
  split
  ·rename_i hk
   rw[Nat.testBit_or,Bool.or_eq_true,ih,shl_bit,decide_eq_true_iff]
   constructor
   ·rintro (⟨i,hi,h1,h2,h3⟩ | h)
    ·exact⟨i,hi,by omega,h2,h3⟩
    ·exact⟨n,by omega,by omega,hk.1,hk.2,h⟩
   ·rintro⟨i,hi,h1,h2,h3,h4⟩
    by_cases e:i=n
    ·subst e;exact .inr h4
    ·exact .inl ⟨i,hi,by omega,h2,h3,h4⟩
  ·rename_i hk
   rw[ih]
   constructor
   ·rintro⟨i,hi,h1,h2,h3⟩;exact⟨i,hi,by omega,h2,h3⟩
   ·rintro⟨i,hi,h1,h2,h3,h4⟩
    by_cases e:i=n
    ·subst e;exact absurd ⟨h2,h3⟩ hk
    ·exact⟨i,hi,by omega,h2,h3,h4⟩
def Cl (B:List Exq):Nat→Exq→Prop
 | 0,_=>False
 | n+1,x=>Nd x∧x.kind≤8∧(x.kind=3→∀y∈x.kids,y.kind=1∨y.kind=2)∧(bas x=true→x∈B)∧∀y∈x.kids,Cl B n y
theorem Cl.shp {B:List Exq}:∀{n:Nat}{x:Exq},Cl B n x→Shp n x
 | 0,_,h=>h.elim
 | _+1,_,h=>⟨h.1,fun y hy=>(h.2.2.2.2 y hy).shp⟩
theorem Cl.ex {B:List Exq}{n:Nat}{x:Exq}(h:Cl B n x):∃m,n=m+1:=by
 cases n with
 | zero=>exact h.elim
 | succ n=>exact⟨n,rfl⟩
def Lm (B:List Exq) (s:Nat) (L:Int):Prop:=L.toNat&&&ltc B B.length=ltv B s B.length
theorem Lm_iff {B:List Exq}(hn:B.Nodup) (hB:∀y∈B,Shp 6 y) {s:Nat}{L:Int}:Lm B s L↔∀(i:Nat) (hi:i<B.length),B[i].kind=2→(L.toNat.testBit B[i].val.toNat=s.testBit i):=by
 have uniq:∀(i j:Nat) (hi:i<B.length) (hj:j<B.length),B[i].kind=2→B[j].kind=2→B[i].val.toNat=B[j].val.toNat→i=j:=by
  intro i j hi hj h1 h2 h3
  have e1:=(hB _ (List.getElem_mem hi))
  have e2:=(hB _ (List.getElem_mem hj))
  have h4:=e1.nd.lo
  have h5:=e2.nd.lo
  have he:B[i]=B[j]:=Exq.ext_iff'.2 ⟨by rw[h1,h2],by omega,by rw[e1.none (.inr h1),e2.none (.inr h2)]⟩
  have hp:=List.pairwise_iff_getElem.1 hn
  rcases Nat.lt_trichotomy i j with h6 | h6 | h6
  ·exact absurd he (hp i j hi hj h6)
  ·exact h6
  ·exact absurd he.symm (hp j i hj hi h6)
 constructor
 ·intro h i hi hk
  have hb:(L.toNat&&&ltc B B.length).testBit B[i].val.toNat=(ltv B s B.length).testBit B[i].val.toNat:=by rw[h]
  have hc:(ltc B B.length).testBit B[i].val.toNat=true:=(ltc_bit _ (Nat.le_refl _)).2 ⟨i,hi,hi,hk,rfl⟩
  rw[Nat.testBit_and,hc,Bool.and_true] at hb
  rw[hb,Bool.eq_iff_iff,ltv_bit _ (Nat.le_refl _)]
  constructor
  ·rintro⟨j,hj,_,h2,h3,h4⟩
   obtain rfl:=uniq j i hj hi h2 hk h4
   exact h3
  ·exact fun h1=>⟨i,hi,hi,hk,h1,rfl⟩
 ·intro h
  refine Nat.eq_of_testBit_eq fun a=>?_
  rw[Nat.testBit_and,Bool.eq_iff_iff,Bool.and_eq_true,ltc_bit _ (Nat.le_refl _),ltv_bit _ (Nat.le_refl _)]
  constructor
  ·rintro⟨h1,i,hi,h2,h3,rfl⟩
   exact⟨i,hi,h2,h3,by rw[← h i hi h3];exact h1,rfl⟩
  ·rintro⟨i,hi,h2,h3,h4,rfl⟩
   exact⟨by rw[h i hi h3];exact h4,i,hi,h2,h3,rfl⟩
theorem val_bas {B:List Exq}{s:Nat}{x:Exq}(h:bas x=true):val B s x=has s (fx B x):=by
 rw[val_eq]
 have h:=of_decide_eq_true h
 rw[if_neg (by omega),if_neg (by omega),if_neg (by omega),if_neg (by omega)]
structure Gd (B:List Exq) (U:List Int) (w:Nat→Int) (σ:Nat→Nat) (π:Nat→Int):Prop where
 fol:∀t,Fol B (σ t) (σ (t+1))
 lm:∀t,Lm B (σ t) (w t)
 ph:∀t,π (t+1)=(phs B U (σ t) (π t)).1
 ok:∀t,POk U (π t)
 acc:∀t,∃u,t≤u∧(phs B U (σ u) (π u)).2=true
theorem Gd.ful {B:List Exq}{U:List Int}{w:Nat→Int}{σ:Nat→Nat}{π:Nat→Int}(h:Gd B U w σ π) {m:Nat}(hm:m<U.length) (t:Nat):∃u,t≤u∧Fm.ful B (σ u) U[m]=true:=by
 apply Classical.byContradiction
 intro hno
 have hno:∀u,t≤u→Fm.ful B (σ u) U[m]=false:=fun u hu=>by
  cases hf:Fm.ful B (σ u) U[m] with
  | false=>rfl
  | true=>exact absurd ⟨u,hu,hf⟩ hno
 have hU:¬U.length=0:=by omega
 have hUp:(0:Int)<U.length:=by omega
 have hstep:∀u,t≤u→∀p:Nat,π u=p→p<U.length∧(phs B U (σ u) (π u)=if Fm.ful B (σ u) (U.getD p 0)=true then ((((p+1)%U.length:Nat):Int),decide (p=0)) else ((p:Int),false)):=by
  intro u hu p hp
  have hk:=h.ok u
  rw[hp] at hk
  have hpl:p<U.length:=by rcases hk.2 with h1 | h1<;>omega
  refine⟨hpl,?_⟩
  rw[phs,if_neg hU,hp,Int.toNat_natCast]
  split
  ·congr 1
   simp
  ·rfl
 have hnat:∀u,∃p:Nat,π u=p:=fun u=>⟨(π u).toNat,by have:=(h.ok u).1;omega⟩
 have hgm:U.getD m 0=U[m]:=by simp[hm]
 -- an accepting time
 obtain⟨t1,h1,h2⟩:=h.acc t
 obtain⟨p1,hp1⟩:=hnat t1
 obtain⟨hp1l,hq1⟩:=hstep t1 h1 p1 hp1
 rw[hq1] at h2
 by_cases f1:Fm.ful B (σ t1) (U.getD p1 0)=true
 case neg=>rw[if_neg f1] at h2;simp at h2
 rw[if_pos f1] at h2 hq1
 have hp10:p1=0:=of_decide_eq_true h2
 subst hp10
 have hm0:m≠0:=by
  rintro rfl
  rw[hgm,hno t1 h1] at f1
  simp at f1
 -- from then on the phase lies between
 have hbet:∀k,∃p:Nat,π (t1+1+k)=p∧1≤p∧p≤m:=by
  intro k
  induction k with
  | zero=>exact⟨1,by rw[Nat.add_zero,h.ph t1,hq1];simp only[Nat.zero_add];rw[Nat.mod_eq_of_lt (by omega)],by omega,by omega⟩
  | succ k ih=>
   obtain⟨p,g1,g2,g3⟩:=ih
   obtain⟨g4,g5⟩:=hstep _ (by omega) p g1
   by_cases f2:Fm.ful B (σ (t1+1+k)) (U.getD p 0)=true
   ·rw[if_pos f2] at g5
    have hpm:p≠m:=by
     rintro rfl
     rw[hgm,hno _ (by omega)] at f2
     simp at f2
    exact⟨p+1,by rw[← Nat.add_assoc,h.ph,g5];simp only;rw[Nat.mod_eq_of_lt (by omega)],by omega,by omega⟩
   ·rw[if_neg f2] at g5
    exact⟨p,by rw[← Nat.add_assoc,h.ph,g5],g2,g3⟩
 obtain⟨t2,h3,h4⟩:=h.acc (t1+1)
 obtain⟨p,g1,g2,g3⟩:=hbet (t2-(t1+1))
 rw[show t1+1+(t2-(t1+1))=t2 by omega] at g1
 obtain⟨_,g5⟩:=hstep t2 (by omega) p g1
 rw[g5] at h4
 split at h4
 ·have:=of_decide_eq_true h4
  omega
 ·simp at h4
theorem unt_at {B:List Exq}:∀{n:Nat}{i:Nat},i<n→(B.getD i Exq.zero).kind=7→(i:Int)∈unt B n
 | n+1,i,hi,hk=>by
  rw[unt]
  by_cases e:i=n
  ·subst e
   rw[if_pos hk]
   simp
  ·have:=unt_at (B:=B) (n:=n) (i:=i) (by omega) hk
   split
   ·exact List.mem_append_left _ this
   ·exact this
theorem Gd.sound {B:List Exq}{w:Nat→Int}{σ:Nat→Nat}{π:Nat→Int}(h:Gd B (unt B B.length) w σ π) (hn:B.Nodup) (hB:∀y∈B,Shp 6 y):∀(x:Exq) {n:Nat},Cl B n x→∀t,val B (σ t) x=true→sat w x t:=by
 refine Exq.ind fun x ih n hc t hv=>?_
 obtain⟨n,rfl⟩:=hc.ex
 have hs:=hc.shp
 obtain⟨hnd,hk8,h3,hbB,hkids⟩:=hc
 have hkd:=hnd.kind
 have kid:∀j t,j<x.kids.length→kv B (σ t) x j=true→sk w x j t:=by
  intro j t hj hv
  rw[kv_at hj] at hv
  rw[sk_at hj]
  exact ih _ (List.getElem_mem hj) (hkids _ (List.getElem_mem hj)) t hv
 by_cases c1:x.kind=1
 ·exact sat1 c1
 have atom:∀{y:Exq}{t:Nat},y.kind=2→y∈B→(val B (σ t) y=true↔sat w y t):=by
  intro y t hy hm
  obtain⟨i,hi,e1,e2⟩:=fx_mem hm
  rw[val_bas (by simp[bas,hy]),e1,has_nat,sat2 hy,← (Lm_iff hn hB).1 (h.lm t) i hi (by rw[e2];exact hy),e2]
 by_cases c3:x.kind=3
 ·have h1:=hs.one (.inl c3)
  have hl:0<x.kids.length:=by omega
  rw[val_eq,if_neg c1,if_pos c3] at hv
  rw[sat3 c3,sk_at hl]
  rw[kv_at hl] at hv
  have hc2:=hkids _ (List.getElem_mem hl)
  rcases h3 c3 _ (List.getElem_mem hl) with hk | hk
  ·rw[val_eq,if_pos hk] at hv
   simp at hv
  ·obtain⟨n',rfl⟩:=hc2.ex
   have hm:=hc2.2.2.2.1 (by simp[bas,hk])
   rw[← atom hk hm]
   simpa using hv
 by_cases c4:x.kind=4
 ·have h1:=hs.two (.inl c4)
  rw[val_eq,if_neg c1,if_neg c3,if_pos c4,Bool.and_eq_true] at hv
  rw[sat4 c4]
  exact⟨kid _ _ (by omega) hv.1,kid _ _ (by omega) hv.2⟩
 by_cases c5:x.kind=5
 ·have h1:=hs.two (.inr (.inl c5))
  rw[val_eq,if_neg c1,if_neg c3,if_neg c4,if_pos c5,Bool.or_eq_true] at hv
  rw[sat5 c5]
  exact hv.imp (kid _ _ (by omega)) (kid _ _ (by omega))
 have hb:bas x=true:=decide_eq_true (by omega)
 have hm:=hbB hb
 obtain⟨i,hi,e1,e2⟩:=fx_mem hm
 have hvb:∀t,val B (σ t) x=(σ t).testBit i:=fun t=>by rw[val_bas hb,e1,has_nat]
 by_cases c2:x.kind=2
 ·exact (atom c2 hm).1 hv
 have hfol:∀t,got B (σ t) (σ (t+1)) i x=(σ t).testBit i:=fun t=>by have:=h.fol t i hi;rwa [e2] at this
 rw[hvb] at hv
 by_cases c6:x.kind=6
 ·have h1:=hs.one (.inr (.inl c6))
  have h2:=hfol t
  rw[got,if_pos c6,hv] at h2
  rw[sat6 c6]
  exact kid _ _ (by omega) h2
 by_cases c7:x.kind=7
 ·have h1:=hs.two (.inr (.inr (.inl c7)))
  have hst:∀t,(σ t).testBit i=(kv B (σ t) x 1||kv B (σ t) x 0&&(σ (t+1)).testBit i):=fun t=>by
   have h2:=hfol t
   rw[got,if_neg c6,if_pos c7] at h2
   exact h2.symm
  have hu:=unt_at (B:=B) (n:=B.length) (i:=i) hi (by rw[List.getD_eq_getElem?_getD,List.getElem?_eq_getElem hi,e2];exact c7)
  obtain⟨m,hml,hmu⟩:=List.mem_iff_getElem.1 hu
  obtain⟨u0,g1,g2⟩:=h.ful hml t
  rw[hmu,Fm.ful,has_nat,Int.toNat_natCast,List.getD_eq_getElem?_getD,List.getElem?_eq_getElem hi,e2] at g2
  simp only[Option.getD_some,Bool.or_eq_true,Bool.not_eq_true'] at g2
  -- from t to there
  have key:∀d t,t+d=u0→(σ t).testBit i=true→∃u,t≤u∧sk w x 1 u∧∀v,t≤v→v<u→sk w x 0 v:=by
   intro d
   induction d with
   | zero=>
    intro t ht hb
    obtain rfl:t=u0:=by omega
    rcases g2 with g2 | g2
    ·rw[hb] at g2;simp at g2
    ·exact⟨t,Nat.le_refl _,kid _ _ (by omega) g2,fun v hv hv2=>by omega⟩
   | succ d ihd=>
    intro t ht hb
    rw[hst t] at hb
    rw[until_step]
    cases hk1:kv B (σ t) x 1 with
    | true=>exact .inl (kid _ _ (by omega) hk1)
    | false=>
     rw[hk1,Bool.false_or,Bool.and_eq_true] at hb
     exact .inr ⟨kid _ _ (by omega) hb.1,ihd (t+1) (by omega) hb.2⟩
  rw[sat7 c7]
  exact key (u0-t) t (by omega) hv
 ·have c8:x.kind=8:=by omega
  have h1:=hs.two (.inr (.inr (.inr c8)))
  have hst:∀t,(σ t).testBit i=(kv B (σ t) x 1&&(kv B (σ t) x 0||(σ (t+1)).testBit i)):=fun t=>by
   have h2:=hfol t
   rw[got,if_neg c6,if_neg c7,if_pos c8] at h2
   exact h2.symm
  rw[sat8 c8]
  have key:∀d,(∃v,t≤v∧v<t+d∧sk w x 0 v)∨(σ (t+d)).testBit i=true:=by
   intro d
   induction d with
   | zero=>exact .inr hv
   | succ d ihd=>
    rcases ihd with ⟨v,g1,g2,g3⟩ | hb
    ·exact .inl ⟨v,g1,by omega,g3⟩
    ·rw[hst,Bool.and_eq_true,Bool.or_eq_true] at hb
     rcases hb.2 with g | g
     ·exact .inl ⟨t+d,by omega,by omega,kid _ _ (by omega) g⟩
     ·exact .inr (by rw[← Nat.add_assoc];exact g)
  intro u hu
  rcases key (u-t) with ⟨v,g1,g2,g3⟩ | g
  ·exact .inr ⟨v,g1,by omega,g3⟩
  ·rw[show t+(u-t)=u by omega,hst,Bool.and_eq_true] at g
   exact .inl (kid _ _ (by omega) g.1)
end Fm
namespace Fm
theorem ins_nodup {o:List Exq}{x:Exq}(h:o.Nodup):(ins o x).Nodup:=by
 unfold ins
 split
 ·exact h
 ·rename_i hx
  rw[List.nodup_append]
  exact⟨h,by simp,fun a ha b hb=>by simp at hb;subst hb;rintro rfl;exact hx ha⟩
theorem mem_ins {o:List Exq}{x y:Exq}:y∈ins o x↔y∈o∨y=x:=by
 unfold ins
 split
 ·rename_i hx
  exact⟨.inl,fun h=>h.elim id fun e=>e▸hx⟩
 ·simp
theorem nod_kid {x y:Exq}(h:y∈x.kids):y.nod<x.nod:=by
 obtain⟨i,hi,rfl⟩:=List.mem_iff_getElem.1 h
 have e1:=Exq.nods_take hi
 have e2:=Exq.nods_le x.kids (i+1)
 have e3:=x.nod_eq
 omega
theorem subs_nodup:∀(n:Nat) (x:Exq),x.nod≤n→∀(o:List Exq),o.Nodup→(subs x o).Nodup:=by
 intro n
 induction n with
 | zero=>intro x h;rw[Exq.nod_eq] at h;omega
 | succ n ih=>
  intro x hx o ho
  rw[subs_eq]
  have hl:∀(l:List Exq),(∀z∈l,z.nod≤n)→∀(o:List Exq),o.Nodup→(l.foldl (fun o x=>subs x o) o).Nodup:=by
   intro l
   induction l with
   | nil=>intro _ o ho;exact ho
   | cons z l ihl=>intro hz o ho;exact ihl (fun w hw=>hz w (by simp[hw])) _ (ih z (hz z (by simp)) o ho)
  exact ins_nodup (hl _ (fun z hz=>by have:=nod_kid hz;omega) o ho)
def Kc (o:List Exq):Prop:=∀y∈o,∀z∈y.kids,z∈o
theorem subs_kc:∀(n:Nat) (x:Exq),x.nod≤n→∀(o:List Exq),Kc o→Kc (subs x o)∧x∈subs x o∧∀y∈o,y∈subs x o:=by
 intro n
 induction n with
 | zero=>intro x h;rw[Exq.nod_eq] at h;omega
 | succ n ih=>
  intro x hx o ho
  rw[subs_eq]
  have hl:∀(l:List Exq),(∀z∈l,z.nod≤n)→∀(o:List Exq),Kc o→Kc (l.foldl (fun o x=>subs x o) o)∧(∀y∈l,y∈l.foldl (fun o x=>subs x o) o)∧∀y∈o,y∈l.foldl (fun o x=>subs x o) o:=by
   intro l
   induction l with
   | nil=>intro _ o ho;exact⟨ho,fun y hy=>by simp at hy,fun y hy=>hy⟩
   | cons z l ihl=>
    intro hz o ho
    obtain⟨h1,h2,h3⟩:=ih z (hz z (by simp)) o ho
    obtain⟨h4,h5,h6⟩:=ihl (fun w hw=>hz w (by simp[hw])) _ h1
    rw[List.foldl_cons]
    refine⟨h4,fun y hy=>?_,fun y hy=>h6 _ (h3 y hy)⟩
    rcases List.mem_cons.1 hy with rfl | hy
    ·exact h6 _ h2
    ·exact h5 y hy
  obtain⟨h1,h2,h3⟩:=hl x.kids (fun z hz=>by have:=nod_kid hz;omega) o ho
  refine⟨fun y hy z hz=>?_,mem_ins.2 (.inr rfl),fun y hy=>mem_ins.2 (.inl (h3 y hy))⟩
  rcases mem_ins.1 hy with hy | rfl
  ·exact mem_ins.2 (.inl (h1 y hy z hz))
  ·exact mem_ins.2 (.inl (h2 z hz))
def Nf:Nat→Exq→Prop
 | 0,_=>False
 | n+1,x=>x.kind≤8∧(x.kind=3→∀y∈x.kids,y.kind=1∨y.kind=2)∧∀y∈x.kids,Nf n y
theorem Nf.kids {x:Exq}(h:∃n,Nf n x):∀y∈x.kids,∃n,Nf n y:=by
 obtain⟨n,h⟩:=h
 cases n with
 | zero=>exact h.elim
 | succ n=>exact fun y hy=>⟨n,h.2.2 y hy⟩
theorem Nf.mono:∀{n:Nat}{x:Exq},Nf n x→Nf (n+1) x
 | 0,_,h=>h.elim
 | n+1,_,h=>⟨h.1,h.2.1,fun y hy=>(h.2.2 y hy).mono⟩
theorem Nf.up {n m:Nat}{x:Exq}(h:Nf n x) (hm:n≤m):Nf m x:=by
 obtain⟨k,rfl⟩:=Nat.exists_eq_add_of_le hm
 induction k with
 | zero=>exact h
 | succ k ih=>exact (ih (by omega)).mono
theorem nf_tru:Nf 3 tru:=⟨by decide,fun h=>absurd h (by decide),fun y hy=>by simp[tru] at hy⟩
theorem nf_neg {x:Exq}(h:x.kind=1∨x.kind=2) (hk:x.kids=[]):Nf 3 (neg x):=
 ⟨by simp[neg],fun _ y hy=>by simp[neg] at hy;subst hy;exact h,fun y hy=>by
  simp[neg] at hy;subst hy
  exact⟨by omega,fun h3=>by omega,fun z hz=>by rw[hk] at hz;simp at hz⟩⟩
theorem nf_push:∀(x:Exq) {n:Nat},Shp n x→∀b,Nf (n+3) (push x b):=by
 refine Exq.ind fun x ih n hs b=>?_
 obtain⟨m,rfl⟩:∃m,n=m+1:=⟨n-1,by cases n with
  | zero=>exact hs.elim
  | succ n=>rfl⟩
 have hk:∀(b:Bool) (j:Nat),j<x.kids.length→Nf (m+3) (kp x b j):=by
  intro b j hj
  rw[kp_at hj]
  exact ih _ (List.getElem_mem hj) (hs.kid hj) b
 have hkd:=hs.nd.kind
 rw[push_eq]
 have e3:m+1+3=(m+3)+1:=by omega
 split
 ·rename_i h
  split
  ·exact (nf_neg (x:=.mk x.kind x.val []) h rfl).up (by omega)
  ·exact⟨by simp only[Exq.kind_mk];omega,fun h3=>by simp only[Exq.kind_mk] at h3;omega,fun y hy=>by simp at hy⟩
 split
 ·rename_i h
  exact (hk _ 0 (by rw[hs.one (.inl h)];omega)).mono
 split
 ·rename_i h
  rw[e3]
  exact⟨by simp,fun h3=>absurd h3 (by simp),fun y hy=>by simp at hy;subst hy;exact hk _ 0 (by rw[hs.one (.inr (.inl h))];omega)⟩
 split
 ·rename_i h
  have h0:=hk b 0 (by rw[hs.one (.inr (.inr h))];omega)
  split
  ·rw[e3]
   refine⟨by simp,fun h3=>absurd h3 (by simp),fun y hy=>?_⟩
   simp at hy
   rcases hy with rfl | rfl
   ·exact nf_tru.up (by omega)
   ·exact h0
  ·rw[e3]
   refine⟨by simp,fun h3=>absurd h3 (by simp),fun y hy=>?_⟩
   simp at hy
   rcases hy with rfl | rfl
   ·exact (nf_neg (x:=tru) (.inl rfl) rfl).up (by omega)
   ·exact h0
 ·have c:x.kind=4∨x.kind=5∨x.kind=7∨x.kind=8:=by omega
  have hl:=hs.two c
  have hd:(if b=true then dual x.kind else x.kind)=4∨(if b=true then dual x.kind else x.kind)=5∨(if b=true then dual x.kind else x.kind)=7∨(if b=true then dual x.kind else x.kind)=8:=by
   unfold dual
   rcases c with c | c | c | c<;>(rw[c];cases b<;>simp)
  rw[e3]
  refine⟨by simp only[Exq.kind_mk];omega,fun h3=>by simp only[Exq.kind_mk] at h3;omega,fun y hy=>?_⟩
  simp at hy
  rcases hy with rfl | rfl
  ·exact hk _ 0 (by omega)
  ·exact hk _ 1 (by omega)
theorem basics_nodup {x:Exq}:(basics x).Nodup:=List.Pairwise.filter _ (subs_nodup _ _ (Nat.le_refl _) [] (by simp))
theorem basics_cl {x:Exq}(h:Ok x∧Ok (push x false)):Cl (basics x) 6 (push x false):=by
 obtain⟨h1,h2,_⟩:=subs_kc _ (push x false) (Nat.le_refl _) [] (fun y hy=>by simp at hy)
 have hnf:=subs_all (P:=fun y=>∃n,Nf n y) _ (push x false) (fun y hy=>Nf.kids hy) (Nat.le_refl _) ⟨_,nf_push x h.1.1 false⟩ [] (fun y hy=>by simp at hy)
 have key:∀(n:Nat) (y:Exq),y∈subs (push x false) []→Shp n y→Cl (basics x) n y:=by
  intro n
  induction n with
  | zero=>intro y _ h;exact h.elim
  | succ n ih=>
   intro y hy hs
   obtain⟨m,hm⟩:=hnf y hy
   cases m with
   | zero=>exact hm.elim
   | succ m=>exact⟨hs.1,hm.1,hm.2.1,fun hb=>List.mem_filter.2 ⟨hy,hb⟩,fun z hz=>ih z (h1 y hy z hz) (hs.2 z hz)⟩
 exact key 6 _ h2 h.2.1
structure Ds (B:List Exq) (w:Nat→Int) (σ:Nat→Nat):Prop where
 lt:∀t,σ t<2^B.length
 at_:∀t (i:Nat) (hi:i<B.length),((σ t).testBit i=true↔sat w B[i] t)
theorem Ds.ex (B:List Exq) (w:Nat→Int):∃σ,Ds B w σ:=by
 have h:∀t,∃s,s<2^B.length∧∀(i:Nat) (hi:i<B.length),(s.testBit i=true↔sat w B[i] t):=fun t=>by
  obtain⟨s,h1,h2⟩:=bits_ex (fun i=>sat w (B.getD i Exq.zero) t) B.length
  exact⟨s,h1,fun i hi=>by rw[h2 i hi];simp[hi]⟩
 exact⟨fun t=>Classical.choose (h t),fun t=>(Classical.choose_spec (h t)).1,fun t=>(Classical.choose_spec (h t)).2⟩
theorem Ds.val {B:List Exq}{w:Nat→Int}{σ:Nat→Nat}(h:Ds B w σ) (t:Nat):∀(x:Exq) {n:Nat},Cl B n x→(Fm.val B (σ t) x=true↔sat w x t):=by
 refine Exq.ind fun x ih n hc=>?_
 obtain⟨n,rfl⟩:=hc.ex
 have hs:=hc.shp
 obtain⟨hnd,hk8,h3,hbB,hkids⟩:=hc
 have hkd:=hnd.kind
 have kid:∀j,j<x.kids.length→(kv B (σ t) x j=true↔sk w x j t):=by
  intro j hj
  rw[kv_at hj,sk_at hj]
  exact ih _ (List.getElem_mem hj) (hkids _ (List.getElem_mem hj))
 by_cases hb:bas x=true
 ·obtain⟨i,hi,e1,e2⟩:=fx_mem (hbB hb)
  rw[val_bas hb,e1,has_nat,h.at_ t i hi,e2]
 have hb':¬(x.kind=2∨x.kind=6∨x.kind=7∨x.kind=8):=fun hh=>hb (decide_eq_true hh)
 rw[val_eq]
 split
 ·rename_i c;simp[sat1 c]
 split
 ·rename_i c
  rw[sat3 c,← kid 0 (by rw[hs.one (.inl c)];omega)]
  simp
 split
 ·rename_i c
  have:=hs.two (.inl c)
  rw[sat4 c,← kid 0 (by omega),← kid 1 (by omega),Bool.and_eq_true]
 split
 ·rename_i c
  have:=hs.two (.inr (.inl c))
  rw[sat5 c,← kid 0 (by omega),← kid 1 (by omega),Bool.or_eq_true]
 ·omega
def Bc (B:List Exq):Prop:=B.Nodup∧∀y∈B,Shp 6 y∧bas y=true∧∃n,Cl B n y
theorem Ds.fol {B:List Exq}{w:Nat→Int}{σ:Nat→Nat}(h:Ds B w σ) (hB:Bc B) (t:Nat):Fol B (σ t) (σ (t+1)):=by
 intro i hi
 obtain⟨_,hb,n,hc⟩:=hB.2 _ (List.getElem_mem hi)
 obtain⟨n,rfl⟩:=hc.ex
 have hs:=hc.shp
 obtain⟨hnd,hk8,h3,hbB,hkids⟩:=hc
 have hb:=of_decide_eq_true hb
 have kid:∀t j,j<B[i].kids.length→(kv B (σ t) B[i] j=true↔sk w B[i] j t):=by
  intro t j hj
  rw[kv_at hj,sk_at hj]
  exact h.val t _ (hkids _ (List.getElem_mem hj))
 have at_:=fun t=>h.at_ t i hi
 unfold got
 rw[Bool.eq_iff_iff]
 split
 ·rename_i c
  rw[at_,sat6 c,kid _ _ (by rw[hs.one (.inr (.inl c))];omega)]
 split
 ·rename_i c
  have:=hs.two (.inr (.inr (.inl c)))
  have h1:=at_ (t+1)
  rw[sat7 c] at h1
  rw[at_,sat7 c,until_step,Bool.or_eq_true,Bool.and_eq_true,kid _ _ (by omega),kid _ _ (by omega),h1]
 split
 ·rename_i c
  have:=hs.two (.inr (.inr (.inr c)))
  have h1:=at_ (t+1)
  rw[sat8 c] at h1
  rw[at_,sat8 c,release_step,Bool.and_eq_true,Bool.or_eq_true,kid _ _ (by omega),kid _ _ (by omega),h1]
 ·rfl
theorem Ds.lm {B:List Exq}{w:Nat→Int}{σ:Nat→Nat}(h:Ds B w σ) (hB:Bc B) (t:Nat):Lm B (σ t) (w t):=by
 rw[Lm_iff hB.1 fun y hy=>(hB.2 y hy).1]
 intro i hi hk
 rw[Bool.eq_iff_iff,h.at_ t i hi,sat2 hk]
theorem Ds.ful {B:List Exq}{w:Nat→Int}{σ:Nat→Nat}(h:Ds B w σ) (hB:Bc B) {u:Int}(hu:u∈unt B B.length) (t:Nat):∃v,t≤v∧Fm.ful B (σ v) u=true:=by
 obtain⟨i,rfl,hi,hk⟩:=unt_mem hu
 have e:B.getD i Exq.zero=B[i]:=by simp[hi]
 rw[e] at hk
 obtain⟨_,hb,n,hc⟩:=hB.2 _ (List.getElem_mem hi)
 obtain⟨n,rfl⟩:=hc.ex
 have hs:=hc.shp
 obtain⟨hnd,hk8,h3,hbB,hkids⟩:=hc
 have h2:=hs.two (.inr (.inr (.inl hk)))
 simp only[Fm.ful,has_nat,Int.toNat_natCast,e,Bool.or_eq_true,Bool.not_eq_true']
 cases hb2:(σ t).testBit i with
 | false=>exact⟨t,Nat.le_refl _,.inl hb2⟩
 | true=>
  have h4:=(h.at_ t i hi).1 hb2
  rw[sat7 hk] at h4
  obtain⟨v,g1,g2,_⟩:=h4
  refine⟨v,g1,.inr ?_⟩
  rw[kv_at (by omega),h.val v _ (hkids _ (List.getElem_mem (show 1<B[i].kids.length by omega))),← sk_at (by omega)]
  exact g2
noncomputable def phN (B:List Exq) (U:List Int) (σ:Nat→Nat):Nat→Int
 | 0=>0
 | t+1=>(phs B U (σ t) (phN B U σ t)).1
theorem phN_ok {B:List Exq}{U:List Int}{σ:Nat→Nat}:∀t,POk U (phN B U σ t)
 | 0=>⟨Int.le_refl _,.inr rfl⟩
 | t+1=>phs_ok (phN_ok t)
theorem phN_acc {B:List Exq}{U:List Int}{σ:Nat→Nat}(hf:∀u∈U,∀t,∃v,t≤v∧ful B (σ v) u=true) (t:Nat):∃u,t≤u∧(phs B U (σ u) (phN B U σ u)).2=true:=by
 by_cases hU:U.length=0
 ·exact⟨t,Nat.le_refl _,by rw[phs,if_pos hU]⟩
 have hstep:∀u,∃p:Nat,phN B U σ u=p∧p<U.length∧phs B U (σ u) (phN B U σ u)=if ful B (σ u) (U.getD p 0)=true then ((((p+1)%U.length:Nat):Int),decide (p=0)) else ((p:Int),false):=by
  intro u
  have hk:=phN_ok (B:=B) (U:=U) (σ:=σ) u
  obtain⟨p,hp⟩:∃p:Nat,phN B U σ u=p:=⟨(phN B U σ u).toNat,by have:=hk.1;omega⟩
  rw[hp] at hk
  have hpl:p<U.length:=by rcases hk.2 with h1 | h1<;>omega
  refine⟨p,hp,hpl,?_⟩
  rw[phs,if_neg hU,hp,Int.toNat_natCast]
  split
  ·congr 1
   simp
  ·rfl
 -- a phase is left
 have leave:∀(p:Nat) (t:Nat),phN B U σ t=p→∃u,t≤u∧phN B U σ u=p∧ful B (σ u) (U.getD p 0)=true:=by
  intro p t hp
  obtain⟨q,h1,h2,_⟩:=hstep t
  obtain rfl:p=q:=by omega
  obtain⟨v,g1,g2⟩:=hf _ (List.getElem_mem h2) t
  have hgd:U.getD p 0=U[p]:=by simp[h2]
  -- the first time
  have key:∀d t,t+d=v→phN B U σ t=p→∃u,t≤u∧phN B U σ u=p∧ful B (σ u) (U.getD p 0)=true:=by
   intro d
   induction d with
   | zero=>
    intro t ht hp
    obtain rfl:t=v:=by omega
    exact⟨t,Nat.le_refl _,hp,by rw[hgd];exact g2⟩
   | succ d ih=>
    intro t ht hp
    by_cases hfu:ful B (σ t) (U.getD p 0)=true
    ·exact⟨t,Nat.le_refl _,hp,hfu⟩
    ·obtain⟨q,k1,k2,k3⟩:=hstep t
     obtain rfl:p=q:=by omega
     rw[if_neg hfu] at k3
     obtain⟨u,k4,k5⟩:=ih (t+1) (by omega) (by rw[phN,k3])
     exact⟨u,by omega,k5⟩
  exact key (v-t) t (by omega) hp
 -- each phase comes to the first one
 have down:∀d (p:Nat) (t:Nat),p+d=U.length→p<U.length→phN B U σ t=p→∃u,t≤u∧phN B U σ u=((0:Nat):Int):=by
  intro d
  induction d with
  | zero=>intro p t h1 h2;omega
  | succ d ih=>
   intro p t h1 h2 hp
   obtain⟨u,g1,g2,g3⟩:=leave p t hp
   obtain⟨q,k1,k2,k3⟩:=hstep u
   obtain rfl:p=q:=by omega
   rw[if_pos g3] at k3
   by_cases e:p+1=U.length
   ·exact⟨u+1,by omega,by rw[phN,k3,e];simp⟩
   ·obtain⟨v,k4,k5⟩:=ih (p+1) (u+1) (by omega) (by omega) (by rw[phN,k3];simp only;rw[Nat.mod_eq_of_lt (by omega)])
    exact⟨v,by omega,k5⟩
 obtain⟨p,h1,h2,_⟩:=hstep t
 obtain⟨u,h3,h4⟩:=down (U.length-p) p t (by omega) h2 h1
 obtain⟨v,h5,h6,h7⟩:=leave 0 u h4
 obtain⟨q,k1,k2,k3⟩:=hstep v
 obtain rfl:q=0:=by omega
 rw[if_pos h7] at k3
 exact⟨v,by omega,by rw[k3];rfl⟩
theorem Ds.gd {B:List Exq}{w:Nat→Int}{σ:Nat→Nat}(h:Ds B w σ) (hB:Bc B):Gd B (unt B B.length) w σ (phN B (unt B B.length) σ):=
 ⟨h.fol hB,h.lm hB,fun _=>rfl,phN_ok,phN_acc fun _ hu=>h.ful hB hu⟩
theorem basics_bc {x:Exq}(h:bOk x):Bc (basics x):=by
 refine⟨basics_nodup,fun y hy=>⟨(basics_ok h y hy).1,(basics_ok h y hy).2,6,?_⟩⟩
 obtain⟨h1,h2,_⟩:=subs_kc _ (push x false) (Nat.le_refl _) [] (fun y hy=>by simp at hy)
 have hnf:=subs_all (P:=fun y=>∃n,Nf n y) _ (push x false) (fun y hy=>Nf.kids hy) (Nat.le_refl _) ⟨_,nf_push x h.1.1.1 false⟩ [] (fun y hy=>by simp at hy)
 have key:∀(n:Nat) (y:Exq),y∈subs (push x false) []→Shp n y→Cl (basics x) n y:=by
  intro n
  induction n with
  | zero=>intro y _ h;exact h.elim
  | succ n ih=>
   intro y hy hs
   obtain⟨m,hm⟩:=hnf y hy
   cases m with
   | zero=>exact hm.elim
   | succ m=>exact⟨hs.1,hm.1,hm.2.1,fun hb=>List.mem_filter.2 ⟨hy,hb⟩,fun z hz=>ih z (h1 y hy z hz) (hs.2 z hz)⟩
 exact key 6 _ (List.mem_filter.1 hy).1 (basics_ok h y hy).1
end Fm
structure Tgt (A:List Bool) (E:List Tr) (w:Nat→Int) (C:Nat→Nat→Prop) where
 t:Nat
 p:Nat
 u:Nat
 q:Nat
 lt:t<u
 fr:FR E w t p u q
 acc:tru A q
 mem:C u q
section
variable {A:List Bool}{E:List Tr}{w:Nat→Int}{C:Nat→Nat→Prop}
theorem Tgt.step (hG:Goes A E w C) (x:Tgt A E w C):∃y:Tgt A E w C,y.t=x.t+1∧StE E w x.t x.p y.p∧(x.t+1<x.u→y.u=x.u∧y.q=x.q)∧(x.t+1=x.u→y.p=x.q):=by
 obtain⟨t,p,u,q,h1,h2,h3,h4⟩:=x
 cases h2 with
 | refl=>omega
 | step h k=>
  rename_i p'
  by_cases e:t+1=u
  ·subst e
   have hq:p'=q:=by
    cases k with
    | refl=>rfl
    | step h k=>have:=k.le;omega
   subst hq
   obtain⟨u',q',g1,g2,g3,g4⟩:=hG _ _ h4
   exact⟨⟨t+1,p',u',q',g1,g2,g3,g4⟩,rfl,h,fun hh=>absurd hh (Nat.lt_irrefl _),fun _=>rfl⟩
  ·exact⟨⟨t+1,p',u,q,by omega,k,h3,h4⟩,rfl,h,fun _=>⟨rfl,rfl⟩,fun hh=>absurd hh e⟩
noncomputable def Tgt.seq (hG:Goes A E w C) (x:Tgt A E w C):Nat→Tgt A E w C
 | 0=>x
 | n+1=>Classical.choose (Tgt.step hG (Tgt.seq hG x n))
theorem Run.seq {t p:Nat}(h:Run A E w t p):∃ρ:Nat→Nat,ρ 0=p∧(∀n,StE E w (t+n) (ρ n) (ρ (n+1)))∧∀n,∃m,n≤m∧tru A (ρ m):=by
 obtain⟨C,hC,hG⟩:=h
 obtain⟨u,q,h1,h2,h3,h4⟩:=hG t p hC
 obtain⟨x0,hx0⟩:∃x0:Tgt A E w C,x0=⟨t,p,u,q,h1,h2,h3,h4⟩:=⟨_,rfl⟩
 have hs:∀n,(Tgt.seq hG x0 (n+1)).t=(Tgt.seq hG x0 n).t+1∧StE E w (Tgt.seq hG x0 n).t (Tgt.seq hG x0 n).p (Tgt.seq hG x0 (n+1)).p∧((Tgt.seq hG x0 n).t+1<(Tgt.seq hG x0 n).u→(Tgt.seq hG x0 (n+1)).u=(Tgt.seq hG x0 n).u∧(Tgt.seq hG x0 (n+1)).q=(Tgt.seq hG x0 n).q)∧((Tgt.seq hG x0 n).t+1=(Tgt.seq hG x0 n).u→(Tgt.seq hG x0 (n+1)).p=(Tgt.seq hG x0 n).q):=
  fun n=>Classical.choose_spec (Tgt.step hG (Tgt.seq hG x0 n))
 have ht:∀n,(Tgt.seq hG x0 n).t=t+n:=by
  intro n
  induction n with
  | zero=>show x0.t=t+0;rw[hx0];rfl
  | succ n ih=>have:=(hs n).1;omega
 refine⟨fun n=>(Tgt.seq hG x0 n).p,by show x0.p=p;rw[hx0],fun n=>by rw[← ht n];exact (hs n).2.1,fun n=>?_⟩
 have key:∀d n,(Tgt.seq hG x0 n).u=(Tgt.seq hG x0 n).t+1+d→∃m,n≤m∧tru A (Tgt.seq hG x0 m).p:=by
  intro d
  induction d with
  | zero=>
   intro n hn
   refine⟨n+1,by omega,?_⟩
   have:=(hs n).2.2.2 (by omega)
   rw[this]
   exact (Tgt.seq hG x0 n).acc
  | succ d ih=>
   intro n hn
   obtain⟨e1,e2⟩:=(hs n).2.2.1 (by omega)
   have e3:=(hs n).1
   obtain⟨m,g1,g2⟩:=ih (n+1) (by rw[e1,e3];omega)
   exact⟨m,by omega,g2⟩
 have:=(Tgt.seq hG x0 n).lt
 exact key ((Tgt.seq hG x0 n).u-((Tgt.seq hG x0 n).t+1)) n (by omega)
theorem Run.of_seq {ρ:Nat→Nat}(h1:∀n,StE E w n (ρ n) (ρ (n+1))) (h2:∀n,∃m,n≤m∧tru A (ρ m)):Run A E w 0 (ρ 0):=by
 refine⟨fun t p=>p=ρ t,rfl,?_⟩
 rintro t p rfl
 obtain⟨m,h3,h4⟩:=h2 (t+1)
 have fr:∀d t,FR E w t (ρ t) (t+d) (ρ (t+d)):=by
  intro d
  induction d with
  | zero=>intro t;exact .refl _ _
  | succ d ih=>
   intro t
   have:=ih (t+1)
   rw[show t+1+d=t+(d+1) by omega] at this
   exact .step (h1 t) this
 have:=fr (m-t) t
 rw[show t+(m-t)=m by omega] at this
 exact⟨m,ρ m,by omega,this,h4,rfl⟩
end
namespace Fm
theorem atL_mem {L:List (List Int)}{p:List Int}:∃j:Nat,atL L p=j∧(adL L p)[j]? = some p:=by
 by_cases h:p∈L
 ·rw[adL,if_pos h]
  unfold atL
  rcases hf:L.findIdx? (fun y=>decide (y=p)) with _ | i
  ·rw[List.findIdx?_eq_none_iff] at hf
   have:=hf p h
   simp at this
  ·have h2:=hf
   rw[List.findIdx?_eq_some_iff_getElem] at h2
   obtain⟨h3,h4,_⟩:=h2
   exact⟨i,rfl,by rw[List.getElem?_eq_getElem h3];simpa using h4⟩
 ·exact⟨L.length,atL_not h,by rw[adL,if_neg h];simp⟩
theorem adL_get {L:List (List Int)}{p x:List Int}{j:Nat}(h:L[j]? = some x):(adL L p)[j]? = some x:=by
 obtain⟨t,ht⟩:=adL_pre (L:=L) (p:=p)
 rw[ht,List.getElem?_append_left (List.getElem?_eq_some_iff.1 h).1]
 exact h
def eg (B:List Exq) (i s j:Nat):Tr:=⟨(i:Int),(ltc B B.length:Nat),(ltv B s B.length:Nat),(j:Int)⟩
structure TR (B:List Exq) (i s:Nat) (p:Int) (m:Nat) (q r:List (List Int)×List Tr):Prop where
 pre:∀(j:Nat) x,q.1[j]? = some x→r.1[j]? = some x
 old:∀e∈q.2,e∈r.2
 new:∀e∈r.2,e∈q.2∨∃t j:Nat,t<m∧Fol B s t∧e=eg B i s j∧r.1[j]? = some [(t:Int),p]
 all:∀t,t<m→Fol B s t→∃j:Nat,r.1[j]? = some [(t:Int),p]∧eg B i s j∈r.2
theorem trow_tr {B:List Exq}{i s:Nat}{p:Int}{q:List (List Int)×List Tr}:∀m,TR B i s p m q (trow B i s p m q)
 | 0=>⟨fun _ _ h=>h,fun _ h=>h,fun _ h=>.inl h,fun _ h=>absurd h (Nat.not_lt_zero _)⟩
 | m+1=>by
  have ih:=trow_tr (B:=B) (i:=i) (s:=s) (p:=p) (q:=q) m
  unfold trow
  simp only
  split
  ·rename_i hf
   obtain⟨j,e1,e2⟩:=atL_mem (L:=(trow B i s p m q).1) (p:=[(m:Int),p])
   have he:(⟨(i:Int),(ltc B B.length:Nat),(ltv B s B.length:Nat),atL (trow B i s p m q).1 [(m:Int),p]⟩:Tr)=eg B i s j:=by rw[e1];rfl
   rw[he]
   refine⟨fun j x h=>adL_get (ih.pre j x h),fun e h=>List.mem_append_left _ (ih.old e h),fun e h=>?_,fun t ht hft=>?_⟩
   ·rcases List.mem_append.1 h with h | h
    ·rcases ih.new e h with h | ⟨t,j,h1,h2,h3,h4⟩
     ·exact .inl h
     ·exact .inr ⟨t,j,by omega,h2,h3,adL_get h4⟩
    ·rw[List.mem_singleton] at h
     exact .inr ⟨m,j,by omega,hf,h,e2⟩
   ·by_cases e:t=m
    ·subst e
     exact⟨j,e2,by simp⟩
    ·obtain⟨j,h1,h2⟩:=ih.all t (by omega) hft
     exact⟨j,adL_get h1,List.mem_append_left _ h2⟩
  ·rename_i hf
   refine⟨ih.pre,ih.old,fun e h=>?_,fun t ht hft=>?_⟩
   ·rcases ih.new e h with h | ⟨t,j,h1,h2,h3,h4⟩
    ·exact .inl h
    ·exact .inr ⟨t,j,by omega,h2,h3,h4⟩
   ·by_cases e:t=m
    ·subst e;exact absurd hft hf
    ·exact ih.all t (by omega) hft
structure TT (B:List Exq) (U:List Int) (L0:List (List Int)) (n:Nat) (r:List (List Int)×List Bool×List Tr):Prop where
 pre:∀(j:Nat) x,L0[j]? = some x→r.1[j]? = some x
 new:∀e∈r.2.2,∃(i s:Nat) (p:Int) (t j:Nat),i<n∧r.1[i]? = some [(s:Int),p]∧Fol B s t∧e=eg B i s j∧r.1[j]? = some [(t:Int),(phs B U s p).1]
 all:∀(i s:Nat) (p:Int) (t:Nat),i<n→i<r.2.1.length→r.1[i]? = some [(s:Int),p]→t<2^B.length→Fol B s t→∃j:Nat,r.1[j]? = some [(t:Int),(phs B U s p).1]∧eg B i s j∈r.2.2
 acc:∀(i s:Nat) (p:Int),i<r.2.1.length→r.1[i]? = some [(s:Int),p]→r.2.1[i]? = some (phs B U s p).2
 le:r.2.1.length≤n
 le2:r.2.1.length≤r.1.length
theorem tN_tt {B:List Exq}{U:List Int}{L0:List (List Int)}(h0:LOk2 (2^B.length) U L0) (hl:L0.length≤2^B.length):∀n,(∀m,m<n→m<(tN B U L0 m).1.length∧(tN B U L0 m).1.length≤64)→TT B U L0 n (tN B U L0 n)
 | 0,_=>⟨fun _ _ h=>h,fun e h=>by simp[tN] at h,fun _ _ _ _ h=>absurd h (Nat.not_lt_zero _),fun _ _ _ h=>by simp[tN] at h,by simp[tN],by simp[tN]⟩
 | n+1,hgo=>by
  have ih:=tN_tt h0 hl n fun m hm=>hgo m (by omega)
  obtain⟨h1,h2⟩:=hgo n (by omega)
  have inv:=tN_inv h0 hl n
  obtain⟨s,p,e,hs,hp⟩:=inv.ok _ (List.getElem_mem h1)
  have hal:=tN_al (B:=B) (U:=U) (L0:=L0) n fun m hm=>hgo m (by omega)
  rw[tN_succ h1 h2 e]
  have I:=trow_tr (B:=B) (i:=n) (s:=s) (p:=(phs B U s p).1) (q:=((tN B U L0 n).1,(tN B U L0 n).2.2)) (2^B.length)
  have back:∀(i:Nat) x,i<(tN B U L0 n).1.length→(trow B n s (phs B U s p).1 (2^B.length) ((tN B U L0 n).1,(tN B U L0 n).2.2)).1[i]? = some x→(tN B U L0 n).1[i]? = some x:=by
   intro i x hi hx
   have:=I.pre i _ (List.getElem?_eq_getElem hi)
   rw[this] at hx
   rw[List.getElem?_eq_getElem hi];exact hx
  have hnn:(tN B U L0 n).1[n]? = some [(s:Int),p]:=by rw[List.getElem?_eq_getElem h1,e]
  have two:∀{s':Nat}{p':Int},some [(s:Int),p]=some [(s':Int),p']→s=s'∧p=p':=by
   intro s' p' h
   simp only[Option.some.injEq,List.cons.injEq,and_true] at h
   exact⟨by omega,h.2⟩
  have hge:=(trow_inv (B:=B) (U:=U) (c:=2^B.length) (s:=s) (i:=n) (p:=(phs B U s p).1) (q:=((tN B U L0 n).1,(tN B U L0 n).2.2)) inv.ok (phs_ok hp) (2^B.length) (Nat.le_refl _)).ge
  refine⟨fun j x h=>I.pre j x (ih.pre j x h),fun e' he'=>?_,fun i s' p' t hi hil hx ht hf=>?_,fun i s' p' hi hx=>?_,by simp only[List.length_append,List.length_singleton];omega,by simp only[List.length_append,List.length_singleton];simp only at hge;omega⟩
  ·rcases I.new e' he' with h | ⟨t,j,g1,g2,g3,g4⟩
   ·obtain⟨i,s',p',t,j,g1,g2,g3,g4,g5⟩:=ih.new e' h
    exact⟨i,s',p',t,j,by omega,I.pre _ _ g2,g3,g4,I.pre _ _ g5⟩
   ·exact⟨n,s,p,t,j,by omega,I.pre _ _ hnn,g2,g3,g4⟩
  ·simp only at hx
   by_cases en:i=n
   ·subst en
    rw[I.pre _ _ hnn] at hx
    obtain⟨rfl,rfl⟩:=two hx
    exact I.all t ht hf
   ·obtain⟨j,g1,g2⟩:=ih.all i s' p' t (by omega) (by omega) (back i _ (by omega) hx) ht hf
    exact⟨j,I.pre _ _ g1,I.old _ g2⟩
  ·simp only at hx hi ⊢
   simp only[List.length_append,List.length_singleton] at hi
   by_cases en:i=n
   ·subst en
    rw[I.pre _ _ hnn] at hx
    obtain⟨rfl,rfl⟩:=two hx
    rw[List.getElem?_append_right (by omega),hal]
    simp
   ·rw[List.getElem?_append_left (by omega)]
    exact ih.acc i s' p' (by omega) (back i _ (by omega) hx)
structure TF (B:List Exq) (U:List Int) (L0:List (List Int)) (r:List (List Int)×List Bool×List Tr):Prop where
 pre:∀(j:Nat) x,L0[j]? = some x→r.1[j]? = some x
 new:∀e∈r.2.2,∃(i s:Nat) (p:Int) (t j:Nat),r.1[i]? = some [(s:Int),p]∧Fol B s t∧e=eg B i s j∧r.1[j]? = some [(t:Int),(phs B U s p).1]
 all:∀(i s:Nat) (p:Int) (t:Nat),r.1[i]? = some [(s:Int),p]→t<2^B.length→Fol B s t→∃j:Nat,r.1[j]? = some [(t:Int),(phs B U s p).1]∧eg B i s j∈r.2.2
 acc:∀(i s:Nat) (p:Int),r.1[i]? = some [(s:Int),p]→r.2.1[i]? = some (phs B U s p).2
 len:r.2.1.length=r.1.length
theorem tN_mono {B:List Exq}{U:List Int}{L0:List (List Int)}(h0:LOk2 (2^B.length) U L0) (hl:L0.length≤2^B.length) (n:Nat):(tN B U L0 n).1.length≤(tN B U L0 (n+1)).1.length:=by
 by_cases hc:n<(tN B U L0 n).1.length∧(tN B U L0 n).1.length≤64
 ·have inv:=tN_inv h0 hl n
  obtain⟨s,p,e,hs,hp⟩:=inv.ok _ (List.getElem_mem hc.1)
  rw[tN_succ hc.1 hc.2 e]
  exact (trow_inv (B:=B) (U:=U) (c:=2^B.length) (s:=s) (i:=n) (p:=(phs B U s p).1) (q:=((tN B U L0 n).1,(tN B U L0 n).2.2)) inv.ok (phs_ok hp) (2^B.length) (Nat.le_refl _)).ge
 ·rw[tN_stop hc (n+1) (by omega)]
  exact Nat.le_refl _
theorem tN_mono2 {B:List Exq}{U:List Int}{L0:List (List Int)}(h0:LOk2 (2^B.length) U L0) (hl:L0.length≤2^B.length) {n m:Nat}(h:n≤m):(tN B U L0 n).1.length≤(tN B U L0 m).1.length:=by
 obtain⟨k,rfl⟩:=Nat.exists_eq_add_of_le h
 induction k with
 | zero=>exact Nat.le_refl _
 | succ k ih=>exact Nat.le_trans (ih (by omega)) (tN_mono h0 hl _)
theorem tN_tf {B:List Exq}{U:List Int}{L0:List (List Int)}(h0:LOk2 (2^B.length) U L0) (hl:L0.length≤2^B.length) (h64:(tN B U L0 64).1.length≤64):TF B U L0 (tN B U L0 64):=by
 obtain⟨K,hK⟩:∃K,K=(tN B U L0 64).1.length:=⟨_,rfl⟩
 have hgo:∀m,m<K→m<(tN B U L0 m).1.length∧(tN B U L0 m).1.length≤64:=by
  intro m hm
  have h1:=tN_mono2 h0 hl (n:=m) (m:=64) (by omega)
  refine⟨?_,by omega⟩
  apply Classical.byContradiction
  intro hno
  have:=tN_stop (B:=B) (U:=U) (L0:=L0) (n:=m) (fun hh=>hno hh.1) 64 (by omega)
  rw[this] at hK
  omega
 have hst:¬(K<(tN B U L0 K).1.length∧(tN B U L0 K).1.length≤64):=fun hh=>by
  have h1:=tN_mono2 h0 hl (n:=K) (m:=64) (by omega)
  omega
 have he:=tN_stop hst 64 (by omega)
 have T:=tN_tt h0 hl K hgo
 have hal:=tN_al (B:=B) (U:=U) (L0:=L0) K hgo
 rw[he] at hK ⊢
 have lt:∀{i:Nat}{x:List Int},(tN B U L0 K).1[i]? = some x→i<K:=fun h=>by have:=(List.getElem?_eq_some_iff.1 h).1;omega
 exact⟨T.pre,fun e h=>by
  obtain⟨i,s,p,t,j,_,g⟩:=T.new e h
  exact⟨i,s,p,t,j,g⟩,fun i s p t h=>T.all i s p t (lt h) (by have:=lt h;omega) h,fun i s p h=>T.acc i s p (by have:=lt h;omega) h,by omega⟩
theorem ini0_mem {B:List Exq}{g:Exq}:∀{n:Nat}{x:List Int},x∈ini0 B g n↔∃s:Nat,s<n∧x=[(s:Int),0]∧val B s g=true
 | 0,x=>by simp[ini0]
 | n+1,x=>by
  rw[ini0]
  split
  ·rename_i hv
   rw[List.mem_append,ini0_mem (n:=n),List.mem_singleton]
   constructor
   ·rintro (⟨s,h1,h2,h3⟩ | rfl)
    ·exact⟨s,by omega,h2,h3⟩
    ·exact⟨n,by omega,rfl,hv⟩
   ·rintro⟨s,h1,h2,h3⟩
    by_cases e:s=n
    ·subst e;exact .inr h2
    ·exact .inl ⟨s,by omega,h2,h3⟩
  ·rename_i hv
   rw[ini0_mem (n:=n)]
   constructor
   ·rintro⟨s,h1,h2,h3⟩;exact⟨s,by omega,h2,h3⟩
   ·rintro⟨s,h1,h2,h3⟩
    by_cases e:s=n
    ·subst e;exact absurd h3 hv
    ·exact⟨s,by omega,h2,h3⟩
theorem upto_mem {n:Nat}{x:Int}:x∈upto n↔∃i:Nat,i<n∧x=i:=by
 simp only[upto,List.mem_map,List.mem_range]
 constructor
 ·rintro⟨i,h,rfl⟩;exact⟨i,h,rfl⟩
 ·rintro⟨i,h,rfl⟩;exact⟨i,h,rfl⟩
theorem eg_on {B:List Exq}(hB:∀y∈B,Shp 6 y) {i s j:Nat}{L:Int}(h0:0≤L) (h7:L≤7):(eg B i s j).on L=true↔Lm B s L:=by
 obtain⟨n,rfl⟩:∃n:Nat,L=n:=⟨L.toNat,by omega⟩
 have h1:=ltc_lt hB B.length (Nat.le_refl _)
 unfold Lm Tr.on eg
 simp only
 rw[i64_and (by omega) (by omega),decide_eq_true_iff,Int.toNat_natCast]
 omega
theorem trA_lang {x:Exq}(h:trOk x) {w:Nat→Int}(hw:∀t,0≤w t∧w t≤7):(trA x).Lang w↔sat w x 0:=by
 obtain⟨hb,h64⟩:=h
 have hp:=sat_push (w:=w) x hb.1.1.1 false 0
 simp only[Bool.false_eq_true,if_false] at hp
 rw[← hp]
 have hcl:=basics_cl hb.1
 have hBc:=basics_bc hb
 obtain⟨B,hBd⟩:∃B,B=basics x:=⟨_,rfl⟩
 obtain⟨U,hU⟩:∃U,U=unt B B.length:=⟨_,rfl⟩
 obtain⟨L0,hL0⟩:∃L0,L0=ini0 B (push x false) (2^B.length):=⟨_,rfl⟩
 have T:TF B U L0 (trT x):=by
  unfold trT at h64 ⊢
  rw[← hBd,← hU,← hL0] at h64 ⊢
  exact tN_tf (hL0▸ini0_ok (Nat.le_refl _)) (hL0▸ini0_len _) h64
 have hini:(trA x).init=upto L0.length:=by unfold trA;rw[hL0,hBd]
 have hed:(trA x).edges=(trT x).2.2:=by unfold trA;simp only
 have hacc:∀{i:Nat}{y},(trT x).1[i]? = some y→(trA x).acc=(trT x).2.1:=fun {i y} hi=>by
  unfold trA
  simp only
  rw[if_neg]
  intro e
  rw[e] at hi
  simp at hi
 rw[← hBd] at hcl hBc
 have hB6:=fun y hy=>(hBc.2 y hy).1
 have two:∀{s s':Nat}{p p':Int},some [(s:Int),p]=some [(s':Int),p']→s=s'∧p=p':=by
  intro s s' p p' h
  simp only[Option.some.injEq,List.cons.injEq,and_true] at h
  exact⟨by omega,h.2⟩
 constructor
 ·rintro⟨i0,hi0,hr⟩
  rw[hini,upto_mem] at hi0
  obtain⟨i,hi,hii⟩:=hi0
  obtain rfl:i0=i:=by omega
  obtain⟨s0,hs0,hs1,hs2⟩:=ini0_mem.1 (show L0[i0]∈ini0 B (push x false) (2^B.length) by rw[← hL0];exact List.getElem_mem hi)
  have h0:=T.pre i0 _ (List.getElem?_eq_getElem hi)
  rw[hs1] at h0
  rw[hacc h0,hed] at hr
  obtain⟨ρ,r1,r2,r3⟩:=Run.seq hr
  subst r1
  -- the states of the run
  have hst:∀n,∃(s:Nat) (p:Int),(trT x).1[ρ n]? = some [(s:Int),p]:=by
   intro n
   cases n with
   | zero=>exact⟨_,_,h0⟩
   | succ n=>
    obtain⟨e,he,e1,e2,e3⟩:=r2 n
    obtain⟨i,s,p,t,j,g1,g2,g3,g4⟩:=T.new e he
    subst g3
    have:ρ (n+1)=j:=by simp only[eg] at e2;omega
    rw[this]
    exact⟨_,_,g4⟩
  obtain⟨σ,hσ⟩:∃σ:Nat→Nat,∀n,∃p:Int,(trT x).1[ρ n]? = some [(σ n:Int),p]:=⟨fun n=>Classical.choose (hst n),fun n=>Classical.choose_spec (hst n)⟩
  obtain⟨π,hπ⟩:∃π:Nat→Int,∀n,(trT x).1[ρ n]? = some [(σ n:Int),π n]:=⟨fun n=>Classical.choose (hσ n),fun n=>Classical.choose_spec (hσ n)⟩
  have hstep:∀n,Fol B (σ n) (σ (n+1))∧Lm B (σ n) (w n)∧π (n+1)=(phs B U (σ n) (π n)).1:=by
   intro n
   obtain⟨e,he,e1,e2,e3⟩:=r2 n
   obtain⟨i,s,p,t,j,g1,g2,g3,g4⟩:=T.new e he
   subst g3
   have f1:ρ n=i:=by simp only[eg] at e1;omega
   have f2:ρ (n+1)=j:=by simp only[eg] at e2;omega
   rw[← f1,hπ] at g1
   rw[← f2,hπ] at g4
   obtain⟨rfl,rfl⟩:=two g1
   obtain⟨rfl,h5⟩:=two g4
   rw[Nat.zero_add] at e3
   exact⟨g2,(eg_on hB6 (hw n).1 (hw n).2).1 e3,h5⟩
  obtain⟨rfl,hπ0⟩:=two ((hπ 0).symm.trans h0)
  have hG:Gd B U w σ π:=⟨fun n=>(hstep n).1,fun n=>(hstep n).2.1,fun n=>(hstep n).2.2,fun n=>by
   induction n with
   | zero=>rw[hπ0];exact⟨Int.le_refl _,.inr rfl⟩
   | succ n ih=>rw[(hstep n).2.2];exact phs_ok ih,fun n=>by
   obtain⟨m,g1,g2⟩:=r3 n
   refine⟨m,g1,?_⟩
   have:=T.acc _ _ _ (hπ m)
   unfold Go.Proofs.YtedbaenahnfhfaaGreat.tru at g2
   rw[List.getD_eq_getElem?_getD,this] at g2
   exact g2⟩
  rw[hU] at hG
  exact hG.sound hBc.1 hB6 _ hcl 0 hs2
 ·intro hs
  obtain⟨σ,D⟩:=Ds.ex B w
  have hG:=D.gd hBc
  rw[← hU] at hG
  obtain⟨π,hπd⟩:∃π,π=phN B U σ:=⟨_,rfl⟩
  rw[← hπd] at hG
  have hv0:val B (σ 0) (push x false)=true:=(D.val 0 _ hcl).2 hs
  have hm0:[(σ 0:Int),0]∈L0:=by rw[hL0];exact ini0_mem.2 ⟨σ 0,D.lt 0,rfl,hv0⟩
  obtain⟨i0,hi0,he0⟩:=List.mem_iff_getElem.1 hm0
  have h0:=T.pre i0 _ (List.getElem?_eq_getElem hi0)
  rw[he0] at h0
  have hπ0:π 0=0:=by rw[hπd];rfl
  -- the states are in the table
  have nxt:∀n i,(trT x).1[i]? = some [(σ n:Int),π n]→∃j:Nat,(trT x).1[j]? = some [(σ (n+1):Int),π (n+1)]∧eg B i (σ n) j∈(trT x).2.2:=by
   intro n i hi
   rw[hG.ph n]
   exact T.all i _ _ _ hi (D.lt _) (hG.fol n)
  have hex:∃ρ:Nat→Nat,ρ 0=i0∧∀n,(trT x).1[ρ n]? = some [(σ n:Int),π n]∧eg B (ρ n) (σ n) (ρ (n+1))∈(trT x).2.2:=by
   let S:=fun n=>{ i:Nat // (trT x).1[i]? = some [(σ n:Int),π n] }
   let f:∀n,S n:=fun n=>Nat.rec (motive:=S) ⟨i0,by rw[hπ0];exact h0⟩ (fun n i=>⟨Classical.choose (nxt n i.1 i.2),(Classical.choose_spec (nxt n i.1 i.2)).1⟩) n
   exact⟨fun n=>(f n).1,rfl,fun n=>⟨(f n).2,(Classical.choose_spec (nxt n (f n).1 (f n).2)).2⟩⟩
  obtain⟨ρ,g1,g2⟩:=hex
  refine⟨i0,by rw[hini,upto_mem];exact⟨i0,hi0,rfl⟩,?_⟩
  rw[hacc h0,hed,← g1]
  refine Run.of_seq (fun n=>⟨_,(g2 n).2,rfl,rfl,(eg_on hB6 (hw n).1 (hw n).2).2 (hG.lm n)⟩) fun n=>?_
  obtain⟨m,g3,g4⟩:=hG.acc n
  refine⟨m,g3,?_⟩
  unfold Go.Proofs.YtedbaenahnfhfaaGreat.tru
  rw[List.getD_eq_getElem?_getD,T.acc _ _ _ (g2 m).1]
  exact g4
end Fm
namespace Bf
abbrev SP:=List Int×List Int
def s1 (a:Int) (p:SP) (to:Int):SP:=if p.1.getD to.toNat 0 = -2 then (p.1.set to.toNat a,p.2++[to]) else p
def sF (l:List Int) (a:Int) (p:SP):SP:=l.foldl (s1 a) p
def s0 (N:Nat) (S:List Int):SP:=(S.foldl (fun f s=>f.set s.toNat (-1)) (List.replicate N (-2)),S)
def sN (next:List (List Int)) (S:List Int):Nat→SP
 | 0=>s0 next.length S
 | n+1=>if n<(sN next S n).2.length then sF (next.getD ((sN next S n).2.getD n 0).toNat []) ((sN next S n).2.getD n 0) (sN next S n) else sN next S n
theorem set_getD {l:List Int}{k j:Nat}{a:Int}(hk:k<l.length):(l.set k a).getD j 0=if k=j then a else l.getD j 0:=by
 rw[List.getD_eq_getElem?_getD,List.getElem?_set]
 split
 ·rename_i e;subst e;simp[hk]
 ·rw[List.getD_eq_getElem?_getD]
theorem set_count {l:List Int}:∀{k:Nat}(hk:k<l.length) {a b:Int},l[k]=a→a≠b→(l.set k b).count a+1=l.count a:=by
 induction l with
 | nil=>intro k hk;exact absurd hk (Nat.not_lt_zero k)
 | cons x l ih=>
  intro k hk a b h1 h2
  cases k with
  | zero=>
   simp only[List.getElem_cons_zero] at h1
   subst h1
   simp only[List.set_cons_zero,List.count_cons_self]
   rw[List.count_cons_of_ne (Ne.symm h2)]
  | succ k=>
   simp only[List.getElem_cons_succ] at h1
   have:=ih (k:=k) (by simpa using hk) h1 h2
   simp only[List.set_cons_succ,List.count_cons]
   omega
structure Le (p p':SP):Prop where
 keep:∀j:Nat,p.1.getD j 0≠-2→p'.1.getD j 0=p.1.getD j 0
 pre:∃t,p'.2=p.2++t
theorem Le.refl {p:SP}:Le p p:=⟨fun _ _=>rfl,⟨[],by simp⟩⟩
theorem Le.trans {p q r:SP}(h:Le p q) (h':Le q r):Le p r:=by
 refine⟨fun j hj=>?_,?_⟩
 ·have e:=h.keep j hj
  rw[h'.keep j (by rw[e];exact hj),e]
 ·obtain⟨t,e⟩:=h.pre
  obtain⟨t',e'⟩:=h'.pre
  exact⟨t++t',by rw[e',e,List.append_assoc]⟩
theorem Le.len {p q:SP}(h:Le p q):p.2.length≤q.2.length:=by
 obtain⟨t,e⟩:=h.pre
 rw[e];simp
theorem Le.at {p q:SP}(h:Le p q) {i:Nat}(hi:i<p.2.length):q.2.getD i 0=p.2.getD i 0:=by
 obtain⟨t,e⟩:=h.pre
 rw[e,List.getD_eq_getElem?_getD,List.getD_eq_getElem?_getD,List.getElem?_append_left hi]
structure SI (N:Nat) (S:List Int) (Ed:Int→Int→Prop) (p:SP):Prop where
 fl:p.1.length=N
 pre:∃t,p.2=S++t
 inq:∀x∈p.2,0≤x∧x<N∧p.1.getD x.toNat 0≠-2
 vis:∀j:Nat,j<N→p.1.getD j 0≠-2→(j:Int)∈p.2
 st:∀s∈S,p.1.getD s.toNat 0 = -1
 val:∀j:Nat,j<N→p.1.getD j 0 = -2∨p.1.getD j 0 = -1∨0≤p.1.getD j 0∧p.1.getD j 0<N
 par:∀q:Nat,S.length≤q→q<p.2.length→∃r:Nat,r<q∧p.1.getD (p.2.getD q 0).toNat 0=p.2.getD r 0∧Ed (p.2.getD r 0) (p.2.getD q 0)
 cnt:p.2.length+p.1.count (-2)=N
section
variable {N:Nat}{S:List Int}{Ed:Int→Int→Prop}{p:SP}
theorem SI.le (h:SI N S Ed p):p.2.length≤N:=by have:=h.cnt;omega
theorem SI.at (h:SI N S Ed p) {i:Nat}(hi:i<p.2.length):0≤p.2.getD i 0∧p.2.getD i 0<N∧p.1.getD (p.2.getD i 0).toNat 0≠-2:=by
 have e:p.2.getD i 0=p.2[i]:=by simp[hi]
 rw[e]
 exact h.inq _ (List.getElem_mem hi)
theorem SI.start {n:Nat}(hS:incr n (-1) S):SI n S Ed (s0 n S):=by
 have key:∀(T:List Int),(∀x∈T,0≤x∧x<(n:Int))→T.Pairwise (· < ·)→∀f:List Int,f.length=n→(∀x∈T,f.getD x.toNat 0 = -2) →
   (T.foldl (fun f s=>f.set s.toNat (-1)) f).length=n∧(∀j:Nat,(T.foldl (fun f s=>f.set s.toNat (-1)) f).getD j 0=if (j:Int)∈T then -1 else f.getD j 0)∧T.length+(T.foldl (fun f s=>f.set s.toNat (-1)) f).count (-2)=f.count (-2):=by
  intro T
  induction T with
  | nil=>intro _ _ f hf _;exact⟨hf,fun j=>by simp,by simp⟩
  | cons x T ih=>
   intro h1 h2 f hf h3
   obtain⟨h4,h5⟩:=List.pairwise_cons.1 h2
   have hx:=h1 x (by simp)
   obtain⟨k,rfl⟩:∃k:Nat,x=k:=⟨x.toNat,by omega⟩
   have hk:k<f.length:=by omega
   have hfk:=h3 k (by simp)
   rw[Int.toNat_natCast] at hfk
   have hge:f[k] = -2:=by rw[← hfk];simp[hk]
   obtain⟨g1,g2,g3⟩:=ih (fun y hy=>h1 y (by simp[hy])) h5 (f.set k (-1)) (by simpa using hf) (fun y hy=>by
    have:=h4 y hy
    rw[set_getD hk,if_neg (by omega)]
    exact h3 y (by simp[hy]))
   have hc:=set_count hk hge (b:=(-1:Int)) (by decide)
   refine⟨g1,fun j=>?_,?_⟩
   ·show (T.foldl _ (f.set ((k:Int)).toNat (-1))).getD j 0=_
    rw[Int.toNat_natCast,g2 j,set_getD hk]
    by_cases e1:(j:Int)∈T
    ·simp[e1]
    ·by_cases e2:k=j
     ·subst e2;simp
     ·rw[if_neg e1,if_neg e2,if_neg]
      intro hm
      rcases List.mem_cons.1 hm with hm | hm
      ·omega
      ·exact e1 hm
   ·show (T.length+1)+(T.foldl _ (f.set ((k:Int)).toNat (-1))).count (-2)=_
    rw[Int.toNat_natCast]
    omega
 have hb:∀x∈S,0≤x∧x<(n:Int):=fun x hx=>by have:=incr_mem hS x hx;omega
 have hp:=(incr_iff.1 hS).1
 obtain⟨g1,g2,g3⟩:=key S hb hp (List.replicate n (-2)) (by simp) (fun x hx=>by
  have:=hb x hx
  simp[show x.toNat<n by omega])
 have hrep:∀j,j<n→(List.replicate n (-2:Int)).getD j 0 = -2:=fun j hj=>by simp[hj]
 refine⟨g1,⟨[],by simp[s0]⟩,?_,?_,?_,?_,?_,?_⟩
 ·intro x hx
  have h1:=hb x hx
  refine⟨h1.1,h1.2,?_⟩
  show (S.foldl (fun f s=>f.set s.toNat (-1)) (List.replicate n (-2))).getD x.toNat 0≠-2
  rw[g2,if_pos (by rw[Int.toNat_of_nonneg h1.1];exact hx)]
  decide
 ·intro j hj h1
  show (j:Int)∈S
  have h2:(S.foldl (fun f s=>f.set s.toNat (-1)) (List.replicate n (-2))).getD j 0≠-2:=h1
  rw[g2] at h2
  by_cases e:(j:Int)∈S
  ·exact e
  ·rw[if_neg e,hrep j hj] at h2
   exact absurd rfl h2
 ·intro s hs
  have h1:=hb s hs
  show (S.foldl (fun f s=>f.set s.toNat (-1)) (List.replicate n (-2))).getD s.toNat 0 = -1
  rw[g2,if_pos (by rw[Int.toNat_of_nonneg h1.1];exact hs)]
 ·intro j hj
  show (S.foldl (fun f s=>f.set s.toNat (-1)) (List.replicate n (-2))).getD j 0 = -2∨(S.foldl (fun f s=>f.set s.toNat (-1)) (List.replicate n (-2))).getD j 0 = -1∨_
  rw[g2,hrep j hj]
  by_cases e:(j:Int)∈S
  ·simp[e]
  ·simp[e]
 ·intro q h1 h2
  have h3:q<S.length:=h2
  omega
 ·show S.length+(S.foldl (fun f s=>f.set s.toNat (-1)) (List.replicate n (-2))).count (-2)=n
  rw[g3,List.count_replicate_self]
theorem SI.step (h:SI N S Ed p) {i:Nat}(hi:i<p.2.length) {to:Int}(h0:0≤to) (h1:to<N) (he:Ed (p.2.getD i 0) to):SI N S Ed (s1 (p.2.getD i 0) p to)∧Le p (s1 (p.2.getD i 0) p to)∧(s1 (p.2.getD i 0) p to).1.getD to.toNat 0≠-2:=by
 obtain⟨a,ha⟩:∃a,a=p.2.getD i 0:=⟨_,rfl⟩
 have hat:=h.at hi
 rw[← ha] at hat he ⊢
 unfold s1
 split
 case isFalse e=>exact⟨h,Le.refl,e⟩
 rename_i e
 obtain⟨k,rfl⟩:∃k:Nat,to=k:=⟨to.toNat,(Int.toNat_of_nonneg h0).symm⟩
 simp only[Int.toNat_natCast] at e ⊢
 have hkN:k<p.1.length:=by rw[h.fl];omega
 have hkq:(k:Int)∉p.2:=fun hm=>by
  have:=(h.inq _ hm).2.2
  rw[Int.toNat_natCast] at this
  exact this e
 have hge:p.1[k] = -2:=by rw[← e];simp[hkN]
 obtain⟨tp,hpre⟩:=h.pre
 refine⟨⟨by simp[h.fl],⟨tp++[(k:Int)],by rw[hpre,List.append_assoc]⟩,?_,?_,?_,?_,?_,?_⟩,⟨fun j hj=>?_,⟨_,rfl⟩⟩,?_⟩
 ·intro x hx
  simp only[List.mem_append,List.mem_singleton] at hx
  simp only[set_getD hkN]
  rcases hx with hx | rfl
  ·have:=h.inq x hx
   refine⟨this.1,this.2.1,?_⟩
   split
   ·omega
   ·exact this.2.2
  ·refine⟨by omega,by omega,?_⟩
   simp;omega
 ·intro j hj h2
  simp only[set_getD hkN] at h2
  simp only[List.mem_append,List.mem_singleton]
  split at h2
  ·rename_i e2;right;omega
  ·exact .inl (h.vis j hj h2)
 ·intro s hs
  simp only[set_getD hkN]
  rw[if_neg]
  ·exact h.st s hs
  ·intro e2
   refine hkq ?_
   rw[hpre]
   have:=(h.inq s (by rw[hpre];simp[hs])).1
   have e3:(k:Int)=s:=by omega
   rw[e3];simp[hs]
 ·intro j hj
  simp only[set_getD hkN]
  split
  ·right;right;omega
  ·exact h.val j hj
 ·intro q h2 h3
  simp only[List.length_append,List.length_singleton] at h3
  by_cases hq:q<p.2.length
  ·obtain⟨r,hr,e2,e5⟩:=h.par q h2 hq
   have e3:(p.2++[(k:Int)]).getD q 0=p.2.getD q 0:=by rw[List.getD_eq_getElem?_getD,List.getElem?_append_left hq,List.getD_eq_getElem?_getD]
   have e4:(p.2++[(k:Int)]).getD r 0=p.2.getD r 0:=by rw[List.getD_eq_getElem?_getD,List.getElem?_append_left (by omega),List.getD_eq_getElem?_getD]
   refine⟨r,hr,?_⟩
   simp only[e3,e4,set_getD hkN]
   have:=h.at hq
   rw[if_neg (fun e5=>hkq (by
    have e6:p.2.getD q 0=p.2[q]:=by simp[hq]
    have e7:(k:Int)=p.2[q]:=by rw[← e6];omega
    rw[e7];exact List.getElem_mem hq))]
   exact⟨e2,e5⟩
  ·have hq2:q=p.2.length:=by omega
   subst hq2
   refine⟨i,hi,?_⟩
   have e3:(p.2++[(k:Int)]).getD p.2.length 0=k:=by simp
   have e4:(p.2++[(k:Int)]).getD i 0=a:=by rw[List.getD_eq_getElem?_getD,List.getElem?_append_left hi,← List.getD_eq_getElem?_getD,ha]
   simp only[e3,e4,set_getD hkN,Int.toNat_natCast,if_pos]
   exact⟨trivial,he⟩
 ·have h2:=h.cnt
  have h3:=set_count hkN hge (b:=a) (by omega)
  simp only[List.length_append,List.length_singleton]
  omega
 ·simp only[set_getD hkN]
  rw[if_neg]
  rintro rfl
  exact hj e
 ·simp only[set_getD hkN,if_pos]
  omega
theorem SI.fold {i:Nat}:∀{l:List Int}{p:SP},SI N S Ed p→i<p.2.length→(∀x∈l,0≤x∧x<N∧Ed (p.2.getD i 0) x)→SI N S Ed (sF l (p.2.getD i 0) p)∧Le p (sF l (p.2.getD i 0) p)∧∀x∈l,(sF l (p.2.getD i 0) p).1.getD x.toNat 0≠-2
 | [],p,h,_,_=>⟨h,Le.refl,fun x hx=>absurd hx (by simp)⟩
 | y::l,p,h,hi,hl=>by
  have hy:=hl y (by simp)
  obtain⟨h1,h2,h3⟩:=h.step hi hy.1 hy.2.1 hy.2.2
  have hi':i<(s1 (p.2.getD i 0) p y).2.length:=by have:=h2.len;omega
  have ih:=SI.fold (l:=l) h1 hi' (fun x hx=>by rw[h2.at hi];exact hl x (by simp[hx]))
  rw[h2.at hi] at ih
  obtain⟨g1,g2,g3⟩:=ih
  refine⟨g1,h2.trans g2,fun x hx=>?_⟩
  rcases List.mem_cons.1 hx with rfl | hx
  ·have:=g2.keep _ h3
   show (sF l _ _).1.getD _ _≠_
   rw[this];exact h3
  ·exact g3 x hx
end
structure NOk (next:List (List Int)):Prop where
 ent:∀l∈next,∀x∈l,0≤x∧x<next.length
def Ed (next:List (List Int)) (x y:Int):Prop:=0≤x∧x<next.length∧y∈next.getD x.toNat []
section
variable {next:List (List Int)}{S:List Int}
theorem row_mem {k:Nat}(hk:k<next.length):next.getD k []∈next:=by
 rw[List.getD_eq_getElem?_getD,List.getElem?_eq_getElem hk]
 exact List.getElem_mem hk
theorem NOk.row (hn:NOk next) {p:SP}(h:SI next.length S (Ed next) p) {i:Nat}(hi:i<p.2.length):∀x∈next.getD (p.2.getD i 0).toNat [],0≤x∧x<next.length∧Ed next (p.2.getD i 0) x:=by
 intro x hx
 have hat:=h.at hi
 have h1:=hn.ent _ (row_mem (k:=(p.2.getD i 0).toNat) (by omega)) x hx
 exact⟨h1.1,h1.2,hat.1,hat.2.1,hx⟩
theorem sN_inv (hn:NOk next) (hS:incr next.length (-1) S):∀n,SI next.length S (Ed next) (sN next S n)∧∀q:Nat,q<n→q<(sN next S n).2.length→∀x∈next.getD ((sN next S n).2.getD q 0).toNat [],(sN next S n).1.getD x.toNat 0≠-2
 | 0=>⟨SI.start hS,fun q hq=>absurd hq (Nat.not_lt_zero q)⟩
 | n+1=>by
  obtain⟨h1,h2⟩:=sN_inv hn hS n
  rw[sN]
  split
  case isFalse hlt=>exact⟨h1,fun q hq hq2=>h2 q (by omega) hq2⟩
  rename_i hlt
  obtain⟨f1,f2,f3⟩:=h1.fold hlt (hn.row h1 hlt)
  refine⟨f1,fun q hq hq2 x hx=>?_⟩
  by_cases e:q=n
  ·subst e
   rw[f2.at hlt] at hx
   exact f3 x hx
  ·by_cases hq3:q<(sN next S n).2.length
   ·rw[f2.at hq3] at hx
    have:=h2 q (by omega) hq3 x hx
    rw[f2.keep _ this]
    exact this
   ·omega
theorem sN_succ {n:Nat}(h:n<(sN next S n).2.length):sN next S (n+1)=sF (next.getD ((sN next S n).2.getD n 0).toNat []) ((sN next S n).2.getD n 0) (sN next S n):=by
 rw[sN,if_pos h]
theorem sN_stop {n:Nat}(h:(sN next S n).2.length≤n):sN next S (n+1)=sN next S n:=by
 rw[sN,if_neg (by omega)]
theorem sN_le (hn:NOk next) (hS:incr next.length (-1) S) {n m:Nat}(h:n≤m):Le (sN next S n) (sN next S m):=by
 induction m with
 | zero=>have:n=0:=by omega
         subst this;exact Le.refl
 | succ m ih=>
  by_cases e:n=m+1
  ·subst e;exact Le.refl
  refine (ih (by omega)).trans ?_
  have hi:=(sN_inv hn hS m).1
  by_cases hlt:m<(sN next S m).2.length
  ·rw[sN_succ hlt]
   exact (hi.fold hlt (hn.row hi hlt)).2.1
  ·rw[sN_stop (by omega)];exact Le.refl
theorem sN_fix {n m:Nat}(h:(sN next S n).2.length≤n) (hm:n≤m):sN next S m=sN next S n:=by
 induction m with
 | zero=>have:n=0:=by omega
         subst this;rfl
 | succ m ih=>
  by_cases e:n=m+1
  ·subst e;rfl
  have:=ih (by omega)
  rw[sN_stop (by rw[this];omega),this]
def fin (next:List (List Int)) (S:List Int):SP:=sN next S next.length
theorem sN_fin (hn:NOk next) (hS:incr next.length (-1) S) (n:Nat):Le (sN next S n) (fin next S):=by
 by_cases e:n≤next.length
 ·exact sN_le hn hS e
 ·have:=sN_fix (sN_inv hn hS next.length).1.le (show next.length≤n by omega)
  unfold fin
  rw[this];exact Le.refl
theorem fin_mem (hn:NOk next) (hS:incr next.length (-1) S) {E:Nat→Nat→Prop}(hE:∀x y:Nat,E x y↔x<next.length∧(y:Int)∈next.getD x []) {t:Nat}:(t:Int)∈(fin next S).2↔∃s:Nat,(s:Int)∈S∧Rch E s t:=by
 obtain⟨h1,h2⟩:=sN_inv hn hS next.length
 have hle:=h1.le
 unfold fin
 generalize sN next S next.length=p at *
 obtain⟨tp,hpre⟩:=h1.pre
 constructor
 ·intro ht
  have:∀q,q<p.2.length→∃s:Nat,(s:Int)∈S∧Rch E s (p.2.getD q 0).toNat:=by
   intro q
   induction q using Nat.strongRecOn with
   | _ q ih=>
    intro hq
    have hat:=h1.at hq
    by_cases e:q<S.length
    ·refine⟨(p.2.getD q 0).toNat,?_,.refl _⟩
     rw[Int.toNat_of_nonneg hat.1,hpre,List.getD_eq_getElem?_getD,List.getElem?_append_left e,List.getElem?_eq_getElem e]
     exact List.getElem_mem e
    ·obtain⟨r,hr,_,e2,e3,e4⟩:=h1.par q (by omega) hq
     obtain⟨s,g1,g2⟩:=ih r hr (by omega)
     refine⟨s,g1,g2.snoc ((hE _ _).2 ⟨by omega,?_⟩)⟩
     rw[Int.toNat_of_nonneg hat.1]
     exact e4
  obtain⟨q,hq,e⟩:=List.mem_iff_getElem.1 ht
  obtain⟨s,g1,g2⟩:=this q hq
  have e2:p.2.getD q 0=p.2[q]:=by simp[hq]
  rw[e2,e,Int.toNat_natCast] at g2
  exact⟨s,g1,g2⟩
 ·rintro⟨s,hs,hr⟩
  refine hr.closed (C:=fun x=>(x:Int)∈p.2) ?_ (by rw[hpre];simp[hs])
  intro x y hx hxy
  obtain⟨g1,g2⟩:=(hE x y).1 hxy
  obtain⟨q,hq,e⟩:=List.mem_iff_getElem.1 hx
  have e2:p.2.getD q 0=p.2[q]:=by simp[hq]
  have h3:=h2 q (by omega) hq y (by rw[e2,e,Int.toNat_natCast];exact g2)
  have h4:=hn.ent _ (row_mem g1) _ g2
  rw[Int.toNat_natCast] at h3
  exact h1.vis y (by omega) h3
end
inductive Chn (f:List Int):Int→List Int→Prop where
 | z:Chn f (-1) []
 | s {a:Int}{l:List Int}:0≤a→a<f.length→Chn f (f.getD a.toNat 0) l→Chn f a (l++[a])
theorem Chn.neg {f:List Int}{l:List Int}(h:Chn f (-1) l):l=[]:=by
 generalize hx:(-1:Int)=x at h
 cases h with
 | z=>rfl
 | s h0 _ _=>omega
theorem Chn.un {f:List Int}{a:Int}{l:List Int}(h:Chn f a l) (h0:0≤a):∃l',l=l'++[a]∧a<f.length∧Chn f (f.getD a.toNat 0) l':=by
 cases h with
 | z=>omega
 | s h1 h2 h3=>exact⟨_,rfl,h2,h3⟩
theorem Chn.ge {f:List Int}{a:Int}{l:List Int}(h:Chn f a l):-1≤a:=by
 cases h with
 | z=>decide
 | s h1 _ _=>omega
theorem Chn.det {f:List Int}{a:Int}{l:List Int}(h:Chn f a l):∀{l'},Chn f a l'→l=l':=by
 induction h with
 | z=>exact fun h'=>h'.neg.symm
 | s h1 h2 h3 ih=>
  intro l' h'
  obtain⟨l2,rfl,_,h4⟩:=h'.un h1
  rw[ih h4]
theorem Chn.le {p p':SP}(hb:Le p p') (hl:p.1.length=p'.1.length) {a:Int}{l:List Int}(h:Chn p.1 a l):Chn p'.1 a l:=by
 induction h with
 | z=>exact .z
 | s h1 h2 h3 ih=>
  refine .s h1 (by omega) ?_
  have:=h3.ge
  rw[hb.keep _ (by omega)]
  exact ih
theorem Chn.all {f:List Int}{a:Int}{l:List Int}(h:Chn f a l):∀x∈l,0≤x∧x<f.length:=by
 induction h with
 | z=>simp
 | s h1 h2 h3 ih=>
  intro x hx
  simp only[List.mem_append,List.mem_singleton] at hx
  rcases hx with hx | rfl
  ·exact ih x hx
  ·exact⟨h1,h2⟩
inductive Pth (S:List Int) (Ed:Int→Int→Prop):Int→List Int→Prop
 | one {s:Int}(h:s∈S):Pth S Ed s [s]
 | snoc {x y:Int}{l:List Int}(h:Pth S Ed x l) (e:Ed x y):Pth S Ed y (l++[y])
theorem SI.chn {N:Nat}{S:List Int}{Ed:Int→Int→Prop}{p:SP}(h:SI N S Ed p):∀(q:Nat),q<p.2.length→∃l,Chn p.1 (p.2.getD q 0) l∧l.length≤q+1∧Pth S Ed (p.2.getD q 0) l:=by
 intro q
 induction q using Nat.strongRecOn with
 | _ q ih=>
  intro hq
  have hat:=h.at hq
  obtain⟨tp,hpre⟩:=h.pre
  by_cases e:q<S.length
  ·have hm:p.2.getD q 0∈S:=by
    rw[hpre,List.getD_eq_getElem?_getD,List.getElem?_append_left e,List.getElem?_eq_getElem e]
    exact List.getElem_mem e
   refine⟨[]++[p.2.getD q 0],.s hat.1 (by rw[h.fl];exact hat.2.1) ?_,by simp,.one hm⟩
   rw[h.st _ hm]
   exact .z
  ·obtain⟨r,hr,e1,e2⟩:=h.par q (by omega) hq
   obtain⟨l,h1,h2,h3⟩:=ih r hr (by omega)
   exact⟨l++[p.2.getD q 0],.s hat.1 (by rw[h.fl];exact hat.2.1) (by rw[e1];exact h1),by simp;omega,.snoc h3 e2⟩
noncomputable def path (next:List (List Int)) (S:List Int) (a:Int):List Int:=open Classical in if h:∃l,Chn (fin next S).1 a l then h.choose else []
theorem path_eq {next:List (List Int)}{S:List Int}(hn:NOk next) (hS:incr next.length (-1) S) {n:Nat}{a:Int}{l:List Int}(h:Chn (sN next S n).1 a l):path next S a=l:=by
 have h2:=h.le (sN_fin hn hS n) (by rw[(sN_inv hn hS n).1.fl];exact (sN_inv hn hS next.length).1.fl.symm)
 unfold path
 rw[dif_pos ⟨l,h2⟩]
 exact (Exists.choose_spec (⟨l,h2⟩:∃l,Chn (fin next S).1 a l)).det h2
theorem path_ok {next:List (List Int)}{S:List Int}(hn:NOk next) (hS:incr next.length (-1) S) {a:Int}(ha:a∈(fin next S).2):Chn (fin next S).1 a (path next S a)∧(path next S a).length≤next.length∧Pth S (Ed next) a (path next S a):=by
 have h1:=(sN_inv hn hS next.length).1
 obtain⟨q,hq,e⟩:=List.mem_iff_getElem.1 ha
 obtain⟨l,g1,g2,g3⟩:=h1.chn q hq
 have e2:(sN next S next.length).2.getD q 0=a:=by
  have e3:(fin next S).2.getD q 0=a:=by
   rw[List.getD_eq_getElem?_getD,List.getElem?_eq_getElem hq]
   exact e
  exact e3
 rw[e2] at g1 g3
 have:=path_eq hn hS g1
 have hle:=h1.le
 have hq':q<(sN next S next.length).2.length:=hq
 rw[this]
 exact⟨g1,by omega,g3⟩
end Bf
section
variable {l:Las}
theorem Las.pos_stem {t:Nat}(h:t<l.size):l.pos t=t:=by
 induction t with
 | zero=>rfl
 | succ t ih=>
  rw[Las.pos,ih (by omega),Las.nx,if_neg (by omega)]
theorem mod_succ {j L:Nat}(hL:0<L):(j+1)%L=if j%L+1=L then 0 else j%L+1:=by
 have h:=Nat.mod_lt j hL
 rw[← Nat.mod_add_mod]
 split
 ·rename_i e;rw[e,Nat.mod_self]
 ·exact Nat.mod_eq_of_lt (by omega)
theorem Las.pos_loop (hl:1≤l.loop.length):∀j:Nat,l.pos (l.stem.length+j)=l.stem.length+j%l.loop.length
 | 0=>by
  rw[Nat.zero_mod,Nat.add_zero]
  exact Las.pos_stem (by unfold Las.size;omega)
 | j+1=>by
  have ih:=Las.pos_loop hl j
  have h:=Nat.mod_lt j (show 0<l.loop.length by omega)
  rw[← Nat.add_assoc,Las.pos,ih,Las.nx,mod_succ (by omega)]
  unfold Las.size
  by_cases e:j%l.loop.length+1=l.loop.length
  ·rw[if_pos (by omega),if_pos e];rfl
  ·rw[if_neg (by omega),if_neg e];omega
theorem Las.word_stem {t:Nat}(h:t<l.stem.length):l.word t=l.stem[t]:=by
 unfold Las.word
 rw[Las.pos_stem (by unfold Las.size;omega)]
 unfold Las.all
 rw[List.getD_eq_getElem?_getD,List.getElem?_append_left h,List.getElem?_eq_getElem h]
 rfl
theorem Las.word_loop (hl:1≤l.loop.length) (j:Nat):l.word (l.stem.length+j)=l.loop[j%l.loop.length]'(Nat.mod_lt _ (by omega)):=by
 have h:=Nat.mod_lt j (show 0<l.loop.length by omega)
 unfold Las.word
 rw[Las.pos_loop hl]
 unfold Las.all
 rw[List.getD_eq_getElem?_getD,List.getElem?_append_right (by omega),Nat.add_sub_cancel_left,List.getElem?_eq_getElem h]
 rfl
end
inductive LP (E:List Tr):Nat→List Int→Nat→Prop
 | nil (p:Nat):LP E p [] p
 | cons {p q r:Nat}{x:Int}{xs:List Int}(h:∃e∈E,e.frm=p∧e.to=q∧e.on x=true) (k:LP E q xs r):LP E p (x::xs) r
section
variable {E:List Tr}
theorem LP.append {p q r:Nat}{xs ys:List Int}(h:LP E p xs q) (k:LP E q ys r):LP E p (xs++ys) r:=by
 induction h with
 | nil=>exact k
 | cons h _ ih=>exact .cons h (ih k)
theorem LP.fr {w:Nat→Int}{p q:Nat}{xs:List Int}(h:LP E p xs q):∀{t:Nat},(∀i (hi:i<xs.length),w (t+i)=xs[i])→FR E w t p (t+xs.length) q:=by
 induction h with
 | nil=>intro t _;exact .refl _ _
 | cons h k ih=>
  rename_i x xs
  intro t hw
  have h1:=ih (t:=t+1) (fun i hi=>by
   have:=hw (i+1) (by simpa using hi)
   rw[show t+(i+1)=t+1+i by omega] at this
   simpa using this)
  obtain⟨e,he,h2,h3,h4⟩:=h
  have h5:=hw 0 (by simp)
  simp only[Nat.add_zero,List.getElem_cons_zero] at h5
  rw[List.length_cons,show t+(xs.length+1)=t+1+xs.length by omega]
  exact .step ⟨e,he,h2,h3,by rw[h5];exact h4⟩ h1
end
theorem lasso_lang {a:Aut}{l:Las}(hl:1≤l.loop.length) {s x:Nat}(hs:(s:Int)∈a.init) (h1:LP a.edges s l.stem x) (h2:LP a.edges x l.loop x) (hx:tru a.acc x):a.Lang l.word:=by
 have f1:=h1.fr (w:=l.word) (t:=0) (fun i hi=>by rw[Nat.zero_add];exact Las.word_stem hi)
 rw[Nat.zero_add] at f1
 refine⟨s,hs,Run.before f1 ⟨fun t p=>p=x∧∃k,t=l.stem.length+k*l.loop.length,⟨rfl,0,by omega⟩,?_⟩⟩
 rintro t p ⟨rfl,k,rfl⟩
 refine⟨l.stem.length+k*l.loop.length+l.loop.length,p,by omega,h2.fr (fun i hi=>?_),hx,rfl,k+1,by rw[Nat.add_mul];omega⟩
 rw[Nat.add_assoc,Las.word_loop hl]
 congr 1
 rw[Nat.mul_add_mod',Nat.mod_eq_of_lt hi]
namespace Bf
def row (a:Aut) (q:Int) (k:Nat):List Int:=((a.edges.take k).filter fun e=>decide (e.frm=q)).map Tr.to
def NX (a:Aut) (k:Nat):List (List Int):=(List.range a.acc.length).map fun (q:Nat)=>row a q k
def nx (a:Aut):List (List Int):=NX a a.edges.length
section
variable {a:Aut}
theorem NX_len {k:Nat}:(NX a k).length=a.acc.length:=by simp[NX]
theorem nx_len:(nx a).length=a.acc.length:=NX_len
theorem NX_at {k q:Nat}(hq:q<a.acc.length):(NX a k)[q]'(by rw[NX_len];exact hq)=row a q k:=by simp[NX]
theorem nx_getD {q:Nat}(hq:q<a.acc.length):(nx a).getD q []=row a q a.edges.length:=by
 rw[List.getD_eq_getElem?_getD,List.getElem?_eq_getElem (by rw[nx_len];exact hq)]
 exact NX_at hq
theorem row_mem' {q x:Int}:x∈row a q a.edges.length↔∃e∈a.edges,e.frm=q∧e.to=x:=by
 unfold row
 rw[List.take_length,List.mem_map]
 constructor
 ·rintro⟨e,he,rfl⟩
  obtain⟨h1,h2⟩:=List.mem_filter.1 he
  exact⟨e,h1,by simpa using h2,rfl⟩
 ·rintro⟨e,he,h1,rfl⟩
  exact⟨e,List.mem_filter.2 ⟨he,by simpa using h1⟩,rfl⟩
theorem nx_E (ha:a.Ok) (x y:Nat):a.E x y↔x<(nx a).length∧(y:Int)∈(nx a).getD x []:=by
 rw[nx_len]
 constructor
 ·rintro⟨e,he,h1,h2⟩
  have:=(Aut.E_lt ha x y ⟨e,he,h1,h2⟩).1
  exact⟨this,by rw[nx_getD this,row_mem'];exact⟨e,he,h1,h2⟩⟩
 ·rintro⟨h1,h2⟩
  rw[nx_getD h1,row_mem'] at h2
  exact h2
theorem nx_ok (ha:a.Ok):NOk (nx a):=by
 refine⟨fun l hl x hx=>?_⟩
 obtain⟨q,hq,rfl⟩:=List.mem_iff_getElem.1 hl
 rw[nx_len] at hq ⊢
 have h1:x∈row a q a.edges.length:=by rw[← NX_at hq];exact hx
 obtain⟨e,he,_,rfl⟩:=row_mem'.1 h1
 obtain⟨f,g,_,h3,_,h4⟩:=ha.tr he
 omega
theorem nx_Ed (ha:a.Ok) {x y:Int}:Ed (nx a) x y↔∃e∈a.edges,e.frm=x∧e.to=y:=by
 unfold Ed
 rw[nx_len]
 constructor
 ·rintro⟨h1,h2,h3⟩
  rw[nx_getD (by omega),row_mem',Int.toNat_of_nonneg h1] at h3
  exact h3
 ·rintro⟨e,he,h1,h2⟩
  obtain⟨f,g,h3,h4,h5,h6⟩:=ha.tr he
  refine⟨by omega,by omega,?_⟩
  rw[nx_getD (by omega),row_mem',Int.toNat_of_nonneg (by omega)]
  exact⟨e,he,h1,h2⟩
end
def ev (a:Aut) (p q:Int):Int:=match a.edges.find? (fun e=>decide (e.frm=p∧e.to=q)) with
 | some e=>e.value
 | none=>0
def vals (a:Aut):List Int→List Int
 | p::q::l=>ev a p q::vals a (q::l)
 | _=>[]
theorem vals_snoc {a:Aut}:∀{l:List Int}{p q:Int},vals a (l++[p]++[q])=vals a (l++[p])++[ev a p q]
 | [],p,q=>by simp[vals]
 | [x],p,q=>by simp[vals]
 | x::y::l,p,q=>by
  have:=vals_snoc (a:=a) (l:=y::l) (p:=p) (q:=q)
  simp only[List.cons_append,vals] at this ⊢
  rw[this]
theorem vals_len {a:Aut}:∀{l:List Int},(vals a l).length=l.length-1
 | []=>rfl
 | [x]=>rfl
 | x::y::l=>by
  have:=vals_len (a:=a) (l:=y::l)
  simp only[vals,List.length_cons] at this ⊢
  omega
theorem andI_le {v c:Int}(h0:0≤c) (h1:c<4294967296):andI .i64 v c≤c:=by
 obtain⟨n,rfl⟩:∃n:Nat,c=n:=⟨c.toNat,by omega⟩
 unfold andI
 have h2:(BitVec.ofInt IntKind.i64.bits v&&&BitVec.ofInt IntKind.i64.bits (n:Int)).toNat≤n:=by
  rw[BitVec.toNat_and]
  refine Nat.le_trans Nat.and_le_right ?_
  have:(BitVec.ofInt IntKind.i64.bits (n:Int)).toNat=n%2^IntKind.i64.bits:=by simp
  rw[this]
  exact Nat.mod_le _ _
 generalize (BitVec.ofInt IntKind.i64.bits v&&&BitVec.ofInt IntKind.i64.bits (n:Int)).toNat=m at *
 have:IntKind.i64.wrap (m:Int)=m:=by
  have:IntKind.i64.wrap (m:Int)=if (m:Int)%18446744073709551616≥9223372036854775808 then (m:Int)%18446744073709551616-18446744073709551616 else (m:Int)%18446744073709551616:=by
   simp[IntKind.wrap,IntKind.signed,IntKind.bits]
  rw[this]
  split<;>omega
 rw[this]
 omega
theorem ev_ok {a:Aut}(ha:a.Ok) {p q:Int}(h:∃e∈a.edges,e.frm=p∧e.to=q):∃e∈a.edges,e.frm=p∧e.to=q∧ev a p q=e.value∧e.on (ev a p q)=true∧0≤ev a p q∧ev a p q≤7:=by
 obtain⟨e,he,h1,h2⟩:=h
 cases hf:a.edges.find? (fun e=>decide (e.frm=p∧e.to=q)) with
 | none=>
  rw[List.find?_eq_none] at hf
  have:=hf e he
  simp[h1,h2] at this
 | some f=>
  have h3:=List.find?_some hf
  have h4:=List.mem_of_find?_eq_some hf
  simp only[decide_eq_true_eq] at h3
  have h5:ev a p q=f.value:=by unfold ev;rw[hf]
  have h6:=ha.2.2.2 f h4
  unfold Tr.Ok at h6
  refine⟨f,h4,h3.1,h3.2,h5,?_,by omega,?_⟩
  ·rw[h5,Tr.on,decide_eq_true_eq]
   exact h6.2.2.2.2.2.2.2
  ·rw[h5,← h6.2.2.2.2.2.2.2]
   exact Int.le_trans (andI_le (by omega) (by omega)) (show f.care≤7 by omega)
end Bf
theorem c_Clone_int {h:Heap}{a:Value}{x:List Int}(Ra:Rep h a x) (hs:x.length≤1073741824):CallE Tryz.prog fn_slices_Clone_S_int_int [a] h (fun v h'=>HS h [ow v x] h'):=by
 refine CallE.gen fun k hk=>EN_slices_Clone_S_int_int rfl ?_
 obtain⟨b,hb,hb2⟩:=Ra.isNil
 simp -implicitDefEqProofs (disch:=first|omega|(simp only[LnZ];omega))[wrap64,hb]
 refine IteW.mk (fun h1=>?_) (fun h1=>?_)
 ·simp -implicitDefEqProofs (disch:=omega)[wrap64]
  have h2:x=[]:=hb2 h1
  subst h2
  exact RetK.keep (hk _ _ HS.init.nil_ow)
 ·simp -implicitDefEqProofs (disch:=omega)[wrap64]
  refine HS.init.appPL (α:=Int) (l2:=x) (u:=a) rfl rfl Ra rfl rfl (by omega) fun v h1 H=>?_
  simp -implicitDefEqProofs (disch:=omega)[wrap64]
  exact RetK.keep (hk _ _ H)
theorem c_Clip_int {g h:Heap}{Γ:List HP}{a:Value}{x:List Int}(H:HS g (ow a x::Γ) h):CallE Tryz.prog fn_slices_Clip_S_int_int [a] h (fun v h'=>HS g (ow v x::Γ) h'):=by
 refine CallE.gen fun k hk=>EN_slices_Clip_S_int_int rfl ?_
 obtain⟨v',h1,h2⟩:=H.clip (esz:=1) (k:=.i64)
 simp -implicitDefEqProofs (disch:=first|omega|(simp only[LnZ];omega))[wrap64,H.rep.I,h1]
 exact RetK.keep (hk _ _ h2)
theorem c_clone_int {h:Heap}{a:Value}{x:List Int}(Ra:Rep h a x) (hs:x.length≤1073741824):CallE Tryz.prog fn_impl_clone_int [a] h (fun v h'=>HS h [ow v x] h'):=by
 refine CallE.gen fun k hk=>EN_impl_clone_int rfl ?_
 simp -implicitDefEqProofs (disch:=omega)[wrap64]
 refine (c_Clone_int Ra hs).go ?_
 intro v h1 H
 simp -implicitDefEqProofs (disch:=omega)[wrap64]
 refine (c_Clip_int H).go ?_
 intro v' h2 H
 simp -implicitDefEqProofs (disch:=omega)[wrap64]
 exact RetK.keep (hk _ _ H)
theorem c_Clone_bool {h:Heap}{a:Value}{x:List Bool}(Ra:Rep h a x) (hs:x.length≤1073741824):CallE Tryz.prog fn_slices_Clone_S_bool_bool [a] h (fun v h'=>HS h [ow v x] h'):=by
 refine CallE.gen fun k hk=>EN_slices_Clone_S_bool_bool rfl ?_
 obtain⟨b,hb,hb2⟩:=Ra.isNil
 simp -implicitDefEqProofs (disch:=first|omega|(simp only[LnZ];omega))[wrap64,hb]
 refine IteW.mk (fun h1=>?_) (fun h1=>?_)
 ·simp -implicitDefEqProofs (disch:=omega)[wrap64]
  have h2:x=[]:=hb2 h1
  subst h2
  exact RetK.keep (hk _ _ HS.init.nil_ow)
 ·simp -implicitDefEqProofs (disch:=omega)[wrap64]
  refine HS.init.appPL (α:=Bool) (l2:=x) (u:=a) rfl rfl Ra rfl rfl (by omega) fun v h1 H=>?_
  simp -implicitDefEqProofs (disch:=omega)[wrap64]
  exact RetK.keep (hk _ _ H)
theorem c_Clip_bool {g h:Heap}{Γ:List HP}{a:Value}{x:List Bool}(H:HS g (ow a x::Γ) h):CallE Tryz.prog fn_slices_Clip_S_bool_bool [a] h (fun v h'=>HS g (ow v x::Γ) h'):=by
 refine CallE.gen fun k hk=>EN_slices_Clip_S_bool_bool rfl ?_
 obtain⟨v',h1,h2⟩:=H.clip (esz:=1) (k:=.i64)
 simp -implicitDefEqProofs (disch:=first|omega|(simp only[LnZ];omega))[wrap64,H.rep.B,h1]
 exact RetK.keep (hk _ _ h2)
theorem c_clone_bool {h:Heap}{a:Value}{x:List Bool}(Ra:Rep h a x) (hs:x.length≤1073741824):CallE Tryz.prog fn_impl_clone_bool [a] h (fun v h'=>HS h [ow v x] h'):=by
 refine CallE.gen fun k hk=>EN_impl_clone_bool rfl ?_
 simp -implicitDefEqProofs (disch:=omega)[wrap64]
 refine (c_Clone_bool Ra hs).go ?_
 intro v h1 H
 simp -implicitDefEqProofs (disch:=omega)[wrap64]
 refine (c_Clip_bool H).go ?_
 intro v' h2 H
 simp -implicitDefEqProofs (disch:=omega)[wrap64]
 exact RetK.keep (hk _ _ H)
theorem c_Clone_impl_Transition {h:Heap}{a:Value}{x:List Tr}(Ra:Rep h a x) (hs:x.length≤1073741824):CallE Tryz.prog fn_slices_Clone_S_impl_Transition_impl_Transition [a] h (fun v h'=>HS h [ow v x] h'):=by
 refine CallE.gen fun k hk=>EN_slices_Clone_S_impl_Transition_impl_Transition rfl ?_
 obtain⟨b,hb,hb2⟩:=Ra.isNil
 simp -implicitDefEqProofs (disch:=first|omega|(simp only[LnZ];omega))[wrap64,hb]
 refine IteW.mk (fun h1=>?_) (fun h1=>?_)
 ·simp -implicitDefEqProofs (disch:=omega)[wrap64]
  have h2:x=[]:=hb2 h1
  subst h2
  exact RetK.keep (hk _ _ HS.init.nil_ow)
 ·simp -implicitDefEqProofs (disch:=omega)[wrap64]
  refine HS.init.appPL (α:=Tr) (l2:=x) (u:=a) rfl rfl Ra rfl rfl (by omega) fun v h1 H=>?_
  simp -implicitDefEqProofs (disch:=omega)[wrap64]
  exact RetK.keep (hk _ _ H)
theorem c_Clip_impl_Transition {g h:Heap}{Γ:List HP}{a:Value}{x:List Tr}(H:HS g (ow a x::Γ) h):CallE Tryz.prog fn_slices_Clip_S_impl_Transition_impl_Transition [a] h (fun v h'=>HS g (ow v x::Γ) h'):=by
 refine CallE.gen fun k hk=>EN_slices_Clip_S_impl_Transition_impl_Transition rfl ?_
 obtain⟨v',h1,h2⟩:=H.clip (esz:=4) (k:=.i64)
 simp -implicitDefEqProofs (disch:=first|omega|(simp only[LnZ];omega))[wrap64,H.rep.xTr,h1]
 exact RetK.keep (hk _ _ h2)
theorem c_clone_impl_Transition {h:Heap}{a:Value}{x:List Tr}(Ra:Rep h a x) (hs:x.length≤1073741824):CallE Tryz.prog fn_impl_clone_impl_Transition [a] h (fun v h'=>HS h [ow v x] h'):=by
 refine CallE.gen fun k hk=>EN_impl_clone_impl_Transition rfl ?_
 simp -implicitDefEqProofs (disch:=omega)[wrap64]
 refine (c_Clone_impl_Transition Ra hs).go ?_
 intro v h1 H
 simp -implicitDefEqProofs (disch:=omega)[wrap64]
 refine (c_Clip_impl_Transition H).go ?_
 intro v' h2 H
 simp -implicitDefEqProofs (disch:=omega)[wrap64]
 exact RetK.keep (hk _ _ H)
theorem c_IndexFunc_impl_Transition {h:Heap}{a fv:Value}{x:List Tr}(Ra:Rep h a x) {f:FuncId}{c1 c2:List Value}(hf:fnOf fv=some (f,c1,c2)) (p:Tr→Bool)
  (hp:∀h1,h.le h1→∀(i:Nat) (hi:i<x.length) (u:Value),Rep h1 u x[i]→CallE Tryz.prog f (c1++u::c2) h1 (fun v h'=>h1.le h'∧v=.bool (p x[i]))) :
  CallE Tryz.prog fn_slices_IndexFunc_S_impl_Transition_impl_Transition [a,fv] h (fun v h'=>h.le h'∧v=.int .i64 (match x.findIdx? p with | some i=>(i:Int) | none=>-1)):=by
 refine CallE.gen fun k hk=>EN_slices_IndexFunc_S_impl_Transition_impl_Transition rfl ?_
 have hL:=Ra.lt
 simp -implicitDefEqProofs (disch:=first|omega|(simp only[LnZ];omega))[wrap64,Ra.len]
 refine wp_count x.length (fun i e h'=>e=[some a,some fv,none,none,some (.int .i64 x.length),some (.int .i64 i)]∧h.le h'∧∀(j:Nat) (hj:j<x.length),j<i→p x[j]=false) ⟨rfl,Heap.le.refl h,fun j _ hj=>absurd hj (Nat.not_lt_zero j)⟩ ?_
 rintro J i _ h1 hJ hi ⟨rfl,hl,hn⟩
 simp -implicitDefEqProofs (disch:=omega)[wrap64]
 refine IteW.mk (fun hlt=>?_) (fun hge=>?_)
 ·have hlx:i<x.length:=by omega
  obtain⟨u,hu,Ru⟩:=(Ra.le hl).ld hlx
  change hload _ (some (elp 4 a i)) (some 4)=some u at hu
  simp -implicitDefEqProofs (disch:=first|omega|(simp only[LnZ];omega))[wrap64,(Ra.le hl).X (n:=4) rfl,hu,hf]
  refine (hp h1 hl i hlx u Ru).go ?_
  rintro _ h2 ⟨hl2,rfl⟩
  simp -implicitDefEqProofs (disch:=omega)[wrap64]
  refine IteW.mk (fun hq=>?_) (fun hq=>?_)
  ·simp -implicitDefEqProofs (disch:=omega)[wrap64]
   refine RetK.keep (hk _ _ ⟨hl.trans hl2,?_⟩)
   have h3:x.findIdx? p=some i:=by
    rw[List.findIdx?_eq_some_iff_getElem]
    exact⟨hlx,hq,fun j hj=>by rw[hn j (by omega) hj];simp⟩
   rw[h3]
  ·simp -implicitDefEqProofs (disch:=omega)[wrap64]
   refine hJ _ _ hlx ⟨rfl,hl.trans hl2,fun j hj hji=>?_⟩
   by_cases hji2:j=i
   ·subst hji2;simpa using hq
   ·exact hn j hj (by omega)
 ·simp -implicitDefEqProofs (disch:=omega)[wrap64]
  refine RetK.keep (hk _ _ ⟨hl,?_⟩)
  have h3:x.findIdx? p=none:=by
   rw[List.findIdx?_eq_none_iff]
   intro y hy
   obtain⟨j,hj,rfl⟩:=List.mem_iff_getElem.1 hy
   exact hn j hj (by omega)
  rw[h3]
theorem c_ContainsFunc_impl_Transition {h:Heap}{a fv:Value}{x:List Tr}(Ra:Rep h a x) {f:FuncId}{c1 c2:List Value}(hf:fnOf fv=some (f,c1,c2)) (p:Tr→Bool)
  (hp:∀h1,h.le h1→∀(i:Nat) (hi:i<x.length) (u:Value),Rep h1 u x[i]→CallE Tryz.prog f (c1++u::c2) h1 (fun v h'=>h1.le h'∧v=.bool (p x[i]))) :
  CallE Tryz.prog fn_slices_ContainsFunc_S_impl_Transition_impl_Transition [a,fv] h (fun v h'=>h.le h'∧v=.bool (x.any p)):=by
 refine CallE.gen fun k hk=>EN_slices_ContainsFunc_S_impl_Transition_impl_Transition rfl ?_
 simp -implicitDefEqProofs (disch:=omega)[wrap64]
 refine (c_IndexFunc_impl_Transition Ra hf p hp).go ?_
 rintro _ h1 ⟨hl,rfl⟩
 simp -implicitDefEqProofs (disch:=omega)[wrap64]
 refine RetK.keep (hk _ _ ⟨hl,?_⟩)
 congr 1
 rw[← List.findIdx?_isSome]
 cases x.findIdx? p<;>simp
theorem empty_ow {g h:Heap}{Γ:List HP}(H:HS g Γ h):HS g (ow (.agg #[.slice none 0 0,.slice none 0 0,.slice none 0 0]) Aut.empty::Γ) h:=
 HS.mkAut (a:=Aut.empty) H.nil_ow.nil_ow.nil_ow
theorem c_copyOf {h:Heap}{v:Value}{a:Aut}(Ra:Rep h v a) (h1:a.init.length≤1073741824) (h2:a.acc.length≤1073741824) (h3:a.edges.length≤1073741824):CallE Tryz.prog fn_impl_Automaton_copyOf [v] h (fun v h'=>HS h [ow v a] h'):=by
 obtain⟨v1,v2,v3,rfl,R1,R2,R3⟩:=Rep_Aut.1 Ra
 refine CallE.gen fun k hk=>EN_impl_Automaton_copyOf rfl ?_
 simp -implicitDefEqProofs (disch:=omega)[wrap64]
 refine (c_clone_int R1 h1).go ?_
 intro u1 m1 H
 simp -implicitDefEqProofs (disch:=omega)[wrap64]
 refine (c_clone_bool (R2.on H) h2).go ?_
 intro u2 m2 H2
 have H:=H2.app H
 simp -implicitDefEqProofs (disch:=omega)[wrap64]
 refine (c_clone_impl_Transition (R3.on H) h3).go ?_
 intro u3 m3 H3
 have H:=H3.app H
 simp -implicitDefEqProofs (disch:=first|omega|(simp only[LnZ];omega))[wrap64,H.rep.cells,H.rep.one,H.sw1.rep.cells,H.sw1.rep.one,H.sw2.rep.cells,H.sw2.rep.one,setC]
 exact RetK.keep (hk _ _ (HS.mkAut H.sw1.sw2))
theorem c_in {h:Heap}{n lo hi:Int}:CallE Tryz.prog fn_impl_in [.int .i64 n,.int .i64 lo,.int .i64 hi] h (fun u h'=>h'=h∧u=.bool (decide (lo≤n∧n≤hi))):=by
 refine CallE.gen fun k hk=>EN_impl_in rfl ?_
 by_cases h1:lo≤n
 ·simp -implicitDefEqProofs (disch:=first|omega|(simp only[LnZ];omega))[wrap64,h1]
  exact RetK.keep (hk _ _ ⟨rfl,by simp[h1]⟩)
 ·simp -implicitDefEqProofs (disch:=first|omega|(simp only[LnZ];omega))[wrap64,h1]
  exact RetK.keep (hk _ _ ⟨rfl,by simp[h1]⟩)
theorem c_l7Edge {h:Heap}{v:Value}{t:Tr}(Rt:Rep h v t) {n:Int}:CallE Tryz.prog fn_spec_l7Edge [v,.int .i64 n] h (fun u h'=>h'=h∧u=.bool (decide (t.Ok n))):=by
 rw[(Rep_Tr.1 Rt).1]
 refine CallE.gen fun k hk=>EN_spec_l7Edge rfl ?_
 unfold Tr.Ok at hk
 by_cases h1:0≤t.frm
 case neg=>simp -implicitDefEqProofs (disch:=first|omega|(simp only[LnZ];omega))[wrap64,Tr.v,h1];exact RetK.keep (hk _ _ ⟨rfl,by simp[h1]⟩)
 by_cases h2:t.frm<n
 case neg=>simp -implicitDefEqProofs (disch:=first|omega|(simp only[LnZ];omega))[wrap64,Tr.v,h1,h2];exact RetK.keep (hk _ _ ⟨rfl,by simp[h2]⟩)
 by_cases h3:0≤t.to
 case neg=>simp -implicitDefEqProofs (disch:=first|omega|(simp only[LnZ];omega))[wrap64,Tr.v,h1,h2,h3];exact RetK.keep (hk _ _ ⟨rfl,by simp[h3]⟩)
 by_cases h4:t.to<n
 case neg=>simp -implicitDefEqProofs (disch:=first|omega|(simp only[LnZ];omega))[wrap64,Tr.v,h1,h2,h3,h4];exact RetK.keep (hk _ _ ⟨rfl,by simp[h4]⟩)
 by_cases h5:0≤t.care
 case neg=>simp -implicitDefEqProofs (disch:=first|omega|(simp only[LnZ];omega))[wrap64,Tr.v,h1,h2,h3,h4,h5];exact RetK.keep (hk _ _ ⟨rfl,by simp[h5]⟩)
 by_cases h6:t.care≤7
 case neg=>simp -implicitDefEqProofs (disch:=first|omega|(simp only[LnZ];omega))[wrap64,Tr.v,h1,h2,h3,h4,h5,h6];exact RetK.keep (hk _ _ ⟨rfl,by simp[h6]⟩)
 by_cases h7:0≤t.value
 case neg=>simp -implicitDefEqProofs (disch:=first|omega|(simp only[LnZ];omega))[wrap64,Tr.v,h1,h2,h3,h4,h5,h6,h7];exact RetK.keep (hk _ _ ⟨rfl,by simp[h7]⟩)
 simp -implicitDefEqProofs (disch:=first|omega|(simp only[LnZ];omega))[wrap64,Tr.v,h1,h2,h3,h4,h5,h6,h7]
 exact RetK.keep (hk _ _ ⟨rfl,by simp[h1,h2,h3,h4,h5,h6,h7]⟩)
theorem i64_toInt (x:BitVec 64):IntKind.i64.wrap (x.toNat:Int)=x.toInt:=by
 rw[IntKind.wrap_i64,BitVec.toInt_eq_toNat_bmod,Int.bmod_def]
 have:=x.isLt
 split<;>omega
theorem ofInt_toInt {v:Int}(h1:-9223372036854775808≤v) (h2:v<9223372036854775808):(BitVec.ofInt 64 v).toInt=v:=by
 rw[BitVec.toInt_ofInt,Int.bmod_def];split<;>omega
theorem bits_in {v c:Int}(h1:-9223372036854775808≤v) (h2:v<9223372036854775808):andNotI .i64 v c=0↔andI .i64 v c=v:=by
 show IntKind.i64.wrap ((BitVec.ofInt 64 v &&& ~~~ BitVec.ofInt 64 c).toNat:Int)=0↔IntKind.i64.wrap ((BitVec.ofInt 64 v&&&BitVec.ofInt 64 c).toNat:Int)=v
 have hv:=ofInt_toInt h1 h2
 rw[i64_toInt,i64_toInt]
 generalize BitVec.ofInt 64 v=x at *
 generalize BitVec.ofInt 64 c=y at *
 subst hv
 rw[BitVec.toInt_inj,show (0:Int)=(0#64).toInt from rfl,BitVec.toInt_inj]
 constructor
 ·intro h
  apply BitVec.eq_of_getLsbD_eq
  intro i hi
  have h3:=congrArg (fun z=>z.getLsbD i) h
  simp only[BitVec.getLsbD_and,BitVec.getLsbD_not,hi,decide_true,Bool.true_and,BitVec.getLsbD_zero] at h3
  rw[BitVec.getLsbD_and]
  cases h4:x.getLsbD i<;>cases h5:y.getLsbD i<;>simp_all
 ·intro h
  apply BitVec.eq_of_getLsbD_eq
  intro i hi
  have h3:=congrArg (fun z=>z.getLsbD i) h
  simp only[BitVec.getLsbD_and] at h3
  rw[BitVec.getLsbD_and,BitVec.getLsbD_not,BitVec.getLsbD_zero]
  cases h4:x.getLsbD i<;>cases h5:y.getLsbD i<;>simp_all
theorem c_AutomatonValid_1 {h:Heap}{v:Value}{t:Tr}(Rt:Rep h v t) {b:Nat}{n:Int}(hn:1≤n∧n<4611686018427387904) (hb:hload h (some (.pointer (some ⟨b,0,none⟩))) none=some (.int .i64 n)) :
  CallE Tryz.prog fn_impl_AutomatonValid_1 [v,.pointer (some ⟨b,0,none⟩)] h (fun u h'=>h'=h∧u=.bool (!decide (t.Ok n))):=by
 have ht:=(Rep_Tr.1 Rt).2
 rw[(Rep_Tr.1 Rt).1]
 have e0:=ht.value
 refine CallE.gen fun k hk=>EN_impl_AutomatonValid_1 rfl ?_
 simp -implicitDefEqProofs (disch:=first|omega|(simp only[LnZ];omega))[wrap64,Tr.v,hb]
 refine c_in.go ?_
 rintro _ _ ⟨rfl,rfl⟩
 by_cases h1:0≤t.frm∧t.frm≤n-1
 case neg=>
  simp -implicitDefEqProofs (disch:=first|omega|(simp only[LnZ];omega))[wrap64,h1]
  have hno:¬t.Ok n:=fun ho=>h1 (by unfold Tr.Ok at ho;omega)
  exact RetK.keep (hk _ _ ⟨rfl,by simp[hno]⟩)
 simp -implicitDefEqProofs (disch:=first|omega|(simp only[LnZ];omega))[wrap64,h1,hb]
 refine c_in.go ?_
 rintro _ _ ⟨rfl,rfl⟩
 by_cases h2:0≤t.to∧t.to≤n-1
 case neg=>
  simp -implicitDefEqProofs (disch:=first|omega|(simp only[LnZ];omega))[wrap64,h2]
  have hno:¬t.Ok n:=fun ho=>h2 (by unfold Tr.Ok at ho;omega)
  exact RetK.keep (hk _ _ ⟨rfl,by simp[hno]⟩)
 simp -implicitDefEqProofs (disch:=first|omega|(simp only[LnZ];omega))[wrap64,h2]
 refine c_in.go ?_
 rintro _ _ ⟨rfl,rfl⟩
 by_cases h3:0≤t.care∧t.care≤7
 case neg=>
  simp -implicitDefEqProofs (disch:=first|omega|(simp only[LnZ];omega))[wrap64,h3]
  have hno:¬t.Ok n:=fun ho=>h3 (by unfold Tr.Ok at ho;omega)
  exact RetK.keep (hk _ _ ⟨rfl,by simp[hno]⟩)
 by_cases h4:t.value<0
 case pos=>
  simp -implicitDefEqProofs (disch:=first|omega|(simp only[LnZ];omega))[wrap64,h3,h4]
  have hno:¬t.Ok n:=fun ho=>by unfold Tr.Ok at ho;omega
  exact RetK.keep (hk _ _ ⟨rfl,by simp[hno]⟩)
 simp -implicitDefEqProofs (disch:=first|omega|(simp only[LnZ];omega))[wrap64,h3,h4]
 refine RetK.keep (hk _ _ ⟨rfl,?_⟩)
 have h5:=bits_in (c:=t.care) e0.1 e0.2
 by_cases h6:andNotI .i64 t.value t.care=0
 ·have hyes:t.Ok n:=⟨by omega,by omega,by omega,by omega,by omega,by omega,by omega,h5.1 h6⟩
  simp[h6,hyes]
 ·have hno:¬t.Ok n:=fun h=>h6 (h5.2 h.2.2.2.2.2.2.2)
  simp[h6,hno]
theorem drop_cons {α:Type}{l:List α}{i:Nat}(hi:i<l.length):l.drop i=l[i]::l.drop (i+1):=List.drop_eq_getElem_cons hi
theorem incr_cons {n lo x:Int}{l:List Int}:incr n lo (x::l)↔lo<x∧x<n∧incr n x l:=Iff.rfl
theorem c_AutomatonValid {h:Heap}{v:Value}{a:Aut}(Ra:Rep h v a):CallE Tryz.prog fn_impl_AutomatonValid [v] h (fun u h'=>h.le h'∧u=.bool (decide a.Ok)):=by
 obtain⟨v1,v2,v3,rfl,R1,R2,R3⟩:=Rep_Aut.1 Ra
 refine CallE.gen fun k hk=>EN_impl_AutomatonValid rfl ?_
 have l1:=R1.lt
 have l2:=R2.lt
 simp -implicitDefEqProofs (disch:=first|omega|(simp only[LnZ];omega))[wrap64,R1.len,R2.len,R3.len]
 refine HS.init.alloc rfl fun b h1 H=>?_
 simp -implicitDefEqProofs (disch:=omega)[wrap64]
 refine H.bxst (u:=.int .i64 a.acc.length) rfl rfl rfl rfl (by simp) fun h2 H=>?_
 simp only[setC,cells_int,List.take_zero,List.nil_append] at H
 simp -implicitDefEqProofs (disch:=first|omega|(simp only[LnZ];omega))[wrap64,R1.len,R2.len,R3.len]
 have H:HS h [bx b [.int .i64 a.acc.length]] h2:=H
 refine wp_count a.init.length (fun i e h'=>h'=h2∧∃last:Int,e=[none,some (.agg #[v1,v2,v3]),none,some (.pointer (some ⟨b,0,none⟩)),some (.int .i64 last),none,some v1,some (.int .i64 a.init.length),some (.int .i64 i)] ∧
   -1≤last∧last<4611686018427387904∧(incr a.acc.length (-1) a.init↔incr a.acc.length last (a.init.drop i))) ⟨rfl,-1,rfl,by omega,by omega,by simp⟩ ?_
 rintro J i _ _ hJ hi ⟨rfl,last,rfl,hl1,hl2,hin⟩
 simp -implicitDefEqProofs (disch:=omega)[wrap64]
 refine IteW.mk (fun hlt=>?_) (fun hge=>?_)
 ·have hlx:i<a.init.length:=by omega
  simp -implicitDefEqProofs (disch:=first|omega|(simp only[LnZ];omega))[wrap64,(R1.on H).I,H.bxld0]
  refine c_in.go ?_
  rintro _ _ ⟨rfl,rfl⟩
  simp -implicitDefEqProofs (disch:=omega)[wrap64]
  rw[drop_cons hlx,incr_cons] at hin
  refine IteW.mk (fun hn=>?_) (fun hn=>?_)
  ·simp -implicitDefEqProofs (disch:=omega)[wrap64]
   refine RetK.keep (hk _ _ ⟨H.base,?_⟩)
   have:¬a.Ok:=by
    intro ho
    have:=hin.1 ho.i
    omega
   simp[this]
  ·simp -implicitDefEqProofs (disch:=omega)[wrap64]
   exact hJ _ _ hlx ⟨rfl,_,rfl,by omega,by omega,hin.trans ⟨fun h=>h.2.2,fun h=>⟨by omega,by omega,h⟩⟩⟩
 ·simp -implicitDefEqProofs (disch:=first|omega|(simp only[LnZ];omega))[wrap64,H.bxld0]
  have hin:incr a.acc.length (-1) a.init:=hin.2 (by rw[List.drop_eq_nil_of_le (by omega)];trivial)
  refine c_in.go ?_
  rintro _ _ ⟨rfl,rfl⟩
  by_cases hn:1≤(a.acc.length:Int)∧(a.acc.length:Int)≤64
  case neg=>
   simp -implicitDefEqProofs (disch:=first|omega|(simp only[LnZ];omega))[wrap64,hn]
   refine RetK.keep (hk _ _ ⟨H.base,?_⟩)
   have:¬a.Ok:=fun ho=>hn (by have:=ho.n;omega)
   simp[this]
  by_cases he:(a.edges.length:Int)≤2048
  case neg=>
   simp -implicitDefEqProofs (disch:=first|omega|(simp only[LnZ];omega))[wrap64,hn,he,R3.len]
   refine RetK.keep (hk _ _ ⟨H.base,?_⟩)
   have:¬a.Ok:=fun ho=>he (by have:=ho.e;omega)
   simp[this]
  simp -implicitDefEqProofs (disch:=first|omega|(simp only[LnZ];omega))[wrap64,hn,he,R3.len]
  refine (c_ContainsFunc_impl_Transition (R3.on H) (c1:=[]) (fnOf_func) (fun t=>!decide (t.Ok a.acc.length)) ?_).go ?_
  ·intro h3 hl j hj u Ru
   exact (c_AutomatonValid_1 Ru (by omega) (hload_le hl H.bxld0)).to fun _ _ ⟨h4,h5⟩=>⟨h4▸Heap.le.refl _,h5⟩
  ·rintro _ h3 ⟨hl,rfl⟩
   simp -implicitDefEqProofs (disch:=omega)[wrap64]
   refine RetK.keep (hk _ _ ⟨H.base.trans hl,?_⟩)
   congr 1
   have hnn:1≤a.acc.length∧a.acc.length≤64:=by omega
   have hee:a.edges.length≤2048:=by omega
   simp only[Aut.Ok,hnn,hee,hin,true_and]
   rw[Bool.eq_iff_iff]
   simp
theorem c_spec_AutomatonValid {h:Heap}{v:Value}{a:Aut}(Ra:Rep h v a):CallE Tryz.prog fn_spec_AutomatonValid [v] h (fun u h'=>h'=h∧u=.bool (decide a.Ok)):=by
 obtain⟨v1,v2,v3,rfl,R1,R2,R3⟩:=Rep_Aut.1 Ra
 refine CallE.gen fun k hk=>EN_spec_AutomatonValid rfl ?_
 have l1:=R1.lt
 have l2:=R2.lt
 have l3:=R3.lt
 simp -implicitDefEqProofs (disch:=first|omega|(simp only[LnZ];omega))[wrap64,R1.len,R2.len,R3.len]
 by_cases h1:(a.acc.length:Int)<1
 case pos=>
  simp -implicitDefEqProofs (disch:=first|omega|(simp only[LnZ];omega))[wrap64,h1]
  have hno:¬a.Ok:=fun ho=>by have:=ho.n;omega
  exact RetK.keep (hk _ _ ⟨rfl,by simp[hno]⟩)
 by_cases h2:64<(a.acc.length:Int)
 case pos=>
  simp -implicitDefEqProofs (disch:=first|omega|(simp only[LnZ];omega))[wrap64,h1,h2]
  have hno:¬a.Ok:=fun ho=>by have:=ho.n;omega
  exact RetK.keep (hk _ _ ⟨rfl,by simp[hno]⟩)
 by_cases h3:(a.acc.length:Int)<a.init.length
 case pos=>
  simp -implicitDefEqProofs (disch:=first|omega|(simp only[LnZ];omega))[wrap64,h1,h2,R1.len,h3]
  have hno:¬a.Ok:=fun ho=>by
   have h1:=incr_len ho.i (by have:=ho.n;omega)
   omega
  exact RetK.keep (hk _ _ ⟨rfl,by simp[hno]⟩)
 by_cases h4:2048<(a.edges.length:Int)
 case pos=>
  simp -implicitDefEqProofs (disch:=first|omega|(simp only[LnZ];omega))[wrap64,h1,h2,R1.len,h3,R3.len,h4]
  have hno:¬a.Ok:=fun ho=>by have:=ho.e;omega
  exact RetK.keep (hk _ _ ⟨rfl,by simp[hno]⟩)
 simp -implicitDefEqProofs (disch:=first|omega|(simp only[LnZ];omega))[wrap64,h1,h2,R1.len,h3,R3.len,h4]
 refine wp_count a.init.length (fun i e h'=>h'=h∧e=[none,some (.agg #[v1,v2,v3]),none,some (.int .i64 a.acc.length),some (.int .i64 i),none] ∧
   (incr a.acc.length (-1) a.init↔incr a.acc.length (if i=0 then -1 else a.init.getD (i-1) 0) (a.init.drop i))) ⟨rfl,rfl,by simp⟩ ?_
 rintro J i _ _ hJ hi ⟨rfl,rfl,hin⟩
 simp -implicitDefEqProofs (disch:=first|omega|(simp only[LnZ];omega))[wrap64,R1.len]
 refine IteW.mk (fun hlt=>?_) (fun hge=>?_)
 ·have hlx:i<a.init.length:=by omega
  rw[drop_cons hlx,incr_cons] at hin
  have hgd:a.init.getD (i+1-1) 0=a.init[i]:=by simp[hlx]
  by_cases h5:a.init[i]<0
  case pos=>
   simp -implicitDefEqProofs (disch:=first|omega|(simp only[LnZ];omega))[wrap64,R1.I,h5]
   have hno:¬a.Ok:=fun ho=>by have:=ho.im hlx;omega
   exact RetK.keep (hk _ _ ⟨rfl,by simp[hno]⟩)
  by_cases h6:(a.acc.length:Int)≤a.init[i]
  case pos=>
   simp -implicitDefEqProofs (disch:=first|omega|(simp only[LnZ];omega))[wrap64,R1.I,h5,h6]
   have hno:¬a.Ok:=fun ho=>by have:=ho.im hlx;omega
   exact RetK.keep (hk _ _ ⟨rfl,by simp[hno]⟩)
  by_cases h7:0<i
  ·have hj:i-1<a.init.length:=by omega
   have hii:(i:Int)-1=((i-1:Nat):Int):=by omega
   have hw:IntKind.i64.wrap ((i:Int)-1)=((i-1:Nat):Int):=by rw[wrap64 (by omega) (by omega),hii]
   have hgd2:a.init.getD (i-1) 0=a.init[i-1]:=by simp[hj]
   rw[if_neg (by omega),hgd2] at hin
   simp -implicitDefEqProofs (disch:=first|omega|(simp only[LnZ];omega))[wrap64,R1.I,h5,h6,h7,hw]
   refine IteW.mk (fun h8=>?_) (fun h8=>?_)
   ·simp -implicitDefEqProofs (disch:=omega)[wrap64]
    have hno:¬a.Ok:=fun ho=>by have:=(hin.1 ho.i).1;omega
    exact RetK.keep (hk _ _ ⟨rfl,by simp[hno]⟩)
   ·simp -implicitDefEqProofs (disch:=omega)[wrap64]
    exact hJ _ _ hlx ⟨rfl,rfl,by rw[if_neg (by omega),hgd];exact hin.trans ⟨fun h=>h.2.2,fun h=>⟨by omega,by omega,h⟩⟩⟩
  ·have h0:i=0:=by omega
   subst h0
   rw[if_pos rfl] at hin
   simp -implicitDefEqProofs (disch:=first|omega|(simp only[LnZ];omega))[wrap64,R1.I,h5,h6]
   exact hJ _ _ hlx ⟨rfl,rfl,by rw[if_neg (by omega),hgd];exact hin.trans ⟨fun h=>h.2.2,fun h=>⟨by omega,by omega,h⟩⟩⟩
 ·have hin:incr a.acc.length (-1) a.init:=hin.2 (by rw[List.drop_eq_nil_of_le (by omega)];trivial)
  simp -implicitDefEqProofs (disch:=omega)[wrap64]
  refine wp_count a.edges.length (fun i e h'=>h'=_∧e=[none,some (.agg #[v1,v2,v3]),none,some (.int .i64 a.acc.length),none,some (.int .i64 i)] ∧
   ∀(j:Nat) (hj:j<a.edges.length),j<i→a.edges[j].Ok a.acc.length) ⟨rfl,rfl,fun j _ hj=>absurd hj (Nat.not_lt_zero j)⟩ ?_
  rintro J i _ _ hJ hi ⟨rfl,rfl,hn⟩
  simp -implicitDefEqProofs (disch:=first|omega|(simp only[LnZ];omega))[wrap64,R3.len]
  refine IteW.mk (fun hlt=>?_) (fun hge=>?_)
  ·have hlx:i<a.edges.length:=by omega
   simp -implicitDefEqProofs (disch:=first|omega|(simp only[LnZ];omega))[wrap64,R3.xTr]
   refine (c_l7Edge (Rep_Tr.2 ⟨rfl,R3.okTr hlx⟩)).go ?_
   rintro _ _ ⟨rfl,rfl⟩
   simp -implicitDefEqProofs (disch:=omega)[wrap64]
   refine IteW.mkr (fun h8=>?_) (fun h8=>?_)
   ·simp -implicitDefEqProofs (disch:=omega)[wrap64]
    have hno:¬a.Ok:=fun ho=>h8 (ho.t hlx)
    exact RetK.keep (hk _ _ ⟨rfl,by simp[hno]⟩)
   ·simp -implicitDefEqProofs (disch:=omega)[wrap64]
    refine hJ _ _ hlx ⟨rfl,rfl,fun j hj hji=>?_⟩
    by_cases hji2:j=i
    ·subst hji2;exact h8
    ·exact hn j hj (by omega)
  ·simp -implicitDefEqProofs (disch:=omega)[wrap64]
   have hyes:a.Ok:=⟨by omega,by omega,hin,fun t ht=>by
    obtain⟨j,hj,rfl⟩:=List.mem_iff_getElem.1 ht
    exact hn j hj (by omega)⟩
   exact RetK.keep (hk _ _ ⟨rfl,by simp[hyes]⟩)
section
variable {α:Type} [Ty α] {g h:Heap}{Γ:List HP}{v u:Value}{l:List α}
theorem HS.cut (H:HS g (ow v l::Γ) h) {n esz:Nat}{k:IntKind}(hn:n≤l.length):∃v',sliceVV esz v none (some (some (.int k n))) none=some v'∧HS g (ow v' (l.take n)::Γ) h:=by
 obtain⟨g',r,rfl,d,O,H⟩:=H
 rcases Own_list.1 O with ⟨p,rfl,rfl,rfl,hp⟩ | ⟨b,off,cap,cells,el,r',rfl,⟨h1,hM⟩,h2,rfl,h4,h5⟩
 ·have hn0:n=0:=by simpa using hn
  subst hn0
  exact⟨.slice p 0 0,by simp[sliceVV,bndV],g',Heap.nil,rfl,d,Own_list.2 (.inl ⟨p,rfl,by simp,rfl,hp⟩),H⟩
 ·rw[← List.take_append_drop n l] at h5
  obtain⟨r1,r2,rfl,d2,h6,h7⟩:=ownL_split h5
  obtain⟨d3,d4⟩:=Dj_add.1 d
  obtain⟨d5,d6⟩:=Dj_add.1 d4
  obtain⟨n1,n2⟩:r1 b=none∧r2 b=none:=by simpa[Heap.add] using h4
  refine⟨.slice (some ⟨b,off,none⟩) n cap,?_,g'.add r2,(Heap.one b (.cells cells.toArray el (0,0))).add r1,by ac_rfl,?_,?_,H.le (le_add d6)⟩
  ·have:n≤cap:=by omega
   simp[sliceVV,bndV,add_none,this]
  ·exact Dj_add.2 ⟨add_Dj.2 ⟨d3,(Dj_one.2 n2)⟩,add_Dj.2 ⟨d5,d2.symm⟩⟩
  ·have hl:(l.take n).length=n:=by simp;omega
   exact Own_list.2 (.inr ⟨b,off,cap,cells,el,r1,by rw[hl],⟨by omega,by omega⟩,h2,rfl,n1,h6⟩)
end
theorem c_Index_int {h:Heap}{a:Value}{x:List Int}(Ra:Rep h a x) {n:Int}:CallE Tryz.prog fn_slices_Index_S_int_int [a,.int .i64 n] h (fun v h'=>h'=h∧∃r:Int,v=.int .i64 r∧(0≤r↔n∈x)):=by
 refine CallE.gen fun k hk=>EN_slices_Index_S_int_int rfl ?_
 have hL:=Ra.lt
 simp -implicitDefEqProofs (disch:=first|omega|(simp only[LnZ];omega))[wrap64,Ra.len]
 refine wp_count x.length (fun i e h'=>e=[some a,some (.int .i64 n),none,none,some (.int .i64 x.length),some (.int .i64 i)]∧h'=h∧∀(j:Nat) (hj:j<x.length),j<i→x[j]≠n) ⟨rfl,rfl,fun j _ hj=>absurd hj (Nat.not_lt_zero j)⟩ ?_
 rintro J i _ h1 hJ hi ⟨rfl,rfl,hn⟩
 simp -implicitDefEqProofs (disch:=omega)[wrap64]
 refine IteW.mk (fun hlt=>?_) (fun hge=>?_)
 ·have hlx:i<x.length:=by omega
  simp -implicitDefEqProofs (disch:=first|omega|(simp only[LnZ];omega))[wrap64,Ra.I]
  refine IteW.mk (fun hq=>?_) (fun hq=>?_)
  ·simp -implicitDefEqProofs (disch:=omega)[wrap64]
   exact RetK.keep (hk _ _ ⟨rfl,i,rfl,by simp only[Int.natCast_nonneg,true_iff];rw[hq];exact List.getElem_mem hlx⟩)
  ·simp -implicitDefEqProofs (disch:=omega)[wrap64]
   refine hJ _ _ hlx ⟨rfl,rfl,fun j hj hji=>?_⟩
   by_cases hji2:j=i
   ·subst hji2;exact fun e=>hq e.symm
   ·exact hn j hj (by omega)
 ·simp -implicitDefEqProofs (disch:=omega)[wrap64]
  refine RetK.keep (hk _ _ ⟨rfl,-1,rfl,?_⟩)
  simp only[show ¬(0:Int)≤-1 by decide,false_iff]
  intro hm
  obtain⟨j,hj,h1⟩:=List.mem_iff_getElem.1 hm
  exact hn j hj (by omega) h1
theorem c_Contains_int {h:Heap}{a:Value}{x:List Int}(Ra:Rep h a x) {n:Int}:CallE Tryz.prog fn_slices_Contains_S_int_int [a,.int .i64 n] h (fun v h'=>h'=h∧v=.bool (decide (n∈x))):=by
 refine CallE.gen fun k hk=>EN_slices_Contains_S_int_int rfl ?_
 simp -implicitDefEqProofs (disch:=omega)[wrap64]
 refine (c_Index_int Ra).go ?_
 rintro _ h1 ⟨rfl,r,rfl,hr⟩
 simp -implicitDefEqProofs (disch:=omega)[wrap64]
 exact RetK.keep (hk _ _ ⟨rfl,by congr 1;rw[Bool.eq_iff_iff];simp[hr]⟩)
theorem c_l4In {h:Heap}{a:Value}{x:List Int}(Ra:Rep h a x) {n:Int}:CallE Tryz.prog fn_spec_l4In [a,.int .i64 n] h (fun v h'=>h'=h∧v=.bool (decide (n∈x))):=by
 refine CallE.gen fun k hk=>EN_spec_l4In rfl ?_
 have hL:=Ra.lt
 simp -implicitDefEqProofs (disch:=omega)[wrap64]
 refine wp_count x.length (fun i e h'=>e=[some a,some (.int .i64 n),none,some (.int .i64 i)]∧h'=h∧∀(j:Nat) (hj:j<x.length),j<i→x[j]≠n) ⟨rfl,rfl,fun j _ hj=>absurd hj (Nat.not_lt_zero j)⟩ ?_
 rintro J i _ h1 hJ hi ⟨rfl,rfl,hn⟩
 simp -implicitDefEqProofs (disch:=first|omega|(simp only[LnZ];omega))[wrap64,Ra.len]
 refine IteW.mk (fun hlt=>?_) (fun hge=>?_)
 ·have hlx:i<x.length:=by omega
  simp -implicitDefEqProofs (disch:=first|omega|(simp only[LnZ];omega))[wrap64,Ra.I]
  refine IteW.mk (fun hq=>?_) (fun hq=>?_)
  ·simp -implicitDefEqProofs (disch:=omega)[wrap64]
   exact RetK.keep (hk _ _ ⟨rfl,by congr 1;rw[eq_comm,decide_eq_true_iff,← hq];exact List.getElem_mem hlx⟩)
  ·simp -implicitDefEqProofs (disch:=omega)[wrap64]
   refine hJ _ _ hlx ⟨rfl,rfl,fun j hj hji=>?_⟩
   by_cases hji2:j=i
   ·subst hji2;exact hq
   ·exact hn j hj (by omega)
 ·simp -implicitDefEqProofs (disch:=omega)[wrap64]
  refine RetK.keep (hk _ _ ⟨rfl,?_⟩)
  congr 1
  rw[eq_comm,decide_eq_false_iff_not]
  intro hm
  obtain⟨j,hj,h1⟩:=List.mem_iff_getElem.1 hm
  exact hn j hj (by omega) h1
theorem c_next {h:Heap}{v:Value}{a:Aut}(Ra:Rep h v a) (ha:a.Ok):CallE Tryz.prog fn_impl_Automaton_next [v] h (fun u h'=>∃G,HS h [ow u G] h'∧Adj a.E G∧G.length=a.acc.length):=by
 obtain⟨v1,v2,v3,rfl,R1,R2,R3⟩:=Rep_Aut.1 Ra
 refine CallE.gen fun k hk=>EN_impl_Automaton_next rfl ?_
 have hn:=ha.n
 have he:=ha.e
 simp -implicitDefEqProofs (disch:=first|omega|(simp only[LnZ];omega))[wrap64,R2.len]
 refine HS.init.mks (α:=List Int) (z:=[]) rfl rfl own_nils (Nat.le_refl _) (by omega) (by omega) fun w h1 H=>?_
 simp -implicitDefEqProofs (disch:=first|omega|(simp only[LnZ];omega))[wrap64,(R3.on H).len]
 refine wp_count a.edges.length (fun i e h'=>∃G,e=[none,none,none,some w,none,some v3,some (.int .i64 a.edges.length),some (.int .i64 i)]∧HS h [ow w G] h'∧NextI a i G) ⟨_,by simp,H,NextI.zero⟩ ?_
 rintro J i _ h2 hJ hi ⟨G,rfl,H,hG⟩
 simp -implicitDefEqProofs (disch:=omega)[wrap64]
 refine IteW.mk (fun hlt=>?_) (fun hge=>?_)
 ·have hlx:i<a.edges.length:=by omega
  have hx:=ha.t hlx
  unfold Tr.Ok at hx
  obtain⟨f,hf⟩:∃f:Nat,a.edges[i].frm=f:=⟨a.edges[i].frm.toNat,by omega⟩
  obtain⟨t,ht⟩:∃t:Nat,a.edges[i].to=t:=⟨a.edges[i].to.toNat,by omega⟩
  have hfG:f<G.length:=by rw[hG.len];omega
  have hle:=hG.le f hfG
  have R3':=R3.on H
  obtain⟨u,hu,H⟩:=H.take hfG
  change hload _ (some (elp 1 w f)) none=some u at hu
  simp -implicitDefEqProofs (disch:=first|omega|(simp only[LnZ];omega))[wrap64,R3'.xTr,Tr.v,setC,hf,ht,H.sw1.holeia (n:=1) rfl,hu]
  refine H.app1 (t:Int) rfl rfl rfl ⟨by omega,by omega⟩ rfl rfl (by omega) (by omega) fun u' h3 H=>?_
  simp -implicitDefEqProofs (disch:=first|omega|(simp only[LnZ];omega))[wrap64,H.sw1.holeia (n:=1) rfl]
  refine H.storeH rfl rfl rfl fun h4 H=>?_
  simp -implicitDefEqProofs (disch:=omega)[wrap64]
  exact hJ _ _ hlx ⟨_,rfl,H,hG.step hlx hf ht hfG⟩
 ·simp -implicitDefEqProofs (disch:=omega)[wrap64]
  exact RetK.keep (hk _ _ ⟨G,H,hG.done ha (by omega),hG.len⟩)
theorem c_l7Next {h:Heap}{v:Value}{a:Aut}(Ra:Rep h v a) (ha:a.Ok):CallE Tryz.prog fn_spec_l7Next [v] h (fun u h'=>∃G,HS h [ow u G] h'∧Adj a.E G∧G.length=a.acc.length∧∀x (hx:x<G.length),G[x].length≤2048):=by
 obtain⟨v1,v2,v3,rfl,R1,R2,R3⟩:=Rep_Aut.1 Ra
 refine CallE.gen fun k hk=>EN_spec_l7Next rfl ?_
 have hn:=ha.n
 have he:=ha.e
 simp -implicitDefEqProofs (disch:=first|omega|(simp only[LnZ];omega))[wrap64,R2.len]
 refine HS.init.mks (α:=List Int) (z:=[]) rfl rfl own_nils (Nat.le_refl _) (by omega) (by omega) fun w h1 H=>?_
 simp -implicitDefEqProofs (disch:=omega)[wrap64]
 refine wp_count a.edges.length (fun i e h'=>∃G,e=[none,some (.agg #[v1,v2,v3]),none,some w,some (.int .i64 i),none]∧HS h [ow w G] h'∧NextI a i G) ⟨_,by simp,H,NextI.zero⟩ ?_
 rintro J i _ h2 hJ hi ⟨G,rfl,H,hG⟩
 simp -implicitDefEqProofs (disch:=first|omega|(simp only[LnZ];omega))[wrap64,(R3.on H).len]
 refine IteW.mk (fun hlt=>?_) (fun hge=>?_)
 ·have hlx:i<a.edges.length:=by omega
  have hx:=ha.t hlx
  unfold Tr.Ok at hx
  obtain⟨f,hf⟩:∃f:Nat,a.edges[i].frm=f:=⟨a.edges[i].frm.toNat,by omega⟩
  obtain⟨t,ht⟩:∃t:Nat,a.edges[i].to=t:=⟨a.edges[i].to.toNat,by omega⟩
  have hfG:f<G.length:=by rw[hG.len];omega
  have hle:=hG.le f hfG
  have R3':=R3.on H
  obtain⟨u,hu,Ru⟩:=H.rep.ldL hfG
  simp -implicitDefEqProofs (disch:=first|omega|(simp only[LnZ];omega))[wrap64,R3'.xTr,Tr.v,setC,hf,ht,H.rep.X (n:=1) rfl,hu]
  refine (c_l4In Ru).go ?_
  rintro _ _ ⟨rfl,rfl⟩
  by_cases hm:(t:Int)∈G[f]
  ·simp -implicitDefEqProofs (disch:=first|omega|(simp only[LnZ];omega))[wrap64,hm]
   exact hJ _ _ hlx ⟨_,by simp,H,hG.skip hlx hf ht hfG hm⟩
  ·obtain⟨u,hu,H⟩:=H.take hfG
   change hload _ (some (elp 1 w f)) none=some u at hu
   simp -implicitDefEqProofs (disch:=first|omega|(simp only[LnZ];omega))[wrap64,hm,hf,ht,H.sw1.holeia (n:=1) rfl,hu]
   refine H.app1 (t:Int) rfl rfl rfl ⟨by omega,by omega⟩ rfl rfl (by omega) (by omega) fun u' h3 H=>?_
   simp -implicitDefEqProofs (disch:=first|omega|(simp only[LnZ];omega))[wrap64,H.sw1.holeia (n:=1) rfl]
   refine H.storeH rfl rfl rfl fun h4 H=>?_
   simp -implicitDefEqProofs (disch:=omega)[wrap64]
   exact hJ _ _ hlx ⟨_,by simp,H,hG.step hlx hf ht hfG⟩
 ·simp -implicitDefEqProofs (disch:=omega)[wrap64]
  exact RetK.keep (hk _ _ ⟨G,H,hG.done ha (by omega),hG.len,fun x hx=>by have:=hG.le x hx;omega⟩)
theorem take_mem_succ {α:Type}{l:List α}{i:Nat}(hi:i<l.length) {x:α}:x∈l.take (i+1)↔x∈l.take i∨x=l[i]:=by
 rw[List.take_add_one,List.getElem?_eq_getElem hi]
 simp only[Option.toList_some,List.mem_append,List.mem_singleton]
theorem snoc_of {α:Type}{l:List α}(h:0<l.length):∃l' x,l=l'++[x]:=by
 refine⟨l.dropLast,l.getLast (List.ne_nil_of_length_pos h),?_⟩
 exact (List.dropLast_concat_getLast _).symm
theorem c_reachable {h:Heap}{w s:Value}{G:List (List Int)}{S:List Int}{E:Nat→Nat→Prop}(Rw:Rep h w G) (Rs:Rep h s S) (hG:Adj E G) (hS:∀z∈S,0≤z∧z<G.length) (hSl:S.length≤1048576) (hGl:G.length≤1048576) :
  CallE Tryz.prog fn_impl_reachable [w,s] h (fun u h'=>∃B:List Bool,HS h [ow u B] h'∧B.length=G.length∧∀x,tru B x↔∃z:Nat,(z:Int)∈S∧Rch E z x):=by
 refine CallE.gen fun k hk=>EN_impl_reachable rfl ?_
 simp -implicitDefEqProofs (disch:=first|omega|(simp only[LnZ];omega))[wrap64,Rw.len]
 refine HS.init.mks (α:=Bool) (z:=false) rfl rfl own_false (Nat.le_refl _) (by omega) (by omega) fun b h1 H=>?_
 simp -implicitDefEqProofs (disch:=omega)[wrap64]
 refine (c_clone_int (Rs.on H) (by omega)).go ?_
 intro t0 h2 H2
 have H:=H2.app H
 simp -implicitDefEqProofs (disch:=first|omega|(simp only[LnZ];omega))[wrap64,(Rs.on H).len]
 refine wp_count S.length (fun i e h'=>∃B,e=[some w,none,none,some b,some t0,none,none,none,some s,some (.int .i64 S.length),some (.int .i64 i),none,none,none]∧HS h [ow t0 S,ow b B] h'∧B.length=G.length∧∀x,tru B x↔(x:Int)∈S.take i) ⟨_,by simp,H,by simp,fun x=>by simp[tru_replicate]⟩ ?_
 rintro J i _ h3 hJ hi ⟨B,rfl,H,hBl,hB⟩
 simp -implicitDefEqProofs (disch:=omega)[wrap64]
 refine IteW.mk (fun hlt=>?_) (fun hge=>?_)
 ·have hlx:i<S.length:=by omega
  have hz:=hS _ (List.getElem_mem hlx)
  obtain⟨z,hz2⟩:∃z:Nat,S[i]=z:=⟨S[i].toNat,by omega⟩
  have H:=H.sw1
  have hzB:z<B.length:=by omega
  simp -implicitDefEqProofs (disch:=first|omega|(simp only[LnZ];omega))[wrap64,(Rs.on H).I,hz2,H.rep.B]
  refine H.storeF true (i:=z) hzB rfl rfl trivial rfl fun h4 H=>?_
  simp -implicitDefEqProofs (disch:=omega)[wrap64]
  refine hJ _ _ hlx ⟨_,rfl,H.sw1,by simpa using hBl,fun x=>?_⟩
  rw[tru_set hzB,hB,take_mem_succ hlx,hz2]
  exact or_congr Iff.rfl (by omega)
 simp -implicitDefEqProofs (disch:=omega)[wrap64]
 rw[List.take_of_length_le (by omega)] at hB
 have hI:Srch E (fun z=>(z:Int)∈S) (tru B) (fun z=>(z:Int)∈S):=Srch.init hB fun _ h=>h
 have hcl:=List.count_le_length (a:=false) (l:=B)
 refine wp_while (σ:=List Bool×List Int) (fun s e h'=>∃t,e=[some w,none,none,some b,some t,none,none,none,none,none,none,none,none,none] ∧
   HS h [ow t s.2,ow b s.1] h'∧s.1.length=G.length∧Srch E (fun z=>(z:Int)∈S) (tru s.1) (fun z=>(z:Int)∈s.2)∧(∀z∈s.2,∃q:Nat,z=q∧tru s.1 q)∧s.2.length+s.1.count false≤S.length+G.length)
  (fun s=>s.2.length+s.1.count false) (B,S) ⟨t0,by simp,H,hBl,hI,fun z hz=>⟨z.toNat,by have:=hS z hz;omega,by rw[hB];have:=hS z hz;rwa [Int.toNat_of_nonneg this.1]⟩,by dsimp only;omega⟩ ?_
 rintro J ⟨B,T⟩ _ h4 hJ ⟨t,rfl,H,hBl,hI,hT,hm⟩
 dsimp only at H hBl hI hT hm
 simp -implicitDefEqProofs (disch:=first|omega|(simp only[LnZ];omega))[wrap64,H.rep.len]
 refine IteW.mkr (fun h0=>?_) (fun h0=>?_)
 ·simp -implicitDefEqProofs (disch:=omega)[wrap64]
  have hT0:T=[]:=List.eq_nil_of_length_eq_zero (by omega)
  subst hT0
  exact RetK.keep (hk _ _ ⟨B,H.drop,hBl,fun x=>hI.done (by simp)⟩)
 obtain⟨T,x,rfl⟩:=snoc_of (l:=T) (by omega)
 obtain⟨q,rfl,hq⟩:=hT x (by simp)
 have hqG:q<G.length:=by rw[← hBl];exact tru_lt hq
 obtain⟨t',ht',H'⟩:=H.cut (n:=T.length) (esz:=1) (k:=.i64) (by simp)
 have hTl:T.length<4611686018427387904:=by have:=H.rep.lt;simp at this;omega
 rw[List.take_left' rfl] at H'
 obtain⟨u,hu0,Ru⟩:=Rw.ldL hqG
 have hu:=hload_le H.base hu0
 have hul:=Ru.lt
 have hlen1:(T++[(q:Int)]).length=T.length+1:=by simp
 have hi1:IntKind.i64.wrap ((T.length:Int)+1-1)=T.length:=by rw[wrap64 (by omega) (by omega)];omega
 simp -implicitDefEqProofs (disch:=first|omega|(simp only[LnZ];omega))[wrap64,H.rep.I,hlen1,hi1,ht',(Rw.on H').X (n:=1) rfl,hu,Ru.len]
 have hlt0:=hm
 obtain⟨m,hmm⟩:∃m,m=T.length+1+B.count false:=⟨_,rfl⟩
 refine wp_count G[q].length (fun j e h'=>∃(t:Value) (B:List Bool) (T':List Int),e=[some w,none,none,some b,some t,none,none,none,none,none,none,some u,some (.int .i64 G[q].length),some (.int .i64 j)] ∧
   HS h [ow t T',ow b B] h'∧B.length=G.length∧Srch E (fun z=>(z:Int)∈S) (tru B) (fun z=>(z:Int)∈T'∨z=q)∧tru B q∧(∀z∈T',∃q:Nat,z=q∧tru B q)∧T'.length+1+B.count false=m ∧
   ∀j' (hj':j'<G[q].length),j'<j→∀y:Nat,G[q][j']=y→tru B y) ⟨t',B,T,by simp,H',hBl,hI.congr (fun _=>Iff.rfl) (fun z=>by simp[Int.ofNat_inj]),hq,fun z hz=>hT z (by simp[hz]),hmm.symm,fun j' _ hj'=>absurd hj' (Nat.not_lt_zero j')⟩ ?_
 rintro J2 j _ h5 hJ2 hj ⟨t2,B2,T2,rfl,H,hBl2,hI2,hq2,hT2,hm2,hpr⟩
 simp -implicitDefEqProofs (disch:=omega)[wrap64]
 refine IteW.mk (fun hlt2=>?_) (fun hge2=>?_)
 ·have hjl:j<G[q].length:=by omega
  obtain⟨y,hy,hxy,hyG⟩:=hG.get hqG hjl
  have H:=H.sw1
  have hyB:y<B2.length:=by omega
  have hpr2:∀B3,tru B3 y→(∀z,tru B2 z→tru B3 z)→∀j' (hj':j'<G[q].length),j'<j+1→∀y:Nat,G[q][j']=y→tru B3 y:=by
   intro B3 h1 h2 j' hj' hlt y' hy'
   by_cases e:j'=j
   ·subst e
    rw[hy] at hy'
    obtain rfl:y=y':=by omega
    exact h1
   ·exact h2 _ (hpr j' hj' (by omega) y' hy')
  by_cases hb:B2[y]=true
  ·simp -implicitDefEqProofs (disch:=first|omega|(simp only[LnZ];omega))[wrap64,(Ru.on H).I,hy,H.rep.B,hb]
   exact hJ2 _ _ hjl ⟨t2,B2,T2,rfl,H.sw1,hBl2,hI2,hq2,hT2,hm2,hpr2 _ ((tru_get hyB).2 hb) fun _ h=>h⟩
  ·have hb':B2[y]=false:=by simpa using hb
   simp -implicitDefEqProofs (disch:=first|omega|(simp only[LnZ];omega))[wrap64,(Ru.on H).I,hy,H.rep.B,hb']
   refine H.storeF true (i:=y) hyB rfl rfl trivial rfl fun h6 H=>?_
   have hcs:=count_set hyB hb'
   simp -implicitDefEqProofs (disch:=omega)[wrap64]
   refine H.sw1.app1 (y:Int) rfl rfl rfl ⟨by omega,by omega⟩ rfl rfl (by omega) (by omega) fun t3 h7 H=>?_
   simp -implicitDefEqProofs (disch:=omega)[wrap64]
   refine hJ2 _ _ hjl ⟨t3,_,_,rfl,H,by simpa using hBl2,hI2.add (x:=q) (y:=y) hq2 hxy (fun z=>tru_set hyB) (fun z=>?_),(tru_set hyB).2 (.inl hq2),?_,?_,hpr2 _ ((tru_set hyB).2 (.inr rfl)) fun z hz=>(tru_set hyB).2 (.inl hz)⟩
   ·simp only[List.mem_append,List.mem_singleton]
    constructor
    ·rintro ((h | h) | h)
     ·exact .inl (.inl h)
     ·exact .inr (by omega)
     ·exact .inl (.inr h)
    ·rintro ((h | h) | h)
     ·exact .inl (.inl h)
     ·exact .inr h
     ·exact .inl (.inr (by omega))
   ·intro z hz
    rcases List.mem_append.1 hz with hz | hz
    ·obtain⟨p,h1,h2⟩:=hT2 z hz
     exact⟨p,h1,(tru_set hyB).2 (.inl h2)⟩
    ·exact⟨y,by simpa using hz,(tru_set hyB).2 (.inr rfl)⟩
   ·simp;omega
 ·simp -implicitDefEqProofs (disch:=omega)[wrap64]
  refine hJ (B2,T2) _ _ ?_ ⟨t2,rfl,H,hBl2,hI2.drop (x:=q) (fun y hxy=>?_) (fun z hz=>hz),hT2,?_⟩
  ·dsimp only;rw[hlen1];omega
  ·exact hG.all hqG (C:=tru B2) (fun j' hj' y hy=>hpr j' hj' (by omega) y hy) hxy
  ·dsimp only at hm ⊢;rw[hlen1] at hm;omega
theorem c_l7Reach {h:Heap}{w s:Value}{G:List (List Int)}{S:List Int}{E:Nat→Nat→Prop}(Rw:Rep h w G) (Rs:Rep h s S) (hG:Adj E G) (hS:∀z∈S,0≤z∧z<G.length) (hGl:G.length≤1048576) :
  CallE Tryz.prog fn_spec_l7Reach [w,s] h (fun u h'=>∃Q:List Int,HS h [ow u Q] h'∧Q.length≤G.length∧(∀z∈Q,0≤z∧z<G.length)∧∀x:Nat,(x:Int)∈Q↔∃z:Nat,(z:Int)∈S∧Rch E z x):=by
 refine CallE.gen fun k hk=>EN_spec_l7Reach rfl ?_
 have hSl:=Rs.lt
 simp -implicitDefEqProofs (disch:=first|omega|(simp only[LnZ];omega))[wrap64,Rw.len]
 refine HS.init.mks (α:=Bool) (z:=false) rfl rfl own_false (Nat.le_refl _) (by omega) (by omega) fun b h1 H=>?_
 simp -implicitDefEqProofs (disch:=omega)[wrap64]
 refine H.bls0 Int fun t0 h2 H=>?_
 simp -implicitDefEqProofs (disch:=omega)[wrap64]
 refine wp_count S.length (fun i e h'=>∃(t:Value) (B:List Bool) (Q:List Int),e=[some w,some s,none,some b,some t,some (.int .i64 i),none,none,none]∧HS h [ow t Q,ow b B] h'∧B.length=G.length∧Q.length+B.count false=G.length∧(∀z∈Q,∃q:Nat,z=q∧q<G.length)∧(∀x,tru B x↔(x:Int)∈S.take i)∧∀x:Nat,tru B x↔(x:Int)∈Q) ⟨t0,_,[],by simp,H,by simp,by simp,by simp,fun x=>by simp[tru_replicate],fun x=>by simp[tru_replicate]⟩ ?_
 rintro J i _ h3 hJ hi ⟨t,B,Q,rfl,H,hBl,hQl,hQ,hB,hBQ⟩
 simp -implicitDefEqProofs (disch:=first|omega|(simp only[LnZ];omega))[wrap64,(Rs.on H).len]
 refine IteW.mk (fun hlt=>?_) (fun hge=>?_)
 ·have hlx:i<S.length:=by omega
  have hz:=hS _ (List.getElem_mem hlx)
  obtain⟨z,hz2⟩:∃z:Nat,S[i]=z:=⟨S[i].toNat,by omega⟩
  have H:=H.sw1
  have hzB:z<B.length:=by omega
  by_cases hb:B[z]=true
  ·simp -implicitDefEqProofs (disch:=first|omega|(simp only[LnZ];omega))[wrap64,(Rs.on H).I,hz2,H.rep.B,hb]
   refine hJ _ _ hlx ⟨t,B,Q,rfl,H.sw1,hBl,hQl,hQ,fun x=>?_,hBQ⟩
   rw[take_mem_succ hlx,hB,hz2]
   constructor
   ·exact .inl
   ·rintro (h | h)
    ·exact h
    ·obtain rfl:x=z:=by omega
     exact (hB x).1 ((tru_get hzB).2 hb)
  ·have hb':B[z]=false:=by simpa using hb
   have hcs:=count_set hzB hb'
   simp -implicitDefEqProofs (disch:=first|omega|(simp only[LnZ];omega))[wrap64,(Rs.on H).I,hz2,H.rep.B,hb']
   refine H.storeF true (i:=z) hzB rfl rfl trivial rfl fun h4 H=>?_
   simp -implicitDefEqProofs (disch:=first|omega|(simp only[LnZ];omega))[wrap64,(Rs.on H).I,hz2]
   refine H.sw1.app1 (z:Int) rfl rfl rfl ⟨by omega,by omega⟩ rfl rfl (by omega) (by omega) fun t3 h7 H=>?_
   simp -implicitDefEqProofs (disch:=omega)[wrap64]
   refine hJ _ _ hlx ⟨t3,_,_,rfl,H,by simpa using hBl,by simp;omega,?_,fun x=>?_,fun x=>?_⟩
   ·intro y hy
    rcases List.mem_append.1 hy with hy | hy
    ·exact hQ y hy
    ·exact⟨z,by simpa using hy,by omega⟩
   ·rw[tru_set hzB,hB,take_mem_succ hlx,hz2]
    exact or_congr Iff.rfl (by omega)
   ·rw[tru_set hzB,hBQ]
    simp[Int.ofNat_inj]
 simp -implicitDefEqProofs (disch:=omega)[wrap64]
 rw[List.take_of_length_le (by omega)] at hB
 have hI:Srch E (fun z=>(z:Int)∈S) (tru B) (fun z=>(z:Int)∈Q.drop 0):=Srch.init hB fun z hz=>by rw[List.drop_zero,← hBQ,hB];exact hz
 refine wp_while (σ:=List Bool×List Int×Nat) (fun s e h'=>∃t,e=[some w,none,none,some b,some t,none,some (.int .i64 s.2.2),none,none] ∧
   HS h [ow t s.2.1,ow b s.1] h'∧s.1.length=G.length∧s.2.1.length+s.1.count false=G.length∧s.2.2≤s.2.1.length∧(∀z∈s.2.1,∃q:Nat,z=q∧q<G.length)∧(∀x:Nat,tru s.1 x↔(x:Int)∈s.2.1)∧Srch E (fun z=>(z:Int)∈S) (tru s.1) (fun z=>(z:Int)∈s.2.1.drop s.2.2))
  (fun s=>G.length-s.2.2) (B,Q,0) ⟨t,by simp,H,hBl,hQl,by dsimp only;omega,hQ,hBQ,hI⟩ ?_
 rintro J ⟨B,Q,i⟩ _ h4 hJ ⟨t,rfl,H,hBl,hQl,hiQ,hQ,hBQ,hI⟩
 dsimp only at H hBl hQl hiQ hQ hBQ hI
 simp -implicitDefEqProofs (disch:=first|omega|(simp only[LnZ];omega))[wrap64,H.rep.len]
 refine IteW.mkr (fun h0=>?_) (fun h0=>?_)
 ·simp -implicitDefEqProofs (disch:=omega)[wrap64]
  have hd:Q.drop i=[]:=List.drop_eq_nil_of_le (by omega)
  rw[hd] at hI
  refine RetK.keep (hk _ _ ⟨Q,H.sw1.drop,by omega,fun z hz=>?_,fun x=>?_⟩)
  ·obtain⟨q,rfl,h2⟩:=hQ z hz;omega
  ·rw[← hBQ];exact hI.done (by simp)
 have hiQ2:i<Q.length:=by omega
 obtain⟨q,hq,hqG⟩:=hQ _ (List.getElem_mem hiQ2)
 obtain⟨u,hu0,Ru⟩:=Rw.ldL hqG
 have hul:=Ru.lt
 have hqB:tru B q:=by rw[hBQ,← hq];exact List.getElem_mem hiQ2
 simp -implicitDefEqProofs (disch:=omega)[wrap64]
 refine wp_count G[q].length (fun j e h'=>∃(t:Value) (B':List Bool) (W:List Int),e=[some w,none,none,some b,some t,none,some (.int .i64 i),some (.int .i64 j),none] ∧
   HS h [ow t (Q++W),ow b B'] h'∧B'.length=G.length∧(Q++W).length+B'.count false=G.length∧(∀z∈Q++W,∃q:Nat,z=q∧q<G.length)∧(∀x:Nat,tru B' x↔(x:Int)∈Q++W)∧Srch E (fun z=>(z:Int)∈S) (tru B') (fun z=>(z:Int)∈(Q++W).drop i) ∧
   ∀j' (hj':j'<G[q].length),j'<j→∀y:Nat,G[q][j']=y→tru B' y) ⟨t,B,[],by simp,by simpa using H,hBl,by simpa using hQl,by simpa using hQ,by simpa using hBQ,by simpa using hI,fun j' _ hj'=>absurd hj' (Nat.not_lt_zero j')⟩ ?_
 rintro J2 j _ h5 hJ2 hj ⟨t2,B2,W,rfl,H,hBl2,hQl2,hQ2,hBQ2,hI2,hpr⟩
 have hiW:i<(Q++W).length:=by simp;omega
 have hqi:(Q++W)[i]=(q:Int):=by rw[List.getElem_append_left hiQ2];exact hq
 have hu:=hload_le H.base hu0
 simp -implicitDefEqProofs (disch:=first|omega|(simp only[LnZ];omega))[wrap64,H.rep.I,hqi,(Rw.on H).X (n:=1) rfl,hu,(Ru.on H).len]
 refine IteW.mk (fun hlt2=>?_) (fun hge2=>?_)
 ·have hjl:j<G[q].length:=by omega
  obtain⟨y,hy,hxy,hyG⟩:=hG.get hqG hjl
  have H:=H.sw1
  have hyB:y<B2.length:=by omega
  have hpr2:∀B3,tru B3 y→(∀z,tru B2 z→tru B3 z)→∀j' (hj':j'<G[q].length),j'<j+1→∀y:Nat,G[q][j']=y→tru B3 y:=by
   intro B3 h1 h2 j' hj' hlt y' hy'
   by_cases e:j'=j
   ·subst e
    rw[hy] at hy'
    obtain rfl:y=y':=by omega
    exact h1
   ·exact h2 _ (hpr j' hj' (by omega) y' hy')
  have hqB2:tru B2 q:=by rw[hBQ2,← hqi];exact List.getElem_mem hiW
  by_cases hb:B2[y]=true
  ·simp -implicitDefEqProofs (disch:=first|omega|(simp only[LnZ];omega))[wrap64,H.sw1.rep.I,hqi,(Rw.on H).X (n:=1) rfl,hu,(Ru.on H).I,hy,H.rep.B,hb]
   exact hJ2 _ _ hjl ⟨t2,B2,W,rfl,H.sw1,hBl2,hQl2,hQ2,hBQ2,hI2,hpr2 _ ((tru_get hyB).2 hb) fun _ h=>h⟩
  ·have hb':B2[y]=false:=by simpa using hb
   simp -implicitDefEqProofs (disch:=first|omega|(simp only[LnZ];omega))[wrap64,H.sw1.rep.I,hqi,(Rw.on H).X (n:=1) rfl,hu,(Ru.on H).I,hy,H.rep.B,hb']
   refine H.storeF true (i:=y) hyB rfl rfl trivial rfl fun h6 H=>?_
   have hcs:=count_set hyB hb'
   simp -implicitDefEqProofs (disch:=omega)[wrap64]
   refine H.sw1.app1 (y:Int) rfl rfl rfl ⟨by omega,by omega⟩ rfl rfl (by omega) (by omega) fun t3 h7 H=>?_
   simp -implicitDefEqProofs (disch:=omega)[wrap64]
   have hassoc:Q++W++[(y:Int)]=Q++(W++[(y:Int)]):=List.append_assoc _ _ _
   rw[hassoc] at H
   refine hJ2 _ _ hjl ⟨t3,_,W++[(y:Int)],rfl,H,by simpa using hBl2,by simp at hQl2 ⊢;omega,?_,fun x=>?_,hI2.add (x:=q) (y:=y) hqB2 hxy (fun z=>tru_set hyB) (fun z=>?_),hpr2 _ ((tru_set hyB).2 (.inr rfl)) fun z hz=>(tru_set hyB).2 (.inl hz)⟩
   ·intro z hz
    rw[← hassoc] at hz
    rcases List.mem_append.1 hz with hz | hz
    ·exact hQ2 z hz
    ·exact⟨y,by simpa using hz,hyG⟩
   ·rw[tru_set hyB,hBQ2,← hassoc]
    simp[Int.ofNat_inj,or_assoc]
   ·rw[← hassoc,List.drop_append_of_le_length (by omega)]
    simp[Int.ofNat_inj]
 ·simp -implicitDefEqProofs (disch:=omega)[wrap64]
  refine hJ (B2,Q++W,i+1) _ _ ?_ ⟨t2,rfl,H,hBl2,hQl2,by dsimp only;omega,hQ2,hBQ2,hI2.drop (x:=q) (fun y hxy=>?_) (fun z hz=>?_)⟩
  ·dsimp only;omega
  ·exact hG.all hqG (C:=tru B2) (fun j' hj' y hy=>hpr j' hj' (by omega) y hy) hxy
  ·dsimp only
   rw[List.drop_eq_getElem_cons hiW,hqi] at hz
   rcases List.mem_cons.1 hz with hz | hz
   ·exact .inr (by omega)
   ·exact .inl hz
structure LpI (E:Nat→Nat→Prop) (n q:Nat) (B:List Bool) (Q:List Int) (i:Nat):Prop where
 len:B.length=n
 size:Q.length+2048*B.count false≤2048*(n+1)
 le:i≤Q.length
 snd:∀z∈Q,∃p:Nat,z=p∧p<n∧∃y,E q y∧Rch E y p
 start:∀y,E q y→(y:Int)∈Q
 seen:∀x,tru B x→∀y,E x y→(y:Int)∈Q
 past:∀j (hj:j<Q.length),j<i→Q[j]≠q∧tru B Q[j].toNat
theorem LpI.done {E:Nat→Nat→Prop}{n q:Nat}{B:List Bool}{Q:List Int}{i:Nat}(h:LpI E n q B Q i) (hi:Q.length≤i):¬Cyc E q:=by
 rintro⟨y,h1,h2⟩
 have hm:((q:Nat):Int)∈Q:=by
  refine h2.closed (C:=fun x=>(x:Int)∈Q) (fun u v hu huv=>?_) (h.start y h1)
  obtain⟨j,hj,h3⟩:=List.mem_iff_getElem.1 hu
  have h4:=(h.past j hj (by omega)).2
  rw[h3] at h4
  exact h.seen u h4 v huv
 obtain⟨j,hj,h3⟩:=List.mem_iff_getElem.1 hm
 exact (h.past j hj (by omega)).1 h3
theorem c_l7Loop {h:Heap}{w:Value}{G:List (List Int)}{E:Nat→Nat→Prop}(Rw:Rep h w G) (hG:Adj E G) (hrow:∀x (hx:x<G.length),G[x].length≤2048) (hGl:G.length≤1048576) {q:Nat}(hq:q<G.length) :
  CallE Tryz.prog fn_spec_l7Loop [w,.int .i64 q] h (fun u h'=>h.le h'∧∃r:Bool,u=.bool r∧(r=true↔Cyc E q)):=by
 refine CallE.gen fun k hk=>EN_spec_l7Loop rfl ?_
 obtain⟨u,hu0,Ru⟩:=Rw.ldL hq
 have hul:=hrow q hq
 simp -implicitDefEqProofs (disch:=omega)[wrap64]
 refine wp_count G[q].length (fun i e h'=>e=[some w,some (.int .i64 q),none,some (.int .i64 i),none,none,none,none]∧h'=h∧∀(j:Nat) (hj:j<G[q].length),j<i→G[q][j]≠q) ⟨rfl,rfl,fun j _ hj=>absurd hj (Nat.not_lt_zero j)⟩ ?_
 rintro J i _ h hJ hi ⟨rfl,rfl,hn⟩
 simp -implicitDefEqProofs (disch:=first|omega|(simp only[LnZ];omega))[wrap64,Rw.X (n:=1) rfl,hu0,Ru.I]
 refine IteW.mk (fun hlt=>?_) (fun hge=>?_)
 ·have hlx:i<G[q].length:=by omega
  simp -implicitDefEqProofs (disch:=first|omega|(simp only[LnZ];omega))[wrap64,Rw.X (n:=1) rfl,hu0,Ru.I]
  refine IteW.mk (fun he=>?_) (fun he=>?_)
  ·simp -implicitDefEqProofs (disch:=omega)[wrap64]
   refine RetK.keep (hk _ _ ⟨Heap.le.refl _,true,rfl,?_⟩)
   simp only[true_iff]
   obtain⟨y,h1,h2,_⟩:=hG.get hq hlx
   obtain rfl:y=q:=by rw[he] at h1;omega
   exact⟨y,h2,.refl _⟩
  ·simp -implicitDefEqProofs (disch:=omega)[wrap64]
   refine hJ _ _ hlx ⟨rfl,rfl,fun j hj hji=>?_⟩
   by_cases hji2:j=i
   ·subst hji2;exact he
   ·exact hn j hj (by omega)
 clear hn
 simp -implicitDefEqProofs (disch:=first|omega|(simp only[LnZ];omega))[wrap64,Rw.len]
 refine HS.init.mks (α:=Bool) (z:=false) rfl rfl own_false (Nat.le_refl _) (by omega) (by omega) fun b h1 H=>?_
 have hu:=hload_le H.base hu0
 simp -implicitDefEqProofs (disch:=first|omega|(simp only[LnZ];omega))[wrap64,(Rw.on H).X (n:=1) rfl,hu]
 refine H.appPL (α:=Int) (l2:=G[q]) rfl rfl (Ru.on H) rfl rfl (by omega) fun t h2 H=>?_
 simp -implicitDefEqProofs (disch:=omega)[wrap64]
 have hmem:=hG.mem q hq
 have hI:LpI E G.length q (List.replicate G.length false) G[q] 0:=by
  refine⟨by simp,by simp;omega,by omega,fun z hz=>?_,fun y hy=>(hmem y).2 ⟨y,rfl,hy⟩,fun x hx=>absurd hx tru_replicate,fun j _ hj=>absurd hj (Nat.not_lt_zero j)⟩
  obtain⟨y,rfl,h2⟩:=(hmem z).1 hz
  exact⟨y,rfl,(hG.lt _ _ h2).2,y,h2,.refl _⟩
 refine wp_while (σ:=List Bool×List Int×Nat) (fun s e h'=>∃t,e=[some w,some (.int .i64 q),none,none,some b,some t,some (.int .i64 s.2.2),none] ∧
   HS h [ow t s.2.1,ow b s.1] h'∧LpI E G.length q s.1 s.2.1 s.2.2) (fun s=>s.1.count false*2049+(s.2.1.length-s.2.2)) (List.replicate G.length false,G[q],0) ⟨t,by simp,H,hI⟩ ?_
 rintro J2 ⟨B,Q,i⟩ _ h3 hJ2 ⟨t,rfl,H,hI⟩
 dsimp only at H hI
 have hsz:=hI.size
 have hle:=hI.le
 have hBl:=hI.len
 simp -implicitDefEqProofs (disch:=first|omega|(simp only[LnZ];omega))[wrap64,H.rep.len]
 refine IteW.mkr (fun h0=>?_) (fun h0=>?_)
 ·simp -implicitDefEqProofs (disch:=omega)[wrap64]
  exact RetK.keep (hk _ _ ⟨H.base,false,rfl,by simpa using hI.done (by omega)⟩)
 have hiQ:i<Q.length:=by omega
 obtain⟨p,hp,hpn,y,hy1,hy2⟩:=hI.snd _ (List.getElem_mem hiQ)
 by_cases hpq:p=q
 ·have hp2:Q[i]=(q:Int):=by rw[hp,hpq]
  simp -implicitDefEqProofs (disch:=first|omega|(simp only[LnZ];omega))[wrap64,H.rep.I,hp2]
  refine RetK.keep (hk _ _ ⟨H.base,true,rfl,?_⟩)
  simp only[true_iff]
  exact⟨y,hy1,hpq▸hy2⟩
 have hpq2:¬((p:Int)=q):=by omega
 have H:=H.sw1
 have hpB:p<B.length:=by omega
 have hpast:∀(B':List Bool) (W:List Int),(∀x,tru B x→tru B' x)→tru B' p→∀j (hj:j<(Q++W).length),j<i+1→(Q++W)[j]≠q∧tru B' (Q++W)[j].toNat:=by
  intro B' W h1 h2 j hj hji
  have hjQ:j<Q.length:=by omega
  rw[List.getElem_append_left hjQ]
  by_cases e:j=i
  ·subst e
   rw[hp]
   exact⟨hpq2,by simpa using h2⟩
  ·have:=hI.past j hjQ (by omega)
   exact⟨this.1,h1 _ this.2⟩
 by_cases hb:B[p]=true
 ·simp -implicitDefEqProofs (disch:=first|omega|(simp only[LnZ];omega))[wrap64,H.sw1.rep.I,hp,hpq2,H.rep.B,hb]
  refine hJ2 (B,Q,i+1) _ _ ?_ ⟨t,rfl,H.sw1,hI.len,hsz,by dsimp only;omega,hI.snd,hI.start,hI.seen,?_⟩
  ·dsimp only;omega
  ·dsimp only
   have:=hpast B [] (fun _ h=>h) ((tru_get hpB).2 hb)
   simpa using this
 ·have hb':B[p]=false:=by simpa using hb
  obtain⟨v,hv0,Rv⟩:=Rw.ldL hpn
  have hrp:=hrow p hpn
  have hcs:=count_set hpB hb'
  simp -implicitDefEqProofs (disch:=first|omega|(simp only[LnZ];omega))[wrap64,H.sw1.rep.I,hp,hpq2,H.rep.B,hb']
  refine H.storeF true (i:=p) hpB rfl rfl trivial rfl fun h4 H=>?_
  have hv:=hload_le H.base hv0
  simp -implicitDefEqProofs (disch:=first|omega|(simp only[LnZ];omega))[wrap64,(Rw.on H).X (n:=1) rfl,hv]
  refine H.sw1.appL rfl rfl (Rv.on H) rfl rfl (by omega) (by omega) fun t3 h5 H=>?_
  simp -implicitDefEqProofs (disch:=omega)[wrap64]
  have hmp:=hG.mem p hpn
  refine hJ2 (B.set p true,Q++G[p],i+1) _ _ ?_ ⟨t3,rfl,H,by simpa using hI.len,by simp;omega,by simp;omega,?_,?_,?_,hpast _ _ (fun x hx=>(tru_set hpB).2 (.inl hx)) ((tru_set hpB).2 (.inr rfl))⟩
  ·simp;omega
  ·intro z hz
   rcases List.mem_append.1 hz with hz | hz
   ·exact hI.snd z hz
   ·obtain⟨y',rfl,h2⟩:=(hmp z).1 hz
    exact⟨y',rfl,(hG.lt _ _ h2).2,y,hy1,hy2.snoc h2⟩
  ·intro y' hy'
   exact List.mem_append_left _ (hI.start y' hy')
  ·intro x hx y' hxy
   rcases (tru_set hpB).1 hx with hx | rfl
   ·exact List.mem_append_left _ (hI.seen x hx y' hxy)
   ·exact List.mem_append_right _ ((hmp _).2 ⟨y',rfl,hxy⟩)
theorem ok_one {n:Int}(h:-9223372036854775808≤n∧n<9223372036854775808):∀x∈[n],Flat.ok x:=by
 intro x hx
 obtain rfl:x=n:=by simpa using hx
 exact h
theorem c_spec_LiveStates {h:Heap}{v:Value}{a:Aut}(Ra:Rep h v a) (ha:a.Ok):CallE Tryz.prog fn_spec_LiveStates [v] h (fun u h'=>∃L:List Bool,HS h [ow u L] h'∧L.length=a.acc.length∧∀q,tru L q↔q<a.acc.length∧a.Live q):=by
 obtain⟨v1,v2,v3,rfl,R1,R2,R3⟩:=Rep_Aut.1 Ra
 refine CallE.gen fun k hk=>EN_spec_LiveStates rfl ?_
 have hn:=ha.n
 simp -implicitDefEqProofs (disch:=omega)[wrap64]
 refine HS.init.bls0 Bool fun o h1 H=>?_
 simp -implicitDefEqProofs (disch:=omega)[wrap64]
 refine (c_spec_AutomatonValid (Ra.on H)).go ?_
 rintro _ h1 ⟨rfl,rfl⟩
 simp -implicitDefEqProofs (disch:=first|omega|(simp only[LnZ];omega))[wrap64,ha]
 refine (c_l7Next (Ra.on H) ha).go ?_
 rintro w h2 ⟨G,H2,hG,hGl,hrow⟩
 have H:=H2.app H
 have H:=H.sw1
 simp -implicitDefEqProofs (disch:=omega)[wrap64]
 refine wp_count a.acc.length (fun i e h'=>∃(o:Value) (L:List Bool),e=[none,some (.agg #[v1,v2,v3]),none,some o,some w,some (.int .i64 i),none,none,none]∧HS h [ow o L,ow w G] h'∧L.length=i∧∀q,tru L q↔q<i∧a.Live q) ⟨o,[],by simp,H,rfl,fun q=>by simp[tru]⟩ ?_
 rintro J i _ h3 hJ hi ⟨o,L,rfl,H,hLl,hL⟩
 simp -implicitDefEqProofs (disch:=first|omega|(simp only[LnZ];omega))[wrap64,(R2.on H).len]
 refine IteW.mk (fun hlt=>?_) (fun hge=>?_)
 ·have hin:i<a.acc.length:=by omega
  simp -implicitDefEqProofs (disch:=omega)[wrap64]
  refine H.bls (α:=Int) [(i:Int)] (by rfl) rfl (ok_one (by omega)) (by decide) fun s h4 H=>?_
  simp -implicitDefEqProofs (disch:=omega)[wrap64]
  have hS1:∀z∈[(i:Int)],0≤z∧z<(G.length:Int):=by
   intro z hz
   have hxi:z=i:=by simpa using hz
   omega
  refine (c_l7Reach (S:=[(i:Int)]) H.sw2.rep H.rep hG hS1 (by omega)).go ?_
  rintro qv h5 ⟨Q,H5,hQl,hQn,hQ⟩
  have H:=H5.app H.drop
  simp -implicitDefEqProofs (disch:=omega)[wrap64]
  refine wp_count Q.length (fun k e h'=>∃(r:Bool),e=[none,some (.agg #[v1,v2,v3]),none,some o,some w,some (.int .i64 i),some qv,some (.bool r),some (.int .i64 k)]∧HS h [ow qv Q,ow o L,ow w G] h'∧(r=true→a.Live i)∧∀j (hj:j<Q.length),j<k→r=false→¬(tru a.acc Q[j].toNat∧Cyc a.E Q[j].toNat)) ⟨false,by simp,H,by simp,fun j _ hj=>absurd hj (Nat.not_lt_zero j)⟩ ?_
  rintro J2 k _ h6 hJ2 hk2 ⟨r,rfl,H,hr1,hr2⟩
  simp -implicitDefEqProofs (disch:=first|omega|(simp only[LnZ];omega))[wrap64,H.rep.len]
  by_cases hx:k<Q.length∧r=false
  ·obtain⟨hkl,rfl⟩:=hx
   obtain⟨hz0,hz1⟩:=hQn _ (List.getElem_mem hkl)
   obtain⟨z,hz⟩:∃z:Nat,Q[k]=z:=⟨Q[k].toNat,by omega⟩
   have hzG:z<G.length:=by omega
   have hzr:Rch a.E i z:=by
    have h1:((z:Nat):Int)∈Q:=by rw[← hz];exact List.getElem_mem hkl
    obtain⟨i',h2,h3⟩:=(hQ z).1 h1
    obtain rfl:i'=i:=by simpa[Int.ofNat_inj] using h2
    exact h3
   have hnext:∀r':Bool,(r'=true↔tru a.acc z∧Cyc a.E z)→(r'=true→a.Live i)∧∀j (hj:j<Q.length),j<k+1→r'=false→¬(tru a.acc Q[j].toNat∧Cyc a.E Q[j].toNat):=by
    intro r' hr'
    refine⟨fun h=>⟨z,hzr,(hr'.1 h).2,(hr'.1 h).1⟩,fun j hj hjk hf=>?_⟩
    by_cases e:j=k
    ·subst e
     rw[hz]
     intro hh
     have:=hr'.2 (by simpa using hh)
     rw[hf] at this;simp at this
    ·exact hr2 j hj (by omega) rfl
   by_cases hac:tru a.acc z
   ·have hac2:=(tru_get (by omega:z<a.acc.length)).1 hac
    simp -implicitDefEqProofs (disch:=first|omega|(simp only[LnZ];omega))[wrap64,hkl,H.rep.I,hz,(R2.on H).B,hac2]
    refine (c_l7Loop H.sw2.rep hG hrow (by omega) hzG).go ?_
    rintro _ h7 ⟨l7,r',rfl,hr'⟩
    have H:=H.le l7
    simp -implicitDefEqProofs (disch:=omega)[wrap64]
    have h8:=hnext r' (by rw[hr'];simp[hac])
    exact hJ2 _ _ hkl ⟨r',by simp,H,h8.1,h8.2⟩
   ·have hac2:a.acc[z]'(by omega)=false:=by
     have:=mt (tru_get (by omega:z<a.acc.length)).2 hac
     simpa using this
    simp -implicitDefEqProofs (disch:=first|omega|(simp only[LnZ];omega))[wrap64,hkl,H.rep.I,hz,(R2.on H).B,hac2]
    have h8:=hnext false (by simp[hac])
    exact hJ2 _ _ hkl ⟨false,by simp,H,h8.1,h8.2⟩
  ·have hfin:r=true↔a.Live i:=by
    refine⟨hr1,fun ⟨t,h1,h2,h3⟩=>?_⟩
    cases r with
    | true=>rfl
    | false=>
     exfalso
     have hkl:¬k<Q.length:=fun h=>hx ⟨h,rfl⟩
     have hm:((t:Nat):Int)∈Q:=(hQ t).2 ⟨i,by simp,h1⟩
     obtain⟨j,hj,h4⟩:=List.mem_iff_getElem.1 hm
     refine hr2 j hj (by omega) rfl ?_
     rw[h4]
     exact⟨by simpa using h3,by simpa using h2⟩
   have hstep:∀q,tru (L++[r]) q↔q<i+1∧a.Live q:=by
    intro q
    by_cases e:q=i
    ·subst e
     rw[← hfin]
     simp[tru,← hLl]
    ·have h1:tru (L++[r]) q↔tru L q:=by
      simp only[tru,List.getD_eq_getElem?_getD]
      by_cases h2:q<L.length
      ·rw[List.getElem?_append_left h2]
      ·rw[List.getElem?_eq_none (by simp;omega),List.getElem?_eq_none (by omega)]
     rw[h1,hL]
     constructor
     ·rintro⟨h2,h3⟩;exact⟨by omega,h3⟩
     ·rintro⟨h2,h3⟩;exact⟨by omega,h3⟩
   have hcase:(¬k<Q.length)∨(k<Q.length∧r=true):=by
    by_cases hkl:k<Q.length
    ·exact .inr ⟨hkl,by cases r with | true=>rfl | false=>exact absurd ⟨hkl,rfl⟩ hx⟩
    ·exact .inl hkl
   have H:=H.drop
   rcases hcase with hkl | ⟨hkl,rfl⟩
   ·simp -implicitDefEqProofs (disch:=first|omega|(simp only[LnZ];omega))[wrap64,hkl]
    refine H.app1 r rfl rfl rfl trivial rfl rfl (by omega) (by omega) fun o' h7 H=>?_
    simp -implicitDefEqProofs (disch:=omega)[wrap64]
    exact hJ _ _ hin ⟨o',_,by simp,H,by simp[hLl],hstep⟩
   ·simp -implicitDefEqProofs (disch:=first|omega|(simp only[LnZ];omega))[wrap64,hkl]
    refine H.app1 true rfl rfl rfl trivial rfl rfl (by omega) (by omega) fun o' h7 H=>?_
    simp -implicitDefEqProofs (disch:=omega)[wrap64]
    exact hJ _ _ hin ⟨o',_,by simp,H,by simp[hLl],hstep⟩
 ·simp -implicitDefEqProofs (disch:=omega)[wrap64]
  have hia:i=a.acc.length:=by omega
  exact RetK.keep (hk _ _ ⟨L,H.sw1.drop,by omega,fun q=>by rw[hL,hia]⟩)
def gd (l:List Int):Nat→Int:=fun x=>l.getD x 0
theorem gd_get {l:List Int}{i:Nat}(hi:i<l.length):gd l i=l[i]:=by simp[gd,hi]
theorem gd_set {l:List Int}{i:Nat}{v:Int}(hi:i<l.length):gd (l.set i v)=fput (gd l) i v:=by
 funext x
 simp only[gd,fput,List.getD_eq_getElem?_getD,List.getElem?_set]
 by_cases h:i=x
 ·subst h;simp[hi]
 ·simp[h,Ne.symm h]
theorem ite_min {a b:Int}:(if b<a then b else a)=min a b:=by
 split<;>omega
def unv (n:Nat) (f:Nat→Int):Nat:=((List.range n).filter fun x=>decide (x<n∧f x=0)).length
theorem unv_lt {n:Nat}{f f':Nat→Int}{a:Nat}(ha:a<n) (h0:f a=0) (h1:f' a≠0) (h:∀x,x<n→f x≠0→f' x≠0):unv n f'<unv n f:=by
 refine filter_lt_of ?_ ⟨a,by simpa using ha,by simp[h1],by simp[h0,ha]⟩
 intro x hx2
 simp at hx2 ⊢
 exact⟨hx2.1,Classical.byContradiction fun hn=>h x hx2.1 hn hx2.2⟩
@[reducible] def FB (bN bL bQ bG bV:Nat) (vn vl vq w fv:Value) (h:Heap):Prop:=hload h (some (.pointer (some ⟨bN,0,none⟩))) none=some vn∧hload h (some (.pointer (some ⟨bL,0,none⟩))) none=some vl∧hload h (some (.pointer (some ⟨bQ,0,none⟩))) none=some vq ∧
 hload h (some (.pointer (some ⟨bG,0,none⟩))) none=some w∧hload h (some (.pointer (some ⟨bV,0,none⟩))) none=some fv
theorem FB.on {bN bL bQ bG bV:Nat}{vn vl vq w fv:Value}{g h:Heap}{Γ:List HP}(F:FB bN bL bQ bG bV vn vl vq w fv g) (H:HS g Γ h):FB bN bL bQ bG bV vn vl vq w fv h:=
 ⟨hload_le H.base F.1,hload_le H.base F.2.1,hload_le H.base F.2.2.1,hload_le H.base F.2.2.2.1,hload_le H.base F.2.2.2.2⟩
@[reducible] def CHs (vn vl vq:Value) (bS bC bP:Nat) (vs:Value) (N L Q:List Int) (s:TS):List HP:=
 [ow vn N,ow vl L,ow vq Q,ow vs (s.stk.map Int.ofNat),bx bS [vs],bx bC [.int .i64 s.cnt],bx bP [.int .i64 s.prt]]
structure CHl (n:Nat) (N L Q:List Int) (s:TS):Prop where
 hN:N.length=n
 hL:L.length=n
 hQ:Q.length=n
 num:s.num=gd N
 low:s.low=gd L
 part:s.part=gd Q
 cnt:s.cnt+unv n s.num≤n
def CH (g:Heap) (vn vl vq:Value) (bS bC bP n:Nat) (s:TS) (h:Heap):Prop:=∃(N L Q:List Int) (vs:Value),CHl n N L Q s∧HS g (CHs vn vl vq bS bC bP vs N L Q s) h
theorem TL.mono {n:Nat}{E:Nat→Nat→Prop}{gr sc sc':Nat→Prop}{s s1:TS}{a:Nat}(h:TL n E gr s a sc s1) (hs:∀y,sc' y→sc y):TL n E gr s a sc' s1:=
 ⟨h.inv,h.num,h.part,h.stk,h.na,h.cnt,h.fresh,h.black,h.lowa,h.low,h.min,fun y hy=>h.proc y (hs y hy)⟩
def topv (C:List Nat) (m:Nat):Int:=if h:m<C.length then (C[m]:Int) else -1
set_option maxHeartbeats 4000000 in
theorem c_visit {g:Heap}{bN bL bQ bG bV bS bC bP n:Nat}{vn vl vq w fv:Value}{G:List (List Int)}{E:Nat→Nat→Prop}(F:FB bN bL bQ bG bV vn vl vq w fv g) (Rw:Rep g w G) (hG:Adj E G) (hn:G.length=n) (hnl:n≤1048576)
  (hfv:fnOf fv=some (fn_impl_components_1,[],[.pointer (some ⟨bC,0,none⟩),.pointer (some ⟨bN,0,none⟩),.pointer (some ⟨bL,0,none⟩),.pointer (some ⟨bS,0,none⟩),.pointer (some ⟨bG,0,none⟩),.pointer (some ⟨bV,0,none⟩),.pointer (some ⟨bQ,0,none⟩),.pointer (some ⟨bP,0,none⟩)])) :
  ∀(m:Nat) (gr:Nat→Prop) (s:TS) (a:Nat) (h:Heap),unv n s.num=m→CH g vn vl vq bS bC bP n s h→TI n E gr s→a<n→s.num a=0→(∀g,gr g→g∈s.stk→Rch E g a)→(∀g,gr g→g<n∧s.num g≠0) →
  CallE Tryz.prog fn_impl_components_1 [.int .i64 a,.pointer (some ⟨bC,0,none⟩),.pointer (some ⟨bN,0,none⟩),.pointer (some ⟨bL,0,none⟩),.pointer (some ⟨bS,0,none⟩),.pointer (some ⟨bG,0,none⟩),.pointer (some ⟨bV,0,none⟩),.pointer (some ⟨bQ,0,none⟩),.pointer (some ⟨bP,0,none⟩)] h
   (fun u h'=>∃s',CH g vn vl vq bS bC bP n s' h'∧TV n E gr s a s'):=by
 intro m
 induction m using Nat.strongRecOn with
 | ind m ih=>
 rintro gr s a h hm ⟨N,L,Q,vs,hl,H⟩ hI han ha0 hg1 hg2
 have hE:∀x y,E x y→x<n∧y<n:=fun x y hxy=>hn▸hG.lt x y hxy
 have hc:=hI.cnt
 have hcn:=hl.cnt
 have hNl:=hl.hN
 have hLl:=hl.hL
 have hQl:=hl.hQ
 have haG:a<G.length:=by omega
 obtain⟨u,hu0,Ru⟩:=Rw.ldL haG
 have hul:=Ru.lt
 refine CallE.gen fun k hk=>EN_impl_components_1 rfl ?_
 simp -implicitDefEqProofs (disch:=first|omega|(simp only[LnZ];omega))[wrap64,H.sw5.bxld0]
 refine H.sw5.bxst (u:=.int .i64 (s.cnt+1)) rfl rfl rfl rfl (by simp) fun h1 H=>?_
 simp only[setC,cells_int,List.take_zero,List.nil_append] at H
 have H:HS g (bx bC [.int .i64 (s.cnt+1)]::ow vn N::ow vl L::ow vq Q::ow vs (s.stk.map Int.ofNat)::bx bS [vs]::[bx bP [.int .i64 s.prt]]) h1:=H
 have H:=H.bk5
 simp -implicitDefEqProofs (disch:=first|omega|(simp only[LnZ];omega))[wrap64,F.on H,H.sw5.bxld0,H.rep.I]
 refine H.storeF (s.cnt+1) (i:=a) (by omega) rfl rfl ⟨by omega,by omega⟩ rfl fun h2 H=>?_
 have H:=H.sw1
 simp -implicitDefEqProofs (disch:=first|omega|(simp only[LnZ];omega))[wrap64,F.on H,H.sw5.bxld0,H.rep.I]
 refine H.storeF (s.cnt+1) (i:=a) (by omega) rfl rfl ⟨by omega,by omega⟩ rfl fun h3 H=>?_
 have H:=H.sw1
 simp -implicitDefEqProofs (disch:=first|omega|(simp only[LnZ];omega))[wrap64,F.on H,H.sw4.bxld0]
 refine H.sw3.app1 (a:Int) rfl rfl rfl ⟨by omega,by omega⟩ rfl rfl (by simp;omega) (by simp;omega) fun vs1 h4 H=>?_
 have H:=H.bk3
 simp -implicitDefEqProofs (disch:=first|omega|(simp only[LnZ];omega))[wrap64,F.on H]
 refine H.sw4.bxst (u:=vs1) rfl rfl (by rw[H.sw3.rep.cells];rfl) (by rw[H.sw3.rep.cells];simp[H.sw3.rep.one]) (by simp[H.sw3.rep.cells]) fun h5 H=>?_
 have H:HS g [ow vn (N.set a (s.cnt+1)),ow vl (L.set a (s.cnt+1)),ow vq Q,ow vs1 ((s.push a).stk.map Int.ofNat),bx bS [vs1],bx bC [.int .i64 (s.cnt+1)],bx bP [.int .i64 s.prt]] h5:=by
  simpa[setC,H.sw4.rep.cells,TS.push] using H.bk4
 have hl1:CHl n (N.set a (s.cnt+1)) (L.set a (s.cnt+1)) Q (s.push a):=by
  refine⟨by simpa using hNl,by simpa using hLl,hQl,by rw[gd_set (by omega),← hl.num];rfl,by rw[gd_set (by omega),← hl.low];rfl,hl.part,?_⟩
  have h1:unv n (s.push a).num<unv n s.num:=by
   refine unv_lt han ha0 (by simp[TS.push];omega) fun x hx hx0=>?_
   by_cases e:x=a
   ·exact absurd ha0 (e▸hx0)
   ·simp only[TS.push,fput_ne e];exact hx0
  show s.cnt+1+(unv n (s.push a).num:Int)≤n
  omega
 have hT:=TL.start hE hI han ha0 hg1
 simp -implicitDefEqProofs (disch:=first|omega|(simp only[LnZ];omega))[wrap64,F.on H,(Rw.on H).X (n:=1) rfl,hload_le H.base hu0,Ru.len]
 refine wp_count G[a].length (fun j e h'=>e=[some (.int .i64 a),none,some (.pointer (some ⟨bN,0,none⟩)),some (.pointer (some ⟨bL,0,none⟩)),some (.pointer (some ⟨bS,0,none⟩)),none,some (.pointer (some ⟨bV,0,none⟩)),some (.pointer (some ⟨bQ,0,none⟩)),some (.pointer (some ⟨bP,0,none⟩)),none,none,some u,some (.int .i64 G[a].length),some (.int .i64 j)] ∧
  ∃s1,CH g vn vl vq bS bC bP n s1 h'∧TL n E gr s a (fun y=>∃(j':Nat) (hj':j'<G[a].length),j'<j∧G[a][j']=y) s1) ⟨by simp,_,⟨_,_,_,_,hl1,H⟩,hT.mono fun y ⟨_,_,h0,_⟩=>absurd h0 (Nat.not_lt_zero _)⟩ ?_
 clear hl1 hT H hl
 rintro J j _ h6 hJ hj ⟨rfl,s1,⟨N,L,Q,vs,hl,H⟩,hT⟩
 have hNl:=hl.hN
 have hLl:=hl.hL
 have hQl:=hl.hQ
 simp -implicitDefEqProofs (disch:=omega)[wrap64]
 refine IteW.mk (fun hlt=>?_) (fun hge=>?_)
 ·have hjl:j<G[a].length:=by omega
  obtain⟨y,hy,hxy,hyG⟩:=hG.get haG hjl
  have hyn:y<n:=by omega
  have hsc:∀z:Nat,(∃(j':Nat) (hj':j'<G[a].length),j'<j+1∧G[a][j']=z)→(∃(j':Nat) (hj':j'<G[a].length),j'<j∧G[a][j']=z)∨z=y:=by
   rintro z ⟨j',hj',h1,h2⟩
   by_cases e:j'=j
   ·subst e;exact .inr (by omega)
   ·exact .inl ⟨j',hj',by omega,h2⟩
  have hNy:s1.num y=N[y]'(by omega):=by rw[hl.num,gd_get]
  have hQy:s1.part y=Q[y]'(by omega):=by rw[hl.part,gd_get]
  have hLa:s1.low a=L[a]'(by omega):=by rw[hl.low,gd_get]
  by_cases hy0:N[y]'(by omega)=0
  ·have hy0':s1.num y=0:=by rw[hNy,hy0]
   have hgray:=hT.gray hxy hI hg2 han
   have hlt2:unv n s1.num<m:=by
    rw[← hm]
    refine unv_lt han ha0 (by rw[hT.na];omega) fun x hx hx0=>?_
    rw[(hT.num x hx hx0).1];exact hx0
   simp -implicitDefEqProofs (disch:=first|omega|(simp only[LnZ];omega))[wrap64,(Ru.on H).I,hy,F.on H,H.rep.I,hy0,hfv]
   refine (ih (unv n s1.num) hlt2 _ s1 y _ rfl ⟨N,L,Q,vs,hl,H⟩ hT.inv hyn hy0' hgray.1 hgray.2.1).go ?_
   clear H hl hNy hQy hLa
   rintro u' h7 ⟨s2,⟨N2,L2,Q2,vs2,hl,H⟩,hV⟩
   have hLl2:=hl.hL
   have hLa:L2[a]'(by omega)=s2.low a:=by rw[hl.low,gd_get]
   have hLy:L2[y]'(by omega)=s2.low y:=by rw[hl.low,gd_get]
   have H:=H.sw1
   have hla:=H.rep.okI (i:=a) (by omega)
   have hly:=H.rep.okI (i:=y) (by omega)
   simp -implicitDefEqProofs (disch:=first|omega|(simp only[LnZ];omega))[wrap64,F.on H,H.rep.I,ite_min]
   refine H.storeF (min (L2[a]'(by omega)) (L2[y]'(by omega))) (i:=a) (by omega) rfl rfl ⟨by omega,by omega⟩ rfl fun h8 H=>?_
   simp -implicitDefEqProofs (disch:=omega)[wrap64]
   refine hJ _ _ hjl ⟨rfl,s2.lower a (s2.low y),⟨N2,L2.set a (min (L2[a]'(by omega)) (L2[y]'(by omega))),Q2,vs2,⟨hl.hN,by simpa using hLl2,hl.hQ,hl.num,?_,hl.part,hl.cnt⟩,H.sw1⟩,(hT.visit hxy hE ha0 hI hy0' hV).mono hsc⟩
   rw[gd_set (by omega),← hl.low,hLa,hLy]
   rfl
  ·have hy0':s1.num y≠0:=by rw[hNy];exact hy0
   by_cases hp:Q[y]'(by omega)<0
   ·have hl2:(L[a]'(by omega))=s1.low a:=hLa.symm
    have H1:=H.sw1
    have hla:=H1.rep.okI (i:=a) (by omega)
    have hny:=H.rep.okI (i:=y) (by omega)
    simp -implicitDefEqProofs (disch:=first|omega|(simp only[LnZ];omega))[wrap64,(Ru.on H).I,hy,F.on H,H.rep.I,hy0,H.sw2.rep.I,hp,H.sw1.rep.I,ite_min]
    refine H1.storeF (min (L[a]'(by omega)) (N[y]'(by omega))) (i:=a) (by omega) rfl rfl ⟨by omega,by omega⟩ rfl fun h8 H=>?_
    simp -implicitDefEqProofs (disch:=omega)[wrap64]
    refine hJ _ _ hjl ⟨rfl,s1.lower a (s1.num y),⟨N,L.set a (min (L[a]'(by omega)) (N[y]'(by omega))),Q,vs,⟨hl.hN,by simpa using hLl,hl.hQ,hl.num,?_,hl.part,hl.cnt⟩,H.sw1⟩,(hT.seen hxy hE ha0 hI hy0' (by rw[hQy];exact hp)).mono hsc⟩
    rw[gd_set (by omega),← hl.low,hl2,← hNy]
    rfl
   ·simp -implicitDefEqProofs (disch:=first|omega|(simp only[LnZ];omega))[wrap64,(Ru.on H).I,hy,F.on H,H.rep.I,hy0,H.sw2.rep.I,hp]
    exact hJ _ _ hjl ⟨rfl,s1,⟨N,L,Q,vs,hl,H⟩,(hT.skip hI hyn hy0' (by rw[hQy];omega)).mono hsc⟩
 have hall:∀y,E a y→∃(j':Nat) (hj':j'<G[a].length),j'<j∧G[a][j']=y:=by
  intro y hxy
  obtain⟨_,j',hj',h1⟩:=hG.of hxy
  exact⟨j',hj',by omega,h1⟩
 have hLa:s1.low a=L[a]'(by omega):=by rw[hl.low,gd_get]
 have hNa:s1.num a=N[a]'(by omega):=by rw[hl.num,gd_get]
 have hc1:=hT.inv.cnt
 by_cases he:L[a]'(by omega)=N[a]'(by omega)
 case neg=>
  simp -implicitDefEqProofs (disch:=first|omega|(simp only[LnZ];omega))[wrap64,F.on H,H.rep.I,H.sw1.rep.I,he]
  exact RetK.keep (hk _ _ ⟨s1,⟨N,L,Q,vs,hl,H⟩,hT.end1 hall han ha0 hI (by rw[hLa,hNa];exact he)⟩)
 obtain⟨wl,hw,hw2⟩:=hT.stk
 have hlen:s1.stk.length=s.stk.length+(a::wl).length:=by rw[hw];simp
 have hcl:s1.cnt≤n:=by have:=hl.cnt;omega
 have hpr:∀x∈a::wl,x<n:=fun x hx=>hT.inv.stk_lt (by rw[hw];exact List.mem_append_right _ hx)
 simp -implicitDefEqProofs (disch:=first|omega|(simp only[LnZ];omega))[wrap64,F.on H,H.rep.I,H.sw1.rep.I,he]
 refine wp_while (σ:=Nat) (fun m e h'=>m≤(a::wl).length∧e=[some (.int .i64 a),none,none,none,some (.pointer (some ⟨bS,0,none⟩)),none,none,some (.pointer (some ⟨bQ,0,none⟩)),some (.pointer (some ⟨bP,0,none⟩)),none,some (.int .i64 (topv (a::wl) m)),none,none,none] ∧
   ∃Q' vs',Q'.length=n∧gd Q'=(fun x=>if x∈(a::wl).drop m then s1.prt else s1.part x)∧HS g [ow vn N,ow vl L,ow vq Q',ow vs' ((s.stk++(a::wl).take m).map Int.ofNat),bx bS [vs'],bx bC [.int .i64 s1.cnt],bx bP [.int .i64 s1.prt]] h')
  (fun m=>m) (a::wl).length ⟨Nat.le_refl _,by simp[topv],Q,vs,hQl,by rw[List.drop_length];simp[hl.part],by rw[List.take_length,← hw];exact H⟩ ?_
 rintro J2 m _ h7 hJ2 ⟨hml,rfl,Q',vs',hQl',hQ',H⟩
 cases m with
 | zero=>
  have ht:topv (a::wl) 0=a:=by simp[topv]
  simp -implicitDefEqProofs (disch:=first|omega|(simp only[LnZ];omega))[wrap64,ht,H.sw6.bxld0]
  refine H.sw6.bxst (u:=.int .i64 (s1.prt+1)) rfl rfl rfl rfl (by simp) fun h8 H=>?_
  have H:HS g (bx bP [.int .i64 (s1.prt+1)]::ow vn N::ow vl L::ow vq Q'::ow vs' (s.stk.map Int.ofNat)::bx bS [vs']::[bx bC [.int .i64 s1.cnt]]) h8:=by
   simpa[setC] using H
  have H:=H.bk6
  simp -implicitDefEqProofs (disch:=omega)[wrap64]
  exact RetK.keep (hk _ _ ⟨s1.pop s.stk (a::wl),⟨N,L,Q',vs',⟨hl.hN,hl.hL,hQl',hl.num,hl.low,by rw[hQ'];rfl,hl.cnt⟩,H⟩,hT.end2 hE hall han ha0 hI hg2 (by rw[hLa,hNa];exact he) hw⟩)
 | succ m=>
  have hmC:m<(a::wl).length:=by omega
  obtain⟨c,hc'⟩:∃c,(a::wl)[m]=c:=⟨_,rfl⟩
  have hcn:c<n:=hpr c (hc' ▸ List.getElem_mem hmC)
  have ht:¬(topv (a::wl) (m+1)=a):=by
   unfold topv
   split
   ·rename_i hlt2
    simp only[List.getElem_cons_succ]
    have hm2:m<wl.length:=by simpa using hlt2
    have:=(hw2 _ (List.getElem_mem hm2)).2
    omega
   ·omega
  have htm:topv (a::wl) m=c:=by simp only[topv,hmC,dif_pos,hc']
  obtain⟨W,hW⟩:∃W,W=(s.stk++(a::wl).take m).map Int.ofNat:=⟨_,rfl⟩
  have hst:(s.stk++(a::wl).take (m+1)).map Int.ofNat=W++[(c:Int)]:=by
   rw[hW,List.take_add_one,List.getElem?_eq_getElem hmC,hc']
   simp
  have hWl:W.length=s.stk.length+m:=by
   rw[hW]
   simp at hml ⊢
   omega
  rw[hst] at H
  obtain⟨v',hv',H'⟩:=H.sw3.cut (n:=W.length) (esz:=1) (k:=.i64) (by simp)
  rw[List.take_left' rfl] at H'
  have hlen1:(W++[(c:Int)]).length=W.length+1:=by simp
  have hi1:IntKind.i64.wrap ((W.length:Int)+1-1)=W.length:=by rw[wrap64 (by omega) (by omega)];omega
  have H':=H'.bk3
  simp -implicitDefEqProofs (disch:=first|omega|(simp only[LnZ];omega))[wrap64,ht,H.sw4.bxld0,H.sw3.rep.I,hlen1,hi1,hv']
  refine H'.sw4.bxst (u:=v') rfl rfl (by rw[H'.sw3.rep.cells];rfl) (by rw[H'.sw3.rep.cells];simp[H'.sw3.rep.one]) (by simp[H'.sw3.rep.cells]) fun h8 H=>?_
  have H:HS g [ow vn N,ow vl L,ow vq Q',ow v' W,bx bS [v'],bx bC [.int .i64 s1.cnt],bx bP [.int .i64 s1.prt]] h8:=by
   simpa[setC,H'.sw3.rep.cells] using H.bk4
  have hQb:=hT.inv.bnd a han
  simp -implicitDefEqProofs (disch:=first|omega|(simp only[LnZ];omega))[wrap64,F.on H,H.sw6.bxld0,H.sw2.rep.I]
  refine H.sw2.storeF s1.prt (i:=c) (by omega) rfl rfl ⟨by omega,by omega⟩ rfl fun h9 H=>?_
  have H:=H.bk2
  simp -implicitDefEqProofs (disch:=omega)[wrap64]
  refine hJ2 m _ _ (by omega) ⟨by omega,by rw[htm],Q'.set c s1.prt,v',by simpa using hQl',?_,by rw[← hW];exact H⟩
  rw[gd_set (by omega),hQ']
  funext x
  rw[List.drop_eq_getElem_cons hmC,hc']
  by_cases e:x=c
  ·subst e;simp
  ·simp only[fput_ne e,List.mem_cons,e,false_or]
theorem HS.only {g h:Heap}{Γ:List HP}{p:HP}(H:HS g (p::Γ) h):HS g [p] h:=by
 obtain⟨g',r,e,d,hp,H⟩:=H
 exact⟨g',r,e,d,hp,H.base⟩
structure NmI (n:Nat) (f:Nat→Int) (i:Nat) (l:List (Int×Int)) (Q:List Int):Prop where
 len:Q.length=n
 le:l.length≤i
 done:∀x,x<i→mlk l (f x)=some (gd Q x)
 rest:∀x,i≤x→x<n→gd Q x=f x
 bnd:∀a y,mlk l a=some y→0≤y∧y<l.length
 inj:∀a b y,mlk l a=some y→mlk l b=some y→a=b
theorem NmI.old {n:Nat}{f:Nat→Int}{i:Nat}{l:List (Int×Int)}{Q:List Int}{y:Int}(h:NmI n f i l Q) (hi:i<n) (hy:mlk l (f i)=some y):NmI n f (i+1) l (Q.set i y):=by
 have hl:=h.len
 refine⟨by simpa using hl,by have:=h.le;omega,?_,?_,h.bnd,h.inj⟩
 ·intro x hx
  rw[gd_set (by omega)]
  by_cases e:x=i
  ·subst e;simp[hy]
  ·rw[fput_ne e];exact h.done x (by omega)
 ·intro x hx hxn
  rw[gd_set (by omega),fput_ne (by omega)]
  exact h.rest x (by omega) hxn
theorem NmI.new {n:Nat}{f:Nat→Int}{i:Nat}{l:List (Int×Int)}{Q:List Int}(h:NmI n f i l Q) (hi:i<n) (hy:mlk l (f i)=none):NmI n f (i+1) (l++[(f i,(l.length:Int))]) (Q.set i (l.length:Int))∧mlk (l++[(f i,(l.length:Int))]) (f i)=some (l.length:Int):=by
 have hl:=h.len
 have hs:=fun b=>mlk_snoc (y:=(l.length:Int)) (b:=b) hy
 refine⟨⟨by simpa using hl,by have:=h.le;simp;omega,?_,?_,?_,?_⟩,by rw[hs,if_pos rfl]⟩
 ·intro x hx
  rw[gd_set (by omega),hs]
  by_cases e:x=i
  ·subst e;simp
  ·rw[fput_ne e]
   have h1:=h.done x (by omega)
   rw[if_neg]
   ·exact h1
   ·intro e2;rw[← e2,hy] at h1;simp at h1
 ·intro x hx hxn
  rw[gd_set (by omega),fput_ne (by omega)]
  exact h.rest x (by omega) hxn
 ·intro a y ha
  rw[hs] at ha
  split at ha
  ·simp at ha;subst ha;simp;omega
  ·have:=h.bnd a y ha;simp;omega
 ·intro a b y ha hb
  rw[hs] at ha hb
  split at ha
  ·simp at ha
   split at hb
   ·rename_i e1 e2;rw[← e1,← e2]
   ·have:=h.bnd b y hb;omega
  ·split at hb
   ·simp at hb
    have:=h.bnd a y ha;omega
   ·exact h.inj a b y ha hb
theorem NmI.result {n:Nat}{f:Nat→Int}{l:List (Int×Int)}{Q:List Int}(h:NmI n f n l Q):(∀x,x<n→0≤gd Q x∧gd Q x<n)∧∀x y,x<n→y<n→(gd Q x=gd Q y↔f x=f y):=by
 refine⟨fun x hx=>?_,fun x y hx hy=>⟨fun e=>?_,fun e=>?_⟩⟩
 ·have:=h.bnd _ _ (h.done x hx)
  have:=h.le
  omega
 ·have h1:=h.done x hx
  have h2:=h.done y hy
  rw[e] at h1
  exact h.inj _ _ _ h1 h2
 ·have h1:=h.done x hx
  have h2:=h.done y hy
  rw[e,h2] at h1
  simpa using h1.symm
set_option maxHeartbeats 4000000 in
theorem c_components {h:Heap}{w:Value}{G:List (List Int)}{E:Nat→Nat→Prop}(Rw:Rep h w G) (hG:Adj E G) (hnl:G.length≤1048576) :
  CallE Tryz.prog fn_impl_components [w] h (fun u h'=>∃Q:List Int,HS h [ow u Q] h'∧Q.length=G.length∧(∀x,x<G.length→0≤gd Q x∧gd Q x<G.length)∧∀x y,x<G.length→y<G.length→(gd Q x=gd Q y↔Scc E x y)):=by
 refine CallE.gen fun k hk=>EN_impl_components rfl ?_
 simp -implicitDefEqProofs (disch:=omega)[wrap64]
 refine HS.init.alloc rfl fun bG h1 H=>?_
 have H:HS h [bx bG [w]] h1:=by simpa[Rw.cells] using H
 simp -implicitDefEqProofs (disch:=first|omega|(simp only[LnZ];omega))[wrap64,H.bxld0,Rw.len]
 refine H.mks (α:=Int) (z:=0) rfl rfl (own_zero (by decide) (by decide)) (Nat.le_refl _) (by omega) (by omega) fun vn h2 H=>?_
 simp -implicitDefEqProofs (disch:=omega)[wrap64]
 refine H.mks (α:=Int) (z:=0) rfl rfl (own_zero (by decide) (by decide)) (Nat.le_refl _) (by omega) (by omega) fun vl h3 H=>?_
 simp -implicitDefEqProofs (disch:=omega)[wrap64]
 refine H.mks (α:=Int) (z:=0) rfl rfl (own_zero (by decide) (by decide)) (Nat.le_refl _) (by omega) (by omega) fun vq h4 H=>?_
 simp -implicitDefEqProofs (disch:=omega)[wrap64]
 refine H.alloc rfl fun bN h5 H=>?_
 simp -implicitDefEqProofs (disch:=omega)[wrap64]
 refine H.alloc rfl fun bL h6 H=>?_
 simp -implicitDefEqProofs (disch:=omega)[wrap64]
 refine H.alloc rfl fun bQ h7 H=>?_
 simp -implicitDefEqProofs (disch:=omega)[wrap64]
 have R0:=H.sw3.rep
 have R1:=H.sw4.rep
 have R2:=H.sw5.rep
 refine H.sw2.bxst (u:=vn) rfl rfl (by rw[R2.cells];rfl) (by rw[R2.cells];simp[R2.one]) (by simp[R2.cells]) fun h8 H=>?_
 simp -implicitDefEqProofs (disch:=omega)[wrap64]
 refine H.sw2.bxst (u:=vl) rfl rfl (by rw[R1.cells];rfl) (by rw[R1.cells];simp[R1.one]) (by simp[R1.cells]) fun h9 H=>?_
 simp -implicitDefEqProofs (disch:=omega)[wrap64]
 refine H.sw2.bxst (u:=vq) rfl rfl (by rw[R0.cells];rfl) (by rw[R0.cells];simp[R0.one]) (by simp[R0.cells]) fun h10 H=>?_
 have H:HS h [bx bQ [vq],bx bL [vl],bx bN [vn],ow vq (List.replicate G.length (0:Int)),ow vl (List.replicate G.length (0:Int)),ow vn (List.replicate G.length (0:Int)),bx bG [w]] h10:=by
  simpa[setC,R0.cells,R1.cells,R2.cells] using H
 have H:=H.sw3
 simp -implicitDefEqProofs (disch:=first|omega|(simp only[LnZ];omega))[wrap64,H.sw1.bxld0,H.rep.len]
 refine wp_count G.length (fun i e h'=>e=[none,some (.pointer (some ⟨bG,0,none⟩)),none,some (.int .i64 G.length),some (.pointer (some ⟨bN,0,none⟩)),some (.pointer (some ⟨bL,0,none⟩)),some (.pointer (some ⟨bQ,0,none⟩)),none,none,none,none,none,none,none,none,none,none,some (.int .i64 G.length),some (.int .i64 i),none,none,none,none,none] ∧
  ∃Q:List Int,HS h [ow vq Q,bx bQ [vq],bx bL [vl],bx bN [vn],ow vl (List.replicate G.length (0:Int)),ow vn (List.replicate G.length (0:Int)),bx bG [w]] h'∧Q.length=G.length∧∀x,x<i→gd Q x = -1) ⟨by simp,_,H,by simp,fun x hx=>absurd hx (Nat.not_lt_zero x)⟩ ?_
 clear H
 rintro J i _ h11 hJ hi ⟨rfl,Q,H,hQl,hQ⟩
 simp -implicitDefEqProofs (disch:=omega)[wrap64]
 refine IteW.mk (fun hlt=>?_) (fun hge=>?_)
 ·have hin:i<G.length:=by omega
  simp -implicitDefEqProofs (disch:=first|omega|(simp only[LnZ];omega))[wrap64,H.sw1.bxld0,H.rep.I]
  refine H.storeF (-1) (i:=i) (by omega) rfl rfl ⟨by decide,by decide⟩ rfl fun h12 H=>?_
  simp -implicitDefEqProofs (disch:=omega)[wrap64]
  refine hJ _ _ hin ⟨rfl,_,H,by simpa using hQl,fun x hx=>?_⟩
  rw[gd_set (by omega)]
  by_cases e:x=i
  ·subst e;simp
  ·rw[fput_ne e];exact hQ x (by omega)
 have hin:i=G.length:=by omega
 subst hin
 simp -implicitDefEqProofs (disch:=omega)[wrap64]
 refine H.alloc rfl fun bS h12 H=>?_
 simp -implicitDefEqProofs (disch:=omega)[wrap64]
 refine H.alloc rfl fun bC h13 H=>?_
 simp -implicitDefEqProofs (disch:=omega)[wrap64]
 refine H.alloc rfl fun bP h14 H=>?_
 simp -implicitDefEqProofs (disch:=omega)[wrap64]
 refine H.sw1.bxst (u:=.int .i64 0) rfl rfl rfl rfl (by simp) fun h15 H=>?_
 simp -implicitDefEqProofs (disch:=omega)[wrap64]
 refine H.sw1.bxst (u:=.int .i64 0) rfl rfl rfl rfl (by simp) fun h16 H=>?_
 simp -implicitDefEqProofs (disch:=omega)[wrap64]
 refine H.alloc rfl fun bV h17 H=>?_
 simp -implicitDefEqProofs (disch:=omega)[wrap64]
 obtain⟨fv,hfv⟩:∃fv,fv=Value.func (.func fn_impl_components_1) #[] #[.pointer (some ⟨bC,0,none⟩),.pointer (some ⟨bN,0,none⟩),.pointer (some ⟨bL,0,none⟩),.pointer (some ⟨bS,0,none⟩),.pointer (some ⟨bG,0,none⟩),.pointer (some ⟨bV,0,none⟩),.pointer (some ⟨bQ,0,none⟩),.pointer (some ⟨bP,0,none⟩)]:=⟨_,rfl⟩
 have hfn:fnOf fv=some (fn_impl_components_1,[],[.pointer (some ⟨bC,0,none⟩),.pointer (some ⟨bN,0,none⟩),.pointer (some ⟨bL,0,none⟩),.pointer (some ⟨bS,0,none⟩),.pointer (some ⟨bG,0,none⟩),.pointer (some ⟨bV,0,none⟩),.pointer (some ⟨bQ,0,none⟩),.pointer (some ⟨bP,0,none⟩)]):=by subst hfv;rfl
 have hfc:fv.cells = #[fv]:=by subst hfv;rfl
 have hf1:fv.oneCell'=true:=by subst hfv;rfl
 rw[← hfv]
 refine H.bxst (u:=fv) rfl rfl (by rw[hfc];rfl) (by rw[hfc];simp[hf1]) (by simp) fun h18 H=>?_
 have H:HS h [bx bV [fv],bx bP [.int .i64 0],bx bC [.int .i64 0],bx bS [.slice none 0 0],ow vq Q,bx bQ [vq],bx bL [vl],bx bN [vn],ow vl (List.replicate G.length (0:Int)),ow vn (List.replicate G.length (0:Int)),bx bG [w]] h18:=by
  simpa[setC,hfc] using H
 have H:=H.nil_ow (α:=Int)
 have H:=H.sw1.sw11.sw7.sw8.sw9.sw6.sw7.sw8.sw8.sw9.sw10.sw11
 obtain⟨g1,H0,H⟩:=HS.rebase (Δ:=[ow vn (List.replicate G.length (0:Int)),ow vl (List.replicate G.length (0:Int)),ow vq Q,ow (.slice none 0 0) ([]:List Int),bx bS [.slice none 0 0],bx bC [.int .i64 0],bx bP [.int .i64 0]]) (Γ:=[bx bN [vn],bx bL [vl],bx bQ [vq],bx bG [w],bx bV [fv]]) H
 have F:FB bN bL bQ bG bV vn vl vq w fv g1:=⟨H0.bxld0,H0.sw1.bxld0,H0.sw2.bxld0,H0.sw3.bxld0,H0.sw4.bxld0⟩
 have Rw1:=Rw.on H0
 have hg0:∀x,gd (List.replicate G.length (0:Int)) x=0:=by
  intro x
  simp only[gd,List.getD_eq_getElem?_getD,List.getElem?_replicate]
  split<;>rfl
 have hE:=hG.lt
 have hC0:∃s,CH g1 vn vl vq bS bC bP G.length s h18∧TI G.length E (fun _=>False) s∧∀x,x<0→s.num x≠0:=by
  refine⟨⟨gd (List.replicate G.length (0:Int)),gd (List.replicate G.length (0:Int)),gd Q,[],0,0⟩,⟨_,_,Q,.slice none 0 0,⟨by simp,by simp,hQl,rfl,rfl,rfl,?_⟩,H⟩,TI.start (fun x _=>hg0 x) (fun x hx=>hQ x hx) rfl rfl rfl,fun x hx=>absurd hx (Nat.not_lt_zero x)⟩
  have:=List.length_filter_le (fun x=>decide (x<G.length∧gd (List.replicate G.length (0:Int)) x=0)) (List.range G.length)
  simp only[List.length_range] at this
  show (0:Int)+((unv G.length (gd (List.replicate G.length (0:Int))):Nat):Int)≤_
  unfold unv
  omega
 simp -implicitDefEqProofs (disch:=omega)[wrap64]
 refine wp_count G.length (fun i e h'=>e=[none,none,none,none,some (.pointer (some ⟨bN,0,none⟩)),none,some (.pointer (some ⟨bQ,0,none⟩)),none,none,none,none,some (.pointer (some ⟨bV,0,none⟩)),none,none,none,none,none,none,none,some (.int .i64 G.length),some (.int .i64 i),none,none,none] ∧
  ∃s,CH g1 vn vl vq bS bC bP G.length s h'∧TI G.length E (fun _=>False) s∧∀x,x<i→s.num x≠0) ⟨by simp,hC0⟩ ?_
 clear H hC0 hQ hQl hJ
 rintro J2 i _ h19 hJ2 hi2 ⟨rfl,s,⟨N,L,Q,vs,hl,H⟩,hI,hv⟩
 have hNl:=hl.hN
 simp -implicitDefEqProofs (disch:=omega)[wrap64]
 refine IteW.mk (fun hlt2=>?_) (fun hge2=>?_)
 ·have hin:i<G.length:=by omega
  have hNi:s.num i=N[i]'(by omega):=by rw[hl.num,gd_get]
  by_cases h0:N[i]'(by omega)=0
  ·simp -implicitDefEqProofs (disch:=first|omega|(simp only[LnZ];omega))[wrap64,F.on H,H.rep.I,h0,hfn]
   refine (c_visit F Rw1 hG rfl hnl hfn _ (fun _=>False) s i _ rfl ⟨N,L,Q,vs,hl,H⟩ hI hin (by rw[hNi,h0]) (fun _ h=>h.elim) (fun _ h=>h.elim)).go ?_
   rintro u h20 ⟨s2,hC2,hV⟩
   simp -implicitDefEqProofs (disch:=omega)[wrap64]
   refine hJ2 _ _ hin ⟨rfl,s2,hC2,hV.inv,fun x hx=>?_⟩
   by_cases e:x=i
   ·subst e;exact hV.vis
   ·have h1:=hv x (by omega)
    rw[(hV.num x (by omega) h1).1];exact h1
  ·simp -implicitDefEqProofs (disch:=first|omega|(simp only[LnZ];omega))[wrap64,F.on H,H.rep.I,h0]
   refine hJ2 _ _ hin ⟨rfl,s,⟨N,L,Q,vs,hl,H⟩,hI,fun x hx=>?_⟩
   by_cases e:x=i
   ·subst e;rw[hNi];exact h0
   ·exact hv x (by omega)
 have hin:i=G.length:=by omega
 subst hin
 obtain⟨hr1,hr2⟩:=hI.result hv
 have hQl:=hl.hQ
 have H:=H.sw2.only
 simp -implicitDefEqProofs (disch:=omega)[wrap64]
 refine H.mkm (fun n:Int=>.int .i64 n) (fun n:Int=>.int .i64 n) fun bm h20 H=>?_
 have H:=H.sw1
 simp -implicitDefEqProofs (disch:=first|omega|(simp only[LnZ];omega))[wrap64,F.on H,H.rep.len]
 refine wp_count G.length (fun i e h'=>e=[none,none,none,none,none,none,some (.pointer (some ⟨bQ,0,none⟩)),none,none,none,none,none,none,some (.map (some bm)),none,none,none,none,none,none,none,some vq,some (.int .i64 G.length),some (.int .i64 i)] ∧
  ∃(l:List (Int×Int)) (Q:List Int),HS g1 [ow vq Q,mpo (fun n:Int=>.int .i64 n) (fun n:Int=>.int .i64 n) bm l] h'∧NmI G.length s.part i l Q) ⟨by simp[hQl],[],Q,H,hQl,by simp,fun x hx=>absurd hx (Nat.not_lt_zero x),fun x _ _=>by rw[hl.part],fun a y h=>by simp[mlk_nil] at h,fun a b y h=>by simp[mlk_nil] at h⟩ ?_
 clear H hQl hl
 rintro J3 i _ h21 hJ3 hi3 ⟨rfl,l,Q,H,hM⟩
 have hQl:=hM.len
 have hle:=hM.le
 simp -implicitDefEqProofs (disch:=omega)[wrap64]
 refine IteW.mk (fun hlt3=>?_) (fun hge3=>?_)
 ·have hin:i<G.length:=by omega
  have hQi:Q[i]'(by omega)=s.part i:=by rw[← gd_get,hM.rest i (Nat.le_refl _) hin]
  simp -implicitDefEqProofs (disch:=first|omega|(simp only[LnZ];omega))[wrap64,H.rep.I,hQi]
  refine H.sw1.mget (a:=s.part i) rfl rfl keyEq_int ?_
  cases hlk:mlk l (s.part i) with
  | some y=>
   have hyb:=hM.bnd _ _ hlk
   simp -implicitDefEqProofs (disch:=first|omega|(simp only[LnZ];omega))[wrap64,F.on H]
   refine H.sw1.mget (a:=s.part i) rfl rfl keyEq_int ?_
   rw[hlk]
   simp -implicitDefEqProofs (disch:=first|omega|(simp only[LnZ];omega))[wrap64,F.on H,H.rep.I]
   refine H.storeF y (i:=i) (by omega) rfl rfl ⟨by omega,by omega⟩ rfl fun h22 H=>?_
   simp -implicitDefEqProofs (disch:=omega)[wrap64]
   exact hJ3 _ _ hin ⟨rfl,l,_,H,hM.old hin hlk⟩
  | none=>
   obtain⟨hn1,hn2⟩:=hM.new hin hlk
   simp -implicitDefEqProofs (disch:=omega)[wrap64]
   refine H.sw1.mlen rfl ?_
   simp -implicitDefEqProofs (disch:=omega)[wrap64]
   refine H.sw1.mput (a:=s.part i) (v:=(l.length:Int)) rfl rfl rfl keyEq_int hlk fun h22 H=>?_
   simp -implicitDefEqProofs (disch:=first|omega|(simp only[LnZ];omega))[wrap64,F.on H]
   refine H.mget (a:=s.part i) rfl rfl keyEq_int ?_
   rw[hn2]
   have H:=H.sw1
   simp -implicitDefEqProofs (disch:=first|omega|(simp only[LnZ];omega))[wrap64,F.on H,H.rep.I]
   refine H.storeF (l.length:Int) (i:=i) (by omega) rfl rfl ⟨by omega,by omega⟩ rfl fun h23 H=>?_
   simp -implicitDefEqProofs (disch:=omega)[wrap64]
   exact hJ3 _ _ hin ⟨rfl,_,_,H,hn1⟩
 have hin:i=G.length:=by omega
 subst hin
 simp -implicitDefEqProofs (disch:=first|omega|(simp only[LnZ];omega))[wrap64,F.on H]
 obtain⟨hb,hc⟩:=hM.result
 have Hf:=(H.app H0).only
 exact RetK.keep (hk _ _ ⟨Q,Hf,hQl,hb,fun x y hx hy=>by rw[hc x y hx hy,hr2 x y hx hy]⟩)
def cntP (Q:List Int) (i:Nat) (p:Int):Nat:=((List.range i).filter fun y=>decide (gd Q y=p)).length
theorem cntP_succ {Q:List Int}{i:Nat}{p:Int}:cntP Q (i+1) p=cntP Q i p+if gd Q i=p then 1 else 0:=by
 simp only[cntP,List.range_succ,List.filter_append,List.length_append,List.filter_cons,List.filter_nil]
 by_cases h:gd Q i=p<;>simp[h]
theorem cntP_le {Q:List Int}{i:Nat}{p:Int}:cntP Q i p≤i:=by
 have:=List.length_filter_le (fun y=>decide (gd Q y=p)) (List.range i)
 simpa[cntP] using this
theorem c_cyclic {h:Heap}{w:Value}{G:List (List Int)}{E:Nat→Nat→Prop}(Rw:Rep h w G) (hG:Adj E G) (hnl:G.length≤1048576) :
  CallE Tryz.prog fn_impl_cyclic [w] h (fun u h'=>∃C:List Bool,HS h [ow u C] h'∧C.length=G.length∧∀x,x<G.length→(tru C x↔Cyc E x)):=by
 refine CallE.gen fun k hk=>EN_impl_cyclic rfl ?_
 simp -implicitDefEqProofs (disch:=omega)[wrap64]
 refine (c_components Rw hG hnl).go ?_
 rintro p h1 ⟨Q,H,hQl,hQb,hQ⟩
 simp -implicitDefEqProofs (disch:=first|omega|(simp only[LnZ];omega))[wrap64,(Rw.on H).len]
 refine H.mks (α:=Int) (z:=0) rfl rfl (own_zero (by decide) (by decide)) (Nat.le_refl _) (by omega) (by omega) fun z h2 H=>?_
 simp -implicitDefEqProofs (disch:=first|omega|(simp only[LnZ];omega))[wrap64,H.sw1.rep.len]
 refine wp_count G.length (fun i e h'=>e=[some w,none,some p,some z,none,none,none,some p,some (.int .i64 G.length),some (.int .i64 i),none,none]∧∃Z:List Int,HS h [ow z Z,ow p Q] h'∧Z.length=G.length∧∀x,x<G.length→gd Z x=cntP Q i x) ⟨by simp[hQl],_,H,by simp,fun x hx=>by rw[gd_get (by simpa using hx)];simp[cntP]⟩ ?_
 clear H
 rintro J i _ h3 hJ hi ⟨rfl,Z,H,hZl,hZ⟩
 simp -implicitDefEqProofs (disch:=omega)[wrap64]
 refine IteW.mk (fun hlt=>?_) (fun hge=>?_)
 ·have hin:i<G.length:=by omega
  have hq:=hQb i hin
  obtain⟨q,hqi⟩:∃q:Nat,Q[i]'(by omega)=q:=⟨(Q[i]'(by omega)).toNat,by rw[← gd_get];omega⟩
  have hqn:q<G.length:=by rw[gd_get (by omega),hqi] at hq;omega
  have hzq:Z[q]'(by omega)=cntP Q i q:=by rw[← gd_get,hZ q hqn]
  have hcl:=cntP_le (Q:=Q) (i:=i) (p:=q)
  simp -implicitDefEqProofs (disch:=first|omega|(simp only[LnZ];omega))[wrap64,H.sw1.rep.I,hqi,H.rep.I,hzq]
  refine H.storeF ((cntP Q i q:Int)+1) (i:=q) (by omega) rfl rfl ⟨by omega,by omega⟩ rfl fun h4 H=>?_
  simp -implicitDefEqProofs (disch:=omega)[wrap64]
  refine hJ _ _ hin ⟨rfl,_,H,by simpa using hZl,fun x hx=>?_⟩
  rw[gd_set (by omega),cntP_succ,gd_get (by omega),hqi]
  by_cases e:x=q
  ·subst e;simp
  ·rw[fput_ne e,hZ x hx,if_neg (by omega)];simp
 have hin:i=G.length:=by omega
 subst hin
 simp -implicitDefEqProofs (disch:=first|omega|(simp only[LnZ];omega))[wrap64,(Rw.on H).len]
 refine H.mks (α:=Bool) (z:=false) rfl rfl own_false (Nat.le_refl _) (by omega) (by omega) fun c h4 H=>?_
 simp -implicitDefEqProofs (disch:=first|omega|(simp only[LnZ];omega))[wrap64,(Rw.on H).len]
 refine wp_count G.length (fun i e h'=>e=[some w,none,some p,some z,none,some c,none,none,none,none,some (.int .i64 G.length),some (.int .i64 i)]∧∃C:List Bool,HS h [ow c C,ow z Z,ow p Q] h'∧C.length=G.length∧∀x,x<i→(tru C x↔Cyc E x)) ⟨by simp,_,H,by simp,fun x hx=>absurd hx (Nat.not_lt_zero x)⟩ ?_
 clear H hJ
 rintro J i _ h5 hJ hi ⟨rfl,C,H,hCl,hC⟩
 simp -implicitDefEqProofs (disch:=omega)[wrap64]
 refine IteW.mk (fun hlt2=>?_) (fun hge2=>?_)
 ·have hin:i<G.length:=by omega
  have hq:=hQb i hin
  obtain⟨q,hqi⟩:∃q:Nat,Q[i]'(by omega)=q:=⟨(Q[i]'(by omega)).toNat,by rw[← gd_get];omega⟩
  have hqn:q<G.length:=by rw[gd_get (by omega),hqi] at hq;omega
  have hzq:Z[q]'(by omega)=cntP Q G.length q:=by rw[← gd_get,hZ q hqn]
  have hpc:=part_cycle hQ hG.lt hin
  have hcnt:((List.range G.length).filter fun y=>decide (gd Q y=gd Q i)).length=cntP Q G.length q:=by
   rw[gd_get (by omega),hqi];rfl
  rw[hcnt] at hpc
  have hstep:∀b:Bool,(b=true↔Cyc E i)→∀x,x<i+1→(tru (C.set i b) x↔Cyc E x):=by
   intro b hb x hx
   have h1:tru (C.set i b) x↔if x=i then b=true else tru C x:=by
    simp only[tru,List.getD_eq_getElem?_getD,List.getElem?_set]
    by_cases e:i=x
    ·subst e;simp[show i<C.length by omega]
    ·simp[e,Ne.symm e]
   rw[h1]
   split
   ·rename_i e;subst e;exact hb
   ·exact hC x (by omega)
  by_cases h1:(1:Int)<cntP Q G.length q
  ·simp -implicitDefEqProofs (disch:=first|omega|(simp only[LnZ];omega))[wrap64,H.sw2.rep.I,hqi,H.sw1.rep.I,hzq,h1,H.rep.B]
   refine H.storeF true (i:=i) (by omega) rfl rfl trivial rfl fun h6 H=>?_
   simp -implicitDefEqProofs (disch:=omega)[wrap64]
   exact hJ _ _ hin ⟨rfl,_,H,by simpa using hCl,hstep true (by rw[hpc];simp;omega)⟩
  ·obtain⟨u,hu0,Ru⟩:=Rw.ldL hin
   simp -implicitDefEqProofs (disch:=first|omega|(simp only[LnZ];omega))[wrap64,H.sw2.rep.I,hqi,H.sw1.rep.I,hzq,h1,H.rep.B,(Rw.on H).X (n:=1) rfl,hload_le H.base hu0]
   refine (c_Contains_int (Ru.on H)).go ?_
   rintro _ _ ⟨rfl,rfl⟩
   simp -implicitDefEqProofs (disch:=first|omega|(simp only[LnZ];omega))[wrap64,H.rep.B]
   refine H.storeF (decide ((i:Int)∈G[i])) (i:=i) (by omega) rfl rfl trivial rfl fun h6 H=>?_
   simp -implicitDefEqProofs (disch:=omega)[wrap64]
   refine hJ _ _ hin ⟨rfl,_,H,by simpa using hCl,hstep _ ?_⟩
   rw[hpc,decide_eq_true_iff,hG.mem i hin]
   constructor
   ·rintro⟨y,h2,h3⟩
    obtain rfl:i=y:=by omega
    exact .inr h3
   ·rintro (h2 | h2)
    ·omega
    ·exact⟨i,rfl,h2⟩
 have hin:i=G.length:=by omega
 subst hin
 simp -implicitDefEqProofs (disch:=omega)[wrap64]
 exact RetK.keep (hk _ _ ⟨C,H.only,hCl,hC⟩)
theorem c_live {h:Heap}{v:Value}{a:Aut}(Ra:Rep h v a) (ha:a.Ok):CallE Tryz.prog fn_impl_Automaton_live [v] h (fun u h'=>∃L:List Bool,HS h [ow u L] h'∧L.length=a.acc.length∧∀q,tru L q↔q<a.acc.length∧a.Live q):=by
 obtain⟨v1,v2,v3,rfl,R1,R2,R3⟩:=Rep_Aut.1 Ra
 have hn:=ha.n
 refine CallE.gen fun k hk=>EN_impl_Automaton_live rfl ?_
 simp -implicitDefEqProofs (disch:=omega)[wrap64]
 refine (c_next Ra ha).go ?_
 rintro w h1 ⟨G,H,hG,hGl⟩
 simp -implicitDefEqProofs (disch:=omega)[wrap64]
 refine (c_cyclic H.rep hG (by omega)).go ?_
 rintro c h2 ⟨C,H2,hCl,hC⟩
 have H:=H2.app H
 simp -implicitDefEqProofs (disch:=first|omega|(simp only[LnZ];omega))[wrap64,H.sw1.rep.len]
 refine H.mks (α:=Bool) (z:=false) rfl rfl own_false (Nat.le_refl _) (by omega) (by omega) fun o h3 H=>?_
 simp -implicitDefEqProofs (disch:=first|omega|(simp only[LnZ];omega))[wrap64,H.sw2.rep.len]
 refine wp_count G.length (fun i e h'=>e=[none,some (.agg #[v1,v2,v3]),none,some w,some c,some o,none,none,none,some (.int .i64 G.length),some (.int .i64 i),none,none,none]∧∃L:List Bool,HS h [ow o L,ow c C,ow w G] h'∧L.length=G.length∧∀q,tru L q↔q<i∧a.Live q) ⟨by simp,_,H,by simp,fun q=>by simp[tru_replicate]⟩ ?_
 clear H
 rintro J i _ h4 hJ hi ⟨rfl,L,H,hLl,hL⟩
 simp -implicitDefEqProofs (disch:=omega)[wrap64]
 refine IteW.mk (fun hlt=>?_) (fun hge=>?_)
 ·have hin:i<G.length:=by omega
  simp -implicitDefEqProofs (disch:=omega)[wrap64]
  refine H.bls (α:=Int) [(i:Int)] (by rfl) rfl (ok_one (by omega)) (by decide) fun s h4 H=>?_
  simp -implicitDefEqProofs (disch:=omega)[wrap64]
  have hS1:∀z∈[(i:Int)],0≤z∧z<(G.length:Int):=by
   intro z hz
   have hxi:z=i:=by simpa using hz
   omega
  refine (c_reachable (S:=[(i:Int)]) H.sw3.rep H.rep hG hS1 (by simp) (by omega)).go ?_
  rintro r h5 ⟨B,H5,hBl,hB⟩
  have H:=H5.app H.drop
  simp -implicitDefEqProofs (disch:=first|omega|(simp only[LnZ];omega))[wrap64,H.rep.len]
  refine wp_count G.length (fun k e h'=>e=[none,some (.agg #[v1,v2,v3]),none,some w,some c,some o,some (.int .i64 i),none,none,some (.int .i64 G.length),some (.int .i64 i),some r,some (.int .i64 G.length),some (.int .i64 k)]∧∃(L':List Bool),HS h [ow r B,ow o L',ow c C,ow w G] h'∧L'.length=G.length∧(∀q,q≠i→(tru L' q↔q<i∧a.Live q))∧(tru L' i↔∃t,t<k∧tru B t∧tru C t∧tru a.acc t)) ⟨by simp[hBl],L,H,hLl,fun q _=>hL q,by rw[hL];simp⟩ ?_
  rintro J2 k _ h6 hJ2 hk2 ⟨rfl,L',H,hLl',hL1,hL2⟩
  simp -implicitDefEqProofs (disch:=omega)[wrap64]
  refine IteW.mk (fun hlt2=>?_) (fun hge2=>?_)
  ·have hkn:k<G.length:=by omega
   have H:=H.sw1
   have hold:tru L' i↔L'[i]'(by omega)=true:=tru_get (by omega)
   have hstep:∀b:Bool,(b=true↔tru L' i∨(tru B k∧tru C k∧tru a.acc k))→(∀q,q≠i→(tru (L'.set i b) q↔q<i∧a.Live q))∧(tru (L'.set i b) i↔∃t,t<k+1∧tru B t∧tru C t∧tru a.acc t):=by
    intro b hb
    have h1:∀x,tru (L'.set i b) x↔if x=i then b=true else tru L' x:=by
     intro x
     simp only[tru,List.getD_eq_getElem?_getD,List.getElem?_set]
     by_cases e:i=x
     ·subst e;simp[show i<L'.length by omega]
     ·simp[e,Ne.symm e]
    refine⟨fun q hq=>by rw[h1,if_neg hq];exact hL1 q hq,?_⟩
    rw[h1,if_pos rfl,hb,hL2]
    constructor
    ·rintro (⟨t,h2,h3⟩ | h3)
     ·exact⟨t,by omega,h3⟩
     ·exact⟨k,by omega,h3⟩
    ·rintro⟨t,h2,h3⟩
     by_cases e:t=k
     ·subst e;exact .inr h3
     ·exact .inl ⟨t,by omega,h3⟩
   have hgB:=tru_get (B:=B) (i:=k) (by omega)
   have hgC:=tru_get (B:=C) (i:=k) (by omega)
   have hgA:=tru_get (B:=a.acc) (i:=k) (by omega)
   have hfin:∀b:Bool,(b=true↔tru L' i∨(tru B k∧tru C k∧tru a.acc k))→∀h8,HS h [ow o (L'.set i b),ow r B,ow c C,ow w G] h8→J2 [none,some (.agg #[v1,v2,v3]),none,some w,some c,some o,some (.int .i64 i),none,none,some (.int .i64 G.length),some (.int .i64 i),some r,some (.int .i64 G.length),some (.int .i64 ((k+1:Nat):Int))] h8:=
    fun b hb h8 H=>hJ2 _ _ hkn ⟨rfl,_,H.sw1,by simpa using hLl',hstep b hb⟩
   by_cases e0:L'[i]'(by omega)=true
   ·simp -implicitDefEqProofs (disch:=first|omega|(simp only[LnZ];omega))[wrap64,H.sw1.rep.B,H.rep.B,e0]
    refine H.storeF true (i:=i) (by omega) rfl rfl trivial rfl fun h7 H=>?_
    simp -implicitDefEqProofs (disch:=omega)[wrap64]
    exact hfin true (by simp[hold,e0]) _ H
   by_cases e1:B[k]'(by omega)=true
   case neg=>
    simp -implicitDefEqProofs (disch:=first|omega|(simp only[LnZ];omega))[wrap64,H.sw1.rep.B,H.rep.B,e0,e1]
    refine H.storeF false (i:=i) (by omega) rfl rfl trivial rfl fun h7 H=>?_
    simp -implicitDefEqProofs (disch:=omega)[wrap64]
    exact hfin false (by simp[hold,e0,hgB,e1]) _ H
   by_cases e2:C[k]'(by omega)=true
   case neg=>
    simp -implicitDefEqProofs (disch:=first|omega|(simp only[LnZ];omega))[wrap64,H.sw1.rep.B,H.sw2.rep.B,H.rep.B,e0,e1,e2]
    refine H.storeF false (i:=i) (by omega) rfl rfl trivial rfl fun h7 H=>?_
    simp -implicitDefEqProofs (disch:=omega)[wrap64]
    exact hfin false (by simp[hold,e0,hgC,e2]) _ H
   by_cases e3:a.acc[k]'(by omega)=true
   ·simp -implicitDefEqProofs (disch:=first|omega|(simp only[LnZ];omega))[wrap64,H.sw1.rep.B,H.sw2.rep.B,H.rep.B,(R2.on H).B,e0,e1,e2,e3]
    refine H.storeF true (i:=i) (by omega) rfl rfl trivial rfl fun h7 H=>?_
    simp -implicitDefEqProofs (disch:=omega)[wrap64]
    exact hfin true (by simp[hgB,hgC,hgA,e1,e2,e3]) _ H
   ·simp -implicitDefEqProofs (disch:=first|omega|(simp only[LnZ];omega))[wrap64,H.sw1.rep.B,H.sw2.rep.B,H.rep.B,(R2.on H).B,e0,e1,e2,e3]
    refine H.storeF false (i:=i) (by omega) rfl rfl trivial rfl fun h7 H=>?_
    simp -implicitDefEqProofs (disch:=omega)[wrap64]
    exact hfin false (by simp[hold,e0,hgA,e3]) _ H
  ·simp -implicitDefEqProofs (disch:=omega)[wrap64]
   refine hJ _ _ hin ⟨rfl,L',H.drop,hLl',fun q=>?_⟩
   by_cases e:q=i
   ·subst e
    rw[hL2]
    constructor
    ·rintro⟨t,h1,h2,h3,h4⟩
     obtain⟨z,h5,h6⟩:=(hB t).1 h2
     obtain rfl:z=q:=by simpa[Int.ofNat_inj] using h5
     exact⟨by omega,t,h6,(hC t (by rw[← hBl];exact tru_lt h2)).1 h3,h4⟩
    ·rintro⟨_,t,h1,h2,h3⟩
     have htn:t<G.length:=by rw[hGl];exact tru_lt h3
     exact⟨t,by omega,(hB t).2 ⟨q,by simp,h1⟩,(hC t htn).2 h2,h3⟩
   ·rw[hL1 q e]
    constructor
    ·rintro⟨h1,h2⟩;exact⟨by omega,h2⟩
    ·rintro⟨h1,h2⟩;exact⟨by omega,h2⟩
 have hin:i=G.length:=by omega
 subst hin
 simp -implicitDefEqProofs (disch:=omega)[wrap64]
 exact RetK.keep (hk _ _ ⟨L,H.only,by omega,by rw[← hGl];exact hL⟩)
namespace Bf
end Bf
namespace Bf
section
variable {S:List Int}{D:Int→Int→Prop}
theorem Pth.last {x:Int}{l:List Int}(h:Pth S D x l):∃l0,l=l0++[x]:=by
 cases h with
 | one h=>exact⟨[],rfl⟩
 | snoc h e=>exact⟨_,rfl⟩
theorem Pth.head {x:Int}{l:List Int}(h:Pth S D x l):∃s∈S,∃t,l=s::t:=by
 induction h with
 | one h=>exact⟨_,h,[],rfl⟩
 | snoc h e ih=>
  obtain⟨s,hs,t,rfl⟩:=ih
  exact⟨s,hs,t++[_],rfl⟩
def Joined (D:Int→Int→Prop):List Int→Prop
 | x::y::l=>D x y∧Joined D (y::l)
 | _=>True
theorem Joined.snoc {x y:Int}:∀{l:List Int},Joined D (l++[x])→D x y→Joined D (l++[x]++[y])
 | [],_,h=>⟨h,trivial⟩
 | [z],h,h'=>⟨h.1,h',trivial⟩
 | z::z2::l,h,h'=>⟨h.1,Joined.snoc (l:=z2::l) h.2 h'⟩
theorem Pth.joined {x:Int}{l:List Int}(h:Pth S D x l):Joined D l:=by
 induction h with
 | one h=>trivial
 | snoc h e ih=>
  obtain⟨l0,rfl⟩:=h.last
  exact ih.snoc e
theorem Joined.at {D:Int→Int→Prop}:∀{l:List Int},Joined D l→∀(i:Nat) (hi:i+1<l.length),D l[i] l[i+1]
 | [],_,i,hi=>absurd hi (by simp)
 | [x],_,i,hi=>absurd hi (by simp)
 | x::y::l,h,0,_=>h.1
 | x::y::l,h,i+1,hi=>Joined.at (l:=y::l) h.2 i (by simpa using hi)
end
noncomputable def hitL (G:List (List Int)) (S:List Int) (g:Int→Bool):List Int:=match (fin G S).2.find? g with
 | some t=>path G S t
 | none=>[]
def back (G:List (List Int)) (t:Int):Int→Bool:=fun m=>decide (m≠t)&&decide (t∈G.getD m.toNat [])
noncomputable def arn (G:List (List Int)) (t:Int):List Int:=if t∈G.getD t.toNat [] then [t] else hitL G [t] (back G t)
theorem Rch.last {E:Nat→Nat→Prop}{x y z:Nat}(h:E x y) (k:Rch E y z):∃m,Rch E x m∧E m z:=by
 induction k generalizing x with
 | refl=>exact⟨x,.refl _,h⟩
 | step e _ ih=>
  obtain⟨m,h1,h2⟩:=ih e
  exact⟨m,.step h h1,h2⟩
theorem incr_one {n:Int}{t:Int}(h0:0≤t) (h1:t<n):incr n (-1) [t]:=⟨by omega,h1,trivial⟩
theorem arn_ok {G:List (List Int)}(hn:NOk G) {E:Nat→Nat→Prop}(hE:∀x y:Nat,E x y↔x<G.length∧(y:Int)∈G.getD x []) {t:Nat}(ht:t<G.length) (hc:Cyc E t) :
  ∃m:Int,Pth [(t:Int)] (Ed G) m (arn G t)∧Ed G m t∧(arn G t).length≤G.length:=by
 unfold arn
 by_cases hs:(t:Int)∈G.getD (t:Int).toNat []
 ·rw[if_pos hs]
  exact⟨t,.one (by simp),⟨by omega,by omega,hs⟩,by simp;omega⟩
 ·rw[if_neg hs]
  have hS:incr G.length (-1) [(t:Int)]:=incr_one (by omega) (by omega)
  obtain⟨y,h1,h2⟩:=hc
  obtain⟨m,h3,h4⟩:=Rch.last h1 h2
  have hm:(m:Int)∈(fin G [(t:Int)]).2:=(fin_mem hn hS hE).2 ⟨t,by simp,h3⟩
  have hmE:=(hE m t).1 h4
  have hb:back G t m=true:=by
   unfold back
   simp only[Int.toNat_natCast,Bool.and_eq_true,decide_eq_true_eq]
   refine⟨fun e=>hs ?_,hmE.2⟩
   have:m=t:=by omega
   subst this
   rw[Int.toNat_natCast]
   exact hmE.2
  cases hf:(fin G [(t:Int)]).2.find? (back G t) with
  | none=>
   rw[List.find?_eq_none] at hf
   exact absurd hb (by simpa using hf m hm)
  | some q=>
   have hq:=List.mem_of_find?_eq_some hf
   have hqb:=List.find?_some hf
   have hp:=path_ok hn hS hq
   have hin:=(sN_inv hn hS G.length).1.inq q hq
   unfold back at hqb
   simp only[Bool.and_eq_true,decide_eq_true_eq] at hqb
   refine⟨q,?_,⟨hin.1,hin.2.1,hqb.2⟩,?_⟩
   ·unfold hitL;rw[hf];exact hp.2.2
   ·unfold hitL;rw[hf];exact hp.2.1
noncomputable def gA (a:Aut):Int→Bool:=fun t=>a.acc.getD t.toNat false && @decide (Cyc a.E t.toNat) (Classical.propDecidable _)
theorem gA_iff {a:Aut}{t:Int}:gA a t=true↔tru a.acc t.toNat∧Cyc a.E t.toNat:=by simp[gA,tru]
noncomputable def fw (a:Aut):Option Las:=match (fin (nx a) a.init).2.find? (gA a) with
 | some t=>some ⟨vals a (path (nx a) a.init t),vals a (arn (nx a) t++[t])⟩
 | none=>none
section
variable {a:Aut}
theorem LP_of (ha:a.Ok) {S:List Int}{x:Int}{l:List Int}(h:Pth S (Ed (nx a)) x l) (hS:∀s∈S,0≤s):∃s∈S,0≤x∧LP a.edges s.toNat (vals a l) x.toNat∧∀y∈vals a l,0≤y∧y≤7:=by
 induction h with
 | one h=>exact⟨_,h,hS _ h,.nil _,by simp[vals]⟩
 | snoc h e ih=>
  rename_i x y l
  obtain⟨s,hs,h0,h1,h2⟩:=ih
  obtain⟨l0,rfl⟩:=h.last
  rw[vals_snoc]
  obtain⟨f,hf,k1,k2,k3,k4,k5,k6⟩:=ev_ok ha ((nx_Ed ha).1 e)
  obtain⟨p,q,m1,m2,_,_⟩:=ha.tr hf
  refine⟨s,hs,by omega,h1.append (.cons ⟨f,hf,by omega,by omega,k4⟩ (.nil _)),fun z hz=>?_⟩
  rcases List.mem_append.1 hz with hz | hz
  ·exact h2 z hz
  ·obtain rfl:z=ev a x y:=by simpa using hz
   exact⟨k5,k6⟩
theorem fw_some (ha:a.Ok) {l:Las}(h:fw a=some l):(∃(s x:Nat),(s:Int)∈a.init∧LP a.edges s l.stem x∧LP a.edges x l.loop x∧tru a.acc x)∧(∀y∈l.stem,0≤y∧y≤7)∧(∀y∈l.loop,0≤y∧y≤7)∧l.stem.length≤63∧1≤l.loop.length∧l.loop.length≤64:=by
 have hn:=nx_ok ha
 have hlen:=nx_len (a:=a)
 have hS:incr (nx a).length (-1) a.init:=by rw[hlen];exact ha.i
 have h64:=ha.n.2
 unfold fw at h
 split at h
 ·rename_i t hf
  simp only[Option.some.injEq] at h
  subst h
  have ht:=List.mem_of_find?_eq_some hf
  have htg:=gA_iff.1 (List.find?_some hf)
  have hp:=path_ok hn hS ht
  have hin:=(sN_inv hn hS (nx a).length).1.inq t ht
  obtain⟨q,rfl⟩:∃q:Nat,t=q:=⟨t.toNat,by omega⟩
  rw[Int.toNat_natCast] at htg
  obtain⟨m,c1,c2,c3⟩:=arn_ok hn (nx_E ha) (t:=q) (by omega) htg.2
  have c4:=c1.snoc c2
  obtain⟨s,hs,_,p1,p2⟩:=LP_of ha hp.2.2 (fun s hs=>by have:=incr_mem ha.i s hs;omega)
  obtain⟨s',hs',_,p3,p4⟩:=LP_of ha c4 (fun s hs=>by have:s=q:=by simpa using hs
                                                    omega)
  obtain rfl:s'=q:=by simpa using hs'
  rw[Int.toNat_natCast] at p1 p3
  have hs0:=incr_mem ha.i s hs
  have l1:=vals_len (a:=a) (l:=path (nx a) a.init q)
  have l2:=vals_len (a:=a) (l:=arn (nx a) q++[(q:Int)])
  have hne:1≤(arn (nx a) q).length:=by
   obtain⟨_,_,t,e⟩:=c1.head
   rw[e];simp
  rw[List.length_append,List.length_singleton] at l2
  have l3:=hp.2.1
  refine⟨⟨s.toNat,q,by rw[Int.toNat_of_nonneg (by omega)];exact hs,p1,p3,htg.1⟩,p2,p4,?_,?_,?_⟩
  ·simp only;omega
  ·simp only;omega
  ·simp only;omega
 ·simp at h
theorem fw_none (ha:a.Ok) (h:fw a=none) {s:Nat}(hs:(s:Int)∈a.init):¬a.Live s:=by
 have hn:=nx_ok ha
 have hS:incr (nx a).length (-1) a.init:=by rw[nx_len];exact ha.i
 unfold fw at h
 split at h
 ·simp at h
 ·rename_i hf
  rintro⟨t,h1,h2,h3⟩
  rw[List.find?_eq_none] at hf
  have hm:(t:Int)∈(fin (nx a) a.init).2:=(fin_mem hn hS (nx_E ha)).2 ⟨s,hs,h1⟩
  exact hf t hm (gA_iff.2 ⟨by rw[Int.toNat_natCast];exact h3,by rw[Int.toNat_natCast];exact h2⟩)
end
end Bf
def okR (f:Aut→Aut) (h:Heap) (a:Aut) (u:Value) (h':Heap):Prop:=∃v,u=.tuple #[v,.bool (decide a.Ok)]∧HS h [ow v (if a.Ok then f a else Aut.empty)] h'
theorem okR.no {f:Aut→Aut}{h h':Heap}{a:Aut}(hn:¬a.Ok) (H:HS h [] h'):okR f h a (.tuple #[.agg #[.slice none 0 0,.slice none 0 0,.slice none 0 0],.bool false]) h':=
 ⟨_,by rw[decide_eq_false hn],by rw[if_neg hn];exact empty_ow H⟩
theorem okR.yes {f:Aut→Aut}{h h':Heap}{a:Aut}{v:Value}(hn:a.Ok) (H:HS h [ow v (f a)] h'):okR f h a (.tuple #[v,.bool true]) h':=
 ⟨_,by rw[decide_eq_true hn],by rw[if_pos hn];exact H⟩
theorem c_IndexFunc_int {h:Heap}{a fv:Value}{x:List Int}(Ra:Rep h a x) {f:FuncId}{c1 c2:List Value}(hf:fnOf fv=some (f,c1,c2)) (p:Int→Bool)
  (hp:∀h1,h.le h1→∀(i:Nat) (hi:i<x.length) (u:Value),Rep h1 u x[i]→CallE Tryz.prog f (c1++u::c2) h1 (fun v h'=>h1.le h'∧v=.bool (p x[i]))) :
  CallE Tryz.prog fn_slices_IndexFunc_S_int_int [a,fv] h (fun v h'=>h.le h'∧v=.int .i64 (match x.findIdx? p with | some i=>(i:Int) | none=>-1)):=by
 refine CallE.gen fun k hk=>EN_slices_IndexFunc_S_int_int rfl ?_
 have hL:=Ra.lt
 simp -implicitDefEqProofs (disch:=first|omega|(simp only[LnZ];omega))[wrap64,Ra.len]
 refine wp_count x.length (fun i e h'=>e=[some a,some fv,none,none,some (.int .i64 x.length),some (.int .i64 i)]∧h.le h'∧∀(j:Nat) (hj:j<x.length),j<i→p x[j]=false) ⟨rfl,Heap.le.refl h,fun j _ hj=>absurd hj (Nat.not_lt_zero j)⟩ ?_
 rintro J i _ h1 hJ hi ⟨rfl,hl,hn⟩
 simp -implicitDefEqProofs (disch:=omega)[wrap64]
 refine IteW.mk (fun hlt=>?_) (fun hge=>?_)
 ·have hlx:i<x.length:=by omega
  obtain⟨u,hu,Ru⟩:=(Ra.le hl).ld hlx
  change hload _ (some (elp 1 a i)) none=some u at hu
  simp -implicitDefEqProofs (disch:=first|omega|(simp only[LnZ];omega))[wrap64,(Ra.le hl).X (n:=1) rfl,hu,hf]
  refine (hp h1 hl i hlx u Ru).go ?_
  rintro _ h2 ⟨hl2,rfl⟩
  simp -implicitDefEqProofs (disch:=omega)[wrap64]
  refine IteW.mk (fun hq=>?_) (fun hq=>?_)
  ·simp -implicitDefEqProofs (disch:=omega)[wrap64]
   refine RetK.keep (hk _ _ ⟨hl.trans hl2,?_⟩)
   have h3:x.findIdx? p=some i:=by
    rw[List.findIdx?_eq_some_iff_getElem]
    exact⟨hlx,hq,fun j hj=>by rw[hn j (by omega) hj];simp⟩
   rw[h3]
  ·simp -implicitDefEqProofs (disch:=omega)[wrap64]
   refine hJ _ _ hlx ⟨rfl,hl.trans hl2,fun j hj hji=>?_⟩
   by_cases hji2:j=i
   ·subst hji2;simpa using hq
   ·exact hn j hj (by omega)
 ·simp -implicitDefEqProofs (disch:=omega)[wrap64]
  refine RetK.keep (hk _ _ ⟨hl,?_⟩)
  have h3:x.findIdx? p=none:=by
   rw[List.findIdx?_eq_none_iff]
   intro y hy
   obtain⟨j,hj,rfl⟩:=List.mem_iff_getElem.1 hy
   exact hn j hj (by omega)
  rw[h3]
theorem c_ContainsFunc_int {h:Heap}{a fv:Value}{x:List Int}(Ra:Rep h a x) {f:FuncId}{c1 c2:List Value}(hf:fnOf fv=some (f,c1,c2)) (p:Int→Bool)
  (hp:∀h1,h.le h1→∀(i:Nat) (hi:i<x.length) (u:Value),Rep h1 u x[i]→CallE Tryz.prog f (c1++u::c2) h1 (fun v h'=>h1.le h'∧v=.bool (p x[i]))) :
  CallE Tryz.prog fn_slices_ContainsFunc_S_int_int [a,fv] h (fun v h'=>h.le h'∧v=.bool (x.any p)):=by
 refine CallE.gen fun k hk=>EN_slices_ContainsFunc_S_int_int rfl ?_
 simp -implicitDefEqProofs (disch:=omega)[wrap64]
 refine (c_IndexFunc_int Ra hf p hp).go ?_
 rintro _ h1 ⟨hl,rfl⟩
 simp -implicitDefEqProofs (disch:=omega)[wrap64]
 refine RetK.keep (hk _ _ ⟨hl,?_⟩)
 congr 1
 rw[← List.findIdx?_isSome]
 cases x.findIdx? p<;>simp
theorem c_takes {h:Heap}{v:Value}{t:Tr}(Rt:Rep h v t) {n:Int}:CallE Tryz.prog fn_impl_Transition_takes [v,.int .i64 n] h (fun u h'=>h'=h∧u=.bool (t.on n)):=by
 rw[(Rep_Tr.1 Rt).1]
 refine CallE.gen fun k hk=>EN_impl_Transition_takes rfl ?_
 simp -implicitDefEqProofs (disch:=first|omega|(simp only[LnZ];omega))[wrap64,Tr.v]
 exact RetK.keep (hk _ _ ⟨rfl,rfl⟩)
theorem c_l7On {h:Heap}{v:Value}{t:Tr}(Rt:Rep h v t) {n:Int}:CallE Tryz.prog fn_spec_l7On [v,.int .i64 n] h (fun u h'=>h'=h∧u=.bool (t.on n)):=by
 rw[(Rep_Tr.1 Rt).1]
 refine CallE.gen fun k hk=>EN_spec_l7On rfl ?_
 simp -implicitDefEqProofs (disch:=first|omega|(simp only[LnZ];omega))[wrap64,Tr.v]
 exact RetK.keep (hk _ _ ⟨rfl,rfl⟩)
theorem tru_set2 {B:List Bool}{i:Nat}(hi:i<B.length) {b:Bool}{x:Nat}:tru (B.set i b) x↔if x=i then b=true else tru B x:=by
 simp only[tru,List.getD_eq_getElem?_getD,List.getElem?_set]
 by_cases e:i=x
 ·subst e;simp[hi]
 ·simp[e,Ne.symm e]
theorem c_begin {h:Heap}{v l:Value}{a:Aut}{L:List Bool}(Ra:Rep h v a) (Rl:Rep h l L) (ha:a.Ok) (hLl:L.length=a.acc.length) (hL:∀q,tru L q↔q<a.acc.length∧a.Live q) :
  CallE Tryz.prog fn_impl_Automaton_begin [v,l] h (fun u h'=>∃B:List Bool,HS h [ow u B] h'∧B.length=a.acc.length∧∀q,tru B q↔a.beg q):=by
 obtain⟨v1,v2,v3,rfl,R1,R2,R3⟩:=Rep_Aut.1 Ra
 have hn:=ha.n
 have hil:=ha.il
 refine CallE.gen fun k hk=>EN_impl_Automaton_begin rfl ?_
 simp -implicitDefEqProofs (disch:=first|omega|(simp only[LnZ];omega))[wrap64,Rl.len]
 refine HS.init.mks (α:=Bool) (z:=false) rfl rfl own_false (Nat.le_refl _) (by omega) (by omega) fun b h1 H=>?_
 simp -implicitDefEqProofs (disch:=first|omega|(simp only[LnZ];omega))[wrap64,(R1.on H).len]
 refine wp_count a.init.length (fun i e h'=>e=[none,some l,none,none,some b,none,some v1,some (.int .i64 a.init.length),some (.int .i64 i)]∧∃B:List Bool,HS h [ow b B] h'∧B.length=a.acc.length∧∀q:Nat,tru B q↔(q:Int)∈a.init.take i∧a.Live q) ⟨by simp,_,H,by simp[hLl],fun q=>by simp[tru_replicate]⟩ ?_
 clear H
 rintro J i _ h2 hJ hi ⟨rfl,B,H,hBl,hB⟩
 simp -implicitDefEqProofs (disch:=omega)[wrap64]
 refine IteW.mk (fun hlt=>?_) (fun hge=>?_)
 ·have hix:i<a.init.length:=by omega
  have hx:=ha.im hix
  obtain⟨q,hq⟩:∃q:Nat,a.init[i]=q:=⟨a.init[i].toNat,by omega⟩
  have hqn:q<a.acc.length:=by omega
  simp -implicitDefEqProofs (disch:=first|omega|(simp only[LnZ];omega))[wrap64,(R1.on H).I,hq,(Rl.on H).B,H.rep.B]
  refine H.storeF (L[q]'(by omega)) (i:=q) (by omega) rfl rfl trivial rfl fun h3 H=>?_
  simp -implicitDefEqProofs (disch:=omega)[wrap64]
  refine hJ _ _ hix ⟨rfl,_,H,by simpa using hBl,fun x=>?_⟩
  rw[tru_set2 (by omega),take_mem_succ hix,hq]
  have hLq:=hL q
  rw[tru_get (by omega)] at hLq
  split
  ·rename_i e
   subst e
   rw[hLq]
   simp[hqn]
  ·rename_i e
   rw[hB]
   have e2:¬((x:Int)=q):=by omega
   simp[e2]
 simp -implicitDefEqProofs (disch:=omega)[wrap64]
 rw[List.take_of_length_le (by omega)] at hB
 exact RetK.keep (hk _ _ ⟨B,H,hBl,hB⟩)
theorem c_after {h:Heap}{v l s:Value}{a:Aut}{L S:List Bool}{letter:Int}(Ra:Rep h v a) (Rl:Rep h l L) (Rs:Rep h s S) (ha:a.Ok) (hLl:L.length=a.acc.length) (hSl:S.length=a.acc.length) (hL:∀q,tru L q↔q<a.acc.length∧a.Live q) :
  CallE Tryz.prog fn_impl_Automaton_after [v,l,s,.int .i64 letter] h (fun u h'=>∃B:List Bool,HS h [ow u B] h'∧B.length=a.acc.length∧∀q,tru B q↔a.aft (tru S) letter q):=by
 obtain⟨v1,v2,v3,rfl,R1,R2,R3⟩:=Rep_Aut.1 Ra
 have hn:=ha.n
 have he:=ha.e
 refine CallE.gen fun k hk=>EN_impl_Automaton_after rfl ?_
 simp -implicitDefEqProofs (disch:=first|omega|(simp only[LnZ];omega))[wrap64,Rl.len]
 refine HS.init.mks (α:=Bool) (z:=false) rfl rfl own_false (Nat.le_refl _) (by omega) (by omega) fun b h1 H=>?_
 simp -implicitDefEqProofs (disch:=first|omega|(simp only[LnZ];omega))[wrap64,(R3.on H).len]
 refine wp_count a.edges.length (fun i e h'=>e=[none,some l,some s,some (.int .i64 letter),none,none,some b,none,some v3,some (.int .i64 a.edges.length),some (.int .i64 i)]∧∃B:List Bool,HS h [ow b B] h'∧B.length=a.acc.length∧∀q:Nat,tru B q↔a.Live q∧∃e∈a.edges.take i,tru S e.frm.toNat∧e.to=q∧e.on letter=true) ⟨by simp,_,H,by simp[hLl],fun q=>by simp[tru_replicate]⟩ ?_
 clear H
 rintro J i _ h2 hJ hi ⟨rfl,B,H,hBl,hB⟩
 simp -implicitDefEqProofs (disch:=omega)[wrap64]
 refine IteW.mk (fun hlt=>?_) (fun hge=>?_)
 ·have hix:i<a.edges.length:=by omega
  have hx:=ha.t hix
  have hv:=R3.okTr hix
  unfold Tr.Ok at hx
  obtain⟨f,hf⟩:∃f:Nat,a.edges[i].frm=f:=⟨a.edges[i].frm.toNat,by omega⟩
  obtain⟨t,ht⟩:∃t:Nat,a.edges[i].to=t:=⟨a.edges[i].to.toNat,by omega⟩
  have hLt:=hL t
  rw[tru_get (by omega)] at hLt
  have hSf:=tru_get (B:=S) (i:=f) (by omega)
  have hstep:∀B':List Bool,(∀q:Nat,tru B' q↔tru B q∨(q=t∧a.Live q∧tru S f∧a.edges[i].on letter=true))→∀q:Nat,tru B' q↔a.Live q∧∃e∈a.edges.take (i+1),tru S e.frm.toNat∧e.to=q∧e.on letter=true:=by
   intro B' hB' q
   rw[hB',hB]
   constructor
   ·rintro (⟨h1,e,h2,h3⟩ | ⟨rfl,h1,h2,h3⟩)
    ·exact⟨h1,e,(take_mem_succ hix).2 (.inl h2),h3⟩
    ·exact⟨h1,_,(take_mem_succ hix).2 (.inr rfl),by rw[hf];simpa using h2,ht,h3⟩
   ·rintro⟨h1,e,h2,h3,h4,h5⟩
    rcases (take_mem_succ hix).1 h2 with h2 | rfl
    ·exact .inl ⟨h1,e,h2,h3,h4,h5⟩
    ·rw[hf] at h3
     exact .inr ⟨by omega,h1,by simpa using h3,h5⟩
  have hkeep:¬(a.Live t∧tru S f∧a.edges[i].on letter=true)→∀h3,HS h [ow b B] h3→J [none,some l,some s,some (.int .i64 letter),none,none,some b,none,some v3,some (.int .i64 a.edges.length),some (.int .i64 ((i+1:Nat):Int))] h3:=
   fun hno h3 H=>hJ _ _ hix ⟨by simp,B,H,hBl,hstep B fun q=>⟨.inl,fun hh=>hh.elim id fun ⟨e,h1,h2⟩=>absurd (e▸⟨h1,h2⟩) hno⟩⟩
  by_cases e1:S[f]'(by omega)=true
  case neg=>
   simp -implicitDefEqProofs (disch:=first|omega|(simp only[LnZ];omega))[wrap64,(R3.on H).xTr,Tr.v,setC,hf,(Rs.on H).B,e1]
   exact hkeep (fun hh=>e1 (hSf.1 hh.2.1)) _ H
  by_cases e2:L[t]'(by omega)=true
  case neg=>
   simp -implicitDefEqProofs (disch:=first|omega|(simp only[LnZ];omega))[wrap64,(R3.on H).xTr,Tr.v,setC,hf,ht,(Rs.on H).B,(Rl.on H).B,e1,e2]
   exact hkeep (fun hh=>e2 (hLt.2 ⟨by omega,hh.1⟩)) _ H
  simp -implicitDefEqProofs (disch:=first|omega|(simp only[LnZ];omega))[wrap64,(R3.on H).xTr,Tr.v,setC,hf,ht,(Rs.on H).B,(Rl.on H).B,e1,e2]
  refine (c_takes (t:=a.edges[i]) (Rep_Tr.2 ⟨by simp[Tr.v,hf,ht],hv⟩)).go ?_
  rintro _ _ ⟨rfl,rfl⟩
  by_cases e3:a.edges[i].on letter=true
  case neg=>
   simp -implicitDefEqProofs (disch:=first|omega|(simp only[LnZ];omega))[wrap64,e3]
   exact hkeep (fun hh=>e3 hh.2.2) _ H
  simp -implicitDefEqProofs (disch:=first|omega|(simp only[LnZ];omega))[wrap64,e3,H.rep.B]
  refine H.storeF true (i:=t) (by omega) rfl rfl trivial rfl fun h3 H=>?_
  simp -implicitDefEqProofs (disch:=omega)[wrap64]
  refine hJ _ _ hix ⟨by simp,_,H,by simpa using hBl,hstep _ fun q=>?_⟩
  rw[tru_set (by omega)]
  constructor
  ·rintro (h1 | rfl)
   ·exact .inl h1
   ·exact .inr ⟨rfl,(hLt.1 e2).2,hSf.2 e1,e3⟩
  ·rintro (h1 | h1)
   ·exact .inl h1
   ·exact .inr h1.1
 simp -implicitDefEqProofs (disch:=omega)[wrap64]
 rw[List.take_of_length_le (by omega)] at hB
 exact RetK.keep (hk _ _ ⟨B,H,hBl,hB⟩)
theorem c_letters_1 {h:Heap}{n:Int}:CallE Tryz.prog fn_impl_letters_1 [.int .i64 n] h (fun u h'=>h'=h∧u=.bool (!decide (0≤n∧n≤7))):=by
 refine CallE.gen fun k hk=>EN_impl_letters_1 rfl ?_
 simp -implicitDefEqProofs (disch:=omega)[wrap64]
 refine c_in.go ?_
 rintro _ _ ⟨rfl,rfl⟩
 simp -implicitDefEqProofs (disch:=omega)[wrap64]
 exact RetK.keep (hk _ _ ⟨rfl,by simp⟩)
theorem c_letters {h:Heap}{w:Value}{W:List Int}(Rw:Rep h w W):CallE Tryz.prog fn_impl_letters [w] h (fun u h'=>h.le h'∧u=.bool (decide (∀x∈W,0≤x∧x≤7))):=by
 refine CallE.gen fun k hk=>EN_impl_letters rfl ?_
 simp -implicitDefEqProofs (disch:=omega)[wrap64]
 refine (c_ContainsFunc_int Rw (c1:=[]) (c2:=[]) (f:=fn_impl_letters_1) rfl (fun n=>!decide (0≤n∧n≤7)) ?_).go ?_
 ·intro h3 hl j hj u Ru
  obtain⟨rfl,_⟩:=Rep_int.1 Ru
  exact (c_letters_1 (n:=W[j])).to fun _ _ ⟨h4,h5⟩=>⟨h4▸Heap.le.refl _,h5⟩
 ·rintro _ h3 ⟨hl,rfl⟩
  simp -implicitDefEqProofs (disch:=omega)[wrap64]
  refine RetK.keep (hk _ _ ⟨hl,?_⟩)
  congr 1
  rw[Bool.eq_iff_iff]
  simp
theorem c_wordOk {h:Heap}{w:Value}{W:List Int}(Rw:Rep h w W):CallE Tryz.prog fn_impl_wordOk [w] h (fun u h'=>h.le h'∧u=.bool (decide (Wok W))):=by
 have hL:=Rw.lt
 refine CallE.gen fun k hk=>EN_impl_wordOk rfl ?_
 simp -implicitDefEqProofs (disch:=first|omega|(simp only[LnZ];omega))[wrap64,Rw.len]
 by_cases h1:(W.length:Int)≤200
 ·simp -implicitDefEqProofs (disch:=first|omega|(simp only[LnZ];omega))[wrap64,h1]
  refine (c_letters Rw).go ?_
  rintro _ h2 ⟨hl,rfl⟩
  simp -implicitDefEqProofs (disch:=omega)[wrap64]
  refine RetK.keep (hk _ _ ⟨hl,?_⟩)
  congr 1
  rw[Bool.eq_iff_iff]
  have:W.length≤200:=by omega
  simp[Wok,this]
 ·simp -implicitDefEqProofs (disch:=first|omega|(simp only[LnZ];omega))[wrap64,h1]
  refine RetK.keep (hk _ _ ⟨Heap.le.refl _,?_⟩)
  congr 1
  rw[eq_comm,decide_eq_false_iff_not]
  intro hh
  have:=hh.1
  omega
section
variable {P:Program}{k:Env→Heap→Prop}{e:Env}{g h:Heap}{Γ:List HP}{v:Value}{α:Type}
theorem HS.appZ [Ty α] [Flat α] {l:List α}(H:HS g (ow v l::Γ) h) {z:α}{n:Nat}{bytes esz:Nat}{zero zero':List Value}{a x:O}{dst:Nat}{kd:IntKind}(ha:a.get e=some v) (hx:x.get e=some (.int kd (n:Int))) (hzz:zero'=Flat.enc z) (hok:Flat.ok z) (hsz:esz=Ty.sz α) (hz:zero.length=Ty.sz α)
  (hb:(l.length+n)*bytes≤140737488355328) (hn:l.length+n<2^62)
  (K:∀v' h',HS g (ow v' (l++List.replicate n z)::Γ) h'→k (eset e dst (some v')) h'):(A.ex (some dst) (.app bytes esz zero (.o a) (.z x bytes zero'))).wp P k e h:=by
 obtain⟨g',r,rfl,d,O,H⟩:=H
 subst hsz hzz
 have hall:∀x∈List.replicate n z,Flat.ok x:=fun x hx=>by rw[List.eq_of_mem_replicate hx];exact hok
 have henc:∀m,reps m (Flat.enc z)=encL (List.replicate m z):=fun m=>by
  simp[reps,encL]
 have hle:n*bytes≤(l.length+n)*bytes:=Nat.mul_le_mul_right _ (by omega)
 refine a_app (rs:=Heap.nil) (l2:=List.replicate n z) O ha ?_ (encL_len hall) (ownL_enc hall) d Dj_nil (by simp) rfl hz (by simpa using hb) (by simpa using hn) fun v' r' d' O'=>K _ _ ⟨g',r',rfl,d',O',H⟩
 simp only[AO.src,hx]
 rw[if_pos ⟨by omega,by omega,by simp;omega,flat_len hok⟩]
 simp[henc]
theorem bls_two [Ty α] {u1 u2:Value}{y1 y2:α}(R1:Rep h u1 y1) (R2:Rep h u2 y2) {esz:Nat}{zero:List Value}{parts:List (Nat×Nat×O)}{dst:Nat}(hf:fillP e (reps 2 zero) parts=some (u1.cells.toList++u2.cells.toList))
  (K:∀v' h',h.le h'→Rep h' v' [y1,y2]→k (eset e dst (some v')) h'):(A.ex (some dst) (.bls esz 2 zero parts)).wp P k e h:=by
 obtain⟨c1,rfl,r1⟩:=R1
 obtain⟨c2,rfl,r2⟩:=R2
 rw[rep_cells r1,rep_cells r2] at hf
 have l1:=Ty.len r1
 have l2:=Ty.len r2
 refine⟨_,hf,fun b el hb=>Fgt.keep ?_⟩
 rw[set_new hb]
 have hd:Dj h (Heap.one b (.cells (c1++c2).toArray el (0,0))):=Dj_one.2 hb
 have hbb:(h.add (Heap.one b (.cells (c1++c2).toArray el (0,0)))) b=some (.cells (c1++c2).toArray el (0,0)):=by simp[Heap.add,Heap.one,hb]
 refine K _ _ (le_add hd) (Rep_list.2 ⟨some ⟨b,0,none⟩,2,rfl,⟨Nat.le_refl _,by simp⟩,trivial,fun i hi=>?_⟩)
 refine⟨b,0,((c1++c2).drop (0+i*Ty.sz α)).take (Ty.sz α),rfl,?_,?_⟩
 ·rw[hcells_mk hbb (by simp at hi ⊢;rcases (by omega:i=0∨i=1) with rfl | rfl<;>simp<;>omega)]
 ·simp only[List.length_cons,List.length_nil] at hi
  rcases (by omega:i=0∨i=1) with rfl | rfl
  ·have e1:((c1++c2).drop (0+0*Ty.sz α)).take (Ty.sz α)=c1:=by simp[← l1]
   rw[e1]
   exact Ty.mono (le_add hd) r1
  ·have e1:((c1++c2).drop (0+1*Ty.sz α)).take (Ty.sz α)=c2:=by
    rw[show 0+1*Ty.sz α=c1.length by omega,List.drop_left,List.take_of_length_le (by omega)]
   rw[e1]
   exact Ty.mono (le_add hd) r2
end
end Go.Proofs.YtedbaenahnfhfaaGreat
