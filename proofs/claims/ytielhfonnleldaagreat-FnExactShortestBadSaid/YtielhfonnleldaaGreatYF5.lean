/-
  Texts of this proof, one behind the other.
-/
import Derived.Test.YtielhfonnleldaaGreatYF4
set_option linter.all false
set_option linter.unusedVariables false
set_option linter.unusedSimpArgs false
set_option linter.defProp false
set_option maxRecDepth 1000000
namespace Go.Proofs.YtielhfonnleldaaGreat
open Go
namespace Fm
theorem bits_ex (b:Nat→Prop):∀n,∃s,s<2^n∧∀i,i<n→(s.testBit i=true↔b i)
 | 0=>⟨0,by simp,fun i hi=>absurd hi (Nat.not_lt_zero i)⟩
 | n+1=>by
  obtain⟨s,h1,h2⟩:=bits_ex b n
  have hp:2^(n+1)=2*2^n:=by rw[Nat.pow_succ];omega
  by_cases hb:b n
  ·refine⟨2^n+s,by omega,fun i hi=>?_⟩
   by_cases e:i=n
   ·subst e
    rw[Nat.testBit_two_pow_add_eq,Nat.testBit_lt_two_pow h1]
    simp[hb]
   ·rw[Nat.testBit_two_pow_add_gt (by omega)]
    exact h2 i (by omega)
  ·refine⟨s,by omega,fun i hi=>?_⟩
   by_cases e:i=n
   ·subst e
    rw[Nat.testBit_lt_two_pow h1]
    simp[hb]
   ·exact h2 i (by omega)
theorem shl_bit {k a:Nat}:(1<<<k).testBit a=decide (k=a):=by
 rw[Nat.one_shiftLeft,Nat.testBit_two_pow]
theorem ltc_bit {B:List Exq}{a:Nat}:∀n,n≤B.length→((ltc B n).testBit a=true↔∃(i:Nat) (hi:i<B.length),i<n∧B[i].kind=2∧B[i].val.toNat=a)
 | 0,_=>by simp[ltc]
 | n+1,hn=>by
  have ih:=ltc_bit (B:=B) (a:=a) n (by omega)
  have e:B.getD n Exq.zero=B[n]'(by omega):=by simp[show n<B.length by omega]
  rw[ltc,e]
  split
  ·rename_i hk
   rw[Nat.testBit_or,Bool.or_eq_true,ih,shl_bit,decide_eq_true_iff]
   constructor
   ·rintro (⟨i,hi,h1,h2,h3⟩ | h)
    ·exact⟨i,hi,by omega,h2,h3⟩
    ·exact⟨n,by omega,by omega,hk,h⟩
   ·rintro⟨i,hi,h1,h2,h3⟩
    by_cases e:i=n
    ·subst e;exact .inr h3
    ·exact .inl ⟨i,hi,by omega,h2,h3⟩
  ·rename_i hk
   rw[ih]
   constructor
   ·rintro⟨i,hi,h1,h2,h3⟩;exact⟨i,hi,by omega,h2,h3⟩
   ·rintro⟨i,hi,h1,h2,h3⟩
    by_cases e:i=n
    ·subst e;exact absurd h2 hk
    ·exact⟨i,hi,by omega,h2,h3⟩
theorem ltv_bit {B:List Exq}{s a:Nat}:∀n,n≤B.length→((ltv B s n).testBit a=true↔∃(i:Nat) (hi:i<B.length),i<n∧B[i].kind=2∧s.testBit i=true∧B[i].val.toNat=a)
 | 0,_=>by simp[ltv]
 | n+1,hn=>by
  have ih:=ltv_bit (B:=B) (s:=s) (a:=a) n (by omega)
  have e:B.getD n Exq.zero=B[n]'(by omega):=by simp[show n<B.length by omega]
  rw[ltv,e]
  split
  ·rename_i hk
   rw[Nat.testBit_or,Bool.or_eq_true,ih,shl_bit,decide_eq_true_iff]
   constructor
   ·rintro (⟨i,hi,h1,h2,h3⟩ | h)
    ·exact⟨i,hi,by omega,h2,h3⟩
    ·exact⟨n,by omega,by omega,hk.1,hk.2,h⟩
   ·rintro⟨i,hi,h1,h2,h3,h4⟩
    by_cases e:i=n
    ·subst e;exact .inr h4
    ·exact .inl ⟨i,hi,by omega,h2,h3,h4⟩
  ·rename_i hk
   rw[ih]
   constructor
   ·rintro⟨i,hi,h1,h2,h3⟩;exact⟨i,hi,by omega,h2,h3⟩
   ·rintro⟨i,hi,h1,h2,h3,h4⟩
    by_cases e:i=n
    ·subst e;exact absurd ⟨h2,h3⟩ hk
    ·exact⟨i,hi,by omega,h2,h3,h4⟩
def Cl (B:List Exq):Nat→Exq→Prop
 | 0,_=>False
 | n+1,x=>Nd x∧x.kind≤8∧(x.kind=3→∀y∈x.kids,y.kind=1∨y.kind=2)∧(bas x=true→x∈B)∧∀y∈x.kids,Cl B n y
theorem Cl.shp {B:List Exq}:∀{n:Nat}{x:Exq},Cl B n x→Shp n x
 | 0,_,h=>h.elim
 | _+1,_,h=>⟨h.1,fun y hy=>(h.2.2.2.2 y hy).shp⟩
theorem Cl.ex {B:List Exq}{n:Nat}{x:Exq}(h:Cl B n x):∃m,n=m+1:=by
 cases n with
 | zero=>exact h.elim
 | succ n=>exact⟨n,rfl⟩
def Lm (B:List Exq) (s:Nat) (L:Int):Prop:=L.toNat&&&ltc B B.length=ltv B s B.length
theorem Lm_iff {B:List Exq}(hn:B.Nodup) (hB:∀y∈B,Shp 6 y) {s:Nat}{L:Int}:Lm B s L↔∀(i:Nat) (hi:i<B.length),B[i].kind=2→(L.toNat.testBit B[i].val.toNat=s.testBit i):=by
 have uniq:∀(i j:Nat) (hi:i<B.length) (hj:j<B.length),B[i].kind=2→B[j].kind=2→B[i].val.toNat=B[j].val.toNat→i=j:=by
  intro i j hi hj h1 h2 h3
  have e1:=(hB _ (List.getElem_mem hi))
  have e2:=(hB _ (List.getElem_mem hj))
  have h4:=e1.nd.lo
  have h5:=e2.nd.lo
  have he:B[i]=B[j]:=Exq.ext_iff'.2 ⟨by rw[h1,h2],by omega,by rw[e1.none (.inr h1),e2.none (.inr h2)]⟩
  have hp:=List.pairwise_iff_getElem.1 hn
  rcases Nat.lt_trichotomy i j with h6 | h6 | h6
  ·exact absurd he (hp i j hi hj h6)
  ·exact h6
  ·exact absurd he.symm (hp j i hj hi h6)
 constructor
 ·intro h i hi hk
  have hb:(L.toNat&&&ltc B B.length).testBit B[i].val.toNat=(ltv B s B.length).testBit B[i].val.toNat:=by rw[h]
  have hc:(ltc B B.length).testBit B[i].val.toNat=true:=(ltc_bit _ (Nat.le_refl _)).2 ⟨i,hi,hi,hk,rfl⟩
  rw[Nat.testBit_and,hc,Bool.and_true] at hb
  rw[hb,Bool.eq_iff_iff,ltv_bit _ (Nat.le_refl _)]
  constructor
  ·rintro⟨j,hj,_,h2,h3,h4⟩
   obtain rfl:=uniq j i hj hi h2 hk h4
   exact h3
  ·exact fun h1=>⟨i,hi,hi,hk,h1,rfl⟩
 ·intro h
  refine Nat.eq_of_testBit_eq fun a=>?_
  rw[Nat.testBit_and,Bool.eq_iff_iff,Bool.and_eq_true,ltc_bit _ (Nat.le_refl _),ltv_bit _ (Nat.le_refl _)]
  constructor
  ·rintro⟨h1,i,hi,h2,h3,rfl⟩
   exact⟨i,hi,h2,h3,by rw[← h i hi h3];exact h1,rfl⟩
  ·rintro⟨i,hi,h2,h3,h4,rfl⟩
   exact⟨by rw[h i hi h3];exact h4,i,hi,h2,h3,rfl⟩
theorem val_bas {B:List Exq}{s:Nat}{x:Exq}(h:bas x=true):val B s x=has s (fx B x):=by
 rw[val_eq]
 have h:=of_decide_eq_true h
 rw[if_neg (by omega),if_neg (by omega),if_neg (by omega),if_neg (by omega)]
structure Gd (B:List Exq) (U:List Int) (w:Nat→Int) (σ:Nat→Nat) (π:Nat→Int):Prop where
 fol:∀t,Fol B (σ t) (σ (t+1))
 lm:∀t,Lm B (σ t) (w t)
 ph:∀t,π (t+1)=(phs B U (σ t) (π t)).1
 ok:∀t,POk U (π t)
 acc:∀t,∃u,t≤u∧(phs B U (σ u) (π u)).2=true
theorem Gd.ful {B:List Exq}{U:List Int}{w:Nat→Int}{σ:Nat→Nat}{π:Nat→Int}(h:Gd B U w σ π) {m:Nat}(hm:m<U.length) (t:Nat):∃u,t≤u∧Fm.ful B (σ u) U[m]=true:=by
 apply Classical.byContradiction
 intro hno
 have hno:∀u,t≤u→Fm.ful B (σ u) U[m]=false:=fun u hu=>by
  cases hf:Fm.ful B (σ u) U[m] with
  | false=>rfl
  | true=>exact absurd ⟨u,hu,hf⟩ hno
 have hU:¬U.length=0:=by omega
 have hUp:(0:Int)<U.length:=by omega
 have hstep:∀u,t≤u→∀p:Nat,π u=p→p<U.length∧(phs B U (σ u) (π u)=if Fm.ful B (σ u) (U.getD p 0)=true then ((((p+1)%U.length:Nat):Int),decide (p=0)) else ((p:Int),false)):=by
  intro u hu p hp
  have hk:=h.ok u
  rw[hp] at hk
  have hpl:p<U.length:=by rcases hk.2 with h1 | h1<;>omega
  refine⟨hpl,?_⟩
  rw[phs,if_neg hU,hp,Int.toNat_natCast]
  split
  ·congr 1
   simp
  ·rfl
 have hnat:∀u,∃p:Nat,π u=p:=fun u=>⟨(π u).toNat,by have:=(h.ok u).1;omega⟩
 have hgm:U.getD m 0=U[m]:=by simp[hm]
 -- an accepting time
 obtain⟨t1,h1,h2⟩:=h.acc t
 obtain⟨p1,hp1⟩:=hnat t1
 obtain⟨hp1l,hq1⟩:=hstep t1 h1 p1 hp1
 rw[hq1] at h2
 by_cases f1:Fm.ful B (σ t1) (U.getD p1 0)=true
 case neg=>rw[if_neg f1] at h2;simp at h2
 rw[if_pos f1] at h2 hq1
 have hp10:p1=0:=of_decide_eq_true h2
 subst hp10
 have hm0:m≠0:=by
  rintro rfl
  rw[hgm,hno t1 h1] at f1
  simp at f1
 -- from then on the phase lies between
 have hbet:∀k,∃p:Nat,π (t1+1+k)=p∧1≤p∧p≤m:=by
  intro k
  induction k with
  | zero=>exact⟨1,by rw[Nat.add_zero,h.ph t1,hq1];simp only[Nat.zero_add];rw[Nat.mod_eq_of_lt (by omega)],by omega,by omega⟩
  | succ k ih=>
   obtain⟨p,g1,g2,g3⟩:=ih
   obtain⟨g4,g5⟩:=hstep _ (by omega) p g1
   by_cases f2:Fm.ful B (σ (t1+1+k)) (U.getD p 0)=true
   ·rw[if_pos f2] at g5
    have hpm:p≠m:=by
     rintro rfl
     rw[hgm,hno _ (by omega)] at f2
     simp at f2
    exact⟨p+1,by rw[← Nat.add_assoc,h.ph,g5];simp only;rw[Nat.mod_eq_of_lt (by omega)],by omega,by omega⟩
   ·rw[if_neg f2] at g5
    exact⟨p,by rw[← Nat.add_assoc,h.ph,g5],g2,g3⟩
 obtain⟨t2,h3,h4⟩:=h.acc (t1+1)
 obtain⟨p,g1,g2,g3⟩:=hbet (t2-(t1+1))
 rw[show t1+1+(t2-(t1+1))=t2 by omega] at g1
 obtain⟨_,g5⟩:=hstep t2 (by omega) p g1
 rw[g5] at h4
 split at h4
 ·have:=of_decide_eq_true h4
  omega
 ·simp at h4
theorem unt_at {B:List Exq}:∀{n:Nat}{i:Nat},i<n→(B.getD i Exq.zero).kind=7→(i:Int)∈unt B n
 | n+1,i,hi,hk=>by
  rw[unt]
  by_cases e:i=n
  ·subst e
   rw[if_pos hk]
   simp
  ·have:=unt_at (B:=B) (n:=n) (i:=i) (by omega) hk
   split
   ·exact List.mem_append_left _ this
   ·exact this
theorem Gd.sound {B:List Exq}{w:Nat→Int}{σ:Nat→Nat}{π:Nat→Int}(h:Gd B (unt B B.length) w σ π) (hn:B.Nodup) (hB:∀y∈B,Shp 6 y):∀(x:Exq) {n:Nat},Cl B n x→∀t,val B (σ t) x=true→sat w x t:=by
 refine Exq.ind fun x ih n hc t hv=>?_
 obtain⟨n,rfl⟩:=hc.ex
 have hs:=hc.shp
 obtain⟨hnd,hk8,h3,hbB,hkids⟩:=hc
 have hkd:=hnd.kind
 have kid:∀j t,j<x.kids.length→kv B (σ t) x j=true→sk w x j t:=by
  intro j t hj hv
  rw[kv_at hj] at hv
  rw[sk_at hj]
  exact ih _ (List.getElem_mem hj) (hkids _ (List.getElem_mem hj)) t hv
 by_cases c1:x.kind=1
 ·exact sat1 c1
 have atom:∀{y:Exq}{t:Nat},y.kind=2→y∈B→(val B (σ t) y=true↔sat w y t):=by
  intro y t hy hm
  obtain⟨i,hi,e1,e2⟩:=fx_mem hm
  rw[val_bas (by simp[bas,hy]),e1,has_nat,sat2 hy,← (Lm_iff hn hB).1 (h.lm t) i hi (by rw[e2];exact hy),e2]
 by_cases c3:x.kind=3
 ·have h1:=hs.one (.inl c3)
  have hl:0<x.kids.length:=by omega
  rw[val_eq,if_neg c1,if_pos c3] at hv
  rw[sat3 c3,sk_at hl]
  rw[kv_at hl] at hv
  have hc2:=hkids _ (List.getElem_mem hl)
  rcases h3 c3 _ (List.getElem_mem hl) with hk | hk
  ·rw[val_eq,if_pos hk] at hv
   simp at hv
  ·obtain⟨n',rfl⟩:=hc2.ex
   have hm:=hc2.2.2.2.1 (by simp[bas,hk])
   rw[← atom hk hm]
   simpa using hv
 by_cases c4:x.kind=4
 ·have h1:=hs.two (.inl c4)
  rw[val_eq,if_neg c1,if_neg c3,if_pos c4,Bool.and_eq_true] at hv
  rw[sat4 c4]
  exact⟨kid _ _ (by omega) hv.1,kid _ _ (by omega) hv.2⟩
 by_cases c5:x.kind=5
 ·have h1:=hs.two (.inr (.inl c5))
  rw[val_eq,if_neg c1,if_neg c3,if_neg c4,if_pos c5,Bool.or_eq_true] at hv
  rw[sat5 c5]
  exact hv.imp (kid _ _ (by omega)) (kid _ _ (by omega))
 have hb:bas x=true:=decide_eq_true (by omega)
 have hm:=hbB hb
 obtain⟨i,hi,e1,e2⟩:=fx_mem hm
 have hvb:∀t,val B (σ t) x=(σ t).testBit i:=fun t=>by rw[val_bas hb,e1,has_nat]
 by_cases c2:x.kind=2
 ·exact (atom c2 hm).1 hv
 have hfol:∀t,got B (σ t) (σ (t+1)) i x=(σ t).testBit i:=fun t=>by have:=h.fol t i hi;rwa [e2] at this
 rw[hvb] at hv
 by_cases c6:x.kind=6
 ·have h1:=hs.one (.inr (.inl c6))
  have h2:=hfol t
  rw[got,if_pos c6,hv] at h2
  rw[sat6 c6]
  exact kid _ _ (by omega) h2
 by_cases c7:x.kind=7
 ·have h1:=hs.two (.inr (.inr (.inl c7)))
  have hst:∀t,(σ t).testBit i=(kv B (σ t) x 1||kv B (σ t) x 0&&(σ (t+1)).testBit i):=fun t=>by
   have h2:=hfol t
   rw[got,if_neg c6,if_pos c7] at h2
   exact h2.symm
  have hu:=unt_at (B:=B) (n:=B.length) (i:=i) hi (by rw[List.getD_eq_getElem?_getD,List.getElem?_eq_getElem hi,e2];exact c7)
  obtain⟨m,hml,hmu⟩:=List.mem_iff_getElem.1 hu
  obtain⟨u0,g1,g2⟩:=h.ful hml t
  rw[hmu,Fm.ful,has_nat,Int.toNat_natCast,List.getD_eq_getElem?_getD,List.getElem?_eq_getElem hi,e2] at g2
  simp only[Option.getD_some,Bool.or_eq_true,Bool.not_eq_true'] at g2
  -- from t to there
  have key:∀d t,t+d=u0→(σ t).testBit i=true→∃u,t≤u∧sk w x 1 u∧∀v,t≤v→v<u→sk w x 0 v:=by
   intro d
   induction d with
   | zero=>
    intro t ht hb
    obtain rfl:t=u0:=by omega
    rcases g2 with g2 | g2
    ·rw[hb] at g2;simp at g2
    ·exact⟨t,Nat.le_refl _,kid _ _ (by omega) g2,fun v hv hv2=>by omega⟩
   | succ d ihd=>
    intro t ht hb
    rw[hst t] at hb
    rw[until_step]
    cases hk1:kv B (σ t) x 1 with
    | true=>exact .inl (kid _ _ (by omega) hk1)
    | false=>
     rw[hk1,Bool.false_or,Bool.and_eq_true] at hb
     exact .inr ⟨kid _ _ (by omega) hb.1,ihd (t+1) (by omega) hb.2⟩
  rw[sat7 c7]
  exact key (u0-t) t (by omega) hv
 ·have c8:x.kind=8:=by omega
  have h1:=hs.two (.inr (.inr (.inr c8)))
  have hst:∀t,(σ t).testBit i=(kv B (σ t) x 1&&(kv B (σ t) x 0||(σ (t+1)).testBit i)):=fun t=>by
   have h2:=hfol t
   rw[got,if_neg c6,if_neg c7,if_pos c8] at h2
   exact h2.symm
  rw[sat8 c8]
  have key:∀d,(∃v,t≤v∧v<t+d∧sk w x 0 v)∨(σ (t+d)).testBit i=true:=by
   intro d
   induction d with
   | zero=>exact .inr hv
   | succ d ihd=>
    rcases ihd with ⟨v,g1,g2,g3⟩ | hb
    ·exact .inl ⟨v,g1,by omega,g3⟩
    ·rw[hst,Bool.and_eq_true,Bool.or_eq_true] at hb
     rcases hb.2 with g | g
     ·exact .inl ⟨t+d,by omega,by omega,kid _ _ (by omega) g⟩
     ·exact .inr (by rw[← Nat.add_assoc];exact g)
  intro u hu
  rcases key (u-t) with ⟨v,g1,g2,g3⟩ | g
  ·exact .inr ⟨v,g1,by omega,g3⟩
  ·rw[show t+(u-t)=u by omega,hst,Bool.and_eq_true] at g
   exact .inl (kid _ _ (by omega) g.1)
end Fm
namespace Fm
theorem ins_nodup {o:List Exq}{x:Exq}(h:o.Nodup):(ins o x).Nodup:=by
 unfold ins
 split
 ·exact h
 ·rename_i hx
  rw[List.nodup_append]
  exact⟨h,by simp,fun a ha b hb=>by simp at hb;subst hb;rintro rfl;exact hx ha⟩
theorem mem_ins {o:List Exq}{x y:Exq}:y∈ins o x↔y∈o∨y=x:=by
 unfold ins
 split
 ·rename_i hx
  exact⟨.inl,fun h=>h.elim id fun e=>e▸hx⟩
 ·simp
theorem nod_kid {x y:Exq}(h:y∈x.kids):y.nod<x.nod:=by
 obtain⟨i,hi,rfl⟩:=List.mem_iff_getElem.1 h
 have e1:=Exq.nods_take hi
 have e2:=Exq.nods_le x.kids (i+1)
 have e3:=x.nod_eq
 omega
theorem subs_nodup:∀(n:Nat) (x:Exq),x.nod≤n→∀(o:List Exq),o.Nodup→(subs x o).Nodup:=by
 intro n
 induction n with
 | zero=>intro x h;rw[Exq.nod_eq] at h;omega
 | succ n ih=>
  intro x hx o ho
  rw[subs_eq]
  have hl:∀(l:List Exq),(∀z∈l,z.nod≤n)→∀(o:List Exq),o.Nodup→(l.foldl (fun o x=>subs x o) o).Nodup:=by
   intro l
   induction l with
   | nil=>intro _ o ho;exact ho
   | cons z l ihl=>intro hz o ho;exact ihl (fun w hw=>hz w (by simp[hw])) _ (ih z (hz z (by simp)) o ho)
  exact ins_nodup (hl _ (fun z hz=>by have:=nod_kid hz;omega) o ho)
def Kc (o:List Exq):Prop:=∀y∈o,∀z∈y.kids,z∈o
theorem subs_kc:∀(n:Nat) (x:Exq),x.nod≤n→∀(o:List Exq),Kc o→Kc (subs x o)∧x∈subs x o∧∀y∈o,y∈subs x o:=by
 intro n
 induction n with
 | zero=>intro x h;rw[Exq.nod_eq] at h;omega
 | succ n ih=>
  intro x hx o ho
  rw[subs_eq]
  have hl:∀(l:List Exq),(∀z∈l,z.nod≤n)→∀(o:List Exq),Kc o→Kc (l.foldl (fun o x=>subs x o) o)∧(∀y∈l,y∈l.foldl (fun o x=>subs x o) o)∧∀y∈o,y∈l.foldl (fun o x=>subs x o) o:=by
   intro l
   induction l with
   | nil=>intro _ o ho;exact⟨ho,fun y hy=>by simp at hy,fun y hy=>hy⟩
   | cons z l ihl=>
    intro hz o ho
    obtain⟨h1,h2,h3⟩:=ih z (hz z (by simp)) o ho
    obtain⟨h4,h5,h6⟩:=ihl (fun w hw=>hz w (by simp[hw])) _ h1
    rw[List.foldl_cons]
    refine⟨h4,fun y hy=>?_,fun y hy=>h6 _ (h3 y hy)⟩
    rcases List.mem_cons.1 hy with rfl | hy
    ·exact h6 _ h2
    ·exact h5 y hy
  obtain⟨h1,h2,h3⟩:=hl x.kids (fun z hz=>by have:=nod_kid hz;omega) o ho
  refine⟨fun y hy z hz=>?_,mem_ins.2 (.inr rfl),fun y hy=>mem_ins.2 (.inl (h3 y hy))⟩
  rcases mem_ins.1 hy with hy | rfl
  ·exact mem_ins.2 (.inl (h1 y hy z hz))
  ·exact mem_ins.2 (.inl (h2 z hz))
def Nf:Nat→Exq→Prop
 | 0,_=>False
 | n+1,x=>x.kind≤8∧(x.kind=3→∀y∈x.kids,y.kind=1∨y.kind=2)∧∀y∈x.kids,Nf n y
theorem Nf.kids {x:Exq}(h:∃n,Nf n x):∀y∈x.kids,∃n,Nf n y:=by
 obtain⟨n,h⟩:=h
 cases n with
 | zero=>exact h.elim
 | succ n=>exact fun y hy=>⟨n,h.2.2 y hy⟩
theorem Nf.mono:∀{n:Nat}{x:Exq},Nf n x→Nf (n+1) x
 | 0,_,h=>h.elim
 | n+1,_,h=>⟨h.1,h.2.1,fun y hy=>(h.2.2 y hy).mono⟩
theorem Nf.up {n m:Nat}{x:Exq}(h:Nf n x) (hm:n≤m):Nf m x:=by
 obtain⟨k,rfl⟩:=Nat.exists_eq_add_of_le hm
 induction k with
 | zero=>exact h
 | succ k ih=>exact (ih (by omega)).mono
theorem nf_tru:Nf 3 tru:=⟨by decide,fun h=>absurd h (by decide),fun y hy=>by simp[tru] at hy⟩
theorem nf_neg {x:Exq}(h:x.kind=1∨x.kind=2) (hk:x.kids=[]):Nf 3 (neg x):=
 ⟨by simp[neg],fun _ y hy=>by simp[neg] at hy;subst hy;exact h,fun y hy=>by
  simp[neg] at hy;subst hy
  exact⟨by omega,fun h3=>by omega,fun z hz=>by rw[hk] at hz;simp at hz⟩⟩
theorem nf_push:∀(x:Exq) {n:Nat},Shp n x→∀b,Nf (n+3) (push x b):=by
 refine Exq.ind fun x ih n hs b=>?_
 obtain⟨m,rfl⟩:∃m,n=m+1:=⟨n-1,by cases n with
  | zero=>exact hs.elim
  | succ n=>rfl⟩
 have hk:∀(b:Bool) (j:Nat),j<x.kids.length→Nf (m+3) (kp x b j):=by
  intro b j hj
  rw[kp_at hj]
  exact ih _ (List.getElem_mem hj) (hs.kid hj) b
 have hkd:=hs.nd.kind
 rw[push_eq]
 have e3:m+1+3=(m+3)+1:=by omega
 split
 ·rename_i h
  split
  ·exact (nf_neg (x:=.mk x.kind x.val []) h rfl).up (by omega)
  ·exact⟨by simp only[Exq.kind_mk];omega,fun h3=>by simp only[Exq.kind_mk] at h3;omega,fun y hy=>by simp at hy⟩
 split
 ·rename_i h
  exact (hk _ 0 (by rw[hs.one (.inl h)];omega)).mono
 split
 ·rename_i h
  rw[e3]
  exact⟨by simp,fun h3=>absurd h3 (by simp),fun y hy=>by simp at hy;subst hy;exact hk _ 0 (by rw[hs.one (.inr (.inl h))];omega)⟩
 split
 ·rename_i h
  have h0:=hk b 0 (by rw[hs.one (.inr (.inr h))];omega)
  split
  ·rw[e3]
   refine⟨by simp,fun h3=>absurd h3 (by simp),fun y hy=>?_⟩
   simp at hy
   rcases hy with rfl | rfl
   ·exact nf_tru.up (by omega)
   ·exact h0
  ·rw[e3]
   refine⟨by simp,fun h3=>absurd h3 (by simp),fun y hy=>?_⟩
   simp at hy
   rcases hy with rfl | rfl
   ·exact (nf_neg (x:=tru) (.inl rfl) rfl).up (by omega)
   ·exact h0
 ·have c:x.kind=4∨x.kind=5∨x.kind=7∨x.kind=8:=by omega
  have hl:=hs.two c
  have hd:(if b=true then dual x.kind else x.kind)=4∨(if b=true then dual x.kind else x.kind)=5∨(if b=true then dual x.kind else x.kind)=7∨(if b=true then dual x.kind else x.kind)=8:=by
   unfold dual
   rcases c with c | c | c | c<;>(rw[c];cases b<;>simp)
  rw[e3]
  refine⟨by simp only[Exq.kind_mk];omega,fun h3=>by simp only[Exq.kind_mk] at h3;omega,fun y hy=>?_⟩
  simp at hy
  rcases hy with rfl | rfl
  ·exact hk _ 0 (by omega)
  ·exact hk _ 1 (by omega)
theorem basics_nodup {x:Exq}:(basics x).Nodup:=List.Pairwise.filter _ (subs_nodup _ _ (Nat.le_refl _) [] (by simp))
theorem basics_cl {x:Exq}(h:Ok x∧Ok (push x false)):Cl (basics x) 6 (push x false):=by
 obtain⟨h1,h2,_⟩:=subs_kc _ (push x false) (Nat.le_refl _) [] (fun y hy=>by simp at hy)
 have hnf:=subs_all (P:=fun y=>∃n,Nf n y) _ (push x false) (fun y hy=>Nf.kids hy) (Nat.le_refl _) ⟨_,nf_push x h.1.1 false⟩ [] (fun y hy=>by simp at hy)
 have key:∀(n:Nat) (y:Exq),y∈subs (push x false) []→Shp n y→Cl (basics x) n y:=by
  intro n
  induction n with
  | zero=>intro y _ h;exact h.elim
  | succ n ih=>
   intro y hy hs
   obtain⟨m,hm⟩:=hnf y hy
   cases m with
   | zero=>exact hm.elim
   | succ m=>exact⟨hs.1,hm.1,hm.2.1,fun hb=>List.mem_filter.2 ⟨hy,hb⟩,fun z hz=>ih z (h1 y hy z hz) (hs.2 z hz)⟩
 exact key 6 _ h2 h.2.1
structure Ds (B:List Exq) (w:Nat→Int) (σ:Nat→Nat):Prop where
 lt:∀t,σ t<2^B.length
 at_:∀t (i:Nat) (hi:i<B.length),((σ t).testBit i=true↔sat w B[i] t)
theorem Ds.ex (B:List Exq) (w:Nat→Int):∃σ,Ds B w σ:=by
 have h:∀t,∃s,s<2^B.length∧∀(i:Nat) (hi:i<B.length),(s.testBit i=true↔sat w B[i] t):=fun t=>by
  obtain⟨s,h1,h2⟩:=bits_ex (fun i=>sat w (B.getD i Exq.zero) t) B.length
  exact⟨s,h1,fun i hi=>by rw[h2 i hi];simp[hi]⟩
 exact⟨fun t=>Classical.choose (h t),fun t=>(Classical.choose_spec (h t)).1,fun t=>(Classical.choose_spec (h t)).2⟩
theorem Ds.val {B:List Exq}{w:Nat→Int}{σ:Nat→Nat}(h:Ds B w σ) (t:Nat):∀(x:Exq) {n:Nat},Cl B n x→(Fm.val B (σ t) x=true↔sat w x t):=by
 refine Exq.ind fun x ih n hc=>?_
 obtain⟨n,rfl⟩:=hc.ex
 have hs:=hc.shp
 obtain⟨hnd,hk8,h3,hbB,hkids⟩:=hc
 have hkd:=hnd.kind
 have kid:∀j,j<x.kids.length→(kv B (σ t) x j=true↔sk w x j t):=by
  intro j hj
  rw[kv_at hj,sk_at hj]
  exact ih _ (List.getElem_mem hj) (hkids _ (List.getElem_mem hj))
 by_cases hb:bas x=true
 ·obtain⟨i,hi,e1,e2⟩:=fx_mem (hbB hb)
  rw[val_bas hb,e1,has_nat,h.at_ t i hi,e2]
 have hb':¬(x.kind=2∨x.kind=6∨x.kind=7∨x.kind=8):=fun hh=>hb (decide_eq_true hh)
 rw[val_eq]
 split
 ·rename_i c;simp[sat1 c]
 split
 ·rename_i c
  rw[sat3 c,← kid 0 (by rw[hs.one (.inl c)];omega)]
  simp
 split
 ·rename_i c
  have:=hs.two (.inl c)
  rw[sat4 c,← kid 0 (by omega),← kid 1 (by omega),Bool.and_eq_true]
 split
 ·rename_i c
  have:=hs.two (.inr (.inl c))
  rw[sat5 c,← kid 0 (by omega),← kid 1 (by omega),Bool.or_eq_true]
 ·omega
def Bc (B:List Exq):Prop:=B.Nodup∧∀y∈B,Shp 6 y∧bas y=true∧∃n,Cl B n y
theorem Ds.fol {B:List Exq}{w:Nat→Int}{σ:Nat→Nat}(h:Ds B w σ) (hB:Bc B) (t:Nat):Fol B (σ t) (σ (t+1)):=by
 intro i hi
 obtain⟨_,hb,n,hc⟩:=hB.2 _ (List.getElem_mem hi)
 obtain⟨n,rfl⟩:=hc.ex
 have hs:=hc.shp
 obtain⟨hnd,hk8,h3,hbB,hkids⟩:=hc
 have hb:=of_decide_eq_true hb
 have kid:∀t j,j<B[i].kids.length→(kv B (σ t) B[i] j=true↔sk w B[i] j t):=by
  intro t j hj
  rw[kv_at hj,sk_at hj]
  exact h.val t _ (hkids _ (List.getElem_mem hj))
 have at_:=fun t=>h.at_ t i hi
 unfold got
 rw[Bool.eq_iff_iff]
 split
 ·rename_i c
  rw[at_,sat6 c,kid _ _ (by rw[hs.one (.inr (.inl c))];omega)]
 split
 ·rename_i c
  have:=hs.two (.inr (.inr (.inl c)))
  have h1:=at_ (t+1)
  rw[sat7 c] at h1
  rw[at_,sat7 c,until_step,Bool.or_eq_true,Bool.and_eq_true,kid _ _ (by omega),kid _ _ (by omega),h1]
 split
 ·rename_i c
  have:=hs.two (.inr (.inr (.inr c)))
  have h1:=at_ (t+1)
  rw[sat8 c] at h1
  rw[at_,sat8 c,release_step,Bool.and_eq_true,Bool.or_eq_true,kid _ _ (by omega),kid _ _ (by omega),h1]
 ·rfl
theorem Ds.lm {B:List Exq}{w:Nat→Int}{σ:Nat→Nat}(h:Ds B w σ) (hB:Bc B) (t:Nat):Lm B (σ t) (w t):=by
 rw[Lm_iff hB.1 fun y hy=>(hB.2 y hy).1]
 intro i hi hk
 rw[Bool.eq_iff_iff,h.at_ t i hi,sat2 hk]
theorem Ds.ful {B:List Exq}{w:Nat→Int}{σ:Nat→Nat}(h:Ds B w σ) (hB:Bc B) {u:Int}(hu:u∈unt B B.length) (t:Nat):∃v,t≤v∧Fm.ful B (σ v) u=true:=by
 obtain⟨i,rfl,hi,hk⟩:=unt_mem hu
 have e:B.getD i Exq.zero=B[i]:=by simp[hi]
 rw[e] at hk
 obtain⟨_,hb,n,hc⟩:=hB.2 _ (List.getElem_mem hi)
 obtain⟨n,rfl⟩:=hc.ex
 have hs:=hc.shp
 obtain⟨hnd,hk8,h3,hbB,hkids⟩:=hc
 have h2:=hs.two (.inr (.inr (.inl hk)))
 simp only[Fm.ful,has_nat,Int.toNat_natCast,e,Bool.or_eq_true,Bool.not_eq_true']
 cases hb2:(σ t).testBit i with
 | false=>exact⟨t,Nat.le_refl _,.inl hb2⟩
 | true=>
  have h4:=(h.at_ t i hi).1 hb2
  rw[sat7 hk] at h4
  obtain⟨v,g1,g2,_⟩:=h4
  refine⟨v,g1,.inr ?_⟩
  rw[kv_at (by omega),h.val v _ (hkids _ (List.getElem_mem (show 1<B[i].kids.length by omega))),← sk_at (by omega)]
  exact g2
noncomputable def phN (B:List Exq) (U:List Int) (σ:Nat→Nat):Nat→Int
 | 0=>0
 | t+1=>(phs B U (σ t) (phN B U σ t)).1
theorem phN_ok {B:List Exq}{U:List Int}{σ:Nat→Nat}:∀t,POk U (phN B U σ t)
 | 0=>⟨Int.le_refl _,.inr rfl⟩
 | t+1=>phs_ok (phN_ok t)
theorem phN_acc {B:List Exq}{U:List Int}{σ:Nat→Nat}(hf:∀u∈U,∀t,∃v,t≤v∧ful B (σ v) u=true) (t:Nat):∃u,t≤u∧(phs B U (σ u) (phN B U σ u)).2=true:=by
 by_cases hU:U.length=0
 ·exact⟨t,Nat.le_refl _,by rw[phs,if_pos hU]⟩
 have hstep:∀u,∃p:Nat,phN B U σ u=p∧p<U.length∧phs B U (σ u) (phN B U σ u)=if ful B (σ u) (U.getD p 0)=true then ((((p+1)%U.length:Nat):Int),decide (p=0)) else ((p:Int),false):=by
  intro u
  have hk:=phN_ok (B:=B) (U:=U) (σ:=σ) u
  obtain⟨p,hp⟩:∃p:Nat,phN B U σ u=p:=⟨(phN B U σ u).toNat,by have:=hk.1;omega⟩
  rw[hp] at hk
  have hpl:p<U.length:=by rcases hk.2 with h1 | h1<;>omega
  refine⟨p,hp,hpl,?_⟩
  rw[phs,if_neg hU,hp,Int.toNat_natCast]
  split
  ·congr 1
   simp
  ·rfl
 -- a phase is left
 have leave:∀(p:Nat) (t:Nat),phN B U σ t=p→∃u,t≤u∧phN B U σ u=p∧ful B (σ u) (U.getD p 0)=true:=by
  intro p t hp
  obtain⟨q,h1,h2,_⟩:=hstep t
  obtain rfl:p=q:=by omega
  obtain⟨v,g1,g2⟩:=hf _ (List.getElem_mem h2) t
  have hgd:U.getD p 0=U[p]:=by simp[h2]
  -- the first time
  have key:∀d t,t+d=v→phN B U σ t=p→∃u,t≤u∧phN B U σ u=p∧ful B (σ u) (U.getD p 0)=true:=by
   intro d
   induction d with
   | zero=>
    intro t ht hp
    obtain rfl:t=v:=by omega
    exact⟨t,Nat.le_refl _,hp,by rw[hgd];exact g2⟩
   | succ d ih=>
    intro t ht hp
    by_cases hfu:ful B (σ t) (U.getD p 0)=true
    ·exact⟨t,Nat.le_refl _,hp,hfu⟩
    ·obtain⟨q,k1,k2,k3⟩:=hstep t
     obtain rfl:p=q:=by omega
     rw[if_neg hfu] at k3
     obtain⟨u,k4,k5⟩:=ih (t+1) (by omega) (by rw[phN,k3])
     exact⟨u,by omega,k5⟩
  exact key (v-t) t (by omega) hp
 -- each phase comes to the first one
 have down:∀d (p:Nat) (t:Nat),p+d=U.length→p<U.length→phN B U σ t=p→∃u,t≤u∧phN B U σ u=((0:Nat):Int):=by
  intro d
  induction d with
  | zero=>intro p t h1 h2;omega
  | succ d ih=>
   intro p t h1 h2 hp
   obtain⟨u,g1,g2,g3⟩:=leave p t hp
   obtain⟨q,k1,k2,k3⟩:=hstep u
   obtain rfl:p=q:=by omega
   rw[if_pos g3] at k3
   by_cases e:p+1=U.length
   ·exact⟨u+1,by omega,by rw[phN,k3,e];simp⟩
   ·obtain⟨v,k4,k5⟩:=ih (p+1) (u+1) (by omega) (by omega) (by rw[phN,k3];simp only;rw[Nat.mod_eq_of_lt (by omega)])
    exact⟨v,by omega,k5⟩
 obtain⟨p,h1,h2,_⟩:=hstep t
 obtain⟨u,h3,h4⟩:=down (U.length-p) p t (by omega) h2 h1
 obtain⟨v,h5,h6,h7⟩:=leave 0 u h4
 obtain⟨q,k1,k2,k3⟩:=hstep v
 obtain rfl:q=0:=by omega
 rw[if_pos h7] at k3
 exact⟨v,by omega,by rw[k3];rfl⟩
theorem Ds.gd {B:List Exq}{w:Nat→Int}{σ:Nat→Nat}(h:Ds B w σ) (hB:Bc B):Gd B (unt B B.length) w σ (phN B (unt B B.length) σ):=
 ⟨h.fol hB,h.lm hB,fun _=>rfl,phN_ok,phN_acc fun _ hu=>h.ful hB hu⟩
theorem basics_bc {x:Exq}(h:bOk x):Bc (basics x):=by
 refine⟨basics_nodup,fun y hy=>⟨(basics_ok h y hy).1,(basics_ok h y hy).2,6,?_⟩⟩
 obtain⟨h1,h2,_⟩:=subs_kc _ (push x false) (Nat.le_refl _) [] (fun y hy=>by simp at hy)
 have hnf:=subs_all (P:=fun y=>∃n,Nf n y) _ (push x false) (fun y hy=>Nf.kids hy) (Nat.le_refl _) ⟨_,nf_push x h.1.1.1 false⟩ [] (fun y hy=>by simp at hy)
 have key:∀(n:Nat) (y:Exq),y∈subs (push x false) []→Shp n y→Cl (basics x) n y:=by
  intro n
  induction n with
  | zero=>intro y _ h;exact h.elim
  | succ n ih=>
   intro y hy hs
   obtain⟨m,hm⟩:=hnf y hy
   cases m with
   | zero=>exact hm.elim
   | succ m=>exact⟨hs.1,hm.1,hm.2.1,fun hb=>List.mem_filter.2 ⟨hy,hb⟩,fun z hz=>ih z (h1 y hy z hz) (hs.2 z hz)⟩
 exact key 6 _ (List.mem_filter.1 hy).1 (basics_ok h y hy).1
end Fm
structure Tgt (A:List Bool) (E:List Tr) (w:Nat→Int) (C:Nat→Nat→Prop) where
 t:Nat
 p:Nat
 u:Nat
 q:Nat
 lt:t<u
 fr:FR E w t p u q
 acc:tru A q
 mem:C u q
section
variable {A:List Bool}{E:List Tr}{w:Nat→Int}{C:Nat→Nat→Prop}
theorem Tgt.step (hG:Goes A E w C) (x:Tgt A E w C):∃y:Tgt A E w C,y.t=x.t+1∧StE E w x.t x.p y.p∧(x.t+1<x.u→y.u=x.u∧y.q=x.q)∧(x.t+1=x.u→y.p=x.q):=by
 obtain⟨t,p,u,q,h1,h2,h3,h4⟩:=x
 cases h2 with
 | refl=>omega
 | step h k=>
  rename_i p'
  by_cases e:t+1=u
  ·subst e
   have hq:p'=q:=by
    cases k with
    | refl=>rfl
    | step h k=>have:=k.le;omega
   subst hq
   obtain⟨u',q',g1,g2,g3,g4⟩:=hG _ _ h4
   exact⟨⟨t+1,p',u',q',g1,g2,g3,g4⟩,rfl,h,fun hh=>absurd hh (Nat.lt_irrefl _),fun _=>rfl⟩
  ·exact⟨⟨t+1,p',u,q,by omega,k,h3,h4⟩,rfl,h,fun _=>⟨rfl,rfl⟩,fun hh=>absurd hh e⟩
noncomputable def Tgt.seq (hG:Goes A E w C) (x:Tgt A E w C):Nat→Tgt A E w C
 | 0=>x
 | n+1=>Classical.choose (Tgt.step hG (Tgt.seq hG x n))
theorem Run.seq {t p:Nat}(h:Run A E w t p):∃ρ:Nat→Nat,ρ 0=p∧(∀n,StE E w (t+n) (ρ n) (ρ (n+1)))∧∀n,∃m,n≤m∧tru A (ρ m):=by
 obtain⟨C,hC,hG⟩:=h
 obtain⟨u,q,h1,h2,h3,h4⟩:=hG t p hC
 obtain⟨x0,hx0⟩:∃x0:Tgt A E w C,x0=⟨t,p,u,q,h1,h2,h3,h4⟩:=⟨_,rfl⟩
 have hs:∀n,(Tgt.seq hG x0 (n+1)).t=(Tgt.seq hG x0 n).t+1∧StE E w (Tgt.seq hG x0 n).t (Tgt.seq hG x0 n).p (Tgt.seq hG x0 (n+1)).p∧((Tgt.seq hG x0 n).t+1<(Tgt.seq hG x0 n).u→(Tgt.seq hG x0 (n+1)).u=(Tgt.seq hG x0 n).u∧(Tgt.seq hG x0 (n+1)).q=(Tgt.seq hG x0 n).q)∧((Tgt.seq hG x0 n).t+1=(Tgt.seq hG x0 n).u→(Tgt.seq hG x0 (n+1)).p=(Tgt.seq hG x0 n).q):=
  fun n=>Classical.choose_spec (Tgt.step hG (Tgt.seq hG x0 n))
 have ht:∀n,(Tgt.seq hG x0 n).t=t+n:=by
  intro n
  induction n with
  | zero=>show x0.t=t+0;rw[hx0];rfl
  | succ n ih=>have:=(hs n).1;omega
 refine⟨fun n=>(Tgt.seq hG x0 n).p,by show x0.p=p;rw[hx0],fun n=>by rw[← ht n];exact (hs n).2.1,fun n=>?_⟩
 have key:∀d n,(Tgt.seq hG x0 n).u=(Tgt.seq hG x0 n).t+1+d→∃m,n≤m∧tru A (Tgt.seq hG x0 m).p:=by
  intro d
  induction d with
  | zero=>
   intro n hn
   refine⟨n+1,by omega,?_⟩
   have:=(hs n).2.2.2 (by omega)
   rw[this]
   exact (Tgt.seq hG x0 n).acc
  | succ d ih=>
   intro n hn
   obtain⟨e1,e2⟩:=(hs n).2.2.1 (by omega)
   have e3:=(hs n).1
   obtain⟨m,g1,g2⟩:=ih (n+1) (by rw[e1,e3];omega)
   exact⟨m,by omega,g2⟩
 have:=(Tgt.seq hG x0 n).lt
 exact key ((Tgt.seq hG x0 n).u-((Tgt.seq hG x0 n).t+1)) n (by omega)
theorem Run.of_seq {ρ:Nat→Nat}(h1:∀n,StE E w n (ρ n) (ρ (n+1))) (h2:∀n,∃m,n≤m∧tru A (ρ m)):Run A E w 0 (ρ 0):=by
 refine⟨fun t p=>p=ρ t,rfl,?_⟩
 rintro t p rfl
 obtain⟨m,h3,h4⟩:=h2 (t+1)
 have fr:∀d t,FR E w t (ρ t) (t+d) (ρ (t+d)):=by
  intro d
  induction d with
  | zero=>intro t;exact .refl _ _
  | succ d ih=>
   intro t
   have:=ih (t+1)
   rw[show t+1+d=t+(d+1) by omega] at this
   exact .step (h1 t) this
 have:=fr (m-t) t
 rw[show t+(m-t)=m by omega] at this
 exact⟨m,ρ m,by omega,this,h4,rfl⟩
end
namespace Fm
theorem atL_mem {L:List (List Int)}{p:List Int}:∃j:Nat,atL L p=j∧(adL L p)[j]? = some p:=by
 by_cases h:p∈L
 ·rw[adL,if_pos h]
  unfold atL
  rcases hf:L.findIdx? (fun y=>decide (y=p)) with _ | i
  ·rw[List.findIdx?_eq_none_iff] at hf
   have:=hf p h
   simp at this
  ·have h2:=hf
   rw[List.findIdx?_eq_some_iff_getElem] at h2
   obtain⟨h3,h4,_⟩:=h2
   exact⟨i,rfl,by rw[List.getElem?_eq_getElem h3];simpa using h4⟩
 ·exact⟨L.length,atL_not h,by rw[adL,if_neg h];simp⟩
theorem adL_get {L:List (List Int)}{p x:List Int}{j:Nat}(h:L[j]? = some x):(adL L p)[j]? = some x:=by
 obtain⟨t,ht⟩:=adL_pre (L:=L) (p:=p)
 rw[ht,List.getElem?_append_left (List.getElem?_eq_some_iff.1 h).1]
 exact h
def eg (B:List Exq) (i s j:Nat):Tr:=⟨(i:Int),(ltc B B.length:Nat),(ltv B s B.length:Nat),(j:Int)⟩
structure TR (B:List Exq) (i s:Nat) (p:Int) (m:Nat) (q r:List (List Int)×List Tr):Prop where
 pre:∀(j:Nat) x,q.1[j]? = some x→r.1[j]? = some x
 old:∀e∈q.2,e∈r.2
 new:∀e∈r.2,e∈q.2∨∃t j:Nat,t<m∧Fol B s t∧e=eg B i s j∧r.1[j]? = some [(t:Int),p]
 all:∀t,t<m→Fol B s t→∃j:Nat,r.1[j]? = some [(t:Int),p]∧eg B i s j∈r.2
theorem trow_tr {B:List Exq}{i s:Nat}{p:Int}{q:List (List Int)×List Tr}:∀m,TR B i s p m q (trow B i s p m q)
 | 0=>⟨fun _ _ h=>h,fun _ h=>h,fun _ h=>.inl h,fun _ h=>absurd h (Nat.not_lt_zero _)⟩
 | m+1=>by
  have ih:=trow_tr (B:=B) (i:=i) (s:=s) (p:=p) (q:=q) m
  unfold trow
  simp only
  split
  ·rename_i hf
   obtain⟨j,e1,e2⟩:=atL_mem (L:=(trow B i s p m q).1) (p:=[(m:Int),p])
   have he:(⟨(i:Int),(ltc B B.length:Nat),(ltv B s B.length:Nat),atL (trow B i s p m q).1 [(m:Int),p]⟩:Tr)=eg B i s j:=by rw[e1];rfl
   rw[he]
   refine⟨fun j x h=>adL_get (ih.pre j x h),fun e h=>List.mem_append_left _ (ih.old e h),fun e h=>?_,fun t ht hft=>?_⟩
   ·rcases List.mem_append.1 h with h | h
    ·rcases ih.new e h with h | ⟨t,j,h1,h2,h3,h4⟩
     ·exact .inl h
     ·exact .inr ⟨t,j,by omega,h2,h3,adL_get h4⟩
    ·rw[List.mem_singleton] at h
     exact .inr ⟨m,j,by omega,hf,h,e2⟩
   ·by_cases e:t=m
    ·subst e
     exact⟨j,e2,by simp⟩
    ·obtain⟨j,h1,h2⟩:=ih.all t (by omega) hft
     exact⟨j,adL_get h1,List.mem_append_left _ h2⟩
  ·rename_i hf
   refine⟨ih.pre,ih.old,fun e h=>?_,fun t ht hft=>?_⟩
   ·rcases ih.new e h with h | ⟨t,j,h1,h2,h3,h4⟩
    ·exact .inl h
    ·exact .inr ⟨t,j,by omega,h2,h3,h4⟩
   ·by_cases e:t=m
    ·subst e;exact absurd hft hf
    ·exact ih.all t (by omega) hft
structure TT (B:List Exq) (U:List Int) (L0:List (List Int)) (n:Nat) (r:List (List Int)×List Bool×List Tr):Prop where
 pre:∀(j:Nat) x,L0[j]? = some x→r.1[j]? = some x
 new:∀e∈r.2.2,∃(i s:Nat) (p:Int) (t j:Nat),i<n∧r.1[i]? = some [(s:Int),p]∧Fol B s t∧e=eg B i s j∧r.1[j]? = some [(t:Int),(phs B U s p).1]
 all:∀(i s:Nat) (p:Int) (t:Nat),i<n→i<r.2.1.length→r.1[i]? = some [(s:Int),p]→t<2^B.length→Fol B s t→∃j:Nat,r.1[j]? = some [(t:Int),(phs B U s p).1]∧eg B i s j∈r.2.2
 acc:∀(i s:Nat) (p:Int),i<r.2.1.length→r.1[i]? = some [(s:Int),p]→r.2.1[i]? = some (phs B U s p).2
 le:r.2.1.length≤n
 le2:r.2.1.length≤r.1.length
theorem tN_tt {B:List Exq}{U:List Int}{L0:List (List Int)}(h0:LOk2 (2^B.length) U L0) (hl:L0.length≤2^B.length):∀n,(∀m,m<n→m<(tN B U L0 m).1.length∧(tN B U L0 m).1.length≤64)→TT B U L0 n (tN B U L0 n)
 | 0,_=>⟨fun _ _ h=>h,fun e h=>by simp[tN] at h,fun _ _ _ _ h=>absurd h (Nat.not_lt_zero _),fun _ _ _ h=>by simp[tN] at h,by simp[tN],by simp[tN]⟩
 | n+1,hgo=>by
  have ih:=tN_tt h0 hl n fun m hm=>hgo m (by omega)
  obtain⟨h1,h2⟩:=hgo n (by omega)
  have inv:=tN_inv h0 hl n
  obtain⟨s,p,e,hs,hp⟩:=inv.ok _ (List.getElem_mem h1)
  have hal:=tN_al (B:=B) (U:=U) (L0:=L0) n fun m hm=>hgo m (by omega)
  rw[tN_succ h1 h2 e]
  have I:=trow_tr (B:=B) (i:=n) (s:=s) (p:=(phs B U s p).1) (q:=((tN B U L0 n).1,(tN B U L0 n).2.2)) (2^B.length)
  have back:∀(i:Nat) x,i<(tN B U L0 n).1.length→(trow B n s (phs B U s p).1 (2^B.length) ((tN B U L0 n).1,(tN B U L0 n).2.2)).1[i]? = some x→(tN B U L0 n).1[i]? = some x:=by
   intro i x hi hx
   have:=I.pre i _ (List.getElem?_eq_getElem hi)
   rw[this] at hx
   rw[List.getElem?_eq_getElem hi];exact hx
  have hnn:(tN B U L0 n).1[n]? = some [(s:Int),p]:=by rw[List.getElem?_eq_getElem h1,e]
  have two:∀{s':Nat}{p':Int},some [(s:Int),p]=some [(s':Int),p']→s=s'∧p=p':=by
   intro s' p' h
   simp only[Option.some.injEq,List.cons.injEq,and_true] at h
   exact⟨by omega,h.2⟩
  have hge:=(trow_inv (B:=B) (U:=U) (c:=2^B.length) (s:=s) (i:=n) (p:=(phs B U s p).1) (q:=((tN B U L0 n).1,(tN B U L0 n).2.2)) inv.ok (phs_ok hp) (2^B.length) (Nat.le_refl _)).ge
  refine⟨fun j x h=>I.pre j x (ih.pre j x h),fun e' he'=>?_,fun i s' p' t hi hil hx ht hf=>?_,fun i s' p' hi hx=>?_,by simp only[List.length_append,List.length_singleton];omega,by simp only[List.length_append,List.length_singleton];simp only at hge;omega⟩
  ·rcases I.new e' he' with h | ⟨t,j,g1,g2,g3,g4⟩
   ·obtain⟨i,s',p',t,j,g1,g2,g3,g4,g5⟩:=ih.new e' h
    exact⟨i,s',p',t,j,by omega,I.pre _ _ g2,g3,g4,I.pre _ _ g5⟩
   ·exact⟨n,s,p,t,j,by omega,I.pre _ _ hnn,g2,g3,g4⟩
  ·simp only at hx
   by_cases en:i=n
   ·subst en
    rw[I.pre _ _ hnn] at hx
    obtain⟨rfl,rfl⟩:=two hx
    exact I.all t ht hf
   ·obtain⟨j,g1,g2⟩:=ih.all i s' p' t (by omega) (by omega) (back i _ (by omega) hx) ht hf
    exact⟨j,I.pre _ _ g1,I.old _ g2⟩
  ·simp only at hx hi ⊢
   simp only[List.length_append,List.length_singleton] at hi
   by_cases en:i=n
   ·subst en
    rw[I.pre _ _ hnn] at hx
    obtain⟨rfl,rfl⟩:=two hx
    rw[List.getElem?_append_right (by omega),hal]
    simp
   ·rw[List.getElem?_append_left (by omega)]
    exact ih.acc i s' p' (by omega) (back i _ (by omega) hx)
structure TF (B:List Exq) (U:List Int) (L0:List (List Int)) (r:List (List Int)×List Bool×List Tr):Prop where
 pre:∀(j:Nat) x,L0[j]? = some x→r.1[j]? = some x
 new:∀e∈r.2.2,∃(i s:Nat) (p:Int) (t j:Nat),r.1[i]? = some [(s:Int),p]∧Fol B s t∧e=eg B i s j∧r.1[j]? = some [(t:Int),(phs B U s p).1]
 all:∀(i s:Nat) (p:Int) (t:Nat),r.1[i]? = some [(s:Int),p]→t<2^B.length→Fol B s t→∃j:Nat,r.1[j]? = some [(t:Int),(phs B U s p).1]∧eg B i s j∈r.2.2
 acc:∀(i s:Nat) (p:Int),r.1[i]? = some [(s:Int),p]→r.2.1[i]? = some (phs B U s p).2
 len:r.2.1.length=r.1.length
theorem tN_mono {B:List Exq}{U:List Int}{L0:List (List Int)}(h0:LOk2 (2^B.length) U L0) (hl:L0.length≤2^B.length) (n:Nat):(tN B U L0 n).1.length≤(tN B U L0 (n+1)).1.length:=by
 by_cases hc:n<(tN B U L0 n).1.length∧(tN B U L0 n).1.length≤64
 ·have inv:=tN_inv h0 hl n
  obtain⟨s,p,e,hs,hp⟩:=inv.ok _ (List.getElem_mem hc.1)
  rw[tN_succ hc.1 hc.2 e]
  exact (trow_inv (B:=B) (U:=U) (c:=2^B.length) (s:=s) (i:=n) (p:=(phs B U s p).1) (q:=((tN B U L0 n).1,(tN B U L0 n).2.2)) inv.ok (phs_ok hp) (2^B.length) (Nat.le_refl _)).ge
 ·rw[tN_stop hc (n+1) (by omega)]
  exact Nat.le_refl _
theorem tN_mono2 {B:List Exq}{U:List Int}{L0:List (List Int)}(h0:LOk2 (2^B.length) U L0) (hl:L0.length≤2^B.length) {n m:Nat}(h:n≤m):(tN B U L0 n).1.length≤(tN B U L0 m).1.length:=by
 obtain⟨k,rfl⟩:=Nat.exists_eq_add_of_le h
 induction k with
 | zero=>exact Nat.le_refl _
 | succ k ih=>exact Nat.le_trans (ih (by omega)) (tN_mono h0 hl _)
theorem tN_tf {B:List Exq}{U:List Int}{L0:List (List Int)}(h0:LOk2 (2^B.length) U L0) (hl:L0.length≤2^B.length) (h64:(tN B U L0 64).1.length≤64):TF B U L0 (tN B U L0 64):=by
 obtain⟨K,hK⟩:∃K,K=(tN B U L0 64).1.length:=⟨_,rfl⟩
 have hgo:∀m,m<K→m<(tN B U L0 m).1.length∧(tN B U L0 m).1.length≤64:=by
  intro m hm
  have h1:=tN_mono2 h0 hl (n:=m) (m:=64) (by omega)
  refine⟨?_,by omega⟩
  apply Classical.byContradiction
  intro hno
  have:=tN_stop (B:=B) (U:=U) (L0:=L0) (n:=m) (fun hh=>hno hh.1) 64 (by omega)
  rw[this] at hK
  omega
 have hst:¬(K<(tN B U L0 K).1.length∧(tN B U L0 K).1.length≤64):=fun hh=>by
  have h1:=tN_mono2 h0 hl (n:=K) (m:=64) (by omega)
  omega
 have he:=tN_stop hst 64 (by omega)
 have T:=tN_tt h0 hl K hgo
 have hal:=tN_al (B:=B) (U:=U) (L0:=L0) K hgo
 rw[he] at hK ⊢
 have lt:∀{i:Nat}{x:List Int},(tN B U L0 K).1[i]? = some x→i<K:=fun h=>by have:=(List.getElem?_eq_some_iff.1 h).1;omega
 exact⟨T.pre,fun e h=>by
  obtain⟨i,s,p,t,j,_,g⟩:=T.new e h
  exact⟨i,s,p,t,j,g⟩,fun i s p t h=>T.all i s p t (lt h) (by have:=lt h;omega) h,fun i s p h=>T.acc i s p (by have:=lt h;omega) h,by omega⟩
theorem ini0_mem {B:List Exq}{g:Exq}:∀{n:Nat}{x:List Int},x∈ini0 B g n↔∃s:Nat,s<n∧x=[(s:Int),0]∧val B s g=true
 | 0,x=>by simp[ini0]
 | n+1,x=>by
  rw[ini0]
  split
  ·rename_i hv
   rw[List.mem_append,ini0_mem (n:=n),List.mem_singleton]
   constructor
   ·rintro (⟨s,h1,h2,h3⟩ | rfl)
    ·exact⟨s,by omega,h2,h3⟩
    ·exact⟨n,by omega,rfl,hv⟩
   ·rintro⟨s,h1,h2,h3⟩
    by_cases e:s=n
    ·subst e;exact .inr h2
    ·exact .inl ⟨s,by omega,h2,h3⟩
  ·rename_i hv
   rw[ini0_mem (n:=n)]
   constructor
   ·rintro⟨s,h1,h2,h3⟩;exact⟨s,by omega,h2,h3⟩
   ·rintro⟨s,h1,h2,h3⟩
    by_cases e:s=n
    ·subst e;exact absurd h3 hv
    ·exact⟨s,by omega,h2,h3⟩
theorem upto_mem {n:Nat}{x:Int}:x∈upto n↔∃i:Nat,i<n∧x=i:=by
 simp only[upto,List.mem_map,List.mem_range]
 constructor
 ·rintro⟨i,h,rfl⟩;exact⟨i,h,rfl⟩
 ·rintro⟨i,h,rfl⟩;exact⟨i,h,rfl⟩
theorem eg_on {B:List Exq}(hB:∀y∈B,Shp 6 y) {i s j:Nat}{L:Int}(h0:0≤L) (h7:L≤7):(eg B i s j).on L=true↔Lm B s L:=by
 obtain⟨n,rfl⟩:∃n:Nat,L=n:=⟨L.toNat,by omega⟩
 have h1:=ltc_lt hB B.length (Nat.le_refl _)
 unfold Lm Tr.on eg
 simp only
 rw[i64_and (by omega) (by omega),decide_eq_true_iff,Int.toNat_natCast]
 omega
theorem trA_lang {x:Exq}(h:trOk x) {w:Nat→Int}(hw:∀t,0≤w t∧w t≤7):(trA x).Lang w↔sat w x 0:=by
 obtain⟨hb,h64⟩:=h
 have hp:=sat_push (w:=w) x hb.1.1.1 false 0
 simp only[Bool.false_eq_true,if_false] at hp
 rw[← hp]
 have hcl:=basics_cl hb.1
 have hBc:=basics_bc hb
 obtain⟨B,hBd⟩:∃B,B=basics x:=⟨_,rfl⟩
 obtain⟨U,hU⟩:∃U,U=unt B B.length:=⟨_,rfl⟩
 obtain⟨L0,hL0⟩:∃L0,L0=ini0 B (push x false) (2^B.length):=⟨_,rfl⟩
 have T:TF B U L0 (trT x):=by
  unfold trT at h64 ⊢
  rw[← hBd,← hU,← hL0] at h64 ⊢
  exact tN_tf (hL0▸ini0_ok (Nat.le_refl _)) (hL0▸ini0_len _) h64
 have hini:(trA x).init=upto L0.length:=by unfold trA;rw[hL0,hBd]
 have hed:(trA x).edges=(trT x).2.2:=by unfold trA;simp only
 have hacc:∀{i:Nat}{y},(trT x).1[i]? = some y→(trA x).acc=(trT x).2.1:=fun {i y} hi=>by
  unfold trA
  simp only
  rw[if_neg]
  intro e
  rw[e] at hi
  simp at hi
 rw[← hBd] at hcl hBc
 have hB6:=fun y hy=>(hBc.2 y hy).1
 have two:∀{s s':Nat}{p p':Int},some [(s:Int),p]=some [(s':Int),p']→s=s'∧p=p':=by
  intro s s' p p' h
  simp only[Option.some.injEq,List.cons.injEq,and_true] at h
  exact⟨by omega,h.2⟩
 constructor
 ·rintro⟨i0,hi0,hr⟩
  rw[hini,upto_mem] at hi0
  obtain⟨i,hi,hii⟩:=hi0
  obtain rfl:i0=i:=by omega
  obtain⟨s0,hs0,hs1,hs2⟩:=ini0_mem.1 (show L0[i0]∈ini0 B (push x false) (2^B.length) by rw[← hL0];exact List.getElem_mem hi)
  have h0:=T.pre i0 _ (List.getElem?_eq_getElem hi)
  rw[hs1] at h0
  rw[hacc h0,hed] at hr
  obtain⟨ρ,r1,r2,r3⟩:=Run.seq hr
  subst r1
  -- the states of the run
  have hst:∀n,∃(s:Nat) (p:Int),(trT x).1[ρ n]? = some [(s:Int),p]:=by
   intro n
   cases n with
   | zero=>exact⟨_,_,h0⟩
   | succ n=>
    obtain⟨e,he,e1,e2,e3⟩:=r2 n
    obtain⟨i,s,p,t,j,g1,g2,g3,g4⟩:=T.new e he
    subst g3
    have:ρ (n+1)=j:=by simp only[eg] at e2;omega
    rw[this]
    exact⟨_,_,g4⟩
  obtain⟨σ,hσ⟩:∃σ:Nat→Nat,∀n,∃p:Int,(trT x).1[ρ n]? = some [(σ n:Int),p]:=⟨fun n=>Classical.choose (hst n),fun n=>Classical.choose_spec (hst n)⟩
  obtain⟨π,hπ⟩:∃π:Nat→Int,∀n,(trT x).1[ρ n]? = some [(σ n:Int),π n]:=⟨fun n=>Classical.choose (hσ n),fun n=>Classical.choose_spec (hσ n)⟩
  have hstep:∀n,Fol B (σ n) (σ (n+1))∧Lm B (σ n) (w n)∧π (n+1)=(phs B U (σ n) (π n)).1:=by
   intro n
   obtain⟨e,he,e1,e2,e3⟩:=r2 n
   obtain⟨i,s,p,t,j,g1,g2,g3,g4⟩:=T.new e he
   subst g3
   have f1:ρ n=i:=by simp only[eg] at e1;omega
   have f2:ρ (n+1)=j:=by simp only[eg] at e2;omega
   rw[← f1,hπ] at g1
   rw[← f2,hπ] at g4
   obtain⟨rfl,rfl⟩:=two g1
   obtain⟨rfl,h5⟩:=two g4
   rw[Nat.zero_add] at e3
   exact⟨g2,(eg_on hB6 (hw n).1 (hw n).2).1 e3,h5⟩
  obtain⟨rfl,hπ0⟩:=two ((hπ 0).symm.trans h0)
  have hG:Gd B U w σ π:=⟨fun n=>(hstep n).1,fun n=>(hstep n).2.1,fun n=>(hstep n).2.2,fun n=>by
   induction n with
   | zero=>rw[hπ0];exact⟨Int.le_refl _,.inr rfl⟩
   | succ n ih=>rw[(hstep n).2.2];exact phs_ok ih,fun n=>by
   obtain⟨m,g1,g2⟩:=r3 n
   refine⟨m,g1,?_⟩
   have:=T.acc _ _ _ (hπ m)
   unfold Go.Proofs.YtielhfonnleldaaGreat.tru at g2
   rw[List.getD_eq_getElem?_getD,this] at g2
   exact g2⟩
  rw[hU] at hG
  exact hG.sound hBc.1 hB6 _ hcl 0 hs2
 ·intro hs
  obtain⟨σ,D⟩:=Ds.ex B w
  have hG:=D.gd hBc
  rw[← hU] at hG
  obtain⟨π,hπd⟩:∃π,π=phN B U σ:=⟨_,rfl⟩
  rw[← hπd] at hG
  have hv0:val B (σ 0) (push x false)=true:=(D.val 0 _ hcl).2 hs
  have hm0:[(σ 0:Int),0]∈L0:=by rw[hL0];exact ini0_mem.2 ⟨σ 0,D.lt 0,rfl,hv0⟩
  obtain⟨i0,hi0,he0⟩:=List.mem_iff_getElem.1 hm0
  have h0:=T.pre i0 _ (List.getElem?_eq_getElem hi0)
  rw[he0] at h0
  have hπ0:π 0=0:=by rw[hπd];rfl
  -- the states are in the table
  have nxt:∀n i,(trT x).1[i]? = some [(σ n:Int),π n]→∃j:Nat,(trT x).1[j]? = some [(σ (n+1):Int),π (n+1)]∧eg B i (σ n) j∈(trT x).2.2:=by
   intro n i hi
   rw[hG.ph n]
   exact T.all i _ _ _ hi (D.lt _) (hG.fol n)
  have hex:∃ρ:Nat→Nat,ρ 0=i0∧∀n,(trT x).1[ρ n]? = some [(σ n:Int),π n]∧eg B (ρ n) (σ n) (ρ (n+1))∈(trT x).2.2:=by
   let S:=fun n=>{ i:Nat // (trT x).1[i]? = some [(σ n:Int),π n] }
   let f:∀n,S n:=fun n=>Nat.rec (motive:=S) ⟨i0,by rw[hπ0];exact h0⟩ (fun n i=>⟨Classical.choose (nxt n i.1 i.2),(Classical.choose_spec (nxt n i.1 i.2)).1⟩) n
   exact⟨fun n=>(f n).1,rfl,fun n=>⟨(f n).2,(Classical.choose_spec (nxt n (f n).1 (f n).2)).2⟩⟩
  obtain⟨ρ,g1,g2⟩:=hex
  refine⟨i0,by rw[hini,upto_mem];exact⟨i0,hi0,rfl⟩,?_⟩
  rw[hacc h0,hed,← g1]
  refine Run.of_seq (fun n=>⟨_,(g2 n).2,rfl,rfl,(eg_on hB6 (hw n).1 (hw n).2).2 (hG.lm n)⟩) fun n=>?_
  obtain⟨m,g3,g4⟩:=hG.acc n
  refine⟨m,g3,?_⟩
  unfold Go.Proofs.YtielhfonnleldaaGreat.tru
  rw[List.getD_eq_getElem?_getD,T.acc _ _ _ (g2 m).1]
  exact g4
end Fm
def H_impl_AutomatonValid:Hint:=⟨[(0,false),(1,true),(2,false),(3,false),(4,false),(6,false),(11,false),(12,false),(13,false)],[[0,2,5]]⟩
abbrev K55_1:Pl:=.y 17 (.px (some 22) (.un .not (.v 21))) <|
 .x 23 (.pick (.v 17) (.v 22) (.c (.bool false))) <|
 .m 2 23 .done
abbrev K55_2:Pl:=.m 11 10 <|
 .y 11 (.als 12 none 1) <|
 .y 11 (.pget (some 13) (some 12) 1 2 none) <|
 .y 11 (.px (some 14) (.lenV (.v 13))) <|
 .y 11 (.px (some 15) (.bin .leq (.v 14) (.c (.int .i64 2048)))) <|
 .x 16 (.pick (.v 11) (.v 15) (.c (.bool false))) <|
 .m 17 16 <|
 .y 17 (.als 18 none 1) <|
 .y 17 (.pget (some 19) (some 18) 1 2 none) <|
 .y 17 (.px (some 20) (.mkf (.func fn_impl_AutomatonValid_1) [] [.v 3])) <|
 .st (.act (some (.v 17,true)) (.ex (some 21) (.call fn_slices_ContainsFunc_S_impl_Transition_impl_Transition [.v 19,.v 20]))) K55_1
abbrev K55_3:C:=.seq (.pl <| .e 9 15 <|
 .l 9 3 <|
 .c 10 (.call fn_impl_in [.v 9,.c (.int .i64 1),.c (.int .i64 64)]) K55_2) (.ret)
abbrev K55_4:C:=.pl <| .e 9 1 <|
 .x 9 (.bin .add (.v 8) (.c (.int .i64 1))) <|
 .m 8 9 .done
abbrev K55_5:C:=.pl <| .e 9 1 <|
 .m 9 5 <|
 .m 4 9 .done
abbrev K55_6:C:=.seq (.pl <| .e 9 0 <|
 .x 2 (.mv (.c (.bool false))) .done) (.ret)
abbrev K55_7:C:=.cond 9 (.v 15) K55_6 (.skip)
abbrev K55_8:Pl:=.x 15 (.un .not (.v 14)) .done
abbrev K55_9:C:=.seq (.seq (.pl <| .e 9 7 <|
 .m 9 5 <|
 .m 10 4 <|
 .x 11 (.bin .add (.v 10) (.c (.int .i64 1))) <|
 .l 12 3 <|
 .x 13 (.bin .sub (.v 12) (.c (.int .i64 1))) <|
 .c 14 (.call fn_impl_in [.v 9,.v 11,.v 13]) K55_8) K55_7) K55_5
abbrev K55_10:C:=.seq (.block 1 (.seq (.pl <| .e 9 2 <|
 .x 9 (.ia 1 (.v 6) (.v 8)) <|
 .l 10 9 <|
 .m 5 10 .done) K55_9)) K55_4
abbrev K55_11:C:=.seq (.cond 9 (.v 9) (.skip) (.exit 0)) K55_10
abbrev K55_12:C:=.seq (.pl <| .e 9 1 <|
 .x 9 (.bin .lss (.v 8) (.v 7)) .done) K55_11
abbrev K55_13:C:=.block 0 (.loop 9 [0,2,5] K55_12)
abbrev K55_14:C:=.seq (.seq (.pl <| .e 9 1 <|
 .a 9 1 <|
 .g 6 9 1 0 <|
 .x 7 (.lenV (.v 6)) <|
 .x 8 (.mv (.c (.int .i64 0))) .done) K55_13) K55_3
abbrev K55_15:C:=.seq (.pl <| .e 9 0 <|
 .x 4 (.mv (.c (.int .i64 (-1)))) .done) K55_14
abbrev K55_16:Pl:=.o (.ex none (.store 1 (.v 3) (.v 11))) .done
abbrev K55_17:C:=.seq (.pl <| .e 9 3 <|
 .a 9 1 <|
 .g 10 9 1 1 <|
 .x 11 (.lenV (.v 10)) <|
 .c 3 (.alloc (.c (.int .i64 0))) K55_16) K55_15
abbrev B_impl_AutomatonValid:C:=.seq (.pl <| .e 9 0 <|
 .o (.pnew 1 (.v 0) []) <|
 .x 2 (.mv (.c (.bool false))) .done) K55_17
def R_impl_AutomatonValid:FIR:=⟨B_impl_AutomatonValid,9,[(2,none)]⟩
theorem IR_impl_AutomatonValid:cfun Tryz.prog H_impl_AutomatonValid Tryz.f55=some R_impl_AutomatonValid:=by kernel_rfl
theorem EN_impl_AutomatonValid:ENT Tryz.prog B_impl_AutomatonValid [(2,none)] 1 9 fn_impl_AutomatonValid:=fun hargs hw=>enter Tryz.func55 rfl IR_impl_AutomatonValid hargs hw
def H_impl_AutomatonValid_1:Hint:=⟨[(0,false),(1,false),(2,true),(3,false)],[]⟩
abbrev K107_1:Pl:=.n 18 (.px (some 22) (.un .not (.v 21))) <|
 .x 23 (.pick (.v 18) (.c (.bool true)) (.v 22)) <|
 .m 24 23 <|
 .n 24 (.als 25 none 2) <|
 .n 24 (.pget (some 26) (some 25) 2 2 none) <|
 .n 24 (.px (some 27) (.bin .lss (.v 26) (.c (.int .i64 0)))) <|
 .x 28 (.pick (.v 24) (.c (.bool true)) (.v 27)) <|
 .m 29 28 <|
 .n 29 (.als 30 none 2) <|
 .n 29 (.pget (some 31) (some 30) 2 2 none) <|
 .n 29 (.als 32 none 2) <|
 .n 29 (.pget (some 33) (some 32) 2 1 none) <|
 .n 29 (.px (some 34) (.bin .andNot (.v 31) (.v 33))) <|
 .n 29 (.px (some 35) (.bin .neq (.v 34) (.c (.int .i64 0)))) <|
 .x 36 (.pick (.v 29) (.c (.bool true)) (.v 35)) <|
 .m 3 36 .done
abbrev K107_2:Pl:=.n 10 (.px (some 16) (.un .not (.v 15))) <|
 .x 17 (.pick (.v 10) (.c (.bool true)) (.v 16)) <|
 .m 18 17 <|
 .n 18 (.als 19 none 2) <|
 .n 18 (.pget (some 20) (some 19) 2 1 none) <|
 .st (.act (some (.v 18,false)) (.ex (some 21) (.call fn_impl_in [.v 20,.c (.int .i64 0),.c (.int .i64 7)]))) K107_1
abbrev K107_3:Pl:=.x 9 (.un .not (.v 8)) <|
 .m 10 9 <|
 .n 10 (.als 11 none 2) <|
 .n 10 (.pget (some 12) (some 11) 2 3 none) <|
 .n 10 (.ld (some 13) (.v 1) none) <|
 .n 10 (.px (some 14) (.bin .sub (.v 13) (.c (.int .i64 1)))) <|
 .st (.act (some (.v 10,false)) (.ex (some 15) (.call fn_impl_in [.v 12,.c (.int .i64 0),.v 14]))) K107_2
abbrev K107_4:C:=.seq (.pl <| .e 4 33 <|
 .a 4 2 <|
 .g 5 4 2 0 <|
 .l 6 1 <|
 .x 7 (.bin .sub (.v 6) (.c (.int .i64 1))) <|
 .c 8 (.call fn_impl_in [.v 5,.c (.int .i64 0),.v 7]) K107_3) (.ret)
abbrev B_impl_AutomatonValid_1:C:=.seq (.pl <| .e 4 0 <|
 .o (.pnew 2 (.v 0) []) <|
 .x 3 (.mv (.c (.bool false))) .done) K107_4
def R_impl_AutomatonValid_1:FIR:=⟨B_impl_AutomatonValid_1,4,[(3,none)]⟩
theorem IR_impl_AutomatonValid_1:cfun Tryz.prog H_impl_AutomatonValid_1 Tryz.f107=some R_impl_AutomatonValid_1:=by kernel_rfl
theorem EN_impl_AutomatonValid_1:ENT Tryz.prog B_impl_AutomatonValid_1 [(3,none)] 2 4 fn_impl_AutomatonValid_1:=fun hargs hw=>enter Tryz.func107 rfl IR_impl_AutomatonValid_1 hargs hw
def H_impl_Automaton_copyOf:Hint:=⟨[(0,false),(1,true),(2,true)],[]⟩
abbrev K95_1:Pl:=.x 12 (.build [.slice none 0 0,.slice none 0 0,.slice none 0 0] [(0,1,.v 5),(1,1,.v 8),(2,1,.v 11)]) <|
 .o (.pset none 2 0 3 (.v 12)) .done
abbrev K95_2:Pl:=.c 11 (.call fn_impl_clone_impl_Transition [.v 10]) K95_1
abbrev K95_3:Pl:=.c 8 (.call fn_impl_clone_bool [.v 7]) K95_2
abbrev K95_4:C:=.seq (.pl <| .e 3 10 <|
 .a 3 1 <|
 .g 4 3 1 0 <|
 .a 6 1 <|
 .g 7 6 1 1 <|
 .a 9 1 <|
 .g 10 9 1 2 <|
 .c 5 (.call fn_impl_clone_int [.v 4]) K95_3) (.ret)
abbrev B_impl_Automaton_copyOf:C:=.seq (.pl <| .e 3 0 <|
 .o (.pnew 1 (.v 0) []) <|
 .o (.pnew 2 (.c (.agg #[.slice none 0 0,.slice none 0 0,.slice none 0 0])) []) .done) K95_4
def R_impl_Automaton_copyOf:FIR:=⟨B_impl_Automaton_copyOf,3,[(2,some (some 3))]⟩
theorem IR_impl_Automaton_copyOf:cfun Tryz.prog H_impl_Automaton_copyOf Tryz.f95=some R_impl_Automaton_copyOf:=by kernel_rfl
theorem EN_impl_Automaton_copyOf:ENT Tryz.prog B_impl_Automaton_copyOf [(2,some (some 3))] 1 3 fn_impl_Automaton_copyOf:=fun hargs hw=>enter Tryz.func95 rfl IR_impl_Automaton_copyOf hargs hw
def H_impl_Automaton_next:Hint:=⟨[(0,false),(1,true),(2,false),(3,false),(5,true),(11,false),(12,false),(13,false)],[[0,1,2,4]]⟩
abbrev K62_1:C:=.seq (.pl <| .e 8 1 <|
 .m 8 3 <|
 .m 2 8 .done) (.ret)
abbrev K62_2:C:=.pl <| .e 8 1 <|
 .x 8 (.bin .add (.v 7) (.c (.int .i64 1))) <|
 .m 7 8 .done
abbrev K62_3:Pl:=.x 20 (.ia 1 (.v 8) (.v 10)) <|
 .o (.ex none (.store 1 (.v 20) (.v 19))) .done
abbrev K62_4:C:=.pl <| .e 8 13 <|
 .m 8 3 <|
 .a 9 4 <|
 .g 10 9 4 0 <|
 .m 11 3 <|
 .a 12 4 <|
 .g 13 12 4 0 <|
 .x 14 (.ia 1 (.v 11) (.v 13)) <|
 .l 15 14 <|
 .a 16 4 <|
 .g 17 16 4 3 <|
 .o (.psl 18 [.int .i64 0] [(0,1,.v 17)]) <|
 .c 19 (.app 8 1 [.int .i64 0] (.o (.v 15)) (.p 1 18)) K62_3
abbrev K62_5:C:=.seq (.block 1 (.seq (.pl <| .e 8 2 <|
 .x 8 (.ia 4 (.v 5) (.v 7)) <|
 .o (.ld (some 9) (.v 8) (some 4)) <|
 .o (.pnew 4 (.c (.agg #[.int .i64 0,.int .i64 0,.int .i64 0,.int .i64 0])) []) <|
 .o (.pset none 4 0 4 (.v 9)) .done) K62_4)) K62_2
abbrev K62_6:C:=.seq (.cond 8 (.v 8) (.skip) (.exit 0)) K62_5
abbrev K62_7:C:=.seq (.pl <| .e 8 1 <|
 .x 8 (.bin .lss (.v 7) (.v 6)) .done) K62_6
abbrev K62_8:C:=.block 0 (.loop 8 [0,1,2,4] K62_7)
abbrev K62_9:C:=.seq (.seq (.pl <| .e 8 1 <|
 .a 8 1 <|
 .g 5 8 1 2 <|
 .x 6 (.lenV (.v 5)) <|
 .x 7 (.mv (.c (.int .i64 0))) .done) K62_8) K62_1
abbrev K62_10:Pl:=.m 3 11 .done
abbrev K62_11:C:=.seq (.pl <| .e 8 4 <|
 .a 8 1 <|
 .g 9 8 1 1 <|
 .x 10 (.lenV (.v 9)) <|
 .c 11 (.mks 24 1 [.slice none 0 0] (.v 10) (.v 10)) K62_10) K62_9
abbrev B_impl_Automaton_next:C:=.seq (.pl <| .e 8 0 <|
 .o (.pnew 1 (.v 0) []) <|
 .x 2 (.mv (.c (.slice none 0 0))) .done) K62_11
def R_impl_Automaton_next:FIR:=⟨B_impl_Automaton_next,8,[(2,none)]⟩
theorem IR_impl_Automaton_next:cfun Tryz.prog H_impl_Automaton_next Tryz.f62=some R_impl_Automaton_next:=by kernel_rfl
theorem EN_impl_Automaton_next:ENT Tryz.prog B_impl_Automaton_next [(2,none)] 1 8 fn_impl_Automaton_next:=fun hargs hw=>enter Tryz.func62 rfl IR_impl_Automaton_next hargs hw
def H_impl_BasicFormulas:Hint:=⟨[(0,false),(1,true),(2,false),(3,false),(4,true),(5,false),(6,false)],[]⟩
abbrev K37_1:C:=.seq (.pl <| .e 7 1 <|
 .m 7 6 <|
 .m 2 7 <|
 .x 3 (.mv (.c (.bool true))) .done) (.ret)
abbrev K37_2:C:=.seq (.pl <| .e 7 0 <|
 .x 2 (.mv (.c (.slice none 0 0))) <|
 .x 3 (.mv (.c (.bool false))) .done) (.ret)
abbrev K37_3:C:=.cond 7 (.v 9) K37_2 (.skip)
abbrev K37_4:C:=.seq (.seq (.pl <| .e 7 3 <|
 .m 7 6 <|
 .x 8 (.lenV (.v 7)) <|
 .x 9 (.bin .gtr (.v 8) (.c (.int .i64 5))) .done) K37_3) K37_1
abbrev K37_5:Pl:=.m 6 8 .done
abbrev K37_6:C:=.seq (.pl <| .e 7 2 <|
 .o (.pget (some 7) none 4 0 (some 3)) <|
 .c 8 (.call fn_impl_basics [.v 7]) K37_5) K37_4
abbrev K37_7:C:=.seq (.pl <| .e 7 0 <|
 .x 2 (.mv (.c (.slice none 0 0))) <|
 .x 3 (.mv (.c (.bool false))) .done) (.ret)
abbrev K37_8:C:=.cond 7 (.v 8) K37_7 (.skip)
abbrev K37_9:C:=.seq (.seq (.pl <| .e 7 2 <|
 .m 7 5 <|
 .x 8 (.un .not (.v 7)) .done) K37_8) K37_6
abbrev K37_10:Pl:=.m 9 8 <|
 .x 10 (.extract 0 (.v 9)) <|
 .x 11 (.extract 1 (.v 9)) <|
 .o (.pnew 4 (.c (.agg #[.int .i64 0,.int .i64 0,.slice none 0 0])) []) <|
 .o (.pset none 4 0 3 (.v 10)) <|
 .m 5 11 .done
abbrev K37_11:C:=.seq (.pl <| .e 7 5 <|
 .o (.pget (some 7) none 1 0 (some 3)) <|
 .c 8 (.call fn_impl_NormalForm [.v 7]) K37_10) K37_9
abbrev B_impl_BasicFormulas:C:=.seq (.pl <| .e 7 0 <|
 .o (.pnew 1 (.v 0) []) <|
 .x 2 (.mv (.c (.slice none 0 0))) <|
 .x 3 (.mv (.c (.bool false))) .done) K37_11
def R_impl_BasicFormulas:FIR:=⟨B_impl_BasicFormulas,7,[(2,none),(3,none)]⟩
theorem IR_impl_BasicFormulas:cfun Tryz.prog H_impl_BasicFormulas Tryz.f37=some R_impl_BasicFormulas:=by kernel_rfl
theorem EN_impl_BasicFormulas:ENT Tryz.prog B_impl_BasicFormulas [(2,none),(3,none)] 1 7 fn_impl_BasicFormulas:=fun hargs hw=>enter Tryz.func37 rfl IR_impl_BasicFormulas hargs hw
def H_impl_FormulaNodes:Hint:=⟨[(0,false),(1,true),(2,false),(3,false)],[]⟩
abbrev K87_1:C:=.seq (.pl <| .e 4 1 <|
 .l 4 3 <|
 .m 2 4 .done) (.ret)
abbrev K87_2:C:=.seq (.pl <| .e 4 0 <|
 .x 2 (.mv (.c (.int .i64 0))) .done) (.ret)
abbrev K87_3:C:=.cond 4 (.v 6) K87_2 (.skip)
abbrev K87_4:Pl:=.x 6 (.un .not (.v 5)) .done
abbrev K87_5:C:=.seq (.seq (.pl <| .e 4 3 <|
 .o (.pget (some 4) none 1 0 (some 3)) <|
 .c 5 (.call fn_impl_Formula_walk [.v 4,.c (.int .i64 1),.v 3]) K87_4) K87_3) K87_1
abbrev K87_6:Pl:=.o (.ex none (.store 1 (.v 3) (.c (.int .i64 0)))) .done
abbrev K87_7:C:=.seq (.pl <| .e 4 0 <|
 .c 3 (.alloc (.c (.int .i64 0))) K87_6) K87_5
abbrev B_impl_FormulaNodes:C:=.seq (.pl <| .e 4 0 <|
 .o (.pnew 1 (.v 0) []) <|
 .x 2 (.mv (.c (.int .i64 0))) .done) K87_7
def R_impl_FormulaNodes:FIR:=⟨B_impl_FormulaNodes,4,[(2,none)]⟩
theorem IR_impl_FormulaNodes:cfun Tryz.prog H_impl_FormulaNodes Tryz.f87=some R_impl_FormulaNodes:=by kernel_rfl
theorem EN_impl_FormulaNodes:ENT Tryz.prog B_impl_FormulaNodes [(2,none)] 1 4 fn_impl_FormulaNodes:=fun hargs hw=>enter Tryz.func87 rfl IR_impl_FormulaNodes hargs hw
def H_impl_FormulaSame:Hint:=⟨[(0,false),(1,false),(2,true),(3,true),(4,false)],[]⟩
abbrev K145_1:Pl:=.x 23 (.pick (.v 17) (.v 22) (.c (.bool false))) <|
 .m 4 23 .done
abbrev K145_2:C:=.seq (.pl <| .e 5 19 <|
 .a 5 2 <|
 .g 6 5 2 0 <|
 .a 7 3 <|
 .g 8 7 3 0 <|
 .x 9 (.bin .eql (.v 6) (.v 8)) <|
 .m 10 9 <|
 .y 10 (.als 11 none 2) <|
 .y 10 (.pget (some 12) (some 11) 2 1 none) <|
 .y 10 (.als 13 none 3) <|
 .y 10 (.pget (some 14) (some 13) 3 1 none) <|
 .y 10 (.px (some 15) (.bin .eql (.v 12) (.v 14))) <|
 .x 16 (.pick (.v 10) (.v 15) (.c (.bool false))) <|
 .m 17 16 <|
 .y 17 (.als 18 none 2) <|
 .y 17 (.pget (some 19) (some 18) 2 2 none) <|
 .y 17 (.als 20 none 3) <|
 .y 17 (.pget (some 21) (some 20) 3 2 none) <|
 .st (.act (some (.v 17,true)) (.ex (some 22) (.call fn_slices_EqualFunc_S_impl_Formula_S_impl_Formula_impl_Formula_impl_Formula [.v 19,.v 21,.c (.func (.func 145) #[] #[])]))) K145_1) (.ret)
abbrev B_impl_FormulaSame:C:=.seq (.pl <| .e 5 0 <|
 .o (.pnew 2 (.v 0) []) <|
 .o (.pnew 3 (.v 1) []) <|
 .x 4 (.mv (.c (.bool false))) .done) K145_2
def R_impl_FormulaSame:FIR:=⟨B_impl_FormulaSame,5,[(4,none)]⟩
theorem IR_impl_FormulaSame:cfun Tryz.prog H_impl_FormulaSame Tryz.f145=some R_impl_FormulaSame:=by kernel_rfl
theorem EN_impl_FormulaSame:ENT Tryz.prog B_impl_FormulaSame [(4,none)] 2 5 fn_impl_FormulaSame:=fun hargs hw=>enter Tryz.func145 rfl IR_impl_FormulaSame hargs hw
def H_impl_FormulaValid:Hint:=⟨[(0,false),(1,true),(2,false)],[]⟩
abbrev K35_1:Pl:=.x 5 (.bin .gtr (.v 4) (.c (.int .i64 0))) <|
 .m 2 5 .done
abbrev K35_2:C:=.seq (.pl <| .e 3 3 <|
 .o (.pget (some 3) none 1 0 (some 3)) <|
 .c 4 (.call fn_impl_FormulaNodes [.v 3]) K35_1) (.ret)
abbrev B_impl_FormulaValid:C:=.seq (.pl <| .e 3 0 <|
 .o (.pnew 1 (.v 0) []) <|
 .x 2 (.mv (.c (.bool false))) .done) K35_2
def R_impl_FormulaValid:FIR:=⟨B_impl_FormulaValid,3,[(2,none)]⟩
theorem IR_impl_FormulaValid:cfun Tryz.prog H_impl_FormulaValid Tryz.f35=some R_impl_FormulaValid:=by kernel_rfl
theorem EN_impl_FormulaValid:ENT Tryz.prog B_impl_FormulaValid [(2,none)] 1 3 fn_impl_FormulaValid:=fun hargs hw=>enter Tryz.func35 rfl IR_impl_FormulaValid hargs hw
def H_impl_Formula_copyOf:Hint:=⟨[(0,false),(1,true),(2,true),(3,true),(4,false),(5,true),(15,false),(16,false),(17,false)],[[0,1,4,5]]⟩
abbrev K88_1:C:=.seq (.pl <| .e 9 1 <|
 .o (.pget (some 9) none 3 0 (some 3)) <|
 .o (.pset none 2 0 3 (.v 9)) .done) (.ret)
abbrev K88_2:C:=.pl <| .e 9 1 <|
 .x 9 (.bin .add (.v 8) (.c (.int .i64 1))) <|
 .m 8 9 .done
abbrev K88_3:Pl:=.x 14 (.ia 3 (.v 10) (.v 11)) <|
 .o (.ex none (.store 3 (.v 14) (.v 13))) .done
abbrev K88_4:C:=.pl <| .e 9 6 <|
 .a 9 3 <|
 .g 10 9 3 2 <|
 .m 11 4 <|
 .o (.pget (some 12) none 5 0 (some 3)) <|
 .c 13 (.call fn_impl_Formula_copyOf [.v 12]) K88_3
abbrev K88_5:C:=.seq (.block 1 (.seq (.pl <| .e 9 3 <|
 .m 9 8 <|
 .x 10 (.ia 3 (.v 6) (.v 8)) <|
 .o (.ld (some 11) (.v 10) (some 3)) <|
 .o (.pnew 5 (.c (.agg #[.int .i64 0,.int .i64 0,.slice none 0 0])) []) <|
 .m 4 9 <|
 .o (.pset none 5 0 3 (.v 11)) .done) K88_4)) K88_2
abbrev K88_6:C:=.seq (.cond 9 (.v 9) (.skip) (.exit 0)) K88_5
abbrev K88_7:C:=.seq (.pl <| .e 9 1 <|
 .x 9 (.bin .lss (.v 8) (.v 7)) .done) K88_6
abbrev K88_8:C:=.block 0 (.loop 9 [0,1,4,5] K88_7)
abbrev K88_9:C:=.seq (.seq (.pl <| .e 9 1 <|
 .a 9 1 <|
 .g 6 9 1 2 <|
 .x 7 (.lenV (.v 6)) <|
 .x 8 (.mv (.c (.int .i64 0))) .done) K88_8) K88_1
abbrev K88_10:Pl:=.x 16 (.build [.int .i64 0,.int .i64 0,.slice none 0 0] [(0,1,.v 10),(1,1,.v 12),(2,1,.v 15)]) <|
 .o (.pset none 3 0 3 (.v 16)) .done
abbrev K88_11:C:=.seq (.pl <| .e 9 8 <|
 .a 9 1 <|
 .g 10 9 1 0 <|
 .a 11 1 <|
 .g 12 11 1 1 <|
 .a 13 1 <|
 .g 14 13 1 2 <|
 .o (.pnew 3 (.c (.agg #[.int .i64 0,.int .i64 0,.slice none 0 0])) []) <|
 .c 15 (.call fn_impl_clone_impl_Formula [.v 14]) K88_10) K88_9
abbrev B_impl_Formula_copyOf:C:=.seq (.pl <| .e 9 0 <|
 .o (.pnew 1 (.v 0) []) <|
 .o (.pnew 2 (.c (.agg #[.int .i64 0,.int .i64 0,.slice none 0 0])) []) .done) K88_11
def R_impl_Formula_copyOf:FIR:=⟨B_impl_Formula_copyOf,9,[(2,some (some 3))]⟩
theorem IR_impl_Formula_copyOf:cfun Tryz.prog H_impl_Formula_copyOf Tryz.f88=some R_impl_Formula_copyOf:=by kernel_rfl
theorem EN_impl_Formula_copyOf:ENT Tryz.prog B_impl_Formula_copyOf [(2,some (some 3))] 1 9 fn_impl_Formula_copyOf:=fun hargs hw=>enter Tryz.func88 rfl IR_impl_Formula_copyOf hargs hw
def H_impl_Formula_normal:Hint:=⟨[(0,false),(1,false),(2,false),(3,false),(4,true),(5,true),(6,false),(7,false),(8,true),(15,false),(71,false)],[]⟩
abbrev K92_1:C:=.seq (.pl <| .e 11 1 <|
 .o (.pget (some 11) none 8 0 (some 3)) <|
 .o (.pset none 4 0 3 (.v 11)) .done) (.ret)
abbrev K92_2:Pl:=.o (.pset none 4 0 3 (.v 13)) .done
abbrev K92_3:Pl:=.c 13 (.call fn_impl_formula [.c (.int .i64 3),.v 12]) K92_2
abbrev K92_4:C:=.seq (.pl <| .e 11 3 <|
 .o (.pget (some 11) none 8 0 (some 3)) <|
 .c 12 (.bls 3 1 [.int .i64 0,.int .i64 0,.slice none 0 0] [(0,3,.v 11)]) K92_3) (.ret)
abbrev K92_5:C:=.cond 11 (.v 11) K92_4 (.skip)
abbrev K92_6:C:=.seq (.seq (.pl <| .e 11 1 <|
 .l 11 3 .done) K92_5) K92_1
abbrev K92_7:C:=.seq (.pl <| .e 11 5 <|
 .x 11 (.fa 0 (.v 2)) <|
 .l 12 11 <|
 .x 13 (.fa 1 (.v 2)) <|
 .l 14 13 <|
 .x 15 (.build [.int .i64 0,.int .i64 0,.slice none 0 0] [(0,1,.v 12),(1,1,.v 14)]) <|
 .o (.pnew 8 (.c (.agg #[.int .i64 0,.int .i64 0,.slice none 0 0])) []) <|
 .o (.pset none 8 0 3 (.v 15)) .done) K92_6
abbrev K92_8:Pl:=.o (.pset none 4 0 3 (.v 17)) .done
abbrev K92_9:C:=.seq (.pl <| .e 11 7 <|
 .x 11 (.fa 2 (.v 2)) <|
 .l 12 11 <|
 .x 13 (.ia 3 (.v 12) (.c (.int .i64 0))) <|
 .o (.ld (some 14) (.v 13) (some 3)) <|
 .l 15 3 <|
 .x 16 (.un .not (.v 15)) <|
 .c 17 (.call fn_impl_Formula_normal [.v 14,.v 16]) K92_8) (.ret)
abbrev K92_10:Pl:=.o (.pset none 4 0 3 (.v 18)) .done
abbrev K92_11:Pl:=.c 18 (.call fn_impl_formula [.v 12,.v 17]) K92_10
abbrev K92_12:Pl:=.c 17 (.bls 3 2 [.int .i64 0,.int .i64 0,.slice none 0 0] [(0,3,.v 14),(3,3,.v 16)]) K92_11
abbrev K92_13:Pl:=.m 15 6 <|
 .c 16 (.callv (.v 15) [.c (.int .i64 1)]) K92_12
abbrev K92_14:Pl:=.m 13 6 <|
 .c 14 (.callv (.v 13) [.c (.int .i64 0)]) K92_13
abbrev K92_15:C:=.seq (.pl <| .e 11 8 <|
 .m 11 7 <|
 .c 12 (.callv (.v 11) [.c (.int .i64 4),.c (.int .i64 5)]) K92_14) (.ret)
abbrev K92_16:Pl:=.o (.pset none 4 0 3 (.v 18)) .done
abbrev K92_17:Pl:=.c 18 (.call fn_impl_formula [.v 12,.v 17]) K92_16
abbrev K92_18:Pl:=.c 17 (.bls 3 2 [.int .i64 0,.int .i64 0,.slice none 0 0] [(0,3,.v 14),(3,3,.v 16)]) K92_17
abbrev K92_19:Pl:=.m 15 6 <|
 .c 16 (.callv (.v 15) [.c (.int .i64 1)]) K92_18
abbrev K92_20:Pl:=.m 13 6 <|
 .c 14 (.callv (.v 13) [.c (.int .i64 0)]) K92_19
abbrev K92_21:C:=.seq (.pl <| .e 11 8 <|
 .m 11 7 <|
 .c 12 (.callv (.v 11) [.c (.int .i64 5),.c (.int .i64 4)]) K92_20) (.ret)
abbrev K92_22:Pl:=.o (.pset none 4 0 3 (.v 14)) .done
abbrev K92_23:Pl:=.c 14 (.call fn_impl_formula [.c (.int .i64 6),.v 13]) K92_22
abbrev K92_24:Pl:=.c 13 (.bls 3 1 [.int .i64 0,.int .i64 0,.slice none 0 0] [(0,3,.v 12)]) K92_23
abbrev K92_25:C:=.seq (.pl <| .e 11 4 <|
 .m 11 6 <|
 .c 12 (.callv (.v 11) [.c (.int .i64 0)]) K92_24) (.ret)
abbrev K92_26:Pl:=.o (.pset none 4 0 3 (.v 18)) .done
abbrev K92_27:Pl:=.c 18 (.call fn_impl_formula [.v 12,.v 17]) K92_26
abbrev K92_28:Pl:=.c 17 (.bls 3 2 [.int .i64 0,.int .i64 0,.slice none 0 0] [(0,3,.v 14),(3,3,.v 16)]) K92_27
abbrev K92_29:Pl:=.m 15 6 <|
 .c 16 (.callv (.v 15) [.c (.int .i64 1)]) K92_28
abbrev K92_30:Pl:=.m 13 6 <|
 .c 14 (.callv (.v 13) [.c (.int .i64 0)]) K92_29
abbrev K92_31:C:=.seq (.pl <| .e 11 8 <|
 .m 11 7 <|
 .c 12 (.callv (.v 11) [.c (.int .i64 7),.c (.int .i64 8)]) K92_30) (.ret)
abbrev K92_32:Pl:=.o (.pset none 4 0 3 (.v 18)) .done
abbrev K92_33:Pl:=.c 18 (.call fn_impl_formula [.v 12,.v 17]) K92_32
abbrev K92_34:Pl:=.c 17 (.bls 3 2 [.int .i64 0,.int .i64 0,.slice none 0 0] [(0,3,.v 14),(3,3,.v 16)]) K92_33
abbrev K92_35:Pl:=.m 15 6 <|
 .c 16 (.callv (.v 15) [.c (.int .i64 1)]) K92_34
abbrev K92_36:Pl:=.m 13 6 <|
 .c 14 (.callv (.v 13) [.c (.int .i64 0)]) K92_35
abbrev K92_37:C:=.seq (.pl <| .e 11 8 <|
 .m 11 7 <|
 .c 12 (.callv (.v 11) [.c (.int .i64 8),.c (.int .i64 7)]) K92_36) (.ret)
abbrev K92_38:Pl:=.o (.pset none 4 0 3 (.v 15)) .done
abbrev K92_39:Pl:=.c 15 (.call fn_impl_formula [.c (.int .i64 8),.v 14]) K92_38
abbrev K92_40:Pl:=.c 14 (.bls 3 2 [.int .i64 0,.int .i64 0,.slice none 0 0] [(0,3,.v 11),(3,3,.v 13)]) K92_39
abbrev K92_41:C:=.seq (.pl <| .e 11 5 <|
 .o (.pget (some 11) none 5 0 (some 3)) <|
 .m 12 6 <|
 .c 13 (.callv (.v 12) [.c (.int .i64 0)]) K92_40) (.ret)
abbrev K92_42:Pl:=.o (.pset none 4 0 3 (.v 15)) .done
abbrev K92_43:Pl:=.c 15 (.call fn_impl_formula [.c (.int .i64 7),.v 14]) K92_42
abbrev K92_44:Pl:=.c 14 (.bls 3 2 [.int .i64 0,.int .i64 0,.slice none 0 0] [(0,3,.v 11),(3,3,.v 13)]) K92_43
abbrev K92_45:Pl:=.m 12 6 <|
 .c 13 (.callv (.v 12) [.c (.int .i64 0)]) K92_44
abbrev K92_46:C:=.seq (.pl <| .e 11 5 <|
 .c 11 (.call fn_impl_formula [.c (.int .i64 1),.c (.slice none 0 0)]) K92_45) (.ret)
abbrev K92_47:C:=.cond 11 (.v 15) K92_46 (.skip)
abbrev K92_48:C:=.seq (.seq (.pl <| .e 11 5 <|
 .x 11 (.fa 0 (.v 2)) <|
 .l 12 11 <|
 .x 13 (.bin .eql (.v 12) (.c (.int .i64 9))) <|
 .l 14 3 <|
 .x 15 (.eqb true (.v 13) (.v 14)) .done) K92_47) K92_41
abbrev K92_49:C:=.cond 11 (.v 10) K92_48 (.skip)
abbrev K92_50:C:=.pl <| .e 11 1 <|
 .x 11 (.bin .eql (.v 9) (.c (.int .i64 10))) <|
 .m 10 11 .done
abbrev K92_51:C:=.cond 11 (.v 10) (.skip) K92_50
abbrev K92_52:C:=.seq (.seq (.pl <| .e 11 1 <|
 .x 11 (.bin .eql (.v 9) (.c (.int .i64 9))) <|
 .m 10 11 .done) K92_51) K92_49
abbrev K92_53:C:=.cond 11 (.v 12) K92_37 K92_52
abbrev K92_54:C:=.seq (.pl <| .e 11 2 <|
 .x 11 (.bin .eql (.v 9) (.c (.int .i64 8))) <|
 .m 12 11 .done) K92_53
abbrev K92_55:C:=.cond 11 (.v 12) K92_31 K92_54
abbrev K92_56:C:=.seq (.pl <| .e 11 2 <|
 .x 11 (.bin .eql (.v 9) (.c (.int .i64 7))) <|
 .m 12 11 .done) K92_55
abbrev K92_57:C:=.cond 11 (.v 12) K92_25 K92_56
abbrev K92_58:C:=.seq (.pl <| .e 11 2 <|
 .x 11 (.bin .eql (.v 9) (.c (.int .i64 6))) <|
 .m 12 11 .done) K92_57
abbrev K92_59:C:=.cond 11 (.v 12) K92_21 K92_58
abbrev K92_60:C:=.seq (.pl <| .e 11 2 <|
 .x 11 (.bin .eql (.v 9) (.c (.int .i64 5))) <|
 .m 12 11 .done) K92_59
abbrev K92_61:C:=.cond 11 (.v 12) K92_15 K92_60
abbrev K92_62:C:=.seq (.pl <| .e 11 2 <|
 .x 11 (.bin .eql (.v 9) (.c (.int .i64 4))) <|
 .m 12 11 .done) K92_61
abbrev K92_63:C:=.cond 11 (.v 12) K92_9 K92_62
abbrev K92_64:C:=.block 0 (.seq (.pl <| .e 11 2 <|
 .x 11 (.bin .eql (.v 9) (.c (.int .i64 3))) <|
 .m 12 11 .done) K92_63)
abbrev K92_65:C:=.seq (.seq (.pl <| .e 11 1 <|
 .x 11 (.fa 0 (.v 2)) <|
 .l 9 11 .done) K92_64) K92_7
abbrev K92_66:C:=.seq (.pl <| .e 11 1 <|
 .x 11 (.mkf (.func fn_impl_Formula_normal_2) [] [.v 3]) <|
 .m 7 11 .done) K92_65
abbrev K92_67:C:=.seq (.pl <| .e 11 1 <|
 .x 11 (.mkf (.func fn_impl_Formula_normal_1) [] [.v 2,.v 3]) <|
 .m 6 11 .done) K92_66
abbrev K92_68:Pl:=.o (.pnew 5 (.c (.agg #[.int .i64 0,.int .i64 0,.slice none 0 0])) []) <|
 .o (.pset none 5 0 3 (.v 13)) .done
abbrev K92_69:Pl:=.c 13 (.call fn_impl_formula [.c (.int .i64 3),.v 12]) K92_68
abbrev K92_70:Pl:=.c 12 (.bls 3 1 [.int .i64 0,.int .i64 0,.slice none 0 0] [(0,3,.v 11)]) K92_69
abbrev K92_71:C:=.seq (.pl <| .e 11 3 <|
 .c 11 (.call fn_impl_formula [.c (.int .i64 1),.c (.slice none 0 0)]) K92_70) K92_67
abbrev K92_72:Pl:=.o (.pnew 4 (.c (.agg #[.int .i64 0,.int .i64 0,.slice none 0 0])) []) .done
abbrev K92_73:Pl:=.c 3 (.alloc (.v 1)) K92_72
abbrev B_impl_Formula_normal:C:=.seq (.pl <| .e 11 0 <|
 .c 2 (.alloc (.v 0)) K92_73) K92_71
def R_impl_Formula_normal:FIR:=⟨B_impl_Formula_normal,11,[(4,some (some 3))]⟩
theorem IR_impl_Formula_normal:cfun Tryz.prog H_impl_Formula_normal Tryz.f92=some R_impl_Formula_normal:=by kernel_rfl
theorem EN_impl_Formula_normal:ENT Tryz.prog B_impl_Formula_normal [(4,some (some 3))] 2 11 fn_impl_Formula_normal:=fun hargs hw=>enter Tryz.func92 rfl IR_impl_Formula_normal hargs hw
def H_impl_Formula_normalForm:Hint:=⟨[(0,false),(1,true),(2,true),(3,false),(4,true)],[]⟩
abbrev K38_1:C:=.seq (.pl <| .e 5 1 <|
 .o (.pget (some 5) none 4 0 (some 3)) <|
 .o (.pset none 2 0 3 (.v 5)) <|
 .x 3 (.mv (.c (.bool true))) .done) (.ret)
abbrev K38_2:C:=.seq (.pl <| .e 5 1 <|
 .x 5 (.build [.int .i64 0,.int .i64 0,.slice none 0 0] []) <|
 .o (.pset none 2 0 3 (.v 5)) <|
 .x 3 (.mv (.c (.bool false))) .done) (.ret)
abbrev K38_3:C:=.cond 5 (.v 7) K38_2 (.skip)
abbrev K38_4:Pl:=.x 7 (.un .not (.v 6)) .done
abbrev K38_5:C:=.seq (.seq (.pl <| .e 5 3 <|
 .o (.pget (some 5) none 4 0 (some 3)) <|
 .c 6 (.call fn_impl_FormulaValid [.v 5]) K38_4) K38_3) K38_1
abbrev K38_6:Pl:=.o (.pnew 4 (.c (.agg #[.int .i64 0,.int .i64 0,.slice none 0 0])) []) <|
 .o (.pset none 4 0 3 (.v 6)) .done
abbrev K38_7:C:=.seq (.pl <| .e 5 2 <|
 .o (.pget (some 5) none 1 0 (some 3)) <|
 .c 6 (.call fn_impl_Formula_normal [.v 5,.c (.bool false)]) K38_6) K38_5
abbrev B_impl_Formula_normalForm:C:=.seq (.pl <| .e 5 0 <|
 .o (.pnew 1 (.v 0) []) <|
 .o (.pnew 2 (.c (.agg #[.int .i64 0,.int .i64 0,.slice none 0 0])) []) <|
 .x 3 (.mv (.c (.bool false))) .done) K38_7
def R_impl_Formula_normalForm:FIR:=⟨B_impl_Formula_normalForm,5,[(2,some (some 3)),(3,none)]⟩
theorem IR_impl_Formula_normalForm:cfun Tryz.prog H_impl_Formula_normalForm Tryz.f38=some R_impl_Formula_normalForm:=by kernel_rfl
theorem EN_impl_Formula_normalForm:ENT Tryz.prog B_impl_Formula_normalForm [(2,some (some 3)),(3,none)] 1 5 fn_impl_Formula_normalForm:=fun hargs hw=>enter Tryz.func38 rfl IR_impl_Formula_normalForm hargs hw
def H_impl_Formula_normal_1:Hint:=⟨[(0,false),(1,false),(2,false),(4,true)],[]⟩
abbrev K141_1:Pl:=.o (.pset none 3 0 3 (.v 10)) .done
abbrev K141_2:C:=.seq (.pl <| .e 4 7 <|
 .x 4 (.fa 2 (.v 1)) <|
 .l 5 4 <|
 .m 6 0 <|
 .x 7 (.ia 3 (.v 5) (.v 6)) <|
 .o (.ld (some 8) (.v 7) (some 3)) <|
 .l 9 2 <|
 .c 10 (.call fn_impl_Formula_normal [.v 8,.v 9]) K141_1) (.ret)
abbrev B_impl_Formula_normal_1:C:=.seq (.pl <| .e 4 0 <|
 .o (.pnew 3 (.c (.agg #[.int .i64 0,.int .i64 0,.slice none 0 0])) []) .done) K141_2
def R_impl_Formula_normal_1:FIR:=⟨B_impl_Formula_normal_1,4,[(3,some (some 3))]⟩
theorem IR_impl_Formula_normal_1:cfun Tryz.prog H_impl_Formula_normal_1 Tryz.f141=some R_impl_Formula_normal_1:=by kernel_rfl
theorem EN_impl_Formula_normal_1:ENT Tryz.prog B_impl_Formula_normal_1 [(3,some (some 3))] 3 4 fn_impl_Formula_normal_1:=fun hargs hw=>enter Tryz.func141 rfl IR_impl_Formula_normal_1 hargs hw
def H_impl_Formula_normal_2:Hint:=⟨[(0,false),(1,false),(2,false),(5,false)],[]⟩
abbrev K142_1:C:=.seq (.pl <| .e 4 1 <|
 .m 4 0 <|
 .m 3 4 .done) (.ret)
abbrev K142_2:C:=.seq (.pl <| .e 4 1 <|
 .m 4 1 <|
 .m 3 4 .done) (.ret)
abbrev K142_3:C:=.cond 4 (.v 4) K142_2 (.skip)
abbrev K142_4:C:=.seq (.seq (.pl <| .e 4 1 <|
 .l 4 2 .done) K142_3) K142_1
abbrev B_impl_Formula_normal_2:C:=.seq (.pl <| .e 4 0 <|
 .x 3 (.mv (.c (.int .i64 0))) .done) K142_4
def R_impl_Formula_normal_2:FIR:=⟨B_impl_Formula_normal_2,4,[(3,none)]⟩
theorem IR_impl_Formula_normal_2:cfun Tryz.prog H_impl_Formula_normal_2 Tryz.f142=some R_impl_Formula_normal_2:=by kernel_rfl
theorem EN_impl_Formula_normal_2:ENT Tryz.prog B_impl_Formula_normal_2 [(3,none)] 3 4 fn_impl_Formula_normal_2:=fun hargs hw=>enter Tryz.func142 rfl IR_impl_Formula_normal_2 hargs hw
def H_impl_Formula_subformulas:Hint:=⟨[(0,false),(1,true),(2,false),(3,false),(4,false)],[]⟩
abbrev K139_1:Pl:=.m 2 6 .done
abbrev K139_2:C:=.seq (.pl <| .e 5 2 <|
 .l 5 3 <|
 .c 6 (.call fn_slices_Clip_S_impl_Formula_impl_Formula [.v 5]) K139_1) (.ret)
abbrev K139_3:C:=.seq (.pl <| .e 5 3 <|
 .l 5 4 <|
 .o (.pget (some 6) none 1 0 (some 3)) <|
 .c 7 (.callv (.v 5) [.v 6]) .done) K139_2
abbrev K139_4:C:=.seq (.pl <| .e 5 1 <|
 .x 5 (.mkf (.func fn_impl_Formula_subformulas_1) [] [.v 4,.v 3]) <|
 .o (.ex none (.store 1 (.v 4) (.v 5))) .done) K139_3
abbrev K139_5:C:=.seq (.pl <| .e 5 0 <|
 .c 4 (.alloc (.c (.nilFunc))) .done) K139_4
abbrev K139_6:C:=.seq (.pl <| .e 5 0 <|
 .c 3 (.alloc (.c (.slice none 0 0))) .done) K139_5
abbrev B_impl_Formula_subformulas:C:=.seq (.pl <| .e 5 0 <|
 .o (.pnew 1 (.v 0) []) <|
 .x 2 (.mv (.c (.slice none 0 0))) .done) K139_6
def R_impl_Formula_subformulas:FIR:=⟨B_impl_Formula_subformulas,5,[(2,none)]⟩
theorem IR_impl_Formula_subformulas:cfun Tryz.prog H_impl_Formula_subformulas Tryz.f139=some R_impl_Formula_subformulas:=by kernel_rfl
theorem EN_impl_Formula_subformulas:ENT Tryz.prog B_impl_Formula_subformulas [(2,none)] 1 5 fn_impl_Formula_subformulas:=fun hargs hw=>enter Tryz.func139 rfl IR_impl_Formula_subformulas hargs hw
def H_impl_Formula_subformulas_1:Hint:=⟨[(0,false),(1,false),(2,false),(3,true),(5,true),(7,false),(8,false),(9,false)],[[0,4]]⟩
abbrev K167_1:Pl:=.o (.ex none (.store 1 (.v 2) (.v 13))) .done
abbrev K167_2:Pl:=.o (.ex none (.store 3 (.v 14) (.v 10))) K167_1
abbrev K167_3:Pl:=.o (.ex none (.store 3 (.v 14) (.v 10))) .done
abbrev K167_4:Pl:=.o (.ex none (.store 1 (.v 2) (.v 13))) K167_3
abbrev K167_5:Pl:=.x 14 (.ia 3 (.v 13) (.v 11)) <|
 .both K167_2 K167_4
abbrev K167_6:Pl:=.st (.re 8 (.v 2) none none) <|
 .c 13 (.app 40 3 [.int .i64 0,.int .i64 0,.slice none 0 0] (.o (.v 8)) (.p 1 12)) K167_5
abbrev K167_7:C:=.pl <| .e 8 7 <|
 .l 8 2 <|
 .o (.pget (some 9) none 3 0 (some 3)) <|
 .x 11 (.lenV (.v 8)) <|
 .o (.psl 12 [.int .i64 0,.int .i64 0,.slice none 0 0] [(0,3,.c (.agg #[.int .i64 0,.int .i64 0,.slice none 0 0]))]) <|
 .c 10 (.call fn_impl_Formula_copyOf [.v 9]) K167_6
abbrev K167_8:C:=.cond 8 (.v 11) K167_7 (.skip)
abbrev K167_9:Pl:=.x 11 (.bin .lss (.v 10) (.c (.int .i64 0))) .done
abbrev K167_10:C:=.seq (.pl <| .e 8 4 <|
 .l 8 2 <|
 .o (.pget (some 9) none 3 0 (some 3)) <|
 .c 10 (.call fn_impl_formulaAt [.v 8,.v 9]) K167_9) K167_8
abbrev K167_11:C:=.pl <| .e 8 1 <|
 .x 8 (.bin .add (.v 7) (.c (.int .i64 1))) <|
 .m 7 8 .done
abbrev K167_12:C:=.pl <| .e 8 3 <|
 .l 8 1 <|
 .o (.pget (some 9) none 4 0 (some 3)) <|
 .c 10 (.callv (.v 8) [.v 9]) .done
abbrev K167_13:C:=.seq (.block 1 (.seq (.pl <| .e 8 2 <|
 .x 8 (.ia 3 (.v 5) (.v 7)) <|
 .o (.ld (some 9) (.v 8) (some 3)) <|
 .o (.pnew 4 (.c (.agg #[.int .i64 0,.int .i64 0,.slice none 0 0])) []) <|
 .o (.pset none 4 0 3 (.v 9)) .done) K167_12)) K167_11
abbrev K167_14:C:=.seq (.cond 8 (.v 8) (.skip) (.exit 0)) K167_13
abbrev K167_15:C:=.seq (.pl <| .e 8 1 <|
 .x 8 (.bin .lss (.v 7) (.v 6)) .done) K167_14
abbrev K167_16:C:=.block 0 (.loop 8 [0,4] K167_15)
abbrev K167_17:C:=.seq (.seq (.pl <| .e 8 1 <|
 .a 8 3 <|
 .g 5 8 3 2 <|
 .x 6 (.lenV (.v 5)) <|
 .x 7 (.mv (.c (.int .i64 0))) .done) K167_16) K167_10
abbrev B_impl_Formula_subformulas_1:C:=.seq (.pl <| .e 8 0 <|
 .o (.pnew 3 (.v 0) []) .done) K167_17
def R_impl_Formula_subformulas_1:FIR:=⟨B_impl_Formula_subformulas_1,8,[]⟩
theorem IR_impl_Formula_subformulas_1:cfun Tryz.prog H_impl_Formula_subformulas_1 Tryz.f167=some R_impl_Formula_subformulas_1:=by kernel_rfl
theorem EN_impl_Formula_subformulas_1:ENT Tryz.prog B_impl_Formula_subformulas_1 [] 3 8 fn_impl_Formula_subformulas_1:=fun hargs hw=>enter Tryz.func167 rfl IR_impl_Formula_subformulas_1 hargs hw
def H_impl_Formula_walk:Hint:=⟨[(0,false),(1,false),(2,false),(3,true),(4,false),(5,false),(6,false),(7,false)],[]⟩
abbrev K137_1:Pl:=.x 12 (.un .not (.v 11)) <|
 .m 6 12 .done
abbrev K137_2:C:=.seq (.pl <| .e 8 5 <|
 .a 8 3 <|
 .g 9 8 3 2 <|
 .x 10 (.mkf (.func fn_impl_Formula_walk_1) [] [.v 4,.v 5]) <|
 .c 11 (.call fn_slices_ContainsFunc_S_impl_Formula_impl_Formula [.v 9,.v 10]) K137_1) (.ret)
abbrev K137_3:C:=.seq (.pl <| .e 8 0 <|
 .x 6 (.mv (.c (.bool false))) .done) (.ret)
abbrev K137_4:C:=.cond 8 (.v 37) K137_3 (.skip)
abbrev K137_5:Pl:=.n 29 (.px (some 36) (.bin .neq (.v 32) (.v 35))) <|
 .x 37 (.pick (.v 29) (.c (.bool true)) (.v 36)) .done
abbrev K137_6:Pl:=.n 22 (.px (some 27) (.un .not (.v 26))) <|
 .x 28 (.pick (.v 22) (.c (.bool true)) (.v 27)) <|
 .m 29 28 <|
 .n 29 (.als 30 none 3) <|
 .n 29 (.pget (some 31) (some 30) 3 2 none) <|
 .n 29 (.px (some 32) (.lenV (.v 31))) <|
 .n 29 (.als 33 none 3) <|
 .n 29 (.pget (some 34) (some 33) 3 0 none) <|
 .st (.act (some (.v 29,false)) (.ex (some 35) (.call fn_impl_operands [.v 34]))) K137_5
abbrev K137_7:Pl:=.n 16 (.px (some 20) (.un .not (.v 19))) <|
 .x 21 (.pick (.v 16) (.c (.bool true)) (.v 20)) <|
 .m 22 21 <|
 .n 22 (.als 23 none 3) <|
 .n 22 (.pget (some 24) (some 23) 3 1 none) <|
 .n 22 (.px (some 25) (.mv (.v 7))) <|
 .st (.act (some (.v 22,false)) (.ex (some 26) (.call fn_impl_in [.v 24,.c (.int .i64 0),.v 25]))) K137_6
abbrev K137_8:C:=.seq (.seq (.pl <| .e 8 30 <|
 .l 8 4 <|
 .x 9 (.bin .gtr (.v 8) (.c (.int .i64 6))) <|
 .m 10 9 <|
 .n 10 (.ld (some 11) (.v 5) none) <|
 .n 10 (.px (some 12) (.nilc (.v 11))) <|
 .n 10 (.ld (some 13) (.v 12) none) <|
 .n 10 (.px (some 14) (.bin .gtr (.v 13) (.c (.int .i64 12)))) <|
 .x 15 (.pick (.v 10) (.c (.bool true)) (.v 14)) <|
 .m 16 15 <|
 .n 16 (.als 17 none 3) <|
 .n 16 (.pget (some 18) (some 17) 3 0 none) <|
 .st (.act (some (.v 16,false)) (.ex (some 19) (.call fn_impl_in [.v 18,.c (.int .i64 1),.c (.int .i64 10)]))) K137_7) K137_4) K137_2
abbrev K137_9:C:=.pl <| .e 8 0 <|
 .x 7 (.mv (.c (.int .i64 2))) .done
abbrev K137_10:C:=.cond 8 (.v 10) K137_9 (.skip)
abbrev K137_11:C:=.seq (.seq (.pl <| .e 8 3 <|
 .a 8 3 <|
 .g 9 8 3 0 <|
 .x 10 (.bin .eql (.v 9) (.c (.int .i64 2))) .done) K137_10) K137_8
abbrev K137_12:C:=.seq (.pl <| .e 8 0 <|
 .x 7 (.mv (.c (.int .i64 0))) .done) K137_11
abbrev K137_13:C:=.seq (.pl <| .e 8 5 <|
 .l 8 5 <|
 .x 9 (.nilc (.v 8)) <|
 .l 10 9 <|
 .x 11 (.bin .add (.v 10) (.c (.int .i64 1))) <|
 .x 12 (.nilc (.v 8)) <|
 .o (.ex none (.store 1 (.v 12) (.v 11))) .done) K137_12
abbrev K137_14:Pl:=.x 6 (.mv (.c (.bool false))) .done
abbrev K137_15:Pl:=.c 5 (.alloc (.v 2)) K137_14
abbrev B_impl_Formula_walk:C:=.seq (.pl <| .e 8 0 <|
 .o (.pnew 3 (.v 0) []) <|
 .c 4 (.alloc (.v 1)) K137_15) K137_13
def R_impl_Formula_walk:FIR:=⟨B_impl_Formula_walk,8,[(6,none)]⟩
theorem IR_impl_Formula_walk:cfun Tryz.prog H_impl_Formula_walk Tryz.f137=some R_impl_Formula_walk:=by kernel_rfl
theorem EN_impl_Formula_walk:ENT Tryz.prog B_impl_Formula_walk [(6,none)] 3 8 fn_impl_Formula_walk:=fun hargs hw=>enter Tryz.func137 rfl IR_impl_Formula_walk hargs hw
def H_impl_Formula_walk_1:Hint:=⟨[(0,false),(1,false),(2,false),(3,true),(4,false)],[]⟩
abbrev K165_1:Pl:=.x 10 (.un .not (.v 9)) <|
 .m 4 10 .done
abbrev K165_2:C:=.seq (.pl <| .e 5 6 <|
 .o (.pget (some 5) none 3 0 (some 3)) <|
 .l 6 1 <|
 .x 7 (.bin .add (.v 6) (.c (.int .i64 1))) <|
 .l 8 2 <|
 .c 9 (.call fn_impl_Formula_walk [.v 5,.v 7,.v 8]) K165_1) (.ret)
abbrev B_impl_Formula_walk_1:C:=.seq (.pl <| .e 5 0 <|
 .o (.pnew 3 (.v 0) []) <|
 .x 4 (.mv (.c (.bool false))) .done) K165_2
def R_impl_Formula_walk_1:FIR:=⟨B_impl_Formula_walk_1,5,[(4,none)]⟩
theorem IR_impl_Formula_walk_1:cfun Tryz.prog H_impl_Formula_walk_1 Tryz.f165=some R_impl_Formula_walk_1:=by kernel_rfl
theorem EN_impl_Formula_walk_1:ENT Tryz.prog B_impl_Formula_walk_1 [(4,none)] 3 5 fn_impl_Formula_walk_1:=fun hargs hw=>enter Tryz.func165 rfl IR_impl_Formula_walk_1 hargs hw
def H_impl_NormalForm:Hint:=⟨[(0,false),(1,true),(2,true),(3,false)],[]⟩
abbrev K90_1:Pl:=.x 6 (.extract 0 (.v 5)) <|
 .x 7 (.extract 1 (.v 5)) <|
 .o (.pset none 2 0 3 (.v 6)) <|
 .m 3 7 .done
abbrev K90_2:C:=.seq (.pl <| .e 4 4 <|
 .o (.pget (some 4) none 1 0 (some 3)) <|
 .c 5 (.call fn_impl_Formula_normalForm [.v 4]) K90_1) (.ret)
abbrev K90_3:C:=.seq (.pl <| .e 4 1 <|
 .x 4 (.build [.int .i64 0,.int .i64 0,.slice none 0 0] []) <|
 .o (.pset none 2 0 3 (.v 4)) <|
 .x 3 (.mv (.c (.bool false))) .done) (.ret)
abbrev K90_4:C:=.cond 4 (.v 6) K90_3 (.skip)
abbrev K90_5:Pl:=.x 6 (.un .not (.v 5)) .done
abbrev K90_6:C:=.seq (.seq (.pl <| .e 4 3 <|
 .o (.pget (some 4) none 1 0 (some 3)) <|
 .c 5 (.call fn_impl_FormulaValid [.v 4]) K90_5) K90_4) K90_2
abbrev B_impl_NormalForm:C:=.seq (.pl <| .e 4 0 <|
 .o (.pnew 1 (.v 0) []) <|
 .o (.pnew 2 (.c (.agg #[.int .i64 0,.int .i64 0,.slice none 0 0])) []) <|
 .x 3 (.mv (.c (.bool false))) .done) K90_6
def R_impl_NormalForm:FIR:=⟨B_impl_NormalForm,4,[(2,some (some 3)),(3,none)]⟩
theorem IR_impl_NormalForm:cfun Tryz.prog H_impl_NormalForm Tryz.f90=some R_impl_NormalForm:=by kernel_rfl
theorem EN_impl_NormalForm:ENT Tryz.prog B_impl_NormalForm [(2,some (some 3)),(3,none)] 1 4 fn_impl_NormalForm:=fun hargs hw=>enter Tryz.func90 rfl IR_impl_NormalForm hargs hw
def H_impl_Transition_takes:Hint:=⟨[(0,false),(1,false),(2,true),(4,false)],[]⟩
abbrev K110_1:C:=.seq (.pl <| .e 4 7 <|
 .m 4 1 <|
 .a 5 2 <|
 .g 6 5 2 1 <|
 .x 7 (.bin .and (.v 4) (.v 6)) <|
 .a 8 2 <|
 .g 9 8 2 2 <|
 .x 10 (.bin .eql (.v 7) (.v 9)) <|
 .m 3 10 .done) (.ret)
abbrev B_impl_Transition_takes:C:=.seq (.pl <| .e 4 0 <|
 .o (.pnew 2 (.v 0) []) <|
 .x 3 (.mv (.c (.bool false))) .done) K110_1
def R_impl_Transition_takes:FIR:=⟨B_impl_Transition_takes,4,[(3,none)]⟩
theorem IR_impl_Transition_takes:cfun Tryz.prog H_impl_Transition_takes Tryz.f110=some R_impl_Transition_takes:=by kernel_rfl
theorem EN_impl_Transition_takes:ENT Tryz.prog B_impl_Transition_takes [(3,none)] 2 4 fn_impl_Transition_takes:=fun hargs hw=>enter Tryz.func110 rfl IR_impl_Transition_takes hargs hw
def H_impl_TranslateFormula:Hint:=⟨[(0,false),(1,true),(2,true),(3,false),(4,false),(5,false),(6,true),(8,false),(9,false),(10,true),(11,false),(12,false),(13,false),(30,false),(31,false),(32,false),(53,false),(54,false)],[[0,1,3,5,8,9,10,11,12,16,17],[0,1,3,4,5,8,9,11,12,13,14,15]]⟩
abbrev K10_1:Pl:=.x 23 (.extract 0 (.v 22)) <|
 .x 24 (.extract 1 (.v 22)) <|
 .o (.pset none 2 0 3 (.v 23)) <|
 .m 3 24 .done
abbrev K10_2:C:=.seq (.pl <| .e 18 7 <|
 .m 18 10 <|
 .m 19 12 <|
 .l 20 7 <|
 .x 21 (.mkf (.func fn_impl_translator_moves) [.v 20] []) <|
 .c 22 (.call fn_impl_explore_impl_phased [.v 18,.v 19,.v 21]) K10_1) (.ret)
abbrev K10_3:C:=.seq (.pl <| .e 18 1 <|
 .x 18 (.mkf (.func fn_impl_TranslateFormula_1) [] [.v 7]) <|
 .m 12 18 .done) K10_2
abbrev K10_4:C:=.pl <| .e 18 1 <|
 .x 18 (.bin .add (.v 17) (.c (.int .i64 1))) <|
 .m 17 18 .done
abbrev K10_5:Pl:=.m 10 22 .done
abbrev K10_6:C:=.pl <| .e 18 5 <|
 .m 18 10 <|
 .m 19 11 <|
 .x 20 (.build [.int .i64 0,.int .i64 0] [(0,1,.v 19),(1,1,.c (.int .i64 0))]) <|
 .o (.psl 21 [.int .i64 0,.int .i64 0] [(0,2,.v 20)]) <|
 .c 22 (.app 16 2 [.int .i64 0,.int .i64 0] (.o (.v 18)) (.p 1 21)) K10_5
abbrev K10_7:C:=.cond 18 (.v 21) K10_6 (.skip)
abbrev K10_8:C:=.seq (.pl <| .e 18 4 <|
 .l 18 7 <|
 .o (.pget (some 19) none 6 0 (some 3)) <|
 .m 20 11 <|
 .c 21 (.call fn_impl_translator_holds [.v 18,.v 19,.v 20]) .done) K10_7
abbrev K10_9:C:=.seq (.block 3 (.seq (.pl <| .e 18 1 <|
 .m 18 17 <|
 .m 11 18 .done) K10_8)) K10_4
abbrev K10_10:C:=.seq (.cond 18 (.v 18) (.skip) (.exit 2)) K10_9
abbrev K10_11:C:=.seq (.pl <| .e 18 1 <|
 .x 18 (.bin .lss (.v 17) (.v 16)) .done) K10_10
abbrev K10_12:C:=.block 2 (.loop 18 [0,1,3,4,5,8,9,11,12,13,14,15] K10_11)
abbrev K10_13:C:=.seq (.seq (.pl <| .e 18 2 <|
 .m 18 4 <|
 .x 19 (.lenV (.v 18)) <|
 .x 16 (.bin .shl (.c (.int .i64 1)) (.v 19)) <|
 .x 17 (.mv (.c (.int .i64 0))) .done) K10_12) K10_3
abbrev K10_14:C:=.seq (.pl <| .e 18 0 <|
 .x 10 (.mv (.c (.slice none 0 0))) .done) K10_13
abbrev K10_15:C:=.pl <| .e 18 1 <|
 .x 18 (.bin .add (.v 15) (.c (.int .i64 1))) <|
 .m 15 18 .done
abbrev K10_16:Pl:=.st (.re 18 (.v 7) none none) <|
 .x 26 (.nilc (.v 18)) <|
 .x 27 (.fa 1 (.v 26)) <|
 .o (.ex none (.store 1 (.v 27) (.v 25))) .done
abbrev K10_17:C:=.pl <| .e 18 10 <|
 .l 18 7 <|
 .l 19 7 <|
 .x 20 (.nilc (.v 19)) <|
 .x 21 (.fa 1 (.v 20)) <|
 .l 22 21 <|
 .m 23 8 <|
 .o (.psl 24 [.int .i64 0] [(0,1,.v 23)]) <|
 .c 25 (.app 8 1 [.int .i64 0] (.o (.v 22)) (.p 1 24)) K10_16
abbrev K10_18:C:=.cond 18 (.v 20) K10_17 (.skip)
abbrev K10_19:C:=.seq (.pl <| .e 18 3 <|
 .a 18 9 <|
 .g 19 18 9 0 <|
 .x 20 (.bin .eql (.v 19) (.c (.int .i64 7))) .done) K10_18
abbrev K10_20:C:=.seq (.block 1 (.seq (.pl <| .e 18 3 <|
 .m 18 15 <|
 .x 19 (.ia 3 (.v 13) (.v 15)) <|
 .o (.ld (some 20) (.v 19) (some 3)) <|
 .o (.pnew 9 (.c (.agg #[.int .i64 0,.int .i64 0,.slice none 0 0])) []) <|
 .m 8 18 <|
 .o (.pset none 9 0 3 (.v 20)) .done) K10_19)) K10_15
abbrev K10_21:C:=.seq (.cond 18 (.v 18) (.skip) (.exit 0)) K10_20
abbrev K10_22:C:=.seq (.pl <| .e 18 1 <|
 .x 18 (.bin .lss (.v 15) (.v 14)) .done) K10_21
abbrev K10_23:C:=.block 0 (.loop 18 [0,1,3,5,8,9,10,11,12,16,17] K10_22)
abbrev K10_24:C:=.seq (.seq (.pl <| .e 18 0 <|
 .m 13 4 <|
 .x 14 (.lenV (.v 13)) <|
 .x 15 (.mv (.c (.int .i64 0))) .done) K10_23) K10_14
abbrev K10_25:Pl:=.o (.ex none (.store 1 (.v 7) (.v 20))) .done
abbrev K10_26:Pl:=.c 7 (.alloc (.c (.pointer none))) K10_25
abbrev K10_27:C:=.seq (.pl <| .e 18 3 <|
 .m 18 4 <|
 .x 19 (.build [.slice none 0 0,.slice none 0 0] [(0,1,.v 18)]) <|
 .c 20 (.alloc (.v 19)) K10_26) K10_24
abbrev K10_28:Pl:=.m 20 19 <|
 .x 21 (.extract 0 (.v 20)) <|
 .x 22 (.extract 1 (.v 20)) <|
 .o (.pnew 6 (.c (.agg #[.int .i64 0,.int .i64 0,.slice none 0 0])) []) <|
 .o (.pset none 6 0 3 (.v 21)) <|
 .m 23 22 .done
abbrev K10_29:C:=.seq (.pl <| .e 18 6 <|
 .o (.pget (some 18) none 1 0 (some 3)) <|
 .c 19 (.call fn_impl_Formula_normalForm [.v 18]) K10_28) K10_27
abbrev K10_30:C:=.seq (.pl <| .e 18 1 <|
 .x 18 (.build [.slice none 0 0,.slice none 0 0,.slice none 0 0] []) <|
 .o (.pset none 2 0 3 (.v 18)) <|
 .x 3 (.mv (.c (.bool false))) .done) (.ret)
abbrev K10_31:C:=.cond 18 (.v 19) K10_30 (.skip)
abbrev K10_32:C:=.seq (.seq (.pl <| .e 18 2 <|
 .m 18 5 <|
 .x 19 (.un .not (.v 18)) .done) K10_31) K10_29
abbrev K10_33:Pl:=.m 20 19 <|
 .x 21 (.extract 0 (.v 20)) <|
 .x 22 (.extract 1 (.v 20)) <|
 .m 4 21 <|
 .m 5 22 .done
abbrev K10_34:C:=.seq (.pl <| .e 18 5 <|
 .o (.pget (some 18) none 1 0 (some 3)) <|
 .c 19 (.call fn_impl_BasicFormulas [.v 18]) K10_33) K10_32
abbrev B_impl_TranslateFormula:C:=.seq (.pl <| .e 18 0 <|
 .o (.pnew 1 (.v 0) []) <|
 .o (.pnew 2 (.c (.agg #[.slice none 0 0,.slice none 0 0,.slice none 0 0])) []) <|
 .x 3 (.mv (.c (.bool false))) .done) K10_34
def R_impl_TranslateFormula:FIR:=⟨B_impl_TranslateFormula,18,[(2,some (some 3)),(3,none)]⟩
theorem IR_impl_TranslateFormula:cfun Tryz.prog H_impl_TranslateFormula Tryz.f10=some R_impl_TranslateFormula:=by kernel_rfl
theorem EN_impl_TranslateFormula:ENT Tryz.prog B_impl_TranslateFormula [(2,some (some 3)),(3,none)] 1 18 fn_impl_TranslateFormula:=fun hargs hw=>enter Tryz.func10 rfl IR_impl_TranslateFormula hargs hw
def H_impl_TranslateFormula_1:Hint:=⟨[(0,false),(1,false),(2,true),(3,false)],[]⟩
abbrev K40_1:Pl:=.n 10 (.px (some 19) (.pick (.v 14) (.v 18) (.c (.bool false)))) <|
 .x 20 (.pick (.v 10) (.c (.bool true)) (.v 19)) <|
 .m 3 20 .done
abbrev K40_2:C:=.seq (.pl <| .e 4 17 <|
 .l 4 1 <|
 .x 5 (.nilc (.v 4)) <|
 .x 6 (.fa 1 (.v 5)) <|
 .l 7 6 <|
 .x 8 (.lenV (.v 7)) <|
 .x 9 (.bin .eql (.v 8) (.c (.int .i64 0))) <|
 .m 10 9 <|
 .n 10 (.als 11 none 2) <|
 .n 10 (.pget (some 12) (some 11) 2 1 none) <|
 .n 10 (.px (some 13) (.bin .eql (.v 12) (.c (.int .i64 0)))) <|
 .n 10 (.px (some 14) (.mv (.v 13))) <|
 .y 14 (.ld (some 15) (.v 1) none) <|
 .y 14 (.als 16 none 2) <|
 .y 14 (.pget (some 17) (some 16) 2 0 none) <|
 .st (.act (some (.v 14,true)) (.ex (some 18) (.call fn_impl_translator_fulfils [.v 15,.v 17,.c (.int .i64 0)]))) K40_1) (.ret)
abbrev B_impl_TranslateFormula_1:C:=.seq (.pl <| .e 4 0 <|
 .o (.pnew 2 (.v 0) []) <|
 .x 3 (.mv (.c (.bool false))) .done) K40_2
def R_impl_TranslateFormula_1:FIR:=⟨B_impl_TranslateFormula_1,4,[(3,none)]⟩
theorem IR_impl_TranslateFormula_1:cfun Tryz.prog H_impl_TranslateFormula_1 Tryz.f40=some R_impl_TranslateFormula_1:=by kernel_rfl
theorem EN_impl_TranslateFormula_1:ENT Tryz.prog B_impl_TranslateFormula_1 [(3,none)] 2 4 fn_impl_TranslateFormula_1:=fun hargs hw=>enter Tryz.func40 rfl IR_impl_TranslateFormula_1 hargs hw
def H_impl_basics:Hint:=⟨[(0,false),(1,true),(2,false),(3,false),(5,true),(7,false),(8,false),(9,false)],[[0,1,2,4]]⟩
abbrev K91_1:Pl:=.m 2 9 .done
abbrev K91_2:C:=.seq (.pl <| .e 8 2 <|
 .m 8 3 <|
 .c 9 (.call fn_slices_Clip_S_impl_Formula_impl_Formula [.v 8]) K91_1) (.ret)
abbrev K91_3:C:=.pl <| .e 8 1 <|
 .x 8 (.bin .add (.v 7) (.c (.int .i64 1))) <|
 .m 7 8 .done
abbrev K91_4:Pl:=.m 3 11 .done
abbrev K91_5:C:=.pl <| .e 8 4 <|
 .m 8 3 <|
 .o (.pget (some 9) none 4 0 (some 3)) <|
 .o (.psl 10 [.int .i64 0,.int .i64 0,.slice none 0 0] [(0,3,.v 9)]) <|
 .c 11 (.app 40 3 [.int .i64 0,.int .i64 0,.slice none 0 0] (.o (.v 8)) (.p 1 10)) K91_4
abbrev K91_6:C:=.cond 8 (.v 25) K91_5 (.skip)
abbrev K91_7:C:=.seq (.pl <| .e 8 18 <|
 .a 8 4 <|
 .g 9 8 4 0 <|
 .x 10 (.bin .eql (.v 9) (.c (.int .i64 2))) <|
 .m 11 10 <|
 .n 11 (.als 12 none 4) <|
 .n 11 (.pget (some 13) (some 12) 4 0 none) <|
 .n 11 (.px (some 14) (.bin .eql (.v 13) (.c (.int .i64 6)))) <|
 .x 15 (.pick (.v 11) (.c (.bool true)) (.v 14)) <|
 .m 16 15 <|
 .n 16 (.als 17 none 4) <|
 .n 16 (.pget (some 18) (some 17) 4 0 none) <|
 .n 16 (.px (some 19) (.bin .eql (.v 18) (.c (.int .i64 7)))) <|
 .x 20 (.pick (.v 16) (.c (.bool true)) (.v 19)) <|
 .m 21 20 <|
 .n 21 (.als 22 none 4) <|
 .n 21 (.pget (some 23) (some 22) 4 0 none) <|
 .n 21 (.px (some 24) (.bin .eql (.v 23) (.c (.int .i64 8)))) <|
 .x 25 (.pick (.v 21) (.c (.bool true)) (.v 24)) .done) K91_6
abbrev K91_8:C:=.seq (.block 1 (.seq (.pl <| .e 8 2 <|
 .x 8 (.ia 3 (.v 5) (.v 7)) <|
 .o (.ld (some 9) (.v 8) (some 3)) <|
 .o (.pnew 4 (.c (.agg #[.int .i64 0,.int .i64 0,.slice none 0 0])) []) <|
 .o (.pset none 4 0 3 (.v 9)) .done) K91_7)) K91_3
abbrev K91_9:C:=.seq (.cond 8 (.v 8) (.skip) (.exit 0)) K91_8
abbrev K91_10:C:=.seq (.pl <| .e 8 1 <|
 .x 8 (.bin .lss (.v 7) (.v 6)) .done) K91_9
abbrev K91_11:C:=.block 0 (.loop 8 [0,1,2,4] K91_10)
abbrev K91_12:Pl:=.x 6 (.lenV (.v 5)) <|
 .x 7 (.mv (.c (.int .i64 0))) .done
abbrev K91_13:C:=.seq (.seq (.pl <| .e 8 1 <|
 .o (.pget (some 8) none 1 0 (some 3)) <|
 .c 5 (.call fn_impl_Formula_subformulas [.v 8]) K91_12) K91_11) K91_2
abbrev K91_14:C:=.seq (.pl <| .e 8 0 <|
 .x 3 (.mv (.c (.slice none 0 0))) .done) K91_13
abbrev B_impl_basics:C:=.seq (.pl <| .e 8 0 <|
 .o (.pnew 1 (.v 0) []) <|
 .x 2 (.mv (.c (.slice none 0 0))) .done) K91_14
def R_impl_basics:FIR:=⟨B_impl_basics,8,[(2,none)]⟩
theorem IR_impl_basics:cfun Tryz.prog H_impl_basics Tryz.f91=some R_impl_basics:=by kernel_rfl
theorem EN_impl_basics:ENT Tryz.prog B_impl_basics [(2,none)] 1 8 fn_impl_basics:=fun hargs hw=>enter Tryz.func91 rfl IR_impl_basics hargs hw
def H_impl_clone_bool:Hint:=⟨[(0,false),(2,false)],[]⟩
abbrev K146_1:Pl:=.m 1 4 .done
abbrev K146_2:Pl:=.c 4 (.call fn_slices_Clip_S_bool_bool [.v 3]) K146_1
abbrev K146_3:C:=.seq (.pl <| .e 2 3 <|
 .m 2 0 <|
 .c 3 (.call fn_slices_Clone_S_bool_bool [.v 2]) K146_2) (.ret)
abbrev B_impl_clone_bool:C:=.seq (.pl <| .e 2 0 <|
 .x 1 (.mv (.c (.slice none 0 0))) .done) K146_3
def R_impl_clone_bool:FIR:=⟨B_impl_clone_bool,2,[(1,none)]⟩
theorem IR_impl_clone_bool:cfun Tryz.prog H_impl_clone_bool Tryz.f146=some R_impl_clone_bool:=by kernel_rfl
theorem EN_impl_clone_bool:ENT Tryz.prog B_impl_clone_bool [(1,none)] 1 2 fn_impl_clone_bool:=fun hargs hw=>enter Tryz.func146 rfl IR_impl_clone_bool hargs hw
def H_impl_clone_impl_Formula:Hint:=⟨[(0,false),(2,false)],[]⟩
abbrev K138_1:Pl:=.m 1 4 .done
abbrev K138_2:Pl:=.c 4 (.call fn_slices_Clip_S_impl_Formula_impl_Formula [.v 3]) K138_1
abbrev K138_3:C:=.seq (.pl <| .e 2 3 <|
 .m 2 0 <|
 .c 3 (.call fn_slices_Clone_S_impl_Formula_impl_Formula [.v 2]) K138_2) (.ret)
abbrev B_impl_clone_impl_Formula:C:=.seq (.pl <| .e 2 0 <|
 .x 1 (.mv (.c (.slice none 0 0))) .done) K138_3
def R_impl_clone_impl_Formula:FIR:=⟨B_impl_clone_impl_Formula,2,[(1,none)]⟩
theorem IR_impl_clone_impl_Formula:cfun Tryz.prog H_impl_clone_impl_Formula Tryz.f138=some R_impl_clone_impl_Formula:=by kernel_rfl
theorem EN_impl_clone_impl_Formula:ENT Tryz.prog B_impl_clone_impl_Formula [(1,none)] 1 2 fn_impl_clone_impl_Formula:=fun hargs hw=>enter Tryz.func138 rfl IR_impl_clone_impl_Formula hargs hw
def H_impl_clone_impl_Transition:Hint:=⟨[(0,false),(2,false)],[]⟩
abbrev K147_1:Pl:=.m 1 4 .done
abbrev K147_2:Pl:=.c 4 (.call fn_slices_Clip_S_impl_Transition_impl_Transition [.v 3]) K147_1
abbrev K147_3:C:=.seq (.pl <| .e 2 3 <|
 .m 2 0 <|
 .c 3 (.call fn_slices_Clone_S_impl_Transition_impl_Transition [.v 2]) K147_2) (.ret)
abbrev B_impl_clone_impl_Transition:C:=.seq (.pl <| .e 2 0 <|
 .x 1 (.mv (.c (.slice none 0 0))) .done) K147_3
def R_impl_clone_impl_Transition:FIR:=⟨B_impl_clone_impl_Transition,2,[(1,none)]⟩
theorem IR_impl_clone_impl_Transition:cfun Tryz.prog H_impl_clone_impl_Transition Tryz.f147=some R_impl_clone_impl_Transition:=by kernel_rfl
theorem EN_impl_clone_impl_Transition:ENT Tryz.prog B_impl_clone_impl_Transition [(1,none)] 1 2 fn_impl_clone_impl_Transition:=fun hargs hw=>enter Tryz.func147 rfl IR_impl_clone_impl_Transition hargs hw
def H_impl_clone_int:Hint:=⟨[(0,false),(2,false)],[]⟩
abbrev K65_1:Pl:=.m 1 4 .done
abbrev K65_2:Pl:=.c 4 (.call fn_slices_Clip_S_int_int [.v 3]) K65_1
abbrev K65_3:C:=.seq (.pl <| .e 2 3 <|
 .m 2 0 <|
 .c 3 (.call fn_slices_Clone_S_int_int [.v 2]) K65_2) (.ret)
abbrev B_impl_clone_int:C:=.seq (.pl <| .e 2 0 <|
 .x 1 (.mv (.c (.slice none 0 0))) .done) K65_3
def R_impl_clone_int:FIR:=⟨B_impl_clone_int,2,[(1,none)]⟩
theorem IR_impl_clone_int:cfun Tryz.prog H_impl_clone_int Tryz.f65=some R_impl_clone_int:=by kernel_rfl
theorem EN_impl_clone_int:ENT Tryz.prog B_impl_clone_int [(1,none)] 1 2 fn_impl_clone_int:=fun hargs hw=>enter Tryz.func65 rfl IR_impl_clone_int hargs hw
def H_impl_components:Hint:=⟨[(0,false),(1,false),(2,false),(3,false),(4,false),(5,false),(6,false),(7,false),(8,false),(9,false),(10,false),(11,false),(12,false),(13,false),(14,false),(15,false),(17,false),(27,false),(28,false),(36,false),(37,false),(50,false),(51,false),(52,false)],[[0,2,7,8,9,10,11,12,13,14,15,16,19,20,21,22,23],[0,1,2,3,5,7,8,9,10,12,13,14,15,16,17,18,21,22,23],[0,1,2,3,4,5,7,8,9,10,11,12,14,15,16,17,18,19,20]]⟩
abbrev K156_1:C:=.seq (.pl <| .e 24 1 <|
 .l 24 6 <|
 .m 2 24 .done) (.ret)
abbrev K156_2:C:=.pl <| .e 24 1 <|
 .x 24 (.bin .add (.v 23) (.c (.int .i64 1))) <|
 .m 23 24 .done
abbrev K156_3:Pl:=.x 29 (.ia 1 (.v 24) (.v 25)) <|
 .o (.ex none (.store 1 (.v 29) (.v 28))) .done
abbrev K156_4:C:=.pl <| .e 24 6 <|
 .l 24 6 <|
 .m 25 14 <|
 .m 26 13 <|
 .m 27 15 <|
 .c 28 (.mget (.one .i) (.int .i64 0) false (.v 26) (.v 27)) K156_3
abbrev K156_5:Pl:=.o (.ex none (.mput (.one .i) (.v 24) (.v 25) (.v 27))) .done
abbrev K156_6:C:=.pl <| .e 24 4 <|
 .m 24 13 <|
 .m 25 15 <|
 .m 26 13 <|
 .c 27 (.mlen (.v 26)) K156_5
abbrev K156_7:C:=.cond 24 (.v 25) K156_6 (.skip)
abbrev K156_8:C:=.seq (.pl <| .e 24 2 <|
 .m 24 16 <|
 .x 25 (.un .not (.v 24)) .done) K156_7
abbrev K156_9:Pl:=.m 27 26 <|
 .x 28 (.extract 0 (.v 27)) <|
 .x 29 (.extract 1 (.v 27)) <|
 .m 30 28 <|
 .m 16 29 .done
abbrev K156_10:C:=.seq (.seq (.pl <| .e 24 7 <|
 .m 24 13 <|
 .m 25 15 <|
 .c 26 (.mget (.one .i) (.int .i64 0) true (.v 24) (.v 25)) K156_9) K156_8) K156_4
abbrev K156_11:C:=.seq (.block 5 (.seq (.pl <| .e 24 3 <|
 .m 24 23 <|
 .x 25 (.ia 1 (.v 21) (.v 23)) <|
 .l 26 25 <|
 .m 14 24 <|
 .m 15 26 .done) K156_10)) K156_2
abbrev K156_12:C:=.seq (.cond 24 (.v 24) (.skip) (.exit 4)) K156_11
abbrev K156_13:C:=.seq (.pl <| .e 24 1 <|
 .x 24 (.bin .lss (.v 23) (.v 22)) .done) K156_12
abbrev K156_14:C:=.block 4 (.loop 24 [0,1,2,3,4,5,7,8,9,10,11,12,14,15,16,17,18,19,20] K156_13)
abbrev K156_15:C:=.seq (.seq (.pl <| .e 24 0 <|
 .l 21 6 <|
 .x 22 (.lenV (.v 21)) <|
 .x 23 (.mv (.c (.int .i64 0))) .done) K156_14) K156_1
abbrev K156_16:Pl:=.m 13 24 .done
abbrev K156_17:C:=.seq (.pl <| .e 24 1 <|
 .c 24 (.mkm) K156_16) K156_15
abbrev K156_18:C:=.pl <| .e 24 1 <|
 .x 24 (.bin .add (.v 20) (.c (.int .i64 1))) <|
 .m 20 24 .done
abbrev K156_19:C:=.pl <| .e 24 3 <|
 .l 24 11 <|
 .m 25 12 <|
 .c 26 (.callv (.v 24) [.v 25]) .done
abbrev K156_20:C:=.cond 24 (.v 28) K156_19 (.skip)
abbrev K156_21:C:=.seq (.pl <| .e 24 5 <|
 .l 24 4 <|
 .m 25 12 <|
 .x 26 (.ia 1 (.v 24) (.v 25)) <|
 .l 27 26 <|
 .x 28 (.bin .eql (.v 27) (.c (.int .i64 0))) .done) K156_20
abbrev K156_22:C:=.seq (.block 3 (.seq (.pl <| .e 24 1 <|
 .m 24 20 <|
 .m 12 24 .done) K156_21)) K156_18
abbrev K156_23:C:=.seq (.cond 24 (.v 24) (.skip) (.exit 2)) K156_22
abbrev K156_24:C:=.seq (.pl <| .e 24 1 <|
 .x 24 (.bin .lss (.v 20) (.v 19)) .done) K156_23
abbrev K156_25:C:=.block 2 (.loop 24 [0,1,2,3,5,7,8,9,10,12,13,14,15,16,17,18,21,22,23] K156_24)
abbrev K156_26:C:=.seq (.seq (.pl <| .e 24 0 <|
 .m 19 3 <|
 .x 20 (.mv (.c (.int .i64 0))) .done) K156_25) K156_17
abbrev K156_27:C:=.seq (.pl <| .e 24 1 <|
 .x 24 (.mkf (.func fn_impl_components_1) [] [.v 9,.v 4,.v 5,.v 8,.v 1,.v 11,.v 6,.v 10]) <|
 .o (.ex none (.store 1 (.v 11) (.v 24))) .done) K156_26
abbrev K156_28:C:=.seq (.pl <| .e 24 0 <|
 .c 11 (.alloc (.c (.nilFunc))) .done) K156_27
abbrev K156_29:Pl:=.o (.ex none (.store 1 (.v 10) (.c (.int .i64 0)))) .done
abbrev K156_30:Pl:=.o (.ex none (.store 1 (.v 9) (.c (.int .i64 0)))) K156_29
abbrev K156_31:Pl:=.c 10 (.alloc (.c (.int .i64 0))) K156_30
abbrev K156_32:C:=.seq (.pl <| .e 24 0 <|
 .c 9 (.alloc (.c (.int .i64 0))) K156_31) K156_28
abbrev K156_33:C:=.seq (.pl <| .e 24 0 <|
 .c 8 (.alloc (.c (.slice none 0 0))) .done) K156_32
abbrev K156_34:C:=.pl <| .e 24 1 <|
 .x 24 (.bin .add (.v 18) (.c (.int .i64 1))) <|
 .m 18 24 .done
abbrev K156_35:C:=.pl <| .e 24 3 <|
 .l 24 6 <|
 .m 25 7 <|
 .x 26 (.ia 1 (.v 24) (.v 25)) <|
 .o (.ex none (.store 1 (.v 26) (.c (.int .i64 (-1))))) .done
abbrev K156_36:C:=.seq (.block 1 (.seq (.pl <| .e 24 1 <|
 .m 24 18 <|
 .m 7 24 .done) K156_35)) K156_34
abbrev K156_37:C:=.seq (.cond 24 (.v 24) (.skip) (.exit 0)) K156_36
abbrev K156_38:C:=.seq (.pl <| .e 24 1 <|
 .x 24 (.bin .lss (.v 18) (.v 17)) .done) K156_37
abbrev K156_39:C:=.block 0 (.loop 24 [0,2,7,8,9,10,11,12,13,14,15,16,19,20,21,22,23] K156_38)
abbrev K156_40:C:=.seq (.seq (.pl <| .e 24 1 <|
 .l 24 6 <|
 .x 17 (.lenV (.v 24)) <|
 .x 18 (.mv (.c (.int .i64 0))) .done) K156_39) K156_33
abbrev K156_41:Pl:=.o (.ex none (.store 1 (.v 6) (.v 29))) .done
abbrev K156_42:Pl:=.o (.ex none (.store 1 (.v 5) (.v 27))) K156_41
abbrev K156_43:Pl:=.o (.ex none (.store 1 (.v 4) (.v 25))) K156_42
abbrev K156_44:Pl:=.c 6 (.alloc (.c (.slice none 0 0))) K156_43
abbrev K156_45:Pl:=.c 5 (.alloc (.c (.slice none 0 0))) K156_44
abbrev K156_46:Pl:=.c 4 (.alloc (.c (.slice none 0 0))) K156_45
abbrev K156_47:Pl:=.m 28 3 <|
 .c 29 (.mks 8 1 [.int .i64 0] (.v 28) (.v 28)) K156_46
abbrev K156_48:Pl:=.m 26 3 <|
 .c 27 (.mks 8 1 [.int .i64 0] (.v 26) (.v 26)) K156_47
abbrev K156_49:C:=.seq (.pl <| .e 24 6 <|
 .m 24 3 <|
 .c 25 (.mks 8 1 [.int .i64 0] (.v 24) (.v 24)) K156_48) K156_40
abbrev K156_50:C:=.seq (.pl <| .e 24 2 <|
 .l 24 1 <|
 .x 25 (.lenV (.v 24)) <|
 .m 3 25 .done) K156_49
abbrev K156_51:Pl:=.x 2 (.mv (.c (.slice none 0 0))) .done
abbrev B_impl_components:C:=.seq (.pl <| .e 24 0 <|
 .c 1 (.alloc (.v 0)) K156_51) K156_50
def R_impl_components:FIR:=⟨B_impl_components,24,[(2,none)]⟩
theorem IR_impl_components:cfun Tryz.prog H_impl_components Tryz.f156=some R_impl_components:=by kernel_rfl
theorem EN_impl_components:ENT Tryz.prog B_impl_components [(2,none)] 1 24 fn_impl_components:=fun hargs hw=>enter Tryz.func156 rfl IR_impl_components hargs hw
namespace Bf
abbrev SP:=List Int×List Int
def s1 (a:Int) (p:SP) (to:Int):SP:=if p.1.getD to.toNat 0 = -2 then (p.1.set to.toNat a,p.2++[to]) else p
def sF (l:List Int) (a:Int) (p:SP):SP:=l.foldl (s1 a) p
def s0 (N:Nat) (S:List Int):SP:=(S.foldl (fun f s=>f.set s.toNat (-1)) (List.replicate N (-2)),S)
def sN (next:List (List Int)) (S:List Int):Nat→SP
 | 0=>s0 next.length S
 | n+1=>if n<(sN next S n).2.length then sF (next.getD ((sN next S n).2.getD n 0).toNat []) ((sN next S n).2.getD n 0) (sN next S n) else sN next S n
theorem set_getD {l:List Int}{k j:Nat}{a:Int}(hk:k<l.length):(l.set k a).getD j 0=if k=j then a else l.getD j 0:=by
 rw[List.getD_eq_getElem?_getD,List.getElem?_set]
 split
 ·rename_i e;subst e;simp[hk]
 ·rw[List.getD_eq_getElem?_getD]
theorem set_count {l:List Int}:∀{k:Nat}(hk:k<l.length) {a b:Int},l[k]=a→a≠b→(l.set k b).count a+1=l.count a:=by
 induction l with
 | nil=>intro k hk;exact absurd hk (Nat.not_lt_zero k)
 | cons x l ih=>
  intro k hk a b h1 h2
  cases k with
  | zero=>
   simp only[List.getElem_cons_zero] at h1
   subst h1
   simp only[List.set_cons_zero,List.count_cons_self]
   rw[List.count_cons_of_ne (Ne.symm h2)]
  | succ k=>
   simp only[List.getElem_cons_succ] at h1
   have:=ih (k:=k) (by simpa using hk) h1 h2
   simp only[List.set_cons_succ,List.count_cons]
   omega
structure Le (p p':SP):Prop where
 keep:∀j:Nat,p.1.getD j 0≠-2→p'.1.getD j 0=p.1.getD j 0
 pre:∃t,p'.2=p.2++t
theorem Le.refl {p:SP}:Le p p:=⟨fun _ _=>rfl,⟨[],by simp⟩⟩
theorem Le.trans {p q r:SP}(h:Le p q) (h':Le q r):Le p r:=by
 refine⟨fun j hj=>?_,?_⟩
 ·have e:=h.keep j hj
  rw[h'.keep j (by rw[e];exact hj),e]
 ·obtain⟨t,e⟩:=h.pre
  obtain⟨t',e'⟩:=h'.pre
  exact⟨t++t',by rw[e',e,List.append_assoc]⟩
theorem Le.len {p q:SP}(h:Le p q):p.2.length≤q.2.length:=by
 obtain⟨t,e⟩:=h.pre
 rw[e];simp
theorem Le.at {p q:SP}(h:Le p q) {i:Nat}(hi:i<p.2.length):q.2.getD i 0=p.2.getD i 0:=by
 obtain⟨t,e⟩:=h.pre
 rw[e,List.getD_eq_getElem?_getD,List.getD_eq_getElem?_getD,List.getElem?_append_left hi]
structure SI (N:Nat) (S:List Int) (Ed:Int→Int→Prop) (p:SP):Prop where
 fl:p.1.length=N
 pre:∃t,p.2=S++t
 inq:∀x∈p.2,0≤x∧x<N∧p.1.getD x.toNat 0≠-2
 vis:∀j:Nat,j<N→p.1.getD j 0≠-2→(j:Int)∈p.2
 st:∀s∈S,p.1.getD s.toNat 0 = -1
 val:∀j:Nat,j<N→p.1.getD j 0 = -2∨p.1.getD j 0 = -1∨0≤p.1.getD j 0∧p.1.getD j 0<N
 par:∀q:Nat,S.length≤q→q<p.2.length→∃r:Nat,r<q∧p.1.getD (p.2.getD q 0).toNat 0=p.2.getD r 0∧Ed (p.2.getD r 0) (p.2.getD q 0)
 cnt:p.2.length+p.1.count (-2)=N
section
variable {N:Nat}{S:List Int}{Ed:Int→Int→Prop}{p:SP}
theorem SI.le (h:SI N S Ed p):p.2.length≤N:=by have:=h.cnt;omega
theorem SI.at (h:SI N S Ed p) {i:Nat}(hi:i<p.2.length):0≤p.2.getD i 0∧p.2.getD i 0<N∧p.1.getD (p.2.getD i 0).toNat 0≠-2:=by
 have e:p.2.getD i 0=p.2[i]:=by simp[hi]
 rw[e]
 exact h.inq _ (List.getElem_mem hi)
theorem SI.start {n:Nat}(hS:incr n (-1) S):SI n S Ed (s0 n S):=by
 have key:∀(T:List Int),(∀x∈T,0≤x∧x<(n:Int))→T.Pairwise (· < ·)→∀f:List Int,f.length=n→(∀x∈T,f.getD x.toNat 0 = -2) →
   (T.foldl (fun f s=>f.set s.toNat (-1)) f).length=n∧(∀j:Nat,(T.foldl (fun f s=>f.set s.toNat (-1)) f).getD j 0=if (j:Int)∈T then -1 else f.getD j 0)∧T.length+(T.foldl (fun f s=>f.set s.toNat (-1)) f).count (-2)=f.count (-2):=by
  intro T
  induction T with
  | nil=>intro _ _ f hf _;exact⟨hf,fun j=>by simp,by simp⟩
  | cons x T ih=>
   intro h1 h2 f hf h3
   obtain⟨h4,h5⟩:=List.pairwise_cons.1 h2
   have hx:=h1 x (by simp)
   obtain⟨k,rfl⟩:∃k:Nat,x=k:=⟨x.toNat,by omega⟩
   have hk:k<f.length:=by omega
   have hfk:=h3 k (by simp)
   rw[Int.toNat_natCast] at hfk
   have hge:f[k] = -2:=by rw[← hfk];simp[hk]
   obtain⟨g1,g2,g3⟩:=ih (fun y hy=>h1 y (by simp[hy])) h5 (f.set k (-1)) (by simpa using hf) (fun y hy=>by
    have:=h4 y hy
    rw[set_getD hk,if_neg (by omega)]
    exact h3 y (by simp[hy]))
   have hc:=set_count hk hge (b:=(-1:Int)) (by decide)
   refine⟨g1,fun j=>?_,?_⟩
   ·show (T.foldl _ (f.set ((k:Int)).toNat (-1))).getD j 0=_
    rw[Int.toNat_natCast,g2 j,set_getD hk]
    by_cases e1:(j:Int)∈T
    ·simp[e1]
    ·by_cases e2:k=j
     ·subst e2;simp
     ·rw[if_neg e1,if_neg e2,if_neg]
      intro hm
      rcases List.mem_cons.1 hm with hm | hm
      ·omega
      ·exact e1 hm
   ·show (T.length+1)+(T.foldl _ (f.set ((k:Int)).toNat (-1))).count (-2)=_
    rw[Int.toNat_natCast]
    omega
 have hb:∀x∈S,0≤x∧x<(n:Int):=fun x hx=>by have:=incr_mem hS x hx;omega
 have hp:=(incr_iff.1 hS).1
 obtain⟨g1,g2,g3⟩:=key S hb hp (List.replicate n (-2)) (by simp) (fun x hx=>by
  have:=hb x hx
  simp[show x.toNat<n by omega])
 have hrep:∀j,j<n→(List.replicate n (-2:Int)).getD j 0 = -2:=fun j hj=>by simp[hj]
 refine⟨g1,⟨[],by simp[s0]⟩,?_,?_,?_,?_,?_,?_⟩
 ·intro x hx
  have h1:=hb x hx
  refine⟨h1.1,h1.2,?_⟩
  show (S.foldl (fun f s=>f.set s.toNat (-1)) (List.replicate n (-2))).getD x.toNat 0≠-2
  rw[g2,if_pos (by rw[Int.toNat_of_nonneg h1.1];exact hx)]
  decide
 ·intro j hj h1
  show (j:Int)∈S
  have h2:(S.foldl (fun f s=>f.set s.toNat (-1)) (List.replicate n (-2))).getD j 0≠-2:=h1
  rw[g2] at h2
  by_cases e:(j:Int)∈S
  ·exact e
  ·rw[if_neg e,hrep j hj] at h2
   exact absurd rfl h2
 ·intro s hs
  have h1:=hb s hs
  show (S.foldl (fun f s=>f.set s.toNat (-1)) (List.replicate n (-2))).getD s.toNat 0 = -1
  rw[g2,if_pos (by rw[Int.toNat_of_nonneg h1.1];exact hs)]
 ·intro j hj
  show (S.foldl (fun f s=>f.set s.toNat (-1)) (List.replicate n (-2))).getD j 0 = -2∨(S.foldl (fun f s=>f.set s.toNat (-1)) (List.replicate n (-2))).getD j 0 = -1∨_
  rw[g2,hrep j hj]
  by_cases e:(j:Int)∈S
  ·simp[e]
  ·simp[e]
 ·intro q h1 h2
  have h3:q<S.length:=h2
  omega
 ·show S.length+(S.foldl (fun f s=>f.set s.toNat (-1)) (List.replicate n (-2))).count (-2)=n
  rw[g3,List.count_replicate_self]
theorem SI.step (h:SI N S Ed p) {i:Nat}(hi:i<p.2.length) {to:Int}(h0:0≤to) (h1:to<N) (he:Ed (p.2.getD i 0) to):SI N S Ed (s1 (p.2.getD i 0) p to)∧Le p (s1 (p.2.getD i 0) p to)∧(s1 (p.2.getD i 0) p to).1.getD to.toNat 0≠-2:=by
 obtain⟨a,ha⟩:∃a,a=p.2.getD i 0:=⟨_,rfl⟩
 have hat:=h.at hi
 rw[← ha] at hat he ⊢
 unfold s1
 split
 case isFalse e=>exact⟨h,Le.refl,e⟩
 rename_i e
 obtain⟨k,rfl⟩:∃k:Nat,to=k:=⟨to.toNat,(Int.toNat_of_nonneg h0).symm⟩
 simp only[Int.toNat_natCast] at e ⊢
 have hkN:k<p.1.length:=by rw[h.fl];omega
 have hkq:(k:Int)∉p.2:=fun hm=>by
  have:=(h.inq _ hm).2.2
  rw[Int.toNat_natCast] at this
  exact this e
 have hge:p.1[k] = -2:=by rw[← e];simp[hkN]
 obtain⟨tp,hpre⟩:=h.pre
 refine⟨⟨by simp[h.fl],⟨tp++[(k:Int)],by rw[hpre,List.append_assoc]⟩,?_,?_,?_,?_,?_,?_⟩,⟨fun j hj=>?_,⟨_,rfl⟩⟩,?_⟩
 ·intro x hx
  simp only[List.mem_append,List.mem_singleton] at hx
  simp only[set_getD hkN]
  rcases hx with hx | rfl
  ·have:=h.inq x hx
   refine⟨this.1,this.2.1,?_⟩
   split
   ·omega
   ·exact this.2.2
  ·refine⟨by omega,by omega,?_⟩
   simp;omega
 ·intro j hj h2
  simp only[set_getD hkN] at h2
  simp only[List.mem_append,List.mem_singleton]
  split at h2
  ·rename_i e2;right;omega
  ·exact .inl (h.vis j hj h2)
 ·intro s hs
  simp only[set_getD hkN]
  rw[if_neg]
  ·exact h.st s hs
  ·intro e2
   refine hkq ?_
   rw[hpre]
   have:=(h.inq s (by rw[hpre];simp[hs])).1
   have e3:(k:Int)=s:=by omega
   rw[e3];simp[hs]
 ·intro j hj
  simp only[set_getD hkN]
  split
  ·right;right;omega
  ·exact h.val j hj
 ·intro q h2 h3
  simp only[List.length_append,List.length_singleton] at h3
  by_cases hq:q<p.2.length
  ·obtain⟨r,hr,e2,e5⟩:=h.par q h2 hq
   have e3:(p.2++[(k:Int)]).getD q 0=p.2.getD q 0:=by rw[List.getD_eq_getElem?_getD,List.getElem?_append_left hq,List.getD_eq_getElem?_getD]
   have e4:(p.2++[(k:Int)]).getD r 0=p.2.getD r 0:=by rw[List.getD_eq_getElem?_getD,List.getElem?_append_left (by omega),List.getD_eq_getElem?_getD]
   refine⟨r,hr,?_⟩
   simp only[e3,e4,set_getD hkN]
   have:=h.at hq
   rw[if_neg (fun e5=>hkq (by
    have e6:p.2.getD q 0=p.2[q]:=by simp[hq]
    have e7:(k:Int)=p.2[q]:=by rw[← e6];omega
    rw[e7];exact List.getElem_mem hq))]
   exact⟨e2,e5⟩
  ·have hq2:q=p.2.length:=by omega
   subst hq2
   refine⟨i,hi,?_⟩
   have e3:(p.2++[(k:Int)]).getD p.2.length 0=k:=by simp
   have e4:(p.2++[(k:Int)]).getD i 0=a:=by rw[List.getD_eq_getElem?_getD,List.getElem?_append_left hi,← List.getD_eq_getElem?_getD,ha]
   simp only[e3,e4,set_getD hkN,Int.toNat_natCast,if_pos]
   exact⟨trivial,he⟩
 ·have h2:=h.cnt
  have h3:=set_count hkN hge (b:=a) (by omega)
  simp only[List.length_append,List.length_singleton]
  omega
 ·simp only[set_getD hkN]
  rw[if_neg]
  rintro rfl
  exact hj e
 ·simp only[set_getD hkN,if_pos]
  omega
theorem SI.fold {i:Nat}:∀{l:List Int}{p:SP},SI N S Ed p→i<p.2.length→(∀x∈l,0≤x∧x<N∧Ed (p.2.getD i 0) x)→SI N S Ed (sF l (p.2.getD i 0) p)∧Le p (sF l (p.2.getD i 0) p)∧∀x∈l,(sF l (p.2.getD i 0) p).1.getD x.toNat 0≠-2
 | [],p,h,_,_=>⟨h,Le.refl,fun x hx=>absurd hx (by simp)⟩
 | y::l,p,h,hi,hl=>by
  have hy:=hl y (by simp)
  obtain⟨h1,h2,h3⟩:=h.step hi hy.1 hy.2.1 hy.2.2
  have hi':i<(s1 (p.2.getD i 0) p y).2.length:=by have:=h2.len;omega
  have ih:=SI.fold (l:=l) h1 hi' (fun x hx=>by rw[h2.at hi];exact hl x (by simp[hx]))
  rw[h2.at hi] at ih
  obtain⟨g1,g2,g3⟩:=ih
  refine⟨g1,h2.trans g2,fun x hx=>?_⟩
  rcases List.mem_cons.1 hx with rfl | hx
  ·have:=g2.keep _ h3
   show (sF l _ _).1.getD _ _≠_
   rw[this];exact h3
  ·exact g3 x hx
end
structure NOk (next:List (List Int)):Prop where
 ent:∀l∈next,∀x∈l,0≤x∧x<next.length
def Ed (next:List (List Int)) (x y:Int):Prop:=0≤x∧x<next.length∧y∈next.getD x.toNat []
section
variable {next:List (List Int)}{S:List Int}
theorem row_mem {k:Nat}(hk:k<next.length):next.getD k []∈next:=by
 rw[List.getD_eq_getElem?_getD,List.getElem?_eq_getElem hk]
 exact List.getElem_mem hk
theorem NOk.row (hn:NOk next) {p:SP}(h:SI next.length S (Ed next) p) {i:Nat}(hi:i<p.2.length):∀x∈next.getD (p.2.getD i 0).toNat [],0≤x∧x<next.length∧Ed next (p.2.getD i 0) x:=by
 intro x hx
 have hat:=h.at hi
 have h1:=hn.ent _ (row_mem (k:=(p.2.getD i 0).toNat) (by omega)) x hx
 exact⟨h1.1,h1.2,hat.1,hat.2.1,hx⟩
theorem sN_inv (hn:NOk next) (hS:incr next.length (-1) S):∀n,SI next.length S (Ed next) (sN next S n)∧∀q:Nat,q<n→q<(sN next S n).2.length→∀x∈next.getD ((sN next S n).2.getD q 0).toNat [],(sN next S n).1.getD x.toNat 0≠-2
 | 0=>⟨SI.start hS,fun q hq=>absurd hq (Nat.not_lt_zero q)⟩
 | n+1=>by
  obtain⟨h1,h2⟩:=sN_inv hn hS n
  rw[sN]
  split
  case isFalse hlt=>exact⟨h1,fun q hq hq2=>h2 q (by omega) hq2⟩
  rename_i hlt
  obtain⟨f1,f2,f3⟩:=h1.fold hlt (hn.row h1 hlt)
  refine⟨f1,fun q hq hq2 x hx=>?_⟩
  by_cases e:q=n
  ·subst e
   rw[f2.at hlt] at hx
   exact f3 x hx
  ·by_cases hq3:q<(sN next S n).2.length
   ·rw[f2.at hq3] at hx
    have:=h2 q (by omega) hq3 x hx
    rw[f2.keep _ this]
    exact this
   ·omega
theorem sN_succ {n:Nat}(h:n<(sN next S n).2.length):sN next S (n+1)=sF (next.getD ((sN next S n).2.getD n 0).toNat []) ((sN next S n).2.getD n 0) (sN next S n):=by
 rw[sN,if_pos h]
theorem sN_stop {n:Nat}(h:(sN next S n).2.length≤n):sN next S (n+1)=sN next S n:=by
 rw[sN,if_neg (by omega)]
theorem sN_le (hn:NOk next) (hS:incr next.length (-1) S) {n m:Nat}(h:n≤m):Le (sN next S n) (sN next S m):=by
 induction m with
 | zero=>have:n=0:=by omega
         subst this;exact Le.refl
 | succ m ih=>
  by_cases e:n=m+1
  ·subst e;exact Le.refl
  refine (ih (by omega)).trans ?_
  have hi:=(sN_inv hn hS m).1
  by_cases hlt:m<(sN next S m).2.length
  ·rw[sN_succ hlt]
   exact (hi.fold hlt (hn.row hi hlt)).2.1
  ·rw[sN_stop (by omega)];exact Le.refl
theorem sN_fix {n m:Nat}(h:(sN next S n).2.length≤n) (hm:n≤m):sN next S m=sN next S n:=by
 induction m with
 | zero=>have:n=0:=by omega
         subst this;rfl
 | succ m ih=>
  by_cases e:n=m+1
  ·subst e;rfl
  have:=ih (by omega)
  rw[sN_stop (by rw[this];omega),this]
def fin (next:List (List Int)) (S:List Int):SP:=sN next S next.length
theorem sN_fin (hn:NOk next) (hS:incr next.length (-1) S) (n:Nat):Le (sN next S n) (fin next S):=by
 by_cases e:n≤next.length
 ·exact sN_le hn hS e
 ·have:=sN_fix (sN_inv hn hS next.length).1.le (show next.length≤n by omega)
  unfold fin
  rw[this];exact Le.refl
theorem fin_mem (hn:NOk next) (hS:incr next.length (-1) S) {E:Nat→Nat→Prop}(hE:∀x y:Nat,E x y↔x<next.length∧(y:Int)∈next.getD x []) {t:Nat}:(t:Int)∈(fin next S).2↔∃s:Nat,(s:Int)∈S∧Rch E s t:=by
 obtain⟨h1,h2⟩:=sN_inv hn hS next.length
 have hle:=h1.le
 unfold fin
 generalize sN next S next.length=p at *
 obtain⟨tp,hpre⟩:=h1.pre
 constructor
 ·intro ht
  have:∀q,q<p.2.length→∃s:Nat,(s:Int)∈S∧Rch E s (p.2.getD q 0).toNat:=by
   intro q
   induction q using Nat.strongRecOn with
   | _ q ih=>
    intro hq
    have hat:=h1.at hq
    by_cases e:q<S.length
    ·refine⟨(p.2.getD q 0).toNat,?_,.refl _⟩
     rw[Int.toNat_of_nonneg hat.1,hpre,List.getD_eq_getElem?_getD,List.getElem?_append_left e,List.getElem?_eq_getElem e]
     exact List.getElem_mem e
    ·obtain⟨r,hr,_,e2,e3,e4⟩:=h1.par q (by omega) hq
     obtain⟨s,g1,g2⟩:=ih r hr (by omega)
     refine⟨s,g1,g2.snoc ((hE _ _).2 ⟨by omega,?_⟩)⟩
     rw[Int.toNat_of_nonneg hat.1]
     exact e4
  obtain⟨q,hq,e⟩:=List.mem_iff_getElem.1 ht
  obtain⟨s,g1,g2⟩:=this q hq
  have e2:p.2.getD q 0=p.2[q]:=by simp[hq]
  rw[e2,e,Int.toNat_natCast] at g2
  exact⟨s,g1,g2⟩
 ·rintro⟨s,hs,hr⟩
  refine hr.closed (C:=fun x=>(x:Int)∈p.2) ?_ (by rw[hpre];simp[hs])
  intro x y hx hxy
  obtain⟨g1,g2⟩:=(hE x y).1 hxy
  obtain⟨q,hq,e⟩:=List.mem_iff_getElem.1 hx
  have e2:p.2.getD q 0=p.2[q]:=by simp[hq]
  have h3:=h2 q (by omega) hq y (by rw[e2,e,Int.toNat_natCast];exact g2)
  have h4:=hn.ent _ (row_mem g1) _ g2
  rw[Int.toNat_natCast] at h3
  exact h1.vis y (by omega) h3
end
inductive Chn (f:List Int):Int→List Int→Prop where
 | z:Chn f (-1) []
 | s {a:Int}{l:List Int}:0≤a→a<f.length→Chn f (f.getD a.toNat 0) l→Chn f a (l++[a])
theorem Chn.neg {f:List Int}{l:List Int}(h:Chn f (-1) l):l=[]:=by
 generalize hx:(-1:Int)=x at h
 cases h with
 | z=>rfl
 | s h0 _ _=>omega
theorem Chn.un {f:List Int}{a:Int}{l:List Int}(h:Chn f a l) (h0:0≤a):∃l',l=l'++[a]∧a<f.length∧Chn f (f.getD a.toNat 0) l':=by
 cases h with
 | z=>omega
 | s h1 h2 h3=>exact⟨_,rfl,h2,h3⟩
theorem Chn.ge {f:List Int}{a:Int}{l:List Int}(h:Chn f a l):-1≤a:=by
 cases h with
 | z=>decide
 | s h1 _ _=>omega
theorem Chn.det {f:List Int}{a:Int}{l:List Int}(h:Chn f a l):∀{l'},Chn f a l'→l=l':=by
 induction h with
 | z=>exact fun h'=>h'.neg.symm
 | s h1 h2 h3 ih=>
  intro l' h'
  obtain⟨l2,rfl,_,h4⟩:=h'.un h1
  rw[ih h4]
theorem Chn.le {p p':SP}(hb:Le p p') (hl:p.1.length=p'.1.length) {a:Int}{l:List Int}(h:Chn p.1 a l):Chn p'.1 a l:=by
 induction h with
 | z=>exact .z
 | s h1 h2 h3 ih=>
  refine .s h1 (by omega) ?_
  have:=h3.ge
  rw[hb.keep _ (by omega)]
  exact ih
theorem Chn.all {f:List Int}{a:Int}{l:List Int}(h:Chn f a l):∀x∈l,0≤x∧x<f.length:=by
 induction h with
 | z=>simp
 | s h1 h2 h3 ih=>
  intro x hx
  simp only[List.mem_append,List.mem_singleton] at hx
  rcases hx with hx | rfl
  ·exact ih x hx
  ·exact⟨h1,h2⟩
inductive Pth (S:List Int) (Ed:Int→Int→Prop):Int→List Int→Prop
 | one {s:Int}(h:s∈S):Pth S Ed s [s]
 | snoc {x y:Int}{l:List Int}(h:Pth S Ed x l) (e:Ed x y):Pth S Ed y (l++[y])
theorem SI.chn {N:Nat}{S:List Int}{Ed:Int→Int→Prop}{p:SP}(h:SI N S Ed p):∀(q:Nat),q<p.2.length→∃l,Chn p.1 (p.2.getD q 0) l∧l.length≤q+1∧Pth S Ed (p.2.getD q 0) l:=by
 intro q
 induction q using Nat.strongRecOn with
 | _ q ih=>
  intro hq
  have hat:=h.at hq
  obtain⟨tp,hpre⟩:=h.pre
  by_cases e:q<S.length
  ·have hm:p.2.getD q 0∈S:=by
    rw[hpre,List.getD_eq_getElem?_getD,List.getElem?_append_left e,List.getElem?_eq_getElem e]
    exact List.getElem_mem e
   refine⟨[]++[p.2.getD q 0],.s hat.1 (by rw[h.fl];exact hat.2.1) ?_,by simp,.one hm⟩
   rw[h.st _ hm]
   exact .z
  ·obtain⟨r,hr,e1,e2⟩:=h.par q (by omega) hq
   obtain⟨l,h1,h2,h3⟩:=ih r hr (by omega)
   exact⟨l++[p.2.getD q 0],.s hat.1 (by rw[h.fl];exact hat.2.1) (by rw[e1];exact h1),by simp;omega,.snoc h3 e2⟩
noncomputable def path (next:List (List Int)) (S:List Int) (a:Int):List Int:=open Classical in if h:∃l,Chn (fin next S).1 a l then h.choose else []
theorem path_eq {next:List (List Int)}{S:List Int}(hn:NOk next) (hS:incr next.length (-1) S) {n:Nat}{a:Int}{l:List Int}(h:Chn (sN next S n).1 a l):path next S a=l:=by
 have h2:=h.le (sN_fin hn hS n) (by rw[(sN_inv hn hS n).1.fl];exact (sN_inv hn hS next.length).1.fl.symm)
 unfold path
 rw[dif_pos ⟨l,h2⟩]
 exact (Exists.choose_spec (⟨l,h2⟩:∃l,Chn (fin next S).1 a l)).det h2
theorem path_ok {next:List (List Int)}{S:List Int}(hn:NOk next) (hS:incr next.length (-1) S) {a:Int}(ha:a∈(fin next S).2):Chn (fin next S).1 a (path next S a)∧(path next S a).length≤next.length∧Pth S (Ed next) a (path next S a):=by
 have h1:=(sN_inv hn hS next.length).1
 obtain⟨q,hq,e⟩:=List.mem_iff_getElem.1 ha
 obtain⟨l,g1,g2,g3⟩:=h1.chn q hq
 have e2:(sN next S next.length).2.getD q 0=a:=by
  have e3:(fin next S).2.getD q 0=a:=by
   rw[List.getD_eq_getElem?_getD,List.getElem?_eq_getElem hq]
   exact e
  exact e3
 rw[e2] at g1 g3
 have:=path_eq hn hS g1
 have hle:=h1.le
 have hq':q<(sN next S next.length).2.length:=hq
 rw[this]
 exact⟨g1,by omega,g3⟩
end Bf
section
variable {l:Las}
theorem Las.pos_stem {t:Nat}(h:t<l.size):l.pos t=t:=by
 induction t with
 | zero=>rfl
 | succ t ih=>
  rw[Las.pos,ih (by omega),Las.nx,if_neg (by omega)]
theorem mod_succ {j L:Nat}(hL:0<L):(j+1)%L=if j%L+1=L then 0 else j%L+1:=by
 have h:=Nat.mod_lt j hL
 rw[← Nat.mod_add_mod]
 split
 ·rename_i e;rw[e,Nat.mod_self]
 ·exact Nat.mod_eq_of_lt (by omega)
theorem Las.pos_loop (hl:1≤l.loop.length):∀j:Nat,l.pos (l.stem.length+j)=l.stem.length+j%l.loop.length
 | 0=>by
  rw[Nat.zero_mod,Nat.add_zero]
  exact Las.pos_stem (by unfold Las.size;omega)
 | j+1=>by
  have ih:=Las.pos_loop hl j
  have h:=Nat.mod_lt j (show 0<l.loop.length by omega)
  rw[← Nat.add_assoc,Las.pos,ih,Las.nx,mod_succ (by omega)]
  unfold Las.size
  by_cases e:j%l.loop.length+1=l.loop.length
  ·rw[if_pos (by omega),if_pos e];rfl
  ·rw[if_neg (by omega),if_neg e];omega
theorem Las.word_stem {t:Nat}(h:t<l.stem.length):l.word t=l.stem[t]:=by
 unfold Las.word
 rw[Las.pos_stem (by unfold Las.size;omega)]
 unfold Las.all
 rw[List.getD_eq_getElem?_getD,List.getElem?_append_left h,List.getElem?_eq_getElem h]
 rfl
theorem Las.word_loop (hl:1≤l.loop.length) (j:Nat):l.word (l.stem.length+j)=l.loop[j%l.loop.length]'(Nat.mod_lt _ (by omega)):=by
 have h:=Nat.mod_lt j (show 0<l.loop.length by omega)
 unfold Las.word
 rw[Las.pos_loop hl]
 unfold Las.all
 rw[List.getD_eq_getElem?_getD,List.getElem?_append_right (by omega),Nat.add_sub_cancel_left,List.getElem?_eq_getElem h]
 rfl
end
inductive LP (E:List Tr):Nat→List Int→Nat→Prop
 | nil (p:Nat):LP E p [] p
 | cons {p q r:Nat}{x:Int}{xs:List Int}(h:∃e∈E,e.frm=p∧e.to=q∧e.on x=true) (k:LP E q xs r):LP E p (x::xs) r
section
variable {E:List Tr}
theorem LP.append {p q r:Nat}{xs ys:List Int}(h:LP E p xs q) (k:LP E q ys r):LP E p (xs++ys) r:=by
 induction h with
 | nil=>exact k
 | cons h _ ih=>exact .cons h (ih k)
theorem LP.fr {w:Nat→Int}{p q:Nat}{xs:List Int}(h:LP E p xs q):∀{t:Nat},(∀i (hi:i<xs.length),w (t+i)=xs[i])→FR E w t p (t+xs.length) q:=by
 induction h with
 | nil=>intro t _;exact .refl _ _
 | cons h k ih=>
  rename_i x xs
  intro t hw
  have h1:=ih (t:=t+1) (fun i hi=>by
   have:=hw (i+1) (by simpa using hi)
   rw[show t+(i+1)=t+1+i by omega] at this
   simpa using this)
  obtain⟨e,he,h2,h3,h4⟩:=h
  have h5:=hw 0 (by simp)
  simp only[Nat.add_zero,List.getElem_cons_zero] at h5
  rw[List.length_cons,show t+(xs.length+1)=t+1+xs.length by omega]
  exact .step ⟨e,he,h2,h3,by rw[h5];exact h4⟩ h1
end
theorem lasso_lang {a:Aut}{l:Las}(hl:1≤l.loop.length) {s x:Nat}(hs:(s:Int)∈a.init) (h1:LP a.edges s l.stem x) (h2:LP a.edges x l.loop x) (hx:tru a.acc x):a.Lang l.word:=by
 have f1:=h1.fr (w:=l.word) (t:=0) (fun i hi=>by rw[Nat.zero_add];exact Las.word_stem hi)
 rw[Nat.zero_add] at f1
 refine⟨s,hs,Run.before f1 ⟨fun t p=>p=x∧∃k,t=l.stem.length+k*l.loop.length,⟨rfl,0,by omega⟩,?_⟩⟩
 rintro t p ⟨rfl,k,rfl⟩
 refine⟨l.stem.length+k*l.loop.length+l.loop.length,p,by omega,h2.fr (fun i hi=>?_),hx,rfl,k+1,by rw[Nat.add_mul];omega⟩
 rw[Nat.add_assoc,Las.word_loop hl]
 congr 1
 rw[Nat.mul_add_mod',Nat.mod_eq_of_lt hi]
namespace Bf
def row (a:Aut) (q:Int) (k:Nat):List Int:=((a.edges.take k).filter fun e=>decide (e.frm=q)).map Tr.to
def NX (a:Aut) (k:Nat):List (List Int):=(List.range a.acc.length).map fun (q:Nat)=>row a q k
def nx (a:Aut):List (List Int):=NX a a.edges.length
section
variable {a:Aut}
theorem NX_len {k:Nat}:(NX a k).length=a.acc.length:=by simp[NX]
theorem nx_len:(nx a).length=a.acc.length:=NX_len
theorem NX_at {k q:Nat}(hq:q<a.acc.length):(NX a k)[q]'(by rw[NX_len];exact hq)=row a q k:=by simp[NX]
theorem nx_getD {q:Nat}(hq:q<a.acc.length):(nx a).getD q []=row a q a.edges.length:=by
 rw[List.getD_eq_getElem?_getD,List.getElem?_eq_getElem (by rw[nx_len];exact hq)]
 exact NX_at hq
theorem row_mem' {q x:Int}:x∈row a q a.edges.length↔∃e∈a.edges,e.frm=q∧e.to=x:=by
 unfold row
 rw[List.take_length,List.mem_map]
 constructor
 ·rintro⟨e,he,rfl⟩
  obtain⟨h1,h2⟩:=List.mem_filter.1 he
  exact⟨e,h1,by simpa using h2,rfl⟩
 ·rintro⟨e,he,h1,rfl⟩
  exact⟨e,List.mem_filter.2 ⟨he,by simpa using h1⟩,rfl⟩
theorem nx_E (ha:a.Ok) (x y:Nat):a.E x y↔x<(nx a).length∧(y:Int)∈(nx a).getD x []:=by
 rw[nx_len]
 constructor
 ·rintro⟨e,he,h1,h2⟩
  have:=(Aut.E_lt ha x y ⟨e,he,h1,h2⟩).1
  exact⟨this,by rw[nx_getD this,row_mem'];exact⟨e,he,h1,h2⟩⟩
 ·rintro⟨h1,h2⟩
  rw[nx_getD h1,row_mem'] at h2
  exact h2
theorem nx_ok (ha:a.Ok):NOk (nx a):=by
 refine⟨fun l hl x hx=>?_⟩
 obtain⟨q,hq,rfl⟩:=List.mem_iff_getElem.1 hl
 rw[nx_len] at hq ⊢
 have h1:x∈row a q a.edges.length:=by rw[← NX_at hq];exact hx
 obtain⟨e,he,_,rfl⟩:=row_mem'.1 h1
 obtain⟨f,g,_,h3,_,h4⟩:=ha.tr he
 omega
theorem nx_Ed (ha:a.Ok) {x y:Int}:Ed (nx a) x y↔∃e∈a.edges,e.frm=x∧e.to=y:=by
 unfold Ed
 rw[nx_len]
 constructor
 ·rintro⟨h1,h2,h3⟩
  rw[nx_getD (by omega),row_mem',Int.toNat_of_nonneg h1] at h3
  exact h3
 ·rintro⟨e,he,h1,h2⟩
  obtain⟨f,g,h3,h4,h5,h6⟩:=ha.tr he
  refine⟨by omega,by omega,?_⟩
  rw[nx_getD (by omega),row_mem',Int.toNat_of_nonneg (by omega)]
  exact⟨e,he,h1,h2⟩
end
def ev (a:Aut) (p q:Int):Int:=match a.edges.find? (fun e=>decide (e.frm=p∧e.to=q)) with
 | some e=>e.value
 | none=>0
def vals (a:Aut):List Int→List Int
 | p::q::l=>ev a p q::vals a (q::l)
 | _=>[]
theorem vals_snoc {a:Aut}:∀{l:List Int}{p q:Int},vals a (l++[p]++[q])=vals a (l++[p])++[ev a p q]
 | [],p,q=>by simp[vals]
 | [x],p,q=>by simp[vals]
 | x::y::l,p,q=>by
  have:=vals_snoc (a:=a) (l:=y::l) (p:=p) (q:=q)
  simp only[List.cons_append,vals] at this ⊢
  rw[this]
theorem vals_len {a:Aut}:∀{l:List Int},(vals a l).length=l.length-1
 | []=>rfl
 | [x]=>rfl
 | x::y::l=>by
  have:=vals_len (a:=a) (l:=y::l)
  simp only[vals,List.length_cons] at this ⊢
  omega
theorem andI_le {v c:Int}(h0:0≤c) (h1:c<4294967296):andI .i64 v c≤c:=by
 obtain⟨n,rfl⟩:∃n:Nat,c=n:=⟨c.toNat,by omega⟩
 unfold andI
 have h2:(BitVec.ofInt IntKind.i64.bits v&&&BitVec.ofInt IntKind.i64.bits (n:Int)).toNat≤n:=by
  rw[BitVec.toNat_and]
  refine Nat.le_trans Nat.and_le_right ?_
  have:(BitVec.ofInt IntKind.i64.bits (n:Int)).toNat=n%2^IntKind.i64.bits:=by simp
  rw[this]
  exact Nat.mod_le _ _
 generalize (BitVec.ofInt IntKind.i64.bits v&&&BitVec.ofInt IntKind.i64.bits (n:Int)).toNat=m at *
 have:IntKind.i64.wrap (m:Int)=m:=by
  have:IntKind.i64.wrap (m:Int)=if (m:Int)%18446744073709551616≥9223372036854775808 then (m:Int)%18446744073709551616-18446744073709551616 else (m:Int)%18446744073709551616:=by
   simp[IntKind.wrap,IntKind.signed,IntKind.bits]
  rw[this]
  split<;>omega
 rw[this]
 omega
theorem ev_ok {a:Aut}(ha:a.Ok) {p q:Int}(h:∃e∈a.edges,e.frm=p∧e.to=q):∃e∈a.edges,e.frm=p∧e.to=q∧ev a p q=e.value∧e.on (ev a p q)=true∧0≤ev a p q∧ev a p q≤7:=by
 obtain⟨e,he,h1,h2⟩:=h
 cases hf:a.edges.find? (fun e=>decide (e.frm=p∧e.to=q)) with
 | none=>
  rw[List.find?_eq_none] at hf
  have:=hf e he
  simp[h1,h2] at this
 | some f=>
  have h3:=List.find?_some hf
  have h4:=List.mem_of_find?_eq_some hf
  simp only[decide_eq_true_eq] at h3
  have h5:ev a p q=f.value:=by unfold ev;rw[hf]
  have h6:=ha.2.2.2 f h4
  unfold Tr.Ok at h6
  refine⟨f,h4,h3.1,h3.2,h5,?_,by omega,?_⟩
  ·rw[h5,Tr.on,decide_eq_true_eq]
   exact h6.2.2.2.2.2.2.2
  ·rw[h5,← h6.2.2.2.2.2.2.2]
   exact Int.le_trans (andI_le (by omega) (by omega)) (show f.care≤7 by omega)
end Bf
def H_impl_components_1:Hint:=⟨[(0,false),(1,false),(2,false),(3,false),(4,false),(5,false),(6,false),(7,false),(8,false),(11,false),(12,false),(30,false),(31,false),(32,false)],[[1,5,9,10],[1,2,3,5,6,9,11,12,13]]⟩
abbrev K175_1:C:=.pl <| .e 14 2 <|
 .l 14 8 <|
 .x 15 (.bin .add (.v 14) (.c (.int .i64 1))) <|
 .o (.ex none (.store 1 (.v 8) (.v 15))) .done
abbrev K175_2:C:=.pl <| .e 14 4 <|
 .l 14 7 <|
 .m 15 10 <|
 .l 16 8 <|
 .x 17 (.ia 1 (.v 14) (.v 15)) <|
 .o (.ex none (.store 1 (.v 17) (.v 16))) .done
abbrev K175_3:C:=.seq (.pl <| .e 14 5 <|
 .l 14 4 <|
 .l 15 4 <|
 .x 16 (.lenV (.v 15)) <|
 .x 17 (.bin .sub (.v 16) (.c (.int .i64 1))) <|
 .x 18 (.sliceV 1 (.v 14) none (some (.v 17)) none) <|
 .o (.ex none (.store 1 (.v 4) (.v 18))) .done) K175_2
abbrev K175_4:C:=.block 4 (.seq (.pl <| .e 14 6 <|
 .l 14 4 <|
 .l 15 4 <|
 .x 16 (.lenV (.v 15)) <|
 .x 17 (.bin .sub (.v 16) (.c (.int .i64 1))) <|
 .x 18 (.ia 1 (.v 14) (.v 17)) <|
 .l 19 18 <|
 .m 10 19 .done) K175_3)
abbrev K175_5:C:=.cond 14 (.v 16) (.skip) (.exit 3)
abbrev K175_6:C:=.seq (.seq (.pl <| .e 14 3 <|
 .m 14 10 <|
 .m 15 0 <|
 .x 16 (.bin .neq (.v 14) (.v 15)) .done) K175_5) K175_4
abbrev K175_7:C:=.block 3 (.loop 14 [1,2,3,5,6,9,11,12,13] K175_6)
abbrev K175_8:C:=.seq (.seq (.pl <| .e 14 0 <|
 .x 10 (.mv (.c (.int .i64 (-1)))) .done) K175_7) K175_1
abbrev K175_9:C:=.cond 14 (.v 22) K175_8 (.skip)
abbrev K175_10:C:=.seq (.pl <| .e 14 9 <|
 .l 14 3 <|
 .m 15 0 <|
 .x 16 (.ia 1 (.v 14) (.v 15)) <|
 .l 17 16 <|
 .l 18 2 <|
 .m 19 0 <|
 .x 20 (.ia 1 (.v 18) (.v 19)) <|
 .l 21 20 <|
 .x 22 (.bin .eql (.v 17) (.v 21)) .done) K175_9
abbrev K175_11:C:=.pl <| .e 14 1 <|
 .x 14 (.bin .add (.v 13) (.c (.int .i64 1))) <|
 .m 13 14 .done
abbrev K175_12:C:=.pl <| .e 14 12 <|
 .l 14 3 <|
 .m 15 0 <|
 .l 16 3 <|
 .m 17 0 <|
 .x 18 (.ia 1 (.v 16) (.v 17)) <|
 .l 19 18 <|
 .l 20 3 <|
 .m 21 9 <|
 .x 22 (.ia 1 (.v 20) (.v 21)) <|
 .l 23 22 <|
 .x 24 (.minI (.v 19) (.v 23)) <|
 .x 25 (.ia 1 (.v 14) (.v 15)) <|
 .o (.ex none (.store 1 (.v 25) (.v 24))) .done
abbrev K175_13:C:=.seq (.pl <| .e 14 3 <|
 .l 14 6 <|
 .m 15 9 <|
 .c 16 (.callv (.v 14) [.v 15]) .done) K175_12
abbrev K175_14:C:=.pl <| .e 14 12 <|
 .l 14 3 <|
 .m 15 0 <|
 .l 16 3 <|
 .m 17 0 <|
 .x 18 (.ia 1 (.v 16) (.v 17)) <|
 .l 19 18 <|
 .l 20 2 <|
 .m 21 9 <|
 .x 22 (.ia 1 (.v 20) (.v 21)) <|
 .l 23 22 <|
 .x 24 (.minI (.v 19) (.v 23)) <|
 .x 25 (.ia 1 (.v 14) (.v 15)) <|
 .o (.ex none (.store 1 (.v 25) (.v 24))) .done
abbrev K175_15:C:=.cond 14 (.v 19) K175_14 (.skip)
abbrev K175_16:C:=.seq (.pl <| .e 14 6 <|
 .l 14 7 <|
 .m 15 9 <|
 .x 16 (.ia 1 (.v 14) (.v 15)) <|
 .l 17 16 <|
 .x 18 (.bin .lss (.v 17) (.c (.int .i64 0))) <|
 .m 19 18 .done) K175_15
abbrev K175_17:C:=.cond 14 (.v 19) K175_13 K175_16
abbrev K175_18:C:=.block 2 (.seq (.pl <| .e 14 6 <|
 .l 14 2 <|
 .m 15 9 <|
 .x 16 (.ia 1 (.v 14) (.v 15)) <|
 .l 17 16 <|
 .x 18 (.bin .eql (.v 17) (.c (.int .i64 0))) <|
 .m 19 18 .done) K175_17)
abbrev K175_19:C:=.seq (.block 1 (.seq (.pl <| .e 14 2 <|
 .x 14 (.ia 1 (.v 11) (.v 13)) <|
 .l 15 14 <|
 .m 9 15 .done) K175_18)) K175_11
abbrev K175_20:C:=.seq (.cond 14 (.v 14) (.skip) (.exit 0)) K175_19
abbrev K175_21:C:=.seq (.pl <| .e 14 1 <|
 .x 14 (.bin .lss (.v 13) (.v 12)) .done) K175_20
abbrev K175_22:C:=.block 0 (.loop 14 [1,5,9,10] K175_21)
abbrev K175_23:C:=.seq (.seq (.pl <| .e 14 3 <|
 .l 14 5 <|
 .m 15 0 <|
 .x 16 (.ia 1 (.v 14) (.v 15)) <|
 .l 11 16 <|
 .x 12 (.lenV (.v 11)) <|
 .x 13 (.mv (.c (.int .i64 0))) .done) K175_22) K175_10
abbrev K175_24:Pl:=.o (.ex none (.store 1 (.v 4) (.v 17))) .done
abbrev K175_25:C:=.seq (.pl <| .e 14 4 <|
 .l 14 4 <|
 .m 15 0 <|
 .o (.psl 16 [.int .i64 0] [(0,1,.v 15)]) <|
 .c 17 (.app 8 1 [.int .i64 0] (.o (.v 14)) (.p 1 16)) K175_24) K175_23
abbrev K175_26:Pl:=.st (.re 16 (.v 3) none none) <|
 .st (.re 19 (.v 1) none none) <|
 .x 21 (.ia 1 (.v 16) (.v 17)) <|
 .o (.ex none (.store 1 (.v 21) (.v 19))) .done
abbrev K175_27:C:=.seq (.pl <| .e 14 8 <|
 .l 14 2 <|
 .m 15 0 <|
 .l 16 3 <|
 .m 17 0 <|
 .l 18 1 <|
 .l 19 1 <|
 .x 20 (.ia 1 (.v 14) (.v 15)) <|
 .o (.ex none (.store 1 (.v 20) (.v 18))) K175_26) K175_25
abbrev B_impl_components_1:C:=.seq (.pl <| .e 14 2 <|
 .l 14 1 <|
 .x 15 (.bin .add (.v 14) (.c (.int .i64 1))) <|
 .o (.ex none (.store 1 (.v 1) (.v 15))) .done) K175_27
def R_impl_components_1:FIR:=⟨B_impl_components_1,14,[]⟩
theorem IR_impl_components_1:cfun Tryz.prog H_impl_components_1 Tryz.f175=some R_impl_components_1:=by kernel_rfl
theorem EN_impl_components_1:ENT Tryz.prog B_impl_components_1 [] 9 14 fn_impl_components_1:=fun hargs hw=>enter Tryz.func175 rfl IR_impl_components_1 hargs hw
def H_impl_cyclic:Hint:=⟨[(0,false),(2,false),(3,false),(4,false),(6,false),(7,false),(8,false),(14,false),(15,false),(16,false),(31,false),(32,false)],[[1,4,5,6,10,11],[1,4,6,7,8,9]]⟩
abbrev K112_1:C:=.seq (.pl <| .e 12 1 <|
 .m 12 5 <|
 .m 1 12 .done) (.ret)
abbrev K112_2:C:=.pl <| .e 12 1 <|
 .x 12 (.bin .add (.v 11) (.c (.int .i64 1))) <|
 .m 11 12 .done
abbrev K112_3:Pl:=.x 29 (.pick (.v 22) (.c (.bool true)) (.v 28)) <|
 .x 30 (.ia 1 (.v 12) (.v 13)) <|
 .o (.ex none (.store 1 (.v 30) (.v 29))) .done
abbrev K112_4:C:=.pl <| .e 12 19 <|
 .m 12 5 <|
 .m 13 6 <|
 .m 14 3 <|
 .m 15 2 <|
 .m 16 6 <|
 .x 17 (.ia 1 (.v 15) (.v 16)) <|
 .l 18 17 <|
 .x 19 (.ia 1 (.v 14) (.v 18)) <|
 .l 20 19 <|
 .x 21 (.bin .gtr (.v 20) (.c (.int .i64 1))) <|
 .m 22 21 <|
 .n 22 (.px (some 23) (.mv (.v 0))) <|
 .n 22 (.px (some 24) (.mv (.v 6))) <|
 .n 22 (.px (some 25) (.ia 1 (.v 23) (.v 24))) <|
 .n 22 (.ld (some 26) (.v 25) none) <|
 .n 22 (.px (some 27) (.mv (.v 6))) <|
 .st (.act (some (.v 22,false)) (.ex (some 28) (.call fn_slices_Contains_S_int_int [.v 26,.v 27]))) K112_3
abbrev K112_5:C:=.seq (.block 3 (.seq (.pl <| .e 12 1 <|
 .m 12 11 <|
 .m 6 12 .done) K112_4)) K112_2
abbrev K112_6:C:=.seq (.cond 12 (.v 12) (.skip) (.exit 2)) K112_5
abbrev K112_7:C:=.seq (.pl <| .e 12 1 <|
 .x 12 (.bin .lss (.v 11) (.v 10)) .done) K112_6
abbrev K112_8:C:=.block 2 (.loop 12 [1,4,6,7,8,9] K112_7)
abbrev K112_9:C:=.seq (.seq (.pl <| .e 12 1 <|
 .m 12 0 <|
 .x 10 (.lenV (.v 12)) <|
 .x 11 (.mv (.c (.int .i64 0))) .done) K112_8) K112_1
abbrev K112_10:Pl:=.m 5 14 .done
abbrev K112_11:C:=.seq (.pl <| .e 12 3 <|
 .m 12 0 <|
 .x 13 (.lenV (.v 12)) <|
 .c 14 (.mks 1 1 [.bool false] (.v 13) (.v 13)) K112_10) K112_9
abbrev K112_12:C:=.pl <| .e 12 1 <|
 .x 12 (.bin .add (.v 9) (.c (.int .i64 1))) <|
 .m 9 12 .done
abbrev K112_13:C:=.pl <| .e 12 6 <|
 .m 12 3 <|
 .m 13 4 <|
 .x 14 (.ia 1 (.v 12) (.v 13)) <|
 .l 15 14 <|
 .x 16 (.bin .add (.v 15) (.c (.int .i64 1))) <|
 .x 17 (.ia 1 (.v 12) (.v 13)) <|
 .o (.ex none (.store 1 (.v 17) (.v 16))) .done
abbrev K112_14:C:=.seq (.block 1 (.seq (.pl <| .e 12 2 <|
 .x 12 (.ia 1 (.v 7) (.v 9)) <|
 .l 13 12 <|
 .m 4 13 .done) K112_13)) K112_12
abbrev K112_15:C:=.seq (.cond 12 (.v 12) (.skip) (.exit 0)) K112_14
abbrev K112_16:C:=.seq (.pl <| .e 12 1 <|
 .x 12 (.bin .lss (.v 9) (.v 8)) .done) K112_15
abbrev K112_17:C:=.block 0 (.loop 12 [1,4,5,6,10,11] K112_16)
abbrev K112_18:C:=.seq (.seq (.pl <| .e 12 0 <|
 .m 7 2 <|
 .x 8 (.lenV (.v 7)) <|
 .x 9 (.mv (.c (.int .i64 0))) .done) K112_17) K112_11
abbrev K112_19:Pl:=.m 3 14 .done
abbrev K112_20:C:=.seq (.pl <| .e 12 3 <|
 .m 12 0 <|
 .x 13 (.lenV (.v 12)) <|
 .c 14 (.mks 8 1 [.int .i64 0] (.v 13) (.v 13)) K112_19) K112_18
abbrev K112_21:Pl:=.m 2 13 .done
abbrev K112_22:C:=.seq (.pl <| .e 12 2 <|
 .m 12 0 <|
 .c 13 (.call fn_impl_components [.v 12]) K112_21) K112_20
abbrev B_impl_cyclic:C:=.seq (.pl <| .e 12 0 <|
 .x 1 (.mv (.c (.slice none 0 0))) .done) K112_22
def R_impl_cyclic:FIR:=⟨B_impl_cyclic,12,[(1,none)]⟩
theorem IR_impl_cyclic:cfun Tryz.prog H_impl_cyclic Tryz.f112=some R_impl_cyclic:=by kernel_rfl
theorem EN_impl_cyclic:ENT Tryz.prog B_impl_cyclic [(1,none)] 1 12 fn_impl_cyclic:=fun hargs hw=>enter Tryz.func112 rfl IR_impl_cyclic hargs hw
def H_impl_explore_impl_phased:Hint:=⟨[(0,false),(1,false),(2,false),(6,true),(7,false),(8,true),(9,false),(10,false),(11,false),(13,true),(14,false),(16,true),(24,false),(25,false),(26,false),(70,false),(71,false),(72,false)],[[0,4,6,9,10,11,15,16,17],[0,4,6,9,11,12,13,14,15,16,17],[0,4,6,9,11,12,13,14]]⟩
abbrev K42_1:Pl:=.o (.pset none 3 0 3 (.v 19)) <|
 .x 4 (.mv (.c (.bool true))) .done
abbrev K42_2:C:=.seq (.pl <| .e 18 2 <|
 .o (.pget (some 18) none 5 0 (some 3)) <|
 .c 19 (.call fn_impl_Automaton_copyOf [.v 18]) K42_1) (.ret)
abbrev K42_3:C:=.seq (.pl <| .e 18 1 <|
 .x 18 (.build [.slice none 0 0,.slice none 0 0,.slice none 0 0] []) <|
 .o (.pset none 3 0 3 (.v 18)) <|
 .x 4 (.mv (.c (.bool false))) .done) (.ret)
abbrev K42_4:C:=.cond 18 (.v 20) K42_3 (.skip)
abbrev K42_5:Pl:=.x 20 (.un .not (.v 19)) .done
abbrev K42_6:C:=.seq (.seq (.pl <| .e 18 3 <|
 .o (.pget (some 18) none 5 0 (some 3)) <|
 .c 19 (.call fn_impl_AutomatonValid [.v 18]) K42_5) K42_4) K42_2
abbrev K42_7:C:=.pl <| .e 18 2 <|
 .m 18 10 <|
 .x 19 (.bin .add (.v 18) (.c (.int .i64 1))) <|
 .m 10 19 .done
abbrev K42_8:C:=.pl <| .e 18 1 <|
 .x 18 (.bin .add (.v 17) (.c (.int .i64 1))) <|
 .m 17 18 .done
abbrev K42_9:Pl:=.a 32 5 <|
 .o (.pset (some 32) 5 2 1 (.v 31)) .done
abbrev K42_10:Pl:=.x 29 (.build [.int .i64 0,.int .i64 0,.int .i64 0,.int .i64 0] [(0,1,.v 20),(1,1,.v 22),(2,1,.v 24),(3,1,.v 28)]) <|
 .o (.psl 30 [.int .i64 0,.int .i64 0,.int .i64 0,.int .i64 0] [(0,4,.v 29)]) <|
 .c 31 (.app 32 4 [.int .i64 0,.int .i64 0,.int .i64 0,.int .i64 0] (.o (.v 19)) (.p 1 30)) K42_9
abbrev K42_11:C:=.pl <| .e 18 15 <|
 .a 18 5 <|
 .g 19 18 5 2 <|
 .m 20 10 <|
 .a 21 11 <|
 .g 22 21 11 0 <|
 .a 23 11 <|
 .g 24 23 11 1 <|
 .m 25 8 <|
 .a 26 11 <|
 .o (.pget (some 27) (some 26) 11 2 (some 2)) <|
 .c 28 (.callv (.v 25) [.v 27]) K42_10
abbrev K42_12:C:=.seq (.block 5 (.seq (.pl <| .e 18 2 <|
 .x 18 (.ia 4 (.v 15) (.v 17)) <|
 .o (.ld (some 19) (.v 18) (some 4)) <|
 .o (.pnew 11 (.c (.agg #[.int .i64 0,.int .i64 0,.int .i64 0,.int .i64 0])) []) <|
 .o (.pset none 11 0 4 (.v 19)) .done) K42_11)) K42_8
abbrev K42_13:C:=.seq (.cond 18 (.v 18) (.skip) (.exit 4)) K42_12
abbrev K42_14:C:=.seq (.pl <| .e 18 1 <|
 .x 18 (.bin .lss (.v 17) (.v 16)) .done) K42_13
abbrev K42_15:C:=.block 4 (.loop 18 [0,4,6,9,11,12,13,14] K42_14)
abbrev K42_16:Pl:=.x 16 (.lenV (.v 15)) <|
 .x 17 (.mv (.c (.int .i64 0))) .done
abbrev K42_17:C:=.seq (.pl <| .e 18 5 <|
 .m 18 2 <|
 .l 19 7 <|
 .m 20 10 <|
 .x 21 (.ia 2 (.v 19) (.v 20)) <|
 .o (.ld (some 22) (.v 21) (some 2)) <|
 .c 15 (.callv (.v 18) [.v 22]) K42_16) K42_15
abbrev K42_18:Pl:=.a 28 5 <|
 .o (.pset (some 28) 5 1 1 (.v 27)) .done
abbrev K42_19:Pl:=.o (.psl 26 [.bool false] [(0,1,.v 25)]) <|
 .c 27 (.app 1 1 [.bool false] (.o (.v 19)) (.p 1 26)) K42_18
abbrev K42_20:C:=.seq (.pl <| .e 18 11 <|
 .a 18 5 <|
 .g 19 18 5 1 <|
 .m 20 1 <|
 .l 21 7 <|
 .m 22 10 <|
 .x 23 (.ia 2 (.v 21) (.v 22)) <|
 .o (.ld (some 24) (.v 23) (some 2)) <|
 .c 25 (.callv (.v 20) [.v 24]) K42_19) K42_17
abbrev K42_21:C:=.seq (.pl <| .e 18 1 <|
 .x 18 (.build [.slice none 0 0,.slice none 0 0,.slice none 0 0] []) <|
 .o (.pset none 3 0 3 (.v 18)) <|
 .x 4 (.mv (.c (.bool false))) .done) (.ret)
abbrev K42_22:C:=.cond 18 (.v 25) K42_21 (.skip)
abbrev K42_23:C:=.seq (.block 3 (.seq (.seq (.pl <| .e 18 8 <|
 .m 18 10 <|
 .x 19 (.bin .eql (.v 18) (.c (.int .i64 64))) <|
 .m 20 19 <|
 .n 20 (.als 21 none 5) <|
 .n 20 (.pget (some 22) (some 21) 5 2 none) <|
 .n 20 (.px (some 23) (.lenV (.v 22))) <|
 .n 20 (.px (some 24) (.bin .gtr (.v 23) (.c (.int .i64 2048)))) <|
 .x 25 (.pick (.v 20) (.c (.bool true)) (.v 24)) .done) K42_22) K42_20)) K42_7
abbrev K42_24:C:=.cond 18 (.v 21) (.skip) (.exit 2)
abbrev K42_25:C:=.seq (.seq (.pl <| .e 18 4 <|
 .m 18 10 <|
 .l 19 7 <|
 .x 20 (.lenV (.v 19)) <|
 .x 21 (.bin .lss (.v 18) (.v 20)) .done) K42_24) K42_23
abbrev K42_26:C:=.block 2 (.loop 18 [0,4,6,9,11,12,13,14,15,16,17] K42_25)
abbrev K42_27:C:=.seq (.seq (.pl <| .e 18 0 <|
 .x 10 (.mv (.c (.int .i64 0))) .done) K42_26) K42_6
abbrev K42_28:C:=.pl <| .e 18 1 <|
 .x 18 (.bin .add (.v 14) (.c (.int .i64 1))) <|
 .m 14 18 .done
abbrev K42_29:Pl:=.a 25 5 <|
 .o (.pset (some 25) 5 0 1 (.v 24)) .done
abbrev K42_30:Pl:=.o (.psl 23 [.int .i64 0] [(0,1,.v 22)]) <|
 .c 24 (.app 8 1 [.int .i64 0] (.o (.v 19)) (.p 1 23)) K42_29
abbrev K42_31:C:=.pl <| .e 18 8 <|
 .a 18 5 <|
 .g 19 18 5 0 <|
 .m 20 8 <|
 .o (.pget (some 21) none 9 0 (some 2)) <|
 .c 22 (.callv (.v 20) [.v 21]) K42_30
abbrev K42_32:C:=.seq (.block 1 (.seq (.pl <| .e 18 2 <|
 .x 18 (.ia 2 (.v 12) (.v 14)) <|
 .o (.ld (some 19) (.v 18) (some 2)) <|
 .o (.pnew 9 (.c (.agg #[.int .i64 0,.int .i64 0])) []) <|
 .o (.pset none 9 0 2 (.v 19)) .done) K42_31)) K42_28
abbrev K42_33:C:=.seq (.cond 18 (.v 18) (.skip) (.exit 0)) K42_32
abbrev K42_34:C:=.seq (.pl <| .e 18 1 <|
 .x 18 (.bin .lss (.v 14) (.v 13)) .done) K42_33
abbrev K42_35:C:=.block 0 (.loop 18 [0,4,6,9,10,11,15,16,17] K42_34)
abbrev K42_36:C:=.seq (.seq (.pl <| .e 18 0 <|
 .m 12 0 <|
 .x 13 (.lenV (.v 12)) <|
 .x 14 (.mv (.c (.int .i64 0))) .done) K42_35) K42_27
abbrev K42_37:C:=.seq (.pl <| .e 18 1 <|
 .x 18 (.mkf (.func fn_impl_explore_impl_phased_1) [] [.v 6,.v 7]) <|
 .m 8 18 .done) K42_36
abbrev K42_38:C:=.seq (.pl <| .e 18 0 <|
 .c 7 (.alloc (.c (.slice none 0 0))) .done) K42_37
abbrev K42_39:Pl:=.o (.ex none (.store 1 (.v 6) (.v 18))) .done
abbrev K42_40:Pl:=.c 6 (.alloc (.c (.map none))) K42_39
abbrev K42_41:C:=.seq (.pl <| .e 18 1 <|
 .c 18 (.mkm) K42_40) K42_38
abbrev K42_42:C:=.seq (.pl <| .e 18 0 <|
 .o (.pnew 5 (.c (.agg #[.slice none 0 0,.slice none 0 0,.slice none 0 0])) []) .done) K42_41
abbrev K42_43:Pl:=.x 19 (.build [.slice none 0 0,.slice none 0 0,.slice none 0 0] [(1,1,.v 18)]) <|
 .o (.pset none 3 0 3 (.v 19)) <|
 .x 4 (.mv (.c (.bool true))) .done
abbrev K42_44:C:=.seq (.pl <| .e 18 2 <|
 .c 18 (.mks 1 1 [.bool false] (.c (.int .i64 1)) (.c (.int .i64 1))) K42_43) (.ret)
abbrev K42_45:C:=.cond 18 (.v 20) K42_44 (.skip)
abbrev K42_46:C:=.seq (.seq (.pl <| .e 18 3 <|
 .m 18 0 <|
 .x 19 (.lenV (.v 18)) <|
 .x 20 (.bin .eql (.v 19) (.c (.int .i64 0))) .done) K42_45) K42_42
abbrev B_impl_explore_impl_phased:C:=.seq (.pl <| .e 18 0 <|
 .o (.pnew 3 (.c (.agg #[.slice none 0 0,.slice none 0 0,.slice none 0 0])) []) <|
 .x 4 (.mv (.c (.bool false))) .done) K42_46
def R_impl_explore_impl_phased:FIR:=⟨B_impl_explore_impl_phased,18,[(3,some (some 3)),(4,none)]⟩
theorem IR_impl_explore_impl_phased:cfun Tryz.prog H_impl_explore_impl_phased Tryz.f42=some R_impl_explore_impl_phased:=by kernel_rfl
theorem EN_impl_explore_impl_phased:ENT Tryz.prog B_impl_explore_impl_phased [(3,some (some 3)),(4,none)] 3 18 fn_impl_explore_impl_phased:=fun hargs hw=>enter Tryz.func42 rfl IR_impl_explore_impl_phased hargs hw
def H_impl_explore_impl_phased_1:Hint:=⟨[(0,false),(1,false),(2,false),(3,true),(4,false),(5,false),(6,false)],[]⟩
abbrev K94_1:C:=.seq (.pl <| .e 7 1 <|
 .m 7 5 <|
 .m 4 7 .done) (.ret)
abbrev K94_2:Pl:=.o (.ex none (.store 1 (.v 2) (.v 10))) .done
abbrev K94_3:C:=.pl <| .e 7 4 <|
 .l 7 2 <|
 .o (.pget (some 8) none 3 0 (some 2)) <|
 .o (.psl 9 [.int .i64 0,.int .i64 0] [(0,2,.v 8)]) <|
 .c 10 (.app 16 2 [.int .i64 0,.int .i64 0] (.o (.v 7)) (.p 1 9)) K94_2
abbrev K94_4:C:=.seq (.pl <| .e 7 3 <|
 .l 7 1 <|
 .o (.pget (some 8) none 3 0 (some 2)) <|
 .m 9 5 <|
 .o (.ex none (.mput (.many [.i,.i]) (.v 7) (.v 8) (.v 9))) .done) K94_3
abbrev K94_5:C:=.seq (.pl <| .e 7 2 <|
 .l 7 2 <|
 .x 8 (.lenV (.v 7)) <|
 .m 5 8 .done) K94_4
abbrev K94_6:C:=.cond 7 (.v 8) K94_5 (.skip)
abbrev K94_7:C:=.seq (.seq (.pl <| .e 7 2 <|
 .m 7 6 <|
 .x 8 (.un .not (.v 7)) .done) K94_6) K94_1
abbrev K94_8:Pl:=.m 10 9 <|
 .x 11 (.extract 0 (.v 10)) <|
 .x 12 (.extract 1 (.v 10)) <|
 .m 5 11 <|
 .m 6 12 .done
abbrev K94_9:C:=.seq (.pl <| .e 7 6 <|
 .l 7 1 <|
 .o (.pget (some 8) none 3 0 (some 2)) <|
 .c 9 (.mget (.many [.i,.i]) (.int .i64 0) true (.v 7) (.v 8)) K94_8) K94_7
abbrev B_impl_explore_impl_phased_1:C:=.seq (.pl <| .e 7 0 <|
 .o (.pnew 3 (.v 0) []) <|
 .x 4 (.mv (.c (.int .i64 0))) .done) K94_9
def R_impl_explore_impl_phased_1:FIR:=⟨B_impl_explore_impl_phased_1,7,[(4,none)]⟩
theorem IR_impl_explore_impl_phased_1:cfun Tryz.prog H_impl_explore_impl_phased_1 Tryz.f94=some R_impl_explore_impl_phased_1:=by kernel_rfl
theorem EN_impl_explore_impl_phased_1:ENT Tryz.prog B_impl_explore_impl_phased_1 [(4,none)] 3 7 fn_impl_explore_impl_phased_1:=fun hargs hw=>enter Tryz.func94 rfl IR_impl_explore_impl_phased_1 hargs hw
def H_impl_formula:Hint:=⟨[(0,false),(1,false),(4,true)],[]⟩
abbrev K89_1:Pl:=.x 6 (.build [.int .i64 0,.int .i64 0,.slice none 0 0] [(0,1,.v 3),(1,1,.c (.int .i64 0)),(2,1,.v 5)]) <|
 .o (.pset none 2 0 3 (.v 6)) .done
abbrev K89_2:C:=.seq (.pl <| .e 3 4 <|
 .m 3 0 <|
 .m 4 1 <|
 .c 5 (.call fn_impl_clone_impl_Formula [.v 4]) K89_1) (.ret)
abbrev B_impl_formula:C:=.seq (.pl <| .e 3 0 <|
 .o (.pnew 2 (.c (.agg #[.int .i64 0,.int .i64 0,.slice none 0 0])) []) .done) K89_2
def R_impl_formula:FIR:=⟨B_impl_formula,3,[(2,some (some 3))]⟩
theorem IR_impl_formula:cfun Tryz.prog H_impl_formula Tryz.f89=some R_impl_formula:=by kernel_rfl
theorem EN_impl_formula:ENT Tryz.prog B_impl_formula [(2,some (some 3))] 2 3 fn_impl_formula:=fun hargs hw=>enter Tryz.func89 rfl IR_impl_formula hargs hw
def H_impl_formulaAt:Hint:=⟨[(0,false),(1,false),(3,false),(4,false)],[]⟩
abbrev K93_1:Pl:=.m 3 6 .done
abbrev K93_2:C:=.seq (.pl <| .e 4 3 <|
 .m 4 0 <|
 .x 5 (.mkf (.func fn_impl_formulaAt_1) [] [.v 2]) <|
 .c 6 (.call fn_slices_IndexFunc_S_impl_Formula_impl_Formula [.v 4,.v 5]) K93_1) (.ret)
abbrev K93_3:Pl:=.x 3 (.mv (.c (.int .i64 0))) .done
abbrev B_impl_formulaAt:C:=.seq (.pl <| .e 4 0 <|
 .c 2 (.alloc (.v 1)) K93_3) K93_2
def R_impl_formulaAt:FIR:=⟨B_impl_formulaAt,4,[(3,none)]⟩
theorem IR_impl_formulaAt:cfun Tryz.prog H_impl_formulaAt Tryz.f93=some R_impl_formulaAt:=by kernel_rfl
theorem EN_impl_formulaAt:ENT Tryz.prog B_impl_formulaAt [(3,none)] 2 4 fn_impl_formulaAt:=fun hargs hw=>enter Tryz.func93 rfl IR_impl_formulaAt hargs hw
def H_impl_formulaAt_1:Hint:=⟨[(0,false),(1,false),(2,true),(3,false)],[]⟩
abbrev K144_1:Pl:=.m 3 6 .done
abbrev K144_2:C:=.seq (.pl <| .e 4 3 <|
 .o (.pget (some 4) none 2 0 (some 3)) <|
 .o (.ld (some 5) (.v 1) (some 3)) <|
 .c 6 (.call fn_impl_FormulaSame [.v 4,.v 5]) K144_1) (.ret)
abbrev B_impl_formulaAt_1:C:=.seq (.pl <| .e 4 0 <|
 .o (.pnew 2 (.v 0) []) <|
 .x 3 (.mv (.c (.bool false))) .done) K144_2
def R_impl_formulaAt_1:FIR:=⟨B_impl_formulaAt_1,4,[(3,none)]⟩
theorem IR_impl_formulaAt_1:cfun Tryz.prog H_impl_formulaAt_1 Tryz.f144=some R_impl_formulaAt_1:=by kernel_rfl
theorem EN_impl_formulaAt_1:ENT Tryz.prog B_impl_formulaAt_1 [(3,none)] 2 4 fn_impl_formulaAt_1:=fun hargs hw=>enter Tryz.func144 rfl IR_impl_formulaAt_1 hargs hw
def H_impl_in:Hint:=⟨[(0,false),(1,false),(2,false),(6,false)],[]⟩
abbrev K105_1:C:=.seq (.pl <| .e 4 8 <|
 .m 4 0 <|
 .m 5 1 <|
 .x 6 (.bin .geq (.v 4) (.v 5)) <|
 .m 7 6 <|
 .y 7 (.px (some 8) (.mv (.v 0))) <|
 .y 7 (.px (some 9) (.mv (.v 2))) <|
 .y 7 (.px (some 10) (.bin .leq (.v 8) (.v 9))) <|
 .x 11 (.pick (.v 7) (.v 10) (.c (.bool false))) <|
 .m 3 11 .done) (.ret)
abbrev B_impl_in:C:=.seq (.pl <| .e 4 0 <|
 .x 3 (.mv (.c (.bool false))) .done) K105_1
def R_impl_in:FIR:=⟨B_impl_in,4,[(3,none)]⟩
theorem IR_impl_in:cfun Tryz.prog H_impl_in Tryz.f105=some R_impl_in:=by kernel_rfl
theorem EN_impl_in:ENT Tryz.prog B_impl_in [(3,none)] 3 4 fn_impl_in:=fun hargs hw=>enter Tryz.func105 rfl IR_impl_in hargs hw
def H_impl_operands:Hint:=⟨[(0,false),(2,false),(3,false),(4,false),(7,false)],[]⟩
abbrev K163_1:C:=.seq (.pl <| .e 5 0 <|
 .x 1 (.mv (.c (.int .i64 1))) .done) (.ret)
abbrev K163_2:C:=.seq (.pl <| .e 5 0 <|
 .x 1 (.mv (.c (.int .i64 0))) .done) (.ret)
abbrev K163_3:C:=.seq (.pl <| .e 5 0 <|
 .x 1 (.mv (.c (.int .i64 2))) .done) (.ret)
abbrev K163_4:C:=.cond 5 (.v 4) K163_3 (.skip)
abbrev K163_5:C:=.pl <| .e 5 1 <|
 .x 5 (.bin .eql (.v 2) (.c (.int .i64 8))) <|
 .m 4 5 .done
abbrev K163_6:C:=.cond 5 (.v 4) (.skip) K163_5
abbrev K163_7:C:=.seq (.pl <| .e 5 1 <|
 .x 5 (.bin .eql (.v 2) (.c (.int .i64 7))) <|
 .m 4 5 .done) K163_6
abbrev K163_8:C:=.cond 5 (.v 4) (.skip) K163_7
abbrev K163_9:C:=.seq (.pl <| .e 5 1 <|
 .x 5 (.bin .eql (.v 2) (.c (.int .i64 5))) <|
 .m 4 5 .done) K163_8
abbrev K163_10:C:=.cond 5 (.v 4) (.skip) K163_9
abbrev K163_11:C:=.seq (.seq (.pl <| .e 5 1 <|
 .x 5 (.bin .eql (.v 2) (.c (.int .i64 4))) <|
 .m 4 5 .done) K163_10) K163_4
abbrev K163_12:C:=.cond 5 (.v 3) K163_2 K163_11
abbrev K163_13:C:=.pl <| .e 5 1 <|
 .x 5 (.bin .eql (.v 2) (.c (.int .i64 2))) <|
 .m 3 5 .done
abbrev K163_14:C:=.cond 5 (.v 3) (.skip) K163_13
abbrev K163_15:C:=.block 0 (.seq (.seq (.pl <| .e 5 1 <|
 .x 5 (.bin .eql (.v 2) (.c (.int .i64 1))) <|
 .m 3 5 .done) K163_14) K163_12)
abbrev K163_16:C:=.seq (.seq (.pl <| .e 5 0 <|
 .m 2 0 .done) K163_15) K163_1
abbrev B_impl_operands:C:=.seq (.pl <| .e 5 0 <|
 .x 1 (.mv (.c (.int .i64 0))) .done) K163_16
def R_impl_operands:FIR:=⟨B_impl_operands,5,[(1,none)]⟩
theorem IR_impl_operands:cfun Tryz.prog H_impl_operands Tryz.f163=some R_impl_operands:=by kernel_rfl
theorem EN_impl_operands:ENT Tryz.prog B_impl_operands [(1,none)] 1 5 fn_impl_operands:=fun hargs hw=>enter Tryz.func163 rfl IR_impl_operands hargs hw
def H_impl_reachable:Hint:=⟨[(0,false),(1,false),(4,false),(5,false),(6,false),(8,false),(9,false),(11,false),(17,false),(18,false),(19,false),(44,false),(45,false),(46,false)],[[1,2,5,6,7,11,12,13],[1,2,5,6,7,8,9,10,11,12,13],[1,2,5,6,7,8,9,10]]⟩
abbrev K113_1:C:=.seq (.pl <| .e 14 1 <|
 .m 14 3 <|
 .m 2 14 .done) (.ret)
abbrev K113_2:C:=.pl <| .e 14 1 <|
 .x 14 (.bin .add (.v 13) (.c (.int .i64 1))) <|
 .m 13 14 .done
abbrev K113_3:Pl:=.m 4 17 .done
abbrev K113_4:C:=.pl <| .e 14 4 <|
 .m 14 4 <|
 .m 15 7 <|
 .o (.psl 16 [.int .i64 0] [(0,1,.v 15)]) <|
 .c 17 (.app 8 1 [.int .i64 0] (.o (.v 14)) (.p 1 16)) K113_3
abbrev K113_5:C:=.seq (.pl <| .e 14 3 <|
 .m 14 3 <|
 .m 15 7 <|
 .x 16 (.ia 1 (.v 14) (.v 15)) <|
 .o (.ex none (.store 1 (.v 16) (.c (.bool true)))) .done) K113_4
abbrev K113_6:C:=.cond 14 (.v 18) K113_5 (.skip)
abbrev K113_7:C:=.seq (.pl <| .e 14 5 <|
 .m 14 3 <|
 .m 15 7 <|
 .x 16 (.ia 1 (.v 14) (.v 15)) <|
 .l 17 16 <|
 .x 18 (.un .not (.v 17)) .done) K113_6
abbrev K113_8:C:=.seq (.block 5 (.seq (.pl <| .e 14 2 <|
 .x 14 (.ia 1 (.v 11) (.v 13)) <|
 .l 15 14 <|
 .m 7 15 .done) K113_7)) K113_2
abbrev K113_9:C:=.seq (.cond 14 (.v 14) (.skip) (.exit 4)) K113_8
abbrev K113_10:C:=.seq (.pl <| .e 14 1 <|
 .x 14 (.bin .lss (.v 13) (.v 12)) .done) K113_9
abbrev K113_11:C:=.block 4 (.loop 14 [1,2,5,6,7,8,9,10] K113_10)
abbrev K113_12:C:=.seq (.pl <| .e 14 3 <|
 .m 14 0 <|
 .m 15 6 <|
 .x 16 (.ia 1 (.v 14) (.v 15)) <|
 .l 11 16 <|
 .x 12 (.lenV (.v 11)) <|
 .x 13 (.mv (.c (.int .i64 0))) .done) K113_11
abbrev K113_13:C:=.seq (.pl <| .e 14 5 <|
 .m 14 4 <|
 .m 15 4 <|
 .x 16 (.lenV (.v 15)) <|
 .x 17 (.bin .sub (.v 16) (.c (.int .i64 1))) <|
 .x 18 (.sliceV 1 (.v 14) none (some (.v 17)) none) <|
 .m 4 18 .done) K113_12
abbrev K113_14:C:=.block 3 (.seq (.pl <| .e 14 6 <|
 .m 14 4 <|
 .m 15 4 <|
 .x 16 (.lenV (.v 15)) <|
 .x 17 (.bin .sub (.v 16) (.c (.int .i64 1))) <|
 .x 18 (.ia 1 (.v 14) (.v 17)) <|
 .l 19 18 <|
 .m 6 19 .done) K113_13)
abbrev K113_15:C:=.cond 14 (.v 16) (.skip) (.exit 2)
abbrev K113_16:C:=.seq (.seq (.pl <| .e 14 3 <|
 .m 14 4 <|
 .x 15 (.lenV (.v 14)) <|
 .x 16 (.bin .gtr (.v 15) (.c (.int .i64 0))) .done) K113_15) K113_14
abbrev K113_17:C:=.seq (.block 2 (.loop 14 [1,2,5,6,7,8,9,10,11,12,13] K113_16)) K113_1
abbrev K113_18:C:=.pl <| .e 14 1 <|
 .x 14 (.bin .add (.v 10) (.c (.int .i64 1))) <|
 .m 10 14 .done
abbrev K113_19:C:=.pl <| .e 14 3 <|
 .m 14 3 <|
 .m 15 5 <|
 .x 16 (.ia 1 (.v 14) (.v 15)) <|
 .o (.ex none (.store 1 (.v 16) (.c (.bool true)))) .done
abbrev K113_20:C:=.seq (.block 1 (.seq (.pl <| .e 14 2 <|
 .x 14 (.ia 1 (.v 8) (.v 10)) <|
 .l 15 14 <|
 .m 5 15 .done) K113_19)) K113_18
abbrev K113_21:C:=.seq (.cond 14 (.v 14) (.skip) (.exit 0)) K113_20
abbrev K113_22:C:=.seq (.pl <| .e 14 1 <|
 .x 14 (.bin .lss (.v 10) (.v 9)) .done) K113_21
abbrev K113_23:C:=.block 0 (.loop 14 [1,2,5,6,7,11,12,13] K113_22)
abbrev K113_24:C:=.seq (.seq (.pl <| .e 14 0 <|
 .m 8 1 <|
 .x 9 (.lenV (.v 8)) <|
 .x 10 (.mv (.c (.int .i64 0))) .done) K113_23) K113_17
abbrev K113_25:Pl:=.m 4 15 .done
abbrev K113_26:C:=.seq (.pl <| .e 14 2 <|
 .m 14 1 <|
 .c 15 (.call fn_impl_clone_int [.v 14]) K113_25) K113_24
abbrev K113_27:Pl:=.m 3 16 .done
abbrev K113_28:C:=.seq (.pl <| .e 14 3 <|
 .m 14 0 <|
 .x 15 (.lenV (.v 14)) <|
 .c 16 (.mks 1 1 [.bool false] (.v 15) (.v 15)) K113_27) K113_26
abbrev B_impl_reachable:C:=.seq (.pl <| .e 14 0 <|
 .x 2 (.mv (.c (.slice none 0 0))) .done) K113_28
def R_impl_reachable:FIR:=⟨B_impl_reachable,14,[(2,none)]⟩
theorem IR_impl_reachable:cfun Tryz.prog H_impl_reachable Tryz.f113=some R_impl_reachable:=by kernel_rfl
theorem EN_impl_reachable:ENT Tryz.prog B_impl_reachable [(2,none)] 2 14 fn_impl_reachable:=fun hargs hw=>enter Tryz.func113 rfl IR_impl_reachable hargs hw
def H_impl_translator_follows:Hint:=⟨[(0,false),(1,false),(2,false),(6,false),(7,false),(8,true),(9,false),(10,false),(11,false),(15,false),(16,false),(17,false),(34,false)],[[3,4,5,6,7,8,12]]⟩
abbrev K96_1:C:=.seq (.pl <| .e 13 0 <|
 .x 3 (.mv (.c (.bool true))) .done) (.ret)
abbrev K96_2:C:=.pl <| .e 13 1 <|
 .x 13 (.bin .add (.v 11) (.c (.int .i64 1))) <|
 .m 11 13 .done
abbrev K96_3:C:=.seq (.pl <| .e 13 0 <|
 .x 3 (.mv (.c (.bool false))) .done) (.ret)
abbrev K96_4:C:=.cond 13 (.v 15) K96_3 (.skip)
abbrev K96_5:C:=.seq (.pl <| .e 13 3 <|
 .m 13 6 <|
 .m 14 8 <|
 .x 15 (.eqb true (.v 13) (.v 14)) .done) K96_4
abbrev K96_6:Pl:=.m 8 19 .done
abbrev K96_7:C:=.pl <| .e 13 7 <|
 .m 13 0 <|
 .a 14 5 <|
 .g 15 14 5 2 <|
 .x 16 (.ia 3 (.v 15) (.c (.int .i64 0))) <|
 .o (.ld (some 17) (.v 16) (some 3)) <|
 .m 18 2 <|
 .c 19 (.call fn_impl_translator_holds [.v 13,.v 17,.v 18]) K96_6
abbrev K96_8:Pl:=.n 20 (.px (some 28) (.mv (.v 27))) <|
 .y 28 (.px (some 29) (.mv (.v 7))) <|
 .n 20 (.px (some 30) (.pick (.v 28) (.v 29) (.c (.bool false)))) <|
 .x 31 (.pick (.v 20) (.c (.bool true)) (.v 30)) <|
 .m 8 31 .done
abbrev K96_9:Pl:=.m 20 19 <|
 .n 20 (.px (some 21) (.mv (.v 0))) <|
 .n 20 (.als 22 none 5) <|
 .n 20 (.pget (some 23) (some 22) 5 2 none) <|
 .n 20 (.px (some 24) (.ia 3 (.v 23) (.c (.int .i64 0)))) <|
 .n 20 (.ld (some 25) (.v 24) (some 3)) <|
 .n 20 (.px (some 26) (.mv (.v 1))) <|
 .st (.act (some (.v 20,false)) (.ex (some 27) (.call fn_impl_translator_holds [.v 21,.v 25,.v 26]))) K96_8
abbrev K96_10:C:=.pl <| .e 13 19 <|
 .m 13 0 <|
 .a 14 5 <|
 .g 15 14 5 2 <|
 .x 16 (.ia 3 (.v 15) (.c (.int .i64 1))) <|
 .o (.ld (some 17) (.v 16) (some 3)) <|
 .m 18 1 <|
 .c 19 (.call fn_impl_translator_holds [.v 13,.v 17,.v 18]) K96_9
abbrev K96_11:Pl:=.y 20 (.px (some 28) (.mv (.v 27))) <|
 .n 28 (.px (some 29) (.mv (.v 7))) <|
 .y 20 (.px (some 30) (.pick (.v 28) (.c (.bool true)) (.v 29))) <|
 .x 31 (.pick (.v 20) (.v 30) (.c (.bool false))) <|
 .m 8 31 .done
abbrev K96_12:Pl:=.m 20 19 <|
 .y 20 (.px (some 21) (.mv (.v 0))) <|
 .y 20 (.als 22 none 5) <|
 .y 20 (.pget (some 23) (some 22) 5 2 none) <|
 .y 20 (.px (some 24) (.ia 3 (.v 23) (.c (.int .i64 0)))) <|
 .y 20 (.ld (some 25) (.v 24) (some 3)) <|
 .y 20 (.px (some 26) (.mv (.v 1))) <|
 .st (.act (some (.v 20,true)) (.ex (some 27) (.call fn_impl_translator_holds [.v 21,.v 25,.v 26]))) K96_11
abbrev K96_13:C:=.pl <| .e 13 19 <|
 .m 13 0 <|
 .a 14 5 <|
 .g 15 14 5 2 <|
 .x 16 (.ia 3 (.v 15) (.c (.int .i64 1))) <|
 .o (.ld (some 17) (.v 16) (some 3)) <|
 .m 18 1 <|
 .c 19 (.call fn_impl_translator_holds [.v 13,.v 17,.v 18]) K96_12
abbrev K96_14:C:=.cond 13 (.v 14) K96_13 (.skip)
abbrev K96_15:C:=.seq (.pl <| .e 13 2 <|
 .x 13 (.bin .eql (.v 12) (.c (.int .i64 8))) <|
 .m 14 13 .done) K96_14
abbrev K96_16:C:=.cond 13 (.v 14) K96_10 K96_15
abbrev K96_17:C:=.seq (.pl <| .e 13 2 <|
 .x 13 (.bin .eql (.v 12) (.c (.int .i64 7))) <|
 .m 14 13 .done) K96_16
abbrev K96_18:C:=.cond 13 (.v 14) K96_7 K96_17
abbrev K96_19:C:=.block 2 (.seq (.pl <| .e 13 2 <|
 .x 13 (.bin .eql (.v 12) (.c (.int .i64 6))) <|
 .m 14 13 .done) K96_18)
abbrev K96_20:C:=.seq (.seq (.pl <| .e 13 1 <|
 .a 13 5 <|
 .g 12 13 5 0 .done) K96_19) K96_5
abbrev K96_21:C:=.seq (.pl <| .e 13 1 <|
 .m 13 6 <|
 .m 8 13 .done) K96_20
abbrev K96_22:C:=.seq (.pl <| .e 13 10 <|
 .m 13 1 <|
 .m 14 4 <|
 .x 15 (.bin .shr (.v 13) (.v 14)) <|
 .x 16 (.bin .and (.v 15) (.c (.int .i64 1))) <|
 .x 17 (.bin .eql (.v 16) (.c (.int .i64 1))) <|
 .m 18 2 <|
 .m 19 4 <|
 .x 20 (.bin .shr (.v 18) (.v 19)) <|
 .x 21 (.bin .and (.v 20) (.c (.int .i64 1))) <|
 .x 22 (.bin .eql (.v 21) (.c (.int .i64 1))) <|
 .m 6 17 <|
 .m 7 22 .done) K96_21
abbrev K96_23:C:=.seq (.block 1 (.seq (.pl <| .e 13 3 <|
 .m 13 11 <|
 .x 14 (.ia 3 (.v 9) (.v 11)) <|
 .o (.ld (some 15) (.v 14) (some 3)) <|
 .o (.pnew 5 (.c (.agg #[.int .i64 0,.int .i64 0,.slice none 0 0])) []) <|
 .m 4 13 <|
 .o (.pset none 5 0 3 (.v 15)) .done) K96_22)) K96_2
abbrev K96_24:C:=.seq (.cond 13 (.v 13) (.skip) (.exit 0)) K96_23
abbrev K96_25:C:=.seq (.pl <| .e 13 1 <|
 .x 13 (.bin .lss (.v 11) (.v 10)) .done) K96_24
abbrev K96_26:C:=.block 0 (.loop 13 [3,4,5,6,7,8,12] K96_25)
abbrev K96_27:C:=.seq (.seq (.pl <| .e 13 3 <|
 .m 13 0 <|
 .x 14 (.nilc (.v 13)) <|
 .x 15 (.fa 0 (.v 14)) <|
 .l 9 15 <|
 .x 10 (.lenV (.v 9)) <|
 .x 11 (.mv (.c (.int .i64 0))) .done) K96_26) K96_1
abbrev B_impl_translator_follows:C:=.seq (.pl <| .e 13 0 <|
 .x 3 (.mv (.c (.bool false))) .done) K96_27
def R_impl_translator_follows:FIR:=⟨B_impl_translator_follows,13,[(3,none)]⟩
theorem IR_impl_translator_follows:cfun Tryz.prog H_impl_translator_follows Tryz.f96=some R_impl_translator_follows:=by kernel_rfl
theorem EN_impl_translator_follows:ENT Tryz.prog B_impl_translator_follows [(3,none)] 3 13 fn_impl_translator_follows:=fun hargs hw=>enter Tryz.func96 rfl IR_impl_translator_follows hargs hw
def H_impl_translator_fulfils:Hint:=⟨[(0,false),(1,false),(2,false),(6,false),(7,false)],[]⟩
abbrev K41_1:Pl:=.x 24 (.pick (.v 10) (.c (.bool true)) (.v 23)) <|
 .m 3 24 .done
abbrev K41_2:C:=.seq (.pl <| .e 5 20 <|
 .m 5 1 <|
 .m 6 4 <|
 .x 7 (.bin .shr (.v 5) (.v 6)) <|
 .x 8 (.bin .and (.v 7) (.c (.int .i64 1))) <|
 .x 9 (.bin .eql (.v 8) (.c (.int .i64 0))) <|
 .m 10 9 <|
 .n 10 (.px (some 11) (.mv (.v 0))) <|
 .n 10 (.px (some 12) (.mv (.v 0))) <|
 .n 10 (.px (some 13) (.nilc (.v 12))) <|
 .n 10 (.px (some 14) (.fa 0 (.v 13))) <|
 .n 10 (.ld (some 15) (.v 14) none) <|
 .n 10 (.px (some 16) (.mv (.v 4))) <|
 .n 10 (.px (some 17) (.ia 3 (.v 15) (.v 16))) <|
 .n 10 (.px (some 18) (.fa 2 (.v 17))) <|
 .n 10 (.ld (some 19) (.v 18) none) <|
 .n 10 (.px (some 20) (.ia 3 (.v 19) (.c (.int .i64 1)))) <|
 .n 10 (.ld (some 21) (.v 20) (some 3)) <|
 .n 10 (.px (some 22) (.mv (.v 1))) <|
 .st (.act (some (.v 10,false)) (.ex (some 23) (.call fn_impl_translator_holds [.v 11,.v 21,.v 22]))) K41_1) (.ret)
abbrev K41_3:C:=.seq (.pl <| .e 5 7 <|
 .m 5 0 <|
 .x 6 (.nilc (.v 5)) <|
 .x 7 (.fa 1 (.v 6)) <|
 .l 8 7 <|
 .m 9 2 <|
 .x 10 (.ia 1 (.v 8) (.v 9)) <|
 .l 11 10 <|
 .m 4 11 .done) K41_2
abbrev B_impl_translator_fulfils:C:=.seq (.pl <| .e 5 0 <|
 .x 3 (.mv (.c (.bool false))) .done) K41_3
def R_impl_translator_fulfils:FIR:=⟨B_impl_translator_fulfils,5,[(3,none)]⟩
theorem IR_impl_translator_fulfils:cfun Tryz.prog H_impl_translator_fulfils Tryz.f41=some R_impl_translator_fulfils:=by kernel_rfl
theorem EN_impl_translator_fulfils:ENT Tryz.prog B_impl_translator_fulfils [(3,none)] 3 5 fn_impl_translator_fulfils:=fun hargs hw=>enter Tryz.func41 rfl IR_impl_translator_fulfils hargs hw
def H_impl_translator_holds:Hint:=⟨[(0,false),(1,false),(2,false),(4,true),(6,false),(7,false),(22,false)],[]⟩
abbrev K39_1:C:=.seq (.pl <| .e 7 0 <|
 .x 4 (.mv (.c (.bool true))) .done) (.ret)
abbrev K39_2:Pl:=.x 14 (.un .not (.v 13)) <|
 .m 4 14 .done
abbrev K39_3:C:=.seq (.pl <| .e 7 8 <|
 .m 7 0 <|
 .a 8 3 <|
 .g 9 8 3 2 <|
 .x 10 (.ia 3 (.v 9) (.c (.int .i64 0))) <|
 .o (.ld (some 11) (.v 10) (some 3)) <|
 .m 12 2 <|
 .c 13 (.call fn_impl_translator_holds [.v 7,.v 11,.v 12]) K39_2) (.ret)
abbrev K39_4:Pl:=.x 22 (.pick (.v 14) (.v 21) (.c (.bool false))) <|
 .m 4 22 .done
abbrev K39_5:Pl:=.m 14 13 <|
 .y 14 (.px (some 15) (.mv (.v 0))) <|
 .y 14 (.als 16 none 3) <|
 .y 14 (.pget (some 17) (some 16) 3 2 none) <|
 .y 14 (.px (some 18) (.ia 3 (.v 17) (.c (.int .i64 1)))) <|
 .y 14 (.ld (some 19) (.v 18) (some 3)) <|
 .y 14 (.px (some 20) (.mv (.v 2))) <|
 .st (.act (some (.v 14,true)) (.ex (some 21) (.call fn_impl_translator_holds [.v 15,.v 19,.v 20]))) K39_4
abbrev K39_6:C:=.seq (.pl <| .e 7 16 <|
 .m 7 0 <|
 .a 8 3 <|
 .g 9 8 3 2 <|
 .x 10 (.ia 3 (.v 9) (.c (.int .i64 0))) <|
 .o (.ld (some 11) (.v 10) (some 3)) <|
 .m 12 2 <|
 .c 13 (.call fn_impl_translator_holds [.v 7,.v 11,.v 12]) K39_5) (.ret)
abbrev K39_7:Pl:=.x 22 (.pick (.v 14) (.c (.bool true)) (.v 21)) <|
 .m 4 22 .done
abbrev K39_8:Pl:=.m 14 13 <|
 .n 14 (.px (some 15) (.mv (.v 0))) <|
 .n 14 (.als 16 none 3) <|
 .n 14 (.pget (some 17) (some 16) 3 2 none) <|
 .n 14 (.px (some 18) (.ia 3 (.v 17) (.c (.int .i64 1)))) <|
 .n 14 (.ld (some 19) (.v 18) (some 3)) <|
 .n 14 (.px (some 20) (.mv (.v 2))) <|
 .st (.act (some (.v 14,false)) (.ex (some 21) (.call fn_impl_translator_holds [.v 15,.v 19,.v 20]))) K39_7
abbrev K39_9:C:=.seq (.pl <| .e 7 16 <|
 .m 7 0 <|
 .a 8 3 <|
 .g 9 8 3 2 <|
 .x 10 (.ia 3 (.v 9) (.c (.int .i64 0))) <|
 .o (.ld (some 11) (.v 10) (some 3)) <|
 .m 12 2 <|
 .c 13 (.call fn_impl_translator_holds [.v 7,.v 11,.v 12]) K39_8) (.ret)
abbrev K39_10:C:=.cond 7 (.v 8) K39_9 (.skip)
abbrev K39_11:C:=.seq (.pl <| .e 7 2 <|
 .x 7 (.bin .eql (.v 6) (.c (.int .i64 5))) <|
 .m 8 7 .done) K39_10
abbrev K39_12:C:=.cond 7 (.v 8) K39_6 K39_11
abbrev K39_13:C:=.seq (.pl <| .e 7 2 <|
 .x 7 (.bin .eql (.v 6) (.c (.int .i64 4))) <|
 .m 8 7 .done) K39_12
abbrev K39_14:C:=.cond 7 (.v 8) K39_3 K39_13
abbrev K39_15:C:=.block 0 (.seq (.pl <| .e 7 2 <|
 .x 7 (.bin .eql (.v 6) (.c (.int .i64 3))) <|
 .m 8 7 .done) K39_14)
abbrev K39_16:C:=.seq (.seq (.pl <| .e 7 1 <|
 .a 7 3 <|
 .g 6 7 3 0 .done) K39_15) K39_1
abbrev K39_17:C:=.seq (.pl <| .e 7 5 <|
 .m 7 2 <|
 .m 8 5 <|
 .x 9 (.bin .shr (.v 7) (.v 8)) <|
 .x 10 (.bin .and (.v 9) (.c (.int .i64 1))) <|
 .x 11 (.bin .eql (.v 10) (.c (.int .i64 1))) <|
 .m 4 11 .done) (.ret)
abbrev K39_18:C:=.cond 7 (.v 8) K39_17 (.skip)
abbrev K39_19:C:=.seq (.pl <| .e 7 2 <|
 .m 7 5 <|
 .x 8 (.bin .geq (.v 7) (.c (.int .i64 0))) .done) K39_18
abbrev K39_20:Pl:=.m 5 12 .done
abbrev K39_21:C:=.seq (.seq (.pl <| .e 7 6 <|
 .m 7 0 <|
 .x 8 (.nilc (.v 7)) <|
 .x 9 (.fa 0 (.v 8)) <|
 .l 10 9 <|
 .o (.pget (some 11) none 3 0 (some 3)) <|
 .c 12 (.call fn_impl_formulaAt [.v 10,.v 11]) K39_20) K39_19) K39_16
abbrev B_impl_translator_holds:C:=.seq (.pl <| .e 7 0 <|
 .o (.pnew 3 (.v 1) []) <|
 .x 4 (.mv (.c (.bool false))) .done) K39_21
def R_impl_translator_holds:FIR:=⟨B_impl_translator_holds,7,[(4,none)]⟩
theorem IR_impl_translator_holds:cfun Tryz.prog H_impl_translator_holds Tryz.f39=some R_impl_translator_holds:=by kernel_rfl
theorem EN_impl_translator_holds:ENT Tryz.prog B_impl_translator_holds [(4,none)] 3 7 fn_impl_translator_holds:=fun hargs hw=>enter Tryz.func39 rfl IR_impl_translator_holds hargs hw
def H_impl_translator_moves:Hint:=⟨[(0,false),(1,false),(3,true),(4,false),(5,false),(6,false),(7,false),(8,false),(9,true),(10,false),(11,false),(12,false),(18,false),(19,false),(20,false),(67,false),(68,false)],[[1,3,7,8,9,10,11,15,16],[1,3,7,8,9,11,12,13,14]]⟩
abbrev K43_1:C:=.seq (.pl <| .e 17 1 <|
 .m 17 10 <|
 .m 3 17 .done) (.ret)
abbrev K43_2:C:=.pl <| .e 17 1 <|
 .x 17 (.bin .add (.v 16) (.c (.int .i64 1))) <|
 .m 16 17 .done
abbrev K43_3:Pl:=.m 10 25 .done
abbrev K43_4:C:=.pl <| .e 17 9 <|
 .m 17 10 <|
 .m 18 4 <|
 .m 19 5 <|
 .m 20 11 <|
 .m 21 6 <|
 .x 22 (.build [.int .i64 0,.int .i64 0] [(0,1,.v 20),(1,1,.v 21)]) <|
 .x 23 (.build [.int .i64 0,.int .i64 0,.int .i64 0,.int .i64 0] [(0,1,.v 18),(1,1,.v 19),(2,2,.v 22)]) <|
 .o (.psl 24 [.int .i64 0,.int .i64 0,.int .i64 0,.int .i64 0] [(0,4,.v 23)]) <|
 .c 25 (.app 32 4 [.int .i64 0,.int .i64 0,.int .i64 0,.int .i64 0] (.o (.v 17)) (.p 1 24)) K43_3
abbrev K43_5:C:=.cond 17 (.v 21) K43_4 (.skip)
abbrev K43_6:C:=.seq (.pl <| .e 17 5 <|
 .m 17 0 <|
 .a 18 2 <|
 .g 19 18 2 0 <|
 .m 20 11 <|
 .c 21 (.call fn_impl_translator_follows [.v 17,.v 19,.v 20]) .done) K43_5
abbrev K43_7:C:=.seq (.block 3 (.seq (.pl <| .e 17 1 <|
 .m 17 16 <|
 .m 11 17 .done) K43_6)) K43_2
abbrev K43_8:C:=.seq (.cond 17 (.v 17) (.skip) (.exit 2)) K43_7
abbrev K43_9:C:=.seq (.pl <| .e 17 1 <|
 .x 17 (.bin .lss (.v 16) (.v 15)) .done) K43_8
abbrev K43_10:C:=.block 2 (.loop 17 [1,3,7,8,9,11,12,13,14] K43_9)
abbrev K43_11:C:=.seq (.seq (.pl <| .e 17 5 <|
 .m 17 0 <|
 .x 18 (.nilc (.v 17)) <|
 .x 19 (.fa 0 (.v 18)) <|
 .l 20 19 <|
 .x 21 (.lenV (.v 20)) <|
 .x 15 (.bin .shl (.c (.int .i64 1)) (.v 21)) <|
 .x 16 (.mv (.c (.int .i64 0))) .done) K43_10) K43_1
abbrev K43_12:C:=.seq (.pl <| .e 17 0 <|
 .x 10 (.mv (.c (.slice none 0 0))) .done) K43_11
abbrev K43_13:C:=.pl <| .e 17 4 <|
 .m 17 6 <|
 .x 18 (.bin .add (.v 17) (.c (.int .i64 1))) <|
 .m 19 9 <|
 .x 20 (.bin .rem (.v 18) (.v 19)) <|
 .m 6 20 .done
abbrev K43_14:C:=.cond 17 (.v 25) K43_13 (.skip)
abbrev K43_15:Pl:=.x 25 (.pick (.v 19) (.v 24) (.c (.bool false))) .done
abbrev K43_16:C:=.seq (.pl <| .e 17 9 <|
 .m 17 9 <|
 .x 18 (.bin .gtr (.v 17) (.c (.int .i64 0))) <|
 .m 19 18 <|
 .y 19 (.px (some 20) (.mv (.v 0))) <|
 .y 19 (.als 21 none 2) <|
 .y 19 (.pget (some 22) (some 21) 2 0 none) <|
 .y 19 (.px (some 23) (.mv (.v 6))) <|
 .st (.act (some (.v 19,true)) (.ex (some 24) (.call fn_impl_translator_fulfils [.v 20,.v 22,.v 23]))) K43_15) K43_14
abbrev K43_17:C:=.seq (.seq (.pl <| .e 17 5 <|
 .m 17 0 <|
 .x 18 (.nilc (.v 17)) <|
 .x 19 (.fa 1 (.v 18)) <|
 .l 20 19 <|
 .x 21 (.lenV (.v 20)) <|
 .m 9 21 .done) K43_16) K43_12
abbrev K43_18:C:=.pl <| .e 17 1 <|
 .x 17 (.bin .add (.v 14) (.c (.int .i64 1))) <|
 .m 14 17 .done
abbrev K43_19:C:=.pl <| .e 17 10 <|
 .m 17 5 <|
 .a 18 2 <|
 .g 19 18 2 0 <|
 .m 20 7 <|
 .x 21 (.bin .shr (.v 19) (.v 20)) <|
 .x 22 (.bin .and (.v 21) (.c (.int .i64 1))) <|
 .a 23 8 <|
 .g 24 23 8 1 <|
 .x 25 (.bin .shl (.v 22) (.v 24)) <|
 .x 26 (.bin .or (.v 17) (.v 25)) <|
 .m 5 26 .done
abbrev K43_20:C:=.seq (.pl <| .e 17 5 <|
 .m 17 4 <|
 .a 18 8 <|
 .g 19 18 8 1 <|
 .x 20 (.bin .shl (.c (.int .i64 1)) (.v 19)) <|
 .x 21 (.bin .or (.v 17) (.v 20)) <|
 .m 4 21 .done) K43_19
abbrev K43_21:C:=.cond 17 (.v 19) K43_20 (.skip)
abbrev K43_22:C:=.seq (.pl <| .e 17 3 <|
 .a 17 8 <|
 .g 18 17 8 0 <|
 .x 19 (.bin .eql (.v 18) (.c (.int .i64 2))) .done) K43_21
abbrev K43_23:C:=.seq (.block 1 (.seq (.pl <| .e 17 3 <|
 .m 17 14 <|
 .x 18 (.ia 3 (.v 12) (.v 14)) <|
 .o (.ld (some 19) (.v 18) (some 3)) <|
 .o (.pnew 8 (.c (.agg #[.int .i64 0,.int .i64 0,.slice none 0 0])) []) <|
 .m 7 17 <|
 .o (.pset none 8 0 3 (.v 19)) .done) K43_22)) K43_18
abbrev K43_24:C:=.seq (.cond 17 (.v 17) (.skip) (.exit 0)) K43_23
abbrev K43_25:C:=.seq (.pl <| .e 17 1 <|
 .x 17 (.bin .lss (.v 14) (.v 13)) .done) K43_24
abbrev K43_26:C:=.block 0 (.loop 17 [1,3,7,8,9,10,11,15,16] K43_25)
abbrev K43_27:C:=.seq (.seq (.pl <| .e 17 3 <|
 .m 17 0 <|
 .x 18 (.nilc (.v 17)) <|
 .x 19 (.fa 0 (.v 18)) <|
 .l 12 19 <|
 .x 13 (.lenV (.v 12)) <|
 .x 14 (.mv (.c (.int .i64 0))) .done) K43_26) K43_17
abbrev K43_28:C:=.seq (.pl <| .e 17 2 <|
 .a 17 2 <|
 .g 18 17 2 1 <|
 .x 4 (.mv (.c (.int .i64 0))) <|
 .x 5 (.mv (.c (.int .i64 0))) <|
 .m 6 18 .done) K43_27
abbrev B_impl_translator_moves:C:=.seq (.pl <| .e 17 0 <|
 .o (.pnew 2 (.v 1) []) <|
 .x 3 (.mv (.c (.slice none 0 0))) .done) K43_28
def R_impl_translator_moves:FIR:=⟨B_impl_translator_moves,17,[(3,none)]⟩
theorem IR_impl_translator_moves:cfun Tryz.prog H_impl_translator_moves Tryz.f43=some R_impl_translator_moves:=by kernel_rfl
theorem EN_impl_translator_moves:ENT Tryz.prog B_impl_translator_moves [(3,none)] 2 17 fn_impl_translator_moves:=fun hargs hw=>enter Tryz.func43 rfl IR_impl_translator_moves hargs hw
def H_slices_Clip_S_bool_bool:Hint:=⟨[(0,false),(2,false)],[]⟩
abbrev K169_1:C:=.seq (.pl <| .e 2 6 <|
 .m 2 0 <|
 .m 3 0 <|
 .x 4 (.lenV (.v 3)) <|
 .m 5 0 <|
 .x 6 (.lenV (.v 5)) <|
 .x 7 (.sliceV 1 (.v 2) none (some (.v 4)) (some (.v 6))) <|
 .m 1 7 .done) (.ret)
abbrev B_slices_Clip_S_bool_bool:C:=.seq (.pl <| .e 2 0 <|
 .x 1 (.mv (.c (.slice none 0 0))) .done) K169_1
def R_slices_Clip_S_bool_bool:FIR:=⟨B_slices_Clip_S_bool_bool,2,[(1,none)]⟩
theorem IR_slices_Clip_S_bool_bool:cfun Tryz.prog H_slices_Clip_S_bool_bool Tryz.f169=some R_slices_Clip_S_bool_bool:=by kernel_rfl
theorem EN_slices_Clip_S_bool_bool:ENT Tryz.prog B_slices_Clip_S_bool_bool [(1,none)] 1 2 fn_slices_Clip_S_bool_bool:=fun hargs hw=>enter Tryz.func169 rfl IR_slices_Clip_S_bool_bool hargs hw
def H_slices_Clip_S_impl_Formula_impl_Formula:Hint:=⟨[(0,false),(2,false)],[]⟩
abbrev K140_1:C:=.seq (.pl <| .e 2 6 <|
 .m 2 0 <|
 .m 3 0 <|
 .x 4 (.lenV (.v 3)) <|
 .m 5 0 <|
 .x 6 (.lenV (.v 5)) <|
 .x 7 (.sliceV 3 (.v 2) none (some (.v 4)) (some (.v 6))) <|
 .m 1 7 .done) (.ret)
abbrev B_slices_Clip_S_impl_Formula_impl_Formula:C:=.seq (.pl <| .e 2 0 <|
 .x 1 (.mv (.c (.slice none 0 0))) .done) K140_1
def R_slices_Clip_S_impl_Formula_impl_Formula:FIR:=⟨B_slices_Clip_S_impl_Formula_impl_Formula,2,[(1,none)]⟩
theorem IR_slices_Clip_S_impl_Formula_impl_Formula:cfun Tryz.prog H_slices_Clip_S_impl_Formula_impl_Formula Tryz.f140=some R_slices_Clip_S_impl_Formula_impl_Formula:=by kernel_rfl
theorem EN_slices_Clip_S_impl_Formula_impl_Formula:ENT Tryz.prog B_slices_Clip_S_impl_Formula_impl_Formula [(1,none)] 1 2 fn_slices_Clip_S_impl_Formula_impl_Formula:=fun hargs hw=>enter Tryz.func140 rfl IR_slices_Clip_S_impl_Formula_impl_Formula hargs hw
def H_slices_Clip_S_impl_Transition_impl_Transition:Hint:=⟨[(0,false),(2,false)],[]⟩
abbrev K171_1:C:=.seq (.pl <| .e 2 6 <|
 .m 2 0 <|
 .m 3 0 <|
 .x 4 (.lenV (.v 3)) <|
 .m 5 0 <|
 .x 6 (.lenV (.v 5)) <|
 .x 7 (.sliceV 4 (.v 2) none (some (.v 4)) (some (.v 6))) <|
 .m 1 7 .done) (.ret)
abbrev B_slices_Clip_S_impl_Transition_impl_Transition:C:=.seq (.pl <| .e 2 0 <|
 .x 1 (.mv (.c (.slice none 0 0))) .done) K171_1
def R_slices_Clip_S_impl_Transition_impl_Transition:FIR:=⟨B_slices_Clip_S_impl_Transition_impl_Transition,2,[(1,none)]⟩
theorem IR_slices_Clip_S_impl_Transition_impl_Transition:cfun Tryz.prog H_slices_Clip_S_impl_Transition_impl_Transition Tryz.f171=some R_slices_Clip_S_impl_Transition_impl_Transition:=by kernel_rfl
theorem EN_slices_Clip_S_impl_Transition_impl_Transition:ENT Tryz.prog B_slices_Clip_S_impl_Transition_impl_Transition [(1,none)] 1 2 fn_slices_Clip_S_impl_Transition_impl_Transition:=fun hargs hw=>enter Tryz.func171 rfl IR_slices_Clip_S_impl_Transition_impl_Transition hargs hw
def H_slices_Clip_S_int_int:Hint:=⟨[(0,false),(2,false)],[]⟩
abbrev K121_1:C:=.seq (.pl <| .e 2 6 <|
 .m 2 0 <|
 .m 3 0 <|
 .x 4 (.lenV (.v 3)) <|
 .m 5 0 <|
 .x 6 (.lenV (.v 5)) <|
 .x 7 (.sliceV 1 (.v 2) none (some (.v 4)) (some (.v 6))) <|
 .m 1 7 .done) (.ret)
abbrev B_slices_Clip_S_int_int:C:=.seq (.pl <| .e 2 0 <|
 .x 1 (.mv (.c (.slice none 0 0))) .done) K121_1
def R_slices_Clip_S_int_int:FIR:=⟨B_slices_Clip_S_int_int,2,[(1,none)]⟩
theorem IR_slices_Clip_S_int_int:cfun Tryz.prog H_slices_Clip_S_int_int Tryz.f121=some R_slices_Clip_S_int_int:=by kernel_rfl
theorem EN_slices_Clip_S_int_int:ENT Tryz.prog B_slices_Clip_S_int_int [(1,none)] 1 2 fn_slices_Clip_S_int_int:=fun hargs hw=>enter Tryz.func121 rfl IR_slices_Clip_S_int_int hargs hw
def H_slices_Clone_S_bool_bool:Hint:=⟨[(0,false),(2,false)],[]⟩
abbrev K170_1:Pl:=.m 1 4 .done
abbrev K170_2:C:=.seq (.pl <| .e 2 3 <|
 .o (.psl 2 [] []) <|
 .m 3 0 <|
 .c 4 (.app 1 1 [.bool false] (.p 0 2) (.o (.v 3))) K170_1) (.ret)
abbrev K170_3:C:=.seq (.pl <| .e 2 0 <|
 .x 1 (.mv (.c (.slice none 0 0))) .done) (.ret)
abbrev K170_4:C:=.cond 2 (.v 3) K170_3 (.skip)
abbrev K170_5:C:=.seq (.seq (.pl <| .e 2 2 <|
 .m 2 0 <|
 .x 3 (.isNil false (.v 2)) .done) K170_4) K170_2
abbrev B_slices_Clone_S_bool_bool:C:=.seq (.pl <| .e 2 0 <|
 .x 1 (.mv (.c (.slice none 0 0))) .done) K170_5
def R_slices_Clone_S_bool_bool:FIR:=⟨B_slices_Clone_S_bool_bool,2,[(1,none)]⟩
theorem IR_slices_Clone_S_bool_bool:cfun Tryz.prog H_slices_Clone_S_bool_bool Tryz.f170=some R_slices_Clone_S_bool_bool:=by kernel_rfl
theorem EN_slices_Clone_S_bool_bool:ENT Tryz.prog B_slices_Clone_S_bool_bool [(1,none)] 1 2 fn_slices_Clone_S_bool_bool:=fun hargs hw=>enter Tryz.func170 rfl IR_slices_Clone_S_bool_bool hargs hw
def H_slices_Clone_S_impl_Formula_impl_Formula:Hint:=⟨[(0,false),(2,false)],[]⟩
abbrev K166_1:Pl:=.m 1 4 .done
abbrev K166_2:C:=.seq (.pl <| .e 2 3 <|
 .o (.psl 2 [] []) <|
 .m 3 0 <|
 .c 4 (.app 40 3 [.int .i64 0,.int .i64 0,.slice none 0 0] (.p 0 2) (.o (.v 3))) K166_1) (.ret)
abbrev K166_3:C:=.seq (.pl <| .e 2 0 <|
 .x 1 (.mv (.c (.slice none 0 0))) .done) (.ret)
abbrev K166_4:C:=.cond 2 (.v 3) K166_3 (.skip)
abbrev K166_5:C:=.seq (.seq (.pl <| .e 2 2 <|
 .m 2 0 <|
 .x 3 (.isNil false (.v 2)) .done) K166_4) K166_2
abbrev B_slices_Clone_S_impl_Formula_impl_Formula:C:=.seq (.pl <| .e 2 0 <|
 .x 1 (.mv (.c (.slice none 0 0))) .done) K166_5
def R_slices_Clone_S_impl_Formula_impl_Formula:FIR:=⟨B_slices_Clone_S_impl_Formula_impl_Formula,2,[(1,none)]⟩
theorem IR_slices_Clone_S_impl_Formula_impl_Formula:cfun Tryz.prog H_slices_Clone_S_impl_Formula_impl_Formula Tryz.f166=some R_slices_Clone_S_impl_Formula_impl_Formula:=by kernel_rfl
theorem EN_slices_Clone_S_impl_Formula_impl_Formula:ENT Tryz.prog B_slices_Clone_S_impl_Formula_impl_Formula [(1,none)] 1 2 fn_slices_Clone_S_impl_Formula_impl_Formula:=fun hargs hw=>enter Tryz.func166 rfl IR_slices_Clone_S_impl_Formula_impl_Formula hargs hw
def H_slices_Clone_S_impl_Transition_impl_Transition:Hint:=⟨[(0,false),(2,false)],[]⟩
abbrev K172_1:Pl:=.m 1 4 .done
abbrev K172_2:C:=.seq (.pl <| .e 2 3 <|
 .o (.psl 2 [] []) <|
 .m 3 0 <|
 .c 4 (.app 32 4 [.int .i64 0,.int .i64 0,.int .i64 0,.int .i64 0] (.p 0 2) (.o (.v 3))) K172_1) (.ret)
abbrev K172_3:C:=.seq (.pl <| .e 2 0 <|
 .x 1 (.mv (.c (.slice none 0 0))) .done) (.ret)
abbrev K172_4:C:=.cond 2 (.v 3) K172_3 (.skip)
abbrev K172_5:C:=.seq (.seq (.pl <| .e 2 2 <|
 .m 2 0 <|
 .x 3 (.isNil false (.v 2)) .done) K172_4) K172_2
abbrev B_slices_Clone_S_impl_Transition_impl_Transition:C:=.seq (.pl <| .e 2 0 <|
 .x 1 (.mv (.c (.slice none 0 0))) .done) K172_5
def R_slices_Clone_S_impl_Transition_impl_Transition:FIR:=⟨B_slices_Clone_S_impl_Transition_impl_Transition,2,[(1,none)]⟩
theorem IR_slices_Clone_S_impl_Transition_impl_Transition:cfun Tryz.prog H_slices_Clone_S_impl_Transition_impl_Transition Tryz.f172=some R_slices_Clone_S_impl_Transition_impl_Transition:=by kernel_rfl
theorem EN_slices_Clone_S_impl_Transition_impl_Transition:ENT Tryz.prog B_slices_Clone_S_impl_Transition_impl_Transition [(1,none)] 1 2 fn_slices_Clone_S_impl_Transition_impl_Transition:=fun hargs hw=>enter Tryz.func172 rfl IR_slices_Clone_S_impl_Transition_impl_Transition hargs hw
def H_slices_Clone_S_int_int:Hint:=⟨[(0,false),(2,false)],[]⟩
abbrev K122_1:Pl:=.m 1 4 .done
abbrev K122_2:C:=.seq (.pl <| .e 2 3 <|
 .o (.psl 2 [] []) <|
 .m 3 0 <|
 .c 4 (.app 8 1 [.int .i64 0] (.p 0 2) (.o (.v 3))) K122_1) (.ret)
abbrev K122_3:C:=.seq (.pl <| .e 2 0 <|
 .x 1 (.mv (.c (.slice none 0 0))) .done) (.ret)
abbrev K122_4:C:=.cond 2 (.v 3) K122_3 (.skip)
abbrev K122_5:C:=.seq (.seq (.pl <| .e 2 2 <|
 .m 2 0 <|
 .x 3 (.isNil false (.v 2)) .done) K122_4) K122_2
abbrev B_slices_Clone_S_int_int:C:=.seq (.pl <| .e 2 0 <|
 .x 1 (.mv (.c (.slice none 0 0))) .done) K122_5
def R_slices_Clone_S_int_int:FIR:=⟨B_slices_Clone_S_int_int,2,[(1,none)]⟩
theorem IR_slices_Clone_S_int_int:cfun Tryz.prog H_slices_Clone_S_int_int Tryz.f122=some R_slices_Clone_S_int_int:=by kernel_rfl
theorem EN_slices_Clone_S_int_int:ENT Tryz.prog B_slices_Clone_S_int_int [(1,none)] 1 2 fn_slices_Clone_S_int_int:=fun hargs hw=>enter Tryz.func122 rfl IR_slices_Clone_S_int_int hargs hw
def H_slices_ContainsFunc_S_impl_Formula_impl_Formula:Hint:=⟨[(0,false),(1,false),(4,false)],[]⟩
abbrev K164_1:Pl:=.x 6 (.bin .geq (.v 5) (.c (.int .i64 0))) <|
 .m 2 6 .done
abbrev K164_2:C:=.seq (.pl <| .e 3 4 <|
 .m 3 0 <|
 .m 4 1 <|
 .c 5 (.call fn_slices_IndexFunc_S_impl_Formula_impl_Formula [.v 3,.v 4]) K164_1) (.ret)
abbrev B_slices_ContainsFunc_S_impl_Formula_impl_Formula:C:=.seq (.pl <| .e 3 0 <|
 .x 2 (.mv (.c (.bool false))) .done) K164_2
def R_slices_ContainsFunc_S_impl_Formula_impl_Formula:FIR:=⟨B_slices_ContainsFunc_S_impl_Formula_impl_Formula,3,[(2,none)]⟩
theorem IR_slices_ContainsFunc_S_impl_Formula_impl_Formula:cfun Tryz.prog H_slices_ContainsFunc_S_impl_Formula_impl_Formula Tryz.f164=some R_slices_ContainsFunc_S_impl_Formula_impl_Formula:=by kernel_rfl
theorem EN_slices_ContainsFunc_S_impl_Formula_impl_Formula:ENT Tryz.prog B_slices_ContainsFunc_S_impl_Formula_impl_Formula [(2,none)] 2 3 fn_slices_ContainsFunc_S_impl_Formula_impl_Formula:=fun hargs hw=>enter Tryz.func164 rfl IR_slices_ContainsFunc_S_impl_Formula_impl_Formula hargs hw
def H_slices_ContainsFunc_S_impl_Transition_impl_Transition:Hint:=⟨[(0,false),(1,false),(4,false)],[]⟩
abbrev K106_1:Pl:=.x 6 (.bin .geq (.v 5) (.c (.int .i64 0))) <|
 .m 2 6 .done
abbrev K106_2:C:=.seq (.pl <| .e 3 4 <|
 .m 3 0 <|
 .m 4 1 <|
 .c 5 (.call fn_slices_IndexFunc_S_impl_Transition_impl_Transition [.v 3,.v 4]) K106_1) (.ret)
abbrev B_slices_ContainsFunc_S_impl_Transition_impl_Transition:C:=.seq (.pl <| .e 3 0 <|
 .x 2 (.mv (.c (.bool false))) .done) K106_2
def R_slices_ContainsFunc_S_impl_Transition_impl_Transition:FIR:=⟨B_slices_ContainsFunc_S_impl_Transition_impl_Transition,3,[(2,none)]⟩
theorem IR_slices_ContainsFunc_S_impl_Transition_impl_Transition:cfun Tryz.prog H_slices_ContainsFunc_S_impl_Transition_impl_Transition Tryz.f106=some R_slices_ContainsFunc_S_impl_Transition_impl_Transition:=by kernel_rfl
theorem EN_slices_ContainsFunc_S_impl_Transition_impl_Transition:ENT Tryz.prog B_slices_ContainsFunc_S_impl_Transition_impl_Transition [(2,none)] 2 3 fn_slices_ContainsFunc_S_impl_Transition_impl_Transition:=fun hargs hw=>enter Tryz.func106 rfl IR_slices_ContainsFunc_S_impl_Transition_impl_Transition hargs hw
def H_slices_Contains_S_int_int:Hint:=⟨[(0,false),(1,false),(4,false)],[]⟩
abbrev K157_1:Pl:=.x 6 (.bin .geq (.v 5) (.c (.int .i64 0))) <|
 .m 2 6 .done
abbrev K157_2:C:=.seq (.pl <| .e 3 4 <|
 .m 3 0 <|
 .m 4 1 <|
 .c 5 (.call fn_slices_Index_S_int_int [.v 3,.v 4]) K157_1) (.ret)
abbrev B_slices_Contains_S_int_int:C:=.seq (.pl <| .e 3 0 <|
 .x 2 (.mv (.c (.bool false))) .done) K157_2
def R_slices_Contains_S_int_int:FIR:=⟨B_slices_Contains_S_int_int,3,[(2,none)]⟩
theorem IR_slices_Contains_S_int_int:cfun Tryz.prog H_slices_Contains_S_int_int Tryz.f157=some R_slices_Contains_S_int_int:=by kernel_rfl
theorem EN_slices_Contains_S_int_int:ENT Tryz.prog B_slices_Contains_S_int_int [(2,none)] 2 3 fn_slices_Contains_S_int_int:=fun hargs hw=>enter Tryz.func157 rfl IR_slices_Contains_S_int_int hargs hw
def H_spec_l7Reach:Hint:=⟨[(0,false),(1,false),(4,false),(5,false),(6,false),(7,false),(8,false),(9,false),(10,false)],[[2,6,7,8],[1,2,5,7,8],[1,2,5,8]]⟩
abbrev K125_1:C:=.seq (.pl <| .e 9 1 <|
 .m 9 4 <|
 .m 2 9 .done) (.ret)
abbrev K125_2:C:=.pl <| .e 9 2 <|
 .m 9 6 <|
 .x 10 (.bin .add (.v 9) (.c (.int .i64 1))) <|
 .m 6 10 .done
abbrev K125_3:C:=.pl <| .e 9 2 <|
 .m 9 7 <|
 .x 10 (.bin .add (.v 9) (.c (.int .i64 1))) <|
 .m 7 10 .done
abbrev K125_4:Pl:=.m 4 12 .done
abbrev K125_5:C:=.pl <| .e 9 4 <|
 .m 9 4 <|
 .m 10 8 <|
 .o (.psl 11 [.int .i64 0] [(0,1,.v 10)]) <|
 .c 12 (.app 8 1 [.int .i64 0] (.o (.v 9)) (.p 1 11)) K125_4
abbrev K125_6:C:=.seq (.pl <| .e 9 3 <|
 .m 9 3 <|
 .m 10 8 <|
 .x 11 (.ia 1 (.v 9) (.v 10)) <|
 .o (.ex none (.store 1 (.v 11) (.c (.bool true)))) .done) K125_5
abbrev K125_7:C:=.cond 9 (.v 13) K125_6 (.skip)
abbrev K125_8:C:=.seq (.pl <| .e 9 5 <|
 .m 9 3 <|
 .m 10 8 <|
 .x 11 (.ia 1 (.v 9) (.v 10)) <|
 .l 12 11 <|
 .x 13 (.un .not (.v 12)) .done) K125_7
abbrev K125_9:C:=.seq (.block 5 (.seq (.pl <| .e 9 10 <|
 .m 9 0 <|
 .m 10 4 <|
 .m 11 6 <|
 .x 12 (.ia 1 (.v 10) (.v 11)) <|
 .l 13 12 <|
 .x 14 (.ia 1 (.v 9) (.v 13)) <|
 .l 15 14 <|
 .m 16 7 <|
 .x 17 (.ia 1 (.v 15) (.v 16)) <|
 .l 18 17 <|
 .m 8 18 .done) K125_8)) K125_3
abbrev K125_10:C:=.cond 9 (.v 18) (.skip) (.exit 4)
abbrev K125_11:C:=.seq (.seq (.pl <| .e 9 10 <|
 .m 9 7 <|
 .m 10 0 <|
 .m 11 4 <|
 .m 12 6 <|
 .x 13 (.ia 1 (.v 11) (.v 12)) <|
 .l 14 13 <|
 .x 15 (.ia 1 (.v 10) (.v 14)) <|
 .l 16 15 <|
 .x 17 (.lenV (.v 16)) <|
 .x 18 (.bin .lss (.v 9) (.v 17)) .done) K125_10) K125_9
abbrev K125_12:C:=.block 4 (.loop 9 [1,2,5,8] K125_11)
abbrev K125_13:C:=.seq (.block 3 (.seq (.pl <| .e 9 0 <|
 .x 7 (.mv (.c (.int .i64 0))) .done) K125_12)) K125_2
abbrev K125_14:C:=.cond 9 (.v 12) (.skip) (.exit 2)
abbrev K125_15:C:=.seq (.seq (.pl <| .e 9 4 <|
 .m 9 6 <|
 .m 10 4 <|
 .x 11 (.lenV (.v 10)) <|
 .x 12 (.bin .lss (.v 9) (.v 11)) .done) K125_14) K125_13
abbrev K125_16:C:=.block 2 (.loop 9 [1,2,5,7,8] K125_15)
abbrev K125_17:C:=.seq (.seq (.pl <| .e 9 0 <|
 .x 6 (.mv (.c (.int .i64 0))) .done) K125_16) K125_1
abbrev K125_18:C:=.pl <| .e 9 2 <|
 .m 9 5 <|
 .x 10 (.bin .add (.v 9) (.c (.int .i64 1))) <|
 .m 5 10 .done
abbrev K125_19:Pl:=.m 4 15 .done
abbrev K125_20:C:=.pl <| .e 9 7 <|
 .m 9 4 <|
 .m 10 1 <|
 .m 11 5 <|
 .x 12 (.ia 1 (.v 10) (.v 11)) <|
 .l 13 12 <|
 .o (.psl 14 [.int .i64 0] [(0,1,.v 13)]) <|
 .c 15 (.app 8 1 [.int .i64 0] (.o (.v 9)) (.p 1 14)) K125_19
abbrev K125_21:C:=.seq (.pl <| .e 9 6 <|
 .m 9 3 <|
 .m 10 1 <|
 .m 11 5 <|
 .x 12 (.ia 1 (.v 10) (.v 11)) <|
 .l 13 12 <|
 .x 14 (.ia 1 (.v 9) (.v 13)) <|
 .o (.ex none (.store 1 (.v 14) (.c (.bool true)))) .done) K125_20
abbrev K125_22:C:=.cond 9 (.v 16) K125_21 (.skip)
abbrev K125_23:C:=.seq (.block 1 (.seq (.pl <| .e 9 8 <|
 .m 9 3 <|
 .m 10 1 <|
 .m 11 5 <|
 .x 12 (.ia 1 (.v 10) (.v 11)) <|
 .l 13 12 <|
 .x 14 (.ia 1 (.v 9) (.v 13)) <|
 .l 15 14 <|
 .x 16 (.un .not (.v 15)) .done) K125_22)) K125_18
abbrev K125_24:C:=.cond 9 (.v 12) (.skip) (.exit 0)
abbrev K125_25:C:=.seq (.seq (.pl <| .e 9 4 <|
 .m 9 5 <|
 .m 10 1 <|
 .x 11 (.lenV (.v 10)) <|
 .x 12 (.bin .lss (.v 9) (.v 11)) .done) K125_24) K125_23
abbrev K125_26:C:=.block 0 (.loop 9 [2,6,7,8] K125_25)
abbrev K125_27:C:=.seq (.seq (.pl <| .e 9 0 <|
 .x 5 (.mv (.c (.int .i64 0))) .done) K125_26) K125_17
abbrev K125_28:Pl:=.m 4 9 .done
abbrev K125_29:C:=.seq (.pl <| .e 9 1 <|
 .c 9 (.bls 1 0 [.int .i64 0] []) K125_28) K125_27
abbrev K125_30:Pl:=.m 3 11 .done
abbrev K125_31:C:=.seq (.pl <| .e 9 3 <|
 .m 9 0 <|
 .x 10 (.lenV (.v 9)) <|
 .c 11 (.mks 1 1 [.bool false] (.v 10) (.v 10)) K125_30) K125_29
abbrev B_spec_l7Reach:C:=.seq (.pl <| .e 9 0 <|
 .x 2 (.mv (.c (.slice none 0 0))) .done) K125_31
def R_spec_l7Reach:FIR:=⟨B_spec_l7Reach,9,[(2,none)]⟩
theorem IR_spec_l7Reach:cfun Tryz.prog H_spec_l7Reach Tryz.f125=some R_spec_l7Reach:=by kernel_rfl
theorem EN_spec_l7Reach:ENT Tryz.prog B_spec_l7Reach [(2,none)] 2 9 fn_spec_l7Reach:=fun hargs hw=>enter Tryz.func125 rfl IR_spec_l7Reach hargs hw
theorem c_Clone_int {h:Heap}{a:Value}{x:List Int}(Ra:Rep h a x) (hs:x.length≤1073741824):CallE Tryz.prog fn_slices_Clone_S_int_int [a] h (fun v h'=>HS h [ow v x] h'):=by
 refine CallE.gen fun k hk=>EN_slices_Clone_S_int_int rfl ?_
 obtain⟨b,hb,hb2⟩:=Ra.isNil
 simp -implicitDefEqProofs (disch:=first|omega|(simp only[LnZ];omega))[wrap64,hb]
 refine IteW.mk (fun h1=>?_) (fun h1=>?_)
 ·simp -implicitDefEqProofs (disch:=omega)[wrap64]
  have h2:x=[]:=hb2 h1
  subst h2
  exact RetK.keep (hk _ _ HS.init.nil_ow)
 ·simp -implicitDefEqProofs (disch:=omega)[wrap64]
  refine HS.init.appPL (α:=Int) (l2:=x) (u:=a) rfl rfl Ra rfl rfl (by omega) fun v h1 H=>?_
  simp -implicitDefEqProofs (disch:=omega)[wrap64]
  exact RetK.keep (hk _ _ H)
theorem c_Clip_int {g h:Heap}{Γ:List HP}{a:Value}{x:List Int}(H:HS g (ow a x::Γ) h):CallE Tryz.prog fn_slices_Clip_S_int_int [a] h (fun v h'=>HS g (ow v x::Γ) h'):=by
 refine CallE.gen fun k hk=>EN_slices_Clip_S_int_int rfl ?_
 obtain⟨v',h1,h2⟩:=H.clip (esz:=1) (k:=.i64)
 simp -implicitDefEqProofs (disch:=first|omega|(simp only[LnZ];omega))[wrap64,H.rep.I,h1]
 exact RetK.keep (hk _ _ h2)
theorem c_clone_int {h:Heap}{a:Value}{x:List Int}(Ra:Rep h a x) (hs:x.length≤1073741824):CallE Tryz.prog fn_impl_clone_int [a] h (fun v h'=>HS h [ow v x] h'):=by
 refine CallE.gen fun k hk=>EN_impl_clone_int rfl ?_
 simp -implicitDefEqProofs (disch:=omega)[wrap64]
 refine (c_Clone_int Ra hs).go ?_
 intro v h1 H
 simp -implicitDefEqProofs (disch:=omega)[wrap64]
 refine (c_Clip_int H).go ?_
 intro v' h2 H
 simp -implicitDefEqProofs (disch:=omega)[wrap64]
 exact RetK.keep (hk _ _ H)
theorem c_Clone_bool {h:Heap}{a:Value}{x:List Bool}(Ra:Rep h a x) (hs:x.length≤1073741824):CallE Tryz.prog fn_slices_Clone_S_bool_bool [a] h (fun v h'=>HS h [ow v x] h'):=by
 refine CallE.gen fun k hk=>EN_slices_Clone_S_bool_bool rfl ?_
 obtain⟨b,hb,hb2⟩:=Ra.isNil
 simp -implicitDefEqProofs (disch:=first|omega|(simp only[LnZ];omega))[wrap64,hb]
 refine IteW.mk (fun h1=>?_) (fun h1=>?_)
 ·simp -implicitDefEqProofs (disch:=omega)[wrap64]
  have h2:x=[]:=hb2 h1
  subst h2
  exact RetK.keep (hk _ _ HS.init.nil_ow)
 ·simp -implicitDefEqProofs (disch:=omega)[wrap64]
  refine HS.init.appPL (α:=Bool) (l2:=x) (u:=a) rfl rfl Ra rfl rfl (by omega) fun v h1 H=>?_
  simp -implicitDefEqProofs (disch:=omega)[wrap64]
  exact RetK.keep (hk _ _ H)
theorem c_Clip_bool {g h:Heap}{Γ:List HP}{a:Value}{x:List Bool}(H:HS g (ow a x::Γ) h):CallE Tryz.prog fn_slices_Clip_S_bool_bool [a] h (fun v h'=>HS g (ow v x::Γ) h'):=by
 refine CallE.gen fun k hk=>EN_slices_Clip_S_bool_bool rfl ?_
 obtain⟨v',h1,h2⟩:=H.clip (esz:=1) (k:=.i64)
 simp -implicitDefEqProofs (disch:=first|omega|(simp only[LnZ];omega))[wrap64,H.rep.B,h1]
 exact RetK.keep (hk _ _ h2)
theorem c_clone_bool {h:Heap}{a:Value}{x:List Bool}(Ra:Rep h a x) (hs:x.length≤1073741824):CallE Tryz.prog fn_impl_clone_bool [a] h (fun v h'=>HS h [ow v x] h'):=by
 refine CallE.gen fun k hk=>EN_impl_clone_bool rfl ?_
 simp -implicitDefEqProofs (disch:=omega)[wrap64]
 refine (c_Clone_bool Ra hs).go ?_
 intro v h1 H
 simp -implicitDefEqProofs (disch:=omega)[wrap64]
 refine (c_Clip_bool H).go ?_
 intro v' h2 H
 simp -implicitDefEqProofs (disch:=omega)[wrap64]
 exact RetK.keep (hk _ _ H)
theorem c_Clone_impl_Transition {h:Heap}{a:Value}{x:List Tr}(Ra:Rep h a x) (hs:x.length≤1073741824):CallE Tryz.prog fn_slices_Clone_S_impl_Transition_impl_Transition [a] h (fun v h'=>HS h [ow v x] h'):=by
 refine CallE.gen fun k hk=>EN_slices_Clone_S_impl_Transition_impl_Transition rfl ?_
 obtain⟨b,hb,hb2⟩:=Ra.isNil
 simp -implicitDefEqProofs (disch:=first|omega|(simp only[LnZ];omega))[wrap64,hb]
 refine IteW.mk (fun h1=>?_) (fun h1=>?_)
 ·simp -implicitDefEqProofs (disch:=omega)[wrap64]
  have h2:x=[]:=hb2 h1
  subst h2
  exact RetK.keep (hk _ _ HS.init.nil_ow)
 ·simp -implicitDefEqProofs (disch:=omega)[wrap64]
  refine HS.init.appPL (α:=Tr) (l2:=x) (u:=a) rfl rfl Ra rfl rfl (by omega) fun v h1 H=>?_
  simp -implicitDefEqProofs (disch:=omega)[wrap64]
  exact RetK.keep (hk _ _ H)
theorem c_Clip_impl_Transition {g h:Heap}{Γ:List HP}{a:Value}{x:List Tr}(H:HS g (ow a x::Γ) h):CallE Tryz.prog fn_slices_Clip_S_impl_Transition_impl_Transition [a] h (fun v h'=>HS g (ow v x::Γ) h'):=by
 refine CallE.gen fun k hk=>EN_slices_Clip_S_impl_Transition_impl_Transition rfl ?_
 obtain⟨v',h1,h2⟩:=H.clip (esz:=4) (k:=.i64)
 simp -implicitDefEqProofs (disch:=first|omega|(simp only[LnZ];omega))[wrap64,H.rep.xTr,h1]
 exact RetK.keep (hk _ _ h2)
theorem c_clone_impl_Transition {h:Heap}{a:Value}{x:List Tr}(Ra:Rep h a x) (hs:x.length≤1073741824):CallE Tryz.prog fn_impl_clone_impl_Transition [a] h (fun v h'=>HS h [ow v x] h'):=by
 refine CallE.gen fun k hk=>EN_impl_clone_impl_Transition rfl ?_
 simp -implicitDefEqProofs (disch:=omega)[wrap64]
 refine (c_Clone_impl_Transition Ra hs).go ?_
 intro v h1 H
 simp -implicitDefEqProofs (disch:=omega)[wrap64]
 refine (c_Clip_impl_Transition H).go ?_
 intro v' h2 H
 simp -implicitDefEqProofs (disch:=omega)[wrap64]
 exact RetK.keep (hk _ _ H)
theorem c_IndexFunc_impl_Transition {h:Heap}{a fv:Value}{x:List Tr}(Ra:Rep h a x) {f:FuncId}{c1 c2:List Value}(hf:fnOf fv=some (f,c1,c2)) (p:Tr→Bool)
  (hp:∀h1,h.le h1→∀(i:Nat) (hi:i<x.length) (u:Value),Rep h1 u x[i]→CallE Tryz.prog f (c1++u::c2) h1 (fun v h'=>h1.le h'∧v=.bool (p x[i]))) :
  CallE Tryz.prog fn_slices_IndexFunc_S_impl_Transition_impl_Transition [a,fv] h (fun v h'=>h.le h'∧v=.int .i64 (match x.findIdx? p with | some i=>(i:Int) | none=>-1)):=by
 refine CallE.gen fun k hk=>EN_slices_IndexFunc_S_impl_Transition_impl_Transition rfl ?_
 have hL:=Ra.lt
 simp -implicitDefEqProofs (disch:=first|omega|(simp only[LnZ];omega))[wrap64,Ra.len]
 refine wp_count x.length (fun i e h'=>e=[some a,some fv,none,none,some (.int .i64 x.length),some (.int .i64 i)]∧h.le h'∧∀(j:Nat) (hj:j<x.length),j<i→p x[j]=false) ⟨rfl,Heap.le.refl h,fun j _ hj=>absurd hj (Nat.not_lt_zero j)⟩ ?_
 rintro J i _ h1 hJ hi ⟨rfl,hl,hn⟩
 simp -implicitDefEqProofs (disch:=omega)[wrap64]
 refine IteW.mk (fun hlt=>?_) (fun hge=>?_)
 ·have hlx:i<x.length:=by omega
  obtain⟨u,hu,Ru⟩:=(Ra.le hl).ld hlx
  change hload _ (some (elp 4 a i)) (some 4)=some u at hu
  simp -implicitDefEqProofs (disch:=first|omega|(simp only[LnZ];omega))[wrap64,(Ra.le hl).X (n:=4) rfl,hu,hf]
  refine (hp h1 hl i hlx u Ru).go ?_
  rintro _ h2 ⟨hl2,rfl⟩
  simp -implicitDefEqProofs (disch:=omega)[wrap64]
  refine IteW.mk (fun hq=>?_) (fun hq=>?_)
  ·simp -implicitDefEqProofs (disch:=omega)[wrap64]
   refine RetK.keep (hk _ _ ⟨hl.trans hl2,?_⟩)
   have h3:x.findIdx? p=some i:=by
    rw[List.findIdx?_eq_some_iff_getElem]
    exact⟨hlx,hq,fun j hj=>by rw[hn j (by omega) hj];simp⟩
   rw[h3]
  ·simp -implicitDefEqProofs (disch:=omega)[wrap64]
   refine hJ _ _ hlx ⟨rfl,hl.trans hl2,fun j hj hji=>?_⟩
   by_cases hji2:j=i
   ·subst hji2;simpa using hq
   ·exact hn j hj (by omega)
 ·simp -implicitDefEqProofs (disch:=omega)[wrap64]
  refine RetK.keep (hk _ _ ⟨hl,?_⟩)
  have h3:x.findIdx? p=none:=by
   rw[List.findIdx?_eq_none_iff]
   intro y hy
   obtain⟨j,hj,rfl⟩:=List.mem_iff_getElem.1 hy
   exact hn j hj (by omega)
  rw[h3]
theorem c_ContainsFunc_impl_Transition {h:Heap}{a fv:Value}{x:List Tr}(Ra:Rep h a x) {f:FuncId}{c1 c2:List Value}(hf:fnOf fv=some (f,c1,c2)) (p:Tr→Bool)
  (hp:∀h1,h.le h1→∀(i:Nat) (hi:i<x.length) (u:Value),Rep h1 u x[i]→CallE Tryz.prog f (c1++u::c2) h1 (fun v h'=>h1.le h'∧v=.bool (p x[i]))) :
  CallE Tryz.prog fn_slices_ContainsFunc_S_impl_Transition_impl_Transition [a,fv] h (fun v h'=>h.le h'∧v=.bool (x.any p)):=by
 refine CallE.gen fun k hk=>EN_slices_ContainsFunc_S_impl_Transition_impl_Transition rfl ?_
 simp -implicitDefEqProofs (disch:=omega)[wrap64]
 refine (c_IndexFunc_impl_Transition Ra hf p hp).go ?_
 rintro _ h1 ⟨hl,rfl⟩
 simp -implicitDefEqProofs (disch:=omega)[wrap64]
 refine RetK.keep (hk _ _ ⟨hl,?_⟩)
 congr 1
 rw[← List.findIdx?_isSome]
 cases x.findIdx? p<;>simp
theorem empty_ow {g h:Heap}{Γ:List HP}(H:HS g Γ h):HS g (ow (.agg #[.slice none 0 0,.slice none 0 0,.slice none 0 0]) Aut.empty::Γ) h:=
 HS.mkAut (a:=Aut.empty) H.nil_ow.nil_ow.nil_ow
theorem c_copyOf {h:Heap}{v:Value}{a:Aut}(Ra:Rep h v a) (h1:a.init.length≤1073741824) (h2:a.acc.length≤1073741824) (h3:a.edges.length≤1073741824):CallE Tryz.prog fn_impl_Automaton_copyOf [v] h (fun v h'=>HS h [ow v a] h'):=by
 obtain⟨v1,v2,v3,rfl,R1,R2,R3⟩:=Rep_Aut.1 Ra
 refine CallE.gen fun k hk=>EN_impl_Automaton_copyOf rfl ?_
 simp -implicitDefEqProofs (disch:=omega)[wrap64]
 refine (c_clone_int R1 h1).go ?_
 intro u1 m1 H
 simp -implicitDefEqProofs (disch:=omega)[wrap64]
 refine (c_clone_bool (R2.on H) h2).go ?_
 intro u2 m2 H2
 have H:=H2.app H
 simp -implicitDefEqProofs (disch:=omega)[wrap64]
 refine (c_clone_impl_Transition (R3.on H) h3).go ?_
 intro u3 m3 H3
 have H:=H3.app H
 simp -implicitDefEqProofs (disch:=first|omega|(simp only[LnZ];omega))[wrap64,H.rep.cells,H.rep.one,H.sw1.rep.cells,H.sw1.rep.one,H.sw2.rep.cells,H.sw2.rep.one,setC]
 exact RetK.keep (hk _ _ (HS.mkAut H.sw1.sw2))
theorem c_in {h:Heap}{n lo hi:Int}:CallE Tryz.prog fn_impl_in [.int .i64 n,.int .i64 lo,.int .i64 hi] h (fun u h'=>h'=h∧u=.bool (decide (lo≤n∧n≤hi))):=by
 refine CallE.gen fun k hk=>EN_impl_in rfl ?_
 by_cases h1:lo≤n
 ·simp -implicitDefEqProofs (disch:=first|omega|(simp only[LnZ];omega))[wrap64,h1]
  exact RetK.keep (hk _ _ ⟨rfl,by simp[h1]⟩)
 ·simp -implicitDefEqProofs (disch:=first|omega|(simp only[LnZ];omega))[wrap64,h1]
  exact RetK.keep (hk _ _ ⟨rfl,by simp[h1]⟩)
theorem c_l7Edge {h:Heap}{v:Value}{t:Tr}(Rt:Rep h v t) {n:Int}:CallE Tryz.prog fn_spec_l7Edge [v,.int .i64 n] h (fun u h'=>h'=h∧u=.bool (decide (t.Ok n))):=by
 rw[(Rep_Tr.1 Rt).1]
 refine CallE.gen fun k hk=>EN_spec_l7Edge rfl ?_
 unfold Tr.Ok at hk
 by_cases h1:0≤t.frm
 case neg=>simp -implicitDefEqProofs (disch:=first|omega|(simp only[LnZ];omega))[wrap64,Tr.v,h1];exact RetK.keep (hk _ _ ⟨rfl,by simp[h1]⟩)
 by_cases h2:t.frm<n
 case neg=>simp -implicitDefEqProofs (disch:=first|omega|(simp only[LnZ];omega))[wrap64,Tr.v,h1,h2];exact RetK.keep (hk _ _ ⟨rfl,by simp[h2]⟩)
 by_cases h3:0≤t.to
 case neg=>simp -implicitDefEqProofs (disch:=first|omega|(simp only[LnZ];omega))[wrap64,Tr.v,h1,h2,h3];exact RetK.keep (hk _ _ ⟨rfl,by simp[h3]⟩)
 by_cases h4:t.to<n
 case neg=>simp -implicitDefEqProofs (disch:=first|omega|(simp only[LnZ];omega))[wrap64,Tr.v,h1,h2,h3,h4];exact RetK.keep (hk _ _ ⟨rfl,by simp[h4]⟩)
 by_cases h5:0≤t.care
 case neg=>simp -implicitDefEqProofs (disch:=first|omega|(simp only[LnZ];omega))[wrap64,Tr.v,h1,h2,h3,h4,h5];exact RetK.keep (hk _ _ ⟨rfl,by simp[h5]⟩)
 by_cases h6:t.care≤7
 case neg=>simp -implicitDefEqProofs (disch:=first|omega|(simp only[LnZ];omega))[wrap64,Tr.v,h1,h2,h3,h4,h5,h6];exact RetK.keep (hk _ _ ⟨rfl,by simp[h6]⟩)
 by_cases h7:0≤t.value
 case neg=>simp -implicitDefEqProofs (disch:=first|omega|(simp only[LnZ];omega))[wrap64,Tr.v,h1,h2,h3,h4,h5,h6,h7];exact RetK.keep (hk _ _ ⟨rfl,by simp[h7]⟩)
 simp -implicitDefEqProofs (disch:=first|omega|(simp only[LnZ];omega))[wrap64,Tr.v,h1,h2,h3,h4,h5,h6,h7]
 exact RetK.keep (hk _ _ ⟨rfl,by simp[h1,h2,h3,h4,h5,h6,h7]⟩)
theorem i64_toInt (x:BitVec 64):IntKind.i64.wrap (x.toNat:Int)=x.toInt:=by
 rw[IntKind.wrap_i64,BitVec.toInt_eq_toNat_bmod,Int.bmod_def]
 have:=x.isLt
 split<;>omega
theorem ofInt_toInt {v:Int}(h1:-9223372036854775808≤v) (h2:v<9223372036854775808):(BitVec.ofInt 64 v).toInt=v:=by
 rw[BitVec.toInt_ofInt,Int.bmod_def];split<;>omega
theorem bits_in {v c:Int}(h1:-9223372036854775808≤v) (h2:v<9223372036854775808):andNotI .i64 v c=0↔andI .i64 v c=v:=by
 show IntKind.i64.wrap ((BitVec.ofInt 64 v &&& ~~~ BitVec.ofInt 64 c).toNat:Int)=0↔IntKind.i64.wrap ((BitVec.ofInt 64 v&&&BitVec.ofInt 64 c).toNat:Int)=v
 have hv:=ofInt_toInt h1 h2
 rw[i64_toInt,i64_toInt]
 generalize BitVec.ofInt 64 v=x at *
 generalize BitVec.ofInt 64 c=y at *
 subst hv
 rw[BitVec.toInt_inj,show (0:Int)=(0#64).toInt from rfl,BitVec.toInt_inj]
 constructor
 ·intro h
  apply BitVec.eq_of_getLsbD_eq
  intro i hi
  have h3:=congrArg (fun z=>z.getLsbD i) h
  simp only[BitVec.getLsbD_and,BitVec.getLsbD_not,hi,decide_true,Bool.true_and,BitVec.getLsbD_zero] at h3
  rw[BitVec.getLsbD_and]
  cases h4:x.getLsbD i<;>cases h5:y.getLsbD i<;>simp_all
 ·intro h
  apply BitVec.eq_of_getLsbD_eq
  intro i hi
  have h3:=congrArg (fun z=>z.getLsbD i) h
  simp only[BitVec.getLsbD_and] at h3
  rw[BitVec.getLsbD_and,BitVec.getLsbD_not,BitVec.getLsbD_zero]
  cases h4:x.getLsbD i<;>cases h5:y.getLsbD i<;>simp_all
theorem c_AutomatonValid_1 {h:Heap}{v:Value}{t:Tr}(Rt:Rep h v t) {b:Nat}{n:Int}(hn:1≤n∧n<4611686018427387904) (hb:hload h (some (.pointer (some ⟨b,0,none⟩))) none=some (.int .i64 n)) :
  CallE Tryz.prog fn_impl_AutomatonValid_1 [v,.pointer (some ⟨b,0,none⟩)] h (fun u h'=>h'=h∧u=.bool (!decide (t.Ok n))):=by
 have ht:=(Rep_Tr.1 Rt).2
 rw[(Rep_Tr.1 Rt).1]
 have e0:=ht.value
 refine CallE.gen fun k hk=>EN_impl_AutomatonValid_1 rfl ?_
 simp -implicitDefEqProofs (disch:=first|omega|(simp only[LnZ];omega))[wrap64,Tr.v,hb]
 refine c_in.go ?_
 rintro _ _ ⟨rfl,rfl⟩
 by_cases h1:0≤t.frm∧t.frm≤n-1
 case neg=>
  simp -implicitDefEqProofs (disch:=first|omega|(simp only[LnZ];omega))[wrap64,h1]
  have hno:¬t.Ok n:=fun ho=>h1 (by unfold Tr.Ok at ho;omega)
  exact RetK.keep (hk _ _ ⟨rfl,by simp[hno]⟩)
 simp -implicitDefEqProofs (disch:=first|omega|(simp only[LnZ];omega))[wrap64,h1,hb]
 refine c_in.go ?_
 rintro _ _ ⟨rfl,rfl⟩
 by_cases h2:0≤t.to∧t.to≤n-1
 case neg=>
  simp -implicitDefEqProofs (disch:=first|omega|(simp only[LnZ];omega))[wrap64,h2]
  have hno:¬t.Ok n:=fun ho=>h2 (by unfold Tr.Ok at ho;omega)
  exact RetK.keep (hk _ _ ⟨rfl,by simp[hno]⟩)
 simp -implicitDefEqProofs (disch:=first|omega|(simp only[LnZ];omega))[wrap64,h2]
 refine c_in.go ?_
 rintro _ _ ⟨rfl,rfl⟩
 by_cases h3:0≤t.care∧t.care≤7
 case neg=>
  simp -implicitDefEqProofs (disch:=first|omega|(simp only[LnZ];omega))[wrap64,h3]
  have hno:¬t.Ok n:=fun ho=>h3 (by unfold Tr.Ok at ho;omega)
  exact RetK.keep (hk _ _ ⟨rfl,by simp[hno]⟩)
 by_cases h4:t.value<0
 case pos=>
  simp -implicitDefEqProofs (disch:=first|omega|(simp only[LnZ];omega))[wrap64,h3,h4]
  have hno:¬t.Ok n:=fun ho=>by unfold Tr.Ok at ho;omega
  exact RetK.keep (hk _ _ ⟨rfl,by simp[hno]⟩)
 simp -implicitDefEqProofs (disch:=first|omega|(simp only[LnZ];omega))[wrap64,h3,h4]
 refine RetK.keep (hk _ _ ⟨rfl,?_⟩)
 have h5:=bits_in (c:=t.care) e0.1 e0.2
 by_cases h6:andNotI .i64 t.value t.care=0
 ·have hyes:t.Ok n:=⟨by omega,by omega,by omega,by omega,by omega,by omega,by omega,h5.1 h6⟩
  simp[h6,hyes]
 ·have hno:¬t.Ok n:=fun h=>h6 (h5.2 h.2.2.2.2.2.2.2)
  simp[h6,hno]
theorem drop_cons {α:Type}{l:List α}{i:Nat}(hi:i<l.length):l.drop i=l[i]::l.drop (i+1):=List.drop_eq_getElem_cons hi
theorem incr_cons {n lo x:Int}{l:List Int}:incr n lo (x::l)↔lo<x∧x<n∧incr n x l:=Iff.rfl
theorem c_AutomatonValid {h:Heap}{v:Value}{a:Aut}(Ra:Rep h v a):CallE Tryz.prog fn_impl_AutomatonValid [v] h (fun u h'=>h.le h'∧u=.bool (decide a.Ok)):=by
 obtain⟨v1,v2,v3,rfl,R1,R2,R3⟩:=Rep_Aut.1 Ra
 refine CallE.gen fun k hk=>EN_impl_AutomatonValid rfl ?_
 have l1:=R1.lt
 have l2:=R2.lt
 simp -implicitDefEqProofs (disch:=first|omega|(simp only[LnZ];omega))[wrap64,R1.len,R2.len,R3.len]
 refine HS.init.alloc rfl fun b h1 H=>?_
 simp -implicitDefEqProofs (disch:=omega)[wrap64]
 refine H.bxst (u:=.int .i64 a.acc.length) rfl rfl rfl rfl (by simp) fun h2 H=>?_
 simp only[setC,cells_int,List.take_zero,List.nil_append] at H
 simp -implicitDefEqProofs (disch:=first|omega|(simp only[LnZ];omega))[wrap64,R1.len,R2.len,R3.len]
 have H:HS h [bx b [.int .i64 a.acc.length]] h2:=H
 refine wp_count a.init.length (fun i e h'=>h'=h2∧∃last:Int,e=[none,some (.agg #[v1,v2,v3]),none,some (.pointer (some ⟨b,0,none⟩)),some (.int .i64 last),none,some v1,some (.int .i64 a.init.length),some (.int .i64 i)] ∧
   -1≤last∧last<4611686018427387904∧(incr a.acc.length (-1) a.init↔incr a.acc.length last (a.init.drop i))) ⟨rfl,-1,rfl,by omega,by omega,by simp⟩ ?_
 rintro J i _ _ hJ hi ⟨rfl,last,rfl,hl1,hl2,hin⟩
 simp -implicitDefEqProofs (disch:=omega)[wrap64]
 refine IteW.mk (fun hlt=>?_) (fun hge=>?_)
 ·have hlx:i<a.init.length:=by omega
  simp -implicitDefEqProofs (disch:=first|omega|(simp only[LnZ];omega))[wrap64,(R1.on H).I,H.bxld0]
  refine c_in.go ?_
  rintro _ _ ⟨rfl,rfl⟩
  simp -implicitDefEqProofs (disch:=omega)[wrap64]
  rw[drop_cons hlx,incr_cons] at hin
  refine IteW.mk (fun hn=>?_) (fun hn=>?_)
  ·simp -implicitDefEqProofs (disch:=omega)[wrap64]
   refine RetK.keep (hk _ _ ⟨H.base,?_⟩)
   have:¬a.Ok:=by
    intro ho
    have:=hin.1 ho.i
    omega
   simp[this]
  ·simp -implicitDefEqProofs (disch:=omega)[wrap64]
   exact hJ _ _ hlx ⟨rfl,_,rfl,by omega,by omega,hin.trans ⟨fun h=>h.2.2,fun h=>⟨by omega,by omega,h⟩⟩⟩
 ·simp -implicitDefEqProofs (disch:=first|omega|(simp only[LnZ];omega))[wrap64,H.bxld0]
  have hin:incr a.acc.length (-1) a.init:=hin.2 (by rw[List.drop_eq_nil_of_le (by omega)];trivial)
  refine c_in.go ?_
  rintro _ _ ⟨rfl,rfl⟩
  by_cases hn:1≤(a.acc.length:Int)∧(a.acc.length:Int)≤64
  case neg=>
   simp -implicitDefEqProofs (disch:=first|omega|(simp only[LnZ];omega))[wrap64,hn]
   refine RetK.keep (hk _ _ ⟨H.base,?_⟩)
   have:¬a.Ok:=fun ho=>hn (by have:=ho.n;omega)
   simp[this]
  by_cases he:(a.edges.length:Int)≤2048
  case neg=>
   simp -implicitDefEqProofs (disch:=first|omega|(simp only[LnZ];omega))[wrap64,hn,he,R3.len]
   refine RetK.keep (hk _ _ ⟨H.base,?_⟩)
   have:¬a.Ok:=fun ho=>he (by have:=ho.e;omega)
   simp[this]
  simp -implicitDefEqProofs (disch:=first|omega|(simp only[LnZ];omega))[wrap64,hn,he,R3.len]
  refine (c_ContainsFunc_impl_Transition (R3.on H) (c1:=[]) (fnOf_func) (fun t=>!decide (t.Ok a.acc.length)) ?_).go ?_
  ·intro h3 hl j hj u Ru
   exact (c_AutomatonValid_1 Ru (by omega) (hload_le hl H.bxld0)).to fun _ _ ⟨h4,h5⟩=>⟨h4▸Heap.le.refl _,h5⟩
  ·rintro _ h3 ⟨hl,rfl⟩
   simp -implicitDefEqProofs (disch:=omega)[wrap64]
   refine RetK.keep (hk _ _ ⟨H.base.trans hl,?_⟩)
   congr 1
   have hnn:1≤a.acc.length∧a.acc.length≤64:=by omega
   have hee:a.edges.length≤2048:=by omega
   simp only[Aut.Ok,hnn,hee,hin,true_and]
   rw[Bool.eq_iff_iff]
   simp
theorem c_spec_AutomatonValid {h:Heap}{v:Value}{a:Aut}(Ra:Rep h v a):CallE Tryz.prog fn_spec_AutomatonValid [v] h (fun u h'=>h'=h∧u=.bool (decide a.Ok)):=by
 obtain⟨v1,v2,v3,rfl,R1,R2,R3⟩:=Rep_Aut.1 Ra
 refine CallE.gen fun k hk=>EN_spec_AutomatonValid rfl ?_
 have l1:=R1.lt
 have l2:=R2.lt
 have l3:=R3.lt
 simp -implicitDefEqProofs (disch:=first|omega|(simp only[LnZ];omega))[wrap64,R1.len,R2.len,R3.len]
 by_cases h1:(a.acc.length:Int)<1
 case pos=>
  simp -implicitDefEqProofs (disch:=first|omega|(simp only[LnZ];omega))[wrap64,h1]
  have hno:¬a.Ok:=fun ho=>by have:=ho.n;omega
  exact RetK.keep (hk _ _ ⟨rfl,by simp[hno]⟩)
 by_cases h2:64<(a.acc.length:Int)
 case pos=>
  simp -implicitDefEqProofs (disch:=first|omega|(simp only[LnZ];omega))[wrap64,h1,h2]
  have hno:¬a.Ok:=fun ho=>by have:=ho.n;omega
  exact RetK.keep (hk _ _ ⟨rfl,by simp[hno]⟩)
 by_cases h3:(a.acc.length:Int)<a.init.length
 case pos=>
  simp -implicitDefEqProofs (disch:=first|omega|(simp only[LnZ];omega))[wrap64,h1,h2,R1.len,h3]
  have hno:¬a.Ok:=fun ho=>by
   have h1:=incr_len ho.i (by have:=ho.n;omega)
   omega
  exact RetK.keep (hk _ _ ⟨rfl,by simp[hno]⟩)
 by_cases h4:2048<(a.edges.length:Int)
 case pos=>
  simp -implicitDefEqProofs (disch:=first|omega|(simp only[LnZ];omega))[wrap64,h1,h2,R1.len,h3,R3.len,h4]
  have hno:¬a.Ok:=fun ho=>by have:=ho.e;omega
  exact RetK.keep (hk _ _ ⟨rfl,by simp[hno]⟩)
 simp -implicitDefEqProofs (disch:=first|omega|(simp only[LnZ];omega))[wrap64,h1,h2,R1.len,h3,R3.len,h4]
 refine wp_count a.init.length (fun i e h'=>h'=h∧e=[none,some (.agg #[v1,v2,v3]),none,some (.int .i64 a.acc.length),some (.int .i64 i),none] ∧
   (incr a.acc.length (-1) a.init↔incr a.acc.length (if i=0 then -1 else a.init.getD (i-1) 0) (a.init.drop i))) ⟨rfl,rfl,by simp⟩ ?_
 rintro J i _ _ hJ hi ⟨rfl,rfl,hin⟩
 simp -implicitDefEqProofs (disch:=first|omega|(simp only[LnZ];omega))[wrap64,R1.len]
 refine IteW.mk (fun hlt=>?_) (fun hge=>?_)
 ·have hlx:i<a.init.length:=by omega
  rw[drop_cons hlx,incr_cons] at hin
  have hgd:a.init.getD (i+1-1) 0=a.init[i]:=by simp[hlx]
  by_cases h5:a.init[i]<0
  case pos=>
   simp -implicitDefEqProofs (disch:=first|omega|(simp only[LnZ];omega))[wrap64,R1.I,h5]
   have hno:¬a.Ok:=fun ho=>by have:=ho.im hlx;omega
   exact RetK.keep (hk _ _ ⟨rfl,by simp[hno]⟩)
  by_cases h6:(a.acc.length:Int)≤a.init[i]
  case pos=>
   simp -implicitDefEqProofs (disch:=first|omega|(simp only[LnZ];omega))[wrap64,R1.I,h5,h6]
   have hno:¬a.Ok:=fun ho=>by have:=ho.im hlx;omega
   exact RetK.keep (hk _ _ ⟨rfl,by simp[hno]⟩)
  by_cases h7:0<i
  ·have hj:i-1<a.init.length:=by omega
   have hii:(i:Int)-1=((i-1:Nat):Int):=by omega
   have hw:IntKind.i64.wrap ((i:Int)-1)=((i-1:Nat):Int):=by rw[wrap64 (by omega) (by omega),hii]
   have hgd2:a.init.getD (i-1) 0=a.init[i-1]:=by simp[hj]
   rw[if_neg (by omega),hgd2] at hin
   simp -implicitDefEqProofs (disch:=first|omega|(simp only[LnZ];omega))[wrap64,R1.I,h5,h6,h7,hw]
   refine IteW.mk (fun h8=>?_) (fun h8=>?_)
   ·simp -implicitDefEqProofs (disch:=omega)[wrap64]
    have hno:¬a.Ok:=fun ho=>by have:=(hin.1 ho.i).1;omega
    exact RetK.keep (hk _ _ ⟨rfl,by simp[hno]⟩)
   ·simp -implicitDefEqProofs (disch:=omega)[wrap64]
    exact hJ _ _ hlx ⟨rfl,rfl,by rw[if_neg (by omega),hgd];exact hin.trans ⟨fun h=>h.2.2,fun h=>⟨by omega,by omega,h⟩⟩⟩
  ·have h0:i=0:=by omega
   subst h0
   rw[if_pos rfl] at hin
   simp -implicitDefEqProofs (disch:=first|omega|(simp only[LnZ];omega))[wrap64,R1.I,h5,h6]
   exact hJ _ _ hlx ⟨rfl,rfl,by rw[if_neg (by omega),hgd];exact hin.trans ⟨fun h=>h.2.2,fun h=>⟨by omega,by omega,h⟩⟩⟩
 ·have hin:incr a.acc.length (-1) a.init:=hin.2 (by rw[List.drop_eq_nil_of_le (by omega)];trivial)
  simp -implicitDefEqProofs (disch:=omega)[wrap64]
  refine wp_count a.edges.length (fun i e h'=>h'=_∧e=[none,some (.agg #[v1,v2,v3]),none,some (.int .i64 a.acc.length),none,some (.int .i64 i)] ∧
   ∀(j:Nat) (hj:j<a.edges.length),j<i→a.edges[j].Ok a.acc.length) ⟨rfl,rfl,fun j _ hj=>absurd hj (Nat.not_lt_zero j)⟩ ?_
  rintro J i _ _ hJ hi ⟨rfl,rfl,hn⟩
  simp -implicitDefEqProofs (disch:=first|omega|(simp only[LnZ];omega))[wrap64,R3.len]
  refine IteW.mk (fun hlt=>?_) (fun hge=>?_)
  ·have hlx:i<a.edges.length:=by omega
   simp -implicitDefEqProofs (disch:=first|omega|(simp only[LnZ];omega))[wrap64,R3.xTr]
   refine (c_l7Edge (Rep_Tr.2 ⟨rfl,R3.okTr hlx⟩)).go ?_
   rintro _ _ ⟨rfl,rfl⟩
   simp -implicitDefEqProofs (disch:=omega)[wrap64]
   refine IteW.mkr (fun h8=>?_) (fun h8=>?_)
   ·simp -implicitDefEqProofs (disch:=omega)[wrap64]
    have hno:¬a.Ok:=fun ho=>h8 (ho.t hlx)
    exact RetK.keep (hk _ _ ⟨rfl,by simp[hno]⟩)
   ·simp -implicitDefEqProofs (disch:=omega)[wrap64]
    refine hJ _ _ hlx ⟨rfl,rfl,fun j hj hji=>?_⟩
    by_cases hji2:j=i
    ·subst hji2;exact h8
    ·exact hn j hj (by omega)
  ·simp -implicitDefEqProofs (disch:=omega)[wrap64]
   have hyes:a.Ok:=⟨by omega,by omega,hin,fun t ht=>by
    obtain⟨j,hj,rfl⟩:=List.mem_iff_getElem.1 ht
    exact hn j hj (by omega)⟩
   exact RetK.keep (hk _ _ ⟨rfl,by simp[hyes]⟩)
section
variable {α:Type} [Ty α] {g h:Heap}{Γ:List HP}{v u:Value}{l:List α}
theorem HS.cut (H:HS g (ow v l::Γ) h) {n esz:Nat}{k:IntKind}(hn:n≤l.length):∃v',sliceVV esz v none (some (some (.int k n))) none=some v'∧HS g (ow v' (l.take n)::Γ) h:=by
 obtain⟨g',r,rfl,d,O,H⟩:=H
 rcases Own_list.1 O with ⟨p,rfl,rfl,rfl,hp⟩ | ⟨b,off,cap,cells,el,r',rfl,⟨h1,hM⟩,h2,rfl,h4,h5⟩
 ·have hn0:n=0:=by simpa using hn
  subst hn0
  exact⟨.slice p 0 0,by simp[sliceVV,bndV],g',Heap.nil,rfl,d,Own_list.2 (.inl ⟨p,rfl,by simp,rfl,hp⟩),H⟩
 ·rw[← List.take_append_drop n l] at h5
  obtain⟨r1,r2,rfl,d2,h6,h7⟩:=ownL_split h5
  obtain⟨d3,d4⟩:=Dj_add.1 d
  obtain⟨d5,d6⟩:=Dj_add.1 d4
  obtain⟨n1,n2⟩:r1 b=none∧r2 b=none:=by simpa[Heap.add] using h4
  refine⟨.slice (some ⟨b,off,none⟩) n cap,?_,g'.add r2,(Heap.one b (.cells cells.toArray el (0,0))).add r1,by ac_rfl,?_,?_,H.le (le_add d6)⟩
  ·have:n≤cap:=by omega
   simp[sliceVV,bndV,add_none,this]
  ·exact Dj_add.2 ⟨add_Dj.2 ⟨d3,(Dj_one.2 n2)⟩,add_Dj.2 ⟨d5,d2.symm⟩⟩
  ·have hl:(l.take n).length=n:=by simp;omega
   exact Own_list.2 (.inr ⟨b,off,cap,cells,el,r1,by rw[hl],⟨by omega,by omega⟩,h2,rfl,n1,h6⟩)
end
theorem c_Index_int {h:Heap}{a:Value}{x:List Int}(Ra:Rep h a x) {n:Int}:CallE Tryz.prog fn_slices_Index_S_int_int [a,.int .i64 n] h (fun v h'=>h'=h∧∃r:Int,v=.int .i64 r∧(0≤r↔n∈x)):=by
 refine CallE.gen fun k hk=>EN_slices_Index_S_int_int rfl ?_
 have hL:=Ra.lt
 simp -implicitDefEqProofs (disch:=first|omega|(simp only[LnZ];omega))[wrap64,Ra.len]
 refine wp_count x.length (fun i e h'=>e=[some a,some (.int .i64 n),none,none,some (.int .i64 x.length),some (.int .i64 i)]∧h'=h∧∀(j:Nat) (hj:j<x.length),j<i→x[j]≠n) ⟨rfl,rfl,fun j _ hj=>absurd hj (Nat.not_lt_zero j)⟩ ?_
 rintro J i _ h1 hJ hi ⟨rfl,rfl,hn⟩
 simp -implicitDefEqProofs (disch:=omega)[wrap64]
 refine IteW.mk (fun hlt=>?_) (fun hge=>?_)
 ·have hlx:i<x.length:=by omega
  simp -implicitDefEqProofs (disch:=first|omega|(simp only[LnZ];omega))[wrap64,Ra.I]
  refine IteW.mk (fun hq=>?_) (fun hq=>?_)
  ·simp -implicitDefEqProofs (disch:=omega)[wrap64]
   exact RetK.keep (hk _ _ ⟨rfl,i,rfl,by simp only[Int.natCast_nonneg,true_iff];rw[hq];exact List.getElem_mem hlx⟩)
  ·simp -implicitDefEqProofs (disch:=omega)[wrap64]
   refine hJ _ _ hlx ⟨rfl,rfl,fun j hj hji=>?_⟩
   by_cases hji2:j=i
   ·subst hji2;exact fun e=>hq e.symm
   ·exact hn j hj (by omega)
 ·simp -implicitDefEqProofs (disch:=omega)[wrap64]
  refine RetK.keep (hk _ _ ⟨rfl,-1,rfl,?_⟩)
  simp only[show ¬(0:Int)≤-1 by decide,false_iff]
  intro hm
  obtain⟨j,hj,h1⟩:=List.mem_iff_getElem.1 hm
  exact hn j hj (by omega) h1
theorem c_Contains_int {h:Heap}{a:Value}{x:List Int}(Ra:Rep h a x) {n:Int}:CallE Tryz.prog fn_slices_Contains_S_int_int [a,.int .i64 n] h (fun v h'=>h'=h∧v=.bool (decide (n∈x))):=by
 refine CallE.gen fun k hk=>EN_slices_Contains_S_int_int rfl ?_
 simp -implicitDefEqProofs (disch:=omega)[wrap64]
 refine (c_Index_int Ra).go ?_
 rintro _ h1 ⟨rfl,r,rfl,hr⟩
 simp -implicitDefEqProofs (disch:=omega)[wrap64]
 exact RetK.keep (hk _ _ ⟨rfl,by congr 1;rw[Bool.eq_iff_iff];simp[hr]⟩)
theorem c_l4In {h:Heap}{a:Value}{x:List Int}(Ra:Rep h a x) {n:Int}:CallE Tryz.prog fn_spec_l4In [a,.int .i64 n] h (fun v h'=>h'=h∧v=.bool (decide (n∈x))):=by
 refine CallE.gen fun k hk=>EN_spec_l4In rfl ?_
 have hL:=Ra.lt
 simp -implicitDefEqProofs (disch:=omega)[wrap64]
 refine wp_count x.length (fun i e h'=>e=[some a,some (.int .i64 n),none,some (.int .i64 i)]∧h'=h∧∀(j:Nat) (hj:j<x.length),j<i→x[j]≠n) ⟨rfl,rfl,fun j _ hj=>absurd hj (Nat.not_lt_zero j)⟩ ?_
 rintro J i _ h1 hJ hi ⟨rfl,rfl,hn⟩
 simp -implicitDefEqProofs (disch:=first|omega|(simp only[LnZ];omega))[wrap64,Ra.len]
 refine IteW.mk (fun hlt=>?_) (fun hge=>?_)
 ·have hlx:i<x.length:=by omega
  simp -implicitDefEqProofs (disch:=first|omega|(simp only[LnZ];omega))[wrap64,Ra.I]
  refine IteW.mk (fun hq=>?_) (fun hq=>?_)
  ·simp -implicitDefEqProofs (disch:=omega)[wrap64]
   exact RetK.keep (hk _ _ ⟨rfl,by congr 1;rw[eq_comm,decide_eq_true_iff,← hq];exact List.getElem_mem hlx⟩)
  ·simp -implicitDefEqProofs (disch:=omega)[wrap64]
   refine hJ _ _ hlx ⟨rfl,rfl,fun j hj hji=>?_⟩
   by_cases hji2:j=i
   ·subst hji2;exact hq
   ·exact hn j hj (by omega)
 ·simp -implicitDefEqProofs (disch:=omega)[wrap64]
  refine RetK.keep (hk _ _ ⟨rfl,?_⟩)
  congr 1
  rw[eq_comm,decide_eq_false_iff_not]
  intro hm
  obtain⟨j,hj,h1⟩:=List.mem_iff_getElem.1 hm
  exact hn j hj (by omega) h1
theorem c_next {h:Heap}{v:Value}{a:Aut}(Ra:Rep h v a) (ha:a.Ok):CallE Tryz.prog fn_impl_Automaton_next [v] h (fun u h'=>∃G,HS h [ow u G] h'∧Adj a.E G∧G.length=a.acc.length):=by
 obtain⟨v1,v2,v3,rfl,R1,R2,R3⟩:=Rep_Aut.1 Ra
 refine CallE.gen fun k hk=>EN_impl_Automaton_next rfl ?_
 have hn:=ha.n
 have he:=ha.e
 simp -implicitDefEqProofs (disch:=first|omega|(simp only[LnZ];omega))[wrap64,R2.len]
 refine HS.init.mks (α:=List Int) (z:=[]) rfl rfl own_nils (Nat.le_refl _) (by omega) (by omega) fun w h1 H=>?_
 simp -implicitDefEqProofs (disch:=first|omega|(simp only[LnZ];omega))[wrap64,(R3.on H).len]
 refine wp_count a.edges.length (fun i e h'=>∃G,e=[none,none,none,some w,none,some v3,some (.int .i64 a.edges.length),some (.int .i64 i)]∧HS h [ow w G] h'∧NextI a i G) ⟨_,by simp,H,NextI.zero⟩ ?_
 rintro J i _ h2 hJ hi ⟨G,rfl,H,hG⟩
 simp -implicitDefEqProofs (disch:=omega)[wrap64]
 refine IteW.mk (fun hlt=>?_) (fun hge=>?_)
 ·have hlx:i<a.edges.length:=by omega
  have hx:=ha.t hlx
  unfold Tr.Ok at hx
  obtain⟨f,hf⟩:∃f:Nat,a.edges[i].frm=f:=⟨a.edges[i].frm.toNat,by omega⟩
  obtain⟨t,ht⟩:∃t:Nat,a.edges[i].to=t:=⟨a.edges[i].to.toNat,by omega⟩
  have hfG:f<G.length:=by rw[hG.len];omega
  have hle:=hG.le f hfG
  have R3':=R3.on H
  obtain⟨u,hu,H⟩:=H.take hfG
  change hload _ (some (elp 1 w f)) none=some u at hu
  simp -implicitDefEqProofs (disch:=first|omega|(simp only[LnZ];omega))[wrap64,R3'.xTr,Tr.v,setC,hf,ht,H.sw1.holeia (n:=1) rfl,hu]
  refine H.app1 (t:Int) rfl rfl rfl ⟨by omega,by omega⟩ rfl rfl (by omega) (by omega) fun u' h3 H=>?_
  simp -implicitDefEqProofs (disch:=first|omega|(simp only[LnZ];omega))[wrap64,H.sw1.holeia (n:=1) rfl]
  refine H.storeH rfl rfl rfl fun h4 H=>?_
  simp -implicitDefEqProofs (disch:=omega)[wrap64]
  exact hJ _ _ hlx ⟨_,rfl,H,hG.step hlx hf ht hfG⟩
 ·simp -implicitDefEqProofs (disch:=omega)[wrap64]
  exact RetK.keep (hk _ _ ⟨G,H,hG.done ha (by omega),hG.len⟩)
theorem c_l7Next {h:Heap}{v:Value}{a:Aut}(Ra:Rep h v a) (ha:a.Ok):CallE Tryz.prog fn_spec_l7Next [v] h (fun u h'=>∃G,HS h [ow u G] h'∧Adj a.E G∧G.length=a.acc.length∧∀x (hx:x<G.length),G[x].length≤2048):=by
 obtain⟨v1,v2,v3,rfl,R1,R2,R3⟩:=Rep_Aut.1 Ra
 refine CallE.gen fun k hk=>EN_spec_l7Next rfl ?_
 have hn:=ha.n
 have he:=ha.e
 simp -implicitDefEqProofs (disch:=first|omega|(simp only[LnZ];omega))[wrap64,R2.len]
 refine HS.init.mks (α:=List Int) (z:=[]) rfl rfl own_nils (Nat.le_refl _) (by omega) (by omega) fun w h1 H=>?_
 simp -implicitDefEqProofs (disch:=omega)[wrap64]
 refine wp_count a.edges.length (fun i e h'=>∃G,e=[none,some (.agg #[v1,v2,v3]),none,some w,some (.int .i64 i),none]∧HS h [ow w G] h'∧NextI a i G) ⟨_,by simp,H,NextI.zero⟩ ?_
 rintro J i _ h2 hJ hi ⟨G,rfl,H,hG⟩
 simp -implicitDefEqProofs (disch:=first|omega|(simp only[LnZ];omega))[wrap64,(R3.on H).len]
 refine IteW.mk (fun hlt=>?_) (fun hge=>?_)
 ·have hlx:i<a.edges.length:=by omega
  have hx:=ha.t hlx
  unfold Tr.Ok at hx
  obtain⟨f,hf⟩:∃f:Nat,a.edges[i].frm=f:=⟨a.edges[i].frm.toNat,by omega⟩
  obtain⟨t,ht⟩:∃t:Nat,a.edges[i].to=t:=⟨a.edges[i].to.toNat,by omega⟩
  have hfG:f<G.length:=by rw[hG.len];omega
  have hle:=hG.le f hfG
  have R3':=R3.on H
  obtain⟨u,hu,Ru⟩:=H.rep.ldL hfG
  simp -implicitDefEqProofs (disch:=first|omega|(simp only[LnZ];omega))[wrap64,R3'.xTr,Tr.v,setC,hf,ht,H.rep.X (n:=1) rfl,hu]
  refine (c_l4In Ru).go ?_
  rintro _ _ ⟨rfl,rfl⟩
  by_cases hm:(t:Int)∈G[f]
  ·simp -implicitDefEqProofs (disch:=first|omega|(simp only[LnZ];omega))[wrap64,hm]
   exact hJ _ _ hlx ⟨_,by simp,H,hG.skip hlx hf ht hfG hm⟩
  ·obtain⟨u,hu,H⟩:=H.take hfG
   change hload _ (some (elp 1 w f)) none=some u at hu
   simp -implicitDefEqProofs (disch:=first|omega|(simp only[LnZ];omega))[wrap64,hm,hf,ht,H.sw1.holeia (n:=1) rfl,hu]
   refine H.app1 (t:Int) rfl rfl rfl ⟨by omega,by omega⟩ rfl rfl (by omega) (by omega) fun u' h3 H=>?_
   simp -implicitDefEqProofs (disch:=first|omega|(simp only[LnZ];omega))[wrap64,H.sw1.holeia (n:=1) rfl]
   refine H.storeH rfl rfl rfl fun h4 H=>?_
   simp -implicitDefEqProofs (disch:=omega)[wrap64]
   exact hJ _ _ hlx ⟨_,by simp,H,hG.step hlx hf ht hfG⟩
 ·simp -implicitDefEqProofs (disch:=omega)[wrap64]
  exact RetK.keep (hk _ _ ⟨G,H,hG.done ha (by omega),hG.len,fun x hx=>by have:=hG.le x hx;omega⟩)
theorem take_mem_succ {α:Type}{l:List α}{i:Nat}(hi:i<l.length) {x:α}:x∈l.take (i+1)↔x∈l.take i∨x=l[i]:=by
 rw[List.take_add_one,List.getElem?_eq_getElem hi]
 simp only[Option.toList_some,List.mem_append,List.mem_singleton]
theorem snoc_of {α:Type}{l:List α}(h:0<l.length):∃l' x,l=l'++[x]:=by
 refine⟨l.dropLast,l.getLast (List.ne_nil_of_length_pos h),?_⟩
 exact (List.dropLast_concat_getLast _).symm
theorem c_reachable {h:Heap}{w s:Value}{G:List (List Int)}{S:List Int}{E:Nat→Nat→Prop}(Rw:Rep h w G) (Rs:Rep h s S) (hG:Adj E G) (hS:∀z∈S,0≤z∧z<G.length) (hSl:S.length≤1048576) (hGl:G.length≤1048576) :
  CallE Tryz.prog fn_impl_reachable [w,s] h (fun u h'=>∃B:List Bool,HS h [ow u B] h'∧B.length=G.length∧∀x,tru B x↔∃z:Nat,(z:Int)∈S∧Rch E z x):=by
 refine CallE.gen fun k hk=>EN_impl_reachable rfl ?_
 simp -implicitDefEqProofs (disch:=first|omega|(simp only[LnZ];omega))[wrap64,Rw.len]
 refine HS.init.mks (α:=Bool) (z:=false) rfl rfl own_false (Nat.le_refl _) (by omega) (by omega) fun b h1 H=>?_
 simp -implicitDefEqProofs (disch:=omega)[wrap64]
 refine (c_clone_int (Rs.on H) (by omega)).go ?_
 intro t0 h2 H2
 have H:=H2.app H
 simp -implicitDefEqProofs (disch:=first|omega|(simp only[LnZ];omega))[wrap64,(Rs.on H).len]
 refine wp_count S.length (fun i e h'=>∃B,e=[some w,none,none,some b,some t0,none,none,none,some s,some (.int .i64 S.length),some (.int .i64 i),none,none,none]∧HS h [ow t0 S,ow b B] h'∧B.length=G.length∧∀x,tru B x↔(x:Int)∈S.take i) ⟨_,by simp,H,by simp,fun x=>by simp[tru_replicate]⟩ ?_
 rintro J i _ h3 hJ hi ⟨B,rfl,H,hBl,hB⟩
 simp -implicitDefEqProofs (disch:=omega)[wrap64]
 refine IteW.mk (fun hlt=>?_) (fun hge=>?_)
 ·have hlx:i<S.length:=by omega
  have hz:=hS _ (List.getElem_mem hlx)
  obtain⟨z,hz2⟩:∃z:Nat,S[i]=z:=⟨S[i].toNat,by omega⟩
  have H:=H.sw1
  have hzB:z<B.length:=by omega
  simp -implicitDefEqProofs (disch:=first|omega|(simp only[LnZ];omega))[wrap64,(Rs.on H).I,hz2,H.rep.B]
  refine H.storeF true (i:=z) hzB rfl rfl trivial rfl fun h4 H=>?_
  simp -implicitDefEqProofs (disch:=omega)[wrap64]
  refine hJ _ _ hlx ⟨_,rfl,H.sw1,by simpa using hBl,fun x=>?_⟩
  rw[tru_set hzB,hB,take_mem_succ hlx,hz2]
  exact or_congr Iff.rfl (by omega)
 simp -implicitDefEqProofs (disch:=omega)[wrap64]
 rw[List.take_of_length_le (by omega)] at hB
 have hI:Srch E (fun z=>(z:Int)∈S) (tru B) (fun z=>(z:Int)∈S):=Srch.init hB fun _ h=>h
 have hcl:=List.count_le_length (a:=false) (l:=B)
 refine wp_while (σ:=List Bool×List Int) (fun s e h'=>∃t,e=[some w,none,none,some b,some t,none,none,none,none,none,none,none,none,none] ∧
   HS h [ow t s.2,ow b s.1] h'∧s.1.length=G.length∧Srch E (fun z=>(z:Int)∈S) (tru s.1) (fun z=>(z:Int)∈s.2)∧(∀z∈s.2,∃q:Nat,z=q∧tru s.1 q)∧s.2.length+s.1.count false≤S.length+G.length)
  (fun s=>s.2.length+s.1.count false) (B,S) ⟨t0,by simp,H,hBl,hI,fun z hz=>⟨z.toNat,by have:=hS z hz;omega,by rw[hB];have:=hS z hz;rwa [Int.toNat_of_nonneg this.1]⟩,by dsimp only;omega⟩ ?_
 rintro J ⟨B,T⟩ _ h4 hJ ⟨t,rfl,H,hBl,hI,hT,hm⟩
 dsimp only at H hBl hI hT hm
 simp -implicitDefEqProofs (disch:=first|omega|(simp only[LnZ];omega))[wrap64,H.rep.len]
 refine IteW.mkr (fun h0=>?_) (fun h0=>?_)
 ·simp -implicitDefEqProofs (disch:=omega)[wrap64]
  have hT0:T=[]:=List.eq_nil_of_length_eq_zero (by omega)
  subst hT0
  exact RetK.keep (hk _ _ ⟨B,H.drop,hBl,fun x=>hI.done (by simp)⟩)
 obtain⟨T,x,rfl⟩:=snoc_of (l:=T) (by omega)
 obtain⟨q,rfl,hq⟩:=hT x (by simp)
 have hqG:q<G.length:=by rw[← hBl];exact tru_lt hq
 obtain⟨t',ht',H'⟩:=H.cut (n:=T.length) (esz:=1) (k:=.i64) (by simp)
 have hTl:T.length<4611686018427387904:=by have:=H.rep.lt;simp at this;omega
 rw[List.take_left' rfl] at H'
 obtain⟨u,hu0,Ru⟩:=Rw.ldL hqG
 have hu:=hload_le H.base hu0
 have hul:=Ru.lt
 have hlen1:(T++[(q:Int)]).length=T.length+1:=by simp
 have hi1:IntKind.i64.wrap ((T.length:Int)+1-1)=T.length:=by rw[wrap64 (by omega) (by omega)];omega
 simp -implicitDefEqProofs (disch:=first|omega|(simp only[LnZ];omega))[wrap64,H.rep.I,hlen1,hi1,ht',(Rw.on H').X (n:=1) rfl,hu,Ru.len]
 have hlt0:=hm
 obtain⟨m,hmm⟩:∃m,m=T.length+1+B.count false:=⟨_,rfl⟩
 refine wp_count G[q].length (fun j e h'=>∃(t:Value) (B:List Bool) (T':List Int),e=[some w,none,none,some b,some t,none,none,none,none,none,none,some u,some (.int .i64 G[q].length),some (.int .i64 j)] ∧
   HS h [ow t T',ow b B] h'∧B.length=G.length∧Srch E (fun z=>(z:Int)∈S) (tru B) (fun z=>(z:Int)∈T'∨z=q)∧tru B q∧(∀z∈T',∃q:Nat,z=q∧tru B q)∧T'.length+1+B.count false=m ∧
   ∀j' (hj':j'<G[q].length),j'<j→∀y:Nat,G[q][j']=y→tru B y) ⟨t',B,T,by simp,H',hBl,hI.congr (fun _=>Iff.rfl) (fun z=>by simp[Int.ofNat_inj]),hq,fun z hz=>hT z (by simp[hz]),hmm.symm,fun j' _ hj'=>absurd hj' (Nat.not_lt_zero j')⟩ ?_
 rintro J2 j _ h5 hJ2 hj ⟨t2,B2,T2,rfl,H,hBl2,hI2,hq2,hT2,hm2,hpr⟩
 simp -implicitDefEqProofs (disch:=omega)[wrap64]
 refine IteW.mk (fun hlt2=>?_) (fun hge2=>?_)
 ·have hjl:j<G[q].length:=by omega
  obtain⟨y,hy,hxy,hyG⟩:=hG.get hqG hjl
  have H:=H.sw1
  have hyB:y<B2.length:=by omega
  have hpr2:∀B3,tru B3 y→(∀z,tru B2 z→tru B3 z)→∀j' (hj':j'<G[q].length),j'<j+1→∀y:Nat,G[q][j']=y→tru B3 y:=by
   intro B3 h1 h2 j' hj' hlt y' hy'
   by_cases e:j'=j
   ·subst e
    rw[hy] at hy'
    obtain rfl:y=y':=by omega
    exact h1
   ·exact h2 _ (hpr j' hj' (by omega) y' hy')
  by_cases hb:B2[y]=true
  ·simp -implicitDefEqProofs (disch:=first|omega|(simp only[LnZ];omega))[wrap64,(Ru.on H).I,hy,H.rep.B,hb]
   exact hJ2 _ _ hjl ⟨t2,B2,T2,rfl,H.sw1,hBl2,hI2,hq2,hT2,hm2,hpr2 _ ((tru_get hyB).2 hb) fun _ h=>h⟩
  ·have hb':B2[y]=false:=by simpa using hb
   simp -implicitDefEqProofs (disch:=first|omega|(simp only[LnZ];omega))[wrap64,(Ru.on H).I,hy,H.rep.B,hb']
   refine H.storeF true (i:=y) hyB rfl rfl trivial rfl fun h6 H=>?_
   have hcs:=count_set hyB hb'
   simp -implicitDefEqProofs (disch:=omega)[wrap64]
   refine H.sw1.app1 (y:Int) rfl rfl rfl ⟨by omega,by omega⟩ rfl rfl (by omega) (by omega) fun t3 h7 H=>?_
   simp -implicitDefEqProofs (disch:=omega)[wrap64]
   refine hJ2 _ _ hjl ⟨t3,_,_,rfl,H,by simpa using hBl2,hI2.add (x:=q) (y:=y) hq2 hxy (fun z=>tru_set hyB) (fun z=>?_),(tru_set hyB).2 (.inl hq2),?_,?_,hpr2 _ ((tru_set hyB).2 (.inr rfl)) fun z hz=>(tru_set hyB).2 (.inl hz)⟩
   ·simp only[List.mem_append,List.mem_singleton]
    constructor
    ·rintro ((h | h) | h)
     ·exact .inl (.inl h)
     ·exact .inr (by omega)
     ·exact .inl (.inr h)
    ·rintro ((h | h) | h)
     ·exact .inl (.inl h)
     ·exact .inr h
     ·exact .inl (.inr (by omega))
   ·intro z hz
    rcases List.mem_append.1 hz with hz | hz
    ·obtain⟨p,h1,h2⟩:=hT2 z hz
     exact⟨p,h1,(tru_set hyB).2 (.inl h2)⟩
    ·exact⟨y,by simpa using hz,(tru_set hyB).2 (.inr rfl)⟩
   ·simp;omega
 ·simp -implicitDefEqProofs (disch:=omega)[wrap64]
  refine hJ (B2,T2) _ _ ?_ ⟨t2,rfl,H,hBl2,hI2.drop (x:=q) (fun y hxy=>?_) (fun z hz=>hz),hT2,?_⟩
  ·dsimp only;rw[hlen1];omega
  ·exact hG.all hqG (C:=tru B2) (fun j' hj' y hy=>hpr j' hj' (by omega) y hy) hxy
  ·dsimp only at hm ⊢;rw[hlen1] at hm;omega
theorem c_l7Reach {h:Heap}{w s:Value}{G:List (List Int)}{S:List Int}{E:Nat→Nat→Prop}(Rw:Rep h w G) (Rs:Rep h s S) (hG:Adj E G) (hS:∀z∈S,0≤z∧z<G.length) (hGl:G.length≤1048576) :
  CallE Tryz.prog fn_spec_l7Reach [w,s] h (fun u h'=>∃Q:List Int,HS h [ow u Q] h'∧Q.length≤G.length∧(∀z∈Q,0≤z∧z<G.length)∧∀x:Nat,(x:Int)∈Q↔∃z:Nat,(z:Int)∈S∧Rch E z x):=by
 refine CallE.gen fun k hk=>EN_spec_l7Reach rfl ?_
 have hSl:=Rs.lt
 simp -implicitDefEqProofs (disch:=first|omega|(simp only[LnZ];omega))[wrap64,Rw.len]
 refine HS.init.mks (α:=Bool) (z:=false) rfl rfl own_false (Nat.le_refl _) (by omega) (by omega) fun b h1 H=>?_
 simp -implicitDefEqProofs (disch:=omega)[wrap64]
 refine H.bls0 Int fun t0 h2 H=>?_
 simp -implicitDefEqProofs (disch:=omega)[wrap64]
 refine wp_count S.length (fun i e h'=>∃(t:Value) (B:List Bool) (Q:List Int),e=[some w,some s,none,some b,some t,some (.int .i64 i),none,none,none]∧HS h [ow t Q,ow b B] h'∧B.length=G.length∧Q.length+B.count false=G.length∧(∀z∈Q,∃q:Nat,z=q∧q<G.length)∧(∀x,tru B x↔(x:Int)∈S.take i)∧∀x:Nat,tru B x↔(x:Int)∈Q) ⟨t0,_,[],by simp,H,by simp,by simp,by simp,fun x=>by simp[tru_replicate],fun x=>by simp[tru_replicate]⟩ ?_
 rintro J i _ h3 hJ hi ⟨t,B,Q,rfl,H,hBl,hQl,hQ,hB,hBQ⟩
 simp -implicitDefEqProofs (disch:=first|omega|(simp only[LnZ];omega))[wrap64,(Rs.on H).len]
 refine IteW.mk (fun hlt=>?_) (fun hge=>?_)
 ·have hlx:i<S.length:=by omega
  have hz:=hS _ (List.getElem_mem hlx)
  obtain⟨z,hz2⟩:∃z:Nat,S[i]=z:=⟨S[i].toNat,by omega⟩
  have H:=H.sw1
  have hzB:z<B.length:=by omega
  by_cases hb:B[z]=true
  ·simp -implicitDefEqProofs (disch:=first|omega|(simp only[LnZ];omega))[wrap64,(Rs.on H).I,hz2,H.rep.B,hb]
   refine hJ _ _ hlx ⟨t,B,Q,rfl,H.sw1,hBl,hQl,hQ,fun x=>?_,hBQ⟩
   rw[take_mem_succ hlx,hB,hz2]
   constructor
   ·exact .inl
   ·rintro (h | h)
    ·exact h
    ·obtain rfl:x=z:=by omega
     exact (hB x).1 ((tru_get hzB).2 hb)
  ·have hb':B[z]=false:=by simpa using hb
   have hcs:=count_set hzB hb'
   simp -implicitDefEqProofs (disch:=first|omega|(simp only[LnZ];omega))[wrap64,(Rs.on H).I,hz2,H.rep.B,hb']
   refine H.storeF true (i:=z) hzB rfl rfl trivial rfl fun h4 H=>?_
   simp -implicitDefEqProofs (disch:=first|omega|(simp only[LnZ];omega))[wrap64,(Rs.on H).I,hz2]
   refine H.sw1.app1 (z:Int) rfl rfl rfl ⟨by omega,by omega⟩ rfl rfl (by omega) (by omega) fun t3 h7 H=>?_
   simp -implicitDefEqProofs (disch:=omega)[wrap64]
   refine hJ _ _ hlx ⟨t3,_,_,rfl,H,by simpa using hBl,by simp;omega,?_,fun x=>?_,fun x=>?_⟩
   ·intro y hy
    rcases List.mem_append.1 hy with hy | hy
    ·exact hQ y hy
    ·exact⟨z,by simpa using hy,by omega⟩
   ·rw[tru_set hzB,hB,take_mem_succ hlx,hz2]
    exact or_congr Iff.rfl (by omega)
   ·rw[tru_set hzB,hBQ]
    simp[Int.ofNat_inj]
 simp -implicitDefEqProofs (disch:=omega)[wrap64]
 rw[List.take_of_length_le (by omega)] at hB
 have hI:Srch E (fun z=>(z:Int)∈S) (tru B) (fun z=>(z:Int)∈Q.drop 0):=Srch.init hB fun z hz=>by rw[List.drop_zero,← hBQ,hB];exact hz
 refine wp_while (σ:=List Bool×List Int×Nat) (fun s e h'=>∃t,e=[some w,none,none,some b,some t,none,some (.int .i64 s.2.2),none,none] ∧
   HS h [ow t s.2.1,ow b s.1] h'∧s.1.length=G.length∧s.2.1.length+s.1.count false=G.length∧s.2.2≤s.2.1.length∧(∀z∈s.2.1,∃q:Nat,z=q∧q<G.length)∧(∀x:Nat,tru s.1 x↔(x:Int)∈s.2.1)∧Srch E (fun z=>(z:Int)∈S) (tru s.1) (fun z=>(z:Int)∈s.2.1.drop s.2.2))
  (fun s=>G.length-s.2.2) (B,Q,0) ⟨t,by simp,H,hBl,hQl,by dsimp only;omega,hQ,hBQ,hI⟩ ?_
 rintro J ⟨B,Q,i⟩ _ h4 hJ ⟨t,rfl,H,hBl,hQl,hiQ,hQ,hBQ,hI⟩
 dsimp only at H hBl hQl hiQ hQ hBQ hI
 simp -implicitDefEqProofs (disch:=first|omega|(simp only[LnZ];omega))[wrap64,H.rep.len]
 refine IteW.mkr (fun h0=>?_) (fun h0=>?_)
 ·simp -implicitDefEqProofs (disch:=omega)[wrap64]
  have hd:Q.drop i=[]:=List.drop_eq_nil_of_le (by omega)
  rw[hd] at hI
  refine RetK.keep (hk _ _ ⟨Q,H.sw1.drop,by omega,fun z hz=>?_,fun x=>?_⟩)
  ·obtain⟨q,rfl,h2⟩:=hQ z hz;omega
  ·rw[← hBQ];exact hI.done (by simp)
 have hiQ2:i<Q.length:=by omega
 obtain⟨q,hq,hqG⟩:=hQ _ (List.getElem_mem hiQ2)
 obtain⟨u,hu0,Ru⟩:=Rw.ldL hqG
 have hul:=Ru.lt
 have hqB:tru B q:=by rw[hBQ,← hq];exact List.getElem_mem hiQ2
 simp -implicitDefEqProofs (disch:=omega)[wrap64]
 refine wp_count G[q].length (fun j e h'=>∃(t:Value) (B':List Bool) (W:List Int),e=[some w,none,none,some b,some t,none,some (.int .i64 i),some (.int .i64 j),none] ∧
   HS h [ow t (Q++W),ow b B'] h'∧B'.length=G.length∧(Q++W).length+B'.count false=G.length∧(∀z∈Q++W,∃q:Nat,z=q∧q<G.length)∧(∀x:Nat,tru B' x↔(x:Int)∈Q++W)∧Srch E (fun z=>(z:Int)∈S) (tru B') (fun z=>(z:Int)∈(Q++W).drop i) ∧
   ∀j' (hj':j'<G[q].length),j'<j→∀y:Nat,G[q][j']=y→tru B' y) ⟨t,B,[],by simp,by simpa using H,hBl,by simpa using hQl,by simpa using hQ,by simpa using hBQ,by simpa using hI,fun j' _ hj'=>absurd hj' (Nat.not_lt_zero j')⟩ ?_
 rintro J2 j _ h5 hJ2 hj ⟨t2,B2,W,rfl,H,hBl2,hQl2,hQ2,hBQ2,hI2,hpr⟩
 have hiW:i<(Q++W).length:=by simp;omega
 have hqi:(Q++W)[i]=(q:Int):=by rw[List.getElem_append_left hiQ2];exact hq
 have hu:=hload_le H.base hu0
 simp -implicitDefEqProofs (disch:=first|omega|(simp only[LnZ];omega))[wrap64,H.rep.I,hqi,(Rw.on H).X (n:=1) rfl,hu,(Ru.on H).len]
 refine IteW.mk (fun hlt2=>?_) (fun hge2=>?_)
 ·have hjl:j<G[q].length:=by omega
  obtain⟨y,hy,hxy,hyG⟩:=hG.get hqG hjl
  have H:=H.sw1
  have hyB:y<B2.length:=by omega
  have hpr2:∀B3,tru B3 y→(∀z,tru B2 z→tru B3 z)→∀j' (hj':j'<G[q].length),j'<j+1→∀y:Nat,G[q][j']=y→tru B3 y:=by
   intro B3 h1 h2 j' hj' hlt y' hy'
   by_cases e:j'=j
   ·subst e
    rw[hy] at hy'
    obtain rfl:y=y':=by omega
    exact h1
   ·exact h2 _ (hpr j' hj' (by omega) y' hy')
  have hqB2:tru B2 q:=by rw[hBQ2,← hqi];exact List.getElem_mem hiW
  by_cases hb:B2[y]=true
  ·simp -implicitDefEqProofs (disch:=first|omega|(simp only[LnZ];omega))[wrap64,H.sw1.rep.I,hqi,(Rw.on H).X (n:=1) rfl,hu,(Ru.on H).I,hy,H.rep.B,hb]
   exact hJ2 _ _ hjl ⟨t2,B2,W,rfl,H.sw1,hBl2,hQl2,hQ2,hBQ2,hI2,hpr2 _ ((tru_get hyB).2 hb) fun _ h=>h⟩
  ·have hb':B2[y]=false:=by simpa using hb
   simp -implicitDefEqProofs (disch:=first|omega|(simp only[LnZ];omega))[wrap64,H.sw1.rep.I,hqi,(Rw.on H).X (n:=1) rfl,hu,(Ru.on H).I,hy,H.rep.B,hb']
   refine H.storeF true (i:=y) hyB rfl rfl trivial rfl fun h6 H=>?_
   have hcs:=count_set hyB hb'
   simp -implicitDefEqProofs (disch:=omega)[wrap64]
   refine H.sw1.app1 (y:Int) rfl rfl rfl ⟨by omega,by omega⟩ rfl rfl (by omega) (by omega) fun t3 h7 H=>?_
   simp -implicitDefEqProofs (disch:=omega)[wrap64]
   have hassoc:Q++W++[(y:Int)]=Q++(W++[(y:Int)]):=List.append_assoc _ _ _
   rw[hassoc] at H
   refine hJ2 _ _ hjl ⟨t3,_,W++[(y:Int)],rfl,H,by simpa using hBl2,by simp at hQl2 ⊢;omega,?_,fun x=>?_,hI2.add (x:=q) (y:=y) hqB2 hxy (fun z=>tru_set hyB) (fun z=>?_),hpr2 _ ((tru_set hyB).2 (.inr rfl)) fun z hz=>(tru_set hyB).2 (.inl hz)⟩
   ·intro z hz
    rw[← hassoc] at hz
    rcases List.mem_append.1 hz with hz | hz
    ·exact hQ2 z hz
    ·exact⟨y,by simpa using hz,hyG⟩
   ·rw[tru_set hyB,hBQ2,← hassoc]
    simp[Int.ofNat_inj,or_assoc]
   ·rw[← hassoc,List.drop_append_of_le_length (by omega)]
    simp[Int.ofNat_inj]
 ·simp -implicitDefEqProofs (disch:=omega)[wrap64]
  refine hJ (B2,Q++W,i+1) _ _ ?_ ⟨t2,rfl,H,hBl2,hQl2,by dsimp only;omega,hQ2,hBQ2,hI2.drop (x:=q) (fun y hxy=>?_) (fun z hz=>?_)⟩
  ·dsimp only;omega
  ·exact hG.all hqG (C:=tru B2) (fun j' hj' y hy=>hpr j' hj' (by omega) y hy) hxy
  ·dsimp only
   rw[List.drop_eq_getElem_cons hiW,hqi] at hz
   rcases List.mem_cons.1 hz with hz | hz
   ·exact .inr (by omega)
   ·exact .inl hz
end Go.Proofs.YtielhfonnleldaaGreat
