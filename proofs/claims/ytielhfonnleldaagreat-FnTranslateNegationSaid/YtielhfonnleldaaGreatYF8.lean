/-
  Texts of this proof, one behind the other.
-/
import Derived.Test.YtielhfonnleldaaGreatYF7
set_option linter.all false
set_option linter.unusedVariables false
set_option linter.unusedSimpArgs false
set_option linter.defProp false
set_option maxRecDepth 1000000
namespace Go.Proofs.YtielhfonnleldaaGreat
open Go
def pv2 (p:Int×Int):Value:=.agg #[.int .i64 p.1,.int .i64 p.2]
def lf2 (p:Int×Int):List Int:=[p.1,p.2]
theorem lf2_inj (a b:Int×Int) (h:lf2 a=lf2 b):a=b:=by
 obtain⟨a1,a2⟩:=a
 obtain⟨b1,b2⟩:=b
 simpa[lf2] using h
theorem keyEq_2:∀a b:Int×Int,keyEq (.many [.i,.i]) (pv2 a) (pv2 b)=some (decide (a=b)):=by
 rintro⟨a1,a2⟩ ⟨b1,b2⟩
 simp[keyEq,eqB,pv2]
def vi (n:Int):Value:=.int .i64 n
@[reducible] def Tbs2 (b6 b7 bm:Nat) (fv:Value) (F:List (Int×Int)) (m:List ((Int×Int)×Int)):List HP:=[bx b6 [.map (some bm)],bx b7 [fv],mpo pv2 vi bm m,ow fv F]
theorem c_find2 {g h:Heap}{Γ:List HP}{b6 b7 bm:Nat}{fv:Value}{F:List (Int×Int)}{m:List ((Int×Int)×Int)}{a:Int×Int}(H:HS g (Tbs2 b6 b7 bm fv F m++Γ) h) (hm:MI F m) (hF:F.length≤1073741824) (ha:I64 a.1∧I64 a.2) :
  CallE Tryz.prog fn_impl_explore_impl_phased_1 [pv2 a,.pointer (some ⟨b6,0,none⟩),.pointer (some ⟨b7,0,none⟩)] h (fun u h'=>∃fv' m',u=.int .i64 (atK F a)∧HS g (Tbs2 b6 b7 bm fv' (adK F a) m'++Γ) h'∧MI (adK F a) m'):=by
 have H:HS g (bx b6 [.map (some bm)]::bx b7 [fv]::mpo pv2 vi bm m::ow fv F::Γ) h:=H
 refine CallE.gen fun k hk=>EN_impl_explore_impl_phased_1 rfl ?_
 simp -implicitDefEqProofs (disch:=first|omega|(simp only[LnZ];omega))[wrap64,pv2,H.bxld0,setC]
 refine HS.mget (kf:=pv2) (vf:=vi) (a:=a) H.sw2 rfl rfl keyEq_2 ?_
 by_cases hf:a∈F
 ·rw[hm.get hf]
  simp -implicitDefEqProofs (disch:=first|omega|(simp only[LnZ];omega))[wrap64,vi]
  refine RetK.keep (hk _ _ ⟨fv,m,rfl,?_,?_⟩)
  ·rw[adK,if_pos hf];exact H
  ·rw[adK,if_pos hf];exact hm
 ·rw[hm.no hf]
  have hF2:=H.sw3.rep.lt
  simp -implicitDefEqProofs (disch:=first|omega|(simp only[LnZ];omega))[wrap64,vi,H.sw1.bxld0,H.sw3.rep.len,H.bxld0]
  refine HS.mput (kf:=pv2) (vf:=vi) (a:=a) (v:=(F.length:Int)) H.sw2 rfl rfl rfl keyEq_2 (hm.no hf) fun h1 H=>?_
  simp -implicitDefEqProofs (disch:=first|omega|(simp only[LnZ];omega))[wrap64,setC,H.sw2.bxld0]
  refine HS.app1 (bytes:=16) H.sw3 a rfl rfl rfl ha rfl rfl (by omega) (by omega) fun fv' h2 H=>?_
  simp -implicitDefEqProofs (disch:=omega)[wrap64]
  refine H.sw3.bxst (u:=fv') rfl rfl (by rw[H.rep.cells];rfl) (by rw[H.rep.cells];simp[H.rep.one]) (by simp[H.rep.cells]) fun h3 H=>?_
  have H:HS g (bx b7 [fv']::ow fv' (F++[a])::mpo pv2 vi bm (m++[(a,(F.length:Int))])::bx b6 [.map (some bm)]::Γ) h3:=by simpa[setC,H.sw1.rep.cells] using H
  simp -implicitDefEqProofs (disch:=omega)[wrap64]
  refine RetK.keep (hk _ _ ⟨fv',_,by rw[atK_not hf],?_,by rw[adK,if_neg hf];exact hm.add hf⟩)
  rw[adK,if_neg hf]
  exact H.sw3.under fun _ H=>H.under fun _ H=>H.sw1
def toMv2 (m:Int×Int×Int×Int):Fm.Mv:=⟨m.1,m.2.1,lf2 m.2.2⟩
set_option maxHeartbeats 4000000 in
theorem c_explore2 {g:Heap}{iv fa fm:Value}{I:List (Int×Int)}{mv:List Int→List Fm.Mv}{ac:List Int→Bool}{P:Int×Int→Prop}{K:Nat}{Mf:Int×Int→List (Int×Int×Int×Int)}
  (hK:K≤8388608) (hI:I.Nodup) (hIl:I.length≤8388608) (hP0:∀p∈I,P p) (hPok:∀p,P p→I64 p.1∧I64 p.2)
  (hMf:∀p,P p→(Mf p).map toMv2=mv (lf2 p)∧(Mf p).length≤K∧∀m∈Mf p,P m.2.2)
  (hmo:∀p,P p→∀m∈mv (lf2 p),∃c v:Nat,m.care=c∧m.value=v∧c<8∧v&&&c=v)
  {fA fM:FuncId}{a1 a2 m1 m2:List Value}(hfa:fnOf fa=some (fA,a1,a2)) (hfm:fnOf fm=some (fM,m1,m2))
  (hA:∀p h,P p→g.le h→CallE Tryz.prog fA (a1++pv2 p::a2) h (fun u h'=>h.le h'∧u=.bool (ac (lf2 p))))
  (hM:∀p h,P p→g.le h→CallE Tryz.prog fM (m1++pv2 p::m2) h (fun u h'=>HS h [ow u (Mf p)] h'))
  (R:Rep g iv I) :
  CallE Tryz.prog fn_impl_explore_impl_phased [iv,fa,fm] g (fun u h'=>∃w,u=.tuple #[w,.bool (decide (Fm.exOk mv ac (I.map lf2)))]∧HS g [ow w (Fm.exR mv ac (I.map lf2))] h'):=by
 refine CallE.gen fun k hk=>EN_impl_explore_impl_phased rfl ?_
 by_cases q0:I=[]
 ·subst q0
  have hex:Fm.exN mv ac ([].map lf2) 64=([],[],[]):=Fm.exN_nil 64
  have hok:Fm.exOk mv ac (([]:List (Int×Int)).map lf2):=by unfold Fm.exOk;rw[hex];simp
  simp -implicitDefEqProofs (disch:=first|omega|(simp only[LnZ];omega))[wrap64,R.len]
  refine HS.init.mks (α:=Bool) (z:=false) rfl rfl ⟨rfl,rfl⟩ (by omega) (by decide) (by decide) fun w h1 H=>?_
  simp -implicitDefEqProofs (disch:=first|omega|(simp only[LnZ];omega))[wrap64,setC,H.rep.cells,H.rep.one]
  refine RetK.keep (hk _ _ ⟨_,by rw[decide_eq_true hok],?_⟩)
  rw[Fm.exR,if_pos hok,Fm.exA,hex]
  exact HS.mkAut (a:=⟨[],[false],[]⟩) ((H.nil_ow (α:=Tr)).sw1.nil_ow (α:=Int))
 have q0i:¬(I.length:Int)=0:=fun e=>q0 (List.length_eq_zero_iff.1 (by omega))
 have q0n:¬I.length=0:=by omega
 simp -implicitDefEqProofs (disch:=first|omega|(simp only[LnZ];omega))[wrap64,R.len,q0i,q0n,q0]
 refine HS.init.mkm pv2 vi fun bm h1 H=>?_
 simp -implicitDefEqProofs (disch:=omega)[wrap64]
 refine H.alloc rfl fun b6 h2 H=>?_
 simp -implicitDefEqProofs (disch:=omega)[wrap64]
 refine H.bxst (u:=.map (some bm)) rfl rfl rfl rfl (by simp) fun h3 H=>?_
 have H:HS g [bx b6 [.map (some bm)],mpo pv2 vi bm []] h3:=by simpa[setC] using H
 simp -implicitDefEqProofs (disch:=omega)[wrap64]
 refine H.alloc rfl fun b7 h4 H=>?_
 have H:HS g (Tbs2 b6 b7 bm (.slice none 0 0) [] []++[]) h4:=H.nil_ow.bk3.sw1
 obtain⟨fv,hfv⟩:∃fv,fv=Value.func (.func fn_impl_explore_impl_phased_1) #[] #[.pointer (some ⟨b6,0,none⟩),.pointer (some ⟨b7,0,none⟩)]:=⟨_,rfl⟩
 have hfn:fnOf fv=some (fn_impl_explore_impl_phased_1,[],[.pointer (some ⟨b6,0,none⟩),.pointer (some ⟨b7,0,none⟩)]):=by subst hfv;rfl
 have hfc:fv.cells = #[fv]:=by subst hfv;rfl
 have hf1:fv.oneCell'=true:=by subst hfv;rfl
 simp -implicitDefEqProofs (disch:=first|omega|(simp only[LnZ];omega))[wrap64,R.len]
 rw[← hfv]
 have hLd:∀F:List (Int×Int),F.length=(F.map lf2).length:=fun F=>by simp
 refine wp_count I.length (fun i e h'=>∃(iw fw:Value) (m:List ((Int×Int)×Int)),e=[none,some fa,some fm,some (.agg #[.slice none 0 0,.slice none 0 0,.slice none 0 0]),none,some (.agg #[iw,.slice none 0 0,.slice none 0 0]),none,some (.pointer (some ⟨b7,0,none⟩)),some fv,none,none,none,some iv,some (.int .i64 I.length),some (.int .i64 i),none,none,none] ∧
  HS g (Tbs2 b6 b7 bm fw (I.take i) m++[ow iw (Fm.upto i)]) h'∧MI (I.take i) m) ⟨.slice none 0 0,.slice none 0 0,[],by simp,?_,by simpa using MI.nil⟩ ?_
 ·have:=H.nil_ow (α:=Int)
  exact this.bk4
 clear H
 rintro J i _ h5 hJ hi ⟨iw,fw,m,rfl,H,hm⟩
 simp -implicitDefEqProofs (disch:=omega)[wrap64]
 refine IteW.mk (fun hlt=>?_) (fun hge=>?_)
 ·have hlx:i<I.length:=by omega
  have hpk:=hPok _ (hP0 _ (List.getElem_mem hlx))
  have hu:=hload_le H.base (R.ldF hlx)
  change hload _ (some (elp 2 iv i)) (some 2)=some (pv2 I[i]) at hu
  have hX:=R.X (n:=2) rfl
  have hnot:I[i]∉I.take i:=fun hh=>by
   obtain⟨j,hj,e⟩:=List.mem_iff_getElem.1 hh
   simp only[List.length_take] at hj
   rw[List.getElem_take] at e
   have:=(List.getElem_inj hI).1 e
   omega
  have hat:atK (I.take i) I[i]=i:=by rw[atK_not hnot,List.length_take,Nat.min_eq_left (by omega)]
  have had:adK (I.take i) I[i]=I.take (i+1):=by rw[adK,if_neg hnot,List.take_add_one,List.getElem?_eq_getElem hlx];rfl
  simp -implicitDefEqProofs (disch:=first|omega|(simp only[LnZ];omega))[wrap64,hX,hu,pv2,setC,hfn]
  refine (c_find2 (a:=I[i]) H hm (by simp only[List.length_take];omega) hpk).go ?_
  clear H hm
  rintro _ h6 ⟨fw',m',rfl,H,hm⟩
  rw[had] at H hm
  rw[hat]
  have H:HS g (bx b6 [.map (some bm)]::bx b7 [fw']::mpo pv2 vi bm m'::ow fw' (I.take (i+1))::[ow iw (Fm.upto i)]) h6:=H
  simp -implicitDefEqProofs (disch:=first|omega|(simp only[LnZ];omega))[wrap64,setC]
  refine HS.app1 (bytes:=8) H.sw4 (i:Int) rfl rfl rfl ⟨by omega,by omega⟩ rfl rfl (by simp[Fm.upto];omega) (by simp[Fm.upto];omega) fun iw' h7 H=>?_
  simp -implicitDefEqProofs (disch:=first|omega|(simp only[LnZ];omega))[wrap64,setC,H.rep.cells,H.rep.one]
  refine hJ _ _ hlx ⟨iw',fw',m',by simp,?_,hm⟩
  rw[Fm.upto_succ]
  exact H.bk4
 obtain rfl:i=I.length:=by omega
 rw[List.take_length] at H hm
 simp -implicitDefEqProofs (disch:=omega)[wrap64]
 clear hJ J
 obtain⟨L0,hL0⟩:∃L0,L0=I.map lf2:=⟨_,rfl⟩
 have hLI:L0.length=I.length:=by rw[hL0];simp
 rw[← hL0] at hk
 have hQ0:∀x∈L0,∃p,P p∧x=lf2 p:=fun x hx=>by
  rw[hL0] at hx
  obtain⟨p,hp,rfl⟩:=List.mem_map.1 hx
  exact⟨p,hP0 p hp,rfl⟩
 have hQs:∀x,(∃p,P p∧x=lf2 p)→∀m∈mv x,∃p,P p∧m.to=lf2 p:=by
  rintro _ ⟨p,hp,rfl⟩ m hm
  rw[← (hMf p hp).1] at hm
  obtain⟨q,hq,rfl⟩:=List.mem_map.1 hm
  exact⟨q.2.2,(hMf p hp).2.2 q hq,rfl⟩
 have hQl:∀x,(∃p,P p∧x=lf2 p)→(mv x).length≤K:=by
  rintro _ ⟨p,hp,rfl⟩
  rw[← (hMf p hp).1,List.length_map]
  exact (hMf p hp).2.1
 have hbd:=Fm.exN_len (ac:=ac) hQ0 hQs hQl
 have hbad:∀{h':Heap},g.le h'→¬Fm.exOk mv ac L0→k (.tuple #[.agg #[.slice none 0 0,.slice none 0 0,.slice none 0 0],.bool false]) h':=fun hl hn=>hk _ _ ⟨_,by rw[decide_eq_false hn],by
  rw[Fm.exR,if_neg hn]
  exact HS.mkAut (a:=⟨[],[],[]⟩) (HS.nil_ow (Γ:=[]) hl).nil_ow.nil_ow⟩
 have hL0n:¬L0=[]:=fun e=>q0 (List.length_eq_zero_iff.1 (by rw[← hLI,e];rfl))
 refine wp_count 65 (fun i e h'=>∃(iw aw ew fw:Value) (m:List ((Int×Int)×Int)) (F:List (Int×Int)),e=[none,some fa,some fm,some (.agg #[.slice none 0 0,.slice none 0 0,.slice none 0 0]),none,some (.agg #[iw,aw,ew]),none,some (.pointer (some ⟨b7,0,none⟩)),some fv,none,some (.int .i64 i),none,none,none,none,none,none,none] ∧
  HS g (Tbs2 b6 b7 bm fw F m++[ow iw (Fm.upto I.length),ow aw (Fm.exN mv ac L0 i).2.1,ow ew (Fm.exN mv ac L0 i).2.2]) h'∧MI F m∧F.map lf2=(Fm.exN mv ac L0 i).1∧(∀x∈F,P x)∧i≤64∧∀m,m<i→m<(Fm.exN mv ac L0 m).1.length)
  ⟨iw,.slice none 0 0,.slice none 0 0,fw,m,I,by simp,?_,hm,hL0.symm,hP0,by omega,fun m hm=>absurd hm (Nat.not_lt_zero m)⟩ ?_
 ·exact ((H.nil_ow (α:=Tr)).bk5.nil_ow (α:=Bool)).bk5
 clear H hm m fw iw
 rintro J i _ h6 hJ hi1 ⟨iw,aw,ew,fw,m,F,rfl,H,hm,hF,hPF,hi64,hall⟩
 have hFl:F.length=(Fm.exN mv ac L0 i).1.length:=by rw[← hF];simp
 have hb1:=hbd i
 have hb2:i*K≤64*8388608:=Nat.mul_le_mul hi64 hK
 have hal:=Fm.exN_al (mv:=mv) (ac:=ac) (L0:=L0) i hall
 have H:HS g (bx b6 [.map (some bm)]::bx b7 [fw]::mpo pv2 vi bm m::ow fw F::[ow iw (Fm.upto I.length),ow aw (Fm.exN mv ac L0 i).2.1,ow ew (Fm.exN mv ac L0 i).2.2]) h6:=H
 have hew:=H.sw6.rep.lt
 by_cases q2:i<F.length
 case neg=>
  have hend:Fm.exN mv ac L0 64=Fm.exN mv ac L0 i:=Fm.exOk_end hi64 (by omega)
  have hA:Fm.exA mv ac L0=⟨Fm.upto I.length,(Fm.exN mv ac L0 i).2.1,(Fm.exN mv ac L0 i).2.2⟩:=by rw[Fm.exA,if_neg hL0n,hend,hLI]
  have hOk:(Fm.exA mv ac L0).Ok↔Fm.exOk mv ac L0:=by
   constructor
   ·intro h
    have:=h.2.1
    rw[hA] at this
    exact⟨by rw[hend];omega,by rw[hend];exact this⟩
   ·rintro⟨h1,h2⟩
    refine Fm.exA_ok h1 h2 fun x hx m hm=>?_
    obtain⟨p,hp,rfl⟩:=Fm.exN_all hQ0 hQs 64 x hx
    exact hmo p hp m hm
  have hexR:Fm.exOk mv ac L0→Fm.exR mv ac L0=Fm.exA mv ac L0:=fun h=>by rw[Fm.exR,if_pos h]
  have O1:=H.sw4.rep.one
  have O2:=H.sw5.rep.one
  have O3:=H.sw6.rep.one
  have hbf:=H.sw1.bxld0
  have hfl:=H.sw3.rep.len
  have H:=HS.mkAut (a:=⟨Fm.upto I.length,(Fm.exN mv ac L0 i).2.1,(Fm.exN mv ac L0 i).2.2⟩) H.drop.drop.drop.drop
  rw[← hA] at H
  have FA:=H.rep.aAut
  simp -implicitDefEqProofs (disch:=first|omega|(simp only[LnZ];omega))[wrap64,hbf,hfl,q2,O1,O2,O3,setC]
  refine (c_AutomatonValid H.rep).go ?_
  rintro _ h7 ⟨l7,rfl⟩
  have H:=H.le l7
  by_cases q5:Fm.exOk mv ac L0
  ·have q6:=hOk.2 q5
   have hOk3:=q6.2.1
   have hOk4:=q6.1
   simp -implicitDefEqProofs (disch:=first|omega|(simp only[LnZ];omega))[wrap64,q6,FA]
   refine (c_copyOf H.rep (by rw[hA];simp[Fm.upto];omega) (by omega) (by omega)).go ?_
   intro w h8 G
   have FW:=G.rep.aAut
   simp -implicitDefEqProofs (disch:=first|omega|(simp only[LnZ];omega))[wrap64,FW,setC]
   refine RetK.keep (hk _ _ ⟨w,by rw[decide_eq_true q5],?_⟩)
   rw[hexR q5]
   exact (G.app H).sw1.drop
  ·have q6:¬_:=fun hh=>q5 (hOk.1 hh)
   simp -implicitDefEqProofs (disch:=first|omega|(simp only[LnZ];omega))[wrap64,q6,setC]
   exact RetK.keep (hbad H.base q5)
 have hnn:(Fm.exN mv ac L0 i).1[i]? = some (lf2 F[i]):=by rw[← hF];simp[q2]
 have hsu:=Fm.exN_succ hnn
 have hPi:=hPF _ (List.getElem_mem q2)
 by_cases q3:i=64
 ·have hok:=Fm.exOk_big (mv:=mv) (ac:=ac) (L0:=L0) hi64 (.inl ⟨q3,by omega⟩)
  have q3i:(i:Int)=64:=by omega
  simp -implicitDefEqProofs (disch:=first|omega|(simp only[LnZ];omega))[wrap64,H.sw1.bxld0,H.sw3.rep.len,q2,q3i,show (64:Int)<F.length by omega,H.sw4.rep.one,H.sw5.rep.one,H.sw6.rep.one,setC]
  exact RetK.keep (hbad H.base hok)
 by_cases q4:2048<(Fm.exN mv ac L0 i).2.2.length
 ·have hok:=Fm.exOk_big (mv:=mv) (ac:=ac) (L0:=L0) hi64 (.inr q4)
  have q3i:¬(i:Int)=64:=by omega
  have q4i:(2048:Int)<(Fm.exN mv ac L0 i).2.2.length:=by omega
  simp -implicitDefEqProofs (disch:=first|omega|(simp only[LnZ];omega))[wrap64,H.sw1.bxld0,H.sw3.rep.len,q2,q3i,q4i,H.sw4.rep.one,H.sw5.rep.one,H.sw6.rep.one,H.sw6.rep.len,setC]
  exact RetK.keep (hbad H.base hok)
 have q3i:¬(i:Int)=64:=by omega
 have q4i:¬(2048:Int)<(Fm.exN mv ac L0 i).2.2.length:=by omega
 obtain⟨L,hL⟩:∃L,L=(Fm.exN mv ac L0 i).1:=⟨_,rfl⟩
 obtain⟨A,hAA⟩:∃A,A=(Fm.exN mv ac L0 i).2.1:=⟨_,rfl⟩
 obtain⟨E,hE⟩:∃E,E=(Fm.exN mv ac L0 i).2.2:=⟨_,rfl⟩
 rw[← hL] at hF hFl hb1 hsu hnn
 rw[← hAA] at H hal hsu
 rw[← hE] at H hew hsu q4 q4i
 obtain⟨p,hp⟩:∃p,p=F[i]:=⟨_,rfl⟩
 rw[← hp] at hPi hsu hnn
 have hu:hload h6 (some (elp 2 fw i)) (some 2)=some (pv2 p):=by rw[hp];exact H.sw3.rep.ldF q2
 simp -implicitDefEqProofs (disch:=first|omega|(simp only[LnZ];omega))[wrap64,H.sw1.bxld0,H.sw3.rep.len,q2,q3i,q4i,H.sw4.rep.one,H.sw5.rep.one,H.sw6.rep.one,H.sw6.rep.len,H.sw3.rep.X (n:=2) rfl,hu,hfa,setC]
 refine (hA p h6 hPi H.base).go ?_
 rintro _ h7 ⟨l7,rfl⟩
 have H:=H.le l7
 have hu:=hload_le l7 hu
 simp -implicitDefEqProofs (disch:=first|omega|(simp only[LnZ];omega))[wrap64,setC]
 refine HS.app1 (bytes:=1) H.sw5 (ac (lf2 p)) rfl rfl rfl trivial rfl rfl (by omega) (by omega) fun aw' h8 H=>?_
 have hu:hload h8 (some (elp 2 fw i)) (some 2)=some (pv2 p):=by rw[hp];exact H.sw4.rep.ldF q2
 simp -implicitDefEqProofs (disch:=first|omega|(simp only[LnZ];omega))[wrap64,setC,H.rep.cells,H.rep.one,H.sw2.bxld0,H.sw4.rep.X (n:=2) rfl,hu,hfm]
 refine (hM p h8 hPi H.base).go ?_
 intro mw h9 G
 have H:=(G.app H.bk5).bk6
 obtain⟨hM1,hM2,hM3⟩:=hMf p hPi
 obtain⟨M,hMd⟩:∃M,M=mv (lf2 p):=⟨_,rfl⟩
 rw[← hMd] at hsu hM1
 have hMl:M.length=(Mf p).length:=by rw[← hM1];simp
 have H:HS g (Tbs2 b6 b7 bm fw F m++[ow iw (Fm.upto I.length),ow aw' (A++[ac (lf2 p)]),ow mw (Mf p),ow ew E]) h9:=H
 simp -implicitDefEqProofs (disch:=first|omega|(simp only[LnZ];omega))[wrap64,G.rep.len]
 refine wp_count (Mf p).length (fun j e h'=>∃(ew fw:Value) (m:List ((Int×Int)×Int)) (F:List (Int×Int)),e=[none,some fa,some fm,some (.agg #[.slice none 0 0,.slice none 0 0,.slice none 0 0]),none,some (.agg #[iw,aw',ew]),none,some (.pointer (some ⟨b7,0,none⟩)),some fv,none,some (.int .i64 i),none,none,none,none,some mw,some (.int .i64 (Mf p).length),some (.int .i64 j)] ∧
  HS g (Tbs2 b6 b7 bm fw F m++[ow iw (Fm.upto I.length),ow aw' (A++[ac (lf2 p)]),ow mw (Mf p),ow ew (Fm.exRow i (M.take j) (L,E)).2]) h'∧MI F m∧F.map lf2=(Fm.exRow i (M.take j) (L,E)).1∧∀x∈F,P x)
  ⟨ew,fw,m,F,by simp,H,hm,hF,hPF⟩ ?_
 clear H hm hF hPF hu hFl hew G
 rintro J2 j _ h10 hJ2 hj ⟨ew,fw,m,F,rfl,H,hm,hF,hPF⟩
 simp -implicitDefEqProofs (disch:=omega)[wrap64]
 refine IteW.mk (fun hlt=>?_) (fun hge=>?_)
 ·have hjx:j<(Mf p).length:=by omega
  have hjM:j<M.length:=by omega
  have hst:=Fm.exRow_take (i:=i) (q:=(L,E)) hjM
  have hel:=(Fm.exRow_er (i:=i) (M.take j) (L,E)).el
  have hll:=Fm.exRow_len (i:=i) (M.take j) (L,E)
  simp only[List.length_take] at hel hll
  have hFl:F.length=(Fm.exRow i (M.take j) (L,E)).1.length:=by rw[← hF];simp
  have hPq:=hM3 _ (List.getElem_mem hjx)
  have hMj:M[j]=toMv2 (Mf p)[j]:=by simp only[← hM1,List.getElem_map]
  have H:HS g (bx b6 [.map (some bm)]::bx b7 [fw]::mpo pv2 vi bm m::ow fw F::[ow iw (Fm.upto I.length),ow aw' (A++[ac (lf2 p)]),ow mw (Mf p),ow ew (Fm.exRow i (M.take j) (L,E)).2]) h10:=H
  have hok:=H.sw6.rep.okF hjx
  have hu:=H.sw6.rep.ldF hjx
  have hX:=H.sw6.rep.X (n:=4) rfl
  rw[hMj] at hst
  obtain⟨q,hq⟩:∃q,q=(Mf p)[j]:=⟨_,rfl⟩
  rw[← hq] at hst hPq hok hu
  change hload _ (some (elp 4 mw j)) (some 4)=some (.agg #[.int .i64 q.1,.int .i64 q.2.1,.int .i64 q.2.2.1,.int .i64 q.2.2.2]) at hu
  have hok:I64 q.1∧I64 q.2.1∧I64 q.2.2.1∧I64 q.2.2.2:=hok
  have hat:=atK_map lf2_inj F q.2.2
  rw[hF] at hat
  have hbn:=atK_bnd (F:=F) (a:=q.2.2)
  generalize Fm.exRow i (M.take j) (L,E)=Q at *
  simp -implicitDefEqProofs (disch:=first|omega|(simp only[LnZ];omega))[wrap64,hX,hu,setC,hfn]
  refine (c_find2 (a:=q.2.2) (Γ:=[ow iw (Fm.upto I.length),ow aw' (A++[ac (lf2 p)]),ow mw (Mf p),ow ew Q.2]) H hm (by omega) (hPok _ hPq)).go ?_
  rintro _ h11 ⟨fw',m',rfl,H,hm⟩
  have H:HS g (bx b6 [.map (some bm)]::bx b7 [fw']::mpo pv2 vi bm m'::ow fw' (adK F q.2.2)::[ow iw (Fm.upto I.length),ow aw' (A++[ac (lf2 p)]),ow mw (Mf p),ow ew Q.2]) h11:=H
  simp -implicitDefEqProofs (disch:=first|omega|(simp only[LnZ];omega))[wrap64,setC]
  refine HS.app1 (bytes:=32) H.sw7 (⟨(i:Int),q.1,q.2.1,atK F q.2.2⟩:Tr) rfl rfl rfl (Tr.ok_iff.2 ⟨⟨by simp only;omega,by simp only;omega⟩,hok.1,hok.2.1,⟨by simp only;omega,by simp only;omega⟩⟩) rfl rfl (by omega) (by omega) fun ew' h12 H=>?_
  simp -implicitDefEqProofs (disch:=first|omega|(simp only[LnZ];omega))[wrap64,setC,H.rep.cells,H.rep.one]
  refine hJ2 _ _ hjx ⟨ew',fw',m',adK F q.2.2,by simp,?_,hm,by rw[hst,hat.2];rfl,adK_all hPF hPq⟩
  rw[hst]
  have:Q.2++[(⟨(i:Int),q.1,q.2.1,atK F q.2.2⟩:Tr)]=(Fm.adL Q.1 (toMv2 q).to,Q.2++[⟨(i:Int),(toMv2 q).care,(toMv2 q).value,Fm.atL Q.1 (toMv2 q).to⟩]).2:=by rw[hat.1];rfl
  rw[← this]
  exact H.sw7.sw7.sw7.sw7.sw7.sw7.sw7
 simp -implicitDefEqProofs (disch:=omega)[wrap64]
 have hsuL:(Fm.exN mv ac L0 (i+1)).2.1=A++[ac (lf2 p)]:=by rw[hsu]
 rw[List.take_of_length_le (by omega)] at H hF
 refine hJ _ _ (by omega) ⟨iw,aw',ew,fw,m,F,by simp,?_,hm,by rw[hF,hsu],hPF,by omega,fun n hn=>?_⟩
 ·rw[hsu]
  have H:HS g (bx b6 [.map (some bm)]::bx b7 [fw]::mpo pv2 vi bm m::ow fw F::[ow iw (Fm.upto I.length),ow aw' (A++[ac (lf2 p)]),ow mw (Mf p),ow ew (Fm.exRow i M (L,E)).2]) h10:=H
  exact H.under fun _ H=>H.under fun _ H=>H.under fun _ H=>H.under fun _ H=>H.under fun _ H=>H.under fun _ H=>H.drop
 ·by_cases e:n=i
  ·subst e
   have:=(List.getElem?_eq_some_iff.1 hnn).1
   rw[hL] at this
   exact this
  ·exact hall n (by omega)
namespace Fm
noncomputable def ini2 (B:List Exq) (g:Exq):Nat→List (Int×Int)
 | 0=>[]
 | n+1=>if val B n g then ini2 B g n++[((n:Int),0)] else ini2 B g n
theorem ini2_map {B:List Exq}{g:Exq}:∀n,(ini2 B g n).map lf2=ini0 B g n
 | 0=>rfl
 | n+1=>by
  have ih:=ini2_map (B:=B) (g:=g) n
  rw[ini2,ini0]
  split
  ·rw[List.map_append,ih];rfl
  ·exact ih
theorem ini2_len {B:List Exq}{g:Exq}(n:Nat):(ini2 B g n).length≤n:=by
 have:=ini0_len (B:=B) (g:=g) n
 rw[← ini2_map,List.length_map] at this
 exact this
theorem ini2_mem {B:List Exq}{g:Exq}{n:Nat}{p:Int×Int}(h:p∈ini2 B g n):∃s:Nat,s<n∧p=((s:Int),0):=by
 have h1:lf2 p∈ini0 B g n:=by rw[← ini2_map];exact List.mem_map.2 ⟨p,h,rfl⟩
 obtain⟨s,h2,h3,_⟩:=ini0_mem.1 h1
 exact⟨s,h2,lf2_inj _ _ h3⟩
theorem ini2_nodup {B:List Exq}{g:Exq}:∀n,(ini2 B g n).Nodup
 | 0=>by simp[ini2]
 | n+1=>by
  have ih:=ini2_nodup (B:=B) (g:=g) n
  rw[ini2]
  split
  ·rw[List.nodup_append]
   refine⟨ih,by simp,fun x hx y hy=>?_⟩
   rw[List.mem_singleton] at hy
   subst hy
   rintro rfl
   obtain⟨s,h1,h2⟩:=ini2_mem hx
   simp only[Prod.mk.injEq] at h2
   omega
  ·exact ih
theorem ltv_sub' {B:List Exq}{s:Nat}:ltv B s B.length&&&ltc B B.length=ltv B s B.length:=by
 refine Nat.eq_of_testBit_eq fun a=>?_
 rw[Nat.testBit_and]
 cases h:(ltv B s B.length).testBit a with
 | false=>rfl
 | true=>
  obtain⟨i,hi,h1,h2,_,h4⟩:=(ltv_bit _ (Nat.le_refl _)).1 h
  rw[(ltc_bit _ (Nat.le_refl _)).2 ⟨i,hi,h1,h2,h4⟩]
  rfl
theorem exOk_tr {x:Exq}:trOk x↔bOk x∧exOk (mvT (basics x) (unt (basics x) (basics x).length)) (acT (basics x) (unt (basics x) (basics x).length)) (ini0 (basics x) (push x false) (2^(basics x).length)):=by
 rw[trOk_ex]
 constructor
 ·rintro⟨h1,h2⟩
  refine⟨h1,h2,?_⟩
  have hp:2^(basics x).length≤2^5:=Nat.pow_le_pow_right (by omega) h1.2
  have:=exN_edges (mv:=mvT (basics x) (unt (basics x) (basics x).length)) (ac:=acT (basics x) (unt (basics x) (basics x).length)) (L0:=ini0 (basics x) (push x false) (2^(basics x).length)) (fun _=>mvT_len) 64
  omega
 ·rintro⟨h1,h2,_⟩
  exact⟨h1,h2⟩
end Fm
theorem c_accT {h:Heap}{w uv:Value}{B:List Exq}{bT bt s:Nat}{p:Int}(hB:Fm.Bc B) (hn5:B.length≤5) (hs:s<4611686018427387904) (hp:Fm.POk (Fm.unt B B.length) p) (R:Rep h w B) (RU:Rep h uv (Fm.unt B B.length))
  (hbT:hload h (some (.pointer (some ⟨bT,0,none⟩))) none=some (.pointer (some ⟨bt,0,none⟩)))
  (hbt:hload h (some (.pointer (some ⟨bt,0,none⟩))) none=some w) (hbu:hload h (some (.pointer (some ⟨bt,1,none⟩))) none=some uv) :
  CallE Tryz.prog fn_impl_TranslateFormula_1 [.agg #[.int .i64 s,.int .i64 p],.pointer (some ⟨bT,0,none⟩)] h (fun u h'=>h.le h'∧u=.bool (Fm.phs B (Fm.unt B B.length) s p).2):=by
 have hum:∀{u:Int},u∈Fm.unt B B.length→_:=fun h=>Fm.unt_mem h
 refine CallE.gen fun k hk=>EN_impl_TranslateFormula_1 rfl ?_
 unfold Fm.phs at hk
 generalize Fm.unt B B.length=U at *
 by_cases q0:U.length=0
 ·rw[if_pos q0] at hk
  have q0':U=[]:=List.length_eq_zero_iff.1 q0
  simp -implicitDefEqProofs (disch:=first|omega|(simp only[LnZ];omega))[wrap64,setC,hbT,hbu,RU.len,q0,q0']
  exact RetK.keep (hk _ _ ⟨Heap.le.refl _,rfl⟩)
 rw[if_neg q0] at hk
 have q0':¬U=[]:=fun e=>q0 (by rw[e];rfl)
 have q0i:¬(U.length:Int)=0:=by omega
 by_cases qp:p=0
 case neg=>
  simp -implicitDefEqProofs (disch:=first|omega|(simp only[LnZ];omega))[wrap64,setC,hbT,hbu,RU.len,q0,q0',q0i,qp]
  refine RetK.keep (hk _ _ ⟨Heap.le.refl _,?_⟩)
  split
  ·simp[qp]
  ·rfl
 subst qp
 have hnU:0<U.length:=by omega
 obtain⟨m,hm1,hm2,hm3⟩:=hum (List.getElem_mem hnU)
 have e1:U.getD (0:Int).toNat 0=(m:Int):=by rw[Int.toNat_zero,List.getD_eq_getElem?_getD,List.getElem?_eq_getElem hnU,← hm1];rfl
 have hm3':B[m].kind=7:=by rw[← hm3];simp[hm2]
 rw[e1] at hk
 simp -implicitDefEqProofs (disch:=first|omega|(simp only[LnZ];omega))[wrap64,setC,hbT,hbu,RU.len,q0,q0',q0i]
 refine (c_fulfils (p:=0) hB hn5 hs hnU hm1 hm2 hm3' R RU hbt hbu).go ?_
 rintro _ h2 ⟨l2,rfl⟩
 cases hf:Fm.ful B s m with
 | true=>
  rw[hf] at hk
  simp -implicitDefEqProofs (disch:=first|omega|(simp only[LnZ];omega))[wrap64,hf]
  exact RetK.keep (hk _ _ ⟨l2,by simp⟩)
 | false=>
  rw[hf] at hk
  simp -implicitDefEqProofs (disch:=first|omega|(simp only[LnZ];omega))[wrap64,hf]
  exact RetK.keep (hk _ _ ⟨l2,by simp⟩)
theorem c_TranslateFormula {h:Heap}{v:Value}{x:Exq}(R:Rep h v x):CallE Tryz.prog fn_impl_TranslateFormula [v] h (fun u h'=>∃w,u=.tuple #[w,.bool (decide (Fm.trOk x))]∧HS h [ow w (Fm.trR x)] h'):=by
 have FX:=R.aExq
 refine CallE.gen fun k hk=>EN_impl_TranslateFormula rfl ?_
 simp -implicitDefEqProofs (disch:=first|omega|(simp only[LnZ];omega))[wrap64,FX]
 refine (c_BasicFormulas R).go ?_
 rintro _ h1 ⟨w,rfl,l1,RB⟩
 by_cases q1:Fm.bOk x
 case neg=>
  simp -implicitDefEqProofs (disch:=first|omega|(simp only[LnZ];omega))[wrap64,q1,setC]
  refine RetK.keep (hk _ _ ⟨_,by rw[decide_eq_false (fun hh=>q1 hh.1)],?_⟩)
  rw[Fm.trR,if_neg (fun hh=>q1 hh.1)]
  exact HS.mkAut (a:=⟨[],[],[]⟩) (HS.nil_ow (Γ:=[]) l1).nil_ow.nil_ow
 rw[Fm.basR,if_pos q1] at RB
 simp -implicitDefEqProofs (disch:=first|omega|(simp only[LnZ];omega))[wrap64,q1,FX]
 refine (c_Formula_normalForm (R.le l1) q1.1.1).go ?_
 rintro _ h2 ⟨gu,rfl,l2,RG⟩
 rw[Fm.nfR,if_pos q1.1] at RG
 have FG:=RG.aExq
 have RB:=RB.le l2
 have hB:=Fm.basics_bc q1
 have hn5:=q1.2
 have hcl:=Fm.basics_cl q1.1
 have htO:=Fm.exOk_tr (x:=x)
 have htR:Fm.trOk x→Fm.trA x=_:=fun h=>Fm.trA_ex h
 have hl12:=l1.trans l2
 generalize Fm.basics x=B at *
 generalize Fm.push x false=G at *
 simp -implicitDefEqProofs (disch:=first|omega|(simp only[LnZ];omega))[wrap64,FG,setC,RB.one,RB.cells]
 refine (HS.init (h:=h2)).alloc rfl fun bt h3 H=>?_
 simp -implicitDefEqProofs (disch:=omega)[wrap64]
 refine H.alloc rfl fun bT h4 H=>?_
 simp -implicitDefEqProofs (disch:=omega)[wrap64]
 refine H.bxst (u:=.pointer (some ⟨bt,0,none⟩)) rfl rfl rfl rfl (by simp) fun h5 H=>?_
 have H:HS h2 [bx bT [.pointer (some ⟨bt,0,none⟩)],bx bt [w,.slice none 0 0]] h5:=by simpa[setC] using H
 simp -implicitDefEqProofs (disch:=first|omega|(simp only[LnZ];omega))[wrap64,RB.len]
 refine wp_count B.length (fun i e h'=>∃uv,e=[none,none,some (.agg #[.slice none 0 0,.slice none 0 0,.slice none 0 0]),none,some w,none,some gu,some (.pointer (some ⟨bT,0,none⟩)),none,none,none,none,none,some w,some (.int .i64 B.length),some (.int .i64 i),none,none] ∧
  HS h2 [bx bT [.pointer (some ⟨bt,0,none⟩)],bx bt [w,uv],ow uv (Fm.unt B i)] h') ⟨.slice none 0 0,by simp,by simpa[Fm.unt] using (H.nil_ow (α:=Int)).bk2⟩ ?_
 clear H
 rintro J i _ h6 hJ hi ⟨uv,rfl,H⟩
 simp -implicitDefEqProofs (disch:=omega)[wrap64]
 refine IteW.mk (fun hlt=>?_) (fun hge=>?_)
 ·have hlx:i<B.length:=by omega
  have e:B.getD i Exq.zero=B[i]:=by simp[hlx]
  have hu1:Fm.unt B (i+1)=if B[i].kind=7 then Fm.unt B i++[(i:Int)] else Fm.unt B i:=by rw[Fm.unt,e]
  have hul:=Fm.unt_len (B:=B) i
  obtain⟨u,hu,Ru⟩:=RB.ld hlx
  have hu':=hload_le H.base hu
  change hload _ (some (elp 3 w i)) (some 3)=some u at hu'
  obtain⟨wk,rfl,k1,k2,R1⟩:=Rep_Exq.1 Ru
  have hX:=RB.X (n:=3) rfl
  have kO:=R1.one
  have hbu:hload h6 (some (.pointer (some ⟨bt,1,none⟩))) none=some uv:=H.sw1.bxld (o:=1) rfl
  by_cases c7:B[i].kind=7
  ·rw[if_pos c7] at hu1
   simp -implicitDefEqProofs (disch:=first|omega|(simp only[LnZ];omega))[wrap64,hX,hu',setC,kO,c7,H.bxld0,hbu]
   refine HS.app1 (bytes:=8) H.sw2 (i:Int) rfl rfl rfl ⟨by omega,by omega⟩ rfl rfl (by omega) (by omega) fun uv' h7 H=>?_
   simp -implicitDefEqProofs (disch:=first|omega|(simp only[LnZ];omega))[wrap64,H.sw1.bxld0]
   refine H.sw2.bxst (o:=1) (u:=uv') rfl rfl (by rw[H.rep.cells];rfl) (by rw[H.rep.cells];simp[H.rep.one]) (by simp[H.rep.cells]) fun h8 H=>?_
   have H:HS h2 [bx bt [w,uv'],ow uv' (Fm.unt B i++[(i:Int)]),bx bT [.pointer (some ⟨bt,0,none⟩)]] h8:=by simpa[setC,H.sw1.rep.cells] using H
   simp -implicitDefEqProofs (disch:=omega)[wrap64]
   exact hJ _ _ hlx ⟨uv',by simp,by rw[hu1];exact H.sw2⟩
  ·rw[if_neg c7] at hu1
   simp -implicitDefEqProofs (disch:=first|omega|(simp only[LnZ];omega))[wrap64,hX,hu',setC,kO,c7]
   exact hJ _ _ hlx ⟨uv,by simp,by rw[hu1];exact H⟩
 obtain rfl:i=B.length:=by omega
 have hc32:2^B.length≤32:=Nat.pow_le_pow_right (n:=2) (by omega) hn5
 have hcnt:shlI .i64 1 (B.length:Int)=((2^B.length:Nat):Int):=by rw[i64_shl1 (by omega),Nat.shiftLeft_eq,Nat.one_mul]
 have hcw:IntKind.u64.wrap (B.length:Int)=B.length:=u64_pos (by omega) (by omega)
 have hcw0:¬(B.length:Int)<0:=by omega
 obtain⟨c,hc⟩:∃c,c=2^B.length:=⟨_,rfl⟩
 rw[← hc] at hcnt hc32 htO htR
 have hb0:=H.bxld0
 have hbt:hload h6 (some (.pointer (some ⟨bt,0,none⟩))) none=some w:=H.sw1.bxld (o:=0) rfl
 have hbu:hload h6 (some (.pointer (some ⟨bt,1,none⟩))) none=some uv:=H.sw1.bxld (o:=1) rfl
 have RU:=H.sw2.rep
 have lb:=H.base
 have RB:=RB.le lb
 have RG:=RG.le lb
 clear H hJ
 simp -implicitDefEqProofs (disch:=first|omega|(simp only[LnZ];omega))[wrap64,RB.len,hcnt,hcw,hcw0]
 clear J
 refine wp_count c (fun n e h'=>∃iv,e=[none,none,some (.agg #[.slice none 0 0,.slice none 0 0,.slice none 0 0]),none,none,none,some gu,some (.pointer (some ⟨bT,0,none⟩)),none,none,some iv,none,none,none,none,none,some (.int .i64 c),some (.int .i64 n)] ∧
  HS h6 [ow iv (Fm.ini2 B G n)] h') ⟨.slice none 0 0,by simp,HS.init.nil_ow⟩ ?_
 rintro J n _ h7 hJ hn ⟨iv,rfl,H⟩
 simp -implicitDefEqProofs (disch:=omega)[wrap64]
 refine IteW.mk (fun hlt=>?_) (fun hge=>?_)
 ·have hnc:n<c:=by omega
  have hin:Fm.ini2 B G (n+1)=if Fm.val B n G then Fm.ini2 B G n++[((n:Int),0)] else Fm.ini2 B G n:=rfl
  have hil:=Fm.ini2_len (B:=B) (g:=G) n
  simp -implicitDefEqProofs (disch:=first|omega|(simp only[LnZ];omega))[wrap64,hload_le H.base hb0,RG.aExq]
  refine (c_holds (s:=n) (Bc_bas hB) (by omega) G hcl (RG.on H) (RB.on H) (hload_le H.base hbt)).go ?_
  rintro _ h8 ⟨l8,rfl⟩
  have H:=H.le l8
  cases hv:Fm.val B n G with
  | false=>
   rw[hv,if_neg (by decide)] at hin
   simp -implicitDefEqProofs (disch:=first|omega|(simp only[LnZ];omega))[wrap64,hv]
   exact hJ _ _ hnc ⟨iv,by simp,by rw[hin];exact H⟩
  | true=>
   rw[hv,if_pos rfl] at hin
   have hok:I64 (n:Int)∧I64 0:=⟨⟨by omega,by omega⟩,⟨by omega,by omega⟩⟩
   simp -implicitDefEqProofs (disch:=first|omega|(simp only[LnZ];omega))[wrap64,hv,setC]
   refine HS.app1 (bytes:=16) H ((n:Int),(0:Int)) rfl rfl rfl hok rfl rfl (by omega) (by omega) fun iv' h9 H=>?_
   simp -implicitDefEqProofs (disch:=omega)[wrap64]
   exact hJ _ _ hnc ⟨iv',by simp,by rw[hin];exact H⟩
 obtain rfl:n=c:=by omega
 have lb2:=H.base
 have RI:=H.rep
 have RB:=RB.le lb2
 have RU:=RU.le lb2
 have hb0:=hload_le lb2 hb0
 have hbt:=hload_le lb2 hbt
 have hbu:=hload_le lb2 hbu
 have lf:=hl12.trans (lb.trans lb2)
 have hpo:∀{s:Nat}{q:Int},Fm.POk (Fm.unt B B.length) q→Fm.POk (Fm.unt B B.length) (Fm.phs B (Fm.unt B B.length) s q).1:=fun h=>Fm.phs_ok h
 have hul:=Fm.unt_len (B:=B) B.length
 have hsh:∀y∈B,Fm.Shp 6 y:=fun y hy=>(hB.2 y hy).1
 simp -implicitDefEqProofs (disch:=first|omega|(simp only[LnZ];omega))[wrap64,hb0]
 refine (c_explore2 (g:=h7) (I:=Fm.ini2 B G n) (mv:=Fm.mvT B (Fm.unt B B.length)) (ac:=Fm.acT B (Fm.unt B B.length)) (P:=fun p=>∃s:Nat,p.1=s∧s<n∧Fm.POk (Fm.unt B B.length) p.2) (K:=n) (Mf:=fun p=>Fm.tmv B p.1.toNat (Fm.phs B (Fm.unt B B.length) p.1.toNat p.2).1 n)
  (by omega) (Fm.ini2_nodup n) (by have:=Fm.ini2_len (B:=B) (g:=G) n;omega) ?_ ?_ ?_ ?_
  (fA:=fn_impl_TranslateFormula_1) (a1:=[]) (a2:=[.pointer (some ⟨bT,0,none⟩)]) (fM:=fn_impl_translator_moves) (m1:=[.pointer (some ⟨bt,0,none⟩)]) (m2:=[]) rfl rfl ?_ ?_ RI).go ?_
 ·intro p hp
  obtain⟨s,h1,rfl⟩:=Fm.ini2_mem hp
  exact⟨s,rfl,h1,by simp,.inr rfl⟩
 ·rintro⟨p1,p2⟩ ⟨s,rfl,h1,h2,h3⟩
  simp only at h2 h3
  exact⟨⟨by simp only;omega,by simp only;omega⟩,⟨by simp only;omega,by simp only;omega⟩⟩
 ·rintro⟨p1,p2⟩ ⟨s,rfl,h1,h2⟩
  refine⟨?_,Fm.tmv_len,fun m hm=>?_⟩
  ·have:=Fm.tmv_mvS (B:=B) (s:=s) (p:=(Fm.phs B (Fm.unt B B.length) s p2).1) (m:=n)
   rw[hc] at this ⊢
   exact this
  ·unfold Fm.tmv at hm
   obtain⟨t,ht,rfl⟩:=List.mem_map.1 hm
   have h3:=List.mem_range.1 (List.mem_filter.1 ht).1
   exact⟨t,rfl,h3,hpo h2⟩
 ·rintro⟨p1,p2⟩ ⟨s,rfl,h1,h2⟩ m hm
  unfold Fm.mvT Fm.mvS at hm
  obtain⟨t,_,rfl⟩:=List.mem_map.1 hm
  exact⟨_,_,rfl,rfl,Fm.ltc_lt hsh _ (Nat.le_refl _),Fm.ltv_sub'⟩
 ·rintro⟨p1,p2⟩ h8 ⟨s,rfl,h1,h2⟩ l8
  exact c_accT (s:=s) hB hn5 (by omega) h2 (RB.le l8) (RU.le l8) (hload_le l8 hb0) (hload_le l8 hbt) (hload_le l8 hbu)
 ·rintro⟨p1,p2⟩ h8 ⟨s,rfl,h1,h2⟩ l8
  have:=c_moves (s:=s) (p:=p2) hB hn5 (by omega) h2 (RB.le l8) (RU.le l8) (hload_le l8 hbt) (hload_le l8 hbu)
  rw[← hc] at this
  exact this
 rintro _ h8 ⟨w2,rfl,H⟩
 rw[Fm.ini2_map] at H ⊢
 simp -implicitDefEqProofs (disch:=first|omega|(simp only[LnZ];omega))[wrap64,H.rep.aAut,setC]
 have hiff:Fm.trOk x↔Fm.exOk (Fm.mvT B (Fm.unt B B.length)) (Fm.acT B (Fm.unt B B.length)) (Fm.ini0 B G n):=⟨fun h=>(htO.1 h).2,fun h=>htO.2 ⟨q1,h⟩⟩
 refine RetK.keep (hk _ _ ⟨w2,by rw[decide_eq_decide.2 hiff],?_⟩)
 have hR:Fm.trR x=Fm.exR (Fm.mvT B (Fm.unt B B.length)) (Fm.acT B (Fm.unt B B.length)) (Fm.ini0 B G n):=by
  by_cases q:Fm.trOk x
  ·rw[Fm.trR,if_pos q,htR q,Fm.exR,if_pos (hiff.1 q)]
  ·rw[Fm.trR,if_neg q,Fm.exR,if_neg (fun hh=>q (hiff.2 hh))]
 rw[hR]
 exact HS.app (Γ:=[]) H lf
set_option maxHeartbeats 1000000 in
theorem c_accepts {h:Heap}{v w:Value}{a:Aut}{l:Las}(Ra:Rep h v a) (Rl:Rep h w l) (ha:a.Ok) (hl:l.Ok):CallE Tryz.prog fn_impl_Automaton_accepts [v,w] h (fun u h'=>h.le h'∧∃r:Bool,u=.bool r∧(r=true↔a.Acc l)):=by
 obtain⟨v1,v2,v3,rfl,R1,R2,R3⟩:=Rep_Aut.1 Ra
 have hn:=ha.n
 have he:=ha.e
 have hl1:=hl.2.1
 have hl2:=hl.2.2.1
 have hl3:=hl.2.2.2
 have hsz:l.size=l.stem.length+l.loop.length:=rfl
 have FL:=Rl.aLas
 have hSn:l.size*a.acc.length≤160*64:=Nat.mul_le_mul (by omega) hn.2
 refine CallE.gen fun k hk=>EN_impl_Automaton_accepts rfl ?_
 simp -implicitDefEqProofs (disch:=first|omega|(simp only[LnZ];omega))[wrap64,FL,R2.len]
 refine (c_all Rl (by omega) (by omega)).go ?_
 intro wd h1 H
 have hal:=Las.all_len (l:=l)
 obtain⟨N,hN⟩:∃N,N=l.size*a.acc.length:=⟨_,rfl⟩
 have hmul:(l.size:Int)*a.acc.length=(N:Int):=by rw[hN];simp
 simp -implicitDefEqProofs (disch:=first|omega|(simp only[LnZ];omega))[wrap64,(R2.on H).len,H.rep.len,hal,hmul]
 refine H.mks (α:=List Int) (z:=[]) (n:=N) (c:=N) rfl rfl own_nils (Nat.le_refl _) (by omega) (by omega) fun nx h2 H=>?_
 simp -implicitDefEqProofs (disch:=first|omega|(simp only[LnZ];omega))[wrap64,H.sw1.rep.len,hal]
 refine wp_count l.size (fun i e h'=>∃G,e=[none,none,some (.agg #[v1,v2,v3]),some w,none,none,some (.int .i64 a.acc.length),some nx,none,none,none,none,none,none,some wd,some (.int .i64 l.size),some (.int .i64 i),none,none,none,none,none,none]∧HS h [ow nx G,ow wd l.all] h'∧GI N (i*2048) (a.PK l i 0) G) ⟨_,by simp,H,by
  have:(0:Nat)*2048=0:=by omega
  rw[this]
  exact GI.zero.congr (Nat.le_refl _) fun x y=>⟨False.elim,fun ⟨m,hm,j,_,h,_⟩=>by omega⟩⟩ ?_
 clear H
 rintro J i _ h3 hJ hi ⟨G,rfl,H,hG⟩
 simp -implicitDefEqProofs (disch:=omega)[wrap64]
 refine IteW.mk (fun hlt=>?_) (fun hge=>?_)
 ·have his:i<l.size:=by omega
  have hial:i<l.all.length:=by omega
  have hlet:l.all.getD i 0=l.all[i]:=by simp[hial]
  have hX:=H.sw1.rep.I
  simp -implicitDefEqProofs (disch:=first|omega|(simp only[LnZ];omega))[wrap64,hX,(R3.on H).len]
  refine wp_count a.edges.length (fun k e h'=>∃G,e=[none,none,some (.agg #[v1,v2,v3]),some w,none,none,some (.int .i64 a.acc.length),some nx,some (.int .i64 i),some (.int .i64 l.all[i]),none,none,none,none,some wd,some (.int .i64 l.size),some (.int .i64 i),some v3,some (.int .i64 a.edges.length),some (.int .i64 k),none,none,none]∧HS h [ow nx G,ow wd l.all] h'∧GI N (i*2048+k) (a.PK l i k) G) ⟨G,by simp,H,hG⟩ ?_
  clear H hG
  rintro J2 k _ h4 hJ2 hk2 ⟨G,rfl,H,hG⟩
  simp -implicitDefEqProofs (disch:=omega)[wrap64]
  refine IteW.mk (fun hlt2=>?_) (fun hge2=>?_)
  ·have hkx:k<a.edges.length:=by omega
   have hx:=ha.t hkx
   have hv:=R3.okTr hkx
   unfold Tr.Ok at hx
   have hstep:=fun x y=>PK_step (a:=a) (l:=l) (x:=x) (y:=y) his hkx
   rw[hlet] at hstep
   simp -implicitDefEqProofs (disch:=first|omega|(simp only[LnZ];omega))[wrap64,(R3.on H).xTr,Tr.v,setC]
   refine (c_takes (t:=a.edges[k]) (Rep_Tr.2 ⟨rfl,hv⟩)).go ?_
   rintro _ _ ⟨rfl,rfl⟩
   cases ho:a.edges[k].on l.all[i] with
   | false=>
    simp -implicitDefEqProofs (disch:=first|omega|(simp only[LnZ];omega))[wrap64,ho]
    refine hJ2 _ _ hkx ⟨G,by simp,H,hG.congr (by omega) fun x y=>?_⟩
    rw[hstep,ho]
    simp
   | true=>
    obtain⟨f,hf⟩:∃f:Nat,a.edges[k].frm=f:=⟨a.edges[k].frm.toNat,by omega⟩
    obtain⟨t,ht⟩:∃t:Nat,a.edges[k].to=t:=⟨a.edges[k].to.toNat,by omega⟩
    have hfn:f<a.acc.length:=by omega
    have htn:t<a.acc.length:=by omega
    have hnxl:=Las.nx_lt hl2 his
    have hx1:=at_lt hfn his
    have hy1:=at_lt htn hnxl
    have e3:(i:Int)*a.acc.length=((i*a.acc.length:Nat):Int):=by simp
    have e4:((l.nx i:Nat):Int)*a.acc.length=((l.nx i*a.acc.length:Nat):Int):=by simp
    obtain⟨X,hX1⟩:∃X,X=i*a.acc.length+f:=⟨_,rfl⟩
    obtain⟨Y,hY1⟩:∃Y,Y=l.nx i*a.acc.length+t:=⟨_,rfl⟩
    obtain⟨p,hp⟩:∃p,p=i*a.acc.length:=⟨_,rfl⟩
    obtain⟨q,hq⟩:∃q,q=l.nx i*a.acc.length:=⟨_,rfl⟩
    have hXG:X<G.length:=by rw[hG.len];omega
    have hrow:=hG.row X hXG
    have e5:(p:Int)+f=X:=by omega
    have e6:(q:Int)+t=Y:=by omega
    rw[← hp] at e3
    rw[← hq] at e4
    obtain⟨u,hu,HT⟩:=H.take hXG
    change hload _ (some (elp 1 nx X)) none=some u at hu
    have RL:=Rl.on HT
    have hadd:G[X]++[(Y:Int)]=G[X]++[(Y:Int)]:=rfl
    simp -implicitDefEqProofs (disch:=first|omega|(simp only[LnZ];omega))[wrap64,ho,hf,ht,e3,e5,HT.sw1.holeia (n:=1) rfl,hu,RL.aLas]
    refine (c_nextL RL (by omega) (by omega) his).go ?_
    rintro _ _ ⟨rfl,rfl⟩
    simp -implicitDefEqProofs (disch:=first|omega|(simp only[LnZ];omega))[wrap64,hf,ht,e3,e5,e4,e6,HT.sw1.holeia (n:=1) rfl,hu]
    refine HT.app1 (Y:Int) rfl rfl rfl ⟨by omega,by omega⟩ rfl rfl (by omega) (by omega) fun u' h5 H=>?_
    simp -implicitDefEqProofs (disch:=first|omega|(simp only[LnZ];omega))[wrap64,H.sw1.holeia (n:=1) rfl]
    refine H.storeH rfl rfl rfl fun h6 H=>?_
    simp -implicitDefEqProofs (disch:=omega)[wrap64]
    refine hJ2 _ _ hkx ⟨_,by simp,H,(hG.add hXG).congr (by omega) fun x y=>?_⟩
    rw[hstep,ho,hf,ht,Int.toNat_natCast,Int.toNat_natCast,hX1,hY1]
    simp
  ·simp -implicitDefEqProofs (disch:=omega)[wrap64]
   exact hJ _ _ his ⟨G,by simp,H,hG.congr (by omega) fun x y=>PK_next (by omega)⟩
 have hG':GI N (i*2048) (a.PE l) G:=hG.congr (Nat.le_refl _) fun x y=>PK_all (by omega)
 have hAdj:Adj (a.PE l) G:=⟨fun x y hxy=>by
  have:=Aut.PE_lt ha hl2 hxy
  rw[hG'.len,hN];exact this,hG'.mem⟩
 have hGl:=hG'.len
 simp -implicitDefEqProofs (disch:=omega)[wrap64]
 refine (c_cyclic H.rep hAdj (by omega)).go ?_
 rintro c h4 ⟨C,H2,hCl,hC⟩
 have H:=H2.app H
 simp -implicitDefEqProofs (disch:=omega)[wrap64]
 have hi1:∀z∈a.init,0≤z∧z<(G.length:Int):=by
  intro z hz
  have h5:=incr_mem ha.i z hz
  have:1*a.acc.length≤l.size*a.acc.length:=Nat.mul_le_mul_right _ (by omega)
  omega
 have hil:=ha.il
 refine (c_reachable H.sw1.rep (R1.on H) hAdj hi1 (by omega) (by omega)).go ?_
 rintro r h5 ⟨B,H5,hBl,hB⟩
 have H:=H5.app H
 have hacc:∀x,x<G.length→(tru B x∧tru C x∧tru a.acc (x%a.acc.length)↔(∃s:Nat,(s:Int)∈a.init∧Rch (a.PE l) s x)∧Cyc (a.PE l) x∧tru a.acc (x%a.acc.length)):=fun x hx=>by rw[hB,hC x hx]
 simp -implicitDefEqProofs (disch:=first|omega|(simp only[LnZ];omega))[wrap64,H.rep.len]
 refine wp_count G.length (fun k e h'=>e=[none,none,some (.agg #[v1,v2,v3]),none,none,none,some (.int .i64 a.acc.length),none,none,none,none,some c,none,none,none,none,none,none,none,none,some r,some (.int .i64 G.length),some (.int .i64 k)]∧h'=h5∧∀x,x<k→¬(tru B x∧tru C x∧tru a.acc (x%a.acc.length))) ⟨by simp[hBl],rfl,fun x hx=>absurd hx (Nat.not_lt_zero x)⟩ ?_
 rintro J3 k _ h6 hJ3 hk3 ⟨rfl,rfl,hno⟩
 simp -implicitDefEqProofs (disch:=omega)[wrap64]
 refine IteW.mk (fun hlt2=>?_) (fun hge2=>?_)
 ·have hkn:k<G.length:=by omega
  have hmod:k%a.acc.length<a.acc.length:=Nat.mod_lt _ (by omega)
  have hmodi:(k:Int).tmod a.acc.length=((k%a.acc.length:Nat):Int):=by first | exact (Int.ofNat_tmod _ _).symm | exact (Int.natCast_tmod _ _).symm | simp
  have hmodi2:(k:Int)%a.acc.length=((k%a.acc.length:Nat):Int):=by simp
  obtain⟨m,hm⟩:∃m,m=k%a.acc.length:=⟨_,rfl⟩
  rw[← hm] at hmod hmodi hmodi2
  have hn0:¬(a.acc.length:Int)=0:=by omega
  have hn0':¬a.acc=[]:=fun e=>by rw[e] at hn;simp at hn
  have tB:tru B k↔B[k]'(by omega)=true:=tru_get (by omega)
  have tC:tru C k↔C[k]'(by omega)=true:=tru_get (by omega)
  have tA:tru a.acc (k%a.acc.length)↔a.acc[m]=true:=by rw[← hm];exact tru_get hmod
  have next:¬(tru B k∧tru C k∧tru a.acc (k%a.acc.length))→∀x,x<k+1→¬(tru B x∧tru C x∧tru a.acc (x%a.acc.length)):=fun hh x hx=>by
   by_cases e:x=k
   ·subst e;exact hh
   ·exact hno x (by omega)
  cases b1:B[k]'(by omega) with
  | false=>
   simp -implicitDefEqProofs (disch:=first|omega|(simp only[LnZ];omega))[wrap64,H.rep.B,b1]
   exact hJ3 _ _ hkn ⟨by simp,rfl,next fun hh=>by have:=tB.1 hh.1;rw[b1] at this;exact absurd this (by decide)⟩
  | true=>
  cases b2:C[k]'(by omega) with
  | false=>
   simp -implicitDefEqProofs (disch:=first|omega|(simp only[LnZ];omega))[wrap64,H.rep.B,b1,H.sw1.rep.B,b2]
   exact hJ3 _ _ hkn ⟨by simp,rfl,next fun hh=>by have:=tC.1 hh.2.1;rw[b2] at this;exact absurd this (by decide)⟩
  | true=>
  cases b3:a.acc[m] with
  | false=>
   simp -implicitDefEqProofs (disch:=first|omega|(simp only[LnZ];omega))[wrap64,H.rep.B,b1,H.sw1.rep.B,b2,hmodi,hmodi2,hn0,hn0',(R2.on H).B,b3]
   exact hJ3 _ _ hkn ⟨by simp,rfl,next fun hh=>by have:=tA.1 hh.2.2;rw[b3] at this;exact absurd this (by decide)⟩
  | true=>
   simp -implicitDefEqProofs (disch:=first|omega|(simp only[LnZ];omega))[wrap64,H.rep.B,b1,H.sw1.rep.B,b2,hmodi,hmodi2,hn0,hn0',(R2.on H).B,b3]
   refine RetK.keep (hk _ _ ⟨H.base,true,rfl,?_⟩)
   simp only[true_iff]
   obtain⟨⟨s,h7,h8⟩,h9,h10⟩:=(hacc k hkn).1 ⟨tB.2 b1,tC.2 b2,tA.2 b3⟩
   exact⟨s,h7,k,h8,h9,h10⟩
 ·simp -implicitDefEqProofs (disch:=omega)[wrap64]
  refine RetK.keep (hk _ _ ⟨H.base,false,rfl,?_⟩)
  simp only[Bool.false_eq_true,false_iff]
  rintro⟨s,h7,x,h8,h9,h10⟩
  have hxl:x<G.length:=by
   obtain⟨y,h11,_⟩:=h9
   exact (hAdj.lt x y h11).1
  exact hno x (by omega) ((hacc x hxl).2 ⟨⟨s,h7,h8⟩,h9,h10⟩)
noncomputable def Aut.accB (a:Aut) (l:Las):Bool:=@decide (a.Ok∧l.Ok∧a.Acc l) (Classical.propDecidable _)
theorem c_Accepts {h:Heap}{v w:Value}{a:Aut}{l:Las}(Ra:Rep h v a) (Rl:Rep h w l):CallE Tryz.prog fn_impl_Accepts [v,w] h (fun u h'=>h.le h'∧u=.tuple #[.bool (a.accB l),.bool (decide (a.Ok∧l.Ok))]):=by
 have FA:=Ra.aAut
 have FL:=Rl.aLas
 refine CallE.gen fun k hk=>EN_impl_Accepts rfl ?_
 simp -implicitDefEqProofs (disch:=first|omega|(simp only[LnZ];omega))[wrap64,FA,FL]
 refine (c_AutomatonValid Ra).go ?_
 rintro _ h1 ⟨l1,rfl⟩
 by_cases ha:a.Ok
 case neg=>
  simp -implicitDefEqProofs (disch:=first|omega|(simp only[LnZ];omega))[wrap64,ha]
  refine RetK.keep (hk _ _ ⟨l1,?_⟩)
  rw[show a.accB l=false by simp[Aut.accB,ha],decide_eq_false (fun hh:a.Ok∧l.Ok=>ha hh.1)]
 simp -implicitDefEqProofs (disch:=first|omega|(simp only[LnZ];omega))[wrap64,ha,FL]
 refine (c_LassoValid (Rl.le l1)).go ?_
 rintro _ h2 ⟨l2,rfl⟩
 by_cases hl:l.Ok
 case neg=>
  simp -implicitDefEqProofs (disch:=first|omega|(simp only[LnZ];omega))[wrap64,hl]
  refine RetK.keep (hk _ _ ⟨l1.trans l2,?_⟩)
  rw[show a.accB l=false by simp[Aut.accB,hl],decide_eq_false (fun hh:a.Ok∧l.Ok=>hl hh.2)]
 simp -implicitDefEqProofs (disch:=first|omega|(simp only[LnZ];omega))[wrap64,hl,FA,FL]
 refine (c_accepts (Ra.le (l1.trans l2)) (Rl.le (l1.trans l2)) ha hl).go ?_
 rintro _ h3 ⟨l3,r,rfl,hr⟩
 simp -implicitDefEqProofs (disch:=omega)[wrap64]
 refine RetK.keep (hk _ _ ⟨l1.trans (l2.trans l3),?_⟩)
 rw[decide_eq_true (show a.Ok∧l.Ok from ⟨ha,hl⟩)]
 have:a.accB l=r:=by
  rw[Bool.eq_iff_iff,hr,Aut.accB]
  simp[ha,hl]
 rw[this]
theorem Aut.accB_lang {a:Aut}{l:Las}(ha:a.Ok) (hl:l.Ok):a.accB l=true↔a.Lang l.word:=by
 rw[← Aut.acc_iff ha hl.2.2.1,Aut.accB]
 simp[ha,hl]
namespace Fm
theorem fit_bits {c1 c2 v1 v2 L:Nat}(h1:v1&&&c1=v1) (h2:v2&&&c2=v2):(L&&&c1=v1∧L&&&c2=v2)↔((v1^^^v2)&&&c1&&&c2=0∧L&&&(c1|||c2)=v1|||v2):=by
 have bit:∀{a b:Nat},a=b→∀i,a.testBit i=b.testBit i:=fun h i=>by rw[h]
 constructor
 ·rintro⟨h3,h4⟩
  constructor
  ·refine Nat.eq_of_testBit_eq fun i=>?_
   have b3:=bit h3 i
   have b4:=bit h4 i
   simp only[Nat.testBit_and,Nat.testBit_or,Nat.testBit_xor,Nat.zero_testBit] at b3 b4 ⊢
   revert b3 b4
   cases L.testBit i<;>cases c1.testBit i<;>cases c2.testBit i<;>cases v1.testBit i<;>cases v2.testBit i<;>simp
  ·refine Nat.eq_of_testBit_eq fun i=>?_
   have b3:=bit h3 i
   have b4:=bit h4 i
   simp only[Nat.testBit_and,Nat.testBit_or] at b3 b4 ⊢
   revert b3 b4
   cases L.testBit i<;>cases c1.testBit i<;>cases c2.testBit i<;>cases v1.testBit i<;>cases v2.testBit i<;>simp
 ·rintro⟨h3,h4⟩
  constructor
  ·refine Nat.eq_of_testBit_eq fun i=>?_
   have b1:=bit h1 i
   have b2:=bit h2 i
   have b3:=bit h3 i
   have b4:=bit h4 i
   simp only[Nat.testBit_and,Nat.testBit_or,Nat.testBit_xor,Nat.zero_testBit] at b1 b2 b3 b4 ⊢
   revert b1 b2 b3 b4
   cases L.testBit i<;>cases c1.testBit i<;>cases c2.testBit i<;>cases v1.testBit i<;>cases v2.testBit i<;>simp
  ·refine Nat.eq_of_testBit_eq fun i=>?_
   have b1:=bit h1 i
   have b2:=bit h2 i
   have b3:=bit h3 i
   have b4:=bit h4 i
   simp only[Nat.testBit_and,Nat.testBit_or,Nat.testBit_xor,Nat.zero_testBit] at b1 b2 b3 b4 ⊢
   revert b1 b2 b3 b4
   cases L.testBit i<;>cases c1.testBit i<;>cases c2.testBit i<;>cases v1.testBit i<;>cases v2.testBit i<;>simp
theorem Tr.nats2 {n:Int}{t:Tr}(h:t.Ok n):∃c v:Nat,t.care=c∧t.value=v∧c<8∧v<8∧v&&&c=v:=by
 unfold Tr.Ok at h
 have hcl:t.care.toNat<8:=by omega
 obtain⟨c,hc⟩:∃c:Nat,t.care=c:=⟨t.care.toNat,by omega⟩
 have h7:=h.2.2.2.2.2.2.2
 obtain⟨v,hv⟩:∃v:Nat,t.value=v:=⟨t.value.toNat,by omega⟩
 have hb:t.value<9223372036854775808:=by
  rw[← h7]
  unfold andI
  generalize (BitVec.ofInt IntKind.i64.bits t.value&&&BitVec.ofInt IntKind.i64.bits t.care).toNat=m
  have:IntKind.i64.wrap (m:Int)=if (m:Int)%18446744073709551616≥9223372036854775808 then (m:Int)%18446744073709551616-18446744073709551616 else (m:Int)%18446744073709551616:=by
   simp[IntKind.wrap,IntKind.signed,IntKind.bits]
  rw[this]
  split<;>omega
 rw[hv,hc,i64_and (by omega) (by omega)] at h7
 have h8:v&&&c=v:=by omega
 have h9:=Nat.and_le_right (n:=v) (m:=c)
 exact⟨c,v,hc,hv,by omega,by omega,h8⟩
theorem on_nat {i j:Int}{c v L:Nat}(hc:c<8) (hL:L<8):(⟨i,(c:Int),(v:Int),j⟩:Tr).on (L:Int)=true↔L&&&c=v:=by
 unfold Tr.on
 simp only
 rw[i64_and (by omega) (by omega),decide_eq_true_iff]
 omega
instance instDecTru {B:List Bool}{x:Nat}:Decidable (Go.Proofs.YtielhfonnleldaaGreat.tru B x):=by unfold Go.Proofs.YtielhfonnleldaaGreat.tru;infer_instance
def pph (a b:Aut) (s:List Int):Int:=if s.getD 2 0=0 then (if Go.Proofs.YtielhfonnleldaaGreat.tru a.acc (s.getD 0 0).toNat then 1 else 0) else (if Go.Proofs.YtielhfonnleldaaGreat.tru b.acc (s.getD 1 0).toNat then 0 else 1)
def fits (e f:Tr):Bool:=decide ((e.value.toNat^^^f.value.toNat)&&&e.care.toNat&&&f.care.toNat=0)
def pmv (a b:Aut) (s:List Int) (e f:Tr):Mv:=⟨((e.care.toNat|||f.care.toNat:Nat):Int),((e.value.toNat|||f.value.toNat:Nat):Int),[e.to,f.to,pph a b s]⟩
def prM (a b:Aut) (s:List Int):List Mv:=a.edges.flatMap fun e=>(b.edges.filter fun f=>decide (e.frm=s.getD 0 0∧f.frm=s.getD 1 0)&&fits e f).map (pmv a b s e)
def prI (a b:Aut):List (List Int):=a.init.flatMap fun p=>b.init.map fun q=>[p,q,0]
def prC (b:Aut) (s:List Int):Bool:=decide (s.getD 2 0=1)&&b.acc.getD (s.getD 1 0).toNat false
theorem prM_mem {a b:Aut}{s:List Int}{m:Mv}:m∈prM a b s↔∃e∈a.edges,∃f∈b.edges,e.frm=s.getD 0 0∧f.frm=s.getD 1 0∧fits e f=true∧m=pmv a b s e f:=by
 unfold prM
 simp only[List.mem_flatMap,List.mem_map,List.mem_filter,Bool.and_eq_true,decide_eq_true_eq]
 constructor
 ·rintro⟨e,he,f,⟨hf,⟨h1,h2⟩,h3⟩,rfl⟩;exact⟨e,he,f,hf,h1,h2,h3,rfl⟩
 ·rintro⟨e,he,f,hf,h1,h2,h3,rfl⟩;exact⟨e,he,f,⟨hf,⟨h1,h2⟩,h3⟩,rfl⟩
theorem prI_mem {a b:Aut}{s:List Int}:s∈prI a b↔∃p∈a.init,∃q∈b.init,s=[p,q,0]:=by
 unfold prI
 simp only[List.mem_flatMap,List.mem_map]
 constructor
 ·rintro⟨p,hp,q,hq,rfl⟩;exact⟨p,hp,q,hq,rfl⟩
 ·rintro⟨p,hp,q,hq,rfl⟩;exact⟨p,hp,q,hq,rfl⟩
theorem pmv_on {a b:Aut}(ha:a.Ok) (hb:b.Ok) {s:List Int}{e f:Tr}(he:e∈a.edges) (hf:f∈b.edges) {L:Int}(h0:0≤L) (h7:L≤7):(e.on L=true∧f.on L=true)↔(fits e f=true∧(⟨0,(pmv a b s e f).care,(pmv a b s e f).value,0⟩:Tr).on L=true):=by
 obtain⟨l,rfl⟩:∃l:Nat,L=l:=⟨L.toNat,by omega⟩
 obtain⟨c1,v1,e1,e2,e3,e4,e5⟩:=Tr.nats2 (ha.2.2.2 e he)
 obtain⟨c2,v2,f1,f2,f3,f4,f5⟩:=Tr.nats2 (hb.2.2.2 f hf)
 have h1:e.on (l:Int)=true↔l&&&c1=v1:=by
  have:=on_nat (i:=e.frm) (j:=e.to) (c:=c1) (v:=v1) (L:=l) e3 (by omega)
  rw[← e1,← e2] at this
  exact this
 have h2:f.on (l:Int)=true↔l&&&c2=v2:=by
  have:=on_nat (i:=f.frm) (j:=f.to) (c:=c2) (v:=v2) (L:=l) f3 (by omega)
  rw[← f1,← f2] at this
  exact this
 unfold pmv fits
 simp only[e1,e2,f1,f2,Int.toNat_natCast,decide_eq_true_eq]
 rw[h1,h2,on_nat (or8 e3 f3) (by omega)]
 exact fit_bits e5 f5
theorem pr_ok {a b:Aut}(ha:a.Ok) (hb:b.Ok):∀s,∀m∈prM a b s,∃c v:Nat,m.care=c∧m.value=v∧c<8∧v&&&c=v:=by
 intro s m hm
 obtain⟨e,he,f,hf,_,_,_,rfl⟩:=prM_mem.1 hm
 obtain⟨c1,v1,e1,e2,e3,e4,e5⟩:=Tr.nats2 (ha.2.2.2 e he)
 obtain⟨c2,v2,f1,f2,f3,f4,f5⟩:=Tr.nats2 (hb.2.2.2 f hf)
 refine⟨c1|||c2,v1|||v2,by unfold pmv;simp only[e1,f1,Int.toNat_natCast],by unfold pmv;simp only[e2,f2,Int.toNat_natCast],or8 e3 f3,?_⟩
 refine Nat.eq_of_testBit_eq fun i=>?_
 have b1:(v1&&&c1).testBit i=v1.testBit i:=by rw[e5]
 have b2:(v2&&&c2).testBit i=v2.testBit i:=by rw[f5]
 simp only[Nat.testBit_and,Nat.testBit_or] at b1 b2 ⊢
 revert b1 b2
 cases c1.testBit i<;>cases c2.testBit i<;>cases v1.testBit i<;>cases v2.testBit i<;>simp
noncomputable def prA (a b:Aut):Aut:=exA (prM a b) (prC b) (prI a b)
theorem ph_next {H:Nat→Int}{X:Nat→Prop}{p q:Int}(hs:∀n,H n=p→(X n→H (n+1)=q)∧(¬X n→H (n+1)=p)) (hx:∀n,∃k,n≤k∧X k) (n:Nat) (h:H n=p):∃k,n≤k∧H k=p∧X k:=by
 obtain⟨m,h1,h2⟩:=hx n
 have key:∀d n,n+d=m→H n=p→∃k,n≤k∧H k=p∧X k:=by
  intro d
  induction d with
  | zero=>
   intro n hn hp
   obtain rfl:n=m:=by omega
   exact⟨n,Nat.le_refl _,hp,h2⟩
  | succ d ih=>
   intro n hn hp
   by_cases hX:X n
   ·exact⟨n,Nat.le_refl _,hp,hX⟩
   ·obtain⟨k,g1,g2⟩:=ih (n+1) (by omega) ((hs n hp).2 hX)
    exact⟨k,by omega,g2⟩
 exact key (m-n) n (by omega) h
theorem prA_lang {a b:Aut}(ha:a.Ok) (hb:b.Ok) (hK:(exN (prM a b) (prC b) (prI a b) 64).1.length≤64) {w:Nat→Int}(hw:∀t,0≤w t∧w t≤7):(prA a b).Lang w↔a.Lang w∧b.Lang w:=by
 unfold prA
 rw[exA_lang hK]
 constructor
 ·rintro⟨s,h0,h1,h2⟩
  obtain⟨p0,hp0,q0,hq0,hs0⟩:=prI_mem.1 h0
  have hst:∀n,∃(p q:Nat) (h:Int),s n=[(p:Int),(q:Int),h]:=by
   intro n
   cases n with
   | zero=>
    have g1:=incr_mem ha.i _ hp0
    have g2:=incr_mem hb.i _ hq0
    exact⟨p0.toNat,q0.toNat,0,by rw[hs0,Int.toNat_of_nonneg (by omega),Int.toNat_of_nonneg (by omega)]⟩
   | succ n=>
    obtain⟨m,g1,g2,_⟩:=h1 n
    obtain⟨e,he,f,hf,_,_,_,rfl⟩:=prM_mem.1 g1
    obtain⟨_,x,_,e2,_⟩:=ha.tr he
    obtain⟨_,y,_,f2,_⟩:=hb.tr hf
    exact⟨x,y,pph a b (s n),by rw[← g2];unfold pmv;simp only[e2,f2]⟩
  obtain⟨P,hP⟩:∃P:Nat→Nat,∀n,∃(q:Nat) (h:Int),s n=[(P n:Int),(q:Int),h]:=⟨fun n=>Classical.choose (hst n),fun n=>Classical.choose_spec (hst n)⟩
  obtain⟨Q,hQ⟩:∃Q:Nat→Nat,∀n,∃(h:Int),s n=[(P n:Int),(Q n:Int),h]:=⟨fun n=>Classical.choose (hP n),fun n=>Classical.choose_spec (hP n)⟩
  obtain⟨H,hH⟩:∃H:Nat→Int,∀n,s n=[(P n:Int),(Q n:Int),H n]:=⟨fun n=>Classical.choose (hQ n),fun n=>Classical.choose_spec (hQ n)⟩
  have step:∀n,StE a.edges w n (P n) (P (n+1))∧StE b.edges w n (Q n) (Q (n+1))∧H (n+1)=if H n=0 then (if Go.Proofs.YtielhfonnleldaaGreat.tru a.acc (P n) then 1 else 0) else (if Go.Proofs.YtielhfonnleldaaGreat.tru b.acc (Q n) then 0 else 1):=by
   intro n
   obtain⟨m,g1,g2,g3⟩:=h1 n
   obtain⟨e,he,f,hf,k1,k2,k3,rfl⟩:=prM_mem.1 g1
   obtain⟨k4,k5⟩:=(pmv_on ha hb he hf (hw n).1 (hw n).2).2 ⟨k3,g3⟩
   rw[hH (n+1)] at g2
   unfold pmv at g2
   simp only[List.cons.injEq,and_true] at g2
   rw[hH n] at k1 k2 g2
   simp only[List.getD_cons_zero,List.getD_cons_succ] at k1 k2
   refine⟨⟨e,he,k1,g2.1,k4⟩,⟨f,hf,k2,g2.2.1,k5⟩,?_⟩
   rw[← g2.2.2]
   unfold pph
   simp only[List.getD_cons_zero,List.getD_cons_succ,Int.toNat_natCast]
  have acc:∀n,∃k,n≤k∧H k=1∧Go.Proofs.YtielhfonnleldaaGreat.tru b.acc (Q k):=by
   intro n
   obtain⟨k,g1,g2⟩:=h2 n
   unfold prC at g2
   rw[hH k] at g2
   simp only[List.getD_cons_zero,List.getD_cons_succ,Int.toNat_natCast,Bool.and_eq_true,decide_eq_true_eq] at g2
   exact⟨k,g1,g2.1,g2.2⟩
  have accA:∀n,∃k,n≤k∧Go.Proofs.YtielhfonnleldaaGreat.tru a.acc (P k):=by
   intro n
   apply Classical.byContradiction
   intro hno
   obtain⟨k,g1,g2,g3⟩:=acc n
   have hz:∀d,H (k+1+d)=0:=by
    intro d
    induction d with
    | zero=>rw[Nat.add_zero,(step k).2.2,if_neg (by omega),if_pos g3]
    | succ d ih=>rw[← Nat.add_assoc,(step _).2.2,if_pos ih,if_neg fun hh=>hno ⟨_,by omega,hh⟩]
   obtain⟨k2,g4,g5,_⟩:=acc (k+1)
   have:=hz (k2-(k+1))
   rw[show k+1+(k2-(k+1))=k2 by omega] at this
   omega
  have h00:=hH 0
  rw[hs0] at h00
  simp only[List.cons.injEq] at h00
  exact⟨⟨P 0,by rw[← h00.1];exact hp0,Run.of_seq (fun n=>(step n).1) accA⟩,⟨Q 0,by rw[← h00.2.1];exact hq0,Run.of_seq (fun n=>(step n).2.1) fun n=>by
   obtain⟨k,g1,_,g2⟩:=acc n
   exact⟨k,g1,g2⟩⟩⟩
 ·rintro⟨⟨p0,hp0,ra⟩,⟨q0,hq0,rb⟩⟩
  obtain⟨P,P0,P1,P2⟩:=Run.seq ra
  obtain⟨Q,Q0,Q1,Q2⟩:=Run.seq rb
  obtain⟨H,H0,H1⟩:∃H:Nat→Int,H 0=0∧∀n,H (n+1)=pph a b [(P n:Int),(Q n:Int),H n]:=
   ⟨fun n=>Nat.rec 0 (fun n h=>pph a b [(P n:Int),(Q n:Int),h]) n,rfl,fun _=>rfl⟩
  have H1':∀n,H (n+1)=if H n=0 then (if Go.Proofs.YtielhfonnleldaaGreat.tru a.acc (P n) then 1 else 0) else (if Go.Proofs.YtielhfonnleldaaGreat.tru b.acc (Q n) then 0 else 1):=fun n=>by
   rw[H1];unfold pph;simp only[List.getD_cons_zero,List.getD_cons_succ,Int.toNat_natCast]
  have H01:∀n,H n=0∨H n=1:=by
   intro n
   cases n with
   | zero=>exact .inl H0
   | succ n=>
    rw[H1']
    by_cases h1:H n=0
    ·rw[if_pos h1];by_cases h2:Go.Proofs.YtielhfonnleldaaGreat.tru a.acc (P n)<;>simp[h2]
    ·rw[if_neg h1];by_cases h2:Go.Proofs.YtielhfonnleldaaGreat.tru b.acc (Q n)<;>simp[h2]
  have one:∀n,∃k,n≤k∧H k=1:=by
   intro n
   rcases H01 n with h | h
   ·obtain⟨k,g1,g2,g3⟩:=ph_next (H:=H) (X:=fun n=>Go.Proofs.YtielhfonnleldaaGreat.tru a.acc (P n)) (p:=0) (q:=1) (fun n hn=>by rw[H1',if_pos hn];exact⟨fun h=>if_pos h,fun h=>if_neg h⟩) P2 n h
    exact⟨k+1,by omega,by rw[H1',if_pos g2,if_pos g3]⟩
   ·exact⟨n,Nat.le_refl _,h⟩
  refine⟨fun n=>[(P n:Int),(Q n:Int),H n],?_,fun n=>?_,fun n=>?_⟩
  ·rw[prI_mem]
   exact⟨(P 0:Int),by rw[P0];exact hp0,(Q 0:Int),by rw[Q0];exact hq0,by simp only[H0]⟩
  ·obtain⟨e,he,e1,e2,e3⟩:=P1 n
   obtain⟨f,hf,f1,f2,f3⟩:=Q1 n
   rw[Nat.zero_add] at e3 f3
   obtain⟨g1,g2⟩:=(pmv_on (s:=[(P n:Int),(Q n:Int),H n]) ha hb he hf (hw n).1 (hw n).2).1 ⟨e3,f3⟩
   refine⟨pmv a b [(P n:Int),(Q n:Int),H n] e f,prM_mem.2 ⟨e,he,f,hf,by simpa using e1,by simpa using f1,g1,rfl⟩,?_,g2⟩
   unfold pmv
   simp only[e2,f2,H1]
  ·obtain⟨k,g1,g2⟩:=one n
   obtain⟨m,g3,g4,g5⟩:=ph_next (H:=H) (X:=fun n=>Go.Proofs.YtielhfonnleldaaGreat.tru b.acc (Q n)) (p:=1) (q:=0) (fun n hn=>by rw[H1',if_neg (by omega)];exact⟨fun h=>if_pos h,fun h=>if_neg h⟩) Q2 k g2
   refine⟨m,by omega,?_⟩
   unfold prC
   simp only[List.getD_cons_zero,List.getD_cons_succ,Int.toNat_natCast,Bool.and_eq_true,decide_eq_true_eq]
   exact⟨g4,g5⟩
end Fm
theorem Great.refl {a:Aut}{R:Rl}(h:Great a R) {i:Nat}(hi:i<a.acc.length):R i i=true:=by
 refine h.upper (fun x y=>decide (x=y)) ⟨?_,?_⟩ i i hi hi (by simp)
 ·intro x y _ _ hxy hx
  simp only[decide_eq_true_eq] at hxy
  subst hxy;exact hx
 ·intro x y _ _ hxy l _ e he hx ho
  simp only[decide_eq_true_eq] at hxy
  subst hxy
  exact⟨e,he,hx,ho,by simp⟩
theorem Great.trans {a:Aut}(ha:a.Ok) {R:Rl}(h:Great a R) {i j k:Nat}(hi:i<a.acc.length) (hj:j<a.acc.length) (hk:k<a.acc.length) (h1:R i j=true) (h2:R j k=true):R i k=true:=by
 refine h.upper (fun x z=>@decide (∃y,y<a.acc.length∧R x y=true∧R y z=true) (Classical.propDecidable _)) ⟨?_,?_⟩ i k hi hk (by simpa using⟨j,hj,h1,h2⟩)
 ·intro x z hx hz hxz h3
  simp only[decide_eq_true_eq] at hxz
  obtain⟨y,hy,h4,h5⟩:=hxz
  exact h.simu.1 y z hy hz h5 (h.simu.1 x y hx hy h4 h3)
 ·intro x z hx hz hxz l hl e he h6 ho
  simp only[decide_eq_true_eq] at hxz
  obtain⟨y,hy,h4,h5⟩:=hxz
  obtain⟨f,hf,g1,g2,g3⟩:=h.simu.2 x y hx hy h4 l hl e he h6 ho
  obtain⟨f',hf',k1,k2,k3⟩:=h.simu.2 y z hy hz h5 l hl f hf g1 g2
  obtain⟨_,q,_,h8,_,h10⟩:=ha.tr hf
  refine⟨f',hf',k1,k2,?_⟩
  simp only[decide_eq_true_eq]
  exact⟨f.to.toNat,by rw[h8];simpa using h10,g3,k3⟩
def Letters (w:Nat→Int):Prop:=∀t,0≤w t∧w t≤7
theorem Simu.run {a:Aut}(ha:a.Ok) {R:Rl}(hR:Simu a R) {w:Nat→Int}(hw:Letters w) {t i j:Nat}(hi:i<a.acc.length) (hj:j<a.acc.length) (h:R i j=true) (k:Run a.acc a.edges w t i):Run a.acc a.edges w t j:=by
 refine Run.sim (fun x y=>x<a.acc.length∧y<a.acc.length∧R x y=true) ?_ ?_ k ⟨hi,hj,h⟩
 ·rintro t p q p' ⟨h1,h2,h3⟩ ⟨e,he,h4,h5,h6⟩ _
  have h7:=hw t
  obtain⟨n,hn⟩:∃n:Nat,w t=n:=⟨(w t).toNat,by omega⟩
  rw[hn] at h6 h7
  obtain⟨f,hf,g1,g2,g3⟩:=hR.2 p p' h1 h2 h3 n (by omega) e he h4 h6
  obtain⟨x,y,k1,k2,k3,k4⟩:=ha.tr he
  obtain⟨x',y',k1',k2',k3',k4'⟩:=ha.tr hf
  refine⟨y',⟨f,hf,g1,k2',by rw[hn];exact g2⟩,by omega,k4',?_⟩
  rw[h5,k2'] at g3
  simpa using g3
 ·rintro p p' ⟨h1,h2,h3⟩ h4
  exact hR.1 p p' h1 h2 h3 h4
section
variable {a b:Aut}
end
section
variable {a:Aut}{K:Nat→Bool}
end
namespace Fm
theorem ltv_sub {B:List Exq}{s:Nat}:ltv B s B.length&&&ltc B B.length=ltv B s B.length:=by
 refine Nat.eq_of_testBit_eq fun a=>?_
 rw[Nat.testBit_and]
 cases h:(ltv B s B.length).testBit a with
 | false=>rfl
 | true=>
  obtain⟨i,hi,h1,h2,_,h4⟩:=(ltv_bit _ (Nat.le_refl _)).1 h
  rw[(ltc_bit _ (Nat.le_refl _)).2 ⟨i,hi,h1,h2,h4⟩]
  rfl
theorem trA_ok {x:Exq}(h:trOk x):(trA x).Ok:=by
 rw[trA_ex h]
 have h5:=h.1.2
 have hB:=fun y hy=>(basics_ok h.1 y hy).1
 have hp:2^(basics x).length≤2^5:=Nat.pow_le_pow_right (by omega) h5
 refine exA_ok (trOk_ex.1 h).2 ?_ fun s _ m hm=>?_
 ·have:=exN_edges (mv:=mvT (basics x) (unt (basics x) (basics x).length)) (ac:=acT (basics x) (unt (basics x) (basics x).length)) (L0:=ini0 (basics x) (push x false) (2^(basics x).length)) (fun _=>mvT_len) 64
  omega
 ·unfold mvT mvS at hm
  obtain⟨t,_,rfl⟩:=List.mem_map.1 hm
  exact⟨_,_,rfl,rfl,ltc_lt hB _ (Nat.le_refl _),ltv_sub⟩
theorem acc_sat {x:Exq}(h:trOk x) {l:Las}(hl:l.Ok):(trA x).accB l=true↔sat l.word x 0:=
 (Aut.accB_lang (trA_ok h) hl).trans (trA_lang h (Las.word_ok hl))
theorem acc_ngt {x:Exq}(h:trOk x) (h2:trOk (ngt x)) {l:Las}(hl:l.Ok):(trA (ngt x)).accB l = !(trA x).accB l:=by
 rw[Bool.eq_iff_iff,acc_sat h2 hl,sat_ngt h.1.1.1,← acc_sat h hl]
 simp
theorem no_both {x:Exq}(hx:trOk x) (hy:trOk (ngt x)) (hK:(exN (prM (trA x) (trA (ngt x))) (prC (trA (ngt x))) (prI (trA x) (trA (ngt x))) 64).1.length≤64) {w:Nat→Int}(hw:∀t,0≤w t∧w t≤7):¬(prA (trA x) (trA (ngt x))).Lang w:=by
 rw[prA_lang (trA_ok hx) (trA_ok hy) hK hw,trA_lang hx hw,trA_lang hy hw,sat_ngt hx.1.1.1]
 exact fun h=>h.2 h.1
end Fm
theorem c_Equal_int {h:Heap}{a b:Value}{x y:List Int}(Ra:Rep h a x) (Rb:Rep h b y):CallE Tryz.prog fn_slices_Equal_S_int_int [a,b] h (fun u h'=>h'=h∧u=.bool (decide (x=y))):=by
 have hL:=Ra.lt
 refine CallE.gen fun k hk=>EN_slices_Equal_S_int_int rfl ?_
 by_cases hl:(x.length:Int)=y.length
 case neg=>
  simp -implicitDefEqProofs (disch:=first|omega|(simp only[LnZ];omega))[wrap64,Ra.len,Rb.len,hl]
  exact RetK.keep (hk _ _ ⟨rfl,by congr 1;rw[eq_comm,decide_eq_false_iff_not];intro e;subst e;exact hl rfl⟩)
 simp -implicitDefEqProofs (disch:=first|omega|(simp only[LnZ];omega))[wrap64,Ra.len,Rb.len,hl]
 refine wp_count x.length (fun i e h'=>e=[some a,some b,none,none,some (.int .i64 x.length),some (.int .i64 i)]∧h'=h∧x.take i=y.take i) ⟨by simp[hl],rfl,rfl⟩ ?_
 rintro J i _ h1 hJ hi ⟨rfl,rfl,hq⟩
 simp -implicitDefEqProofs (disch:=omega)[wrap64]
 refine IteW.mk (fun hlt=>?_) (fun hge=>?_)
 ·have hlx:i<x.length:=by omega
  have hly:i<y.length:=by omega
  by_cases he:x[i]=y[i]
  ·simp -implicitDefEqProofs (disch:=first|omega|(simp only[LnZ];omega))[wrap64,Ra.I,Rb.I,he]
   exact hJ _ _ hlx ⟨rfl,rfl,take_step hq hlx hly he⟩
  ·simp -implicitDefEqProofs (disch:=first|omega|(simp only[LnZ];omega))[wrap64,Ra.I,Rb.I,he]
   exact RetK.keep (hk _ _ ⟨rfl,by congr 1;rw[eq_comm,decide_eq_false_iff_not];intro e;subst e;exact he rfl⟩)
 ·simp -implicitDefEqProofs (disch:=omega)[wrap64]
  rw[List.take_of_length_le (by omega),List.take_of_length_le (by omega)] at hq
  exact RetK.keep (hk _ _ ⟨rfl,by simp[hq]⟩)
theorem c_Equal_bool {h:Heap}{a b:Value}{x y:List Bool}(Ra:Rep h a x) (Rb:Rep h b y):CallE Tryz.prog fn_slices_Equal_S_bool_bool [a,b] h (fun u h'=>h'=h∧u=.bool (decide (x=y))):=by
 have hL:=Ra.lt
 refine CallE.gen fun k hk=>EN_slices_Equal_S_bool_bool rfl ?_
 by_cases hl:(x.length:Int)=y.length
 case neg=>
  simp -implicitDefEqProofs (disch:=first|omega|(simp only[LnZ];omega))[wrap64,Ra.len,Rb.len,hl]
  exact RetK.keep (hk _ _ ⟨rfl,by congr 1;rw[eq_comm,decide_eq_false_iff_not];intro e;subst e;exact hl rfl⟩)
 simp -implicitDefEqProofs (disch:=first|omega|(simp only[LnZ];omega))[wrap64,Ra.len,Rb.len,hl]
 refine wp_count x.length (fun i e h'=>e=[some a,some b,none,none,some (.int .i64 x.length),some (.int .i64 i)]∧h'=h∧x.take i=y.take i) ⟨by simp[hl],rfl,rfl⟩ ?_
 rintro J i _ h1 hJ hi ⟨rfl,rfl,hq⟩
 simp -implicitDefEqProofs (disch:=omega)[wrap64]
 refine IteW.mk (fun hlt=>?_) (fun hge=>?_)
 ·have hlx:i<x.length:=by omega
  have hly:i<y.length:=by omega
  by_cases he:x[i]=y[i]
  ·simp -implicitDefEqProofs (disch:=first|omega|(simp only[LnZ];omega))[wrap64,Ra.B,Rb.B,he]
   exact hJ _ _ hlx ⟨rfl,rfl,take_step hq hlx hly he⟩
  ·simp -implicitDefEqProofs (disch:=first|omega|(simp only[LnZ];omega))[wrap64,Ra.B,Rb.B,he]
   exact RetK.keep (hk _ _ ⟨rfl,by congr 1;rw[eq_comm,decide_eq_false_iff_not];intro e;subst e;exact he rfl⟩)
 ·simp -implicitDefEqProofs (disch:=omega)[wrap64]
  rw[List.take_of_length_le (by omega),List.take_of_length_le (by omega)] at hq
  exact RetK.keep (hk _ _ ⟨rfl,by simp[hq]⟩)
theorem c_Equal_Tr {h:Heap}{a b:Value}{x y:List Tr}(Ra:Rep h a x) (Rb:Rep h b y):CallE Tryz.prog fn_slices_Equal_S_impl_Transition_impl_Transition [a,b] h (fun u h'=>h'=h∧u=.bool (decide (x=y))):=by
 have hL:=Ra.lt
 refine CallE.gen fun k hk=>EN_slices_Equal_S_impl_Transition_impl_Transition rfl ?_
 by_cases hl:(x.length:Int)=y.length
 case neg=>
  simp -implicitDefEqProofs (disch:=first|omega|(simp only[LnZ];omega))[wrap64,Ra.len,Rb.len,hl]
  exact RetK.keep (hk _ _ ⟨rfl,by congr 1;rw[eq_comm,decide_eq_false_iff_not];intro e;subst e;exact hl rfl⟩)
 simp -implicitDefEqProofs (disch:=first|omega|(simp only[LnZ];omega))[wrap64,Ra.len,Rb.len,hl]
 refine wp_count x.length (fun i e h'=>e=[some a,some b,none,none,some (.int .i64 x.length),some (.int .i64 i)]∧h'=h∧x.take i=y.take i) ⟨by simp[hl],rfl,rfl⟩ ?_
 rintro J i _ h1 hJ hi ⟨rfl,rfl,hq⟩
 simp -implicitDefEqProofs (disch:=omega)[wrap64]
 refine IteW.mk (fun hlt=>?_) (fun hge=>?_)
 ·have hlx:i<x.length:=by omega
  have hly:i<y.length:=by omega
  by_cases he:x[i]=y[i]
  ·simp -implicitDefEqProofs (disch:=first|omega|(simp only[LnZ];omega))[wrap64,Ra.xTr,Rb.xTr,Tr.v,he]
   exact hJ _ _ hlx ⟨rfl,rfl,take_step hq hlx hly he⟩
  ·have he2:=he
   rw[Tr.ext_iff'] at he2
   simp -implicitDefEqProofs (disch:=first|omega|(simp only[LnZ];omega))[wrap64,Ra.xTr,Rb.xTr,Tr.v]
   refine IteW.mk (fun _=>?_) (fun hh=>absurd ?_ he2)
   ·simp -implicitDefEqProofs (disch:=omega)[wrap64]
    exact RetK.keep (hk _ _ ⟨rfl,by congr 1;rw[eq_comm,decide_eq_false_iff_not];intro e;subst e;exact he rfl⟩)
   ·simpa[Classical.not_imp] using hh
 ·simp -implicitDefEqProofs (disch:=omega)[wrap64]
  rw[List.take_of_length_le (by omega),List.take_of_length_le (by omega)] at hq
  exact RetK.keep (hk _ _ ⟨rfl,by simp[hq]⟩)
theorem c_AutomatonSame {h:Heap}{v w:Value}{a b:Aut}(Ra:Rep h v a) (Rb:Rep h w b):CallE Tryz.prog fn_impl_AutomatonSame [v,w] h (fun u h'=>h'=h∧u=.bool (decide (a=b))):=by
 obtain⟨v1,v2,v3,rfl,R1,R2,R3⟩:=Rep_Aut.1 Ra
 obtain⟨w1,w2,w3,rfl,S1,S2,S3⟩:=Rep_Aut.1 Rb
 refine CallE.gen fun k hk=>EN_impl_AutomatonSame rfl ?_
 have hno:¬a=b→k (.bool false) h:=fun hn=>hk _ _ ⟨rfl,by simp[hn]⟩
 simp -implicitDefEqProofs (disch:=omega)[wrap64]
 refine (c_Equal_int R1 S1).go ?_
 rintro _ _ ⟨rfl,rfl⟩
 by_cases h1:a.init=b.init
 case neg=>
  simp -implicitDefEqProofs (disch:=first|omega|(simp only[LnZ];omega))[wrap64,h1]
  exact RetK.keep (hno fun e=>h1 (e▸rfl))
 simp -implicitDefEqProofs (disch:=first|omega|(simp only[LnZ];omega))[wrap64,h1]
 refine (c_Equal_bool R2 S2).go ?_
 rintro _ _ ⟨rfl,rfl⟩
 by_cases h2:a.acc=b.acc
 case neg=>
  simp -implicitDefEqProofs (disch:=first|omega|(simp only[LnZ];omega))[wrap64,h2]
  exact RetK.keep (hno fun e=>h2 (e▸rfl))
 simp -implicitDefEqProofs (disch:=first|omega|(simp only[LnZ];omega))[wrap64,h2]
 refine (c_Equal_Tr R3 S3).go ?_
 rintro _ _ ⟨rfl,rfl⟩
 by_cases h3:a.edges=b.edges
 case neg=>
  simp -implicitDefEqProofs (disch:=first|omega|(simp only[LnZ];omega))[wrap64,h3]
  exact RetK.keep (hno fun e=>h3 (e▸rfl))
 simp -implicitDefEqProofs (disch:=first|omega|(simp only[LnZ];omega))[wrap64,h3]
 exact RetK.keep (hk _ _ ⟨rfl,by simp[Aut.ext_iff',h1,h2,h3]⟩)
theorem Rep.tail {α:Type} [Ty α] {h:Heap}{v:Value}{l:List α}(R:Rep h v l) {n esz:Nat}{k:IntKind}(hn:n≤l.length) (he:esz=Ty.sz α):∃v',sliceVV esz v (some (some (.int k n))) none none=some v'∧Rep h v' (l.drop n):=by
 subst he
 obtain⟨p,cap,rfl,h1,h2,h3⟩:=Rep_list.1 R
 have hl:(l.drop n).length=l.length-n:=by simp
 have hv:sliceVV (Ty.sz α) (.slice p l.length cap) (some (some (.int k n))) none none=some (Value.slice (if cap=n then p else p.map fun a=>a.add (n*Ty.sz α)) (l.length-n) (cap-n)):=by
  simp[sliceVV,bndV,hn]
 refine⟨_,hv,?_⟩
 by_cases e:n=l.length
 ·have hd:l.drop n=[]:=by rw[e];simp
  rw[hd,show l.length-n=0 by omega]
  exact Rep_list.2 ⟨_,cap-n,rfl,by simp,trivial,fun i hi=>by simp at hi⟩
 ·obtain⟨b,off,vs,rfl,_⟩:=h3 0 (by omega)
  rw[if_neg (by omega)]
  refine Rep_list.2 ⟨_,cap-n,by rw[hl],by rw[hl];omega,trivial,fun i hi=>?_⟩
  rw[hl] at hi
  obtain⟨b',off',vs,e1,e2,e3⟩:=h3 (n+i) (by omega)
  simp only[Option.some.injEq,Addr.mk.injEq] at e1
  obtain⟨rfl,rfl,_⟩:=e1
  refine⟨b,off+n*Ty.sz α,vs,by simp[Addr.add],?_,by simpa using e3⟩
  rw[Nat.add_mul,← Nat.add_assoc] at e2
  exact e2
theorem c_negation {h:Heap}{v:Value}{x:Exq}(R:Rep h v x) (hx:Fm.Ok x):CallE Tryz.prog fn_impl_Formula_negation [v] h (fun u h'=>h.le h'∧Rep h' u (Fm.ngt x)):=by
 have FX:=R.aExq
 have hsz:=hx.sz
 obtain⟨w,rfl,k1,k2,R1⟩:=Rep_Exq.1 R
 refine CallE.gen fun k hk=>EN_impl_Formula_negation rfl ?_
 unfold Fm.ngt at hk
 by_cases c3:x.kind=3
 ·rw[if_pos c3] at hk
  have hl:=hx.1.one (.inl c3)
  obtain⟨u,hu,Ru⟩:=R1.ld (i:=0) (by omega)
  change hload _ (some (elp 3 w 0)) (some 3)=some u at hu
  simp -implicitDefEqProofs (disch:=first|omega|(simp only[LnZ];omega))[wrap64,FX,c3,R1.X (n:=3) rfl,hu,Ru.aExq]
  refine (c_Formula_copyOf _ Ru (by have:=sz_kid (x:=x) (i:=0) (by omega);omega)).go ?_
  intro y h1 H
  simp -implicitDefEqProofs (disch:=first|omega|(simp only[LnZ];omega))[wrap64,H.rep.aExq,setC]
  exact RetK.keep (hk _ _ ⟨H.base,by rw[getD_some (by omega)];exact H.rep⟩)
 ·rw[if_neg c3] at hk
  simp -implicitDefEqProofs (disch:=first|omega|(simp only[LnZ];omega))[wrap64,FX,c3]
  refine (c_Formula_copyOf _ R (by omega)).go ?_
  intro y h1 H
  obtain⟨yw,hyw,_,_,_⟩:=Rep_Exq.1 H.rep
  subst hyw
  simp -implicitDefEqProofs (disch:=omega)[wrap64]
  refine bls_one (α:=Exq) H.rep rfl fun sl h2 l2 Rs=>?_
  simp -implicitDefEqProofs (disch:=omega)[wrap64]
  refine (c_formula ⟨by decide,by decide⟩ Rs (by simp)).go ?_
  rintro r h3 ⟨l3,Rr⟩
  simp -implicitDefEqProofs (disch:=first|omega|(simp only[LnZ];omega))[wrap64,Rr.aExq,setC]
  exact RetK.keep (hk _ _ ⟨H.base.trans (l2.trans l3),Rr⟩)
theorem c_NegateFormula {h:Heap}{v:Value}{x:Exq}(R:Rep h v x):CallE Tryz.prog fn_impl_NegateFormula [v] h (fun u h'=>∃g,u=.tuple #[g,.bool (decide (Fm.Ok x∧Fm.Ok (Fm.ngt x)))]∧h.le h'∧Rep h' g (if Fm.Ok x∧Fm.Ok (Fm.ngt x) then Fm.ngt x else Exq.zero)):=by
 have FX:=R.aExq
 refine CallE.gen fun k hk=>EN_impl_NegateFormula rfl ?_
 simp -implicitDefEqProofs (disch:=first|omega|(simp only[LnZ];omega))[wrap64,FX]
 refine (c_FormulaValid R).go ?_
 rintro _ h1 ⟨l1,rfl⟩
 by_cases q:Fm.Ok x
 case neg=>
  simp -implicitDefEqProofs (disch:=first|omega|(simp only[LnZ];omega))[wrap64,q,setC]
  exact RetK.keep (hk _ _ ⟨_,by rw[decide_eq_false (fun hh=>q hh.1)],l1,by rw[if_neg (fun hh=>q hh.1)];exact rep_zero⟩)
 simp -implicitDefEqProofs (disch:=first|omega|(simp only[LnZ];omega))[wrap64,q,FX]
 refine (c_negation (R.le l1) q).go ?_
 rintro g h2 ⟨l2,Rg⟩
 simp -implicitDefEqProofs (disch:=omega)[wrap64]
 refine (c_FormulaValid Rg).go ?_
 rintro _ h3 ⟨l3,rfl⟩
 by_cases q2:Fm.Ok (Fm.ngt x)
 case neg=>
  simp -implicitDefEqProofs (disch:=first|omega|(simp only[LnZ];omega))[wrap64,q2,setC]
  exact RetK.keep (hk _ _ ⟨_,by rw[decide_eq_false (fun hh=>q2 hh.2)],l1.trans (l2.trans l3),by rw[if_neg (fun hh=>q2 hh.2)];exact rep_zero⟩)
 have l123:=l1.trans (l2.trans l3)
 simp -implicitDefEqProofs (disch:=first|omega|(simp only[LnZ];omega))[wrap64,q2,FX]
 refine (c_negation (R.le l123) q).go ?_
 rintro g2 h4 ⟨l4,Rg2⟩
 simp -implicitDefEqProofs (disch:=first|omega|(simp only[LnZ];omega))[wrap64,Rg2.aExq,setC]
 exact RetK.keep (hk _ _ ⟨_,by rw[decide_eq_true ⟨q,q2⟩],l123.trans l4,by rw[if_pos ⟨q,q2⟩];exact Rg2⟩)
def pv3 (p:Int×Int×Int):Value:=.agg #[.int .i64 p.1,.int .i64 p.2.1,.int .i64 p.2.2]
def lf3 (p:Int×Int×Int):List Int:=[p.1,p.2.1,p.2.2]
theorem lf3_inj (a b:Int×Int×Int) (h:lf3 a=lf3 b):a=b:=by
 obtain⟨a1,a2,a3⟩:=a
 obtain⟨b1,b2,b3⟩:=b
 simpa[lf3] using h
theorem keyEq_3:∀a b:Int×Int×Int,keyEq (.many [.i,.i,.i]) (pv3 a) (pv3 b)=some (decide (a=b)):=by
 rintro⟨a1,a2,a3⟩ ⟨b1,b2,b3⟩
 simp[keyEq,eqB,pv3]
@[reducible] def Tbs3 (b6 b7 bm:Nat) (fv:Value) (F:List (Int×Int×Int)) (m:List ((Int×Int×Int)×Int)):List HP:=[bx b6 [.map (some bm)],bx b7 [fv],mpo pv3 vi bm m,ow fv F]
theorem c_find3 {g h:Heap}{Γ:List HP}{b6 b7 bm:Nat}{fv:Value}{F:List (Int×Int×Int)}{m:List ((Int×Int×Int)×Int)}{a:Int×Int×Int}(H:HS g (Tbs3 b6 b7 bm fv F m++Γ) h) (hm:MI F m) (hF:F.length≤1073741824) (ha:I64 a.1∧I64 a.2.1∧I64 a.2.2) :
  CallE Tryz.prog fn_impl_explore_impl_triple_1 [pv3 a,.pointer (some ⟨b6,0,none⟩),.pointer (some ⟨b7,0,none⟩)] h (fun u h'=>∃fv' m',u=.int .i64 (atK F a)∧HS g (Tbs3 b6 b7 bm fv' (adK F a) m'++Γ) h'∧MI (adK F a) m'):=by
 have H:HS g (bx b6 [.map (some bm)]::bx b7 [fv]::mpo pv3 vi bm m::ow fv F::Γ) h:=H
 refine CallE.gen fun k hk=>EN_impl_explore_impl_triple_1 rfl ?_
 simp -implicitDefEqProofs (disch:=first|omega|(simp only[LnZ];omega))[wrap64,pv3,H.bxld0,setC]
 refine HS.mget (kf:=pv3) (vf:=vi) (a:=a) H.sw2 rfl rfl keyEq_3 ?_
 by_cases hf:a∈F
 ·rw[hm.get hf]
  simp -implicitDefEqProofs (disch:=first|omega|(simp only[LnZ];omega))[wrap64,vi]
  refine RetK.keep (hk _ _ ⟨fv,m,rfl,?_,?_⟩)
  ·rw[adK,if_pos hf];exact H
  ·rw[adK,if_pos hf];exact hm
 ·rw[hm.no hf]
  have hF2:=H.sw3.rep.lt
  simp -implicitDefEqProofs (disch:=first|omega|(simp only[LnZ];omega))[wrap64,vi,H.sw1.bxld0,H.sw3.rep.len,H.bxld0]
  refine HS.mput (kf:=pv3) (vf:=vi) (a:=a) (v:=(F.length:Int)) H.sw2 rfl rfl rfl keyEq_3 (hm.no hf) fun h1 H=>?_
  simp -implicitDefEqProofs (disch:=first|omega|(simp only[LnZ];omega))[wrap64,setC,H.sw2.bxld0]
  refine HS.app1 (bytes:=24) H.sw3 a rfl rfl rfl ha rfl rfl (by omega) (by omega) fun fv' h2 H=>?_
  simp -implicitDefEqProofs (disch:=omega)[wrap64]
  refine H.sw3.bxst (u:=fv') rfl rfl (by rw[H.rep.cells];rfl) (by rw[H.rep.cells];simp[H.rep.one]) (by simp[H.rep.cells]) fun h3 H=>?_
  have H:HS g (bx b7 [fv']::ow fv' (F++[a])::mpo pv3 vi bm (m++[(a,(F.length:Int))])::bx b6 [.map (some bm)]::Γ) h3:=by simpa[setC,H.sw1.rep.cells] using H
  simp -implicitDefEqProofs (disch:=omega)[wrap64]
  refine RetK.keep (hk _ _ ⟨fv',_,by rw[atK_not hf],?_,by rw[adK,if_neg hf];exact hm.add hf⟩)
  rw[adK,if_neg hf]
  exact H.sw3.under fun _ H=>H.under fun _ H=>H.sw1
def toMv3 (m:Int×Int×Int×Int×Int):Fm.Mv:=⟨m.1,m.2.1,lf3 m.2.2⟩
set_option maxHeartbeats 4000000 in
theorem c_explore3 {g:Heap}{iv fa fm:Value}{I:List (Int×Int×Int)}{mv:List Int→List Fm.Mv}{ac:List Int→Bool}{P:Int×Int×Int→Prop}{K:Nat}{Mf:Int×Int×Int→List (Int×Int×Int×Int×Int)}
  (hK:K≤8388608) (hI:I.Nodup) (hIl:I.length≤8388608) (hP0:∀p∈I,P p) (hPok:∀p,P p→I64 p.1∧I64 p.2.1∧I64 p.2.2)
  (hMf:∀p,P p→(Mf p).map toMv3=mv (lf3 p)∧(Mf p).length≤K∧∀m∈Mf p,P m.2.2)
  (hmo:∀p,P p→∀m∈mv (lf3 p),∃c v:Nat,m.care=c∧m.value=v∧c<8∧v&&&c=v)
  {fA fM:FuncId}{a1 a2 m1 m2:List Value}(hfa:fnOf fa=some (fA,a1,a2)) (hfm:fnOf fm=some (fM,m1,m2))
  (hA:∀p h,P p→g.le h→CallE Tryz.prog fA (a1++pv3 p::a2) h (fun u h'=>h.le h'∧u=.bool (ac (lf3 p))))
  (hM:∀p h,P p→g.le h→CallE Tryz.prog fM (m1++pv3 p::m2) h (fun u h'=>HS h [ow u (Mf p)] h'))
  (R:Rep g iv I) :
  CallE Tryz.prog fn_impl_explore_impl_triple [iv,fa,fm] g (fun u h'=>∃w,u=.tuple #[w,.bool (decide (Fm.exOk mv ac (I.map lf3)))]∧HS g [ow w (Fm.exR mv ac (I.map lf3))] h'):=by
 refine CallE.gen fun k hk=>EN_impl_explore_impl_triple rfl ?_
 by_cases q0:I=[]
 ·subst q0
  have hex:Fm.exN mv ac ([].map lf3) 64=([],[],[]):=Fm.exN_nil 64
  have hok:Fm.exOk mv ac (([]:List (Int×Int×Int)).map lf3):=by unfold Fm.exOk;rw[hex];simp
  simp -implicitDefEqProofs (disch:=first|omega|(simp only[LnZ];omega))[wrap64,R.len]
  refine HS.init.mks (α:=Bool) (z:=false) rfl rfl ⟨rfl,rfl⟩ (by omega) (by decide) (by decide) fun w h1 H=>?_
  simp -implicitDefEqProofs (disch:=first|omega|(simp only[LnZ];omega))[wrap64,setC,H.rep.cells,H.rep.one]
  refine RetK.keep (hk _ _ ⟨_,by rw[decide_eq_true hok],?_⟩)
  rw[Fm.exR,if_pos hok,Fm.exA,hex]
  exact HS.mkAut (a:=⟨[],[false],[]⟩) ((H.nil_ow (α:=Tr)).sw1.nil_ow (α:=Int))
 have q0i:¬(I.length:Int)=0:=fun e=>q0 (List.length_eq_zero_iff.1 (by omega))
 have q0n:¬I.length=0:=by omega
 simp -implicitDefEqProofs (disch:=first|omega|(simp only[LnZ];omega))[wrap64,R.len,q0i,q0n,q0]
 refine HS.init.mkm pv3 vi fun bm h1 H=>?_
 simp -implicitDefEqProofs (disch:=omega)[wrap64]
 refine H.alloc rfl fun b6 h2 H=>?_
 simp -implicitDefEqProofs (disch:=omega)[wrap64]
 refine H.bxst (u:=.map (some bm)) rfl rfl rfl rfl (by simp) fun h3 H=>?_
 have H:HS g [bx b6 [.map (some bm)],mpo pv3 vi bm []] h3:=by simpa[setC] using H
 simp -implicitDefEqProofs (disch:=omega)[wrap64]
 refine H.alloc rfl fun b7 h4 H=>?_
 have H:HS g (Tbs3 b6 b7 bm (.slice none 0 0) [] []++[]) h4:=H.nil_ow.bk3.sw1
 obtain⟨fv,hfv⟩:∃fv,fv=Value.func (.func fn_impl_explore_impl_triple_1) #[] #[.pointer (some ⟨b6,0,none⟩),.pointer (some ⟨b7,0,none⟩)]:=⟨_,rfl⟩
 have hfn:fnOf fv=some (fn_impl_explore_impl_triple_1,[],[.pointer (some ⟨b6,0,none⟩),.pointer (some ⟨b7,0,none⟩)]):=by subst hfv;rfl
 have hfc:fv.cells = #[fv]:=by subst hfv;rfl
 have hf1:fv.oneCell'=true:=by subst hfv;rfl
 simp -implicitDefEqProofs (disch:=first|omega|(simp only[LnZ];omega))[wrap64,R.len]
 rw[← hfv]
 have hLd:∀F:List (Int×Int×Int),F.length=(F.map lf3).length:=fun F=>by simp
 refine wp_count I.length (fun i e h'=>∃(iw fw:Value) (m:List ((Int×Int×Int)×Int)),e=[none,some fa,some fm,some (.agg #[.slice none 0 0,.slice none 0 0,.slice none 0 0]),none,some (.agg #[iw,.slice none 0 0,.slice none 0 0]),none,some (.pointer (some ⟨b7,0,none⟩)),some fv,none,none,none,some iv,some (.int .i64 I.length),some (.int .i64 i),none,none,none] ∧
  HS g (Tbs3 b6 b7 bm fw (I.take i) m++[ow iw (Fm.upto i)]) h'∧MI (I.take i) m) ⟨.slice none 0 0,.slice none 0 0,[],by simp,?_,by simpa using MI.nil⟩ ?_
 ·have:=H.nil_ow (α:=Int)
  exact this.bk4
 clear H
 rintro J i _ h5 hJ hi ⟨iw,fw,m,rfl,H,hm⟩
 simp -implicitDefEqProofs (disch:=omega)[wrap64]
 refine IteW.mk (fun hlt=>?_) (fun hge=>?_)
 ·have hlx:i<I.length:=by omega
  have hpk:=hPok _ (hP0 _ (List.getElem_mem hlx))
  have hu:=hload_le H.base (R.ldF hlx)
  change hload _ (some (elp 3 iv i)) (some 3)=some (pv3 I[i]) at hu
  have hX:=R.X (n:=3) rfl
  have hnot:I[i]∉I.take i:=fun hh=>by
   obtain⟨j,hj,e⟩:=List.mem_iff_getElem.1 hh
   simp only[List.length_take] at hj
   rw[List.getElem_take] at e
   have:=(List.getElem_inj hI).1 e
   omega
  have hat:atK (I.take i) I[i]=i:=by rw[atK_not hnot,List.length_take,Nat.min_eq_left (by omega)]
  have had:adK (I.take i) I[i]=I.take (i+1):=by rw[adK,if_neg hnot,List.take_add_one,List.getElem?_eq_getElem hlx];rfl
  simp -implicitDefEqProofs (disch:=first|omega|(simp only[LnZ];omega))[wrap64,hX,hu,pv3,setC,hfn]
  refine (c_find3 (a:=I[i]) H hm (by simp only[List.length_take];omega) hpk).go ?_
  clear H hm
  rintro _ h6 ⟨fw',m',rfl,H,hm⟩
  rw[had] at H hm
  rw[hat]
  have H:HS g (bx b6 [.map (some bm)]::bx b7 [fw']::mpo pv3 vi bm m'::ow fw' (I.take (i+1))::[ow iw (Fm.upto i)]) h6:=H
  simp -implicitDefEqProofs (disch:=first|omega|(simp only[LnZ];omega))[wrap64,setC]
  refine HS.app1 (bytes:=8) H.sw4 (i:Int) rfl rfl rfl ⟨by omega,by omega⟩ rfl rfl (by simp[Fm.upto];omega) (by simp[Fm.upto];omega) fun iw' h7 H=>?_
  simp -implicitDefEqProofs (disch:=first|omega|(simp only[LnZ];omega))[wrap64,setC,H.rep.cells,H.rep.one]
  refine hJ _ _ hlx ⟨iw',fw',m',by simp,?_,hm⟩
  rw[Fm.upto_succ]
  exact H.bk4
 obtain rfl:i=I.length:=by omega
 rw[List.take_length] at H hm
 simp -implicitDefEqProofs (disch:=omega)[wrap64]
 clear hJ J
 obtain⟨L0,hL0⟩:∃L0,L0=I.map lf3:=⟨_,rfl⟩
 have hLI:L0.length=I.length:=by rw[hL0];simp
 rw[← hL0] at hk
 have hQ0:∀x∈L0,∃p,P p∧x=lf3 p:=fun x hx=>by
  rw[hL0] at hx
  obtain⟨p,hp,rfl⟩:=List.mem_map.1 hx
  exact⟨p,hP0 p hp,rfl⟩
 have hQs:∀x,(∃p,P p∧x=lf3 p)→∀m∈mv x,∃p,P p∧m.to=lf3 p:=by
  rintro _ ⟨p,hp,rfl⟩ m hm
  rw[← (hMf p hp).1] at hm
  obtain⟨q,hq,rfl⟩:=List.mem_map.1 hm
  exact⟨q.2.2,(hMf p hp).2.2 q hq,rfl⟩
 have hQl:∀x,(∃p,P p∧x=lf3 p)→(mv x).length≤K:=by
  rintro _ ⟨p,hp,rfl⟩
  rw[← (hMf p hp).1,List.length_map]
  exact (hMf p hp).2.1
 have hbd:=Fm.exN_len (ac:=ac) hQ0 hQs hQl
 have hbad:∀{h':Heap},g.le h'→¬Fm.exOk mv ac L0→k (.tuple #[.agg #[.slice none 0 0,.slice none 0 0,.slice none 0 0],.bool false]) h':=fun hl hn=>hk _ _ ⟨_,by rw[decide_eq_false hn],by
  rw[Fm.exR,if_neg hn]
  exact HS.mkAut (a:=⟨[],[],[]⟩) (HS.nil_ow (Γ:=[]) hl).nil_ow.nil_ow⟩
 have hL0n:¬L0=[]:=fun e=>q0 (List.length_eq_zero_iff.1 (by rw[← hLI,e];rfl))
 refine wp_count 65 (fun i e h'=>∃(iw aw ew fw:Value) (m:List ((Int×Int×Int)×Int)) (F:List (Int×Int×Int)),e=[none,some fa,some fm,some (.agg #[.slice none 0 0,.slice none 0 0,.slice none 0 0]),none,some (.agg #[iw,aw,ew]),none,some (.pointer (some ⟨b7,0,none⟩)),some fv,none,some (.int .i64 i),none,none,none,none,none,none,none] ∧
  HS g (Tbs3 b6 b7 bm fw F m++[ow iw (Fm.upto I.length),ow aw (Fm.exN mv ac L0 i).2.1,ow ew (Fm.exN mv ac L0 i).2.2]) h'∧MI F m∧F.map lf3=(Fm.exN mv ac L0 i).1∧(∀x∈F,P x)∧i≤64∧∀m,m<i→m<(Fm.exN mv ac L0 m).1.length)
  ⟨iw,.slice none 0 0,.slice none 0 0,fw,m,I,by simp,?_,hm,hL0.symm,hP0,by omega,fun m hm=>absurd hm (Nat.not_lt_zero m)⟩ ?_
 ·exact ((H.nil_ow (α:=Tr)).bk5.nil_ow (α:=Bool)).bk5
 clear H hm m fw iw
 rintro J i _ h6 hJ hi1 ⟨iw,aw,ew,fw,m,F,rfl,H,hm,hF,hPF,hi64,hall⟩
 have hFl:F.length=(Fm.exN mv ac L0 i).1.length:=by rw[← hF];simp
 have hb1:=hbd i
 have hb2:i*K≤64*8388608:=Nat.mul_le_mul hi64 hK
 have hal:=Fm.exN_al (mv:=mv) (ac:=ac) (L0:=L0) i hall
 have H:HS g (bx b6 [.map (some bm)]::bx b7 [fw]::mpo pv3 vi bm m::ow fw F::[ow iw (Fm.upto I.length),ow aw (Fm.exN mv ac L0 i).2.1,ow ew (Fm.exN mv ac L0 i).2.2]) h6:=H
 have hew:=H.sw6.rep.lt
 by_cases q2:i<F.length
 case neg=>
  have hend:Fm.exN mv ac L0 64=Fm.exN mv ac L0 i:=Fm.exOk_end hi64 (by omega)
  have hA:Fm.exA mv ac L0=⟨Fm.upto I.length,(Fm.exN mv ac L0 i).2.1,(Fm.exN mv ac L0 i).2.2⟩:=by rw[Fm.exA,if_neg hL0n,hend,hLI]
  have hOk:(Fm.exA mv ac L0).Ok↔Fm.exOk mv ac L0:=by
   constructor
   ·intro h
    have:=h.2.1
    rw[hA] at this
    exact⟨by rw[hend];omega,by rw[hend];exact this⟩
   ·rintro⟨h1,h2⟩
    refine Fm.exA_ok h1 h2 fun x hx m hm=>?_
    obtain⟨p,hp,rfl⟩:=Fm.exN_all hQ0 hQs 64 x hx
    exact hmo p hp m hm
  have hexR:Fm.exOk mv ac L0→Fm.exR mv ac L0=Fm.exA mv ac L0:=fun h=>by rw[Fm.exR,if_pos h]
  have O1:=H.sw4.rep.one
  have O2:=H.sw5.rep.one
  have O3:=H.sw6.rep.one
  have hbf:=H.sw1.bxld0
  have hfl:=H.sw3.rep.len
  have H:=HS.mkAut (a:=⟨Fm.upto I.length,(Fm.exN mv ac L0 i).2.1,(Fm.exN mv ac L0 i).2.2⟩) H.drop.drop.drop.drop
  rw[← hA] at H
  have FA:=H.rep.aAut
  simp -implicitDefEqProofs (disch:=first|omega|(simp only[LnZ];omega))[wrap64,hbf,hfl,q2,O1,O2,O3,setC]
  refine (c_AutomatonValid H.rep).go ?_
  rintro _ h7 ⟨l7,rfl⟩
  have H:=H.le l7
  by_cases q5:Fm.exOk mv ac L0
  ·have q6:=hOk.2 q5
   have hOk3:=q6.2.1
   have hOk4:=q6.1
   simp -implicitDefEqProofs (disch:=first|omega|(simp only[LnZ];omega))[wrap64,q6,FA]
   refine (c_copyOf H.rep (by rw[hA];simp[Fm.upto];omega) (by omega) (by omega)).go ?_
   intro w h8 G
   have FW:=G.rep.aAut
   simp -implicitDefEqProofs (disch:=first|omega|(simp only[LnZ];omega))[wrap64,FW,setC]
   refine RetK.keep (hk _ _ ⟨w,by rw[decide_eq_true q5],?_⟩)
   rw[hexR q5]
   exact (G.app H).sw1.drop
  ·have q6:¬_:=fun hh=>q5 (hOk.1 hh)
   simp -implicitDefEqProofs (disch:=first|omega|(simp only[LnZ];omega))[wrap64,q6,setC]
   exact RetK.keep (hbad H.base q5)
 have hnn:(Fm.exN mv ac L0 i).1[i]? = some (lf3 F[i]):=by rw[← hF];simp[q2]
 have hsu:=Fm.exN_succ hnn
 have hPi:=hPF _ (List.getElem_mem q2)
 by_cases q3:i=64
 ·have hok:=Fm.exOk_big (mv:=mv) (ac:=ac) (L0:=L0) hi64 (.inl ⟨q3,by omega⟩)
  have q3i:(i:Int)=64:=by omega
  simp -implicitDefEqProofs (disch:=first|omega|(simp only[LnZ];omega))[wrap64,H.sw1.bxld0,H.sw3.rep.len,q2,q3i,show (64:Int)<F.length by omega,H.sw4.rep.one,H.sw5.rep.one,H.sw6.rep.one,setC]
  exact RetK.keep (hbad H.base hok)
 by_cases q4:2048<(Fm.exN mv ac L0 i).2.2.length
 ·have hok:=Fm.exOk_big (mv:=mv) (ac:=ac) (L0:=L0) hi64 (.inr q4)
  have q3i:¬(i:Int)=64:=by omega
  have q4i:(2048:Int)<(Fm.exN mv ac L0 i).2.2.length:=by omega
  simp -implicitDefEqProofs (disch:=first|omega|(simp only[LnZ];omega))[wrap64,H.sw1.bxld0,H.sw3.rep.len,q2,q3i,q4i,H.sw4.rep.one,H.sw5.rep.one,H.sw6.rep.one,H.sw6.rep.len,setC]
  exact RetK.keep (hbad H.base hok)
 have q3i:¬(i:Int)=64:=by omega
 have q4i:¬(2048:Int)<(Fm.exN mv ac L0 i).2.2.length:=by omega
 obtain⟨L,hL⟩:∃L,L=(Fm.exN mv ac L0 i).1:=⟨_,rfl⟩
 obtain⟨A,hAA⟩:∃A,A=(Fm.exN mv ac L0 i).2.1:=⟨_,rfl⟩
 obtain⟨E,hE⟩:∃E,E=(Fm.exN mv ac L0 i).2.2:=⟨_,rfl⟩
 rw[← hL] at hF hFl hb1 hsu hnn
 rw[← hAA] at H hal hsu
 rw[← hE] at H hew hsu q4 q4i
 obtain⟨p,hp⟩:∃p,p=F[i]:=⟨_,rfl⟩
 rw[← hp] at hPi hsu hnn
 have hu:hload h6 (some (elp 3 fw i)) (some 3)=some (pv3 p):=by rw[hp];exact H.sw3.rep.ldF q2
 simp -implicitDefEqProofs (disch:=first|omega|(simp only[LnZ];omega))[wrap64,H.sw1.bxld0,H.sw3.rep.len,q2,q3i,q4i,H.sw4.rep.one,H.sw5.rep.one,H.sw6.rep.one,H.sw6.rep.len,H.sw3.rep.X (n:=3) rfl,hu,hfa,setC]
 refine (hA p h6 hPi H.base).go ?_
 rintro _ h7 ⟨l7,rfl⟩
 have H:=H.le l7
 have hu:=hload_le l7 hu
 simp -implicitDefEqProofs (disch:=first|omega|(simp only[LnZ];omega))[wrap64,setC]
 refine HS.app1 (bytes:=1) H.sw5 (ac (lf3 p)) rfl rfl rfl trivial rfl rfl (by omega) (by omega) fun aw' h8 H=>?_
 have hu:hload h8 (some (elp 3 fw i)) (some 3)=some (pv3 p):=by rw[hp];exact H.sw4.rep.ldF q2
 simp -implicitDefEqProofs (disch:=first|omega|(simp only[LnZ];omega))[wrap64,setC,H.rep.cells,H.rep.one,H.sw2.bxld0,H.sw4.rep.X (n:=3) rfl,hu,hfm]
 refine (hM p h8 hPi H.base).go ?_
 intro mw h9 G
 have H:=(G.app H.bk5).bk6
 obtain⟨hM1,hM2,hM3⟩:=hMf p hPi
 obtain⟨M,hMd⟩:∃M,M=mv (lf3 p):=⟨_,rfl⟩
 rw[← hMd] at hsu hM1
 have hMl:M.length=(Mf p).length:=by rw[← hM1];simp
 have H:HS g (Tbs3 b6 b7 bm fw F m++[ow iw (Fm.upto I.length),ow aw' (A++[ac (lf3 p)]),ow mw (Mf p),ow ew E]) h9:=H
 simp -implicitDefEqProofs (disch:=first|omega|(simp only[LnZ];omega))[wrap64,G.rep.len]
 refine wp_count (Mf p).length (fun j e h'=>∃(ew fw:Value) (m:List ((Int×Int×Int)×Int)) (F:List (Int×Int×Int)),e=[none,some fa,some fm,some (.agg #[.slice none 0 0,.slice none 0 0,.slice none 0 0]),none,some (.agg #[iw,aw',ew]),none,some (.pointer (some ⟨b7,0,none⟩)),some fv,none,some (.int .i64 i),none,none,none,none,some mw,some (.int .i64 (Mf p).length),some (.int .i64 j)] ∧
  HS g (Tbs3 b6 b7 bm fw F m++[ow iw (Fm.upto I.length),ow aw' (A++[ac (lf3 p)]),ow mw (Mf p),ow ew (Fm.exRow i (M.take j) (L,E)).2]) h'∧MI F m∧F.map lf3=(Fm.exRow i (M.take j) (L,E)).1∧∀x∈F,P x)
  ⟨ew,fw,m,F,by simp,H,hm,hF,hPF⟩ ?_
 clear H hm hF hPF hu hFl hew G
 rintro J2 j _ h10 hJ2 hj ⟨ew,fw,m,F,rfl,H,hm,hF,hPF⟩
 simp -implicitDefEqProofs (disch:=omega)[wrap64]
 refine IteW.mk (fun hlt=>?_) (fun hge=>?_)
 ·have hjx:j<(Mf p).length:=by omega
  have hjM:j<M.length:=by omega
  have hst:=Fm.exRow_take (i:=i) (q:=(L,E)) hjM
  have hel:=(Fm.exRow_er (i:=i) (M.take j) (L,E)).el
  have hll:=Fm.exRow_len (i:=i) (M.take j) (L,E)
  simp only[List.length_take] at hel hll
  have hFl:F.length=(Fm.exRow i (M.take j) (L,E)).1.length:=by rw[← hF];simp
  have hPq:=hM3 _ (List.getElem_mem hjx)
  have hMj:M[j]=toMv3 (Mf p)[j]:=by simp only[← hM1,List.getElem_map]
  have H:HS g (bx b6 [.map (some bm)]::bx b7 [fw]::mpo pv3 vi bm m::ow fw F::[ow iw (Fm.upto I.length),ow aw' (A++[ac (lf3 p)]),ow mw (Mf p),ow ew (Fm.exRow i (M.take j) (L,E)).2]) h10:=H
  have hok:=H.sw6.rep.okF hjx
  have hu:=H.sw6.rep.ldF hjx
  have hX:=H.sw6.rep.X (n:=5) rfl
  rw[hMj] at hst
  obtain⟨q,hq⟩:∃q,q=(Mf p)[j]:=⟨_,rfl⟩
  rw[← hq] at hst hPq hok hu
  change hload _ (some (elp 5 mw j)) (some 5)=some (.agg #[.int .i64 q.1,.int .i64 q.2.1,.int .i64 q.2.2.1,.int .i64 q.2.2.2.1,.int .i64 q.2.2.2.2]) at hu
  have hok:I64 q.1∧I64 q.2.1∧I64 q.2.2.1∧I64 q.2.2.2.1∧I64 q.2.2.2.2:=hok
  have hat:=atK_map lf3_inj F q.2.2
  rw[hF] at hat
  have hbn:=atK_bnd (F:=F) (a:=q.2.2)
  generalize Fm.exRow i (M.take j) (L,E)=Q at *
  simp -implicitDefEqProofs (disch:=first|omega|(simp only[LnZ];omega))[wrap64,hX,hu,setC,hfn]
  refine (c_find3 (a:=q.2.2) (Γ:=[ow iw (Fm.upto I.length),ow aw' (A++[ac (lf3 p)]),ow mw (Mf p),ow ew Q.2]) H hm (by omega) (hPok _ hPq)).go ?_
  rintro _ h11 ⟨fw',m',rfl,H,hm⟩
  have H:HS g (bx b6 [.map (some bm)]::bx b7 [fw']::mpo pv3 vi bm m'::ow fw' (adK F q.2.2)::[ow iw (Fm.upto I.length),ow aw' (A++[ac (lf3 p)]),ow mw (Mf p),ow ew Q.2]) h11:=H
  simp -implicitDefEqProofs (disch:=first|omega|(simp only[LnZ];omega))[wrap64,setC]
  refine HS.app1 (bytes:=32) H.sw7 (⟨(i:Int),q.1,q.2.1,atK F q.2.2⟩:Tr) rfl rfl rfl (Tr.ok_iff.2 ⟨⟨by simp only;omega,by simp only;omega⟩,hok.1,hok.2.1,⟨by simp only;omega,by simp only;omega⟩⟩) rfl rfl (by omega) (by omega) fun ew' h12 H=>?_
  simp -implicitDefEqProofs (disch:=first|omega|(simp only[LnZ];omega))[wrap64,setC,H.rep.cells,H.rep.one]
  refine hJ2 _ _ hjx ⟨ew',fw',m',adK F q.2.2,by simp,?_,hm,by rw[hst,hat.2];rfl,adK_all hPF hPq⟩
  rw[hst]
  have:Q.2++[(⟨(i:Int),q.1,q.2.1,atK F q.2.2⟩:Tr)]=(Fm.adL Q.1 (toMv3 q).to,Q.2++[⟨(i:Int),(toMv3 q).care,(toMv3 q).value,Fm.atL Q.1 (toMv3 q).to⟩]).2:=by rw[hat.1];rfl
  rw[← this]
  exact H.sw7.sw7.sw7.sw7.sw7.sw7.sw7
 simp -implicitDefEqProofs (disch:=omega)[wrap64]
 have hsuL:(Fm.exN mv ac L0 (i+1)).2.1=A++[ac (lf3 p)]:=by rw[hsu]
 rw[List.take_of_length_le (by omega)] at H hF
 refine hJ _ _ (by omega) ⟨iw,aw',ew,fw,m,F,by simp,?_,hm,by rw[hF,hsu],hPF,by omega,fun n hn=>?_⟩
 ·rw[hsu]
  have H:HS g (bx b6 [.map (some bm)]::bx b7 [fw]::mpo pv3 vi bm m::ow fw F::[ow iw (Fm.upto I.length),ow aw' (A++[ac (lf3 p)]),ow mw (Mf p),ow ew (Fm.exRow i M (L,E)).2]) h10:=H
  exact H.under fun _ H=>H.under fun _ H=>H.under fun _ H=>H.under fun _ H=>H.under fun _ H=>H.under fun _ H=>H.drop
 ·by_cases e:n=i
  ·subst e
   have:=(List.getElem?_eq_some_iff.1 hnn).1
   rw[hL] at this
   exact this
  ·exact hall n (by omega)
theorem i64_xor {a b:Nat}(ha:a<4611686018427387904) (hb:b<4611686018427387904):xorI .i64 (a:Int) (b:Int)=((a^^^b:Nat):Int):=by
 unfold xorI
 rw[show IntKind.i64.bits=64 from rfl,BitVec.toNat_xor,bv_nat (by omega),bv_nat (by omega)]
 have:a^^^b<2^62:=Nat.xor_lt_two_pow (by omega) (by omega)
 exact wrap64 (by omega) (by omega)
namespace Fm
def imv (a b:Aut) (s:List Int) (e f:Tr):Int×Int×Int×Int×Int:=(((e.care.toNat|||f.care.toNat:Nat):Int),((e.value.toNat|||f.value.toNat:Nat):Int),e.to,f.to,pph a b s)
def ifit (s:List Int) (e f:Tr):Bool:=decide (e.frm=s.getD 0 0∧f.frm=s.getD 1 0)&&fits e f
def irow (a b:Aut) (s:List Int) (e:Tr) (m:Nat):List (Int×Int×Int×Int×Int):=((b.edges.take m).filter (ifit s e)).map (imv a b s e)
def iall (a b:Aut) (s:List Int) (n:Nat):List (Int×Int×Int×Int×Int):=(a.edges.take n).flatMap fun e=>irow a b s e b.edges.length
section
variable {a b:Aut}{s:List Int}{e:Tr}{n m:Nat}
theorem irow_succ (hm:m<b.edges.length):irow a b s e (m+1)=irow a b s e m++if ifit s e b.edges[m] then [imv a b s e b.edges[m]] else []:=by
 unfold irow
 rw[List.take_add_one,List.getElem?_eq_getElem hm,List.filter_append,List.map_append]
 cases h:ifit s e b.edges[m]<;>simp[h]
theorem iall_succ (hn:n<a.edges.length):iall a b s (n+1)=iall a b s n++irow a b s a.edges[n] b.edges.length:=by
 unfold iall
 rw[List.take_add_one,List.getElem?_eq_getElem hn,List.flatMap_append]
 simp
theorem irow_len:(irow a b s e m).length≤m:=by
 unfold irow
 rw[List.length_map]
 have:=List.length_filter_le (ifit s e) (b.edges.take m)
 rw[List.length_take] at this
 omega
theorem iall_len:∀n,n≤a.edges.length→(iall a b s n).length≤n*b.edges.length
 | 0,_=>by simp[iall]
 | n+1,h=>by
  have ih:=iall_len n (by omega)
  have:=irow_len (a:=a) (b:=b) (s:=s) (e:=a.edges[n]) (m:=b.edges.length)
  rw[iall_succ (by omega),List.length_append,Nat.add_mul]
  omega
theorem iall_prM:(iall a b s a.edges.length).map toMv3=prM a b s:=by
 unfold iall prM irow
 simp only[List.take_length,List.map_flatMap,List.map_map]
 rfl
theorem iall_mem {q:Int×Int×Int×Int×Int}(h:q∈iall a b s a.edges.length):∃e∈a.edges,∃f∈b.edges,q=imv a b s e f:=by
 unfold iall irow at h
 rw[List.take_length,List.take_length] at h
 obtain⟨e,he,h⟩:=List.mem_flatMap.1 h
 obtain⟨f,hf,h⟩:=List.mem_map.1 h
 exact⟨e,he,f,(List.mem_filter.1 hf).1,h.symm⟩
end
end Fm
section
variable {h:Heap}{a b:Aut}{bA bB:Nat}{av2 av3 bv2 bv3:Value}{x y:Nat}{p:Int}
theorem c_inter_2 (hB1:hload h (some (.pointer (some ⟨bB,1,none⟩))) none=some bv2) (R2:Rep h bv2 b.acc) (hy:y<b.acc.length):CallE Tryz.prog fn_impl_IntersectAutomata_2 [pv3 (x,y,p),.pointer (some ⟨bB,0,none⟩)] h (fun u h'=>h.le h'∧u=.bool (Fm.prC b (lf3 (x,y,p)))):=by
 have hpc:Fm.prC b (lf3 ((x:Int),(y:Int),p))=(decide (p=1)&&b.acc[y]):=by
  unfold Fm.prC lf3
  simp[hy]
 refine CallE.gen fun k hk=>EN_impl_IntersectAutomata_2 rfl ?_
 rw[hpc] at hk
 by_cases e:p=1
 ·simp -implicitDefEqProofs (disch:=first|omega|(simp only[LnZ];omega))[wrap64,pv3,setC,e,hB1,R2.B]
  exact RetK.keep (hk _ _ ⟨Heap.le.refl _,by simp[e]⟩)
 ·simp -implicitDefEqProofs (disch:=first|omega|(simp only[LnZ];omega))[wrap64,pv3,setC,e]
  exact RetK.keep (hk _ _ ⟨Heap.le.refl _,by simp[e]⟩)
theorem c_inter_1 (ha:a.Ok) (hb:b.Ok) (hA1:hload h (some (.pointer (some ⟨bA,1,none⟩))) none=some av2) (hA2:hload h (some (.pointer (some ⟨bA,2,none⟩))) none=some av3) (hB1:hload h (some (.pointer (some ⟨bB,1,none⟩))) none=some bv2) (hB2:hload h (some (.pointer (some ⟨bB,2,none⟩))) none=some bv3)
  (RA2:Rep h av2 a.acc) (RA3:Rep h av3 a.edges) (RB2:Rep h bv2 b.acc) (RB3:Rep h bv3 b.edges) (hx:x<a.acc.length) (hy:y<b.acc.length) (hp:p=0∨p=1) :
  CallE Tryz.prog fn_impl_IntersectAutomata_1 [pv3 (x,y,p),.pointer (some ⟨bA,0,none⟩),.pointer (some ⟨bB,0,none⟩)] h (fun u h'=>HS h [ow u (Fm.iall a b (lf3 (x,y,p)) a.edges.length)] h'):=by
 have hal:=ha.2.1
 have hbl:=hb.2.1
 obtain⟨s,hs⟩:∃s,s=lf3 ((x:Int),(y:Int),p):=⟨_,rfl⟩
 have s0:s.getD 0 0=x:=by rw[hs];rfl
 have s1:s.getD 1 0=y:=by rw[hs];rfl
 have hph:Fm.pph a b s=if p=0 then (if a.acc[x]=true then 1 else 0) else (if b.acc[y]=true then 0 else 1):=by
  rw[hs]
  unfold Fm.pph lf3 Go.Proofs.YtielhfonnleldaaGreat.tru
  simp[hx,hy]
 rw[← hs]
 refine CallE.gen fun k hk=>EN_impl_IntersectAutomata_1 rfl ?_
 obtain⟨ph,hphd⟩:∃ph,ph=Fm.pph a b s:=⟨_,rfl⟩
 have hph64:I64 ph:=by
  rw[hphd,hph]
  split<;>split<;>exact⟨by omega,by omega⟩
 have main:∀{q4 q6 q7 q8 q9 q10 q11 q12 q13 q14:Option Value},K58_18.wp Tryz.prog (retQ [(4,none)] k) [none,some (.pointer (some ⟨bA,0,none⟩)),some (.pointer (some ⟨bB,0,none⟩)),some (.agg #[.int .i64 x,.int .i64 y,.int .i64 p]),q4,some (.int .i64 ph),q6,q7,q8,q9,q10,q11,q12,q13,q14] h:=by
  intro q4 q6 q7 q8 q9 q10 q11 q12 q13 q14
  simp -implicitDefEqProofs (disch:=first|omega|(simp only[LnZ];omega))[wrap64,hA2,RA3.len]
  refine wp_count a.edges.length (fun i e h'=>∃o,e=[none,none,some (.pointer (some ⟨bB,0,none⟩)),some (.agg #[.int .i64 x,.int .i64 y,.int .i64 p]),none,some (.int .i64 ph),some o,none,none,some av3,some (.int .i64 a.edges.length),some (.int .i64 i),none,none,none]∧HS h [ow o (Fm.iall a b s i)] h') ⟨.slice none 0 0,by simp,HS.init.nil_ow⟩ ?_
  rintro J i _ h1 hJ hi ⟨o,rfl,H⟩
  simp -implicitDefEqProofs (disch:=omega)[wrap64]
  refine IteW.mk (fun hlt=>?_) (fun hge=>?_)
  ·have hix:i<a.edges.length:=by omega
   have hxA:=(RA3.on H).xTr
   have hll:=Fm.iall_len (a:=a) (b:=b) (s:=s) i hi
   have hsuc:=Fm.iall_succ (a:=a) (b:=b) (s:=s) hix
   have hmul:i*b.edges.length≤2048*2048:=Nat.mul_le_mul (by omega) hbl
   obtain⟨e,he⟩:∃e,e=a.edges[i]:=⟨_,rfl⟩
   obtain⟨c1,v1,e1,e2,e3,e4,e5⟩:=Fm.Tr.nats2 (ha.2.2.2 _ (List.getElem_mem hix))
   have hokA:=RA3.okTr hix
   rw[← he] at hsuc e1 e2 hokA
   simp -implicitDefEqProofs (disch:=first|omega|(simp only[LnZ];omega))[wrap64,hxA,← he,Tr.v,setC,hload_le H.base hB2,(RB3.on H).len]
   refine wp_count b.edges.length (fun j e' h'=>∃o,e'=[none,none,some (.pointer (some ⟨bB,0,none⟩)),some (.agg #[.int .i64 x,.int .i64 y,.int .i64 p]),none,some (.int .i64 ph),some o,some (.agg #[.int .i64 e.frm,.int .i64 e.care,.int .i64 e.value,.int .i64 e.to]),none,some av3,some (.int .i64 a.edges.length),some (.int .i64 i),some bv3,some (.int .i64 b.edges.length),some (.int .i64 j)] ∧
    HS h [ow o (Fm.iall a b s i++Fm.irow a b s e j)] h') ⟨o,by simp,by simpa[Fm.irow] using H⟩ ?_
   clear H
   rintro J2 j _ h2 hJ2 hj ⟨o,rfl,H⟩
   simp -implicitDefEqProofs (disch:=omega)[wrap64]
   refine IteW.mk (fun hlt2=>?_) (fun hge2=>?_)
   ·have hjx:j<b.edges.length:=by omega
    have hxB:=(RB3.on H).xTr
    have hrl:=Fm.irow_len (a:=a) (b:=b) (s:=s) (e:=e) (m:=j)
    have hrs:=Fm.irow_succ (a:=a) (b:=b) (s:=s) (e:=e) hjx
    obtain⟨f,hf⟩:∃f,f=b.edges[j]:=⟨_,rfl⟩
    obtain⟨c2,v2,f1,f2,f3,f4,f5⟩:=Fm.Tr.nats2 (hb.2.2.2 _ (List.getElem_mem hjx))
    have hokB:=RB3.okTr hjx
    rw[← hf] at hrs f1 f2 hokB
    have hfd:Fm.ifit s e f=(decide (e.frm=x∧f.frm=y)&&decide ((v1^^^v2)&&&c1&&&c2=0)):=by
     unfold Fm.ifit Fm.fits
     rw[s0,s1,e1,e2,f1,f2]
     simp only[Int.toNat_natCast]
    have him:Fm.imv a b s e f=(((c1|||c2:Nat):Int),((v1|||v2:Nat):Int),e.to,f.to,ph):=by
     unfold Fm.imv
     rw[e1,e2,f1,f2,hphd]
     simp only[Int.toNat_natCast]
    have hno:Fm.ifit s e f=false→J2 [none,none,some (.pointer (some ⟨bB,0,none⟩)),some (.agg #[.int .i64 x,.int .i64 y,.int .i64 p]),none,some (.int .i64 ph),some o,some (.agg #[.int .i64 e.frm,.int .i64 e.care,.int .i64 e.value,.int .i64 e.to]),none,some av3,some (.int .i64 a.edges.length),some (.int .i64 i),some bv3,some (.int .i64 b.edges.length),some (.int .i64 ((j+1:Nat):Int))] h2:=fun e0=>hJ2 _ _ hjx ⟨o,rfl,by rw[hrs,e0];simpa using H⟩
    have hx8:v1^^^v2<8:=Nat.xor_lt_two_pow (n:=3) e4 f4
    have hxa:(v1^^^v2)&&&c1≤v1^^^v2:=Nat.and_le_left
    have g1:=i64_xor (a:=v1) (b:=v2) (by omega) (by omega)
    have g2:=i64_and (a:=v1^^^v2) (b:=c1) (by omega) (by omega)
    have g3:=i64_and (a:=(v1^^^v2)&&&c1) (b:=c2) (by omega) (by omega)
    have g4:=i64_or (a:=c1) (b:=c2) (by omega) (by omega)
    have g5:=i64_or (a:=v1) (b:=v2) (by omega) (by omega)
    have o8:=Fm.or8 e3 f3
    have o9:=Fm.or8 e4 f4
    by_cases q1:e.frm=x
    case neg=>
     simp -implicitDefEqProofs (disch:=first|omega|(simp only[LnZ];omega))[wrap64,hxB,← hf,Tr.v,setC,q1]
     simpa using hno (by rw[hfd];simp[q1])
    by_cases q2:f.frm=y
    case neg=>
     simp -implicitDefEqProofs (disch:=first|omega|(simp only[LnZ];omega))[wrap64,hxB,← hf,Tr.v,setC,q1,q2]
     simpa[q1] using hno (by rw[hfd];simp[q2])
    by_cases q3:(v1^^^v2)&&&c1&&&c2=0
    case neg=>
     have q3i:¬(((v1^^^v2)&&&c1&&&c2:Nat):Int)=0:=by omega
     simp -implicitDefEqProofs (disch:=first|omega|(simp only[LnZ];omega))[wrap64,hxB,← hf,Tr.v,setC,q1,q2,e1,e2,f1,f2,g1,g2,g3,q3,q3i]
     simpa[q1,e1,e2] using hno (by rw[hfd];simp[q3])
    have hyes:Fm.ifit s e f=true:=by rw[hfd];simp[q1,q2,q3]
    have q3i:(((v1^^^v2)&&&c1&&&c2:Nat):Int)=0:=by omega
    have hokm:I64 ((c1|||c2:Nat):Int)∧I64 ((v1|||v2:Nat):Int)∧I64 e.to∧I64 f.to∧I64 ph:=⟨⟨by omega,by omega⟩,⟨by omega,by omega⟩,hokA.to,hokB.to,hph64⟩
    rw[hyes,if_pos rfl,him] at hrs
    have hlen2:(Fm.iall a b s i++Fm.irow a b s e j).length≤8388608:=by rw[List.length_append];omega
    simp -implicitDefEqProofs (disch:=first|omega|(simp only[LnZ];omega))[wrap64,hxB,← hf,Tr.v,setC,q1,q2,e1,e2,f1,f2,g1,g2,g3,g4,g5,q3i]
    refine HS.app1 (bytes:=40) H (((c1|||c2:Nat):Int),((v1|||v2:Nat):Int),e.to,f.to,ph) rfl rfl rfl hokm rfl rfl (by omega) (by omega) fun o' h3 H=>?_
    simp -implicitDefEqProofs (disch:=omega)[wrap64]
    have:=hJ2 _ h3 hjx ⟨o',rfl,by rw[hrs,← List.append_assoc];exact H⟩
    simpa[q1,e1,e2] using this
   ·obtain rfl:j=b.edges.length:=by omega
    simp -implicitDefEqProofs (disch:=omega)[wrap64]
    exact hJ _ _ hix ⟨o,by simp,by rw[hsuc];exact H⟩
  ·obtain rfl:i=a.edges.length:=by omega
   simp -implicitDefEqProofs (disch:=omega)[wrap64]
   exact RetK.keep (hk _ _ H)
 have M:=fun q4 q6 q7 q8 q9 q10 q11 q12 q13 q14=>main (q4:=q4) (q6:=q6) (q7:=q7) (q8:=q8) (q9:=q9) (q10:=q10) (q11:=q11) (q12:=q12) (q13:=q13) (q14:=q14)
 rw[hph] at hphd
 rcases hp with rfl | rfl
 ·rw[if_pos rfl] at hphd
  cases hc:a.acc[x] with
  | true=>
   rw[hc,if_pos rfl] at hphd
   subst hphd
   simp -implicitDefEqProofs (disch:=omega)[wrap64] at M
   simp -implicitDefEqProofs (disch:=first|omega|(simp only[LnZ];omega))[wrap64,pv3,setC,hA1,RA2.B,hc]
   exact M _ _ _ _ _ _ _ _ _
  | false=>
   rw[hc,if_neg (by decide)] at hphd
   subst hphd
   simp -implicitDefEqProofs (disch:=omega)[wrap64] at M
   simp -implicitDefEqProofs (disch:=first|omega|(simp only[LnZ];omega))[wrap64,pv3,setC,hA1,RA2.B,hc]
   exact M _ _ _ _ _ _ _ _ _
 ·rw[if_neg (by decide)] at hphd
  cases hc:b.acc[y] with
  | true=>
   rw[hc,if_pos rfl] at hphd
   subst hphd
   simp -implicitDefEqProofs (disch:=omega)[wrap64] at M
   simp -implicitDefEqProofs (disch:=first|omega|(simp only[LnZ];omega))[wrap64,pv3,setC,hB1,RB2.B,hc]
   exact M _ _ _ _ _ _ _ _ _
  | false=>
   rw[hc,if_neg (by decide)] at hphd
   subst hphd
   simp -implicitDefEqProofs (disch:=omega)[wrap64] at M
   simp -implicitDefEqProofs (disch:=first|omega|(simp only[LnZ];omega))[wrap64,pv3,setC,hB1,RB2.B,hc]
   exact M _ _ _ _ _ _ _ _ _
end
namespace Fm
def ini3 (a b:Aut) (n:Nat):List (Int×Int×Int):=(a.init.take n).flatMap fun p=>b.init.map fun q=>(p,q,0)
theorem ini3_succ {a b:Aut}{n:Nat}(hn:n<a.init.length):ini3 a b (n+1)=ini3 a b n++b.init.map fun q=>(a.init[n],q,0):=by
 unfold ini3
 rw[List.take_add_one,List.getElem?_eq_getElem hn,List.flatMap_append]
 simp
theorem ini3_len {a b:Aut}:∀n,n≤a.init.length→(ini3 a b n).length≤n*b.init.length
 | 0,_=>by simp[ini3]
 | n+1,h=>by
  have ih:=ini3_len (a:=a) (b:=b) n (by omega)
  rw[ini3_succ (a:=a) (b:=b) (n:=n) (by omega),List.length_append,List.length_map,Nat.add_mul]
  omega
theorem ini3_map {a b:Aut}:(ini3 a b a.init.length).map lf3=prI a b:=by
 unfold ini3 prI
 rw[List.take_length,List.map_flatMap]
 simp only[List.map_map]
 rfl
theorem ini3_mem {a b:Aut}{n:Nat}{p:Int×Int×Int}(h:p∈ini3 a b n):p.1∈a.init∧p.2.1∈b.init∧p.2.2=0:=by
 unfold ini3 at h
 obtain⟨x,hx,h⟩:=List.mem_flatMap.1 h
 obtain⟨y,hy,rfl⟩:=List.mem_map.1 h
 exact⟨List.mem_of_mem_take hx,hy,rfl⟩
theorem prs_nodup {l m:List Int}(hl:l.Nodup) (hm:m.Nodup):(l.flatMap fun p=>m.map fun q=>(p,q,(0:Int))).Nodup:=by
 induction l with
 | nil=>simp
 | cons x l ih=>
  rw[List.nodup_cons] at hl
  rw[List.flatMap_cons,List.nodup_append]
  refine⟨?_,ih hl.2,fun p hp q hq=>?_⟩
  ·rw[List.nodup_iff_pairwise_ne,List.pairwise_map]
   exact hm.imp fun h e=>h (by simpa using e)
  ·obtain⟨y,_,rfl⟩:=List.mem_map.1 hp
   obtain⟨x',hx',hq⟩:=List.mem_flatMap.1 hq
   obtain⟨y',_,rfl⟩:=List.mem_map.1 hq
   intro e
   simp only[Prod.mk.injEq] at e
   exact hl.1 (e.1▸hx')
def inOk (a b:Aut):Prop:=a.Ok∧b.Ok∧exOk (prM a b) (prC b) (prI a b)
noncomputable instance {a b:Aut}:Decidable (inOk a b):=Classical.propDecidable _
noncomputable def inR (a b:Aut):Aut:=if inOk a b then prA a b else ⟨[],[],[]⟩
end Fm
theorem incr_nodup {n:Int}{l:List Int}(h:incr n (-1) l):l.Nodup:=by
 rw[List.nodup_iff_pairwise_ne]
 exact (incr_iff.1 h).1.imp fun h=>by omega
set_option maxHeartbeats 1000000 in
theorem c_IntersectAutomata {h:Heap}{v w:Value}{a b:Aut}(Ra:Rep h v a) (Rb:Rep h w b):CallE Tryz.prog fn_impl_IntersectAutomata [v,w] h (fun u h'=>∃wv,u=.tuple #[wv,.bool (decide (Fm.inOk a b))]∧HS h [ow wv (Fm.inR a b)] h'):=by
 have FA:=Ra.aAut
 have FB:=Rb.aAut
 have hno:∀{h'},h.le h'→¬Fm.inOk a b→HS h [ow (.agg #[.slice none 0 0,.slice none 0 0,.slice none 0 0]) (Fm.inR a b)] h':=fun hl hn=>by
  rw[Fm.inR,if_neg hn]
  exact HS.mkAut (a:=⟨[],[],[]⟩) (HS.nil_ow (Γ:=[]) hl).nil_ow.nil_ow
 obtain⟨a1,a2,a3,rfl,RA1,RA2,RA3⟩:=Rep_Aut.1 Ra
 obtain⟨b1,b2,b3,rfl,RB1,RB2,RB3⟩:=Rep_Aut.1 Rb
 refine CallE.gen fun k hk=>EN_impl_IntersectAutomata rfl ?_
 simp -implicitDefEqProofs (disch:=omega)[wrap64]
 refine HS.init.alloc rfl fun bA h1 H=>?_
 simp -implicitDefEqProofs (disch:=omega)[wrap64]
 refine H.alloc rfl fun bB h2 H=>?_
 have H:HS h [bx bB [b1,b2,b3],bx bA [a1,a2,a3]] h2:=H
 have hA:hload h2 (some (.pointer (some ⟨bA,0,none⟩))) (some 3)=some (.agg #[a1,a2,a3]):=by
  have:=H.sw1.bxlds (o:=0) (n:=3) (by simp)
  simpa using this
 have hB:hload h2 (some (.pointer (some ⟨bB,0,none⟩))) (some 3)=some (.agg #[b1,b2,b3]):=by
  have:=H.bxlds (o:=0) (n:=3) (by simp)
  simpa using this
 have hA0:hload h2 (some (.pointer (some ⟨bA,0,none⟩))) none=some a1:=H.sw1.bxld (o:=0) rfl
 have hA1:hload h2 (some (.pointer (some ⟨bA,1,none⟩))) none=some a2:=H.sw1.bxld (o:=1) rfl
 have hA2:hload h2 (some (.pointer (some ⟨bA,2,none⟩))) none=some a3:=H.sw1.bxld (o:=2) rfl
 have hB0:hload h2 (some (.pointer (some ⟨bB,0,none⟩))) none=some b1:=H.bxld (o:=0) rfl
 have hB1:hload h2 (some (.pointer (some ⟨bB,1,none⟩))) none=some b2:=H.bxld (o:=1) rfl
 have hB2:hload h2 (some (.pointer (some ⟨bB,2,none⟩))) none=some b3:=H.bxld (o:=2) rfl
 have lb:=H.base
 clear H
 simp -implicitDefEqProofs (disch:=first|omega|(simp only[LnZ];omega))[wrap64,hA,FA]
 refine (c_AutomatonValid (Ra.le lb)).go ?_
 rintro _ h3 ⟨l3,rfl⟩
 by_cases q1:a.Ok
 case neg=>
  have hn:¬Fm.inOk a b:=fun hh=>q1 hh.1
  simp -implicitDefEqProofs (disch:=first|omega|(simp only[LnZ];omega))[wrap64,q1,setC]
  exact RetK.keep (hk _ _ ⟨_,by rw[decide_eq_false hn],hno (lb.trans l3) hn⟩)
 simp -implicitDefEqProofs (disch:=first|omega|(simp only[LnZ];omega))[wrap64,q1,hload_le l3 hB,FB]
 refine (c_AutomatonValid (Rb.le (lb.trans l3))).go ?_
 rintro _ h4 ⟨l4,rfl⟩
 by_cases q2:b.Ok
 case neg=>
  have hn:¬Fm.inOk a b:=fun hh=>q2 hh.2.1
  simp -implicitDefEqProofs (disch:=first|omega|(simp only[LnZ];omega))[wrap64,q2,setC]
  exact RetK.keep (hk _ _ ⟨_,by rw[decide_eq_false hn],hno (lb.trans (l3.trans l4)) hn⟩)
 have l34:=l3.trans l4
 have hA0:=hload_le l34 hA0
 have hA1:=hload_le l34 hA1
 have hA2:=hload_le l34 hA2
 have hB0:=hload_le l34 hB0
 have hB1:=hload_le l34 hB1
 have hB2:=hload_le l34 hB2
 have lb:=lb.trans l34
 have RA1:=RA1.le lb
 have RA2:=RA2.le lb
 have RA3:=RA3.le lb
 have RB1:=RB1.le lb
 have RB2:=RB2.le lb
 have RB3:=RB3.le lb
 have hial:=incr_len q1.2.2.1 (by have:=q1.1;omega)
 have hibl:=incr_len q2.2.2.1 (by have:=q2.1;omega)
 have hacl:a.acc.length≤64:=by have:=q1.1;omega
 have hbcl:b.acc.length≤64:=by have:=q2.1;omega
 simp -implicitDefEqProofs (disch:=first|omega|(simp only[LnZ];omega))[wrap64,q2,hA0,RA1.len]
 refine wp_count a.init.length (fun i e h'=>∃o,e=[none,none,some (.pointer (some ⟨bA,0,none⟩)),some (.pointer (some ⟨bB,0,none⟩)),some (.agg #[.slice none 0 0,.slice none 0 0,.slice none 0 0]),none,some o,none,none,none,some a1,some (.int .i64 a.init.length),some (.int .i64 i),none,none,none]∧HS h4 [ow o (Fm.ini3 a b i)] h') ⟨.slice none 0 0,by simp,HS.init.nil_ow⟩ ?_
 rintro J i _ h5 hJ hi ⟨o,rfl,H⟩
 simp -implicitDefEqProofs (disch:=omega)[wrap64]
 refine IteW.mk (fun hlt=>?_) (fun hge=>?_)
 ·have hix:i<a.init.length:=by omega
  have hsuc:=Fm.ini3_succ (b:=b) hix
  have hll:=Fm.ini3_len (b:=b) i hi
  have hmul:i*b.init.length≤64*64:=Nat.mul_le_mul (by omega) (by omega)
  have hokI:=RA1.okI hix
  simp -implicitDefEqProofs (disch:=first|omega|(simp only[LnZ];omega))[wrap64,(RA1.on H).I,hload_le H.base hB0,(RB1.on H).len]
  refine wp_count b.init.length (fun j e h'=>∃o,e=[none,none,some (.pointer (some ⟨bA,0,none⟩)),some (.pointer (some ⟨bB,0,none⟩)),some (.agg #[.slice none 0 0,.slice none 0 0,.slice none 0 0]),none,some o,some (.int .i64 a.init[i]),none,none,some a1,some (.int .i64 a.init.length),some (.int .i64 i),some b1,some (.int .i64 b.init.length),some (.int .i64 j)] ∧
   HS h4 [ow o (Fm.ini3 a b i++(b.init.take j).map fun q=>(a.init[i],q,(0:Int)))] h') ⟨o,by simp,by simpa using H⟩ ?_
  clear H
  rintro J2 j _ h6 hJ2 hj ⟨o,rfl,H⟩
  simp -implicitDefEqProofs (disch:=omega)[wrap64]
  refine IteW.mk (fun hlt2=>?_) (fun hge2=>?_)
  ·have hjx:j<b.init.length:=by omega
   have hokJ:=RB1.okI hjx
   have hok3:I64 a.init[i]∧I64 b.init[j]∧I64 0:=⟨hokI,hokJ,⟨by omega,by omega⟩⟩
   have hlen:(Fm.ini3 a b i++(b.init.take j).map fun q=>(a.init[i],q,(0:Int))).length≤8192:=by
    simp only[List.length_append,List.length_map,List.length_take]
    omega
   simp -implicitDefEqProofs (disch:=first|omega|(simp only[LnZ];omega))[wrap64,(RB1.on H).I,setC]
   refine HS.app1 (bytes:=24) H (a.init[i],b.init[j],(0:Int)) rfl rfl rfl hok3 rfl rfl (by omega) (by omega) fun o' h7 H=>?_
   simp -implicitDefEqProofs (disch:=omega)[wrap64]
   refine hJ2 _ _ hjx ⟨o',by simp,?_⟩
   rw[List.take_add_one,List.getElem?_eq_getElem hjx,List.map_append,← List.append_assoc]
   exact H
  ·obtain rfl:j=b.init.length:=by omega
   rw[List.take_length] at H
   simp -implicitDefEqProofs (disch:=omega)[wrap64]
   exact hJ _ _ hix ⟨o,by simp,by rw[hsuc];exact H⟩
 obtain rfl:i=a.init.length:=by omega
 have lb2:=H.base
 have hll:=Fm.ini3_len (b:=b) a.init.length (Nat.le_refl _)
 have hmul:a.init.length*b.init.length≤64*64:=Nat.mul_le_mul (by omega) (by omega)
 have hmul2:a.edges.length*b.edges.length≤2048*2048:=Nat.mul_le_mul q1.2.1 q2.2.1
 simp -implicitDefEqProofs (disch:=omega)[wrap64]
 refine (c_explore3 (g:=h5) (I:=Fm.ini3 a b a.init.length) (mv:=Fm.prM a b) (ac:=Fm.prC b) (P:=fun p=>∃x y:Nat,p.1=x∧p.2.1=y∧x<a.acc.length∧y<b.acc.length∧(p.2.2=0∨p.2.2=1)) (K:=2048*2048) (Mf:=fun p=>Fm.iall a b (lf3 p) a.edges.length)
  (by decide) ?_ (by omega) ?_ ?_ ?_ ?_
  (fA:=fn_impl_IntersectAutomata_2) (a1:=[]) (a2:=[.pointer (some ⟨bB,0,none⟩)]) (fM:=fn_impl_IntersectAutomata_1) (m1:=[]) (m2:=[.pointer (some ⟨bA,0,none⟩),.pointer (some ⟨bB,0,none⟩)]) rfl rfl ?_ ?_ H.rep).go ?_
 ·unfold Fm.ini3
  rw[List.take_length]
  exact Fm.prs_nodup (incr_nodup q1.2.2.1) (incr_nodup q2.2.2.1)
 ·rintro⟨p1,p2,p3⟩ hp
  obtain⟨g1,g2,g3⟩:=Fm.ini3_mem hp
  have g4:=incr_mem q1.2.2.1 _ g1
  have g5:=incr_mem q2.2.2.1 _ g2
  simp only at g1 g2 g3 g4 g5
  exact⟨p1.toNat,p2.toNat,by simp only;omega,by simp only;omega,by omega,by omega,.inl g3⟩
 ·rintro⟨p1,p2,p3⟩ ⟨x,y,g1,g2,g3,g4,g5⟩
  simp only at g1 g2 g5
  exact⟨⟨by simp only;omega,by simp only;omega⟩,⟨by simp only;omega,by simp only;omega⟩,⟨by simp only;omega,by simp only;omega⟩⟩
 ·rintro⟨p1,p2,p3⟩ ⟨x,y,g1,g2,g3,g4,g5⟩
  refine⟨Fm.iall_prM,Nat.le_trans (Fm.iall_len _ (Nat.le_refl _)) hmul2,fun m hm=>?_⟩
  obtain⟨e,he,f,hf,rfl⟩:=Fm.iall_mem hm
  obtain⟨_,t1,_,k1,_,k2⟩:=q1.tr he
  obtain⟨_,t2,_,k3,_,k4⟩:=q2.tr hf
  refine⟨t1,t2,k1,k3,k2,k4,?_⟩
  unfold Fm.imv Fm.pph
  simp only
  split<;>split<;>simp
 ·rintro⟨p1,p2,p3⟩ _ m hm
  exact Fm.pr_ok q1 q2 _ m hm
 ·rintro⟨p1,p2,p3⟩ h8 ⟨x,y,g1,g2,g3,g4,g5⟩ l8
  simp only at g1 g2
  subst g1 g2
  have l58:=lb2.trans l8
  exact c_inter_2 (hload_le l58 hB1) (RB2.le l58) g4
 ·rintro⟨p1,p2,p3⟩ h8 ⟨x,y,g1,g2,g3,g4,g5⟩ l8
  simp only at g1 g2 g5
  subst g1 g2
  have l58:=lb2.trans l8
  exact c_inter_1 q1 q2 (hload_le l58 hA1) (hload_le l58 hA2) (hload_le l58 hB1) (hload_le l58 hB2) (RA2.le l58) (RA3.le l58) (RB2.le l58) (RB3.le l58) g3 g4 g5
 rintro _ h8 ⟨w2,rfl,G⟩
 rw[Fm.ini3_map] at G ⊢
 simp -implicitDefEqProofs (disch:=first|omega|(simp only[LnZ];omega))[wrap64,G.rep.aAut,setC]
 have hiff:Fm.inOk a b↔Fm.exOk (Fm.prM a b) (Fm.prC b) (Fm.prI a b):=⟨fun hh=>hh.2.2,fun hh=>⟨q1,q2,hh⟩⟩
 refine RetK.keep (hk _ _ ⟨w2,by rw[decide_eq_decide.2 hiff],?_⟩)
 have hR:Fm.inR a b=Fm.exR (Fm.prM a b) (Fm.prC b) (Fm.prI a b):=by
  by_cases q:Fm.inOk a b
  ·rw[Fm.inR,if_pos q,Fm.exR,if_pos (hiff.1 q)];rfl
  ·rw[Fm.inR,if_neg q,Fm.exR,if_neg (fun hh=>q (hiff.2 hh))]
 rw[hR]
 exact HS.app (Γ:=[]) G (lb.trans lb2)
theorem Fm.prA_ok {a b:Aut}(h:Fm.inOk a b):(Fm.prA a b).Ok:=Fm.exA_ok h.2.2.1 h.2.2.2 fun _ _ m hm=>Fm.pr_ok h.1 h.2.1 _ m hm
theorem no_find {x:Exq}(hx:Fm.trOk x) (hy:Fm.trOk (Fm.ngt x)) (hu:Fm.inOk (Fm.trA x) (Fm.trA (Fm.ngt x))):fwO (Fm.prA (Fm.trA x) (Fm.trA (Fm.ngt x)))=false:=by
 have hp:=Fm.prA_ok hu
 cases e:Bf.fw (Fm.prA (Fm.trA x) (Fm.trA (Fm.ngt x))) with
 | none=>simp[fwO,hp,e]
 | some l=>
  obtain⟨⟨s,t,h1,h2,h3,h4⟩,h5,h6,h7,h8,h9⟩:=Bf.fw_some hp e
  have hl:=lasso_lang (l:=l) h8 h1 h2 h3 h4
  have hok:l.Ok:=⟨⟨h5,h6⟩,by omega,h8,by omega⟩
  exact absurd hl (Fm.no_both hx hy hu.2.2.1 (Las.word_ok hok))
set_option maxHeartbeats 2000000 in
theorem c_FnTranslateNegation {h:Heap}{v w:Value}{l m:List (BitVec 8)}(R:Rep h v l) (RM0:Rep h w m):CallE Tryz.prog fn_laws_FnTranslateNegation [v,w] h (fun u h'=>h.le h'∧u=.bool true):=by
 refine CallE.gen fun k hk=>EN_laws_FnTranslateNegation rfl ?_
 by_cases a1:(1048576:Int)<l.length
 ·simp -implicitDefEqProofs (disch:=first|omega|(simp only[LnZ];omega))[wrap64,R.len,a1]
  exact RetK.keep (hk _ _ ⟨Heap.le.refl _,rfl⟩)
 by_cases a2:(1048576:Int)<m.length
 ·simp -implicitDefEqProofs (disch:=first|omega|(simp only[LnZ];omega))[wrap64,R.len,RM0.len,a1,a2]
  exact RetK.keep (hk _ _ ⟨Heap.le.refl _,rfl⟩)
 simp -implicitDefEqProofs (disch:=first|omega|(simp only[LnZ];omega))[wrap64,R.len,RM0.len,a1,a2]
 refine (c_DrawTranslateFormula R).go ?_
 rintro vf h1 ⟨x,l1,Rx⟩
 have FX:=Rx.aExq
 simp -implicitDefEqProofs (disch:=first|omega|(simp only[LnZ];omega))[wrap64,FX,setC]
 refine (c_DrawAccepts (RM0.le l1)).go ?_
 rintro _ h2 ⟨u1,u2,a',y,rfl,l2,Ra',Ry,_⟩
 have Rx:=Rx.le l2
 have FY:=Ry.aLas
 have FA':=Ra'.aAut
 simp -implicitDefEqProofs (disch:=first|omega|(simp only[LnZ];omega))[wrap64,FX,FY,FA',setC]
 refine (c_NegateFormula Rx).go ?_
 rintro _ h2b ⟨g,rfl,l2b,Rg⟩
 have Rx:=Rx.le l2b
 have Ry:=Ry.le l2b
 have FG:=Rg.aExq
 simp -implicitDefEqProofs (disch:=first|omega|(simp only[LnZ];omega))[wrap64,FX,FG,setC]
 refine (c_TranslateFormula Rx).go ?_
 rintro _ h3 ⟨w1,rfl,H⟩
 have FW:=H.rep.aAut
 simp -implicitDefEqProofs (disch:=first|omega|(simp only[LnZ];omega))[wrap64,FX,FG,FW,setC]
 refine (c_spec_TranslateFormula (Rx.on H)).go ?_
 rintro _ h4 ⟨w2,rfl,H2⟩
 have H:=H2.app H
 have FV:=H.rep.aAut
 simp -implicitDefEqProofs (disch:=first|omega|(simp only[LnZ];omega))[wrap64,FX,FG,FW,FV,setC]
 refine (c_TranslateFormula (Rg.on H)).go ?_
 rintro _ h5 ⟨w3,rfl,H3⟩
 have H:=H3.app H
 have FB:=H.rep.aAut
 have RB:=H.rep
 have RV:=H.sw1.rep
 have RW:=H.sw2.rep
 have lb:=((l1.trans l2).trans l2b).trans H.base
 have Ry:=Ry.on H
 clear H H2 H3
 by_cases ha:Fm.trOk x
 case neg=>
  simp -implicitDefEqProofs (disch:=first|omega|(simp only[LnZ];omega))[wrap64,ha,FW,FV,FB,setC]
  refine (c_AutomatonSame RW RV).go ?_
  rintro _ _ ⟨rfl,rfl⟩
  by_cases q1:Fm.Ok x<;>by_cases q2:Fm.Ok (Fm.ngt x)
  all_goals
   simp -implicitDefEqProofs (disch:=first|omega|(simp only[LnZ];omega))[wrap64,q1,q2,FW,FV]
   refine (c_AutomatonSame RW RV).go ?_
   rintro _ _ ⟨rfl,rfl⟩
   simp -implicitDefEqProofs (disch:=omega)[wrap64]
   exact RetK.keep (hk _ _ ⟨lb,rfl⟩)
 have hx:Fm.Ok x:=ha.1.1.1
 rw[Fm.trR,if_pos ha] at RV RW
 simp -implicitDefEqProofs (disch:=first|omega|(simp only[LnZ];omega))[wrap64,ha,FW,FV,FB,setC]
 refine (c_AutomatonSame RW RV).go ?_
 rintro _ _ ⟨rfl,rfl⟩
 by_cases hn:Fm.Ok (Fm.ngt x)
 case neg=>
  simp -implicitDefEqProofs (disch:=first|omega|(simp only[LnZ];omega))[wrap64,hx,hn,FW,FV]
  refine (c_AutomatonSame RW RV).go ?_
  rintro _ _ ⟨rfl,rfl⟩
  simp -implicitDefEqProofs (disch:=omega)[wrap64]
  exact RetK.keep (hk _ _ ⟨lb,rfl⟩)
 rw[if_pos ⟨hx,hn⟩] at RB
 by_cases ht:Fm.trOk (Fm.ngt x)
 case neg=>
  simp -implicitDefEqProofs (disch:=first|omega|(simp only[LnZ];omega))[wrap64,hx,hn,ht,FW,FV]
  refine (c_AutomatonSame RW RV).go ?_
  rintro _ _ ⟨rfl,rfl⟩
  simp -implicitDefEqProofs (disch:=omega)[wrap64]
  exact RetK.keep (hk _ _ ⟨lb,rfl⟩)
 rw[Fm.trR,if_pos ht] at RB
 have hao:=Fm.trA_ok ha
 have hbo:=Fm.trA_ok ht
 simp -implicitDefEqProofs (disch:=first|omega|(simp only[LnZ];omega))[wrap64,hx,hn,ht,FW,FB,FY]
 refine (c_Accepts RW Ry).go ?_
 rintro _ h6 ⟨l6,rfl⟩
 simp -implicitDefEqProofs (disch:=first|omega|(simp only[LnZ];omega))[wrap64,FB,FY]
 refine (c_Accepts (RB.le l6) (Ry.le l6)).go ?_
 rintro _ h7 ⟨l7,rfl⟩
 have l67:=l6.trans l7
 simp -implicitDefEqProofs (disch:=first|omega|(simp only[LnZ];omega))[wrap64,FW,FB]
 refine (c_IntersectAutomata (RW.le l67) (RB.le l67)).go ?_
 rintro _ h8 ⟨w5,rfl,H⟩
 have FD:=H.rep.aAut
 have lb8:=lb.trans (l67.trans H.base)
 have hy:∀{h':Heap},h8.le h'→∀b:Bool,b=true→k (.bool b) h':=fun l b e=>hk _ _ ⟨lb8.trans l,by rw[e]⟩
 have hacc:y.Ok→(Fm.trA (Fm.ngt x)).accB y = !(Fm.trA x).accB y:=fun hy=>Fm.acc_ngt ha ht hy
 by_cases hu:Fm.inOk (Fm.trA x) (Fm.trA (Fm.ngt x))
 ·rw[Fm.inR,if_pos hu] at H
  have hnf:=no_find ha ht hu
  simp -implicitDefEqProofs (disch:=first|omega|(simp only[LnZ];omega))[wrap64,hu,FD,setC]
  refine (c_FindWord H.rep).go ?_
  rintro _ h9 ⟨w6,rfl,H9⟩
  have F9:=H9.rep.aLas
  by_cases q:y.Ok
  ·rw[hacc q]
   cases e:(Fm.trA x).accB y <;>
   ·simp -implicitDefEqProofs (disch:=first|omega|(simp only[LnZ];omega))[wrap64,hnf,F9,hao,hbo,q,setC,e]
    exact RetK.keep (hy H9.base _ rfl)
  ·simp -implicitDefEqProofs (disch:=first|omega|(simp only[LnZ];omega))[wrap64,hnf,F9,hao,hbo,q,setC]
   exact RetK.keep (hy H9.base _ rfl)
 ·by_cases q:y.Ok
  ·rw[hacc q]
   cases e:(Fm.trA x).accB y <;>
   ·simp -implicitDefEqProofs (disch:=first|omega|(simp only[LnZ];omega))[wrap64,hu,FD,hao,hbo,q,setC,e]
    exact RetK.keep (hy (Heap.le.refl _) _ rfl)
  ·simp -implicitDefEqProofs (disch:=first|omega|(simp only[LnZ];omega))[wrap64,hu,FD,hao,hbo,q,setC]
   exact RetK.keep (hy (Heap.le.refl _) _ rfl)
end Go.Proofs.YtielhfonnleldaaGreat
