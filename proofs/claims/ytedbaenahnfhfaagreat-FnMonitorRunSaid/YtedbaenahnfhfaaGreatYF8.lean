/-
  Texts of this proof, one behind the other.
-/
import Derived.Test.YtedbaenahnfhfaaGreatYF7
set_option linter.all false
set_option linter.unusedVariables false
set_option linter.unusedSimpArgs false
set_option linter.defProp false
set_option maxRecDepth 1000000
namespace Go.Proofs.YtedbaenahnfhfaaGreat
open Go
namespace Fm
noncomputable def mvd (x:Exq) (W:List Int):Int:=@ite _ (Ok x∧Wok W) (Classical.propDecidable _) (@ite _ (trOk x∧trOk (ngt x)) (Classical.propDecidable _) 0 4) 3
theorem mvd_3 {x:Exq}{W:List Int}(h:¬(Ok x∧Wok W)):mvd x W=3:=by rw[mvd,if_neg h]
theorem mvd_4 {x:Exq}{W:List Int}(h:Ok x∧Wok W) (h2:¬(trOk x∧trOk (ngt x))):mvd x W=4:=by rw[mvd,if_pos h,if_neg h2]
theorem mvd_0 {x:Exq}{W:List Int}(h:Ok x∧Wok W) (h2:trOk x∧trOk (ngt x)):mvd x W=0:=by rw[mvd,if_pos h,if_pos h2]
noncomputable def runs (x:Exq) (W:List Int):List Int:=(List.range (W.length+1)).map fun n=>vdt x (ngt x) (W.take n)
noncomputable def monL (x:Exq) (W:List Int):List Int:=if mvd x W=0 then runs x W else []
noncomputable def monF (x:Exq) (W:List Int):Int:=if mvd x W=0 then vdt x (ngt x) W else mvd x W
theorem runs_len {x:Exq}{W:List Int}:(runs x W).length=W.length+1:=by simp[runs]
theorem runs_at {x:Exq}{W:List Int}{i:Nat}(hi:i<(runs x W).length):(runs x W)[i]=vdt x (ngt x) (W.take i):=by simp[runs]
noncomputable def part (R:List Int) (i:Nat):List Int:=R.take i++List.replicate (R.length-i) 0
theorem part_len {R:List Int}{i:Nat}(hi:i≤R.length):(part R i).length=R.length:=by simp[part];omega
theorem part_set {R:List Int}{i:Nat}(hi:i<R.length):(part R i).set i R[i]=part R (i+1):=by
 unfold part
 have h1:(R.take i).length=i:=by simp;omega
 rw[List.set_append_right _ _ (by omega),h1,Nat.sub_self,show R.length-i=(R.length-(i+1))+1 by omega,List.replicate_succ,List.set_cons_zero,List.take_add_one,List.getElem?_eq_getElem hi,List.append_assoc]
 rfl
theorem part_keep {R:List Int}{i:Nat}(hi:i<R.length) (h:R[i]=0):part R i=part R (i+1):=by
 rw[← part_set hi,h]
 unfold part
 have h1:(R.take i).length=i:=by simp;omega
 rw[List.set_append_right _ _ (by omega),h1,Nat.sub_self,show R.length-i=(R.length-(i+1))+1 by omega,List.replicate_succ,List.set_cons_zero]
theorem part_all {R:List Int}:part R R.length=R:=by simp[part]
end Fm
theorem set_states {a:Aut}{B:List Bool}{V:List Int}(hl:B.length=a.acc.length) (hB:∀q,tru B q↔a.behind V q):true∈B↔¬a.states V=[]:=by
 constructor
 ·intro h e
  obtain⟨q,hq,he⟩:=List.mem_iff_getElem.1 h
  have:(q:Int)∈a.states V:=states_mem.2 ⟨q,rfl,by omega,(hB q).1 (by simp[tru,hq,he])⟩
  rw[e] at this
  simp at this
 ·intro h
  obtain⟨y,hy⟩:=List.exists_mem_of_ne_nil _ h
  obtain⟨q,rfl,h1,h2⟩:=states_mem.1 hy
  have h3:=(hB q).2 h2
  have hq:q<B.length:=by omega
  have:B[q]=true:=by simpa[tru,hq] using h3
  exact this▸List.getElem_mem hq
theorem c_Index_bool {h:Heap}{v:Value}{B:List Bool}(R:Rep h v B):CallE Tryz.prog fn_slices_Index_S_bool_bool [v,.bool true] h (fun u h'=>h'=h∧∃j:Int,u=.int .i64 j∧(0≤j↔true∈B)):=by
 have hL:=R.lt
 refine CallE.gen fun k hk=>EN_slices_Index_S_bool_bool rfl ?_
 simp -implicitDefEqProofs (disch:=first|omega|(simp only[LnZ];omega))[wrap64,R.len]
 refine wp_count B.length (fun i e h'=>e=[some v,some (.bool true),none,none,some (.int .i64 B.length),some (.int .i64 i)]∧h'=h∧∀(j:Nat) (hj:j<B.length),j<i→B[j]=false) ⟨rfl,rfl,fun j _ hj=>absurd hj (Nat.not_lt_zero j)⟩ ?_
 rintro J i _ _ hJ hi ⟨rfl,rfl,hall⟩
 simp -implicitDefEqProofs (disch:=omega)[wrap64]
 refine IteW.mk (fun hlt=>?_) (fun hge=>?_)
 ·have hlx:i<B.length:=by omega
  cases e:B[i] with
  | true=>
   simp -implicitDefEqProofs (disch:=first|omega|(simp only[LnZ];omega))[wrap64,R.B,e]
   exact RetK.keep (hk _ _ ⟨rfl,i,rfl,⟨fun _=>e▸List.getElem_mem hlx,fun _=>by omega⟩⟩)
  | false=>
   simp -implicitDefEqProofs (disch:=first|omega|(simp only[LnZ];omega))[wrap64,R.B,e]
   refine hJ _ _ hlx ⟨rfl,rfl,fun j hj hji=>?_⟩
   by_cases hji2:j=i
   ·subst hji2;exact e
   ·exact hall j hj (by omega)
 ·simp -implicitDefEqProofs (disch:=omega)[wrap64]
  refine RetK.keep (hk _ _ ⟨rfl,-1,rfl,⟨fun hh=>absurd hh (by omega),fun hm=>?_⟩⟩)
  obtain⟨j,hj,e⟩:=List.mem_iff_getElem.1 hm
  rw[hall j hj (by omega)] at e
  simp at e
theorem c_Contains_bool {h:Heap}{v:Value}{B:List Bool}(R:Rep h v B):CallE Tryz.prog fn_slices_Contains_S_bool_bool [v,.bool true] h (fun u h'=>h'=h∧u=.bool (decide (true∈B))):=by
 refine CallE.gen fun k hk=>EN_slices_Contains_S_bool_bool rfl ?_
 simp -implicitDefEqProofs (disch:=omega)[wrap64]
 refine (c_Index_bool R).go ?_
 rintro _ _ ⟨rfl,j,rfl,hj⟩
 by_cases q:true∈B
 ·have:=hj.2 q
  simp -implicitDefEqProofs (disch:=first|omega|(simp only[LnZ];omega))[wrap64,this]
  exact RetK.keep (hk _ _ ⟨rfl,by simp[q]⟩)
 ·have:¬0≤j:=fun hh=>q (hj.1 hh)
  simp -implicitDefEqProofs (disch:=first|omega|(simp only[LnZ];omega))[wrap64,this]
  exact RetK.keep (hk _ _ ⟨rfl,by simp[q]⟩)
theorem zeroA {g h:Heap}{Γ:List HP}(H:HS g Γ h):HS g (ow (.agg #[.slice none 0 0,.slice none 0 0,.slice none 0 0]) (⟨[],[],[]⟩:Aut)::Γ) h:=HS.mkAut (a:=⟨[],[],[]⟩) H.nil_ow.nil_ow.nil_ow
theorem c_negated {h:Heap}{v:Value}{x:Exq}(R:Rep h v x) (hx:Fm.Ok x):CallE Tryz.prog fn_impl_negated [v] h (fun u h'=>∃w,u=.tuple #[w,.bool (decide (Fm.trOk (Fm.ngt x)))]∧HS h [ow w (Fm.trR (Fm.ngt x))] h'):=by
 have FX:=R.aExq
 refine CallE.gen fun k hk=>EN_impl_negated rfl ?_
 simp -implicitDefEqProofs (disch:=first|omega|(simp only[LnZ];omega))[wrap64,FX]
 refine (c_NegateFormula R).go ?_
 rintro _ h1 ⟨g,rfl,l1,Rg⟩
 have FG:=Rg.aExq
 by_cases q:Fm.Ok (Fm.ngt x)
 case neg=>
  have hn:¬Fm.trOk (Fm.ngt x):=fun hh=>q hh.1.1.1
  simp -implicitDefEqProofs (disch:=first|omega|(simp only[LnZ];omega))[wrap64,q,hx,FG,setC]
  refine RetK.keep (hk _ _ ⟨_,by rw[decide_eq_false hn],?_⟩)
  rw[Fm.trR,if_neg hn]
  exact zeroA (Γ:=[]) l1
 rw[if_pos ⟨hx,q⟩] at Rg
 simp -implicitDefEqProofs (disch:=first|omega|(simp only[LnZ];omega))[wrap64,q,hx,FG,setC]
 refine (c_TranslateFormula Rg).go ?_
 rintro _ h2 ⟨w,rfl,H⟩
 simp -implicitDefEqProofs (disch:=first|omega|(simp only[LnZ];omega))[wrap64,H.rep.aAut,setC]
 exact RetK.keep (hk _ _ ⟨w,rfl,HS.app (Γ:=[]) H l1⟩)
namespace Fm
noncomputable def mA (x:Exq) (W:List Int):Aut:=if mvd x W=0 then trA x else ⟨[],[],[]⟩
noncomputable def mB (x:Exq) (W:List Int):Aut:=if mvd x W=0 then trA (ngt x) else ⟨[],[],[]⟩
end Fm
theorem c_monitors {h:Heap}{v w:Value}{x:Exq}{W:List Int}(R:Rep h v x) (RW:Rep h w W):CallE Tryz.prog fn_impl_monitors [v,w] h (fun u h'=>∃wa wb,u=.tuple #[wa,wb,.int .i64 (Fm.mvd x W)]∧HS h [ow wa (Fm.mA x W),ow wb (Fm.mB x W)] h'):=by
 have FX:=R.aExq
 have hno:∀{h':Heap},h.le h'→Fm.mvd x W≠0→HS h [ow (.agg #[.slice none 0 0,.slice none 0 0,.slice none 0 0]) (Fm.mA x W),ow (.agg #[.slice none 0 0,.slice none 0 0,.slice none 0 0]) (Fm.mB x W)] h':=fun hl hn=>by
  rw[Fm.mA,Fm.mB,if_neg hn,if_neg hn]
  exact zeroA (zeroA (Γ:=[]) hl)
 refine CallE.gen fun k hk=>EN_impl_monitors rfl ?_
 simp -implicitDefEqProofs (disch:=first|omega|(simp only[LnZ];omega))[wrap64,FX]
 refine (c_FormulaValid R).go ?_
 rintro _ h1 ⟨l1,rfl⟩
 by_cases q1:Fm.Ok x
 case neg=>
  have hm:=Fm.mvd_3 (x:=x) (W:=W) fun hh=>q1 hh.1
  simp -implicitDefEqProofs (disch:=first|omega|(simp only[LnZ];omega))[wrap64,q1,setC]
  exact RetK.keep (hk _ _ ⟨_,_,by rw[hm],hno l1 (by omega)⟩)
 simp -implicitDefEqProofs (disch:=first|omega|(simp only[LnZ];omega))[wrap64,q1]
 refine (c_wordOk (RW.le l1)).go ?_
 rintro _ h2 ⟨l2,rfl⟩
 by_cases q2:Wok W
 case neg=>
  have hm:=Fm.mvd_3 (x:=x) (W:=W) fun hh=>q2 hh.2
  simp -implicitDefEqProofs (disch:=first|omega|(simp only[LnZ];omega))[wrap64,q2,setC]
  exact RetK.keep (hk _ _ ⟨_,_,by rw[hm],hno (l1.trans l2) (by omega)⟩)
 have l12:=l1.trans l2
 simp -implicitDefEqProofs (disch:=first|omega|(simp only[LnZ];omega))[wrap64,q2,FX]
 refine (c_TranslateFormula (R.le l12)).go ?_
 rintro _ h3 ⟨wa,rfl,H⟩
 have FA:=H.rep.aAut
 simp -implicitDefEqProofs (disch:=first|omega|(simp only[LnZ];omega))[wrap64,FX,FA,setC]
 refine (c_negated ((R.le l12).on H) q1).go ?_
 rintro _ h4 ⟨wb,rfl,G⟩
 have FB:=G.rep.aAut
 have H:=HS.app (Γ:=[]) (G.app H) l12
 by_cases q3:Fm.trOk x∧Fm.trOk (Fm.ngt x)
 ·have hm:=Fm.mvd_0 ⟨q1,q2⟩ q3
  have eA:Fm.trR x=Fm.mA x W:=by rw[Fm.mA,if_pos hm,Fm.trR,if_pos q3.1]
  have eB:Fm.trR (Fm.ngt x)=Fm.mB x W:=by rw[Fm.mB,if_pos hm,Fm.trR,if_pos q3.2]
  rw[eA,eB] at H
  simp -implicitDefEqProofs (disch:=first|omega|(simp only[LnZ];omega))[wrap64,q3.1,q3.2,FA,FB,setC]
  exact RetK.keep (hk _ _ ⟨wa,wb,by rw[hm],H.sw1⟩)
 ·have hm:=Fm.mvd_4 ⟨q1,q2⟩ q3
  have lb:=H.base
  by_cases q4:Fm.trOk x
  ·have q5:¬Fm.trOk (Fm.ngt x):=fun hh=>q3 ⟨q4,hh⟩
   simp -implicitDefEqProofs (disch:=first|omega|(simp only[LnZ];omega))[wrap64,q4,q5,FA,FB,setC]
   exact RetK.keep (hk _ _ ⟨_,_,by rw[hm],hno lb (by omega)⟩)
  ·simp -implicitDefEqProofs (disch:=first|omega|(simp only[LnZ];omega))[wrap64,q4,FA,FB,setC]
   exact RetK.keep (hk _ _ ⟨_,_,by rw[hm],hno lb (by omega)⟩)
set_option maxHeartbeats 1000000 in
theorem c_monitorRun {h:Heap}{v w:Value}{x:Exq}{W:List Int}(R:Rep h v x) (RW:Rep h w W):CallE Tryz.prog fn_impl_monitorRun [v,w] h (fun u h'=>∃l,u=.tuple #[l,.int .i64 (Fm.mvd x W)]∧HS h [ow l (Fm.monL x W)] h'):=by
 have FX:=R.aExq
 refine CallE.gen fun k hk=>EN_impl_monitorRun rfl ?_
 simp -implicitDefEqProofs (disch:=first|omega|(simp only[LnZ];omega))[wrap64,FX]
 refine (c_monitors R RW).go ?_
 rintro _ h1 ⟨wa,wb,rfl,H⟩
 have FA:=H.rep.aAut
 have FB:=H.sw1.rep.aAut
 by_cases hm:Fm.mvd x W=0
 case neg=>
  simp -implicitDefEqProofs (disch:=first|omega|(simp only[LnZ];omega))[wrap64,FA,FB,setC,hm]
  refine RetK.keep (hk _ _ ⟨_,rfl,?_⟩)
  rw[Fm.monL,if_neg hm]
  exact HS.nil_ow (Γ:=[]) H.base
 have hv:Fm.Ok x∧Wok W:=by
  by_cases q:Fm.Ok x∧Wok W
  ·exact q
  ·rw[Fm.mvd_3 q] at hm;omega
 have ht:Fm.trOk x∧Fm.trOk (Fm.ngt x):=by
  by_cases q:Fm.trOk x∧Fm.trOk (Fm.ngt x)
  ·exact q
  ·rw[Fm.mvd_4 hv q] at hm;omega
 rw[Fm.mA,Fm.mB,if_pos hm,if_pos hm] at H
 have ha:=Fm.trA_ok ht.1
 have hb:=Fm.trA_ok ht.2
 have hML:Fm.monL x W=Fm.runs x W:=by rw[Fm.monL,if_pos hm]
 have hwl:W.length≤200:=hv.2.1
 simp -implicitDefEqProofs (disch:=first|omega|(simp only[LnZ];omega))[wrap64,FA,FB,setC,hm]
 refine (c_live H.rep ha).go ?_
 rintro la h2 ⟨LA,H2,hLAl,hLA⟩
 have H:=H2.app H
 simp -implicitDefEqProofs (disch:=omega)[wrap64]
 refine (c_live H.sw2.rep hb).go ?_
 rintro lb h3 ⟨LB,H3,hLBl,hLB⟩
 have H:=H3.app H
 simp -implicitDefEqProofs (disch:=first|omega|(simp only[LnZ];omega))[wrap64,FA,FB]
 refine (c_begin H.sw2.rep H.sw1.rep ha hLAl hLA).go ?_
 rintro xw h4 ⟨X,H4,hXl,hX⟩
 have H:=H4.app H
 simp -implicitDefEqProofs (disch:=first|omega|(simp only[LnZ];omega))[wrap64,FA,FB]
 refine (c_begin H.sw4.rep H.sw1.rep hb hLBl hLB).go ?_
 rintro yw h5 ⟨Y,H5,hYl,hY⟩
 have H:=H5.app H
 have RWl:=(RW.on H).len
 obtain⟨N,hN⟩:∃N,N=W.length+1:=⟨_,rfl⟩
 have hNi:(W.length:Int)+1=N:=by omega
 have hRl:(Fm.runs x W).length=N:=by rw[Fm.runs_len,hN]
 simp -implicitDefEqProofs (disch:=first|omega|(simp only[LnZ];omega))[wrap64,RWl,hNi]
 refine H.mks (α:=Int) (z:=0) rfl rfl ⟨rfl,rfl,by decide,by decide⟩ (Nat.le_refl _) (by omega) (by omega) fun ow1 h6 H=>?_
 have hp0:List.replicate N (0:Int)=Fm.part (Fm.runs x W) 0:=by simp[Fm.part,hRl]
 rw[hp0] at H
 have H:HS h ([ow ow1 (Fm.part (Fm.runs x W) 0),ow yw Y,ow xw X]++[ow lb LB,ow la LA,ow wa (Fm.trA x),ow wb (Fm.trA (Fm.ngt x))]) h6:=H.under fun _ H=>H.under fun _ H=>H.under fun _ H=>H.sw1.sw1
 obtain⟨g1,H1,H⟩:=H.rebase
 have RLB:=H1.rep
 have RLA:=H1.sw1.rep
 have RA:=H1.sw2.rep
 have RB:=H1.sw3.rep
 have lg:=H1.base
 have RWg:=RW.le lg
 have hpl:=fun i hi=>Fm.part_len (R:=Fm.runs x W) (i:=i) hi
 simp -implicitDefEqProofs (disch:=first|omega|(simp only[LnZ];omega))[wrap64,H.rep.len,hpl]
 rw[hRl]
 refine wp_count N (fun i e h'=>∃xw yw,e=[none,some w,none,none,none,some wa,some wb,none,some la,some lb,some xw,some yw,some ow1,none,some (.int .i64 N),some (.int .i64 i)]∧∃X Y:List Bool,HS g1 [ow ow1 (Fm.part (Fm.runs x W) i),ow yw Y,ow xw X] h' ∧
  (i<N→X.length=(Fm.trA x).acc.length∧(∀q,tru X q↔(Fm.trA x).behind (W.take i) q)∧Y.length=(Fm.trA (Fm.ngt x)).acc.length∧∀q,tru Y q↔(Fm.trA (Fm.ngt x)).behind (W.take i) q)) ⟨xw,yw,by simp,X,Y,H,fun _=>⟨hXl,hX,hYl,hY⟩⟩ ?_
 clear H hX hY hXl hYl
 rintro J i _ h7 hJ hi ⟨xw,yw,rfl,X,Y,H,hXY⟩
 simp -implicitDefEqProofs (disch:=omega)[wrap64]
 refine IteW.mk (fun hlt=>?_) (fun hge=>?_)
 ·have hix:i<N:=by omega
  obtain⟨hXl,hX,hYl,hY⟩:=hXY hix
  have sX:=set_states hXl hX
  have sY:=set_states hYl hY
  have hra:=Fm.runs_at (x:=x) (W:=W) (i:=i) (by omega)
  have hset:=Fm.part_set (R:=Fm.runs x W) (i:=i) (by omega)
  have hkeep:=Fm.part_keep (R:=Fm.runs x W) (i:=i) (by omega)
  have hpi:=hpl i (by omega)
  unfold Fm.vdt at hra
  have main:∀{h8:Heap}{q16 q17 q18 q19:Option Value},HS g1 [ow ow1 (Fm.part (Fm.runs x W) (i+1)),ow yw Y,ow xw X] h8→K19_7.wp Tryz.prog (blockQ 1 (seqQ Tryz.prog K19_2 (loopQ 16 [0,2,3,4,7,13] J (blockQ 0 (seqQ Tryz.prog K19_1 (retQ [(3,none),(4,none)] k)))))) [none,some w,none,none,none,some wa,some wb,none,some la,some lb,some xw,some yw,some ow1,some (.int .i64 i),some (.int .i64 N),some (.int .i64 i),q16,q17,q18,q19] h8:=by
   intro h8 q16 q17 q18 q19 H
   by_cases hW:i<W.length
   ·simp -implicitDefEqProofs (disch:=first|omega|(simp only[LnZ];omega))[wrap64,(RWg.on H).len,hW,FA,FB,(RWg.on H).I]
    refine (c_after (RA.on H) (RLA.on H) H.sw2.rep ha hLAl hXl hLA).go ?_
    rintro xw' h9 ⟨X',H9,hXl',hX'⟩
    have H:=H9.app H
    simp -implicitDefEqProofs (disch:=first|omega|(simp only[LnZ];omega))[wrap64,FA,FB,(RWg.on H).I]
    refine (c_after (RB.on H) (RLB.on H) H.sw2.rep hb hLBl hYl hLB).go ?_
    rintro yw' h10 ⟨Y',H10,hYl',hY'⟩
    have H:=H10.app H
    simp -implicitDefEqProofs (disch:=omega)[wrap64]
    refine hJ _ _ hix ⟨xw',yw',by simp,X',Y',?_,fun _=>⟨hXl',fun q=>?_,hYl',fun q=>?_⟩⟩
    ·have H:HS g1 [ow yw' Y',ow xw' X',ow ow1 (Fm.part (Fm.runs x W) (i+1)),ow yw Y,ow xw X] h10:=H
     exact (H.sw2.under fun _ H=>H.under fun _ H=>H.under fun _ H=>H.drop.drop)
    ·rw[hX',Aut.behind,foldl_take hW,funext fun q=>propext (hX q)]
     exact Iff.rfl
    ·rw[hY',Aut.behind,foldl_take hW,funext fun q=>propext (hY q)]
     exact Iff.rfl
   ·simp -implicitDefEqProofs (disch:=first|omega|(simp only[LnZ];omega))[wrap64,(RWg.on H).len,hW]
    exact hJ _ _ hix ⟨xw,yw,by simp,X,Y,H,fun hh=>by omega⟩
  have M:=fun {h8} q16 q17 q18 q19=>main (h8:=h8) (q16:=q16) (q17:=q17) (q18:=q18) (q19:=q19)
  simp -implicitDefEqProofs (disch:=omega)[wrap64]
  refine (c_Contains_bool H.sw2.rep).go ?_
  rintro _ _ ⟨rfl,rfl⟩
  by_cases q1:true∈X
  ·have n1:=sX.1 q1
   rw[if_neg n1] at hra
   simp -implicitDefEqProofs (disch:=first|omega|(simp only[LnZ];omega))[wrap64,q1]
   refine (c_Contains_bool H.sw1.rep).go ?_
   rintro _ _ ⟨rfl,rfl⟩
   by_cases q2:true∈Y
   ·have n2:=sY.1 q2
    rw[if_neg n2] at hra
    rw[hkeep hra] at H
    have M:=fun q16 q17 q18 q19=>M q16 q17 q18 q19 H
    simp -implicitDefEqProofs (disch:=omega)[wrap64] at M
    simp -implicitDefEqProofs (disch:=first|omega|(simp only[LnZ];omega))[wrap64,q2]
    exact M
   ·have n2:(Fm.trA (Fm.ngt x)).states (W.take i)=[]:=Classical.byContradiction fun hh=>q2 (sY.2 hh)
    rw[if_pos n2] at hra
    rw[hra] at hset
    simp -implicitDefEqProofs (disch:=first|omega|(simp only[LnZ];omega))[wrap64,q2,H.rep.I]
    refine H.storeF (1:Int) (i:=i) (by omega) rfl rfl ⟨by decide,by decide⟩ rfl fun h8 H=>?_
    rw[hset] at H
    have M:=fun q16 q17 q18 q19=>M q16 q17 q18 q19 H
    simp -implicitDefEqProofs (disch:=omega)[wrap64] at M
    simp -implicitDefEqProofs (disch:=omega)[wrap64]
    exact M
  ·have n1:(Fm.trA x).states (W.take i)=[]:=Classical.byContradiction fun hh=>q1 (sX.2 hh)
   rw[if_pos n1] at hra
   rw[hra] at hset
   simp -implicitDefEqProofs (disch:=first|omega|(simp only[LnZ];omega))[wrap64,q1,H.rep.I]
   refine H.storeF (2:Int) (i:=i) (by omega) rfl rfl ⟨by decide,by decide⟩ rfl fun h8 H=>?_
   rw[hset] at H
   have M:=fun q16 q17 q18 q19=>M q16 q17 q18 q19 H
   simp -implicitDefEqProofs (disch:=omega)[wrap64] at M
   simp -implicitDefEqProofs (disch:=omega)[wrap64]
   exact M
 obtain rfl:i=N:=by omega
 rw[← hRl,Fm.part_all] at H
 simp -implicitDefEqProofs (disch:=omega)[wrap64]
 refine RetK.keep (hk _ _ ⟨ow1,by rw[hm],?_⟩)
 rw[hML]
 exact (HS.app H H1).only
theorem c_MonitorFormula {h:Heap}{v w:Value}{x:Exq}{W:List Int}(R:Rep h v x) (RW:Rep h w W):CallE Tryz.prog fn_impl_MonitorFormula [v,w] h (fun u h'=>h.le h'∧u=.int .i64 (Fm.monF x W)):=by
 have FX:=R.aExq
 refine CallE.gen fun k hk=>EN_impl_MonitorFormula rfl ?_
 simp -implicitDefEqProofs (disch:=first|omega|(simp only[LnZ];omega))[wrap64,FX]
 refine (c_monitorRun R RW).go ?_
 rintro _ h1 ⟨l,rfl,H⟩
 unfold Fm.monF at hk
 by_cases hm:Fm.mvd x W=0
 case neg=>
  rw[if_neg hm] at hk
  simp -implicitDefEqProofs (disch:=first|omega|(simp only[LnZ];omega))[wrap64,hm]
  exact RetK.keep (hk _ _ ⟨H.base,rfl⟩)
 rw[if_pos hm] at hk
 rw[Fm.monL,if_pos hm] at H
 have hl:=Fm.runs_len (x:=x) (W:=W)
 have hli:((Fm.runs x W).length:Int)-1=(W.length:Nat):=by omega
 have hR:=RW.lt
 have ha:=Fm.runs_at (x:=x) (W:=W) (i:=W.length) (by omega)
 rw[List.take_length] at ha
 simp -implicitDefEqProofs (disch:=first|omega|(simp only[LnZ];omega))[wrap64,hm,H.rep.I,hli,ha]
 exact RetK.keep (hk _ _ ⟨H.base,rfl⟩)
theorem Fm.ngt_ok {x:Exq}(hx:Fm.Ok x) (h3:x.kind=3):Fm.Ok (Fm.ngt x):=by
 have hl:=hx.1.one (.inl h3)
 have hn:=x.nod_eq
 rw[Fm.ngt,if_pos h3,getD_some (by omega)]
 refine⟨(hx.1.kid (i:=0) (by omega)).mono,?_⟩
 have h1:=Fm.nod_kid (x:=x) (y:=x.kids[0]'(by omega)) (List.getElem_mem _)
 have:=hx.2
 omega
theorem c_spec_NegateFormula {h:Heap}{v:Value}{x:Exq}(R:Rep h v x):CallE Tryz.prog fn_spec_NegateFormula [v] h (fun u h'=>∃g,u=.tuple #[g,.bool (decide (Fm.Ok x∧Fm.Ok (Fm.ngt x)))]∧h.le h'∧Rep h' g (if Fm.Ok x∧Fm.Ok (Fm.ngt x) then Fm.ngt x else Exq.zero)):=by
 have FX:=R.aExq
 refine CallE.gen fun k hk=>EN_spec_NegateFormula rfl ?_
 simp -implicitDefEqProofs (disch:=first|omega|(simp only[LnZ];omega))[wrap64,FX]
 refine (c_spec_FormulaValid R).go ?_
 rintro _ h1 ⟨rfl,rfl⟩
 by_cases q:Fm.Ok x
 case neg=>
  simp -implicitDefEqProofs (disch:=first|omega|(simp only[LnZ];omega))[wrap64,q,setC]
  exact RetK.keep (hk _ _ ⟨_,by rw[decide_eq_false (fun hh=>q hh.1)],Heap.le.refl _,by rw[if_neg (fun hh=>q hh.1)];exact rep_zero⟩)
 have hnd:=q.2
 obtain⟨w,rfl,k1,k2,R1⟩:=Rep_Exq.1 R
 by_cases c3:x.kind=3
 ·have q2:=Fm.ngt_ok q c3
  have hl:=q.1.one (.inl c3)
  obtain⟨u,hu,Ru⟩:=R1.ld (i:=0) (by omega)
  change hload _ (some (elp 3 w 0)) (some 3)=some u at hu
  have hnk:=Fm.nod_kid (x:=x) (y:=x.kids[0]'(by omega)) (List.getElem_mem _)
  simp -implicitDefEqProofs (disch:=first|omega|(simp only[LnZ];omega))[wrap64,q,FX,c3,R1.X (n:=3) rfl,hu,Ru.aExq]
  refine (c_l5Copy _ (by omega) Ru).go ?_
  intro y h2 H
  simp -implicitDefEqProofs (disch:=first|omega|(simp only[LnZ];omega))[wrap64,H.rep.aExq,setC]
  refine RetK.keep (hk _ _ ⟨y,by rw[decide_eq_true ⟨q,q2⟩],H.base,?_⟩)
  rw[if_pos ⟨q,q2⟩,Fm.ngt,if_pos c3,getD_some (by omega)]
  exact H.rep
 ·simp -implicitDefEqProofs (disch:=first|omega|(simp only[LnZ];omega))[wrap64,q,FX,c3]
  refine (c_l5Copy _ (by omega) R).go ?_
  intro y h2 H
  simp -implicitDefEqProofs (disch:=omega)[wrap64]
  refine (c_l5Not H).go ?_
  intro z h3 H
  have en:Fm.neg x=Fm.ngt x:=by rw[Fm.ngt,if_neg c3]
  rw[en] at H
  have FZ:=H.rep.aExq
  simp -implicitDefEqProofs (disch:=first|omega|(simp only[LnZ];omega))[wrap64,FZ,setC]
  refine (c_spec_FormulaValid H.rep).go ?_
  rintro _ h4 ⟨rfl,rfl⟩
  by_cases q2:Fm.Ok (Fm.ngt x)
  ·simp -implicitDefEqProofs (disch:=first|omega|(simp only[LnZ];omega))[wrap64,q2,FZ,setC]
   exact RetK.keep (hk _ _ ⟨z,by rw[decide_eq_true ⟨q,q2⟩],H.base,by rw[if_pos ⟨q,q2⟩];exact H.rep⟩)
  ·simp -implicitDefEqProofs (disch:=first|omega|(simp only[LnZ];omega))[wrap64,q2,setC]
   exact RetK.keep (hk _ _ ⟨_,by rw[decide_eq_false (fun hh=>q2 hh.2)],H.base,by rw[if_neg (fun hh=>q2 hh.2)];exact rep_zero⟩)
theorem c_l8Negation {h:Heap}{v:Value}{x:Exq}(R:Rep h v x) (hx:Fm.Ok x):CallE Tryz.prog fn_spec_l8Negation [v] h (fun u h'=>∃w,u=.tuple #[w,.bool (decide (Fm.trOk (Fm.ngt x)))]∧HS h [ow w (Fm.trR (Fm.ngt x))] h'):=by
 have FX:=R.aExq
 refine CallE.gen fun k hk=>EN_spec_l8Negation rfl ?_
 simp -implicitDefEqProofs (disch:=first|omega|(simp only[LnZ];omega))[wrap64,FX]
 refine (c_spec_NegateFormula R).go ?_
 rintro _ h1 ⟨g,rfl,l1,Rg⟩
 have FG:=Rg.aExq
 by_cases q:Fm.Ok (Fm.ngt x)
 case neg=>
  have hn:¬Fm.trOk (Fm.ngt x):=fun hh=>q hh.1.1.1
  simp -implicitDefEqProofs (disch:=first|omega|(simp only[LnZ];omega))[wrap64,q,hx,FG,setC]
  refine RetK.keep (hk _ _ ⟨_,by rw[decide_eq_false hn],?_⟩)
  rw[Fm.trR,if_neg hn]
  exact zeroA (Γ:=[]) l1
 rw[if_pos ⟨hx,q⟩] at Rg
 simp -implicitDefEqProofs (disch:=first|omega|(simp only[LnZ];omega))[wrap64,q,hx,FG,setC]
 refine (c_spec_TranslateFormula Rg).go ?_
 rintro _ h2 ⟨w,rfl,H⟩
 simp -implicitDefEqProofs (disch:=first|omega|(simp only[LnZ];omega))[wrap64,H.rep.aAut,setC]
 exact RetK.keep (hk _ _ ⟨w,rfl,HS.app (Γ:=[]) H l1⟩)
theorem c_l12Both {h:Heap}{v:Value}{x:Exq}(R:Rep h v x) (hx:Fm.Ok x):CallE Tryz.prog fn_spec_l12Both [v] h (fun u h'=>∃wa wb,u=.tuple #[wa,wb,.bool (decide (Fm.trOk x∧Fm.trOk (Fm.ngt x)))]∧HS h [ow wa (Fm.trR x),ow wb (Fm.trR (Fm.ngt x))] h'):=by
 have FX:=R.aExq
 refine CallE.gen fun k hk=>EN_spec_l12Both rfl ?_
 simp -implicitDefEqProofs (disch:=first|omega|(simp only[LnZ];omega))[wrap64,FX]
 refine (c_spec_TranslateFormula R).go ?_
 rintro _ h1 ⟨wa,rfl,H⟩
 have FA:=H.rep.aAut
 simp -implicitDefEqProofs (disch:=first|omega|(simp only[LnZ];omega))[wrap64,FX,FA,setC]
 refine (c_l8Negation (R.on H) hx).go ?_
 rintro _ h2 ⟨wb,rfl,G⟩
 have FB:=G.rep.aAut
 have H:=G.app H
 by_cases q:Fm.trOk x
 ·simp -implicitDefEqProofs (disch:=first|omega|(simp only[LnZ];omega))[wrap64,FA,FB,setC,q]
  exact RetK.keep (hk _ _ ⟨wa,wb,by simp[q],H.sw1⟩)
 ·simp -implicitDefEqProofs (disch:=first|omega|(simp only[LnZ];omega))[wrap64,FA,FB,setC,q]
  exact RetK.keep (hk _ _ ⟨wa,wb,by simp[q],H.sw1⟩)
theorem c_l12Verdict {h:Heap}{v w u:Value}{x y:Exq}{W:List Int}(Ra:Rep h v (Fm.trA x)) (Rb:Rep h w (Fm.trA y)) (RW:Rep h u W) (ha:(Fm.trA x).Ok) (hb:(Fm.trA y).Ok):CallE Tryz.prog fn_spec_l12Verdict [v,w,u] h (fun r h'=>h.le h'∧r=.int .i64 (Fm.vdt x y W)):=by
 have FA:=Ra.aAut
 have FB:=Rb.aAut
 refine CallE.gen fun k hk=>EN_spec_l12Verdict rfl ?_
 unfold Fm.vdt at hk
 simp -implicitDefEqProofs (disch:=first|omega|(simp only[LnZ];omega))[wrap64,FA,FB]
 refine (c_l12States Ra RW ha).go ?_
 intro s1 h1 H
 by_cases q1:(Fm.trA x).states W=[]
 ·rw[if_pos q1] at hk
  have e:((Fm.trA x).states W).length=0:=by rw[q1];rfl
  simp -implicitDefEqProofs (disch:=first|omega|(simp only[LnZ];omega))[wrap64,H.rep.len,e,q1]
  exact RetK.keep (hk _ _ ⟨H.base,rfl⟩)
 rw[if_neg q1] at hk
 have e:¬(((Fm.trA x).states W).length:Int)=0:=fun hh=>q1 (List.length_eq_zero_iff.1 (by omega))
 have e':¬((Fm.trA x).states W).length=0:=by omega
 simp -implicitDefEqProofs (disch:=first|omega|(simp only[LnZ];omega))[wrap64,H.rep.len,e,e',q1,FB]
 refine (c_l12States (Rb.on H) (RW.on H) hb).go ?_
 intro s2 h2 H2
 by_cases q2:(Fm.trA y).states W=[]
 ·rw[if_pos q2] at hk
  have e:((Fm.trA y).states W).length=0:=by rw[q2];rfl
  simp -implicitDefEqProofs (disch:=first|omega|(simp only[LnZ];omega))[wrap64,H2.rep.len,e,q2]
  exact RetK.keep (hk _ _ ⟨H.base.trans H2.base,rfl⟩)
 rw[if_neg q2] at hk
 have e:¬(((Fm.trA y).states W).length:Int)=0:=fun hh=>q2 (List.length_eq_zero_iff.1 (by omega))
 have e':¬((Fm.trA y).states W).length=0:=by omega
 simp -implicitDefEqProofs (disch:=first|omega|(simp only[LnZ];omega))[wrap64,H2.rep.len,e,e',q2]
 exact RetK.keep (hk _ _ ⟨H.base.trans H2.base,rfl⟩)
theorem c_spec_MonitorFormula {h:Heap}{v w:Value}{x:Exq}{W:List Int}(R:Rep h v x) (RW:Rep h w W):CallE Tryz.prog fn_spec_MonitorFormula [v,w] h (fun u h'=>h.le h'∧u=.int .i64 (Fm.monF x W)):=by
 have FX:=R.aExq
 refine CallE.gen fun k hk=>EN_spec_MonitorFormula rfl ?_
 unfold Fm.monF at hk
 simp -implicitDefEqProofs (disch:=first|omega|(simp only[LnZ];omega))[wrap64,FX]
 refine (c_spec_FormulaValid R).go ?_
 rintro _ h1 ⟨rfl,rfl⟩
 by_cases q1:Fm.Ok x
 case neg=>
  have hm:=Fm.mvd_3 (x:=x) (W:=W) fun hh=>q1 hh.1
  rw[if_neg (by omega),hm] at hk
  simp -implicitDefEqProofs (disch:=first|omega|(simp only[LnZ];omega))[wrap64,q1]
  exact RetK.keep (hk _ _ ⟨Heap.le.refl _,rfl⟩)
 simp -implicitDefEqProofs (disch:=first|omega|(simp only[LnZ];omega))[wrap64,q1]
 refine (c_l12Word RW).go ?_
 rintro _ h1 ⟨rfl,rfl⟩
 by_cases q2:Wok W
 case neg=>
  have hm:=Fm.mvd_3 (x:=x) (W:=W) fun hh=>q2 hh.2
  rw[if_neg (by omega),hm] at hk
  simp -implicitDefEqProofs (disch:=first|omega|(simp only[LnZ];omega))[wrap64,q2]
  exact RetK.keep (hk _ _ ⟨Heap.le.refl _,rfl⟩)
 simp -implicitDefEqProofs (disch:=first|omega|(simp only[LnZ];omega))[wrap64,q2,FX]
 refine (c_l12Both R q1).go ?_
 rintro _ h2 ⟨wa,wb,rfl,H⟩
 have FA:=H.rep.aAut
 have FB:=H.sw1.rep.aAut
 by_cases q3:Fm.trOk x∧Fm.trOk (Fm.ngt x)
 case neg=>
  have hm:=Fm.mvd_4 ⟨q1,q2⟩ q3
  rw[if_neg (by omega),hm] at hk
  simp -implicitDefEqProofs (disch:=first|omega|(simp only[LnZ];omega))[wrap64,q3,FA,FB,setC]
  exact RetK.keep (hk _ _ ⟨H.base,rfl⟩)
 have hm:=Fm.mvd_0 ⟨q1,q2⟩ q3
 rw[if_pos hm] at hk
 rw[Fm.trR,if_pos q3.1,Fm.trR,if_pos q3.2] at H
 simp -implicitDefEqProofs (disch:=first|omega|(simp only[LnZ];omega))[wrap64,q3.1,q3.2,FA,FB,setC]
 refine (c_l12Verdict H.rep H.sw1.rep (RW.on H) (Fm.trA_ok q3.1) (Fm.trA_ok q3.2)).go ?_
 rintro _ h3 ⟨l3,rfl⟩
 simp -implicitDefEqProofs (disch:=omega)[wrap64]
 exact RetK.keep (hk _ _ ⟨H.base.trans l3,rfl⟩)
theorem c_DrawMonitorFormula {h:Heap}{v:Value}{l:List (BitVec 8)}(R:Rep h v l):CallE Tryz.prog fn_spec_DrawMonitorFormula [v] h (fun u h'=>∃(u1 u2:Value) (x:Exq) (W:List Int),u=.tuple #[u1,u2]∧h.le h'∧Rep h' u1 x∧Rep h' u2 W∧W.length≤300):=by
 refine CallE.gen fun k hk=>EN_spec_DrawMonitorFormula rfl ?_
 simp -implicitDefEqProofs (disch:=omega)[wrap64]
 refine (c_l16Open R).go ?_
 rintro _ h1 ⟨b,sl,l',rfl,R',H⟩
 simp -implicitDefEqProofs (disch:=omega)[wrap64]
 refine (c_l5Formula2 R' H (by omega) (by omega)).go ?_
 rintro w h2 ⟨x,p1,H,b1,b2,b3⟩
 obtain⟨g1,H1,H2⟩:=HS.rebase (Δ:=[rb b sl p1]) H.sw1
 have FX:=H.rep.aExq
 simp -implicitDefEqProofs (disch:=first|omega|(simp only[LnZ];omega))[wrap64,FX]
 refine (c_l5Mutate (R'.on H1) H1.rep (by omega) H2 (by omega) (by omega)).go ?_
 rintro u h3 ⟨y,p2,H3,c1,c2⟩
 have H:=H3.app H1
 have FY:=H3.rep.aExq
 simp -implicitDefEqProofs (disch:=first|omega|(simp only[LnZ];omega))[wrap64,FY,setC]
 refine (c_l12Letters R' H.sw1 (by omega) (by omega)).go ?_
 rintro z h4 ⟨W,p3,H,d1⟩
 have FY2:=H.sw2.rep.aExq
 simp -implicitDefEqProofs (disch:=first|omega|(simp only[LnZ];omega))[wrap64,FY2,setC]
 exact RetK.keep (hk _ _ ⟨u,z,y,W,rfl,H.base,H.sw2.rep,H.rep,d1⟩)
namespace Fm
theorem mvd_rng {x:Exq}{W:List Int}:mvd x W=0∨mvd x W=3∨mvd x W=4:=by
 by_cases h:Ok x∧Wok W
 ·by_cases h2:trOk x∧trOk (ngt x)
  ·exact .inl (mvd_0 h h2)
  ·exact .inr (.inr (mvd_4 h h2))
 ·exact .inr (.inl (mvd_3 h))
theorem monF_lt {x:Exq}{W:List Int}(h:monF x W<3):mvd x W=0:=by
 unfold monF at h
 rcases mvd_rng (x:=x) (W:=W) with e | e | e
 ·exact e
 ·rw[e,if_neg (by omega)] at h;omega
 ·rw[e,if_neg (by omega)] at h;omega
theorem mvd_ok {x:Exq}{W:List Int}(h:mvd x W=0):(Ok x∧Wok W)∧trOk x∧trOk (ngt x):=by
 have hv:Ok x∧Wok W:=by
  by_cases q:Ok x∧Wok W
  ·exact q
  ·rw[mvd_3 q] at h;omega
 refine⟨hv,?_⟩
 by_cases q:trOk x∧trOk (ngt x)
 ·exact q
 ·rw[mvd_4 hv q] at h;omega
theorem dual_of {x:Exq}(h:trOk x) (h2:trOk (ngt x)):Dual x (ngt x):=⟨h,h2,trA_ok h,trA_ok h2,fun _=>sat_ngt h.1.1.1⟩
end Fm
theorem Las.pre_stem {l:Las}{W r:List Int}(h:l.stem=W++r):Pre W l.word:=fun i hi=>by
 have h1:i<l.stem.length:=by rw[h,List.length_append];omega
 rw[Las.word_stem h1]
 simp only[h]
 exact List.getElem_append_left hi
theorem Fm.ext_good {x:Exq}{W r:List Int}{l:Las}(h:Fm.mvd x W=0) (hl:l.Ok) (hs:l.stem=W++r) (hv:Fm.vdt x (Fm.ngt x) W=1∨Fm.vdt x (Fm.ngt x) W=2):Fm.satB l x=decide (Fm.vdt x (Fm.ngt x) W=1):=by
 obtain⟨⟨hx,hw⟩,t1,t2⟩:=Fm.mvd_ok h
 have hD:=Fm.dual_of t1 t2
 have hp:=Las.pre_stem hs
 have hlw:Lts l.word:=fun t=>Las.word_ok hl t
 rcases hv with hv | hv
 ·have h1:=(hD.good hw.2).1 ((Fm.vdt_good hD hw.2).1 hv) _ hlw hp
  simp[Fm.satB,hv,hl,hx,h1]
 ·have h1:=(hD.bad hw.2).1 (Fm.vdt_bad.1 hv) _ hlw hp
  simp[Fm.satB,hv,h1]
theorem c_FnMonitorFormula {h:Heap}{v w:Value}{l m:List (BitVec 8)}(R:Rep h v l) (RM0:Rep h w m):CallE Tryz.prog fn_laws_FnMonitorFormula [v,w] h (fun u h'=>h.le h'∧u=.bool true):=by
 refine CallE.gen fun k hk=>EN_laws_FnMonitorFormula rfl ?_
 by_cases a1:(1048576:Int)<l.length
 ·simp -implicitDefEqProofs (disch:=first|omega|(simp only[LnZ];omega))[wrap64,R.len,a1]
  exact RetK.keep (hk _ _ ⟨Heap.le.refl _,rfl⟩)
 by_cases a2:(1048576:Int)<m.length
 ·simp -implicitDefEqProofs (disch:=first|omega|(simp only[LnZ];omega))[wrap64,R.len,RM0.len,a1,a2]
  exact RetK.keep (hk _ _ ⟨Heap.le.refl _,rfl⟩)
 simp -implicitDefEqProofs (disch:=first|omega|(simp only[LnZ];omega))[wrap64,R.len,RM0.len,a1,a2]
 refine (c_DrawMonitorFormula R).go ?_
 rintro _ h1 ⟨u1,u2,x,W,rfl,l1,Rx,RW,hWl⟩
 have FX:=Rx.aExq
 simp -implicitDefEqProofs (disch:=first|omega|(simp only[LnZ];omega))[wrap64,FX,setC]
 refine (c_DrawAccepts (RM0.le l1)).go ?_
 rintro _ h2 ⟨y1,y2,a',y,rfl,l2,Ra',Ry,hy1,hy2⟩
 have Rx:=Rx.le l2
 have RW:=RW.le l2
 have FY:=Ry.aLas
 have FA':=Ra'.aAut
 simp -implicitDefEqProofs (disch:=first|omega|(simp only[LnZ];omega))[wrap64,FX,FY,FA',setC]
 refine (c_MonitorFormula Rx RW).go ?_
 rintro _ h3 ⟨l3,rfl⟩
 simp -implicitDefEqProofs (disch:=first|omega|(simp only[LnZ];omega))[wrap64,FX]
 refine (c_spec_MonitorFormula (Rx.le l3) (RW.le l3)).go ?_
 rintro _ h4 ⟨l4,rfl⟩
 have l34:=l3.trans l4
 have Rx:=Rx.le l34
 have RW:=RW.le l34
 have Ry:=Ry.le l34
 have lb:=l1.trans (l2.trans l34)
 have hrng:Fm.monF x W=0∨3≤Fm.monF x W∨(Fm.mvd x W=0∧Fm.monF x W=Fm.vdt x (Fm.ngt x) W∧(Fm.monF x W=1∨Fm.monF x W=2)):=by
  by_cases q3:Fm.monF x W<3
  ·have m1:=Fm.monF_lt q3
   have e1:Fm.monF x W=Fm.vdt x (Fm.ngt x) W:=by rw[Fm.monF,if_pos m1]
   have:=Fm.vdt_rng (x:=x) (y:=Fm.ngt x) (W:=W)
   rw[← e1] at this
   rcases this with h | h
   ·exact .inl h
   ·exact .inr (.inr ⟨m1,e1,h⟩)
  ·exact .inr (.inl (by omega))
 by_cases q1:Fm.monF x W=0
 ·simp -implicitDefEqProofs (disch:=first|omega|(simp only[LnZ];omega))[wrap64,q1,FX]
  refine (c_spec_MonitorFormula Rx RW).go ?_
  rintro _ h6 ⟨l6,rfl⟩
  simp -implicitDefEqProofs (disch:=first|omega|(simp only[LnZ];omega))[wrap64,q1]
  exact RetK.keep (hk _ _ ⟨lb.trans l6,rfl⟩)
 by_cases q2:3≤Fm.monF x W
 ·simp -implicitDefEqProofs (disch:=first|omega|(simp only[LnZ];omega))[wrap64,q1,q2,FX]
  refine (c_spec_MonitorFormula Rx RW).go ?_
  rintro _ h6 ⟨l6,rfl⟩
  simp -implicitDefEqProofs (disch:=first|omega|(simp only[LnZ];omega))[wrap64,q1]
  exact RetK.keep (hk _ _ ⟨lb.trans l6,rfl⟩)
 have hv:=(hrng.resolve_left q1).resolve_left q2
 obtain⟨z1,z2,rfl,R1,R2⟩:=Rep_Las.1 Ry
 have o1:=R1.one
 have o2:=R2.one
 simp -implicitDefEqProofs (disch:=first|omega|(simp only[LnZ];omega))[wrap64,q1,q2,setC,o1,o2,FX]
 refine (HS.init (h:=h4)).appPL (α:=Int) (bytes:=8) rfl rfl RW rfl rfl (by omega) fun s1 h5 H=>?_
 simp -implicitDefEqProofs (disch:=first|omega|(simp only[LnZ];omega))[wrap64,setC,o1,o2,FX]
 refine H.appL (bytes:=8) rfl rfl (R1.on H) rfl rfl (by omega) (by omega) fun s2 h6 H=>?_
 have RS:Rep h6 (.agg #[s2,z2]) (⟨W++y.stem,y.loop⟩:Las):=Rep_Las.2 ⟨s2,z2,rfl,H.rep,R2.on H⟩
 have FS:=RS.aLas
 have o3:=H.rep.one
 have c3:=H.rep.cells
 have c2:=R2.cells
 simp -implicitDefEqProofs (disch:=first|omega|(simp only[LnZ];omega))[wrap64,setC,o1,o2,o3,c2,c3,FX]
 refine (c_Satisfies RS (Rx.on H)).go ?_
 rintro _ h7 ⟨l7,rfl⟩
 have lb:=lb.trans (H.base.trans l7)
 have hx:=(Fm.mvd_ok hv.1).1.1
 by_cases q3:(⟨W++y.stem,y.loop⟩:Las).Ok
 ·have he:=Fm.ext_good (x:=x) (W:=W) (r:=y.stem) hv.1 q3 rfl (by rw[← hv.2.1];exact hv.2.2)
  rw[← hv.2.1] at he
  simp -implicitDefEqProofs (disch:=first|omega|(simp only[LnZ];omega))[wrap64,q3,hx,he]
  exact RetK.keep (hk _ _ ⟨lb,by simp⟩)
 ·simp -implicitDefEqProofs (disch:=first|omega|(simp only[LnZ];omega))[wrap64,q3]
  exact RetK.keep (hk _ _ ⟨lb,rfl⟩)
end Go.Proofs.YtedbaenahnfhfaaGreat
