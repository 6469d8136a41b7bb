/-
  Texts of this proof, one behind the other.
-/
import Derived.Test.YtedbaenahnfhfaaGreatYF4
set_option linter.all false
set_option linter.unusedVariables false
set_option linter.unusedSimpArgs false
set_option linter.defProp false
set_option maxRecDepth 1000000
namespace Go.Proofs.YtedbaenahnfhfaaGreat
open Go
theorem flt_take {α:Type}{p:α→Bool}{l:List α}{i:Nat}(hi:i<l.length):(l.take (i+1)).filter p=(l.take i).filter p++if p l[i] then [l[i]] else []:=by
 rw[List.take_add_one,List.getElem?_eq_getElem hi,List.filter_append]
 cases hp:p l[i]<;>simp[hp]
theorem flt_len {α:Type}{p:α→Bool}{l:List α}{i:Nat}:((l.take i).filter p).length≤l.length:=by
 have h1:=List.length_filter_le p (l.take i)
 have h2:(l.take i).length≤l.length:=by rw[List.length_take];omega
 omega
theorem c_spec_BasicFormulas {h:Heap}{v:Value}{x:Exq}(R:Rep h v x):CallE Tryz.prog fn_spec_BasicFormulas [v] h (fun u h'=>∃w,u=.tuple #[w,.bool (decide (Fm.bOk x))]∧h.le h'∧Rep h' w (Fm.basR x)):=by
 have FX:=R.aExq
 refine CallE.gen fun k hk=>EN_spec_BasicFormulas rfl ?_
 simp -implicitDefEqProofs (disch:=first|omega|(simp only[LnZ];omega))[wrap64,FX]
 refine (c_spec_NormalForm R).go ?_
 rintro _ h1 ⟨w,rfl,H⟩
 have FW:=H.rep.aExq
 by_cases q1:Fm.Ok x∧Fm.Ok (Fm.push x false)
 case neg=>
  simp -implicitDefEqProofs (disch:=first|omega|(simp only[LnZ];omega))[wrap64,q1,FW,setC]
  refine H.bls0 Exq fun o h2 H=>?_
  simp -implicitDefEqProofs (disch:=omega)[wrap64]
  exact RetK.keep (hk _ _ ⟨o,by rw[decide_eq_false (fun hh=>q1 hh.1)],H.base,by rw[Fm.basR,if_neg (fun hh=>q1 hh.1)];exact H.rep⟩)
 rw[Fm.nfR,if_pos q1] at H
 simp -implicitDefEqProofs (disch:=first|omega|(simp only[LnZ];omega))[wrap64,q1,FW,setC]
 refine H.bls0 (Mix Exq) fun o h2 H=>?_
 simp -implicitDefEqProofs (disch:=first|omega|(simp only[LnZ];omega))[wrap64,FW]
 have hnd:=q1.2.2
 refine (c_l5Subs (Fm.push x false) (g:=h2) (Γ:=[]) (out:=[]) (by simp;omega) H.sw1.rep (HS.init.nil_ow)).go ?_
 intro ls h3 G
 have H:=G.app H
 have hsl:=Fm.subs_len (Fm.push x false) []
 have hbd:Fm.basics x=(Fm.subs (Fm.push x false) []).filter Fm.bas:=rfl
 obtain⟨g1,H1,H2⟩:=HS.rebase (Δ:=[ow o ([]:List (Mix Exq))]) (Γ:=[ow ls (Fm.subs (Fm.push x false) []),ow w (Fm.push x false)]) H.sw1
 have lb:=H1.base
 have RL:=H1.rep
 clear H1 H G
 generalize Fm.subs (Fm.push x false) []=S at *
 simp only[List.length_nil,Nat.zero_add] at hsl
 simp -implicitDefEqProofs (disch:=omega)[wrap64]
 refine wp_count S.length (fun i e h'=>∃(o:Value) (N:List (Mix Exq)),e=[none,none,none,none,none,none,some o,some ls,some (.int .i64 i)]∧HS g1 [ow o N] h'∧Raws g1 ((S.take i).filter Fm.bas) N) ⟨o,[],by simp,H2,by simpa using Raws.nil⟩ ?_
 clear H2
 rintro J i _ h4 hJ hi ⟨o,N,rfl,H,hN⟩
 simp -implicitDefEqProofs (disch:=first|omega|(simp only[LnZ];omega))[wrap64,(RL.on H).len]
 refine IteW.mk (fun hlt=>?_) (fun hge=>?_)
 ·have hlx:i<S.length:=by omega
  obtain⟨u,hu,Ru⟩:=RL.ld hlx
  have hu':=hload_le H.base hu
  change hload _ (some (elp 3 ls i)) (some 3)=some u at hu'
  have hX:=RL.X (n:=3) rfl
  have FU:=Ru.aExq
  have hft:=flt_take (p:=Fm.bas) hlx
  have hNl:N.length≤64:=by
   rw[hN.len]
   have:=flt_len (p:=Fm.bas) (l:=S) (i:=i)
   omega
  simp -implicitDefEqProofs (disch:=first|omega|(simp only[LnZ];omega))[wrap64,hX,hu',FU]
  refine (c_l7Basic (Ru.on H)).go ?_
  rintro _ _ ⟨rfl,rfl⟩
  cases hb:Fm.bas S[i] with
  | false=>
   simp -implicitDefEqProofs (disch:=omega)[wrap64]
   exact hJ _ _ hlx ⟨o,N,by simp,H,by rw[hft,hb];simpa using hN⟩
  | true=>
   obtain⟨wq,rfl,kk1,kk2,Rq⟩:=Rep_Exq.1 Ru
   have hcs:Ty.rep g1 [.int .i64 S[i].kind,.int .i64 S[i].val,wq] S[i]:=repExq.2 ⟨wq,rfl,kk1,kk2,Rq⟩
   have hOq:=Rq.one
   simp -implicitDefEqProofs (disch:=first|omega|(simp only[LnZ];omega))[wrap64,hX,hu',setC,hOq]
   refine HS.appO (α:=Mix Exq) (bytes:=40) (H.rawO hcs) rfl rfl rfl rfl rfl (by omega) (by omega) fun o' h5 H=>?_
   simp -implicitDefEqProofs (disch:=omega)[wrap64]
   refine hJ _ _ hlx ⟨o',_,by simp,H,?_⟩
   rw[hft,hb,if_pos rfl]
   exact hN.push hcs
 rw[List.take_of_length_le (by omega),← hbd] at hN
 have hNl:=hN.len
 by_cases q2:(Fm.basics x).length≤5
 ·have bok:Fm.bOk x:=⟨q1,q2⟩
  have hlt:¬(5:Int)<N.length:=by omega
  simp -implicitDefEqProofs (disch:=first|omega|(simp only[LnZ];omega))[wrap64,H.rep.len,hlt]
  exact RetK.keep (hk _ _ ⟨o,by rw[decide_eq_true bok],lb.trans H.base,by rw[Fm.basR,if_pos bok];exact H.rep.raws (hN.le H.base)⟩)
 ·have nok:¬Fm.bOk x:=fun hh=>q2 hh.2
  have hlt:(5:Int)<N.length:=by omega
  simp -implicitDefEqProofs (disch:=first|omega|(simp only[LnZ];omega))[wrap64,H.rep.len,hlt]
  refine H.bls0 Exq fun o2 h5 H=>?_
  simp -implicitDefEqProofs (disch:=omega)[wrap64]
  exact RetK.keep (hk _ _ ⟨o2,by rw[decide_eq_false nok],lb.trans H.base,by rw[Fm.basR,if_neg nok];exact H.rep⟩)
structure Bas (B:List Exq):Prop where
 n5:B.length≤5
 ok:∀y∈B,Fm.Shp 6 y∧Fm.bas y=true
theorem Bas.at {B:List Exq}(h:Bas B) {i:Nat}(hi:i<B.length):Fm.Shp 6 B[i]:=(h.ok _ (List.getElem_mem hi)).1
theorem c_l7Follows {h:Heap}{w:Value}{B:List Exq}{s t:Nat}(hB:Bas B) (hs:s<4611686018427387904) (ht:t<4611686018427387904) (R:Rep h w B):CallE Tryz.prog fn_spec_l7Follows [w,.int .i64 s,.int .i64 t] h (fun u h'=>h'=h∧u=.bool (decide (Fm.Fol B s t))):=by
 have hL:=R.lt
 have hn5:=hB.n5
 refine CallE.gen fun k hk=>EN_spec_l7Follows rfl ?_
 simp -implicitDefEqProofs (disch:=omega)[wrap64]
 refine wp_count B.length (fun i e h'=>e=[some w,some (.int .i64 s),some (.int .i64 t),none,some (.int .i64 i),none,none,none,none]∧h'=h∧∀(j:Nat) (hj:j<B.length),j<i→Fm.got B s t j B[j]=s.testBit j) ⟨by simp,rfl,fun j _ hj=>absurd hj (Nat.not_lt_zero j)⟩ ?_
 rintro J i _ h hJ hi ⟨rfl,rfl,hq⟩
 simp -implicitDefEqProofs (disch:=first|omega|(simp only[LnZ];omega))[wrap64,R.len]
 refine IteW.mk (fun hlt=>?_) (fun hge=>?_)
 ·have hlx:i<B.length:=by omega
  have hy:Fm.got B s t i B[i]=s.testBit i→J [some w,some (.int .i64 s),some (.int .i64 t),none,some (.int .i64 ((i+1:Nat):Int)),none,none,none,none] h:=fun e=>hJ _ _ hlx ⟨rfl,rfl,fun j hj hji=>by
   by_cases e2:j=i
   ·subst e2;exact e
   ·exact hq j hj (by omega)⟩
  have hno:¬Fm.got B s t i B[i]=s.testBit i→k (.bool false) h:=fun e=>hk _ _ ⟨rfl,by rw[decide_eq_false (fun hh:Fm.Fol B s t=>e (hh i hlx))]⟩
  have hsp:=hB.at hlx
  obtain⟨y,hyd⟩:∃y,y=B[i]:=⟨_,rfl⟩
  obtain⟨u,hu,Ru⟩:=R.ld hlx
  change hload _ (some (elp 3 w i)) (some 3)=some u at hu
  rw[← hyd] at hy hno hsp Ru
  obtain⟨wk,rfl,k1,k2,R1⟩:=Rep_Exq.1 Ru
  have hX:=R.X (n:=3) rfl
  have kO:=R1.one
  have hi64:I64 (i:Int):=⟨by omega,by omega⟩
  have kid:∀{j:Nat}(hj:j<y.kids.length),∃u,hload h (some (elp 3 wk j)) (some 3)=some u∧Rep h u y.kids[j]:=fun hj=>R1.ld hj
  have hY:=R1.X (n:=3) rfl
  have V:∀{j:Nat}(hj:j<y.kids.length) {u:Value}{s:Nat},s<4611686018427387904→Rep h u y.kids[j]→CallE Tryz.prog fn_spec_l7Value [w,.int .i64 s,u] h (fun u h'=>h'=h∧u=.bool (Fm.val B s y.kids[j])):=fun hj _ _ hs r=>c_l7Value 5 hs (hsp.kid hj) R r
  simp -implicitDefEqProofs (disch:=first|omega|(simp only[LnZ];omega))[wrap64,hX,hu,setC,kO]
  refine (c_l6Has hs hi64).go ?_
  rintro _ _ ⟨rfl,rfl⟩
  rw[Fm.has_nat]
  unfold Fm.got at hy hno
  by_cases c6:y.kind=6
  ·have hl:=hsp.one (by omega)
   obtain⟨u0,hu0,Ru0⟩:=kid (j:=0) (by omega)
   rw[if_pos c6,Fm.kv_at (j:=0) (by omega)] at hy hno
   simp -implicitDefEqProofs (disch:=first|omega|(simp only[LnZ];omega))[wrap64,c6,hY,hu0,setC,kO]
   refine (V (by omega) ht Ru0).go ?_
   rintro _ _ ⟨rfl,rfl⟩
   by_cases e:Fm.val B t y.kids[0]=s.testBit i
   ·simp -implicitDefEqProofs (disch:=first|omega|(simp only[LnZ];omega))[wrap64,e]
    simpa using hy e
   ·simp -implicitDefEqProofs (disch:=first|omega|(simp only[LnZ];omega))[wrap64,e]
    exact RetK.keep (hno e)
  rw[if_neg c6] at hy hno
  by_cases c7:y.kind=7
  ·have hl:=hsp.two (by omega)
   obtain⟨u0,hu0,Ru0⟩:=kid (j:=0) (by omega)
   obtain⟨u1,hu1,Ru1⟩:=kid (j:=1) (by omega)
   rw[if_pos c7,Fm.kv_at (j:=0) (by omega),Fm.kv_at (j:=1) (by omega)] at hy hno
   simp -implicitDefEqProofs (disch:=first|omega|(simp only[LnZ];omega))[wrap64,c6,c7,hY,hu1,setC,kO]
   refine (V (by omega) hs Ru1).go ?_
   rintro _ _ ⟨rfl,rfl⟩
   cases hv1:Fm.val B s y.kids[1] with
   | true=>
    rw[hv1] at hy hno
    cases hw:s.testBit i with
    | true=>
     rw[hw] at hy
     simp -implicitDefEqProofs (disch:=first|omega|(simp only[LnZ];omega))[wrap64,hv1,hw]
     simpa using hy (by simp)
    | false=>
     rw[hw] at hno
     simp -implicitDefEqProofs (disch:=first|omega|(simp only[LnZ];omega))[wrap64,hv1,hw]
     exact RetK.keep (hno (by simp))
   | false=>
    rw[hv1] at hy hno
    simp -implicitDefEqProofs (disch:=first|omega|(simp only[LnZ];omega))[wrap64,hv1,hY,hu0]
    refine (V (by omega) hs Ru0).go ?_
    rintro _ _ ⟨rfl,rfl⟩
    cases hv0:Fm.val B s y.kids[0] with
    | false=>
     rw[hv0] at hy hno
     cases hw:s.testBit i with
     | true=>
      rw[hw] at hno
      simp -implicitDefEqProofs (disch:=first|omega|(simp only[LnZ];omega))[wrap64,hv0,hw]
      exact RetK.keep (hno (by simp))
     | false=>
      rw[hw] at hy
      simp -implicitDefEqProofs (disch:=first|omega|(simp only[LnZ];omega))[wrap64,hv0,hw]
      simpa using hy (by simp)
    | true=>
     rw[hv0] at hy hno
     simp -implicitDefEqProofs (disch:=first|omega|(simp only[LnZ];omega))[wrap64,hv0]
     refine (c_l6Has ht hi64).go ?_
     rintro _ _ ⟨rfl,rfl⟩
     rw[Fm.has_nat]
     by_cases e:t.testBit i=s.testBit i
     ·simp -implicitDefEqProofs (disch:=first|omega|(simp only[LnZ];omega))[wrap64,e]
      simpa using hy (by simpa using e)
     ·simp -implicitDefEqProofs (disch:=first|omega|(simp only[LnZ];omega))[wrap64,e]
      exact RetK.keep (hno (by simpa using e))
  rw[if_neg c7] at hy hno
  by_cases c8:y.kind=8
  ·have hl:=hsp.two (by omega)
   obtain⟨u0,hu0,Ru0⟩:=kid (j:=0) (by omega)
   obtain⟨u1,hu1,Ru1⟩:=kid (j:=1) (by omega)
   rw[if_pos c8,Fm.kv_at (j:=0) (by omega),Fm.kv_at (j:=1) (by omega)] at hy hno
   simp -implicitDefEqProofs (disch:=first|omega|(simp only[LnZ];omega))[wrap64,c6,c7,c8,hY,hu1,setC,kO]
   refine (V (by omega) hs Ru1).go ?_
   rintro _ _ ⟨rfl,rfl⟩
   cases hv1:Fm.val B s y.kids[1] with
   | false=>
    rw[hv1] at hy hno
    cases hw:s.testBit i with
    | true=>
     rw[hw] at hno
     simp -implicitDefEqProofs (disch:=first|omega|(simp only[LnZ];omega))[wrap64,hv1,hw]
     exact RetK.keep (hno (by simp))
    | false=>
     rw[hw] at hy
     simp -implicitDefEqProofs (disch:=first|omega|(simp only[LnZ];omega))[wrap64,hv1,hw]
     simpa using hy (by simp)
   | true=>
    rw[hv1] at hy hno
    simp -implicitDefEqProofs (disch:=first|omega|(simp only[LnZ];omega))[wrap64,hv1,hY,hu0]
    refine (V (by omega) hs Ru0).go ?_
    rintro _ _ ⟨rfl,rfl⟩
    cases hv0:Fm.val B s y.kids[0] with
    | true=>
     rw[hv0] at hy hno
     cases hw:s.testBit i with
     | true=>
      rw[hw] at hy
      simp -implicitDefEqProofs (disch:=first|omega|(simp only[LnZ];omega))[wrap64,hv0,hw]
      simpa using hy (by simp)
     | false=>
      rw[hw] at hno
      simp -implicitDefEqProofs (disch:=first|omega|(simp only[LnZ];omega))[wrap64,hv0,hw]
      exact RetK.keep (hno (by simp))
    | false=>
     rw[hv0] at hy hno
     simp -implicitDefEqProofs (disch:=first|omega|(simp only[LnZ];omega))[wrap64,hv0]
     refine (c_l6Has ht hi64).go ?_
     rintro _ _ ⟨rfl,rfl⟩
     rw[Fm.has_nat]
     by_cases e:t.testBit i=s.testBit i
     ·simp -implicitDefEqProofs (disch:=first|omega|(simp only[LnZ];omega))[wrap64,e]
      simpa using hy (by simpa using e)
     ·simp -implicitDefEqProofs (disch:=first|omega|(simp only[LnZ];omega))[wrap64,e]
      exact RetK.keep (hno (by simpa using e))
  rw[if_neg c8] at hy hno
  simp -implicitDefEqProofs (disch:=first|omega|(simp only[LnZ];omega))[wrap64,c6,c7,c8]
  simpa using hy rfl
 ·simp -implicitDefEqProofs (disch:=omega)[wrap64]
  exact RetK.keep (hk _ _ ⟨rfl,by rw[decide_eq_true (show Fm.Fol B s t from fun j hj=>hq j hj (by omega))]⟩)
theorem c_l7Fulfils {h:Heap}{w:Value}{B:List Exq}{s u:Nat}(hB:Bas B) (hs:s<4611686018427387904) (hu:u<B.length) (hk7:B[u].kind=7) (R:Rep h w B):CallE Tryz.prog fn_spec_l7Fulfils [w,.int .i64 s,.int .i64 u] h (fun v h'=>h'=h∧v=.bool (Fm.ful B s u)):=by
 have hL:=R.lt
 have hn5:=hB.n5
 have hi64:I64 (u:Int):=⟨by omega,by omega⟩
 have hsp:=hB.at hu
 have hl:=hsp.two (by omega)
 obtain⟨q,hq,Rq⟩:=R.ld hu
 change hload _ (some (elp 3 w u)) (some 3)=some q at hq
 obtain⟨wk,rfl,k1,k2,R1⟩:=Rep_Exq.1 Rq
 have hX:=R.X (n:=3) rfl
 have hP:=hld_parts (cs:=[.int .i64 B[u].kind,.int .i64 B[u].val,wk]) hq
 obtain⟨u1,hu1,Ru1⟩:=R1.ld (i:=1) (by omega)
 change hload _ (some (elp 3 wk 1)) (some 3)=some u1 at hu1
 have e:B.getD (u:Int).toNat Exq.zero=B[u]:=by simp[hu]
 refine CallE.gen fun k hk=>EN_spec_l7Fulfils rfl ?_
 simp -implicitDefEqProofs (disch:=omega)[wrap64]
 refine (c_l6Has hs hi64).go ?_
 rintro _ _ ⟨rfl,rfl⟩
 rw[Fm.ful,e,Fm.kv_at (j:=1) (by omega)] at hk
 cases hh:Fm.has s u with
 | false=>
  rw[hh] at hk
  simp -implicitDefEqProofs (disch:=first|omega|(simp only[LnZ];omega))[wrap64,hh]
  exact RetK.keep (hk _ _ ⟨rfl,by simp⟩)
 | true=>
  rw[hh] at hk
  simp -implicitDefEqProofs (disch:=first|omega|(simp only[LnZ];omega))[wrap64,hh,hX,hP.1,hP.2.2.1,R1.X (n:=3) rfl,hu1]
  refine (c_l7Value 5 hs (hsp.kid (i:=1) (by omega)) R Ru1).go ?_
  rintro _ _ ⟨rfl,rfl⟩
  simp -implicitDefEqProofs (disch:=omega)[wrap64]
  exact RetK.keep (hk _ _ ⟨rfl,by simp⟩)
theorem c_l7Letter {h:Heap}{w:Value}{B:List Exq}{s:Nat}(hB:Bas B) (hs:s<4611686018427387904) (R:Rep h w B):CallE Tryz.prog fn_spec_l7Letter [w,.int .i64 s] h (fun u h'=>h'=h∧u=.tuple #[.int .i64 ((Fm.ltc B B.length:Nat):Int),.int .i64 ((Fm.ltv B s B.length:Nat):Int)]):=by
 have hL:=R.lt
 have hn5:=hB.n5
 have hall:∀y∈B,Fm.Shp 6 y:=fun y hy=>(hB.ok y hy).1
 refine CallE.gen fun k hk=>EN_spec_l7Letter rfl ?_
 simp -implicitDefEqProofs (disch:=omega)[wrap64]
 refine wp_count B.length (fun i e h'=>e=[some w,some (.int .i64 s),none,none,some (.int .i64 ((Fm.ltc B i:Nat):Int)),some (.int .i64 ((Fm.ltv B s i:Nat):Int)),some (.int .i64 i)]∧h'=h) ⟨by simp[Fm.ltc,Fm.ltv],rfl⟩ ?_
 rintro J i _ h hJ hi ⟨rfl,rfl⟩
 simp -implicitDefEqProofs (disch:=first|omega|(simp only[LnZ];omega))[wrap64,R.len]
 refine IteW.mk (fun hlt=>?_) (fun hge=>?_)
 ·have hlx:i<B.length:=by omega
  have hc:=Fm.ltc_lt hall i (by omega)
  have hv:=Fm.ltv_lt (s:=s) hall i (by omega)
  have e:B.getD i Exq.zero=B[i]:=by simp[hlx]
  have hc1:Fm.ltc B (i+1)=if B[i].kind=2 then Fm.ltc B i|||1<<<B[i].val.toNat else Fm.ltc B i:=by rw[Fm.ltc,e]
  have hv1:Fm.ltv B s (i+1)=if B[i].kind=2∧s.testBit i=true then Fm.ltv B s i|||1<<<B[i].val.toNat else Fm.ltv B s i:=by rw[Fm.ltv,e]
  have hsp:=hB.at hlx
  obtain⟨u,hu,Ru⟩:=R.ld hlx
  change hload _ (some (elp 3 w i)) (some 3)=some u at hu
  obtain⟨wk,rfl,k1,k2,R1⟩:=Rep_Exq.1 Ru
  have hX:=R.X (n:=3) rfl
  have hP:=hld_parts (cs:=[.int .i64 B[i].kind,.int .i64 B[i].val,wk]) hu
  have hlo:=hsp.nd.lo
  have hhi:=hsp.nd.hi
  obtain⟨q,hq⟩:∃q:Nat,B[i].val=q:=⟨_,(Int.toNat_of_nonneg hlo).symm⟩
  have hq3:q<3:=by omega
  have hpl:(0:Int)≤B[i].val:=hlo
  have hsl:shlI .i64 1 (q:Int)=((1<<<q:Nat):Int):=i64_shl1 (by omega)
  have hs8:=Fm.sh3 hq3
  have huq:IntKind.u64.wrap (q:Int)=q:=u64_pos (by omega) (by omega)
  have hq0:¬(q:Int)<0:=by omega
  have ho1:orI .i64 ((Fm.ltc B i:Nat):Int) ((1<<<q:Nat):Int)=((Fm.ltc B i|||1<<<q:Nat):Int):=i64_or (by omega) (by omega)
  have ho2:orI .i64 ((Fm.ltv B s i:Nat):Int) ((1<<<q:Nat):Int)=((Fm.ltv B s i|||1<<<q:Nat):Int):=i64_or (by omega) (by omega)
  rw[hq,Int.toNat_natCast] at hc1 hv1
  by_cases c2:B[i].kind=2
  case neg=>
   rw[if_neg c2] at hc1
   rw[if_neg (fun hh=>c2 hh.1)] at hv1
   simp -implicitDefEqProofs (disch:=first|omega|(simp only[LnZ];omega))[wrap64,hX,hP.1,hP.2.2.1,c2]
   exact hJ _ _ hlx ⟨by simp[hc1,hv1],rfl⟩
  rw[if_pos c2] at hc1
  generalize hA:1<<<q=A at *
  have hi64:I64 (i:Int):=⟨by omega,by omega⟩
  simp -implicitDefEqProofs (disch:=first|omega|(simp only[LnZ];omega))[wrap64,hX,hP.1,hP.2.2.1,c2,hq,huq,hq0,hsl,ho1]
  refine (c_l6Has hs hi64).go ?_
  rintro _ _ ⟨rfl,rfl⟩
  rw[Fm.has_nat]
  cases hb:s.testBit i with
  | false=>
   rw[if_neg (fun hh=>by rw[hb] at hh;exact absurd hh.2 (by decide))] at hv1
   simp -implicitDefEqProofs (disch:=first|omega|(simp only[LnZ];omega))[wrap64,hb]
   exact hJ _ _ hlx ⟨by simp[hc1,hv1],rfl⟩
  | true=>
   rw[if_pos ⟨c2,hb⟩] at hv1
   simp -implicitDefEqProofs (disch:=first|omega|(simp only[LnZ];omega))[wrap64,hb,hX,hP.1,hP.2.2.1,hq,huq,hq0,hsl,ho2]
   exact hJ _ _ hlx ⟨by simp[hc1,hv1],rfl⟩
 ·obtain rfl:i=B.length:=by omega
  simp -implicitDefEqProofs (disch:=omega)[wrap64]
  exact RetK.keep (hk _ _ ⟨rfl,rfl⟩)
theorem c_l7Untils {h:Heap}{w:Value}{B:List Exq}(hB:Bas B) (R:Rep h w B):CallE Tryz.prog fn_spec_l7Untils [w] h (fun u h'=>HS h [ow u (Fm.unt B B.length)] h'):=by
 have hL:=R.lt
 have hn5:=hB.n5
 refine CallE.gen fun k hk=>EN_spec_l7Untils rfl ?_
 simp -implicitDefEqProofs (disch:=omega)[wrap64]
 refine HS.init.bls0 Int fun o h1 H=>?_
 simp -implicitDefEqProofs (disch:=omega)[wrap64]
 refine wp_count B.length (fun i e h'=>∃o,e=[some w,none,some o,some (.int .i64 i)]∧HS h [ow o (Fm.unt B i)] h') ⟨o,by simp,by simpa[Fm.unt] using H⟩ ?_
 clear H
 rintro J i _ h2 hJ hi ⟨o,rfl,H⟩
 simp -implicitDefEqProofs (disch:=first|omega|(simp only[LnZ];omega))[wrap64,(R.on H).len]
 refine IteW.mk (fun hlt=>?_) (fun hge=>?_)
 ·have hlx:i<B.length:=by omega
  have e:B.getD i Exq.zero=B[i]:=by simp[hlx]
  have hu1:Fm.unt B (i+1)=if B[i].kind=7 then Fm.unt B i++[(i:Int)] else Fm.unt B i:=by rw[Fm.unt,e]
  have hul:=Fm.unt_len (B:=B) i
  obtain⟨u,hu,Ru⟩:=R.ld hlx
  have hu':=hload_le H.base hu
  change hload _ (some (elp 3 w i)) (some 3)=some u at hu'
  obtain⟨wk,rfl,k1,k2,R1⟩:=Rep_Exq.1 Ru
  have hX:=R.X (n:=3) rfl
  have hP:=hld_parts (cs:=[.int .i64 B[i].kind,.int .i64 B[i].val,wk]) hu'
  by_cases c7:B[i].kind=7
  ·rw[if_pos c7] at hu1
   simp -implicitDefEqProofs (disch:=first|omega|(simp only[LnZ];omega))[wrap64,hX,hP.1,hP.2.2.1,c7]
   refine HS.app1 (bytes:=8) H (i:Int) rfl rfl rfl ⟨by omega,by omega⟩ rfl rfl (by omega) (by omega) fun o' h3 H=>?_
   simp -implicitDefEqProofs (disch:=omega)[wrap64]
   exact hJ _ _ hlx ⟨o',by simp,by rw[hu1];exact H⟩
  ·rw[if_neg c7] at hu1
   simp -implicitDefEqProofs (disch:=first|omega|(simp only[LnZ];omega))[wrap64,hX,hP.1,hP.2.2.1,c7]
   exact hJ _ _ hlx ⟨o,by simp,by rw[hu1];exact H⟩
 ·obtain rfl:i=B.length:=by omega
  simp -implicitDefEqProofs (disch:=omega)[wrap64]
  exact RetK.keep (hk _ _ H)
theorem c_l7Phase {h:Heap}{w v:Value}{B:List Exq}{s:Nat}{p:Int}(hB:Bas B) (hs:s<4611686018427387904) (R:Rep h w B) (RU:Rep h v (Fm.unt B B.length)) (hp:Fm.POk (Fm.unt B B.length) p) :
  CallE Tryz.prog fn_spec_l7Phase [w,v,.int .i64 s,.int .i64 p] h (fun u h'=>h'=h∧u=.tuple #[.int .i64 (Fm.phs B (Fm.unt B B.length) s p).1,.bool (Fm.phs B (Fm.unt B B.length) s p).2]):=by
 have hul:=Fm.unt_len (B:=B) B.length
 have hum:∀{u:Int},u∈Fm.unt B B.length→_:=fun h=>Fm.unt_mem h
 have hn5:=hB.n5
 refine CallE.gen fun k hk=>EN_spec_l7Phase rfl ?_
 unfold Fm.phs at hk
 generalize Fm.unt B B.length=U at *
 by_cases q0:U.length=0
 ·rw[if_pos q0] at hk
  have q0':U=[]:=List.length_eq_zero_iff.1 q0
  simp -implicitDefEqProofs (disch:=first|omega|(simp only[LnZ];omega))[wrap64,RU.len,q0,q0']
  exact RetK.keep (hk _ _ ⟨rfl,rfl⟩)
 rw[if_neg q0] at hk
 have q0':¬U=[]:=fun e=>q0 (by rw[e];rfl)
 have q0i:¬(U.length:Int)=0:=by omega
 obtain⟨n,rfl⟩:∃n:Nat,p=n:=⟨p.toNat,(Int.toNat_of_nonneg hp.1).symm⟩
 have hnU:n<U.length:=by have:=hp.2;omega
 obtain⟨m,hm1,hm2,hm3⟩:=hum (List.getElem_mem hnU)
 have e1:U.getD (n:Int).toNat 0=(m:Int):=by rw[Int.toNat_natCast,List.getD_eq_getElem?_getD,List.getElem?_eq_getElem hnU,← hm1];rfl
 have hm3':B[m].kind=7:=by rw[← hm3];simp[hm2]
 rw[e1] at hk
 have hRU:=RU.I
 simp -implicitDefEqProofs (disch:=first|omega|(simp only[LnZ];omega))[wrap64,RU.len,q0,q0',q0i,hRU,hm1]
 refine (c_l7Fulfils hB hs hm2 hm3' R).go ?_
 rintro _ _ ⟨rfl,rfl⟩
 cases hf:Fm.ful B s m with
 | true=>
  rw[hf] at hk
  simp -implicitDefEqProofs (disch:=first|omega|(simp only[LnZ];omega))[wrap64,hf,RU.len,q0i,q0']
  exact RetK.keep (hk _ _ ⟨rfl,by simp⟩)
 | false=>
  rw[hf] at hk
  simp -implicitDefEqProofs (disch:=first|omega|(simp only[LnZ];omega))[wrap64,hf]
  exact RetK.keep (hk _ _ ⟨rfl,by simp⟩)
theorem c_l2IntsM {h:Heap}{a b:Value}{x y:List Int}(Ra:Rep h a x) (Rb:Rep h b y):CallE Tryz.prog fn_spec_l2Ints [a,b] h (fun u h'=>h'=h∧u=.bool (decide (x=y))):=by
 have hL:=Ra.lt
 refine CallE.gen fun k hk=>EN_spec_l2Ints rfl ?_
 by_cases hl:(x.length:Int)=y.length
 case neg=>
  simp -implicitDefEqProofs (disch:=first|omega|(simp only[LnZ];omega))[wrap64,Ra.len,Rb.len,hl]
  exact RetK.keep (hk _ _ ⟨rfl,by congr 1;rw[eq_comm,decide_eq_false_iff_not];intro e;subst e;exact hl rfl⟩)
 simp -implicitDefEqProofs (disch:=first|omega|(simp only[LnZ];omega))[wrap64,Ra.len,Rb.len,hl]
 refine wp_count x.length (fun i e h'=>e=[some a,some b,none,some (.int .i64 i)]∧h'=h∧x.take i=y.take i) ⟨by simp,rfl,rfl⟩ ?_
 rintro J i _ h1 hJ hi ⟨rfl,rfl,hq⟩
 simp -implicitDefEqProofs (disch:=first|omega|(simp only[LnZ];omega))[wrap64,Ra.len]
 refine IteW.mk (fun hlt=>?_) (fun hge=>?_)
 ·have hlx:i<x.length:=by omega
  have hly:i<y.length:=by omega
  by_cases he:x[i]=y[i]
  ·simp -implicitDefEqProofs (disch:=first|omega|(simp only[LnZ];omega))[wrap64,Ra.I,Rb.I,he]
   exact hJ _ _ hlx ⟨rfl,rfl,take_step hq hlx hly he⟩
  ·simp -implicitDefEqProofs (disch:=first|omega|(simp only[LnZ];omega))[wrap64,Ra.I,Rb.I,he]
   exact RetK.keep (hk _ _ ⟨rfl,by congr 1;rw[eq_comm,decide_eq_false_iff_not];intro e;subst e;exact he rfl⟩)
 ·simp -implicitDefEqProofs (disch:=omega)[wrap64]
  rw[List.take_of_length_le (by omega),List.take_of_length_le (by omega)] at hq
  exact RetK.keep (hk _ _ ⟨rfl,by simp[hq]⟩)
theorem c_l7Pair {g h:Heap}{Γ:List HP}{v w:Value}{L:List (List Int)}{p:List Int}(H:HS g (ow w p::ow v L::Γ) h) (hl:L.length≤1048576):CallE Tryz.prog fn_spec_l7Pair [v,w] h (fun u h'=>∃v',u=.tuple #[v',.int .i64 (Fm.atL L p)]∧HS g (ow v' (Fm.adL L p)::Γ) h'):=by
 have RL:=H.sw1.rep
 have Rp:=H.rep
 refine CallE.gen fun k hk=>EN_spec_l7Pair rfl ?_
 simp -implicitDefEqProofs (disch:=omega)[wrap64]
 refine wp_count L.length (fun i e h'=>e=[some v,some w,none,none,some (.int .i64 i)]∧h'=h∧∀(j:Nat) (hj:j<L.length),j<i→L[j]≠p) ⟨by simp,rfl,fun j _ hj=>absurd hj (Nat.not_lt_zero j)⟩ ?_
 rintro J i _ h hJ hi ⟨rfl,rfl,hn⟩
 simp -implicitDefEqProofs (disch:=first|omega|(simp only[LnZ];omega))[wrap64,RL.len]
 refine IteW.mk (fun hlt=>?_) (fun hge=>?_)
 ·have hlx:i<L.length:=by omega
  obtain⟨u,hu,Ru⟩:=RL.ldL hlx
  simp -implicitDefEqProofs (disch:=first|omega|(simp only[LnZ];omega))[wrap64,RL.X (n:=1) rfl,hu]
  refine (c_l2IntsM Ru Rp).go ?_
  rintro _ h ⟨rfl,rfl⟩
  by_cases e:L[i]=p
  ·simp -implicitDefEqProofs (disch:=first|omega|(simp only[LnZ];omega))[wrap64,e]
   have hm:p∈L:=e▸List.getElem_mem hlx
   exact RetK.keep (hk _ _ ⟨v,by rw[Fm.atL_at hlx e hn],by rw[Fm.adL,if_pos hm];exact H.drop⟩)
  ·simp -implicitDefEqProofs (disch:=first|omega|(simp only[LnZ];omega))[wrap64,e]
   refine hJ _ _ hlx ⟨by simp,rfl,fun j hj hji=>?_⟩
   by_cases hji2:j=i
   ·subst hji2;exact e
   ·exact hn j hj (by omega)
 ·have hm:p∉L:=fun hm=>by
   obtain⟨j,hj,h1⟩:=List.mem_iff_getElem.1 hm
   exact hn j hj (by omega) h1
  have hcl:=Rp.cells
  simp -implicitDefEqProofs (disch:=first|omega|(simp only[LnZ];omega))[wrap64,setC,hcl,Rp.one,RL.len]
  refine HS.appO (bytes:=24) H rfl rfl (by rw[hcl]) rfl rfl (by omega) (by omega) fun v' h2 H=>?_
  simp -implicitDefEqProofs (disch:=first|omega|(simp only[LnZ];omega))[wrap64,RL.len]
  exact RetK.keep (hk _ _ ⟨v',by rw[Fm.atL_not hm],by rw[Fm.adL,if_neg hm];exact H⟩)
theorem zero_Aut {g h:Heap}{Γ:List HP}(H:HS g Γ h):HS g (ow (.agg #[.slice none 0 0,.slice none 0 0,.slice none 0 0]) (⟨[],[],[]⟩:Aut)::Γ) h:=HS.mkAut (a:=⟨[],[],[]⟩) H.nil_ow.nil_ow.nil_ow
theorem p2le {n:Nat}(h:n≤5):2^n≤32:=Nat.pow_le_pow_right (n:=2) (by omega) h
set_option maxHeartbeats 2000000 in
theorem c_spec_TranslateFormula {h:Heap}{v:Value}{x:Exq}(R:Rep h v x):CallE Tryz.prog fn_spec_TranslateFormula [v] h (fun u h'=>∃w,u=.tuple #[w,.bool (decide (Fm.trOk x))]∧HS h [ow w (Fm.trR x)] h'):=by
 have FX:=R.aExq
 have hno:∀{h'},h.le h'→¬Fm.trOk x→HS h [ow (.agg #[.slice none 0 0,.slice none 0 0,.slice none 0 0]) (Fm.trR x)] h':=fun hl hn=>by
  rw[Fm.trR,if_neg hn]
  exact zero_Aut (Γ:=[]) hl
 refine CallE.gen fun k hk=>EN_spec_TranslateFormula rfl ?_
 simp -implicitDefEqProofs (disch:=first|omega|(simp only[LnZ];omega))[wrap64,FX]
 refine (c_spec_BasicFormulas R).go ?_
 rintro _ h1 ⟨w,rfl,l1,RB⟩
 by_cases q1:Fm.bOk x
 case neg=>
  simp -implicitDefEqProofs (disch:=first|omega|(simp only[LnZ];omega))[wrap64,q1,setC]
  exact RetK.keep (hk _ _ ⟨_,by rw[decide_eq_false (fun hh=>q1 hh.1)],hno l1 (fun hh=>q1 hh.1)⟩)
 rw[Fm.basR,if_pos q1] at RB
 simp -implicitDefEqProofs (disch:=first|omega|(simp only[LnZ];omega))[wrap64,q1,FX]
 refine (c_spec_NormalForm (R.le l1)).go ?_
 rintro _ h2 ⟨gu,rfl,H⟩
 rw[Fm.nfR,if_pos q1.1] at H
 have hB:Bas (Fm.basics x):=⟨q1.2,Fm.basics_ok q1⟩
 have hgs:=q1.1.2.1
 have FG:=H.rep.aExq
 have hTA:Fm.trT x=Fm.tN (Fm.basics x) (Fm.unt (Fm.basics x) (Fm.basics x).length) (Fm.ini0 (Fm.basics x) (Fm.push x false) (2^(Fm.basics x).length)) 64:=rfl
 have hTr:Fm.trA x=⟨Fm.upto (Fm.ini0 (Fm.basics x) (Fm.push x false) (2^(Fm.basics x).length)).length,if (Fm.trT x).1=[] then [false] else (Fm.trT x).2.1,(Fm.trT x).2.2⟩:=rfl
 have hTO:Fm.trOk x↔(Fm.trT x).1.length≤64:=⟨fun hh=>hh.2,fun hh=>⟨q1,hh⟩⟩
 have RB:=RB.on H
 have RG:=H.rep
 have l2:=l1.trans H.base
 clear H
 generalize Fm.basics x=B at *
 generalize Fm.push x false=G at *
 have hn5:=hB.n5
 have hc32:=p2le hn5
 have hc1:0<2^B.length:=Nat.two_pow_pos _
 have hcnt:shlI .i64 1 (B.length:Int)=((2^B.length:Nat):Int):=by rw[i64_shl1 (by omega),Nat.shiftLeft_eq,Nat.one_mul]
 have hcw:IntKind.u64.wrap (B.length:Int)=B.length:=u64_pos (by omega) (by omega)
 have hcw0:¬(B.length:Int)<0:=by omega
 obtain⟨c,hcd⟩:∃c:Nat,c=2^B.length:=⟨_,rfl⟩
 simp -implicitDefEqProofs (disch:=first|omega|(simp only[LnZ];omega))[wrap64,FG,setC,RB.len,hcw,hcw0,hcnt]
 refine (c_l7Untils hB RB).go ?_
 intro un h3 H
 have RB:=RB.on H
 have RG:=RG.on H
 have RU:=H.rep
 have l3:=l2.trans H.base
 clear H
 simp -implicitDefEqProofs (disch:=first|omega|(simp only[LnZ];omega))[wrap64,setC]
 refine (HS.init (h:=h3)).bls0 (List Int) fun o h4 H=>?_
 simp -implicitDefEqProofs (disch:=omega)[wrap64]
 rw[← hcd] at hc32 hc1 hTA hTr
 refine wp_count c (fun s e h'=>∃(li ls:Value),e=[none,none,some (.agg #[.slice none 0 0,.slice none 0 0,.slice none 0 0]),none,some w,none,some gu,some (.int .i64 c),some un,some (.agg #[li,.slice none 0 0,.slice none 0 0]),some ls,some (.int .i64 s),none,none,none,none,none,none,none,none]∧HS h3 [ow li (Fm.upto (Fm.ini0 B G s).length),ow ls (Fm.ini0 B G s)] h') ⟨.slice none 0 0,o,by simp[hcd],by simpa[Fm.ini0,Fm.upto] using H.nil_ow (α:=Int)⟩ ?_
 clear H
 rintro J s _ h5 hJ hs ⟨li,ls,rfl,H⟩
 simp -implicitDefEqProofs (disch:=omega)[wrap64]
 refine IteW.mk (fun hlt0=>?_) (fun hge0=>?_)
 ·have hsc:s<c:=by omega
  have hil:=Fm.ini0_len (B:=B) (g:=G) s
  have hi1:Fm.ini0 B G (s+1)=if Fm.val B s G then Fm.ini0 B G s++[[(s:Int),0]] else Fm.ini0 B G s:=rfl
  simp -implicitDefEqProofs (disch:=first|omega|(simp only[LnZ];omega))[wrap64,FG]
  refine (c_l7Value 6 (by omega) hgs (RB.on H) (RG.on H)).go ?_
  rintro _ _ ⟨rfl,rfl⟩
  generalize Fm.ini0 B G s=L at *
  cases hv:Fm.val B s G with
  | false=>
   rw[hv,if_neg (by decide)] at hi1
   simp -implicitDefEqProofs (disch:=first|omega|(simp only[LnZ];omega))[wrap64,hv]
   exact hJ _ _ hsc ⟨li,ls,by simp,by rw[hi1];exact H⟩
  | true=>
   rw[hv,if_pos rfl] at hi1
   simp -implicitDefEqProofs (disch:=first|omega|(simp only[LnZ];omega))[wrap64,hv,H.sw1.rep.len,setC]
   refine HS.app1 (bytes:=8) H (L.length:Int) rfl rfl rfl ⟨by omega,by omega⟩ rfl rfl (by simp[Fm.upto];omega) (by simp[Fm.upto];omega) fun li' h6 H=>?_
   simp -implicitDefEqProofs (disch:=first|omega|(simp only[LnZ];omega))[wrap64,setC,H.rep.cells,H.rep.one]
   refine H.bls [(s:Int),0] rfl rfl (by intro y hy;simp at hy;rcases hy with rfl | rfl<;>exact⟨by omega,by omega⟩) (by decide) fun p h7 H=>?_
   simp -implicitDefEqProofs (disch:=first|omega|(simp only[LnZ];omega))[wrap64,setC,H.rep.cells,H.rep.one]
   have hcl:=H.rep.cells
   refine HS.appO (bytes:=24) H.sw2.sw1 rfl rfl (by rw[hcl]) rfl rfl (by omega) (by omega) fun ls' h8 H=>?_
   simp -implicitDefEqProofs (disch:=omega)[wrap64]
   refine hJ _ _ hsc ⟨li',ls',by simp,?_⟩
   rw[hi1,List.length_append,List.length_singleton,Fm.upto_succ]
   exact H.sw1
 obtain rfl:s=c:=by omega
 obtain⟨L0,hL0⟩:∃L0,L0=Fm.ini0 B G s:=⟨_,rfl⟩
 obtain⟨U,hU⟩:∃U,U=Fm.unt B B.length:=⟨_,rfl⟩
 have hl0:=Fm.ini0_len (B:=B) (g:=G) s
 have hk0:Fm.LOk2 s U (Fm.ini0 B G s):=Fm.ini0_ok (Nat.le_refl _)
 have RU':=RU
 rw[← hL0] at H hTA hTr hl0 hk0
 rw[← hU] at hTA RU'
 have INV:=fun n=>Fm.tN_inv (U:=U) (hcd▸hk0) (hcd▸hl0) n
 simp -implicitDefEqProofs (disch:=omega)[wrap64]
 refine wp_count 65 (fun i e h'=>∃(ac ed ls:Value),e=[none,none,some (.agg #[.slice none 0 0,.slice none 0 0,.slice none 0 0]),none,some w,none,none,some (.int .i64 s),some un,some (.agg #[li,ac,ed]),some ls,none,some (.int .i64 i),none,none,none,none,none,none,none] ∧
  HS h3 [ow ls (Fm.tN B U L0 i).1,ow ac (Fm.tN B U L0 i).2.1,ow ed (Fm.tN B U L0 i).2.2,ow li (Fm.upto L0.length)] h'∧i≤64∧∀m,m<i→m<(Fm.tN B U L0 m).1.length∧(Fm.tN B U L0 m).1.length≤64) ⟨.slice none 0 0,.slice none 0 0,ls,by simp,by simpa[Fm.tN] using (H.nil_ow (α:=Tr)).nil_ow.sw3,by omega,fun m hm=>absurd hm (Nat.not_lt_zero m)⟩ ?_
 clear H
 rintro J1 i _ h6 hJ1 hi1 ⟨ac,ed,ls,rfl,H,hi64,hall⟩
 have inv:=INV i
 have hal:=Fm.tN_al i hall
 by_cases q2:i<(Fm.tN B U L0 i).1.length
 case neg=>
  have hT:Fm.trT x=Fm.tN B U L0 i:=by rw[hTA];exact Fm.tN_stop (fun hh=>q2 hh.1) 64 hi64
  have hok:Fm.trOk x:=hTO.2 (by rw[hT];omega)
  have hge:=inv.al.2
  rw[hT] at hTr
  have hTR:Fm.trR x=Fm.trA x:=by rw[Fm.trR,if_pos hok]
  by_cases q3:(Fm.tN B U L0 i).1=[]
  ·rw[if_pos q3] at hTr
   simp -implicitDefEqProofs (disch:=first|omega|(simp only[LnZ];omega))[wrap64,H.rep.len,q2,q3,show ¬((i:Int)<0) by omega]
   refine H.bls [false] rfl rfl (by intro _ _;trivial) (by decide) fun fc h7 H=>?_
   simp -implicitDefEqProofs (disch:=first|omega|(simp only[LnZ];omega))[wrap64,setC,H.rep.cells,H.rep.one,H.sw3.rep.one,H.sw4.rep.one,H.sw3.rep.cells,H.sw4.rep.cells]
   refine RetK.keep (hk _ _ ⟨_,by rw[decide_eq_true hok],?_⟩)
   rw[hTR,hTr]
   have H2:HS h3 [ow li (Fm.upto L0.length),ow fc [false],ow ed (Fm.tN B U L0 i).2.2] h7:=((H.sw4.under fun _ H=>H.under fun _ H=>H.drop.drop))
   exact HS.app (Γ:=[]) (HS.mkAut (a:=⟨_,_,_⟩) H2) l3
  ·rw[if_neg q3] at hTr
   have q3':¬((Fm.tN B U L0 i).1.length:Int)=0:=fun e=>q3 (List.length_eq_zero_iff.1 (by omega))
   simp -implicitDefEqProofs (disch:=first|omega|(simp only[LnZ];omega))[wrap64,H.rep.len,q2,q3,q3',setC,H.sw1.rep.one,H.sw2.rep.one,H.sw3.rep.one]
   refine RetK.keep (hk _ _ ⟨_,by rw[decide_eq_true hok],?_⟩)
   rw[hTR,hTr]
   have H2:HS h3 [ow li (Fm.upto L0.length),ow ac (Fm.tN B U L0 i).2.1,ow ed (Fm.tN B U L0 i).2.2] h6:=((H.drop.sw2))
   exact HS.app (Γ:=[]) (HS.mkAut (a:=⟨_,_,_⟩) H2) l3
 by_cases q3:64<(Fm.tN B U L0 i).1.length
 ·have hok:¬Fm.trOk x:=fun hh=>by
   have:=hTO.1 hh
   have h2:=Fm.tN_big q3 64 hi64
   rw[hTA] at this
   omega
  have q3i:(64:Int)<(Fm.tN B U L0 i).1.length:=by omega
  simp -implicitDefEqProofs (disch:=first|omega|(simp only[LnZ];omega))[wrap64,H.rep.len,q2,q3i,setC]
  exact RetK.keep (hk _ _ ⟨_,by rw[decide_eq_false hok],hno (l3.trans H.base) hok⟩)
 have q3i:¬(64:Int)<(Fm.tN B U L0 i).1.length:=by omega
 obtain⟨s',p,he,hs',hp⟩:=inv.ok _ (List.getElem_mem q2)
 rw[← hcd] at hs'
 have hsucc:=Fm.tN_succ q2 (by omega) he
 have hinv1:=inv.al
 have hinv2:=inv.el
 have hinv3:=inv.ok
 have hinv4:=inv.ll
 rw[← hcd] at hsucc hinv2 hinv3 hinv4
 have hpo:=Fm.phs_ok (B:=B) (s:=s') hp
 have hpR:=fun n hn=>Fm.trow_inv (B:=B) (U:=U) (c:=s) (i:=i) (s:=s') (q:=((Fm.tN B U L0 i).1,(Fm.tN B U L0 i).2.2)) hinv3 hpo n hn
 have hl65:(Fm.tN B U L0 i).1.length≤64:=by omega
 generalize hT:Fm.tN B U L0 i=T at *
 obtain⟨row,hrow,Rrow⟩:=H.rep.ldL q2
 rw[he] at Rrow
 have hRI:=Rrow.I
 simp only[List.length_cons,List.length_nil] at hRI
 have hr0:=hRI.2 0 (by omega)
 have hr1:=hRI.2 1 (by omega)
 simp only[List.getElem_cons_zero,List.getElem_cons_succ] at hr0 hr1
 have hX:=H.rep.X (n:=1) rfl
 simp -implicitDefEqProofs (disch:=first|omega|(simp only[LnZ];omega))[wrap64,H.rep.len,q2,q3i,hX,hrow,hRI.1,hr0,hr1]
 refine (c_l7Phase hB (by omega) (RB.on H) (RU.on H) (hU▸hp)).go ?_
 rintro _ h6 ⟨rfl,rfl⟩
 rw[← hU]
 obtain⟨p',a',hph⟩:∃p' a',Fm.phs B U s' p=(p',a'):=⟨_,_,rfl⟩
 rw[hph] at hsucc hpo hpR ⊢
 simp only at hsucc hpo hpR
 have hp64:I64 p':=by
  have h1:=hpo.1
  have h2:=hpo.2
  have h3:U.length≤B.length:=hU▸Fm.unt_len B.length
  exact⟨by omega,by omega⟩
 simp -implicitDefEqProofs (disch:=first|omega|(simp only[LnZ];omega))[wrap64,setC]
 refine HS.app1 (bytes:=1) H.sw1 a' rfl rfl rfl trivial rfl rfl (by omega) (by omega) fun ac' h7 H=>?_
 simp -implicitDefEqProofs (disch:=first|omega|(simp only[LnZ];omega))[wrap64,setC,H.rep.cells,H.rep.one]
 refine (c_l7Letter hB (by omega) (RB.on H)).go ?_
 rintro _ h7 ⟨rfl,rfl⟩
 have hall6:∀y∈B,Fm.Shp 6 y:=fun y hy=>(hB.ok y hy).1
 have hcl8:=Fm.ltc_lt hall6 B.length (Nat.le_refl _)
 have hvl8:=Fm.ltv_lt (s:=s') hall6 B.length (Nat.le_refl _)
 simp -implicitDefEqProofs (disch:=omega)[wrap64]
 refine wp_count s (fun t e h'=>∃(ed ls:Value),e=[none,none,some (.agg #[.slice none 0 0,.slice none 0 0,.slice none 0 0]),none,some w,none,none,some (.int .i64 s),some un,some (.agg #[li,ac',ed]),some ls,none,some (.int .i64 i),some (.int .i64 s'),some (.int .i64 p'),none,some (.int .i64 ((Fm.ltc B B.length:Nat):Int)),some (.int .i64 ((Fm.ltv B s' B.length:Nat):Int)),some (.int .i64 t),none] ∧
  HS h3 [ow ls (Fm.trow B i s' p' t (T.1,T.2.2)).1,ow ed (Fm.trow B i s' p' t (T.1,T.2.2)).2,ow ac' (T.2.1++[a']),ow li (Fm.upto L0.length)] h') ⟨ed,ls,by simp,by simpa[Fm.trow] using H.sw1.sw2.sw1⟩ ?_
 clear H
 rintro J2 t _ h8 hJ2 ht ⟨ed,ls,rfl,H⟩
 simp -implicitDefEqProofs (disch:=omega)[wrap64]
 refine IteW.mk (fun hlt2=>?_) (fun hge2=>?_)
 ·have hts:t<s:=by omega
  have hrow1:Fm.trow B i s' p' (t+1) (T.1,T.2.2)=if Fm.Fol B s' t then (Fm.adL (Fm.trow B i s' p' t (T.1,T.2.2)).1 [(t:Int),p'],(Fm.trow B i s' p' t (T.1,T.2.2)).2++[⟨(i:Int),(Fm.ltc B B.length:Nat),(Fm.ltv B s' B.length:Nat),Fm.atL (Fm.trow B i s' p' t (T.1,T.2.2)).1 [(t:Int),p']⟩]) else Fm.trow B i s' p' t (T.1,T.2.2):=rfl
  have I:=hpR t (by omega)
  have i1:=I.le
  have i2:=I.el
  simp only at i1 i2
  have hmul:i*s≤64*32:=Nat.mul_le_mul hi64 hc32
  have hat:=Fm.atL_lt (L:=(Fm.trow B i s' p' t (T.1,T.2.2)).1) (p:=[(t:Int),p'])
  have had:=Fm.adL_len (L:=(Fm.trow B i s' p' t (T.1,T.2.2)).1) (p:=[(t:Int),p'])
  generalize Fm.trow B i s' p' t (T.1,T.2.2)=Q at *
  simp -implicitDefEqProofs (disch:=omega)[wrap64]
  refine (c_l7Follows (s:=s') (t:=t) hB (by omega) (by omega) (RB.on H)).go ?_
  rintro _ h8 ⟨rfl,rfl⟩
  by_cases hf:Fm.Fol B s' t
  case neg=>
   rw[if_neg hf] at hrow1
   simp -implicitDefEqProofs (disch:=first|omega|(simp only[LnZ];omega))[wrap64,hf]
   exact hJ2 _ _ hts ⟨ed,ls,by simp,by rw[hrow1];exact H⟩
  rw[if_pos hf] at hrow1
  simp -implicitDefEqProofs (disch:=first|omega|(simp only[LnZ];omega))[wrap64,hf]
  refine H.bls [(t:Int),p'] rfl rfl (by intro y hy;simp at hy;rcases hy with rfl | rfl;exact⟨by omega,by omega⟩;exact hp64) (by decide) fun q h9 H=>?_
  simp -implicitDefEqProofs (disch:=omega)[wrap64]
  refine (c_l7Pair H (by omega)).go ?_
  rintro _ h10 ⟨ls',rfl,H⟩
  simp -implicitDefEqProofs (disch:=first|omega|(simp only[LnZ];omega))[wrap64,setC]
  refine HS.app1 (bytes:=32) H.sw1 (⟨(i:Int),(Fm.ltc B B.length:Nat),(Fm.ltv B s' B.length:Nat),Fm.atL Q.1 [(t:Int),p']⟩:Tr) rfl rfl rfl ?_ rfl rfl (by omega) (by omega) fun ed' h11 H=>?_
  ·exact Tr.ok_iff.2 ⟨⟨by simp only;omega,by simp only;omega⟩,⟨by simp only;omega,by simp only;omega⟩,⟨by simp only;omega,by simp only;omega⟩,⟨by simp only;omega,by simp only;omega⟩⟩
  simp -implicitDefEqProofs (disch:=first|omega|(simp only[LnZ];omega))[wrap64,setC,H.rep.cells,H.rep.one]
  exact hJ2 _ _ hts ⟨ed',ls',by simp,by rw[hrow1];exact H.sw1⟩
 obtain rfl:t=s:=by omega
 simp -implicitDefEqProofs (disch:=omega)[wrap64]
 refine hJ1 _ _ (by omega) ⟨ac',ed,ls,by simp,?_,by omega,fun m hm=>?_⟩
 ·rw[hsucc]
  exact H.under fun _ H=>H.sw1
 ·by_cases e:m=i
  ·subst e;rw[hT];exact⟨q2,hl65⟩
  ·exact hall m (by omega)
theorem okL {xs:List Int}(h:∀x∈xs,-9223372036854775808≤x∧x<9223372036854775808):∀x∈xs,Flat.ok x:=h
theorem nods_append:∀{l l2:List Exq},Exq.nods (l++l2)=Exq.nods l+Exq.nods l2
 | [],_=>by simp[Exq.nods]
 | x::l,l2=>by simp[Exq.nods,nods_append (l:=l) (l2:=l2)];omega
theorem c_l5Random {b:Nat}{sl:Value}{l:List (BitVec 8)}:∀(d:Nat),d≤4→∀{g h:Heap}{Γ:List HP}{p:Int},Rep g sl l→HS g (rb b sl p::Γ) h→0≤p→p+4*(2^d:Nat)≤1000000000000 →
  CallE Tryz.prog fn_spec_l5Random [.pointer (some ⟨b,0,none⟩),.int .i64 d] h (fun u h'=>∃(y:Exq) (p':Int),HS g (ow u y::rb b sl p'::Γ) h'∧y.nod<2^(d+1)∧p≤p'∧p'≤p+(4*(2^d:Nat)-2)):=by
 intro d
 induction d with
 | zero=>
  intro _ g h Γ p R H hp hp2
  refine CallE.gen fun k hk=>EN_spec_l5Random rfl ?_
  simp -implicitDefEqProofs (disch:=omega)[wrap64]
  refine (c_pick R H (by omega) (by omega) ⟨by decide,by decide⟩).go ?_
  rintro _ hL1 ⟨r1,rfl,o1,z1,y1,H⟩
  by_cases c1:r1=0
  ·simp -implicitDefEqProofs (disch:=first|omega|(simp only[LnZ];omega))[wrap64,c1]
   refine c_l5True.go ?_
   rintro _ hL2 ⟨rfl,rfl⟩
   simp -implicitDefEqProofs (disch:=first|omega|(simp only[LnZ];omega))[wrap64,setC]
   exact RetK.keep (hk _ _ ⟨Exq.mk 1 0 [],_,H.leaf i64c i64c,by simp[Exq.nod,Exq.nods]<;>omega,by omega,by omega⟩)
  ·simp -implicitDefEqProofs (disch:=first|omega|(simp only[LnZ];omega))[wrap64,c1]
   refine H.bls [(0:Int),1,0,2] rfl rfl (okL (by decide)) (by decide) fun v hL2 H=>?_
   simp -implicitDefEqProofs (disch:=omega)[wrap64]
   refine (c_num R H (by omega) (by omega) (by simp)).go ?_
   rintro _ hL3 ⟨r2,rfl,o2,_,H⟩
   simp -implicitDefEqProofs (disch:=first|omega|(simp only[LnZ];omega))[wrap64,setC]
   exact RetK.keep (hk _ _ ⟨Exq.mk 2 r2 [],_,H.leaf i64c o2,by simp[Exq.nod,Exq.nods]<;>omega,by omega,by omega⟩)
 | succ d ih=>
  intro hd g h Γ p R H hp hp2
  have hq0:2^(d+1)=2*2^d:=by rw[Nat.pow_succ];omega
  have hq1:2^(d+1+1)=4*2^d:=by rw[Nat.pow_succ,Nat.pow_succ];omega
  have hqp:0<2^d:=Nat.two_pow_pos d
  refine CallE.gen fun k hk=>EN_spec_l5Random rfl ?_
  rw[hq0,hq1] at hk
  rw[hq0] at ih
  generalize hQ:2^d=q at *
  by_cases h2:d=0
  ·simp -implicitDefEqProofs (disch:=first|omega|(simp only[LnZ];omega))[wrap64,h2]
   refine (c_pick R H (by omega) (by omega) ⟨by decide,by decide⟩).go ?_
   rintro _ hL1 ⟨r1,rfl,o1,z1,y1,H⟩
   by_cases c1:r1=0
   ·simp -implicitDefEqProofs (disch:=first|omega|(simp only[LnZ];omega))[wrap64,c1]
    refine c_l5True.go ?_
    rintro _ hL2 ⟨rfl,rfl⟩
    simp -implicitDefEqProofs (disch:=first|omega|(simp only[LnZ];omega))[wrap64,setC]
    exact RetK.keep (hk _ _ ⟨Exq.mk 1 0 [],_,H.leaf i64c i64c,by simp[Exq.nod,Exq.nods]<;>omega,by omega,by omega⟩)
   ·simp -implicitDefEqProofs (disch:=first|omega|(simp only[LnZ];omega))[wrap64,c1]
    refine H.bls [(0:Int),1,0,2] rfl rfl (okL (by decide)) (by decide) fun v hL2 H=>?_
    simp -implicitDefEqProofs (disch:=omega)[wrap64]
    refine (c_num R H (by omega) (by omega) (by simp)).go ?_
    rintro _ hL3 ⟨r2,rfl,o2,_,H⟩
    simp -implicitDefEqProofs (disch:=first|omega|(simp only[LnZ];omega))[wrap64,setC]
    exact RetK.keep (hk _ _ ⟨Exq.mk 2 r2 [],_,H.leaf i64c o2,by simp[Exq.nod,Exq.nods]<;>omega,by omega,by omega⟩)
  ·have h3:¬((d:Int)+1<2):=by omega
   simp -implicitDefEqProofs (disch:=first|omega|(simp only[LnZ];omega))[wrap64,h3]
   refine (c_pick R H (by omega) (by omega) ⟨by decide,by decide⟩).go ?_
   rintro _ h1 ⟨r0,rfl,o0,z0,y0,H⟩
   by_cases c0:r0=0
   ·simp -implicitDefEqProofs (disch:=first|omega|(simp only[LnZ];omega))[wrap64,c0]
    refine (c_pick R H (by omega) (by omega) ⟨by decide,by decide⟩).go ?_
    rintro _ hL1 ⟨r1,rfl,o1,z1,y1,H⟩
    by_cases c1:r1=0
    ·simp -implicitDefEqProofs (disch:=first|omega|(simp only[LnZ];omega))[wrap64,c1]
     refine c_l5True.go ?_
     rintro _ hL2 ⟨rfl,rfl⟩
     simp -implicitDefEqProofs (disch:=first|omega|(simp only[LnZ];omega))[wrap64,setC]
     exact RetK.keep (hk _ _ ⟨Exq.mk 1 0 [],_,H.leaf i64c i64c,by simp[Exq.nod,Exq.nods]<;>omega,by omega,by omega⟩)
    ·simp -implicitDefEqProofs (disch:=first|omega|(simp only[LnZ];omega))[wrap64,c1]
     refine H.bls [(0:Int),1,0,2] rfl rfl (okL (by decide)) (by decide) fun v hL2 H=>?_
     simp -implicitDefEqProofs (disch:=omega)[wrap64]
     refine (c_num R H (by omega) (by omega) (by simp)).go ?_
     rintro _ hL3 ⟨r2,rfl,o2,_,H⟩
     simp -implicitDefEqProofs (disch:=first|omega|(simp only[LnZ];omega))[wrap64,setC]
     exact RetK.keep (hk _ _ ⟨Exq.mk 2 r2 [],_,H.leaf i64c o2,by simp[Exq.nod,Exq.nods]<;>omega,by omega,by omega⟩)
   ·simp -implicitDefEqProofs (disch:=first|omega|(simp only[LnZ];omega))[wrap64,c0]
    refine H.bls [(7:Int),9,10,3,4,5,6,8] rfl rfl (okL (by decide)) (by decide) fun v h2 H=>?_
    simp -implicitDefEqProofs (disch:=omega)[wrap64]
    refine (c_num R H (by omega) (by omega) (by simp)).go ?_
    rintro _ h4 ⟨kd,rfl,okd,_,H⟩
    have ha:=Fm.arity_le (k:=kd)
    have ha2:=Fm.arity_ge (k:=kd)
    simp -implicitDefEqProofs (disch:=first|omega|(simp only[LnZ];omega))[wrap64,setC]
    refine c_l5Arity.go ?_
    rintro _ h4 ⟨rfl,rfl⟩
    obtain⟨ar,har⟩:∃ar,ar=Fm.arity kd:=⟨_,rfl⟩
    rw[← har] at ha ha2
    simp -implicitDefEqProofs (disch:=first|omega|(simp only[LnZ];omega))[wrap64,← har]
    refine wp_while (σ:=Nat) (fun j e h'=>∃(ks:List Exq) (w:Value) (p':Int),e=[some (.pointer (some ⟨b,0,none⟩)),some (.int .i64 ((d:Int)+1)),some (.agg #[.int .i64 0,.int .i64 0,.slice none 0 0]),some (.agg #[.int .i64 kd,.int .i64 0,w]),some (.int .i64 (ar-j))]∧HS g (ow w ks::rb b sl p'::Γ) h'∧ks.length=j∧Exq.nods ks≤j*(2*q-1)∧j≤2∧p≤p'∧p'≤p+2+j*(4*q-2)) (fun j=>3-j) 0 ⟨[],.slice none 0 0,_,by simp,H.nil_ow,rfl,by simp[Exq.nods],by omega,by omega,by omega⟩ ?_
    clear H
    rintro J j _ h5 hJ ⟨ks,w,p',rfl,H,hkl,hkn,hj,hp3,hp4⟩
    by_cases c2:(j:Int)<ar
    ·have hj2:j=0∨j=1:=by omega
     simp -implicitDefEqProofs (disch:=first|omega|(simp only[LnZ];omega))[wrap64,c2]
     refine (ih (by omega) R H.sw1 (by omega) (by rcases hj2 with rfl | rfl<;>omega)).go ?_
     rintro _ h6 ⟨y,p2,H,hy,hp5,hp6⟩
     obtain⟨wy,rfl,k1,k2,H'⟩:=H.unExq
     have hO':=H'.rep.one
     have hC':=H'.rep.cells
     simp -implicitDefEqProofs (disch:=first|omega|(simp only[LnZ];omega))[wrap64,setC,hO',hC']
     refine HS.appO (bytes:=40) H.sw2.sw1 rfl rfl rfl rfl rfl (by omega) (by omega) fun w' h7 H=>?_
     have hO:=H.rep.one
     have hC:=H.rep.cells
     simp -implicitDefEqProofs (disch:=first|omega|(simp only[LnZ];omega))[wrap64,setC,hO,hC]
     refine hJ (j+1) _ _ (by omega) ⟨ks++[y],w',p2,by simp;omega,H,by simp[hkl],?_,by omega,by omega,?_⟩
     ·rw[nods_append,show Exq.nods [y]=y.nod by simp[Exq.nods]]
      rcases hj2 with rfl | rfl<;>omega
     ·rcases hj2 with rfl | rfl<;>omega
    ·have hO:=H.rep.one
     have hC:=H.rep.cells
     simp -implicitDefEqProofs (disch:=first|omega|(simp only[LnZ];omega))[wrap64,c2,setC,hO,hC]
     refine RetK.keep (hk _ _ ⟨Exq.mk kd 0 ks,p',HS.mkExq' H okd ⟨by decide,by decide⟩,?_,by omega,?_⟩)
     ·rw[Exq.nod_eq,Exq.kids_mk]
      obtain rfl | rfl | rfl:j=0∨j=1∨j=2:=by omega
      all_goals omega
     ·obtain rfl | rfl | rfl:j=0∨j=1∨j=2:=by omega
      all_goals omega
theorem c_l5Formula2 {b:Nat}{sl:Value}{l:List (BitVec 8)}{g h:Heap}{Γ:List HP}{p:Int}(R:Rep g sl l) (H:HS g (rb b sl p::Γ) h) (hp:0≤p) (hp2:p≤900000000000) :
  CallE Tryz.prog fn_spec_l5Formula [.pointer (some ⟨b,0,none⟩)] h (fun u h'=>∃(y:Exq) (p':Int),HS g (ow u y::rb b sl p'::Γ) h'∧p≤p'∧p'≤p+100∧y.nod≤100):=by
 refine CallE.gen fun k hk=>EN_spec_l5Formula rfl ?_
 simp -implicitDefEqProofs (disch:=omega)[wrap64]
 refine H.bls [(3:Int),2,4,3] rfl rfl (okL (by decide)) (by decide) fun v h1 H=>?_
 simp -implicitDefEqProofs (disch:=omega)[wrap64]
 refine (c_num R H (by omega) (by omega) (by simp)).go ?_
 rintro _ h2 ⟨r,rfl,orr,hr,H⟩
 obtain⟨d,rfl,hd⟩:∃d:Nat,r=d∧d≤4:=by
  simp at hr
  exact⟨r.toNat,by omega,by omega⟩
 have hq:2^d≤2^4:=Nat.pow_le_pow_right (by decide) hd
 simp -implicitDefEqProofs (disch:=omega)[wrap64]
 refine (c_l5Random d hd R H (by omega) (by omega)).go ?_
 rintro _ h3 ⟨y,p1,H,hy,hp3,hp4⟩
 have FY:=H.rep.aExq
 simp -implicitDefEqProofs (disch:=first|omega|(simp only[LnZ];omega))[wrap64,FY]
 refine (c_spec_FormulaValid H.rep).go ?_
 rintro _ h3 ⟨rfl,rfl⟩
 by_cases q:Fm.Ok y
 ·simp -implicitDefEqProofs (disch:=first|omega|(simp only[LnZ];omega))[wrap64,q,FY,setC]
  exact RetK.keep (hk _ _ ⟨y,p1,H,by omega,by omega,by rw[Nat.pow_succ] at hy;omega⟩)
 ·simp -implicitDefEqProofs (disch:=first|omega|(simp only[LnZ];omega))[wrap64,q,setC]
  refine HS.blsO1 ((H.drop).leaf (k:=2) (v:=0) i64c i64c) rfl fun w h4 H=>?_
  simp -implicitDefEqProofs (disch:=first|omega|(simp only[LnZ];omega))[wrap64,setC,H.rep.cells,H.rep.one]
  exact RetK.keep (hk _ _ ⟨_,p1,HS.mkExq' (kd:=10) (vl:=0) H i64c i64c,by omega,by omega,by decide⟩)
namespace Fm
end Fm
theorem HS.only1 {g h:Heap}{Γ:List HP}{p:HP}(H:HS g (p::Γ) h):HS g [p] h:=by
 obtain⟨g',r,e,d,hp,H⟩:=H
 exact⟨g',r,e,d,hp,H.base⟩
theorem c_l6Word {b:Nat}{sl:Value}{l:List (BitVec 8)}{g h:Heap}{Γ:List HP}{p:Int}{n:Nat}(R:Rep g sl l) (H:HS g (rb b sl p::Γ) h) (hp:0≤p) (hp2:p≤900000000000) (hn:n≤1000) :
  CallE Tryz.prog fn_spec_l6Word [.pointer (some ⟨b,0,none⟩),.int .i64 n] h (fun u h'=>∃(W:List Int) (p':Int),HS g (ow u W::rb b sl p'::Γ) h'∧W.length=n∧p≤p'∧p'≤p+2*n):=by
 refine CallE.gen fun k hk=>EN_spec_l6Word rfl ?_
 simp -implicitDefEqProofs (disch:=omega)[wrap64]
 refine H.bls0 Int fun o h1 H=>?_
 simp -implicitDefEqProofs (disch:=omega)[wrap64]
 refine wp_count n (fun i e h'=>∃(o:Value) (W:List Int) (p':Int),e=[some (.pointer (some ⟨b,0,none⟩)),some (.int .i64 n),none,some o,some (.int .i64 i)]∧HS g (ow o W::rb b sl p'::Γ) h'∧W.length=i∧p≤p'∧p'≤p+2*i) ⟨o,[],p,by simp,H,rfl,by omega,by omega⟩ ?_
 clear H
 rintro J i _ h2 hJ hi ⟨o,W,p',rfl,H,hW,h3,h4⟩
 simp -implicitDefEqProofs (disch:=omega)[wrap64]
 refine IteW.mk (fun hlt=>?_) (fun hge=>?_)
 ·have hin:i<n:=by omega
  simp -implicitDefEqProofs (disch:=omega)[wrap64]
  refine H.bls [(0:Int),1,2,3,1,0,5,4,7] rfl rfl (okL (by decide)) (by decide) fun v h5 H=>?_
  simp -implicitDefEqProofs (disch:=omega)[wrap64]
  refine (c_num R (H.under fun _ H=>H.sw1) (by omega) (by omega) (by simp)).go ?_
  rintro _ h6 ⟨r,rfl,o1,_,H⟩
  simp -implicitDefEqProofs (disch:=first|omega|(simp only[LnZ];omega))[wrap64,setC]
  refine HS.app1 (bytes:=8) H.sw1 r rfl rfl rfl o1 rfl rfl (by omega) (by omega) fun o' h7 H=>?_
  simp -implicitDefEqProofs (disch:=omega)[wrap64]
  exact hJ _ _ hin ⟨o',_,_,by simp,H,by simp[hW],by omega,by push_cast;omega⟩
 obtain rfl:i=n:=by omega
 simp -implicitDefEqProofs (disch:=omega)[wrap64]
 exact RetK.keep (hk _ _ ⟨W,p',H,hW,h3,h4⟩)
theorem c_l12Letters {b:Nat}{sl:Value}{l:List (BitVec 8)}{g h:Heap}{Γ:List HP}{p:Int}(R:Rep g sl l) (H:HS g (rb b sl p::Γ) h) (hp:0≤p) (hp2:p≤800000000000) :
  CallE Tryz.prog fn_spec_l12Letters [.pointer (some ⟨b,0,none⟩)] h (fun u h'=>∃(W:List Int) (p':Int),HS g (ow u W::rb b sl p'::Γ) h'∧W.length≤300):=by
 refine CallE.gen fun k hk=>EN_spec_l12Letters rfl ?_
 simp -implicitDefEqProofs (disch:=omega)[wrap64]
 refine H.bls [(3:Int),2,4,1,0,6] rfl rfl (okL (by decide)) (by decide) fun v h1 H=>?_
 simp -implicitDefEqProofs (disch:=omega)[wrap64]
 refine (c_num R H (by omega) (by omega) (by simp)).go ?_
 rintro _ h2 ⟨r,rfl,orr,hr,H⟩
 obtain⟨n,rfl,hn5⟩:∃n:Nat,r=n∧n≤6:=by
  simp at hr
  exact⟨r.toNat,by omega,by omega⟩
 simp -implicitDefEqProofs (disch:=omega)[wrap64]
 refine (c_l6Word R H (by omega) (by omega) (by omega)).go ?_
 rintro s1 h3 ⟨S,p1,H,hS,h4,h5⟩
 simp -implicitDefEqProofs (disch:=omega)[wrap64]
 refine (c_pick (n:=40) R H.sw1 (by omega) (by omega) i64c).go ?_
 rintro _ h11 ⟨r,rfl,o3,z3,y3,H⟩
 by_cases q0:r=0
 ·simp -implicitDefEqProofs (disch:=first|omega|(simp only[LnZ];omega))[wrap64,q0]
  refine H.bls [(8:Int),-1,9223372036854775807] rfl rfl (okL (by decide)) (by decide) fun w k5 H=>?_
  simp -implicitDefEqProofs (disch:=omega)[wrap64]
  refine (c_num R H (by omega) (by omega) (by simp)).go ?_
  rintro _ k6 ⟨r2,rfl,o,_,H⟩
  simp -implicitDefEqProofs (disch:=first|omega|(simp only[LnZ];omega))[wrap64,setC]
  refine HS.app1 (bytes:=8) H.sw1 r2 rfl rfl rfl o rfl rfl (by omega) (by omega) fun w1 k7 H=>?_
  simp -implicitDefEqProofs (disch:=omega)[wrap64]
  exact RetK.keep (hk _ _ ⟨_,_,H,by simp;omega⟩)
 by_cases q1:r=1
 ·simp -implicitDefEqProofs (disch:=first|omega|(simp only[LnZ];omega))[wrap64,q0,q1]
  refine wp_while (σ:=Nat) (fun j e h'=>∃(w:Value) (T:List Int) (q:Int),e=[some (.pointer (some ⟨b,0,none⟩)),none,some w,none]∧HS g (ow w T::rb b sl q::Γ) h'∧T.length=S.length+j∧T.length≤202∧p≤q∧q≤p+200+j) (fun j=>300-j) 0 ⟨s1,S,_,by simp,H.sw1,by omega,by omega,by omega,by omega⟩ ?_
  clear H
  rintro J j _ k5 hJ ⟨w,T,q,rfl,H,hT,hT2,hq1,hq2⟩
  simp -implicitDefEqProofs (disch:=first|omega|(simp only[LnZ];omega))[wrap64,H.rep.len]
  refine (c_pick (n:=2) R H.sw1 (by omega) (by omega) i64c).go ?_
  rintro _ k6 ⟨r2,rfl,o,z2,y2,H⟩
  by_cases c:(T.length:Int)<200+r2
  ·simp -implicitDefEqProofs (disch:=first|omega|(simp only[LnZ];omega))[wrap64,c,setC]
   refine HS.app1 (bytes:=8) H.sw1 (1:Int) rfl rfl rfl ⟨by omega,by omega⟩ rfl rfl (by omega) (by omega) fun w1 k7 H=>?_
   simp -implicitDefEqProofs (disch:=omega)[wrap64]
   exact hJ (j+1) _ _ (by omega) ⟨w1,_,_,by simp,H,by simp;omega,by simp;omega,by omega,by push_cast;omega⟩
  ·simp -implicitDefEqProofs (disch:=first|omega|(simp only[LnZ];omega))[wrap64,c]
   exact RetK.keep (hk _ _ ⟨_,_,H.sw1,by omega⟩)
 simp -implicitDefEqProofs (disch:=first|omega|(simp only[LnZ];omega))[wrap64,q0,q1]
 exact RetK.keep (hk _ _ ⟨_,_,H.sw1,by omega⟩)
theorem c_l5Mutate {b:Nat}{sl v:Value}{l:List (BitVec 8)}{g h:Heap}{Γ:List HP}{p:Int}{x:Exq}(R:Rep g sl l) (Rx:Rep g v x) (hx:x.nod≤1000) (H:HS g (rb b sl p::Γ) h) (hp:0≤p) (hp2:p≤900000000000) :
  CallE Tryz.prog fn_spec_l5Mutate [.pointer (some ⟨b,0,none⟩),v] h (fun u h'=>∃(y:Exq) (p':Int),HS g (ow u y::rb b sl p'::Γ) h'∧p≤p'∧p'≤p+2):=by
 have FX:=Rx.aExq
 refine CallE.gen fun k hk=>EN_spec_l5Mutate rfl ?_
 simp -implicitDefEqProofs (disch:=first|omega|(simp only[LnZ];omega))[wrap64,FX]
 refine (c_l5Copy x (by omega) (Rx.on H)).go ?_
 intro u h1 G
 have H:=G.app H
 have FU:=H.rep.aExq
 obtain⟨wu,rfl,k1,k2,H⟩:=H.unExq
 have hO:=H.rep.one
 have hC:=H.rep.cells
 have hkl:x.kids.length≤1000:=by
  have h1:=x.nod_eq
  have key:∀l:List Exq,l.length≤Exq.nods l:=by
   intro l
   induction l with
   | nil=>simp
   | cons y l ih=>simp only[Exq.nods,List.length_cons];have:=y.nod_eq;omega
  have:=key x.kids
  omega
 simp -implicitDefEqProofs (disch:=first|omega|(simp only[LnZ];omega))[wrap64,setC,FU,hO,hC]
 refine (c_pick (n:=50) R H.sw1 (by omega) (by omega) i64c).go ?_
 rintro _ h2 ⟨r,rfl,o3,z3,y3,H⟩
 by_cases q0:r=0
 ·simp -implicitDefEqProofs (disch:=first|omega|(simp only[LnZ];omega))[wrap64,q0]
  refine H.bls [(0:Int),11,-1,2,3,4] rfl rfl (okL (by decide)) (by decide) fun w h3 H=>?_
  simp -implicitDefEqProofs (disch:=omega)[wrap64]
  refine (c_num R H (by omega) (by omega) (by simp)).go ?_
  rintro _ h4 ⟨r2,rfl,o2,_,H⟩
  simp -implicitDefEqProofs (disch:=first|omega|(simp only[LnZ];omega))[wrap64,setC,hO,hC]
  exact RetK.keep (hk _ _ ⟨Exq.mk r2 x.val x.kids,_,HS.mkExq' (kd:=r2) (vl:=x.val) H.sw1 o2 k2,by omega,by omega⟩)
 by_cases q1:r=1
 ·simp -implicitDefEqProofs (disch:=first|omega|(simp only[LnZ];omega))[wrap64,q0,q1]
  refine H.bls [(-1:Int),3,2,9223372036854775807] rfl rfl (okL (by decide)) (by decide) fun w h3 H=>?_
  simp -implicitDefEqProofs (disch:=omega)[wrap64]
  refine (c_num R H (by omega) (by omega) (by simp)).go ?_
  rintro _ h4 ⟨r2,rfl,o2,_,H⟩
  simp -implicitDefEqProofs (disch:=first|omega|(simp only[LnZ];omega))[wrap64,setC,hO,hC]
  exact RetK.keep (hk _ _ ⟨Exq.mk x.kind r2 x.kids,_,HS.mkExq' (kd:=x.kind) (vl:=r2) H.sw1 k1 o2,by omega,by omega⟩)
 by_cases q2:r=2
 ·simp -implicitDefEqProofs (disch:=first|omega|(simp only[LnZ];omega))[wrap64,q0,q1,q2,setC,hO,hC]
  refine c_l5True.go ?_
  rintro _ h3 ⟨rfl,rfl⟩
  have H0:HS g (ow _ Fm.tru::_) h3:=H.leaf (k:=1) (v:=0) i64c i64c
  simp -implicitDefEqProofs (disch:=first|omega|(simp only[LnZ];omega))[wrap64,setC,hO,hC]
  refine HS.appO (bytes:=40) (H0.sw2.sw1) rfl rfl rfl rfl rfl (by omega) (by omega) fun w' h4 H=>?_
  simp -implicitDefEqProofs (disch:=first|omega|(simp only[LnZ];omega))[wrap64,setC,H.rep.one,H.rep.cells]
  exact RetK.keep (hk _ _ ⟨Exq.mk x.kind x.val (x.kids++[Fm.tru]),_,HS.mkExq' (kd:=x.kind) (vl:=x.val) H k1 k2,by omega,by omega⟩)
 by_cases q3:r=3
 ·simp -implicitDefEqProofs (disch:=first|omega|(simp only[LnZ];omega))[wrap64,q0,q1,q2,q3,setC]
  exact RetK.keep (hk _ _ ⟨Exq.mk 0 0 [],_,H.sw1.drop.leaf (k:=0) (v:=0) i64c i64c,by omega,by omega⟩)
 simp -implicitDefEqProofs (disch:=first|omega|(simp only[LnZ];omega))[wrap64,q0,q1,q2,q3,setC,hO,hC]
 exact RetK.keep (hk _ _ ⟨Exq.mk x.kind x.val x.kids,_,HS.mkExq' (kd:=x.kind) (vl:=x.val) H.sw1 k1 k2,by omega,by omega⟩)
def H_impl_LassoValid:Hint:=⟨[(0,false),(1,true),(2,false)],[]⟩
abbrev K32_1:Pl:=.x 22 (.pick (.v 17) (.v 21) (.c (.bool false))) <|
 .m 2 22 .done
abbrev K32_2:Pl:=.x 10 (.pick (.v 6) (.v 9) (.c (.bool false))) <|
 .m 11 10 <|
 .y 11 (.als 12 none 1) <|
 .y 11 (.pget (some 13) (some 12) 1 0 none) <|
 .y 11 (.px (some 14) (.lenV (.v 13))) <|
 .y 11 (.px (some 15) (.bin .leq (.v 14) (.c (.int .i64 80)))) <|
 .x 16 (.pick (.v 11) (.v 15) (.c (.bool false))) <|
 .m 17 16 <|
 .y 17 (.als 18 none 1) <|
 .y 17 (.pget (some 19) (some 18) 1 1 none) <|
 .y 17 (.px (some 20) (.lenV (.v 19))) <|
 .st (.act (some (.v 17,true)) (.ex (some 21) (.call fn_impl_in [.v 20,.c (.int .i64 1),.c (.int .i64 80)]))) K32_1
abbrev K32_3:Pl:=.m 6 5 <|
 .y 6 (.als 7 none 1) <|
 .y 6 (.pget (some 8) (some 7) 1 1 none) <|
 .st (.act (some (.v 6,true)) (.ex (some 9) (.call fn_impl_letters [.v 8]))) K32_2
abbrev K32_4:C:=.seq (.pl <| .e 3 20 <|
 .a 3 1 <|
 .g 4 3 1 0 <|
 .c 5 (.call fn_impl_letters [.v 4]) K32_3) (.ret)
abbrev B_impl_LassoValid:C:=.seq (.pl <| .e 3 0 <|
 .o (.pnew 1 (.v 0) []) <|
 .x 2 (.mv (.c (.bool false))) .done) K32_4
def R_impl_LassoValid:FIR:=⟨B_impl_LassoValid,3,[(2,none)]⟩
theorem IR_impl_LassoValid:cfun Tryz.prog H_impl_LassoValid Tryz.f32=some R_impl_LassoValid:=by kernel_rfl
theorem EN_impl_LassoValid:ENT Tryz.prog B_impl_LassoValid [(2,none)] 1 3 fn_impl_LassoValid:=fun hargs hw=>enter Tryz.func32 rfl IR_impl_LassoValid hargs hw
def H_impl_Lasso_all:Hint:=⟨[(0,false),(1,true),(2,false)],[]⟩
abbrev K67_1:Pl:=.m 2 8 .done
abbrev K67_2:Pl:=.c 8 (.call fn_slices_Concat_S_int_int [.v 7]) K67_1
abbrev K67_3:C:=.seq (.pl <| .e 3 6 <|
 .a 3 1 <|
 .g 4 3 1 0 <|
 .a 5 1 <|
 .g 6 5 1 1 <|
 .c 7 (.bls 1 2 [.slice none 0 0] [(0,1,.v 4),(1,1,.v 6)]) K67_2) (.ret)
abbrev B_impl_Lasso_all:C:=.seq (.pl <| .e 3 0 <|
 .o (.pnew 1 (.v 0) []) <|
 .x 2 (.mv (.c (.slice none 0 0))) .done) K67_3
def R_impl_Lasso_all:FIR:=⟨B_impl_Lasso_all,3,[(2,none)]⟩
theorem IR_impl_Lasso_all:cfun Tryz.prog H_impl_Lasso_all Tryz.f67=some R_impl_Lasso_all:=by kernel_rfl
theorem EN_impl_Lasso_all:ENT Tryz.prog B_impl_Lasso_all [(2,none)] 1 3 fn_impl_Lasso_all:=fun hargs hw=>enter Tryz.func67 rfl IR_impl_Lasso_all hargs hw
def H_impl_Lasso_next:Hint:=⟨[(0,false),(1,false),(2,true),(4,false)],[]⟩
abbrev K69_1:C:=.seq (.pl <| .e 4 2 <|
 .m 4 1 <|
 .x 5 (.bin .add (.v 4) (.c (.int .i64 1))) <|
 .m 3 5 .done) (.ret)
abbrev K69_2:C:=.seq (.pl <| .e 4 3 <|
 .a 4 2 <|
 .g 5 4 2 0 <|
 .x 6 (.lenV (.v 5)) <|
 .m 3 6 .done) (.ret)
abbrev K69_3:C:=.cond 4 (.v 13) K69_2 (.skip)
abbrev K69_4:C:=.seq (.seq (.pl <| .e 4 10 <|
 .m 4 1 <|
 .x 5 (.bin .add (.v 4) (.c (.int .i64 1))) <|
 .a 6 2 <|
 .g 7 6 2 0 <|
 .x 8 (.lenV (.v 7)) <|
 .a 9 2 <|
 .g 10 9 2 1 <|
 .x 11 (.lenV (.v 10)) <|
 .x 12 (.bin .add (.v 8) (.v 11)) <|
 .x 13 (.bin .eql (.v 5) (.v 12)) .done) K69_3) K69_1
abbrev B_impl_Lasso_next:C:=.seq (.pl <| .e 4 0 <|
 .o (.pnew 2 (.v 0) []) <|
 .x 3 (.mv (.c (.int .i64 0))) .done) K69_4
def R_impl_Lasso_next:FIR:=⟨B_impl_Lasso_next,4,[(3,none)]⟩
theorem IR_impl_Lasso_next:cfun Tryz.prog H_impl_Lasso_next Tryz.f69=some R_impl_Lasso_next:=by kernel_rfl
theorem EN_impl_Lasso_next:ENT Tryz.prog B_impl_Lasso_next [(3,none)] 2 4 fn_impl_Lasso_next:=fun hargs hw=>enter Tryz.func69 rfl IR_impl_Lasso_next hargs hw
def H_impl_Lasso_truths:Hint:=⟨[(0,false),(1,false),(2,false),(3,true),(4,false),(5,false),(6,false),(8,true),(9,false),(10,false),(11,false),(15,false),(16,false),(17,false),(33,false),(35,false),(36,false),(40,false)],[[0,1,4,7,8,9,10,14,15,16,17],[0,1,4,7,9,10,11,12,13,14,17]]⟩
abbrev K34_1:C:=.seq (.pl <| .e 18 1 <|
 .l 18 8 <|
 .m 4 18 .done) (.ret)
abbrev K34_2:C:=.pl <| .e 18 3 <|
 .m 18 9 <|
 .x 19 (.mkf (.func fn_impl_Lasso_truths_2) [] [.v 6]) <|
 .c 20 (.callv (.v 18) [.c (.bool false),.v 19]) .done
abbrev K34_3:C:=.pl <| .e 18 3 <|
 .m 18 9 <|
 .x 19 (.mkf (.func fn_impl_Lasso_truths_3) [] [.v 6]) <|
 .c 20 (.callv (.v 18) [.c (.bool true),.v 19]) .done
abbrev K34_4:C:=.pl <| .e 18 3 <|
 .m 18 9 <|
 .x 19 (.mkf (.func fn_impl_Lasso_truths_4) [] [.v 6]) <|
 .c 20 (.callv (.v 18) [.c (.bool false),.v 19]) .done
abbrev K34_5:C:=.pl <| .e 18 3 <|
 .m 18 9 <|
 .x 19 (.mkf (.func fn_impl_Lasso_truths_5) [] [.v 6]) <|
 .c 20 (.callv (.v 18) [.c (.bool true),.v 19]) .done
abbrev K34_6:C:=.pl <| .e 18 1 <|
 .x 18 (.bin .add (.v 16) (.c (.int .i64 1))) <|
 .m 16 18 .done
abbrev K34_7:C:=.pl <| .e 18 3 <|
 .l 18 8 <|
 .m 19 10 <|
 .x 20 (.ia 1 (.v 18) (.v 19)) <|
 .o (.ex none (.store 1 (.v 20) (.c (.bool true)))) .done
abbrev K34_8:C:=.pl <| .e 18 12 <|
 .l 18 8 <|
 .m 19 10 <|
 .m 20 5 <|
 .m 21 10 <|
 .x 22 (.ia 1 (.v 20) (.v 21)) <|
 .l 23 22 <|
 .a 24 3 <|
 .g 25 24 3 1 <|
 .x 26 (.bin .shr (.v 23) (.v 25)) <|
 .x 27 (.bin .and (.v 26) (.c (.int .i64 1))) <|
 .x 28 (.bin .eql (.v 27) (.c (.int .i64 1))) <|
 .x 29 (.ia 1 (.v 18) (.v 19)) <|
 .o (.ex none (.store 1 (.v 29) (.v 28))) .done
abbrev K34_9:C:=.pl <| .e 18 10 <|
 .l 18 8 <|
 .m 19 10 <|
 .l 20 6 <|
 .x 21 (.ia 1 (.v 20) (.c (.int .i64 0))) <|
 .l 22 21 <|
 .m 23 10 <|
 .x 24 (.ia 1 (.v 22) (.v 23)) <|
 .l 25 24 <|
 .x 26 (.un .not (.v 25)) <|
 .x 27 (.ia 1 (.v 18) (.v 19)) <|
 .o (.ex none (.store 1 (.v 27) (.v 26))) .done
abbrev K34_10:C:=.pl <| .e 18 17 <|
 .l 18 8 <|
 .m 19 10 <|
 .l 20 6 <|
 .x 21 (.ia 1 (.v 20) (.c (.int .i64 0))) <|
 .l 22 21 <|
 .m 23 10 <|
 .x 24 (.ia 1 (.v 22) (.v 23)) <|
 .l 25 24 <|
 .m 26 25 <|
 .y 26 (.ld (some 27) (.v 6) none) <|
 .y 26 (.px (some 28) (.ia 1 (.v 27) (.c (.int .i64 1)))) <|
 .y 26 (.ld (some 29) (.v 28) none) <|
 .y 26 (.px (some 30) (.mv (.v 10))) <|
 .y 26 (.px (some 31) (.ia 1 (.v 29) (.v 30))) <|
 .y 26 (.ld (some 32) (.v 31) none) <|
 .x 33 (.pick (.v 26) (.v 32) (.c (.bool false))) <|
 .x 34 (.ia 1 (.v 18) (.v 19)) <|
 .o (.ex none (.store 1 (.v 34) (.v 33))) .done
abbrev K34_11:C:=.pl <| .e 18 17 <|
 .l 18 8 <|
 .m 19 10 <|
 .l 20 6 <|
 .x 21 (.ia 1 (.v 20) (.c (.int .i64 0))) <|
 .l 22 21 <|
 .m 23 10 <|
 .x 24 (.ia 1 (.v 22) (.v 23)) <|
 .l 25 24 <|
 .m 26 25 <|
 .n 26 (.ld (some 27) (.v 6) none) <|
 .n 26 (.px (some 28) (.ia 1 (.v 27) (.c (.int .i64 1)))) <|
 .n 26 (.ld (some 29) (.v 28) none) <|
 .n 26 (.px (some 30) (.mv (.v 10))) <|
 .n 26 (.px (some 31) (.ia 1 (.v 29) (.v 30))) <|
 .n 26 (.ld (some 32) (.v 31) none) <|
 .x 33 (.pick (.v 26) (.c (.bool true)) (.v 32)) <|
 .x 34 (.ia 1 (.v 18) (.v 19)) <|
 .o (.ex none (.store 1 (.v 34) (.v 33))) .done
abbrev K34_12:Pl:=.st (.re 18 (.v 8) none none) <|
 .st (.re 20 (.v 6) none none) <|
 .st (.re 22 (.v 21) none none) <|
 .x 26 (.ia 1 (.v 22) (.v 25)) <|
 .l 27 26 <|
 .x 28 (.ia 1 (.v 18) (.v 19)) <|
 .o (.ex none (.store 1 (.v 28) (.v 27))) .done
abbrev K34_13:C:=.pl <| .e 18 11 <|
 .l 18 8 <|
 .m 19 10 <|
 .l 20 6 <|
 .x 21 (.ia 1 (.v 20) (.c (.int .i64 0))) <|
 .l 22 21 <|
 .o (.ld (some 23) (.v 2) (some 2)) <|
 .m 24 10 <|
 .c 25 (.call fn_impl_Lasso_next [.v 23,.v 24]) K34_12
abbrev K34_14:C:=.cond 18 (.v 19) K34_13 (.skip)
abbrev K34_15:C:=.seq (.pl <| .e 18 2 <|
 .x 18 (.bin .eql (.v 17) (.c (.int .i64 6))) <|
 .m 19 18 .done) K34_14
abbrev K34_16:C:=.cond 18 (.v 19) K34_11 K34_15
abbrev K34_17:C:=.seq (.pl <| .e 18 2 <|
 .x 18 (.bin .eql (.v 17) (.c (.int .i64 5))) <|
 .m 19 18 .done) K34_16
abbrev K34_18:C:=.cond 18 (.v 19) K34_10 K34_17
abbrev K34_19:C:=.seq (.pl <| .e 18 2 <|
 .x 18 (.bin .eql (.v 17) (.c (.int .i64 4))) <|
 .m 19 18 .done) K34_18
abbrev K34_20:C:=.cond 18 (.v 19) K34_9 K34_19
abbrev K34_21:C:=.seq (.pl <| .e 18 2 <|
 .x 18 (.bin .eql (.v 17) (.c (.int .i64 3))) <|
 .m 19 18 .done) K34_20
abbrev K34_22:C:=.cond 18 (.v 19) K34_8 K34_21
abbrev K34_23:C:=.seq (.pl <| .e 18 2 <|
 .x 18 (.bin .eql (.v 17) (.c (.int .i64 2))) <|
 .m 19 18 .done) K34_22
abbrev K34_24:C:=.cond 18 (.v 19) K34_7 K34_23
abbrev K34_25:C:=.block 5 (.seq (.pl <| .e 18 2 <|
 .x 18 (.bin .eql (.v 17) (.c (.int .i64 1))) <|
 .m 19 18 .done) K34_24)
abbrev K34_26:C:=.seq (.pl <| .e 18 1 <|
 .a 18 3 <|
 .g 17 18 3 0 .done) K34_25
abbrev K34_27:C:=.seq (.block 4 (.seq (.pl <| .e 18 1 <|
 .m 18 16 <|
 .m 10 18 .done) K34_26)) K34_6
abbrev K34_28:C:=.seq (.cond 18 (.v 18) (.skip) (.exit 3)) K34_27
abbrev K34_29:C:=.seq (.pl <| .e 18 1 <|
 .x 18 (.bin .lss (.v 16) (.v 15)) .done) K34_28
abbrev K34_30:C:=.block 3 (.loop 18 [0,1,4,7,9,10,11,12,13,14,17] K34_29)
abbrev K34_31:C:=.seq (.pl <| .e 18 1 <|
 .l 18 8 <|
 .x 15 (.lenV (.v 18)) <|
 .x 16 (.mv (.c (.int .i64 0))) .done) K34_30
abbrev K34_32:C:=.cond 18 (.v 19) K34_5 K34_31
abbrev K34_33:C:=.seq (.pl <| .e 18 2 <|
 .x 18 (.bin .eql (.v 14) (.c (.int .i64 10))) <|
 .m 19 18 .done) K34_32
abbrev K34_34:C:=.cond 18 (.v 19) K34_4 K34_33
abbrev K34_35:C:=.seq (.pl <| .e 18 2 <|
 .x 18 (.bin .eql (.v 14) (.c (.int .i64 9))) <|
 .m 19 18 .done) K34_34
abbrev K34_36:C:=.cond 18 (.v 19) K34_3 K34_35
abbrev K34_37:C:=.seq (.pl <| .e 18 2 <|
 .x 18 (.bin .eql (.v 14) (.c (.int .i64 8))) <|
 .m 19 18 .done) K34_36
abbrev K34_38:C:=.cond 18 (.v 19) K34_2 K34_37
abbrev K34_39:C:=.block 2 (.seq (.pl <| .e 18 2 <|
 .x 18 (.bin .eql (.v 14) (.c (.int .i64 7))) <|
 .m 19 18 .done) K34_38)
abbrev K34_40:C:=.seq (.seq (.pl <| .e 18 1 <|
 .a 18 3 <|
 .g 14 18 3 0 .done) K34_39) K34_1
abbrev K34_41:C:=.seq (.pl <| .e 18 1 <|
 .x 18 (.mkf (.func fn_impl_Lasso_truths_1) [] [.v 8,.v 2]) <|
 .m 9 18 .done) K34_40
abbrev K34_42:Pl:=.o (.ex none (.store 1 (.v 8) (.v 20))) .done
abbrev K34_43:Pl:=.c 8 (.alloc (.c (.slice none 0 0))) K34_42
abbrev K34_44:C:=.seq (.pl <| .e 18 3 <|
 .m 18 5 <|
 .x 19 (.lenV (.v 18)) <|
 .c 20 (.mks 1 1 [.bool false] (.v 19) (.v 19)) K34_43) K34_41
abbrev K34_45:C:=.pl <| .e 18 1 <|
 .x 18 (.bin .add (.v 13) (.c (.int .i64 1))) <|
 .m 13 18 .done
abbrev K34_46:Pl:=.o (.ex none (.store 1 (.v 6) (.v 23))) .done
abbrev K34_47:Pl:=.st (.re 18 (.v 6) none none) <|
 .o (.psl 22 [.slice none 0 0] [(0,1,.v 21)]) <|
 .c 23 (.app 24 1 [.slice none 0 0] (.o (.v 18)) (.p 1 22)) K34_46
abbrev K34_48:C:=.pl <| .e 18 6 <|
 .l 18 6 <|
 .o (.ld (some 19) (.v 2) (some 2)) <|
 .o (.pget (some 20) none 7 0 (some 3)) <|
 .c 21 (.call fn_impl_Lasso_truths [.v 19,.v 20]) K34_47
abbrev K34_49:C:=.seq (.block 1 (.seq (.pl <| .e 18 2 <|
 .x 18 (.ia 3 (.v 11) (.v 13)) <|
 .o (.ld (some 19) (.v 18) (some 3)) <|
 .o (.pnew 7 (.c (.agg #[.int .i64 0,.int .i64 0,.slice none 0 0])) []) <|
 .o (.pset none 7 0 3 (.v 19)) .done) K34_48)) K34_45
abbrev K34_50:C:=.seq (.cond 18 (.v 18) (.skip) (.exit 0)) K34_49
abbrev K34_51:C:=.seq (.pl <| .e 18 1 <|
 .x 18 (.bin .lss (.v 13) (.v 12)) .done) K34_50
abbrev K34_52:C:=.block 0 (.loop 18 [0,1,4,7,8,9,10,14,15,16,17] K34_51)
abbrev K34_53:C:=.seq (.seq (.pl <| .e 18 1 <|
 .a 18 3 <|
 .g 11 18 3 2 <|
 .x 12 (.lenV (.v 11)) <|
 .x 13 (.mv (.c (.int .i64 0))) .done) K34_52) K34_44
abbrev K34_54:C:=.seq (.pl <| .e 18 0 <|
 .c 6 (.alloc (.c (.slice none 0 0))) .done) K34_53
abbrev K34_55:Pl:=.m 5 19 .done
abbrev K34_56:C:=.seq (.pl <| .e 18 2 <|
 .o (.ld (some 18) (.v 2) (some 2)) <|
 .c 19 (.call fn_impl_Lasso_all [.v 18]) K34_55) K34_54
abbrev K34_57:Pl:=.o (.pnew 3 (.v 1) []) <|
 .x 4 (.mv (.c (.slice none 0 0))) .done
abbrev B_impl_Lasso_truths:C:=.seq (.pl <| .e 18 0 <|
 .c 2 (.alloc (.v 0)) K34_57) K34_56
def R_impl_Lasso_truths:FIR:=⟨B_impl_Lasso_truths,18,[(4,none)]⟩
theorem IR_impl_Lasso_truths:cfun Tryz.prog H_impl_Lasso_truths Tryz.f34=some R_impl_Lasso_truths:=by kernel_rfl
theorem EN_impl_Lasso_truths:ENT Tryz.prog B_impl_Lasso_truths [(4,none)] 2 18 fn_impl_Lasso_truths:=fun hargs hw=>enter Tryz.func34 rfl IR_impl_Lasso_truths hargs hw
def H_impl_Lasso_truths_1:Hint:=⟨[(0,false),(1,false),(2,false),(3,false),(6,false),(7,false),(8,false),(9,false),(11,false),(12,false)],[[4,5,6,7],[0,4,6,7,8,9],[0,4,7,8,9]]⟩
abbrev K68_1:C:=.pl <| .e 10 2 <|
 .m 10 6 <|
 .x 11 (.bin .sub (.v 10) (.c (.int .i64 1))) <|
 .m 6 11 .done
abbrev K68_2:C:=.pl <| .e 10 0 <|
 .x 5 (.mv (.c (.bool true))) .done
abbrev K68_3:C:=.seq (.pl <| .e 10 4 <|
 .l 10 2 <|
 .m 11 6 <|
 .m 12 7 <|
 .x 13 (.ia 1 (.v 10) (.v 11)) <|
 .o (.ex none (.store 1 (.v 13) (.v 12))) .done) K68_2
abbrev K68_4:C:=.cond 10 (.v 15) K68_3 (.skip)
abbrev K68_5:C:=.seq (.pl <| .e 10 6 <|
 .m 10 7 <|
 .l 11 2 <|
 .m 12 6 <|
 .x 13 (.ia 1 (.v 11) (.v 12)) <|
 .l 14 13 <|
 .x 15 (.eqb true (.v 10) (.v 14)) .done) K68_4
abbrev K68_6:Pl:=.m 7 18 .done
abbrev K68_7:Pl:=.st (.re 12 (.v 2) none none) <|
 .x 16 (.ia 1 (.v 12) (.v 15)) <|
 .l 17 16 <|
 .c 18 (.callv (.v 10) [.v 11,.v 17]) K68_6
abbrev K68_8:C:=.seq (.block 5 (.seq (.pl <| .e 10 9 <|
 .m 10 1 <|
 .m 11 6 <|
 .l 12 2 <|
 .o (.ld (some 13) (.v 3) (some 2)) <|
 .m 14 6 <|
 .c 15 (.call fn_impl_Lasso_next [.v 13,.v 14]) K68_7) K68_5)) K68_1
abbrev K68_9:C:=.cond 10 (.v 11) (.skip) (.exit 4)
abbrev K68_10:C:=.seq (.seq (.pl <| .e 10 2 <|
 .m 10 6 <|
 .x 11 (.bin .geq (.v 10) (.c (.int .i64 0))) .done) K68_9) K68_8
abbrev K68_11:C:=.block 4 (.loop 10 [0,4,7,8,9] K68_10)
abbrev K68_12:C:=.seq (.pl <| .e 10 3 <|
 .l 10 2 <|
 .x 11 (.lenV (.v 10)) <|
 .x 12 (.bin .sub (.v 11) (.c (.int .i64 1))) <|
 .m 6 12 .done) K68_11
abbrev K68_13:C:=.block 3 (.seq (.pl <| .e 10 0 <|
 .x 5 (.mv (.c (.bool false))) .done) K68_12)
abbrev K68_14:C:=.cond 10 (.v 10) (.skip) (.exit 2)
abbrev K68_15:C:=.seq (.seq (.pl <| .e 10 1 <|
 .m 10 5 .done) K68_14) K68_13
abbrev K68_16:C:=.block 2 (.loop 10 [0,4,6,7,8,9] K68_15)
abbrev K68_17:C:=.seq (.pl <| .e 10 0 <|
 .x 5 (.mv (.c (.bool true))) .done) K68_16
abbrev K68_18:C:=.pl <| .e 10 1 <|
 .x 10 (.bin .add (.v 9) (.c (.int .i64 1))) <|
 .m 9 10 .done
abbrev K68_19:C:=.pl <| .e 10 4 <|
 .l 10 2 <|
 .m 11 4 <|
 .m 12 0 <|
 .x 13 (.ia 1 (.v 10) (.v 11)) <|
 .o (.ex none (.store 1 (.v 13) (.v 12))) .done
abbrev K68_20:C:=.seq (.block 1 (.seq (.pl <| .e 10 1 <|
 .m 10 9 <|
 .m 4 10 .done) K68_19)) K68_18
abbrev K68_21:C:=.seq (.cond 10 (.v 10) (.skip) (.exit 0)) K68_20
abbrev K68_22:C:=.seq (.pl <| .e 10 1 <|
 .x 10 (.bin .lss (.v 9) (.v 8)) .done) K68_21
abbrev K68_23:C:=.block 0 (.loop 10 [4,5,6,7] K68_22)
abbrev B_impl_Lasso_truths_1:C:=.seq (.seq (.pl <| .e 10 1 <|
 .l 10 2 <|
 .x 8 (.lenV (.v 10)) <|
 .x 9 (.mv (.c (.int .i64 0))) .done) K68_23) K68_17
def R_impl_Lasso_truths_1:FIR:=⟨B_impl_Lasso_truths_1,10,[]⟩
theorem IR_impl_Lasso_truths_1:cfun Tryz.prog H_impl_Lasso_truths_1 Tryz.f68=some R_impl_Lasso_truths_1:=by kernel_rfl
theorem EN_impl_Lasso_truths_1:ENT Tryz.prog B_impl_Lasso_truths_1 [] 4 10 fn_impl_Lasso_truths_1:=fun hargs hw=>enter Tryz.func68 rfl IR_impl_Lasso_truths_1 hargs hw
def H_impl_Lasso_truths_2:Hint:=⟨[(0,false),(1,false),(2,false),(5,false)],[]⟩
abbrev K70_1:C:=.seq (.pl <| .e 4 17 <|
 .l 4 2 <|
 .x 5 (.ia 1 (.v 4) (.c (.int .i64 1))) <|
 .l 6 5 <|
 .m 7 0 <|
 .x 8 (.ia 1 (.v 6) (.v 7)) <|
 .l 9 8 <|
 .m 10 9 <|
 .n 10 (.ld (some 11) (.v 2) none) <|
 .n 10 (.px (some 12) (.ia 1 (.v 11) (.c (.int .i64 0)))) <|
 .n 10 (.ld (some 13) (.v 12) none) <|
 .n 10 (.px (some 14) (.mv (.v 0))) <|
 .n 10 (.px (some 15) (.ia 1 (.v 13) (.v 14))) <|
 .n 10 (.ld (some 16) (.v 15) none) <|
 .n 10 (.px (some 17) (.mv (.v 16))) <|
 .y 17 (.px (some 18) (.mv (.v 1))) <|
 .n 10 (.px (some 19) (.pick (.v 17) (.v 18) (.c (.bool false)))) <|
 .x 20 (.pick (.v 10) (.c (.bool true)) (.v 19)) <|
 .m 3 20 .done) (.ret)
abbrev B_impl_Lasso_truths_2:C:=.seq (.pl <| .e 4 0 <|
 .x 3 (.mv (.c (.bool false))) .done) K70_1
def R_impl_Lasso_truths_2:FIR:=⟨B_impl_Lasso_truths_2,4,[(3,none)]⟩
theorem IR_impl_Lasso_truths_2:cfun Tryz.prog H_impl_Lasso_truths_2 Tryz.f70=some R_impl_Lasso_truths_2:=by kernel_rfl
theorem EN_impl_Lasso_truths_2:ENT Tryz.prog B_impl_Lasso_truths_2 [(3,none)] 3 4 fn_impl_Lasso_truths_2:=fun hargs hw=>enter Tryz.func70 rfl IR_impl_Lasso_truths_2 hargs hw
def H_impl_Lasso_truths_3:Hint:=⟨[(0,false),(1,false),(2,false),(5,false)],[]⟩
abbrev K71_1:C:=.seq (.pl <| .e 4 17 <|
 .l 4 2 <|
 .x 5 (.ia 1 (.v 4) (.c (.int .i64 1))) <|
 .l 6 5 <|
 .m 7 0 <|
 .x 8 (.ia 1 (.v 6) (.v 7)) <|
 .l 9 8 <|
 .m 10 9 <|
 .y 10 (.ld (some 11) (.v 2) none) <|
 .y 10 (.px (some 12) (.ia 1 (.v 11) (.c (.int .i64 0)))) <|
 .y 10 (.ld (some 13) (.v 12) none) <|
 .y 10 (.px (some 14) (.mv (.v 0))) <|
 .y 10 (.px (some 15) (.ia 1 (.v 13) (.v 14))) <|
 .y 10 (.ld (some 16) (.v 15) none) <|
 .y 10 (.px (some 17) (.mv (.v 16))) <|
 .n 17 (.px (some 18) (.mv (.v 1))) <|
 .y 10 (.px (some 19) (.pick (.v 17) (.c (.bool true)) (.v 18))) <|
 .x 20 (.pick (.v 10) (.v 19) (.c (.bool false))) <|
 .m 3 20 .done) (.ret)
abbrev B_impl_Lasso_truths_3:C:=.seq (.pl <| .e 4 0 <|
 .x 3 (.mv (.c (.bool false))) .done) K71_1
def R_impl_Lasso_truths_3:FIR:=⟨B_impl_Lasso_truths_3,4,[(3,none)]⟩
theorem IR_impl_Lasso_truths_3:cfun Tryz.prog H_impl_Lasso_truths_3 Tryz.f71=some R_impl_Lasso_truths_3:=by kernel_rfl
theorem EN_impl_Lasso_truths_3:ENT Tryz.prog B_impl_Lasso_truths_3 [(3,none)] 3 4 fn_impl_Lasso_truths_3:=fun hargs hw=>enter Tryz.func71 rfl IR_impl_Lasso_truths_3 hargs hw
def H_impl_Lasso_truths_4:Hint:=⟨[(0,false),(1,false),(2,false),(5,false)],[]⟩
abbrev K72_1:C:=.seq (.pl <| .e 4 9 <|
 .l 4 2 <|
 .x 5 (.ia 1 (.v 4) (.c (.int .i64 0))) <|
 .l 6 5 <|
 .m 7 0 <|
 .x 8 (.ia 1 (.v 6) (.v 7)) <|
 .l 9 8 <|
 .m 10 9 <|
 .n 10 (.px (some 11) (.mv (.v 1))) <|
 .x 12 (.pick (.v 10) (.c (.bool true)) (.v 11)) <|
 .m 3 12 .done) (.ret)
abbrev B_impl_Lasso_truths_4:C:=.seq (.pl <| .e 4 0 <|
 .x 3 (.mv (.c (.bool false))) .done) K72_1
def R_impl_Lasso_truths_4:FIR:=⟨B_impl_Lasso_truths_4,4,[(3,none)]⟩
theorem IR_impl_Lasso_truths_4:cfun Tryz.prog H_impl_Lasso_truths_4 Tryz.f72=some R_impl_Lasso_truths_4:=by kernel_rfl
theorem EN_impl_Lasso_truths_4:ENT Tryz.prog B_impl_Lasso_truths_4 [(3,none)] 3 4 fn_impl_Lasso_truths_4:=fun hargs hw=>enter Tryz.func72 rfl IR_impl_Lasso_truths_4 hargs hw
def H_impl_Lasso_truths_5:Hint:=⟨[(0,false),(1,false),(2,false),(5,false)],[]⟩
abbrev K73_1:C:=.seq (.pl <| .e 4 9 <|
 .l 4 2 <|
 .x 5 (.ia 1 (.v 4) (.c (.int .i64 0))) <|
 .l 6 5 <|
 .m 7 0 <|
 .x 8 (.ia 1 (.v 6) (.v 7)) <|
 .l 9 8 <|
 .m 10 9 <|
 .y 10 (.px (some 11) (.mv (.v 1))) <|
 .x 12 (.pick (.v 10) (.v 11) (.c (.bool false))) <|
 .m 3 12 .done) (.ret)
abbrev B_impl_Lasso_truths_5:C:=.seq (.pl <| .e 4 0 <|
 .x 3 (.mv (.c (.bool false))) .done) K73_1
def R_impl_Lasso_truths_5:FIR:=⟨B_impl_Lasso_truths_5,4,[(3,none)]⟩
theorem IR_impl_Lasso_truths_5:cfun Tryz.prog H_impl_Lasso_truths_5 Tryz.f73=some R_impl_Lasso_truths_5:=by kernel_rfl
theorem EN_impl_Lasso_truths_5:ENT Tryz.prog B_impl_Lasso_truths_5 [(3,none)] 3 4 fn_impl_Lasso_truths_5:=fun hargs hw=>enter Tryz.func73 rfl IR_impl_Lasso_truths_5 hargs hw
def H_impl_Satisfies:Hint:=⟨[(0,false),(1,false),(2,true),(3,true),(4,false),(5,false)],[]⟩
abbrev K15_1:Pl:=.x 9 (.ia 1 (.v 8) (.c (.int .i64 0))) <|
 .l 10 9 <|
 .m 4 10 <|
 .x 5 (.mv (.c (.bool true))) .done
abbrev K15_2:C:=.seq (.pl <| .e 6 5 <|
 .o (.pget (some 6) none 2 0 (some 2)) <|
 .o (.pget (some 7) none 3 0 (some 3)) <|
 .c 8 (.call fn_impl_Lasso_truths [.v 6,.v 7]) K15_1) (.ret)
abbrev K15_3:C:=.seq (.pl <| .e 6 0 <|
 .x 4 (.mv (.c (.bool false))) <|
 .x 5 (.mv (.c (.bool false))) .done) (.ret)
abbrev K15_4:C:=.cond 6 (.v 13) K15_3 (.skip)
abbrev K15_5:Pl:=.n 9 (.px (some 12) (.un .not (.v 11))) <|
 .x 13 (.pick (.v 9) (.c (.bool true)) (.v 12)) .done
abbrev K15_6:Pl:=.x 8 (.un .not (.v 7)) <|
 .m 9 8 <|
 .n 9 (.pget (some 10) none 3 0 (some 3)) <|
 .st (.act (some (.v 9,false)) (.ex (some 11) (.call fn_impl_FormulaValid [.v 10]))) K15_5
abbrev K15_7:C:=.seq (.seq (.pl <| .e 6 8 <|
 .o (.pget (some 6) none 2 0 (some 2)) <|
 .c 7 (.call fn_impl_LassoValid [.v 6]) K15_6) K15_4) K15_2
abbrev B_impl_Satisfies:C:=.seq (.pl <| .e 6 0 <|
 .o (.pnew 2 (.v 0) []) <|
 .o (.pnew 3 (.v 1) []) <|
 .x 4 (.mv (.c (.bool false))) <|
 .x 5 (.mv (.c (.bool false))) .done) K15_7
def R_impl_Satisfies:FIR:=⟨B_impl_Satisfies,6,[(4,none),(5,none)]⟩
theorem IR_impl_Satisfies:cfun Tryz.prog H_impl_Satisfies Tryz.f15=some R_impl_Satisfies:=by kernel_rfl
theorem EN_impl_Satisfies:ENT Tryz.prog B_impl_Satisfies [(4,none),(5,none)] 2 6 fn_impl_Satisfies:=fun hargs hw=>enter Tryz.func15 rfl IR_impl_Satisfies hargs hw
def H_slices_Concat_S_int_int:Hint:=⟨[(0,false),(2,false),(3,false),(5,false),(6,false),(8,false),(9,false),(10,false),(11,false),(25,false),(26,false),(27,false)],[[1,3,4,5,9,10,11],[0,1,2,3,5,6,7,8]]⟩
abbrev K46_1:C:=.seq (.pl <| .e 12 1 <|
 .m 12 4 <|
 .m 1 12 .done) (.ret)
abbrev K46_2:C:=.pl <| .e 12 1 <|
 .x 12 (.bin .add (.v 11) (.c (.int .i64 1))) <|
 .m 11 12 .done
abbrev K46_3:Pl:=.m 4 14 .done
abbrev K46_4:C:=.pl <| .e 12 3 <|
 .m 12 4 <|
 .m 13 5 <|
 .c 14 (.app 8 1 [.int .i64 0] (.o (.v 12)) (.o (.v 13))) K46_3
abbrev K46_5:C:=.seq (.block 3 (.seq (.pl <| .e 12 2 <|
 .x 12 (.ia 1 (.v 9) (.v 11)) <|
 .l 13 12 <|
 .m 5 13 .done) K46_4)) K46_2
abbrev K46_6:C:=.seq (.cond 12 (.v 12) (.skip) (.exit 2)) K46_5
abbrev K46_7:C:=.seq (.pl <| .e 12 1 <|
 .x 12 (.bin .lss (.v 11) (.v 10)) .done) K46_6
abbrev K46_8:C:=.block 2 (.loop 12 [0,1,2,3,5,6,7,8] K46_7)
abbrev K46_9:C:=.seq (.seq (.pl <| .e 12 0 <|
 .m 9 0 <|
 .x 10 (.lenV (.v 9)) <|
 .x 11 (.mv (.c (.int .i64 0))) .done) K46_8) K46_1
abbrev K46_10:Pl:=.m 4 13 .done
abbrev K46_11:C:=.seq (.pl <| .e 12 2 <|
 .m 12 2 <|
 .c 13 (.call fn_slices_Grow_S_int_int [.c (.slice none 0 0),.v 12]) K46_10) K46_9
abbrev K46_12:C:=.pl <| .e 12 1 <|
 .x 12 (.bin .add (.v 8) (.c (.int .i64 1))) <|
 .m 8 12 .done
abbrev K46_13:C:=.pl <| .e 12 1 <|
 .o (.px none (.extract 0 (.c (.tuple #[])))) <|
 .o (.px none (.extract 0 (.c (.tuple #[])))) .done
abbrev K46_14:C:=.cond 12 (.v 13) K46_13 (.skip)
abbrev K46_15:C:=.seq (.pl <| .e 12 2 <|
 .m 12 2 <|
 .x 13 (.bin .lss (.v 12) (.c (.int .i64 0))) .done) K46_14
abbrev K46_16:C:=.seq (.pl <| .e 12 4 <|
 .m 12 2 <|
 .m 13 3 <|
 .x 14 (.lenV (.v 13)) <|
 .x 15 (.bin .add (.v 12) (.v 14)) <|
 .m 2 15 .done) K46_15
abbrev K46_17:C:=.seq (.block 1 (.seq (.pl <| .e 12 2 <|
 .x 12 (.ia 1 (.v 6) (.v 8)) <|
 .l 13 12 <|
 .m 3 13 .done) K46_16)) K46_12
abbrev K46_18:C:=.seq (.cond 12 (.v 12) (.skip) (.exit 0)) K46_17
abbrev K46_19:C:=.seq (.pl <| .e 12 1 <|
 .x 12 (.bin .lss (.v 8) (.v 7)) .done) K46_18
abbrev K46_20:C:=.block 0 (.loop 12 [1,3,4,5,9,10,11] K46_19)
abbrev K46_21:C:=.seq (.seq (.pl <| .e 12 0 <|
 .m 6 0 <|
 .x 7 (.lenV (.v 6)) <|
 .x 8 (.mv (.c (.int .i64 0))) .done) K46_20) K46_11
abbrev K46_22:C:=.seq (.pl <| .e 12 0 <|
 .x 2 (.mv (.c (.int .i64 0))) .done) K46_21
abbrev B_slices_Concat_S_int_int:C:=.seq (.pl <| .e 12 0 <|
 .x 1 (.mv (.c (.slice none 0 0))) .done) K46_22
def R_slices_Concat_S_int_int:FIR:=⟨B_slices_Concat_S_int_int,12,[(1,none)]⟩
theorem IR_slices_Concat_S_int_int:cfun Tryz.prog H_slices_Concat_S_int_int Tryz.f46=some R_slices_Concat_S_int_int:=by kernel_rfl
theorem EN_slices_Concat_S_int_int:ENT Tryz.prog B_slices_Concat_S_int_int [(1,none)] 1 12 fn_slices_Concat_S_int_int:=fun hargs hw=>enter Tryz.func46 rfl IR_slices_Concat_S_int_int hargs hw
def H_slices_Grow_S_int_int:Hint:=⟨[(0,false),(1,false),(4,false)],[]⟩
abbrev K91_1:C:=.seq (.pl <| .e 3 1 <|
 .m 3 0 <|
 .m 2 3 .done) (.ret)
abbrev K91_2:Pl:=.m 9 0 <|
 .x 10 (.lenV (.v 9)) <|
 .x 11 (.sliceV 1 (.v 8) none (some (.v 10)) none) <|
 .m 0 11 .done
abbrev K91_3:C:=.pl <| .e 3 9 <|
 .m 3 0 <|
 .m 4 0 <|
 .x 5 (.capV (.v 4)) <|
 .x 6 (.sliceV 1 (.v 3) none (some (.v 5)) none) <|
 .m 7 1 <|
 .c 8 (.app 8 1 [.int .i64 0] (.o (.v 6)) (.z (.v 7) 8 [.int .i64 0])) K91_2
abbrev K91_4:C:=.cond 3 (.v 4) K91_3 (.skip)
abbrev K91_5:C:=.seq (.pl <| .e 3 2 <|
 .m 3 1 <|
 .x 4 (.bin .gtr (.v 3) (.c (.int .i64 0))) .done) K91_4
abbrev K91_6:C:=.seq (.seq (.pl <| .e 3 7 <|
 .m 3 1 <|
 .m 4 0 <|
 .x 5 (.capV (.v 4)) <|
 .m 6 0 <|
 .x 7 (.lenV (.v 6)) <|
 .x 8 (.bin .sub (.v 5) (.v 7)) <|
 .x 9 (.bin .sub (.v 3) (.v 8)) <|
 .m 1 9 .done) K91_5) K91_1
abbrev K91_7:C:=.pl <| .e 3 1 <|
 .o (.px none (.extract 0 (.c (.tuple #[])))) <|
 .o (.px none (.extract 0 (.c (.tuple #[])))) .done
abbrev K91_8:C:=.cond 3 (.v 4) K91_7 (.skip)
abbrev K91_9:C:=.seq (.seq (.pl <| .e 3 2 <|
 .m 3 1 <|
 .x 4 (.bin .lss (.v 3) (.c (.int .i64 0))) .done) K91_8) K91_6
abbrev B_slices_Grow_S_int_int:C:=.seq (.pl <| .e 3 0 <|
 .x 2 (.mv (.c (.slice none 0 0))) .done) K91_9
def R_slices_Grow_S_int_int:FIR:=⟨B_slices_Grow_S_int_int,3,[(2,none)]⟩
theorem IR_slices_Grow_S_int_int:cfun Tryz.prog H_slices_Grow_S_int_int Tryz.f91=some R_slices_Grow_S_int_int:=by kernel_rfl
theorem EN_slices_Grow_S_int_int:ENT Tryz.prog B_slices_Grow_S_int_int [(2,none)] 2 3 fn_slices_Grow_S_int_int:=fun hargs hw=>enter Tryz.func91 rfl IR_slices_Grow_S_int_int hargs hw
def incr (n:Int):Int→List Int→Prop
 | _,[]=>True
 | lo,x::l=>lo<x∧x<n∧incr n x l
instance decIncr (n:Int):∀(lo:Int) (l:List Int),Decidable (incr n lo l)
 | _,[]=>inferInstanceAs (Decidable True)
 | lo,x::l=>@instDecidableAnd _ _ _ (@instDecidableAnd _ _ _ (decIncr n x l))
theorem incr_len {n:Int}:∀{lo:Int}{l:List Int},incr n lo l→lo<n→lo+l.length<n
 | lo,[],_,h=>by simpa using h
 | lo,x::l,h,_=>by
  have:=incr_len h.2.2 h.2.1
  have:=h.1
  simp;omega
theorem incr_mem {n:Int}:∀{lo:Int}{l:List Int},incr n lo l→∀x∈l,lo<x∧x<n
 | lo,y::l,h,x,hx=>by
  rcases List.mem_cons.1 hx with rfl | hx
  ·exact⟨h.1,h.2.1⟩
  ·have:=incr_mem h.2.2 x hx
   have:=h.1
   omega
def Tr.Ok (n:Int) (t:Tr):Prop:=0≤t.frm∧t.frm<n∧0≤t.to∧t.to<n∧0≤t.care∧t.care≤7∧0≤t.value∧andI .i64 t.value t.care=t.value
instance instDecTrOk (n:Int) (t:Tr):Decidable (t.Ok n):=by unfold Tr.Ok;infer_instance
def Aut.Ok (a:Aut):Prop:=(1≤a.acc.length∧a.acc.length≤64)∧a.edges.length≤2048∧incr a.acc.length (-1) a.init∧∀t∈a.edges,t.Ok a.acc.length
instance instDecAutOk (a:Aut):Decidable a.Ok:=by unfold Aut.Ok;infer_instance
theorem Aut.Ok.n {a:Aut}(h:a.Ok):1≤a.acc.length∧a.acc.length≤64:=h.1
theorem Aut.Ok.e {a:Aut}(h:a.Ok):a.edges.length≤2048:=h.2.1
theorem Aut.Ok.i {a:Aut}(h:a.Ok):incr a.acc.length (-1) a.init:=h.2.2.1
theorem Aut.Ok.t {a:Aut}(h:a.Ok) {i:Nat}(hi:i<a.edges.length):a.edges[i].Ok a.acc.length:=h.2.2.2 _ (List.getElem_mem hi)
theorem Aut.Ok.il {a:Aut}(h:a.Ok):a.init.length≤64:=by
 have h1:=incr_len h.i (by have:=h.n;omega)
 have:=h.n
 omega
theorem Aut.Ok.im {a:Aut}(h:a.Ok) {i:Nat}(hi:i<a.init.length):0≤a.init[i]∧a.init[i]<a.acc.length:=by
 have h1:=incr_mem h.i _ (List.getElem_mem hi)
 omega
def Tr.on (t:Tr) (letter:Int):Bool:=decide (andI .i64 letter t.care=t.value)
def Tr.shift (n:Int) (t:Tr):Tr:=⟨t.frm+n,t.care,t.value,t.to+n⟩
def Aut.empty:Aut:=⟨[],[],[]⟩
abbrev Rl:=Nat→Nat→Bool
def Ans (a:Aut) (R:Rl) (i j:Nat):Prop:=∀l:Nat,l<8→∀e∈a.edges,e.frm=i→e.on l=true→∃f∈a.edges,f.frm=j∧f.on l=true∧R e.to.toNat f.to.toNat=true
def AccR (a:Aut) (R:Rl):Prop:=∀i j,i<a.acc.length→j<a.acc.length→R i j=true→a.acc.getD i false=true→a.acc.getD j false=true
def Simu (a:Aut) (R:Rl):Prop:=AccR a R∧∀i j,i<a.acc.length→j<a.acc.length→R i j=true→Ans a R i j
def Upper (a:Aut) (R:Rl):Prop:=∀S,Simu a S→∀i j,i<a.acc.length→j<a.acc.length→S i j=true→R i j=true
structure Great (a:Aut) (R:Rl):Prop where
 simu:Simu a R
 upper:Upper a R
def Rl.rem (R:Rl) (i j:Nat):Rl:=fun x y=>R x y && !(decide (x=i)&&decide (y=j))
theorem Rl.rem_le {R:Rl}{i j x y:Nat}(h:R.rem i j x y=true):R x y=true:=by
 simp only[Rl.rem,Bool.and_eq_true] at h;exact h.1
theorem Ans.mono {a:Aut}{R S:Rl}(ha:a.Ok) {i j:Nat}(hRS:∀x y,x<a.acc.length→y<a.acc.length→R x y=true→S x y=true) (h:Ans a R i j):Ans a S i j:=by
 intro l hl e he hi ho
 obtain⟨f,hf,h1,h2,h3⟩:=h l hl e he hi ho
 have h4:=ha.2.2.2 e he
 have h5:=ha.2.2.2 f hf
 unfold Tr.Ok at h4 h5
 exact⟨f,hf,h1,h2,hRS _ _ (by omega) (by omega) h3⟩
theorem Upper.rem {a:Aut}{R:Rl}(ha:a.Ok) (hR:Upper a R) {i j:Nat}(hn:¬Ans a R i j):Upper a (R.rem i j):=by
 intro S hS x y hx hy h
 have h1:=hR S hS x y hx hy h
 by_cases hxy:x=i∧y=j
 ·obtain⟨rfl,rfl⟩:=hxy
  exact absurd ((hS.2 x y hx hy h).mono ha fun u v hu hv huv=>hR S hS u v hu hv huv) hn
 ·simp only[Rl.rem,h1,Bool.true_and,Bool.not_eq_true',Bool.and_eq_false_imp,decide_eq_true_eq,decide_eq_false_iff_not]
  exact fun h2 h3=>hxy ⟨h2,h3⟩
theorem AccR.rem {a:Aut}{R:Rl}(h:AccR a R) (i j:Nat):AccR a (R.rem i j):=fun x y hx hy hr=>h x y hx hy (Rl.rem_le hr)
theorem Great.congr {a:Aut}{R S:Rl}(ha:a.Ok) (h:Great a R) (he:∀x y,x<a.acc.length→y<a.acc.length→R x y=S x y):Great a S:=
 ⟨⟨fun i j hi hj hr=>h.simu.1 i j hi hj (by rw[he i j hi hj];exact hr),
  fun i j hi hj hr=>(h.simu.2 i j hi hj (by rw[he i j hi hj];exact hr)).mono ha fun x y hx hy hxy=>by rw[← he x y hx hy];exact hxy⟩,
  fun T hT i j hi hj hr=>by rw[← he i j hi hj];exact h.upper T hT i j hi hj hr⟩
def cnt2 (n:Nat) (R:Rl):Nat:=((List.range n).map fun i=>((List.range n).filter fun j=>R i j).length).sum
theorem sum_lt_of {α:Type}{f g:α→Nat}:∀{l:List α},(∀x∈l,f x≤g x)→(∃x∈l,f x<g x)→(l.map f).sum<(l.map g).sum
 | [],_,h=>by obtain⟨x,hx,_⟩:=h;simp at hx
 | y::l,h,⟨x,hx,hlt⟩=>by
  have hy:=h y (by simp)
  have hle:(l.map f).sum≤(l.map g).sum:=by
   have:∀l:List α,(∀x∈l,f x≤g x)→(l.map f).sum≤(l.map g).sum:=by
    intro l
    induction l with
    | nil=>simp
    | cons z l ih=>
     intro h
     have h1:=h z (by simp)
     have h2:=ih fun x hx=>h x (by simp[hx])
     simp;omega
   exact this l fun x hx=>h x (by simp[hx])
  rcases List.mem_cons.1 hx with rfl | hx
  ·simp;omega
  ·have:=sum_lt_of (l:=l) (fun x hx=>h x (by simp[hx])) ⟨x,hx,hlt⟩
   simp;omega
theorem filter_le_of {α:Type}{p q:α→Bool}(h:∀x,p x=true→q x=true):∀l:List α,(l.filter p).length≤(l.filter q).length
 | []=>by simp
 | x::l=>by
  have:=filter_le_of h l
  cases hp:p x
  ·cases hq:q x<;>simp[List.filter_cons,hp,hq]<;>omega
  ·simp[List.filter_cons,hp,h x hp];omega
theorem filter_lt_of {α:Type}{p q:α→Bool}(h:∀x,p x=true→q x=true):∀{l:List α},(∃x∈l,p x=false∧q x=true)→(l.filter p).length<(l.filter q).length
 | [],hx=>by obtain⟨x,hx,_⟩:=hx;simp at hx
 | y::l,⟨x,hx,h1,h2⟩=>by
  rcases List.mem_cons.1 hx with rfl | hx
  ·have:=filter_le_of h l
   simp[List.filter_cons,h1,h2];omega
  ·have:=filter_lt_of h (l:=l) ⟨x,hx,h1,h2⟩
   cases hp:p y
   ·cases hq:q y<;>simp[List.filter_cons,hp,hq]<;>omega
   ·simp[List.filter_cons,hp,h y hp];omega
theorem cnt2_rem {n:Nat}{R:Rl}{i j:Nat}(hi:i<n) (hj:j<n) (h:R i j=true):cnt2 n (R.rem i j)<cnt2 n R:=by
 refine sum_lt_of ?_ ⟨i,by simpa using hi,?_⟩
 ·intro x _
  exact filter_le_of (fun y hy=>Rl.rem_le hy) _
 ·exact filter_lt_of (fun y hy=>Rl.rem_le hy) ⟨j,by simpa using hj,by simp[Rl.rem],h⟩
structure Pass (a:Aut) (R0 R:Rl) (c:Bool) (i j:Nat):Prop where
 acc:AccR a R
 upper:Upper a R
 less:c=true→cnt2 a.acc.length R<cnt2 a.acc.length R0
 same:c=false→R=R0∧∀x y,x<a.acc.length→y<a.acc.length→(x<i∨(x=i∧y<j))→R x y=true→Ans a R x y
theorem Pass.start {a:Aut}{R:Rl}(h1:AccR a R) (h2:Upper a R):Pass a R R false 0 0:=⟨h1,h2,by simp,fun _=>⟨rfl,fun x y _ _ h=>by omega⟩⟩
theorem Pass.keep {a:Aut}{R0 R:Rl}{c:Bool}{i j:Nat}(h:Pass a R0 R c i j) (hk:R i j=true→Ans a R i j):Pass a R0 R c i (j+1):=
 ⟨h.acc,h.upper,h.less,fun hc=>⟨(h.same hc).1,fun x y hx hy hxy hr=>by
  by_cases h2:x=i∧y=j
  ·obtain⟨rfl,rfl⟩:=h2;exact hk hr
  ·exact (h.same hc).2 x y hx hy (by omega) hr⟩⟩
theorem Pass.rem {a:Aut}{R0 R:Rl}{c:Bool}{i j:Nat}(ha:a.Ok) (h:Pass a R0 R c i j) (hi:i<a.acc.length) (hj:j<a.acc.length) (hr:R i j=true) (hn:¬Ans a R i j):Pass a R0 (R.rem i j) true i (j+1):=
 ⟨h.acc.rem i j,h.upper.rem ha hn,fun _=>by
  have h1:=cnt2_rem hi hj hr
  cases hc:c
  ·rw[← (h.same hc).1];exact h1
  ·exact Nat.lt_trans h1 (h.less hc),by simp⟩
theorem Pass.next {a:Aut}{R0 R:Rl}{c:Bool}{i j:Nat}(h:Pass a R0 R c i j) (hj:a.acc.length≤j):Pass a R0 R c (i+1) 0:=
 ⟨h.acc,h.upper,h.less,fun hc=>⟨(h.same hc).1,fun x y hx hy hxy hr=>(h.same hc).2 x y hx hy (by omega) hr⟩⟩
theorem Pass.done {a:Aut}{R0 R:Rl}{i j:Nat}(h:Pass a R0 R false i j) (hi:a.acc.length≤i):Great a R:=
 ⟨⟨h.acc,fun x y hx hy hr=>(h.same rfl).2 x y hx hy (by omega) hr⟩,h.upper⟩
inductive Rch (E:Nat→Nat→Prop):Nat→Nat→Prop
 | refl (x:Nat):Rch E x x
 | step {x y z:Nat}(h:E x y) (r:Rch E y z):Rch E x z
theorem Rch.one {E:Nat→Nat→Prop}{x y:Nat}(h:E x y):Rch E x y:=.step h (.refl y)
theorem Rch.trans {E:Nat→Nat→Prop}{x y z:Nat}(h1:Rch E x y) (h2:Rch E y z):Rch E x z:=by
 induction h1 with
 | refl=>exact h2
 | step h _ ih=>exact .step h (ih h2)
theorem Rch.closed {E:Nat→Nat→Prop}{C:Nat→Prop}(hC:∀x y,C x→E x y→C y) {x y:Nat}(h:Rch E x y) (hx:C x):C y:=by
 induction h with
 | refl=>exact hx
 | step h _ ih=>exact ih (hC _ _ hx h)
def Cyc (E:Nat→Nat→Prop) (x:Nat):Prop:=∃y,E x y∧Rch E y x
def Scc (E:Nat→Nat→Prop) (x y:Nat):Prop:=Rch E x y∧Rch E y x
theorem Cyc.iff {E:Nat→Nat→Prop}{x:Nat}:Cyc E x↔E x x∨∃y,y≠x∧Scc E x y:=by
 constructor
 ·rintro⟨y,h1,h2⟩
  by_cases h:y=x
  ·subst h;exact .inl h1
  ·exact .inr ⟨y,h,.one h1,h2⟩
 ·rintro (h | ⟨y,h,h1,h2⟩)
  ·exact⟨x,h,.refl x⟩
  ·cases h1 with
   | refl=>exact absurd rfl h
   | step h3 h4=>exact⟨_,h3,h4.trans h2⟩
structure TS where
 num:Nat→Int
 low:Nat→Int
 part:Nat→Int
 stk:List Nat
 cnt:Int
 prt:Int
def fput (f:Nat→Int) (i:Nat) (v:Int):Nat→Int:=fun x=>if x=i then v else f x
@[simp] theorem fput_self {f:Nat→Int}{i:Nat}{v:Int}:fput f i v i=v:=by simp[fput]
theorem fput_ne {f:Nat→Int}{i x:Nat}{v:Int}(h:x≠i):fput f i v x=f x:=by simp[fput,h]
structure TI (n:Nat) (E:Nat→Nat→Prop) (gr:Nat→Prop) (s:TS):Prop where
 num:∀x,x<n→0≤s.num x∧s.num x≤s.cnt
 cnt:0≤s.prt∧s.prt+s.stk.length≤s.cnt
 mem:∀x,x∈s.stk↔x<n∧s.num x≠0∧s.part x<0
 ord:s.stk.Pairwise fun x y=>s.num x<s.num y
 new:∀x,x<n→s.num x=0→s.part x<0
 done:∀x y,x<n→0≤s.part x→E x y→0≤s.part y
 bnd:∀x,x<n→-1≤s.part x∧s.part x<s.prt
 scc:∀x y,x<n→y<n→0≤s.part x→0≤s.part y→(s.part x=s.part y↔Scc E x y)
 s1:∀x y,x∈s.stk→y∈s.stk→s.num x≤s.num y→Rch E x y
 s2:∀x,x∈s.stk→∃g,gr g∧g∈s.stk∧s.num g≤s.num x∧Rch E x g
structure TV (n:Nat) (E:Nat→Nat→Prop) (gr:Nat→Prop) (s:TS) (a:Nat) (s':TS):Prop where
 inv:TI n E gr s'
 num:∀x,x<n→s.num x≠0→s'.num x=s.num x∧s'.low x=s.low x
 part:∀x,x<n→0≤s.part x→s'.part x=s.part x
 stk:∃w,s'.stk=s.stk++w∧∀x∈w,s.num x=0
 vis:s'.num a≠0
 cnt:s.cnt≤s'.cnt
 fresh:∀x,x<n→s.num x=0→s'.num x≠0→s.cnt<s'.num x
 black:∀x,x<n→s.num x=0→s'.num x≠0→∀y,E x y→s'.num y≠0
 low:s'.low a=s'.num a∨∃y∈s.stk,s'.low a=s.num y∧Rch E a y
 min:∀x∈s'.stk,s.num x=0→∀y∈s.stk,E x y→s'.low a≤s.num y
structure TL (n:Nat) (E:Nat→Nat→Prop) (gr:Nat→Prop) (s:TS) (a:Nat) (sc:Nat→Prop) (s':TS):Prop where
 inv:TI n E (fun g=>gr g∨g=a) s'
 num:∀x,x<n→s.num x≠0→s'.num x=s.num x∧s'.low x=s.low x
 part:∀x,x<n→0≤s.part x→s'.part x=s.part x
 stk:∃w,s'.stk=s.stk++a::w∧∀x∈w,s.num x=0∧x≠a
 na:s'.num a=s.cnt+1
 cnt:s.cnt+1≤s'.cnt
 fresh:∀x,x<n→s.num x=0→s'.num x≠0→x≠a→s.cnt+1<s'.num x
 black:∀x,x<n→x≠a→s.num x=0→s'.num x≠0→∀y,E x y→s'.num y≠0
 lowa:s'.low a≤s.cnt+1
 low:s'.low a=s'.num a∨∃y∈s.stk,s'.low a=s.num y∧Rch E a y
 min:∀x∈s'.stk,x≠a→s.num x=0→∀y∈s.stk,E x y→s'.low a≤s.num y
 proc:∀y,sc y→y<n∧s'.num y≠0∧(y∈s.stk→s'.low a≤s.num y)
def TS.push (s:TS) (a:Nat):TS:={ s with num:=fput s.num a (s.cnt+1),low:=fput s.low a (s.cnt+1),stk:=s.stk++[a],cnt:=s.cnt+1 }
def TS.lower (s:TS) (a:Nat) (v:Int):TS:={ s with low:=fput s.low a (min (s.low a) v) }
def TS.pop (s:TS) (st:List Nat) (c:List Nat):TS:={ s with part:=fun x=>if x∈c then s.prt else s.part x,stk:=st,prt:=s.prt+1 }
section
variable {n:Nat}{E:Nat→Nat→Prop}{gr:Nat→Prop}{s s1 s2:TS}{a b:Nat}{sc:Nat→Prop}
theorem TI.stk_lt (h:TI n E gr s) {x:Nat}(hx:x∈s.stk):x<n:=((h.mem x).1 hx).1
theorem TI.stk_num (h:TI n E gr s) {x:Nat}(hx:x∈s.stk):s.num x≠0:=((h.mem x).1 hx).2.1
theorem TL.start (hE:∀x y,E x y→x<n∧y<n) (h:TI n E gr s) (ha:a<n) (h0:s.num a=0) (hg:∀g,gr g→g∈s.stk→Rch E g a):TL n E gr s a (fun _=>False) (s.push a):=by
 have hc:=h.cnt
 have hns:∀x,x∈s.stk→x≠a:=fun x hx e=>h.stk_num hx (e▸h0)
 refine⟨⟨?_,?_,?_,?_,?_,h.done,h.bnd,h.scc,?_,?_⟩,?_,fun _ _ _=>rfl,⟨[],by simp[TS.push],by simp⟩,by simp[TS.push],by simp[TS.push],?_,?_,by simp[TS.push],.inl (by simp[TS.push]),?_,fun y hy=>hy.elim⟩
 ·intro x hx
  have:=h.num x hx
  by_cases e:x=a
  ·subst e;simp[TS.push];omega
  ·simp[TS.push,fput_ne e];omega
 ·simp[TS.push];omega
 ·intro x
  by_cases e:x=a
  ·subst e
   simp only[TS.push,List.mem_append,List.mem_singleton,or_true,fput_self,true_iff]
   exact⟨ha,by omega,h.new _ ha h0⟩
  ·simp only[TS.push,List.mem_append,List.mem_singleton,e,or_false,fput_ne e]
   exact h.mem x
 ·simp only[TS.push,List.pairwise_append]
  refine⟨h.ord.imp_of_mem ?_,List.pairwise_singleton _ _,?_⟩
  ·intro x y hx hy hxy
   rw[fput_ne (hns x hx),fput_ne (hns y hy)];exact hxy
  ·intro x hx y hy
   obtain rfl:y=a:=by simpa using hy
   rw[fput_ne (hns x hx)]
   have:=h.num x (h.stk_lt hx)
   simp;omega
 ·intro x hx hx0
  by_cases e:x=a
  ·subst e;exact h.new _ hx h0
  ·simp only[TS.push,fput_ne e] at hx0;exact h.new _ hx hx0
 ·intro x y hx hy hxy
  simp only[TS.push,List.mem_append,List.mem_singleton] at hx hy hxy
  rcases hx with hx | rfl
  ·rcases hy with hy | rfl
   ·rw[fput_ne (hns x hx),fput_ne (hns y hy)] at hxy
    exact h.s1 x y hx hy hxy
   ·obtain⟨g,g1,g2,_,g4⟩:=h.s2 x hx
    exact g4.trans (hg g g1 g2)
  ·rcases hy with hy | rfl
   ·rw[fput_self,fput_ne (hns y hy)] at hxy
    have:=h.num y (h.stk_lt hy)
    omega
   ·exact .refl _
 ·intro x hx
  simp only[TS.push,List.mem_append,List.mem_singleton] at hx ⊢
  rcases hx with hx | rfl
  ·obtain⟨g,g1,g2,g3,g4⟩:=h.s2 x hx
   exact⟨g,.inl g1,.inl g2,by rw[fput_ne (hns g g2),fput_ne (hns x hx)];exact g3,g4⟩
  ·exact⟨x,.inr rfl,.inr rfl,Int.le_refl _,.refl _⟩
 ·intro x hx hx0
  have e:x≠a:=fun e=>hx0 (e▸h0)
  simp[TS.push,fput_ne e]
 ·intro x hx hx0 hx1 e
  simp only[TS.push,fput_ne e] at hx1;exact absurd hx0 hx1
 ·intro x hx e hx0 hx1
  simp only[TS.push,fput_ne e] at hx1;exact absurd hx0 hx1
 ·intro x hx e hx0
  simp only[TS.push,List.mem_append,List.mem_singleton,e,or_false] at hx
  exact absurd hx0 (h.stk_num hx)
theorem TL.lower (h:TL n E gr s a sc s1) {v:Int}(hab:E a b) (hE:∀x y,E x y→x<n∧y<n) (ha0:s.num a=0) (hi:TI n E gr s)
  (hb:s1.num b≠0) (hv:v<s1.low a→∃y∈s.stk,v=s.num y∧Rch E b y) (hsb:b∈s.stk→v≤s.num b):TL n E gr s a (fun y=>sc y∨y=b) (s1.lower a v):=by
 refine⟨⟨h.inv.num,h.inv.cnt,h.inv.mem,h.inv.ord,h.inv.new,h.inv.done,h.inv.bnd,h.inv.scc,h.inv.s1,h.inv.s2⟩,?_,h.part,h.stk,h.na,h.cnt,h.fresh,h.black,?_,?_,?_,?_⟩
 ·intro x hx hx0
  have e:x≠a:=fun e=>hx0 (e▸ha0)
  exact⟨(h.num x hx hx0).1,by simp only[TS.lower,fput_ne e];exact (h.num x hx hx0).2⟩
 ·have:=h.lowa;simp[TS.lower];omega
 ·simp only[TS.lower,fput_self]
  by_cases hlt:v<s1.low a
  ·obtain⟨y,h1,h2,h3⟩:=hv hlt
   exact .inr ⟨y,h1,by omega,.step hab h3⟩
  ·rw[Int.min_eq_left (by omega)];exact h.low
 ·intro x hx e hx0 y hy hxy
  have:=h.min x hx e hx0 y hy hxy
  simp only[TS.lower,fput_self];omega
 ·rintro y (hy | rfl)
  ·have:=h.proc y hy
   exact⟨this.1,this.2.1,fun hm=>by have:=this.2.2 hm;simp only[TS.lower,fput_self];omega⟩
  ·exact⟨(hE _ _ hab).2,hb,fun hm=>by have:=hsb hm;simp only[TS.lower,fput_self];omega⟩
theorem TL.skip (h:TL n E gr s a sc s1) (hi:TI n E gr s) (hbn:b<n) (hb:s1.num b≠0) (hp:0≤s1.part b):TL n E gr s a (fun y=>sc y∨y=b) s1:=by
 refine⟨h.inv,h.num,h.part,h.stk,h.na,h.cnt,h.fresh,h.black,h.lowa,h.low,h.min,?_⟩
 rintro y (hy | rfl)
 ·exact h.proc y hy
 ·refine⟨hbn,hb,fun hm=>?_⟩
  obtain⟨w,hw,_⟩:=h.stk
  have:y∈s1.stk:=by rw[hw];simp[hm]
  have:=((h.inv.mem y).1 this).2.2
  omega
theorem TL.seen (h:TL n E gr s a sc s1) (hab:E a b) (hE:∀x y,E x y→x<n∧y<n) (ha0:s.num a=0) (hi:TI n E gr s) (hb:s1.num b≠0) (hp:s1.part b<0):TL n E gr s a (fun y=>sc y∨y=b) (s1.lower a (s1.num b)):=by
 have hbn:=(hE _ _ hab).2
 refine h.lower hab hE ha0 hi hb ?_ ?_
 ·intro hlt
  have hm:b∈s1.stk:=(h.inv.mem b).2 ⟨hbn,hb,hp⟩
  obtain⟨w,hw,hw2⟩:=h.stk
  rw[hw] at hm
  have hl:=h.lowa
  rcases List.mem_append.1 hm with hm | hm
  ·exact⟨b,hm,(h.num b hbn (hi.stk_num hm)).1,.refl _⟩
  ·exfalso
   rcases List.mem_cons.1 hm with rfl | hm
   ·have:=h.na;omega
   ·have h1:=hw2 b hm
    have:=h.fresh b hbn h1.1 hb h1.2
    omega
 ·intro hm
  rw[(h.num b hbn (hi.stk_num hm)).1];exact Int.le_refl _
theorem TL.gray (h:TL n E gr s a sc s1) (hab:E a b) (hi:TI n E gr s) (hgr:∀g,gr g→g<n∧s.num g≠0) (han:a<n):(∀g,(gr g∨g=a)→g∈s1.stk→Rch E g b)∧(∀g,(gr g∨g=a)→g<n∧s1.num g≠0)∧a∈s1.stk:=by
 obtain⟨w,hw,hw2⟩:=h.stk
 have ha:a∈s1.stk:=by rw[hw];simp
 have hna:=h.na
 have hc:=hi.cnt
 refine⟨?_,?_,ha⟩
 ·rintro g (hg | rfl) hm
  ·refine (h.inv.s1 g a hm ha ?_).trans (.one hab)
   rw[(h.num g (h.inv.stk_lt hm) (hgr g hg).2).1,hna]
   have:=hi.num g (h.inv.stk_lt hm)
   omega
  ·exact .one hab
 ·rintro g (hg | rfl)
  ·have h1:=hgr g hg
   rw[(h.num g h1.1 h1.2).1];exact h1
  ·exact⟨han,by omega⟩
theorem TL.visit (h:TL n E gr s a sc s1) (hab:E a b) (hE:∀x y,E x y→x<n∧y<n) (ha0:s.num a=0) (hi:TI n E gr s) (hb0:s1.num b=0) (hv:TV n E (fun g=>gr g∨g=a) s1 b s2) :
  TL n E gr s a (fun y=>sc y∨y=b) (s2.lower a (s2.low b)):=by
 have han:=(hE _ _ hab).1
 have hbn:=(hE _ _ hab).2
 have hna:=h.na
 have hc:=hi.cnt
 have hc1:=h.inv.cnt
 obtain⟨w,hw,hw2⟩:=h.stk
 obtain⟨w2,hw3,hw4⟩:=hv.stk
 have ha1:s1.num a≠0:=by omega
 have hkeep:∀x,x<n→s.num x≠0→s1.num x≠0:=fun x hx h0=>by rw[(h.num x hx h0).1];exact h0
 have hb00:s.num b=0:=by
  by_cases h0:s.num b=0
  ·exact h0
  ·exact absurd hb0 (hkeep b hbn h0)
 have hva:=hv.num a han ha1
 have hla:(s2.lower a (s2.low b)).low a=Min.min (s1.low a) (s2.low b):=by simp[TS.lower,hva.2]
 have hlow:s2.low b<s1.low a→∃y∈s.stk,s2.low b=s.num y∧Rch E b y:=by
  intro hlt
  have hl:=h.lowa
  rcases hv.low with h1 | ⟨y,hy,h2,h3⟩
  ·have:=hv.fresh b hbn hb0 hv.vis
   have:=h.cnt
   omega
  ·rw[hw] at hy
   rcases List.mem_append.1 hy with hm | hm
   ·exact⟨y,hm,by rw[h2,(h.num y (hi.stk_lt hm) (hi.stk_num hm)).1],h3⟩
   ·exfalso
    rcases List.mem_cons.1 hm with rfl | hm
    ·omega
    ·have h4:=hw2 y hm
     have hyn:y<n:=h.inv.stk_lt (by rw[hw];simp[hm])
     have:=h.fresh y hyn h4.1 (h.inv.stk_num (by rw[hw];simp[hm])) h4.2
     omega
 refine⟨⟨hv.inv.num,hv.inv.cnt,hv.inv.mem,hv.inv.ord,hv.inv.new,hv.inv.done,hv.inv.bnd,hv.inv.scc,hv.inv.s1,hv.inv.s2⟩,?_,?_,⟨w++w2,by show s2.stk=_;rw[hw3,hw];simp,?_⟩,by show s2.num a=_;rw[hva.1];exact hna,Int.le_trans h.cnt hv.cnt,?_,?_,by have:=h.lowa;rw[hla];omega,?_,?_,?_⟩
 ·intro x hx hx0
  have e1:=h.num x hx hx0
  have e2:=hv.num x hx (hkeep x hx hx0)
  have e:x≠a:=fun e=>hx0 (e▸ha0)
  exact⟨by show s2.num x=_;rw[e2.1,e1.1],by simp only[TS.lower,fput_ne e];rw[e2.2,e1.2]⟩
 ·intro x hx hx0
  have e1:=h.part x hx hx0
  show s2.part x=_
  rw[hv.part x hx (by rw[e1];exact hx0),e1]
 ·intro x hx
  rcases List.mem_append.1 hx with hx | hx
  ·exact hw2 x hx
  ·have h1:=hw4 x hx
   have hxn:x<n:=hv.inv.stk_lt (by rw[hw3];simp[hx])
   refine⟨?_,fun e=>ha1 (e▸h1)⟩
   by_cases h0:s.num x=0
   ·exact h0
   ·exact absurd h1 (hkeep x hxn h0)
 ·intro x hx hx0 hx2 e
  show s.cnt+1<s2.num x
  by_cases h1:s1.num x=0
  ·have:=hv.fresh x hx h1 hx2
   have:=h.cnt
   omega
  ·have:=h.fresh x hx hx0 h1 e
   rw[(hv.num x hx h1).1];exact this
 ·intro x hx e hx0 hx2 y hxy
  show s2.num y≠0
  by_cases h1:s1.num x=0
  ·exact hv.black x hx h1 hx2 y hxy
  ·have h3:=h.black x hx e hx0 h1 y hxy
   rw[(hv.num y (hE _ _ hxy).2 h3).1];exact h3
 ·rw[hla]
  by_cases hlt:s2.low b<s1.low a
  ·obtain⟨y,h1,h2,h3⟩:=hlow hlt
   exact .inr ⟨y,h1,by rw[Int.min_eq_right (Int.le_of_lt hlt)];exact h2,.step hab h3⟩
  ·rw[Int.min_eq_left (Int.not_lt.1 hlt)]
   rcases h.low with h1 | h1
   ·exact .inl (by rw[h1];exact hva.1.symm)
   ·exact .inr h1
 ·intro x hx e hx0 y hy hxy
  rw[hla]
  clear hlow
  by_cases h1:s1.num x=0
  ·have h3:=hv.min x hx h1 y (by rw[hw];simp[hy]) hxy
   rw[(h.num y (hi.stk_lt hy) (hi.stk_num hy)).1] at h3
   omega
  ·have h3:=h.min x (by
    have hx:x∈s2.stk:=hx
    rw[hw3] at hx
    rcases List.mem_append.1 hx with hx | hx
    ·exact hx
    ·exact absurd (hw4 x hx) h1) e hx0 y hy hxy
   omega
 ·clear hlow
  rintro y (hy | rfl)
  ·have h1:=h.proc y hy
   refine⟨h1.1,?_,fun hm=>?_⟩
   ·show s2.num y≠0
    rw[(hv.num y h1.1 h1.2.1).1];exact h1.2.1
   ·have:=h1.2.2 hm
    rw[hla];omega
  ·exact⟨hbn,hv.vis,fun hm=>absurd hb00 (hi.stk_num hm)⟩
theorem TL.vis_of (h:TL n E gr s a sc s1) (hall:∀y,E a y→sc y) {x y:Nat}(hx:x<n) (hx0:s.num x=0) (hx1:s1.num x≠0) (hxy:E x y):s1.num y≠0:=by
 by_cases e:x=a
 ·subst e;exact (h.proc y (hall y hxy)).2.1
 ·exact h.black x hx e hx0 hx1 y hxy
theorem TL.end1 (h:TL n E gr s a sc s1) (hall:∀y,E a y→sc y) (han:a<n) (ha0:s.num a=0) (hi:TI n E gr s) (hne:s1.low a≠s1.num a):TV n E gr s a s1:=by
 obtain⟨w,hw,hw2⟩:=h.stk
 have hna:=h.na
 have hc:=hi.cnt
 obtain⟨y,hy,hly,hry⟩:∃y∈s.stk,s1.low a=s.num y∧Rch E a y:=h.low.resolve_left hne
 have hyn:=hi.num y (hi.stk_lt hy)
 have hy1:=h.num y (hi.stk_lt hy) (hi.stk_num hy)
 refine⟨⟨h.inv.num,h.inv.cnt,h.inv.mem,h.inv.ord,h.inv.new,h.inv.done,h.inv.bnd,h.inv.scc,h.inv.s1,?_⟩,h.num,h.part,⟨a::w,hw,?_⟩,by omega,by have:=h.cnt;omega,?_,?_,h.low,?_⟩
 ·intro x hx
  obtain⟨g,h1 | rfl,h2,h3,h4⟩:=h.inv.s2 x hx
  ·exact⟨g,h1,h2,h3,h4⟩
  ·obtain⟨g',k1,k2,k3,k4⟩:=hi.s2 y hy
   have hg':=h.num g' (hi.stk_lt k2) (hi.stk_num k2)
   exact⟨g',k1,by rw[hw];simp[k2],by omega,h4.trans (hry.trans k4)⟩
 ·intro x hx
  rcases List.mem_cons.1 hx with rfl | hx
  ·exact ha0
  ·exact (hw2 x hx).1
 ·intro x hx hx0 hx1
  by_cases e:x=a
  ·subst e;omega
  ·have:=h.fresh x hx hx0 hx1 e;omega
 ·intro x hx hx0 hx1 y hxy
  exact h.vis_of hall hx hx0 hx1 hxy
 ·intro x hx hx0 y hy hxy
  by_cases e:x=a
  ·subst e;exact (h.proc y (hall y hxy)).2.2 hy
  ·exact h.min x hx e hx0 y hy hxy
theorem TL.end2 (h:TL n E gr s a sc s1) (hE:∀x y,E x y→x<n∧y<n) (hall:∀y,E a y→sc y) (han:a<n) (ha0:s.num a=0) (hi:TI n E gr s) (hgr:∀g,gr g→g<n∧s.num g≠0) (he:s1.low a=s1.num a) {w:List Nat}(hw:s1.stk=s.stk++a::w):TV n E gr s a (s1.pop s.stk (a::w)):=by
 have hw2:∀x∈w,s.num x=0∧x≠a:=by
  obtain⟨w',hw',hw2⟩:=h.stk
  rw[hw] at hw'
  have:w=w':=by simpa using hw'
  subst this;exact hw2
 have hna:=h.na
 have hc:=hi.cnt
 have hc1:=h.inv.cnt
 have hcm:∀x,x∈a::w→x∈s1.stk:=fun x hx=>by rw[hw];exact List.mem_append_right _ hx
 have hC0:∀x∈a::w,s.num x=0:=fun x hx=>by
  rcases List.mem_cons.1 hx with rfl | hx
  ·exact ha0
  ·exact (hw2 x hx).1
 have hso:∀x∈s.stk,x∉a::w:=fun x hx hx2=>hi.stk_num hx (hC0 x hx2)
 have ham:a∈s1.stk:=hcm a (by simp)
 -- the component and what is done are closed
 have hclo:∀x y,(x∈a::w∨(x<n∧0≤s1.part x))→E x y→(y∈a::w∨(y<n∧0≤s1.part y)):=by
  rintro x y (hx | hx) hxy
  ·have hyn:=(hE _ _ hxy).2
   have hxs:=hcm x hx
   have hyv:=h.vis_of hall (h.inv.stk_lt hxs) (hC0 x hx) (h.inv.stk_num hxs) hxy
   by_cases hp:0≤s1.part y
   ·exact .inr ⟨hyn,hp⟩
   ·have hys:y∈s1.stk:=(h.inv.mem y).2 ⟨hyn,hyv,by omega⟩
    rw[hw] at hys
    rcases List.mem_append.1 hys with hy2 | hy2
    ·exfalso
     have hle:s1.low a≤s.num y:=by
      by_cases e:x=a
      ·subst e;exact (h.proc y (hall y hxy)).2.2 hy2
      ·exact h.min x hxs e (hC0 x hx) y hy2 hxy
     have:=hi.num y (hi.stk_lt hy2)
     omega
    ·exact .inl hy2
  ·exact .inr ⟨(hE _ _ hxy).2,h.inv.done x y hx.1 hx.2 hxy⟩
 have hreach:∀x y,x∈a::w→Rch E x y→(y∈a::w∨(y<n∧0≤s1.part y)):=fun x y hx hr=>hr.closed hclo (.inl hx)
 have hdone:∀x y,x<n→0≤s1.part x→Rch E x y→0≤s1.part y∧y<n:=fun x y hx hp hr=>
  hr.closed (C:=fun z=>0≤s1.part z∧z<n) (fun u v hu huv=>⟨h.inv.done u v hu.2 hu.1 huv,(hE _ _ huv).2⟩) ⟨hp,hx⟩
 have hpn:∀x∈a::w,s1.part x<0:=fun x hx=>((h.inv.mem x).1 (hcm x hx)).2.2
 have hnum:∀x∈a::w,s1.num a≤s1.num x:=by
  intro x hx
  rcases List.mem_cons.1 hx with rfl | hx
  ·exact Int.le_refl _
  ·have h1:=hw2 x hx
   have hm:=hcm x (by simp[hx])
   have:=h.fresh x (h.inv.stk_lt hm) h1.1 (h.inv.stk_num hm) h1.2
   omega
 have hto:∀x∈a::w,Rch E a x:=fun x hx=>h.inv.s1 a x ham (hcm x hx) (hnum x hx)
 have hfrom:∀x∈a::w,Rch E x a:=by
  intro x hx
  obtain⟨g,h1 | rfl,h2,h3,h4⟩:=h.inv.s2 x (hcm x hx)
  ·exfalso
   have hg:=hgr g h1
   rcases hreach x g hx h4 with h5 | h5
   ·exact hg.2 (hC0 g h5)
   ·have:=((h.inv.mem g).1 h2).2.2
    omega
  ·exact h4
 have hCC:∀x y,x∈a::w→y∈a::w→Scc E x y:=fun x y hx hy=>⟨(hfrom x hx).trans (hto y hy),(hfrom y hy).trans (hto x hx)⟩
 have hpart:∀x,(s1.pop s.stk (a::w)).part x=if x∈a::w then s1.prt else s1.part x:=fun x=>rfl
 have hsl:s1.stk.length=s.stk.length+1+w.length:=by rw[hw];simp;omega
 refine⟨⟨h.inv.num,?_,?_,?_,?_,?_,?_,?_,?_,?_⟩,h.num,?_,⟨[],by simp[TS.pop],by simp⟩,by show s1.num a≠0;omega,by show s.cnt≤s1.cnt;have:=h.cnt;omega,?_,?_,.inl he,?_⟩
 ·show 0≤s1.prt+1∧s1.prt+1+(s.stk.length:Int)≤s1.cnt
  omega
 ·intro x
  rw[hpart]
  show x∈s.stk↔x<n∧s1.num x≠0∧_
  constructor
  ·intro hx
   have h1:=hso x hx
   rw[if_neg h1]
   exact (h.inv.mem x).1 (by rw[hw];exact List.mem_append_left _ hx)
  ·rintro⟨h1,h2,h3⟩
   split at h3
   ·omega
   ·rename_i hno
    have:=(h.inv.mem x).2 ⟨h1,h2,h3⟩
    rw[hw] at this
    exact (List.mem_append.1 this).resolve_right hno
 ·show s.stk.Pairwise fun x y=>s1.num x<s1.num y
  have:=h.inv.ord
  rw[hw] at this
  exact (List.pairwise_append.1 this).1
 ·intro x hx hx0
  rw[hpart,if_neg]
  ·exact h.inv.new x hx hx0
  ·intro hm;exact h.inv.stk_num (hcm x hm) hx0
 ·intro x y hx hp hxy
  rw[hpart] at hp ⊢
  have h2:y∈a::w∨(y<n∧0≤s1.part y):=by
   split at hp
   ·rename_i hm;exact hclo x y (.inl hm) hxy
   ·exact hclo x y (.inr ⟨hx,hp⟩) hxy
  rcases h2 with h2 | h2
  ·rw[if_pos h2];omega
  ·split
   ·omega
   ·exact h2.2
 ·intro x hx
  rw[hpart]
  have:=h.inv.bnd x hx
  show _∧_<s1.prt+1
  split<;>omega
 ·intro x y hx hy hpx hpy
  rw[hpart] at hpx hpy ⊢
  rw[hpart]
  by_cases hxc:x∈a::w
  ·by_cases hyc:y∈a::w
   ·rw[if_pos hxc,if_pos hyc]
    simp[hCC x y hxc hyc]
   ·rw[if_neg hyc] at hpy
    rw[if_pos hxc,if_neg hyc]
    have:=h.inv.bnd y hy
    constructor
    ·intro e;omega
    ·rintro⟨_,h2⟩
     have h3:=hdone y x hy hpy h2
     have:=hpn x hxc
     omega
  ·rw[if_neg hxc] at hpx
   by_cases hyc:y∈a::w
   ·rw[if_neg hxc,if_pos hyc]
    have:=h.inv.bnd x hx
    constructor
    ·intro e;omega
    ·rintro⟨h2,_⟩
     have h3:=hdone x y hx hpx h2
     have:=hpn y hyc
     omega
   ·rw[if_neg hyc] at hpy
    rw[if_neg hxc,if_neg hyc]
    exact h.inv.scc x y hx hy hpx hpy
 ·intro x y hx hy hxy
  exact h.inv.s1 x y (by rw[hw];exact List.mem_append_left _ hx) (by rw[hw];exact List.mem_append_left _ hy) hxy
 ·intro x hx
  have hx:x∈s.stk:=hx
  obtain⟨g,k1,k2,k3,k4⟩:=hi.s2 x hx
  have e1:=h.num g (hi.stk_lt k2) (hi.stk_num k2)
  have e2:=h.num x (hi.stk_lt hx) (hi.stk_num hx)
  exact⟨g,k1,k2,by show s1.num g≤s1.num x;omega,k4⟩
 ·intro x hx hp
  have e1:=h.part x hx hp
  rw[hpart,if_neg,e1]
  intro hm
  have:=hpn x hm
  omega
 ·intro x hx hx0 hx1
  show s.cnt<s1.num x
  have hx1:s1.num x≠0:=hx1
  by_cases e:x=a
  ·subst e;omega
  ·have:=h.fresh x hx hx0 hx1 e;omega
 ·intro x hx hx0 hx1 y hxy
  exact h.vis_of hall hx hx0 hx1 hxy
 ·intro x hx hx0
  have hx:x∈s.stk:=hx
  exact absurd hx0 (hi.stk_num hx)
theorem TI.done_all (h:TI n E (fun _=>False) s):s.stk=[]:=by
 cases hs:s.stk with
 | nil=>rfl
 | cons x l=>
  obtain⟨g,hg,_⟩:=h.s2 x (by rw[hs];simp)
  exact hg.elim
theorem TI.start (h0:∀x,x<n→s.num x=0) (h1:∀x,x<n→s.part x = -1) (h2:s.stk=[]) (h3:s.cnt=0) (h4:s.prt=0):TI n E (fun _=>False) s:=by
 refine⟨fun x hx=>by rw[h0 x hx,h3];omega,by rw[h2,h3,h4];simp,fun x=>?_,by rw[h2];simp,fun x hx _=>by rw[h1 x hx];omega,fun x y hx hp=>by rw[h1 x hx] at hp;omega,fun x hx=>by rw[h1 x hx,h4];omega,fun x y hx _ hp=>by rw[h1 x hx] at hp;omega,fun x y hx=>by rw[h2] at hx;simp at hx,fun x hx=>by rw[h2] at hx;simp at hx⟩
 rw[h2]
 constructor
 ·intro h;simp at h
 ·rintro⟨h5,h6,_⟩;exact absurd (h0 x h5) h6
theorem TI.result (h:TI n E (fun _=>False) s) (hall:∀x,x<n→s.num x≠0):(∀x,x<n→0≤s.part x)∧∀x y,x<n→y<n→(s.part x=s.part y↔Scc E x y):=by
 have h1:∀x,x<n→0≤s.part x:=by
  intro x hx
  have:=h.mem x
  rw[h.done_all] at this
  by_cases hp:0≤s.part x
  ·exact hp
  ·have h2:=this.2 ⟨hx,hall x hx,by omega⟩
   simp at h2
 exact⟨h1,fun x y hx hy=>h.scc x y hx hy (h1 x hx) (h1 y hy)⟩
end
structure Srch (E:Nat→Nat→Prop) (S B td:Nat→Prop):Prop where
 sound:∀x,B x→∃s,S s∧Rch E s x
 start:∀s,S s→B s
 closed:∀x y,B x→¬td x→E x y→B y
theorem Rch.snoc {E:Nat→Nat→Prop}{x y z:Nat}(h:Rch E x y) (e:E y z):Rch E x z:=h.trans (.one e)
section
variable {E:Nat→Nat→Prop}{S B B' td td':Nat→Prop}
theorem Srch.done (h:Srch E S B td) (h0:∀x,¬td x) {x:Nat}:B x↔∃s,S s∧Rch E s x:=
 ⟨h.sound x,fun ⟨s,hs,hr⟩=>hr.closed (fun u v hu huv=>h.closed u v hu (h0 u) huv) (h.start s hs)⟩
theorem Srch.add (h:Srch E S B td) {x y:Nat}(hx:B x) (hxy:E x y) (hB:∀z,B' z↔B z∨z=y) (ht:∀z,td' z↔td z∨z=y):Srch E S B' td':=by
 refine⟨fun z hz=>?_,fun s hs=>(hB s).2 (.inl (h.start s hs)),fun u v hu htd huv=>?_⟩
 ·rcases (hB z).1 hz with hz | rfl
  ·exact h.sound z hz
  ·obtain⟨s,hs,hr⟩:=h.sound x hx
   exact⟨s,hs,hr.snoc hxy⟩
 ·rw[ht] at htd
  rcases (hB u).1 hu with hu | rfl
  ·exact (hB v).2 (.inl (h.closed u v hu (fun h=>htd (.inl h)) huv))
  ·exact absurd (.inr rfl) htd
theorem Srch.drop (h:Srch E S B td) {x:Nat}(hx:∀y,E x y→B y) (ht:∀z,td z→td' z∨z=x):Srch E S B td':=by
 refine⟨h.sound,h.start,fun u v hu htd huv=>?_⟩
 by_cases e:u=x
 ·subst e;exact hx v huv
 ·exact h.closed u v hu (fun h1=>(ht u h1).elim htd e) huv
theorem Srch.init (hB:∀x,B x↔S x) (ht:∀x,S x→td x):Srch E S B td:=
 ⟨fun x hx=>⟨x,(hB x).1 hx,.refl x⟩,fun s hs=>(hB s).2 hs,fun x y hx hn _=>absurd (ht x ((hB x).1 hx)) hn⟩
theorem Srch.congr (h:Srch E S B td) (hB:∀x,B x↔B' x) (ht:∀x,td x↔td' x):Srch E S B' td':=
 ⟨fun x hx=>h.sound x ((hB x).2 hx),fun s hs=>(hB s).1 (h.start s hs),fun x y hx hn hxy=>(hB y).1 (h.closed x y ((hB x).2 hx) (fun ht'=>hn ((ht x).1 ht')) hxy)⟩
end
def tru (B:List Bool) (x:Nat):Prop:=B.getD x false=true
theorem tru_set {B:List Bool}{i:Nat}(hi:i<B.length) {x:Nat}:tru (B.set i true) x↔tru B x∨x=i:=by
 simp only[tru,List.getD_eq_getElem?_getD,List.getElem?_set]
 by_cases h:i=x
 ·subst h;simp[hi]
 ·simp[h,Ne.symm h]
theorem tru_get {B:List Bool}{i:Nat}(hi:i<B.length):tru B i↔B[i]=true:=by simp[tru,hi]
theorem tru_lt {B:List Bool}{x:Nat}(h:tru B x):x<B.length:=by
 by_cases hx:x<B.length
 ·exact hx
 ·simp[tru,List.getElem?_eq_none (Nat.le_of_not_lt hx)] at h
theorem count_set {B:List Bool}{i:Nat}(hi:i<B.length) (hb:B[i]=false):(B.set i true).count false+1=B.count false:=by
 rw[List.count_set hi,hb]
 have:0<B.count false:=List.count_pos_iff.2 (hb▸List.getElem_mem hi)
 simp;omega
theorem tru_replicate {n x:Nat}:¬tru (List.replicate n false) x:=by
 simp only[tru,List.getD_eq_getElem?_getD,List.getElem?_replicate]
 split<;>simp
structure Adj (E:Nat→Nat→Prop) (G:List (List Int)):Prop where
 lt:∀x y,E x y→x<G.length∧y<G.length
 mem:∀x (hx:x<G.length) z,z∈G[x]↔∃y:Nat,z=y∧E x y
theorem Adj.get {E:Nat→Nat→Prop}{G:List (List Int)}(h:Adj E G) {x j:Nat}(hx:x<G.length) (hj:j<G[x].length):∃y:Nat,G[x][j]=(y:Int)∧E x y∧y<G.length:=by
 obtain⟨y,h1,h2⟩:=(h.mem x hx _).1 (List.getElem_mem hj)
 exact⟨y,h1,h2,(h.lt x y h2).2⟩
theorem Adj.of {E:Nat→Nat→Prop}{G:List (List Int)}(h:Adj E G) {x y:Nat}(hxy:E x y):∃(hx:x<G.length) (j:Nat) (hj:j<G[x].length),G[x][j]=(y:Int):=by
 have hx:=(h.lt x y hxy).1
 obtain⟨j,hj,h1⟩:=List.mem_iff_getElem.1 ((h.mem x hx y).2 ⟨y,rfl,hxy⟩)
 exact⟨hx,j,hj,h1⟩
theorem Adj.all {E:Nat→Nat→Prop}{G:List (List Int)}(h:Adj E G) {x:Nat}(hx:x<G.length) {C:Nat→Prop}(hC:∀j (hj:j<G[x].length),∀y:Nat,G[x][j]=(y:Int)→C y) {y:Nat}(hxy:E x y):C y:=by
 obtain⟨_,j,hj,h1⟩:=h.of hxy
 exact hC j hj y h1
theorem part_cycle {n:Nat}{E:Nat→Nat→Prop}{P:Nat→Int}(hP:∀x y,x<n→y<n→(P x=P y↔Scc E x y)) (hE:∀x y,E x y→x<n∧y<n) {x:Nat}(hx:x<n) :
  Cyc E x↔1<((List.range n).filter fun y=>P y=P x).length∨E x x:=by
 rw[Cyc.iff,or_comm]
 have key:(∃y,y≠x∧Scc E x y)↔1<((List.range n).filter fun y=>P y=P x).length:=by
  constructor
  ·rintro⟨y,hne,hs⟩
   have hy:y<n:=by
    have:=hs.2
    cases this with
    | refl=>exact hx
    | step h _=>exact (hE _ _ h).1
   have h1:x∈(List.range n).filter fun y=>P y=P x:=by simp[hx]
   have h2:y∈(List.range n).filter fun y=>P y=P x:=by simp[hy,((hP x y hx hy).2 hs).symm]
   generalize (List.range n).filter (fun y=>decide (P y=P x))=l at h1 h2
   match l,h1,h2 with
   | [z],h1,h2=>simp at h1 h2;exact absurd (h2.trans h1.symm) hne
   | _::_::_,_,_=>simp
  ·intro hlt
   have hnd:((List.range n).filter fun y=>P y=P x).Nodup:=List.Pairwise.filter _ List.nodup_range
   have hm:∀y∈(List.range n).filter fun y=>P y=P x,y<n∧P y=P x:=by simp
   generalize (List.range n).filter (fun y=>decide (P y=P x))=l at hlt hnd hm
   match l,hlt,hnd,hm with
   | u::v::_,_,hnd,hm=>
    have huv:u≠v:=by
     intro e;subst e;simp at hnd
    have hu:=hm u (by simp)
    have hv:=hm v (by simp)
    by_cases e:u=x
    ·exact⟨v,fun e2=>huv (e.trans e2.symm),(hP x v hx hv.1).1 hv.2.symm⟩
    ·exact⟨u,e,(hP x u hx hu.1).1 hu.2.symm⟩
 rw[key]
def Aut.E (a:Aut) (x y:Nat):Prop:=∃e∈a.edges,e.frm=x∧e.to=y
theorem Aut.E_lt {a:Aut}(ha:a.Ok) (x y:Nat) (h:a.E x y):x<a.acc.length∧y<a.acc.length:=by
 obtain⟨e,he,h1,h2⟩:=h
 have:=ha.2.2.2 e he
 unfold Tr.Ok at this
 omega
def Aut.Reach (a:Aut) (q:Nat):Prop:=∃s:Nat,(s:Int)∈a.init∧Rch a.E s q
def Aut.Live (a:Aut) (q:Nat):Prop:=∃t,Rch a.E q t∧Cyc a.E t∧tru a.acc t
def kidx (K:Nat→Bool) (q:Nat):Nat:=((List.range q).filter K).length
theorem kidx_succ {K:Nat→Bool}{q:Nat}:kidx K (q+1)=kidx K q+if K q then 1 else 0:=by
 simp only[kidx,List.range_succ,List.filter_append,List.length_append,List.filter_cons,List.filter_nil]
 split<;>simp
theorem kidx_le {K:Nat→Bool}{q:Nat}:kidx K q≤q:=by
 have:=List.length_filter_le K (List.range q)
 simpa[kidx] using this
def Tr.ren (f:Int→Int) (e:Tr):Tr:=⟨f e.frm,e.care,e.value,f e.to⟩
def kout (K:Nat→Bool) (x:Int):Int:=kidx K x.toNat
def Aut.keep (a:Aut) (K:Nat→Bool):Aut:=
 if kidx K a.acc.length=0 then ⟨[],[false],[]⟩ else
  ⟨(a.init.filter fun q=>K q.toNat).map (kout K),((List.range a.acc.length).filter K).map fun q=>a.acc.getD q false,
   (a.edges.filter fun e=>K e.frm.toNat&&K e.to.toNat).map (Tr.ren (kout K))⟩
theorem incr_map {n m:Int}{K:Nat→Bool}:∀{lo lo':Int}{l:List Int},incr n lo l→(∀x∈l,K x.toNat=true)→-1≤lo→(0≤lo→lo'<kidx K (lo.toNat+1))→(lo<0→lo'<0)→(∀x∈l,(kidx K (x.toNat+1):Int)≤m)→incr m lo' (l.map (kout K))
 | lo,lo',[],_,_,_,_,_,_=>trivial
 | lo,lo',x::l,h,hK,h0,h1,h2,hm=>by
  have hx:=hK x (by simp)
  have hlx:=h.1
  have mono:∀p q:Nat,p≤q→kidx K p≤kidx K q:=by
   intro p q hpq
   induction hpq with
   | refl=>exact Nat.le_refl _
   | step _ ih=>rw[kidx_succ];omega
  have hs:=kidx_succ (K:=K) (q:=x.toNat)
  rw[if_pos hx] at hs
  have hmx:=hm x (by simp)
  refine⟨?_,?_,incr_map h.2.2 (fun y hy=>hK y (by simp[hy])) (by omega) (fun _=>?_) (fun hneg=>?_) (fun y hy=>hm y (by simp[hy]))⟩
  ·unfold kout
   by_cases hl:0≤lo
   ·have:=h1 hl
    have:=mono (lo.toNat+1) x.toNat (by omega)
    omega
   ·have:=h2 (by omega);omega
  ·unfold kout;omega
  ·unfold kout;omega
  ·omega
theorem incr_filter {n:Int}{p:Int→Bool}:∀{lo:Int}{l:List Int},incr n lo l→incr n lo (l.filter p)
 | _,[],_=>trivial
 | lo,x::l,h=>by
  have weak:∀{lo lo':Int}{l:List Int},lo'≤lo→incr n lo l→incr n lo' l:=by
   intro lo lo' l hle h
   cases l with
   | nil=>trivial
   | cons y l=>exact⟨by have:=h.1;omega,h.2.1,h.2.2⟩
  by_cases hp:p x=true
  ·rw[List.filter_cons_of_pos hp];exact⟨h.1,h.2.1,incr_filter h.2.2⟩
  ·rw[List.filter_cons_of_neg hp];exact weak (by have:=h.1;omega) (incr_filter h.2.2)
theorem kidx_mono {K:Nat→Bool}{p q:Nat}(hpq:p≤q):kidx K p≤kidx K q:=by
 induction hpq with
 | refl=>exact Nat.le_refl _
 | step _ ih=>rw[kidx_succ];omega
theorem kout_lt {K:Nat→Bool}{n:Nat}{x:Int}(h0:0≤x) (hx:x<n) (hK:K x.toNat=true):kout K x<kidx K n:=by
 have h1:=kidx_succ (K:=K) (q:=x.toNat)
 rw[if_pos hK] at h1
 have h2:=kidx_mono (K:=K) (show x.toNat+1≤n by omega)
 unfold kout;omega
theorem Aut.keep_len {a:Aut}{K:Nat→Bool}(h:kidx K a.acc.length≠0):(a.keep K).acc.length=kidx K a.acc.length:=by
 unfold Aut.keep
 rw[if_neg h]
 simp[kidx]
theorem Aut.keep_ok {a:Aut}(ha:a.Ok) (K:Nat→Bool):(a.keep K).Ok:=by
 by_cases h0:kidx K a.acc.length=0
 ·simp[Aut.keep,h0,Aut.Ok,incr]
 have hl:=Aut.keep_len h0
 have hn:=ha.n
 refine⟨?_,?_,?_,?_⟩
 ·rw[hl]
  have:=kidx_le (K:=K) (q:=a.acc.length)
  omega
 ·simp only[Aut.keep,h0,if_false,List.length_map]
  exact Nat.le_trans (List.length_filter_le _ _) ha.e
 ·rw[hl]
  simp only[Aut.keep,h0,if_false]
  refine incr_map (incr_filter ha.i) (fun x hx=>(List.mem_filter.1 hx).2) (by omega) (by omega) (by omega) ?_
  intro x hx
  have h1:=incr_mem ha.i x (List.mem_filter.1 hx).1
  have:=kidx_mono (K:=K) (show x.toNat+1≤a.acc.length by omega)
  omega
 ·rw[hl]
  simp only[Aut.keep,h0,if_false]
  intro t ht
  obtain⟨e,he,rfl⟩:=List.mem_map.1 ht
  obtain⟨he,hk⟩:=List.mem_filter.1 he
  simp only[Bool.and_eq_true] at hk
  have h1:=ha.2.2.2 e he
  unfold Tr.Ok at h1 ⊢
  have h2:=kout_lt h1.1 h1.2.1 hk.1
  have h3:=kout_lt h1.2.2.1 h1.2.2.2.1 hk.2
  simp only[Tr.ren]
  refine⟨?_,h2,?_,h3,h1.2.2.2.2⟩<;>(unfold kout;omega)
noncomputable def Aut.tkeep (a:Aut):Nat→Bool:=fun q=>@decide (a.Reach q∧a.Live q) (Classical.propDecidable _)
noncomputable def Aut.trim (a:Aut):Aut:=a.keep a.tkeep
structure NextI (a:Aut) (k:Nat) (G:List (List Int)):Prop where
 len:G.length=a.acc.length
 mem:∀x (hx:x<G.length) z,z∈G[x]↔∃e∈a.edges.take k,e.frm=x∧e.to=z
 le:∀x (hx:x<G.length),G[x].length≤k
theorem NextI.zero {a:Aut}:NextI a 0 (List.replicate a.acc.length []):=⟨by simp,by simp,by simp⟩
theorem NextI.step {a:Aut}{k:Nat}{G:List (List Int)}(h:NextI a k G) (hk:k<a.edges.length) {f t:Nat}(hf:a.edges[k].frm=f) (ht:a.edges[k].to=t) (hfG:f<G.length):NextI a (k+1) (G.set f (G[f]++[(t:Int)])):=by
 refine⟨by simp[h.len],?_,?_⟩
 ·intro x hx z
  have hx':x<G.length:=by simpa using hx
  rw[List.getElem_set,List.take_add_one,List.getElem?_eq_getElem hk]
  simp only[Option.toList_some,List.mem_append,List.mem_singleton]
  by_cases e:f=x
  ·subst e
   simp only[if_true,List.mem_append,List.mem_singleton,h.mem f hx']
   constructor
   ·rintro (⟨e,h1,h2⟩ | rfl)
    ·exact⟨e,.inl h1,h2⟩
    ·exact⟨_,.inr rfl,hf,ht⟩
   ·rintro⟨e,h1 | rfl,h2,h3⟩
    ·exact .inl ⟨e,h1,h2,h3⟩
    ·exact .inr (by rw[← h3,ht])
  ·rw[if_neg e,h.mem x hx']
   constructor
   ·rintro⟨e,h1,h2⟩;exact⟨e,.inl h1,h2⟩
   ·rintro⟨e',h1 | rfl,h2,h3⟩
    ·exact⟨e',h1,h2,h3⟩
    ·rw[hf] at h2;omega
 ·intro x hx
  have hx':x<G.length:=by simpa using hx
  rw[List.getElem_set]
  have:=h.le x hx'
  split
  ·rename_i e;subst e;simp;omega
  ·omega
theorem NextI.skip {a:Aut}{k:Nat}{G:List (List Int)}(h:NextI a k G) (hk:k<a.edges.length) {f t:Nat}(hf:a.edges[k].frm=f) (ht:a.edges[k].to=t) (hfG:f<G.length) (hm:(t:Int)∈G[f]):NextI a (k+1) G:=by
 refine⟨h.len,?_,fun x hx=>by have:=h.le x hx;omega⟩
 intro x hx z
 rw[List.take_add_one,List.getElem?_eq_getElem hk,h.mem x hx]
 simp only[Option.toList_some,List.mem_append,List.mem_singleton]
 constructor
 ·rintro⟨e,h1,h2⟩;exact⟨e,.inl h1,h2⟩
 ·rintro⟨e',h1 | rfl,h2,h3⟩
  ·exact⟨e',h1,h2,h3⟩
  ·rw[hf] at h2
   obtain rfl:f=x:=by omega
   rw[← h3,ht]
   exact (h.mem f hfG _).1 hm
theorem NextI.done {a:Aut}{k:Nat}{G:List (List Int)}(ha:a.Ok) (h:NextI a k G) (hk:a.edges.length≤k):Adj a.E G:=by
 refine⟨fun x y hxy=>by rw[h.len];exact a.E_lt ha x y hxy,fun x hx z=>?_⟩
 rw[h.mem x hx,List.take_of_length_le hk]
 constructor
 ·rintro⟨e,he,h1,h2⟩
  have h3:=ha.2.2.2 e he
  unfold Tr.Ok at h3
  exact⟨e.to.toNat,by omega,e,he,h1,by omega⟩
 ·rintro⟨y,rfl,e,he,h1,h2⟩
  exact⟨e,he,h1,h2⟩
theorem incr_iff {n:Int}:∀{lo:Int}{l:List Int},incr n lo l↔l.Pairwise (· < ·)∧∀x∈l,lo<x∧x<n
 | lo,[]=>by simp[incr]
 | lo,x::l=>by
  rw[show incr n lo (x::l)↔lo<x∧x<n∧incr n x l from Iff.rfl,incr_iff,List.pairwise_cons]
  constructor
  ·rintro⟨h1,h2,h3,h4⟩
   refine⟨⟨fun y hy=>(h4 y hy).1,h3⟩,fun y hy=>?_⟩
   rcases List.mem_cons.1 hy with rfl | hy
   ·exact⟨h1,h2⟩
   ·have:=h4 y hy;omega
  ·rintro⟨⟨h1,h2⟩,h3⟩
   exact⟨(h3 x (by simp)).1,(h3 x (by simp)).2,h2,fun y hy=>⟨h1 y hy,(h3 y (by simp[hy])).2⟩⟩
theorem pairwise_ext:∀{l l':List Int},l.Pairwise (· < ·)→l'.Pairwise (· < ·)→(∀x,x∈l↔x∈l')→l=l'
 | [],[],_,_,_=>rfl
 | [],y::l',_,_,h=>by have:=(h y).2 (by simp);simp at this
 | x::l,[],_,_,h=>by have:=(h x).1 (by simp);simp at this
 | x::l,y::l',h1,h2,h=>by
  rw[List.pairwise_cons] at h1 h2
  have hxy:x=y:=by
   have a1:=(h x).1 (by simp)
   have a2:=(h y).2 (by simp)
   rcases List.mem_cons.1 a1 with a1 | a1
   ·exact a1
   ·rcases List.mem_cons.1 a2 with a2 | a2
    ·exact a2.symm
    ·have b1:=h2.1 x a1
     have b2:=h1.1 y a2
     omega
  subst hxy
  congr 1
  refine pairwise_ext h1.2 h2.2 fun z=>?_
  constructor
  ·intro hz
   rcases List.mem_cons.1 ((h z).1 (by simp[hz])) with rfl | h3
   ·have:=h1.1 z hz;omega
   ·exact h3
  ·intro hz
   rcases List.mem_cons.1 ((h z).2 (by simp[hz])) with rfl | h3
   ·have:=h2.1 z hz;omega
   ·exact h3
theorem incr_ext {n:Int}{lo lo':Int}{l l':List Int}(h:incr n lo l) (h':incr n lo' l') (hm:∀x,x∈l↔x∈l'):l=l':=
 pairwise_ext (incr_iff.1 h).1 (incr_iff.1 h').1 hm
def memL (K:Nat→Bool) (i:Nat):List Int:=((List.range i).filter K).map fun (q:Nat)=>(q:Int)
theorem memL_succ {K:Nat→Bool}{i:Nat}:memL K (i+1)=memL K i++if K i then [(i:Int)] else []:=by
 simp only[memL,List.range_succ,List.filter_append,List.map_append,List.filter_cons,List.filter_nil]
 congr 1
 split<;>simp
theorem memL_mem {K:Nat→Bool}{i:Nat}{x:Int}:x∈memL K i↔∃q:Nat,x=q∧q<i∧K q=true:=by
 simp only[memL,List.mem_map,List.mem_filter,List.mem_range]
 constructor
 ·rintro⟨q,⟨h1,h2⟩,rfl⟩;exact⟨q,rfl,h1,h2⟩
 ·rintro⟨q,rfl,h1,h2⟩;exact⟨q,⟨h1,h2⟩,rfl⟩
theorem memL_incr {K:Nat→Bool}{n:Nat}:∀{i:Nat},i≤n→incr n (-1) (memL K i)
 | 0,_=>trivial
 | i+1,h=>by
  rw[memL_succ]
  have ih:=incr_iff.1 (memL_incr (K:=K) (n:=n) (i:=i) (by omega))
  split
  ·rw[incr_iff,List.pairwise_append]
   refine⟨⟨ih.1,List.pairwise_singleton _ _,fun x hx y hy=>?_⟩,fun x hx=>?_⟩
   ·obtain⟨q,rfl,hq,_⟩:=memL_mem.1 hx
    have:y=i:=by simpa using hy
    omega
   ·rcases List.mem_append.1 hx with hx | hx
    ·exact ih.2 x hx
    ·have:x=i:=by simpa using hx
     omega
  ·simpa using incr_iff.2 ih
theorem memL_length {K:Nat→Bool}{i:Nat}:(memL K i).length≤i:=by
 have:=List.length_filter_le K (List.range i)
 simpa[memL] using this
def Aut.beg (a:Aut) (q:Nat):Prop:=(q:Int)∈a.init∧a.Live q
def Aut.aft (a:Aut) (S:Nat→Prop) (letter:Int) (t:Nat):Prop:=a.Live t∧∃e∈a.edges,S e.frm.toNat∧e.to=t∧e.on letter=true
def Aut.behind (a:Aut) (w:List Int):Nat→Prop:=w.foldl a.aft a.beg
theorem foldl_take {α β:Type}{f:β→α→β}{b:β}{l:List α}{i:Nat}(hi:i<l.length):(l.take (i+1)).foldl f b=f ((l.take i).foldl f b) l[i]:=by
 rw[List.take_add_one,List.getElem?_eq_getElem hi,List.foldl_append];rfl
noncomputable def Aut.states (a:Aut) (w:List Int):List Int:=memL (fun q=>@decide (a.behind w q) (Classical.propDecidable _)) a.acc.length
theorem Aut.states_incr {a:Aut}{w:List Int}:incr a.acc.length (-1) (a.states w):=memL_incr (Nat.le_refl _)
theorem Aut.states_eq {a:Aut}{w:List Int}{l:List Int}(h:incr a.acc.length (-1) l) (hm:∀q:Nat,(q:Int)∈l↔q<a.acc.length∧a.behind w q):l=a.states w:=by
 refine incr_ext h a.states_incr fun x=>?_
 rw[Aut.states,memL_mem]
 simp only[decide_eq_true_eq]
 constructor
 ·intro hx
  have:=incr_mem h x hx
  obtain⟨q,rfl⟩:∃q:Nat,x=q:=⟨x.toNat,by omega⟩
  exact⟨q,rfl,(hm q).1 hx⟩
 ·rintro⟨q,rfl,h1,h2⟩
  exact (hm q).2 ⟨h1,h2⟩
def Wok (w:List Int):Prop:=w.length≤200∧∀x∈w,0≤x∧x≤7
instance (w:List Int):Decidable (Wok w):=by unfold Wok;infer_instance
structure InsI (l:List Int) (y:Int) (i:Nat) (dn:Bool) (o:List Int):Prop where
 no:∀j (hj:j<l.length),j<i→l[j]≠y
 len:o.length≤i+1
 ff:dn=false→o=l.take i∧∀x∈l.take i,x<y
 tt:dn=true→∃k,k≤i∧o=l.take k++y::(l.take i).drop k∧(∀x∈l.take k,x<y)∧∀x∈l.drop k,y<x
theorem InsI.zero {l:List Int}{y:Int}:InsI l y 0 false []:=⟨by simp,by simp,by simp,by simp⟩
theorem InsI.big {l:List Int}{y:Int}{i:Nat}{o:List Int}(hp:l.Pairwise (· < ·)) (h:InsI l y i false o) (hi:i<l.length) (hy:y<l[i]):InsI l y (i+1) true (o++[y]++[l[i]]):=by
 obtain⟨h1,h2⟩:=h.ff rfl
 have hl:=h.len
 refine⟨?_,?_,by simp,fun _=>⟨i,by omega,?_,h2,?_⟩⟩
 ·intro j hj hji
  by_cases e:j=i
  ·subst e;omega
  ·exact h.no j hj (by omega)
 ·rw[h1];simp;omega
 ·rw[h1,List.take_add_one,List.getElem?_eq_getElem hi,List.drop_append,List.drop_take]
  simp[Nat.min_eq_left (Nat.le_of_lt hi)]
 ·intro x hx
  rw[List.drop_eq_getElem_cons hi] at hx
  rcases List.mem_cons.1 hx with rfl | hx
  ·exact hy
  ·have h3:l=l.take (i+1)++l.drop (i+1):=(List.take_append_drop _ _).symm
   rw[h3,List.pairwise_append] at hp
   have h4:=hp.2.2 l[i] (by rw[List.take_add_one,List.getElem?_eq_getElem hi];exact List.mem_append_right _ (by simp)) x hx
   omega
theorem InsI.more {l:List Int}{y:Int}{i:Nat}{o:List Int}(h:InsI l y i true o) (hi:i<l.length) (hy:l[i]≠y):InsI l y (i+1) true (o++[l[i]]):=by
 obtain⟨k,h1,h2,h3,h4⟩:=h.tt rfl
 refine⟨?_,?_,by simp,fun _=>⟨k,by omega,?_,h3,h4⟩⟩
 ·intro j hj hji
  by_cases e:j=i
  ·subst e;exact hy
  ·exact h.no j hj (by omega)
 ·rw[h2];simp;omega
 ·rw[h2,List.take_add_one,List.getElem?_eq_getElem hi,List.drop_append_of_le_length (by simp;omega)]
  simp
theorem InsI.small {l:List Int}{y:Int}{i:Nat}{o:List Int}(h:InsI l y i false o) (hi:i<l.length) (hy:l[i]<y):InsI l y (i+1) false (o++[l[i]]):=by
 obtain⟨h1,h2⟩:=h.ff rfl
 refine⟨?_,?_,fun _=>⟨?_,?_⟩,by simp⟩
 ·intro j hj hji
  by_cases e:j=i
  ·subst e;omega
  ·exact h.no j hj (by omega)
 ·rw[h1];simp;omega
 ·rw[h1,List.take_add_one,List.getElem?_eq_getElem hi];simp
 ·intro x hx
  rw[List.take_add_one,List.getElem?_eq_getElem hi] at hx
  rcases List.mem_append.1 hx with hx | hx
  ·exact h2 x hx
  ·have:x=l[i]:=by simpa using hx
   omega
theorem InsI.result {n:Int}{lo:Int}{l:List Int}{y:Int}{i:Nat}{dn:Bool}{o:List Int}(hl:incr n lo l) (hy:lo<y∧y<n) (h:InsI l y i dn o) (hi:l.length≤i):incr n lo (if dn then o else o++[y])∧∀x,x∈(if dn then o else o++[y])↔x∈l∨x=y:=by
 obtain⟨g1,g2⟩:=incr_iff.1 hl
 cases dn with
 | false=>
  obtain⟨h1,h2⟩:=h.ff rfl
  rw[List.take_of_length_le hi] at h1 h2
  subst h1
  simp only[Bool.false_eq_true,if_false,incr_iff,List.pairwise_append,List.mem_append,List.mem_singleton]
  refine⟨⟨⟨g1,List.pairwise_singleton _ _,fun a ha b hb=>hb▸h2 a ha⟩,fun x hx=>?_⟩,fun _=>trivial⟩
  rcases hx with hx | rfl
  ·exact g2 x hx
  ·exact hy
 | true=>
  obtain⟨k,_,h2,h3,h4⟩:=h.tt rfl
  rw[List.take_of_length_le hi] at h2
  have h5:l=l.take k++l.drop k:=(List.take_append_drop _ _).symm
  have hm:∀x,x∈o↔x∈l∨x=y:=by
   intro x
   rw[h2,List.mem_append,List.mem_cons]
   conv=>rhs;rw[h5,List.mem_append]
   constructor
   ·rintro (h | h | h)
    ·exact .inl (.inl h)
    ·exact .inr h
    ·exact .inl (.inr h)
   ·rintro ((h | h) | h)
    ·exact .inl h
    ·exact .inr (.inr h)
    ·exact .inr (.inl h)
  simp only[if_true]
  refine⟨incr_iff.2 ⟨?_,fun x hx=>?_⟩,hm⟩
  ·rw[h5,List.pairwise_append] at g1
   rw[h2,List.pairwise_append,List.pairwise_cons]
   refine⟨g1.1,⟨h4,g1.2.1⟩,fun a ha b hb=>?_⟩
   rcases List.mem_cons.1 hb with rfl | hb
   ·exact h3 a ha
   ·exact g1.2.2 a ha b hb
  ·rcases (hm x).1 hx with hx | rfl
   ·exact g2 x hx
   ·exact hy
def EdgeB (es:List Tr) (i l j:Nat):Prop:=∃e∈es,e.frm=i∧e.to=j∧e.on l=true
def Tab (es:List Tr) (n:Nat) (T:List W8):Prop:=T.length=n∧∀i l k,i<n→l<8→k<64→(((T.getD i W8.zero).at l).getLsbD k=true↔EdgeB es i l k)
def Tab2 (es:List Tr) (e:Tr) (m:Nat) (n:Nat) (T:List W8):Prop:=T.length=n∧∀i l k,i<n→l<8→k<64→(((T.getD i W8.zero).at l).getLsbD k=true↔EdgeB es i l k∨(l<m∧e.frm=i∧e.to=k∧e.on l=true))
theorem Tab.zero (n:Nat):Tab [] n (List.replicate n W8.zero):=by
 refine⟨by simp,fun i l k hi hl hk=>?_⟩
 have h1:(List.replicate n W8.zero).getD i W8.zero=W8.zero:=by
  rw[List.getD_eq_getElem?_getD,List.getElem?_replicate];split<;>rfl
 rw[h1]
 have h2:W8.zero.at l=0:=by
  simp only[W8.at,W8.zero,List.getD_eq_getElem?_getD,List.getElem?_replicate];split<;>rfl
 rw[h2]
 simp[EdgeB]
theorem Tab.start {es:List Tr}{n:Nat}{T:List W8}(h:Tab es n T) (e:Tr):Tab2 es e 0 n T:=
 ⟨h.1,fun i l k hi hl hk=>by rw[h.2 i l k hi hl hk];simp⟩
theorem Tab2.skip {es:List Tr}{n m:Nat}{T:List W8}{e:Tr}(h:Tab2 es e m n T) (ho:e.on m=false):Tab2 es e (m+1) n T:=by
 refine⟨h.1,fun i l k hi hl hk=>?_⟩
 rw[h.2 i l k hi hl hk]
 by_cases hm:l=m
 ·subst hm;simp[ho]
 ·have:l<m↔l<m+1:=by omega
  rw[this]
theorem Tab2.put {es:List Tr}{n m:Nat}{T:List W8}{e:Tr}(h:Tab2 es e m n T) (ho:e.on m=true) (hm:m<8) {f t:Nat}(hf:e.frm=f) (ht:e.to=t) (hfn:f<n) (htn:t<64) :
  Tab2 es e (m+1) n (T.set f ((T[f]'(h.1▸hfn)).put m (setB ((T[f]'(h.1▸hfn)).at m) t))):=by
 have hfl:f<T.length:=h.1▸hfn
 refine⟨by simpa using h.1,fun i l k hi hl hk=>?_⟩
 have h1:=h.2 i l k hi hl hk
 rw[List.getD_eq_getElem?_getD,List.getElem?_set]
 rw[List.getD_eq_getElem?_getD] at h1
 by_cases hfi:f=i
 ·subst hfi
  simp only[hfl,List.getElem?_eq_getElem,Option.getD_some,if_true] at h1 ⊢
  rw[W8.put_at _ hm]
  by_cases hlm:l=m
  ·subst hlm
   rw[if_pos rfl,setB_get htn]
   simp only[Bool.or_eq_true,h1,decide_eq_true_eq]
   have:l<l+1:=by omega
   constructor
   ·rintro ((h2 | h2) | h2)
    ·exact .inl h2
    ·omega
    ·exact .inr ⟨this,hf,by rw[ht,h2],ho⟩
   ·rintro (h2 | ⟨_,_,h2,_⟩)
    ·exact .inl (.inl h2)
    ·exact .inr (by rw[ht] at h2;omega)
  ·rw[if_neg hlm,h1]
   have:l<m↔l<m+1:=by omega
   rw[this]
 ·rw[if_neg hfi,h1]
  constructor
  ·rintro (h2 | ⟨h3,h4,h5⟩)
   ·exact .inl h2
   ·exact .inr ⟨by omega,h4,h5⟩
  ·rintro (h2 | ⟨h3,h4,h5⟩)
   ·exact .inl h2
   ·rw[hf] at h4;omega
theorem Tab2.done {es:List Tr}{n:Nat}{T:List W8}{k:Nat}(hk:k<es.length) (h:Tab2 (es.take k) es[k] 8 n T):Tab (es.take (k+1)) n T:=by
 refine⟨h.1,fun i l j hi hl hj=>?_⟩
 rw[h.2 i l j hi hl hj,List.take_add_one,List.getElem?_eq_getElem hk]
 simp only[EdgeB,List.mem_append,Option.toList_some,List.mem_singleton]
 constructor
 ·rintro (⟨e,h1,h2⟩ | ⟨_,h2⟩)
  ·exact⟨e,.inl h1,h2⟩
  ·exact⟨_,.inr rfl,h2⟩
 ·rintro⟨e,h1 | rfl,h2⟩
  ·exact .inl ⟨e,h1,h2⟩
  ·exact .inr ⟨hl,h2⟩
def grpS (e:Nat→Nat→Bool):Nat→List Nat×Nat
 | 0=>([],0)
 | i+1=>match (List.range i).find? (fun k=>e i k) with
  | some k=>((grpS e i).1++[(grpS e i).1.getD k 0],(grpS e i).2)
  | none=>((grpS e i).1++[(grpS e i).2],(grpS e i).2+1)
theorem grpS_old {e:Nat→Nat→Bool}{i k:Nat}(h:(List.range i).find? (fun k=>e i k)=some k):grpS e (i+1)=((grpS e i).1++[(grpS e i).1.getD k 0],(grpS e i).2):=by simp[grpS,h]
theorem grpS_new {e:Nat→Nat→Bool}{i:Nat}(h:(List.range i).find? (fun k=>e i k)=none):grpS e (i+1)=((grpS e i).1++[(grpS e i).2],(grpS e i).2+1):=by simp[grpS,h]
theorem find_lt {p:Nat→Bool}{i k:Nat}(h:(List.range i).find? p=some k):k<i:=by
 have:=List.mem_of_find?_eq_some h
 simpa using this
theorem grpS_len {e:Nat→Nat→Bool}:∀i,(grpS e i).1.length=i
 | 0=>rfl
 | i+1=>by
  cases h:(List.range i).find? (fun k=>e i k) with
  | some k=>rw[grpS_old h];simp[grpS_len i]
  | none=>rw[grpS_new h];simp[grpS_len i]
theorem grpS_le {e:Nat→Nat→Bool}:∀i,(grpS e i).2≤i
 | 0=>Nat.le_refl _
 | i+1=>by
  have:=grpS_le (e:=e) i
  cases h:(List.range i).find? (fun k=>e i k) with
  | some k=>rw[grpS_old h];exact Nat.le_succ_of_le this
  | none=>rw[grpS_new h];exact Nat.succ_le_succ this
theorem grpS_pos {e:Nat→Nat→Bool}:∀i,1≤i→1≤(grpS e i).2
 | 0,h=>by omega
 | i+1,_=>by
  cases h:(List.range i).find? (fun k=>e i k) with
  | some k=>
   rw[grpS_old h]
   exact grpS_pos i (by have:=find_lt h;omega)
  | none=>rw[grpS_new h];exact Nat.succ_le_succ (Nat.zero_le _)
theorem grpS_lt {e:Nat→Nat→Bool}:∀i,∀x∈(grpS e i).1,x<(grpS e i).2
 | 0,x,hx=>by simp[grpS] at hx
 | i+1,x,hx=>by
  cases h:(List.range i).find? (fun k=>e i k) with
  | some k=>
   have hk:=find_lt h
   rw[grpS_old h] at hx ⊢
   rcases List.mem_append.1 hx with hx | hx
   ·exact grpS_lt i x hx
   ·obtain rfl:x=(grpS e i).1.getD k 0:=by simpa using hx
    have hl:=grpS_len (e:=e) i
    rw[List.getD_eq_getElem?_getD,List.getElem?_eq_getElem (by omega)]
    exact grpS_lt i _ (List.getElem_mem (by omega))
  | none=>
   rw[grpS_new h] at hx ⊢
   rcases List.mem_append.1 hx with hx | hx
   ·have:=grpS_lt i x hx
    show x<(grpS e i).2+1
    omega
   ·obtain rfl:x=(grpS e i).2:=by simpa using hx
    exact Nat.lt_succ_self _
def accG (a:Aut) (e:Nat→Nat→Bool):Nat→List Bool
 | 0=>[]
 | i+1=>match (List.range i).find? (fun k=>e i k) with
  | some _=>accG a e i
  | none=>accG a e i++[a.acc.getD i false]
theorem accG_len {a:Aut}{e:Nat→Nat→Bool}:∀i,(accG a e i).length=(grpS e i).2
 | 0=>rfl
 | i+1=>by
  cases h:(List.range i).find? (fun k=>e i k) with
  | some k=>rw[grpS_old h];simp[accG,h,accG_len i]
  | none=>rw[grpS_new h];simp[accG,h,accG_len i]
def ded (l:List Tr):List Tr:=l.foldl (fun o f=>if f∈o then o else o++[f]) []
theorem ded_mem {l:List Tr}{x:Tr}:x∈ded l↔x∈l:=by
 have key:∀(l o:List Tr),x∈l.foldl (fun o f=>if f∈o then o else o++[f]) o↔x∈o∨x∈l:=by
  intro l
  induction l with
  | nil=>simp
  | cons y l ih=>
   intro o
   rw[List.foldl_cons,ih]
   by_cases h:y∈o
   ·rw[if_pos h]
    constructor
    ·rintro (h1 | h1)
     ·exact .inl h1
     ·exact .inr (by simp[h1])
    ·rintro (h1 | h1)
     ·exact .inl h1
     ·rcases List.mem_cons.1 h1 with rfl | h1
      ·exact .inl h
      ·exact .inr h1
   ·rw[if_neg h]
    simp[or_assoc]
 have:=key l []
 simpa[ded] using this
theorem ded_len {l:List Tr}:(ded l).length≤l.length:=by
 have key:∀(l o:List Tr),(l.foldl (fun o f=>if f∈o then o else o++[f]) o).length≤o.length+l.length:=by
  intro l
  induction l with
  | nil=>simp
  | cons y l ih=>
   intro o
   rw[List.foldl_cons]
   refine Nat.le_trans (ih _) ?_
   split<;>simp<;>omega
 have:=key l []
 simpa[ded] using this
def gnm (e:Nat→Nat→Bool) (n:Nat) (x:Int):Int:=((grpS e n).1.getD x.toNat 0:Nat)
theorem gnm_lt {e:Nat→Nat→Bool}{n:Nat}{x:Int}(h0:0≤x) (h1:x<n):0≤gnm e n x∧gnm e n x<(grpS e n).2:=by
 have hl:=grpS_len (e:=e) n
 have hx:x.toNat<(grpS e n).1.length:=by omega
 have:=grpS_lt (e:=e) n _ (List.getElem_mem hx)
 unfold gnm
 rw[List.getD_eq_getElem?_getD,List.getElem?_eq_getElem hx]
 simp only[Option.getD_some]
 omega
def Aut.mergeE (a:Aut) (e:Nat→Nat→Bool):Aut:=
 ⟨memL (fun b=>a.init.any fun q=>decide (gnm e a.acc.length q=(b:Int))) (grpS e a.acc.length).2,accG a e a.acc.length,ded (a.edges.map (Tr.ren (gnm e a.acc.length)))⟩
theorem Aut.mergeE_ok {a:Aut}(ha:a.Ok) (e:Nat→Nat→Bool):(a.mergeE e).Ok:=by
 have hn:=ha.n
 have h1:=grpS_le (e:=e) a.acc.length
 have h2:=grpS_pos (e:=e) a.acc.length hn.1
 have h3:=accG_len (a:=a) (e:=e) a.acc.length
 have h4:=ded_len (l:=a.edges.map (Tr.ren (gnm e a.acc.length)))
 simp only[List.length_map] at h4
 have h5:=ha.e
 refine⟨⟨by show 1≤(accG a e a.acc.length).length;omega,by show (accG a e a.acc.length).length≤64;omega⟩,Nat.le_trans h4 h5,?_,?_⟩
 ·show incr ((accG a e a.acc.length).length:Nat) (-1) _
  rw[h3]
  exact memL_incr (Nat.le_refl _)
 ·intro t ht
  show t.Ok ((accG a e a.acc.length).length:Nat)
  rw[h3]
  have ht:t∈ded (a.edges.map (Tr.ren (gnm e a.acc.length))):=ht
  rw[ded_mem] at ht
  obtain⟨x,hx,rfl⟩:=List.mem_map.1 ht
  have hx2:=ha.2.2.2 x hx
  unfold Tr.Ok at hx2 ⊢
  have g1:=gnm_lt (e:=e) hx2.1 hx2.2.1
  have g2:=gnm_lt (e:=e) hx2.2.2.1 hx2.2.2.2.1
  simp only[Tr.ren]
  exact⟨g1.1,g1.2,g2.1,g2.2,hx2.2.2.2.2⟩
def eqv (R:Rl):Nat→Nat→Bool:=fun i k=>R i k&&R k i
noncomputable def Aut.mrg (a:Aut):Aut:=a.mergeE (eqv (@Classical.epsilon Rl ⟨fun _ _=>true⟩ (Great a)))
theorem Aut.mrg_ok {a:Aut}(ha:a.Ok):a.mrg.Ok:=Aut.mergeE_ok ha _
theorem kidx_all {K:Nat→Bool}:∀{n:Nat},kidx K n=n→∀q,q<n→K q=true∧kidx K q=q
 | 0,_,q,hq=>absurd hq (Nat.not_lt_zero q)
 | n+1,h,q,hq=>by
  rw[kidx_succ] at h
  have hl:=kidx_le (K:=K) (q:=n)
  have hk:K n=true:=by
   cases hk:K n with
   | true=>rfl
   | false=>rw[hk] at h;simp at h;omega
  rw[hk] at h
  simp only[if_true] at h
  have h1:kidx K n=n:=by omega
  by_cases e:q=n
  ·subst e;exact⟨hk,h1⟩
  ·exact kidx_all h1 q (by omega)
theorem map_range_getD {l:List Bool}:((List.range l.length).map fun q=>l.getD q false)=l:=by
 apply List.ext_getElem (by simp)
 intro i h1 h2
 simp[h2]
theorem Aut.ext3 {a b:Aut}(h1:a.init=b.init) (h2:a.acc=b.acc) (h3:a.edges=b.edges):a=b:=by
 cases a;cases b;simp_all
theorem Aut.keep_full {a:Aut}(ha:a.Ok) {K:Nat→Bool}(h:kidx K a.acc.length=a.acc.length):a.keep K=a:=by
 have hn:=ha.n
 have hall:=kidx_all h
 unfold Aut.keep
 rw[if_neg (by omega)]
 refine Aut.ext3 ?_ ?_ ?_
 ·show (a.init.filter _).map _=_
  rw[List.filter_eq_self.2]
  ·conv=>rhs;rw[← List.map_id a.init]
   apply List.map_congr_left
   intro q hq
   have:=incr_mem ha.i q hq
   have h1:=(hall q.toNat (by omega)).2
   simp only[kout,h1,id]
   omega
  ·intro q hq
   have:=incr_mem ha.i q hq
   exact (hall q.toNat (by omega)).1
 ·show ((List.range a.acc.length).filter K).map _=_
  rw[List.filter_eq_self.2]
  ·exact map_range_getD
  ·intro q hq
   exact (hall q (by simpa using hq)).1
 ·show (a.edges.filter _).map _=_
  rw[List.filter_eq_self.2]
  ·conv=>rhs;rw[← List.map_id a.edges]
   apply List.map_congr_left
   intro e he
   have hx:=ha.2.2.2 e he
   unfold Tr.Ok at hx
   have h1:=(hall e.frm.toNat (by omega)).2
   have h2:=(hall e.to.toNat (by omega)).2
   have e1:((e.frm.toNat:Nat):Int)=e.frm:=by omega
   have e2:((e.to.toNat:Nat):Int)=e.to:=by omega
   simp only[Tr.ren,kout,h1,h2,id,e1,e2]
  ·intro e he
   have hx:=ha.2.2.2 e he
   unfold Tr.Ok at hx
   rw[(hall e.frm.toNat (by omega)).1,(hall e.to.toNat (by omega)).1];rfl
theorem Aut.trim_len {a:Aut}(ha:a.Ok):a.trim.acc.length≤a.acc.length∧(a.trim.acc.length=a.acc.length→a.trim=a∨(a.acc.length=1∧a.trim=⟨[],[false],[]⟩)):=by
 have hn:=ha.n
 have hl:=kidx_le (K:=a.tkeep) (q:=a.acc.length)
 by_cases h0:kidx a.tkeep a.acc.length=0
 ·have ht:a.trim=⟨[],[false],[]⟩:=by unfold Aut.trim Aut.keep;rw[if_pos h0]
  rw[ht]
  exact⟨hn.1,fun h=>.inr ⟨h.symm,rfl⟩⟩
 ·have hk:a.trim.acc.length=kidx a.tkeep a.acc.length:=Aut.keep_len h0
  rw[hk]
  exact⟨hl,fun h=>.inl (Aut.keep_full ha h)⟩
theorem grpS_full {e:Nat→Nat→Bool}:∀{n:Nat},(grpS e n).2=n→(grpS e n).1=List.range n∧∀i,i<n→(List.range i).find? (fun k=>e i k)=none
 | 0,_=>⟨rfl,fun i hi=>absurd hi (Nat.not_lt_zero i)⟩
 | n+1,h=>by
  have hl:=grpS_le (e:=e) n
  cases hf:(List.range n).find? (fun k=>e n k) with
  | some k=>
   rw[grpS_old hf] at h
   have h:(grpS e n).2=n+1:=h
   omega
  | none=>
   rw[grpS_new hf] at h ⊢
   have h:(grpS e n).2+1=n+1:=h
   have h1:(grpS e n).2=n:=by omega
   obtain⟨h2,h3⟩:=grpS_full h1
   refine⟨by show (grpS e n).1++[(grpS e n).2]=_;rw[h2,h1,List.range_succ],fun i hi=>?_⟩
   by_cases ei:i=n
   ·subst ei;exact hf
   ·exact h3 i (by omega)
theorem accG_full {a:Aut}{e:Nat→Nat→Bool}:∀{n:Nat},(∀i,i<n→(List.range i).find? (fun k=>e i k)=none)→accG a e n=(List.range n).map fun q=>a.acc.getD q false
 | 0,_=>rfl
 | n+1,h=>by
  have ih:=accG_full (a:=a) (e:=e) (n:=n) fun i hi=>h i (by omega)
  simp only[accG,h n (by omega)]
  rw[ih,List.range_succ,List.map_append]
  rfl
theorem gnm_full {e:Nat→Nat→Bool}{n:Nat}(h:(grpS e n).1=List.range n) {x:Int}(h0:0≤x) (h1:x<n):gnm e n x=x:=by
 unfold gnm
 rw[h]
 simp[show x.toNat<n by omega]
 omega
theorem memL_self {n:Nat}{l:List Int}(h:incr n (-1) l) {K:Nat→Bool}(hK:∀q,q<n→(K q=true↔(q:Int)∈l)):memL K n=l:=by
 refine incr_ext (memL_incr (Nat.le_refl _)) h fun x=>?_
 rw[memL_mem]
 constructor
 ·rintro⟨q,rfl,h1,h2⟩;exact (hK q h1).1 h2
 ·intro hx
  have:=incr_mem h x hx
  refine⟨x.toNat,by omega,by omega,(hK _ (by omega)).2 ?_⟩
  rwa [Int.toNat_of_nonneg (by omega)]
theorem Aut.mergeE_full {a:Aut}(ha:a.Ok) {e:Nat→Nat→Bool}(h:(grpS e a.acc.length).2=a.acc.length):a.mergeE e=⟨a.init,a.acc,ded a.edges⟩:=by
 obtain⟨h1,h2⟩:=grpS_full h
 have hg:∀x:Int,0≤x→x<a.acc.length→gnm e a.acc.length x=x:=fun x=>gnm_full h1
 refine Aut.ext3 ?_ ?_ ?_
 ·show memL _ (grpS e a.acc.length).2=_
  rw[h]
  refine memL_self ha.i fun q hq=>?_
  simp only[List.any_eq_true,decide_eq_true_eq]
  constructor
  ·rintro⟨p,hp,h3⟩
   have:=incr_mem ha.i p hp
   rw[hg p (by omega) (by omega)] at h3
   rw[← h3];exact hp
  ·intro hm
   exact⟨q,hm,hg q (by omega) (by omega)⟩
 ·show accG a e a.acc.length=_
  rw[accG_full h2,map_range_getD]
 ·show ded (a.edges.map _)=ded a.edges
  congr 1
  conv=>rhs;rw[← List.map_id a.edges]
  apply List.map_congr_left
  intro t ht
  have hx:=ha.2.2.2 t ht
  unfold Tr.Ok at hx
  simp only[Tr.ren,hg t.frm hx.1 hx.2.1,hg t.to hx.2.2.1 hx.2.2.2.1,id]
theorem Aut.mrg_len {a:Aut}(ha:a.Ok):a.mrg.acc.length≤a.acc.length∧(a.mrg.acc.length=a.acc.length→a.mrg=⟨a.init,a.acc,ded a.edges⟩):=by
 have h1:∀e,(a.mergeE e).acc.length=(grpS e a.acc.length).2:=fun e=>accG_len a.acc.length
 unfold Aut.mrg
 rw[h1]
 exact⟨grpS_le _,fun h=>Aut.mergeE_full ha h⟩
theorem ded_same {l:List Tr}(h:l.length≤(ded l).length):ded l=l:=by
 have key:∀(l o:List Tr),(l.foldl (fun o f=>if f∈o then o else o++[f]) o).length≤o.length+l.length∧(o.length+l.length≤(l.foldl (fun o f=>if f∈o then o else o++[f]) o).length→l.foldl (fun o f=>if f∈o then o else o++[f]) o=o++l):=by
  intro l
  induction l with
  | nil=>simp
  | cons y l ih=>
   intro o
   rw[List.foldl_cons]
   by_cases hy:y∈o
   ·rw[if_pos hy]
    obtain⟨i1,i2⟩:=ih o
    refine⟨by simp;omega,fun h=>?_⟩
    simp at h;omega
   ·rw[if_neg hy]
    obtain⟨i1,i2⟩:=ih (o++[y])
    simp only[List.length_append,List.length_cons,List.length_nil] at i1 i2
    refine⟨by simp;omega,fun h=>?_⟩
    rw[i2 (by simp at h;omega)]
    simp
 have:=(key l []).2 (by simpa[ded] using h)
 simpa[ded] using this
noncomputable def Aut.rnd (a:Aut):Aut:=a.trim.mrg
def Aut.mea (a:Aut):Nat:=a.acc.length*4096+a.acc.count true+a.init.length+a.edges.length
theorem Aut.trim_ok {a:Aut}(ha:a.Ok):a.trim.Ok:=Aut.keep_ok ha _
theorem Aut.rnd_ok {a:Aut}(ha:a.Ok):a.rnd.Ok:=Aut.mrg_ok (Aut.trim_ok ha)
theorem Aut.rnd_less {a:Aut}(ha:a.Ok) (hne:a.rnd≠a):a.rnd.mea<a.mea:=by
 have ht:=Aut.trim_ok ha
 have hr:=Aut.rnd_ok ha
 obtain⟨t1,t2⟩:=Aut.trim_len ha
 obtain⟨m1,m2⟩:=Aut.mrg_len ht
 have m1:a.rnd.acc.length≤a.trim.acc.length:=m1
 have b1:=hr.il
 have b2:=hr.e
 have b3:=List.count_le_length (a:=true) (l:=a.rnd.acc)
 have b4:=hr.n
 by_cases hlt:a.rnd.acc.length<a.acc.length
 ·unfold Aut.mea
  omega
 ·have e1:a.trim.acc.length=a.acc.length:=by omega
  have hm:a.rnd=⟨a.trim.init,a.trim.acc,ded a.trim.edges⟩:=m2 (by show a.rnd.acc.length=_;omega)
  rcases t2 e1 with h | ⟨h1,h⟩
  ·rw[h] at hm
   have hd:=ded_len (l:=a.edges)
   have hdl:(ded a.edges).length<a.edges.length:=by
    rcases Nat.lt_or_ge (ded a.edges).length a.edges.length with h3 | h3
    ·exact h3
    ·exact absurd (by rw[hm,ded_same h3]) hne
   rw[hm]
   unfold Aut.mea
   show a.acc.length*4096+a.acc.count true+a.init.length+(ded a.edges).length<_
   omega
  ·rw[h] at hm
   have hm:a.rnd=⟨[],[false],[]⟩:=hm
   rw[hm]
   have h3:Aut.mea ⟨[],[false],[]⟩=4096:=by rfl
   rw[h3]
   unfold Aut.mea
   rw[h1]
   have:a.acc.count true+a.init.length+a.edges.length≠0:=by
    intro h4
    have g1:a.init=[]:=List.eq_nil_of_length_eq_zero (by omega)
    have g2:a.edges=[]:=List.eq_nil_of_length_eq_zero (by omega)
    have g3:a.acc=[false]:=by
     match hq:a.acc,h1 with
     | [x],_=>
      rw[hq] at h4
      cases x with
      | false=>rfl
      | true=>simp at h4
    exact hne (by rw[hm];exact (Aut.ext3 g1 g3 g2).symm)
   omega
inductive SmpR:Aut→Aut→Prop
 | stop {a:Aut}(h:a.rnd=a):SmpR a a
 | more {a r:Aut}(h:a.rnd≠a) (hr:SmpR a.rnd r):SmpR a r
theorem SmpR.fn {a r s:Aut}(h:SmpR a r):SmpR a s→r=s:=by
 induction h with
 | stop h=>
  intro h'
  cases h' with
  | stop _=>rfl
  | more h2 _=>exact absurd h h2
 | more h _ ih=>
  intro h'
  cases h' with
  | stop h2=>exact absurd h2 h
  | more _ h3=>exact ih h3
theorem SmpR.ex:∀(m:Nat) (a:Aut),a.mea≤m→a.Ok→∃r,SmpR a r∧r.Ok
 | 0,a,hm,ha=>by
  have:=ha.n
  unfold Aut.mea at hm
  omega
 | m+1,a,hm,ha=>by
  by_cases h:a.rnd=a
  ·exact⟨a,.stop h,ha⟩
  ·have:=Aut.rnd_less ha h
   obtain⟨r,h1,h2⟩:=SmpR.ex m a.rnd (by omega) (Aut.rnd_ok ha)
   exact⟨r,.more h h1,h2⟩
def Las.Ok (l:Las):Prop:=((∀x∈l.stem,0≤x∧x≤7)∧∀x∈l.loop,0≤x∧x≤7)∧l.stem.length≤80∧1≤l.loop.length∧l.loop.length≤80
instance instDecLasOk (l:Las):Decidable l.Ok:=by unfold Las.Ok;infer_instance
def Las.size (l:Las):Nat:=l.stem.length+l.loop.length
def Las.all (l:Las):List Int:=l.stem++l.loop
def Las.nx (l:Las) (i:Nat):Nat:=if i+1=l.size then l.stem.length else i+1
def Las.pos (l:Las):Nat→Nat
 | 0=>0
 | t+1=>l.nx (l.pos t)
def Las.word (l:Las) (t:Nat):Int:=l.all.getD (l.pos t) 0
theorem Las.nx_lt {l:Las}(h:1≤l.loop.length) {i:Nat}(hi:i<l.size):l.nx i<l.size:=by
 unfold Las.nx Las.size at *
 split<;>omega
theorem Las.pos_lt {l:Las}(h:1≤l.loop.length):∀t,l.pos t<l.size
 | 0=>by unfold Las.pos Las.size;omega
 | t+1=>Las.nx_lt h (Las.pos_lt h t)
theorem Las.all_len {l:Las}:l.all.length=l.size:=by simp[Las.all,Las.size]
theorem Las.word_ok {l:Las}(h:l.Ok) (t:Nat):0≤l.word t∧l.word t≤7:=by
 have h1:=Las.pos_lt h.2.2.1 t
 unfold Las.word
 rw[List.getD_eq_getElem?_getD,List.getElem?_eq_getElem (by rw[Las.all_len];exact h1)]
 have hm:l.all[l.pos t]'(by rw[Las.all_len];exact h1)∈l.all:=List.getElem_mem _
 simp only[Option.getD_some]
 unfold Las.all at hm
 rcases List.mem_append.1 hm with hm | hm
 ·exact h.1.1 _ hm
 ·exact h.1.2 _ hm
def StE (E:List Tr) (w:Nat→Int) (t p q:Nat):Prop:=∃e∈E,e.frm=p∧e.to=q∧e.on (w t)=true
inductive FR (E:List Tr) (w:Nat→Int):Nat→Nat→Nat→Nat→Prop
 | refl (t p:Nat):FR E w t p t p
 | step {t p q u r:Nat}(h:StE E w t p q) (k:FR E w (t+1) q u r):FR E w t p u r
section
variable {E:List Tr}{w:Nat→Int}{A:List Bool}{t p u q v r:Nat}
theorem FR.trans (h:FR E w t p u q) (k:FR E w u q v r):FR E w t p v r:=by
 induction h with
 | refl=>exact k
 | step h _ ih=>exact .step h (ih k)
theorem FR.le (h:FR E w t p u q):t≤u:=by
 induction h with
 | refl=>exact Nat.le_refl _
 | step h _ ih=>omega
theorem FR.one (h:StE E w t p q):FR E w t p (t+1) q:=.step h (.refl _ _)
end
def Goes (A:List Bool) (E:List Tr) (w:Nat→Int) (C:Nat→Nat→Prop):Prop:=∀t p,C t p→∃u q,t<u∧FR E w t p u q∧tru A q∧C u q
def Run (A:List Bool) (E:List Tr) (w:Nat→Int) (t p:Nat):Prop:=∃C,C t p∧Goes A E w C
def Aut.Lang (a:Aut) (w:Nat→Int):Prop:=∃s:Nat,(s:Int)∈a.init∧Run a.acc a.edges w 0 s
theorem Run.before {A:List Bool}{E:List Tr}{w:Nat→Int}{t p u q:Nat}(h:FR E w t p u q) (k:Run A E w u q):Run A E w t p:=by
 obtain⟨C,hC,hG⟩:=k
 refine⟨fun t' p'=>(t'=t∧p'=p)∨C t' p',.inl ⟨rfl,rfl⟩,?_⟩
 rintro t' p' (⟨rfl,rfl⟩ | h1)
 ·obtain⟨v,r,h2,h3,h4,h5⟩:=hG u q hC
  have:=h.le
  exact⟨v,r,by omega,h.trans h3,h4,.inr h5⟩
 ·obtain⟨v,r,h2,h3,h4,h5⟩:=hG t' p' h1
  exact⟨v,r,h2,h3,h4,.inr h5⟩
theorem Run.sim {A A':List Bool}{E E':List Tr}{w:Nat→Int}(M:Nat→Nat→Prop)
  (hs:∀t p q p',M p p'→StE E w t p q→Run A E w (t+1) q→∃q',StE E' w t p' q'∧M q q') (ha:∀p p',M p p'→tru A p→tru A' p') {t p p':Nat}(h:Run A E w t p) (hm:M p p'):Run A' E' w t p':=by
 have fr:∀{t p u r:Nat},FR E w t p u r→Run A E w u r→∀p',M p p'→∃r',FR E' w t p' u r'∧M r r':=by
  intro t p u r h
  induction h with
  | refl=>intro _ p' hm;exact⟨p',.refl _ _,hm⟩
  | step h k ih=>
   intro hr p' hm
   obtain⟨q',h1,h2⟩:=hs _ _ _ _ hm h (hr.before k)
   obtain⟨r',h3,h4⟩:=ih hr q' h2
   exact⟨r',.step h1 h3,h4⟩
 obtain⟨C,hC,hG⟩:=h
 refine⟨fun t p'=>∃p,C t p∧M p p',⟨p,hC,hm⟩,?_⟩
 rintro t p' ⟨p,hC,hm⟩
 obtain⟨u,q,h2,h3,h4,h5⟩:=hG t p hC
 obtain⟨q',h6,h7⟩:=fr h3 ⟨C,h5,hG⟩ p' hm
 exact⟨u,q',h2,h6,ha _ _ h7 h4,q,h5,h7⟩
theorem fin_cyc {T:Nat→Nat→Prop}(tr:∀x y z,T x y→T y z→T x z) (N:Nat):∀(m:Nat) (D:Nat→Prop),(((List.range N).filter fun x=>@decide (D x) (Classical.propDecidable _)).length≤m)→(∀x,D x→x<N)→(∃x,D x)→(∀x,D x→∃y,D y∧T x y)→∃x,D x∧T x x:=by
 intro m
 induction m with
 | zero=>
  rintro D hm hN ⟨x,hx⟩ _
  exfalso
  have:x∈(List.range N).filter fun x=>@decide (D x) (Classical.propDecidable _):=by
   rw[List.mem_filter]
   exact⟨List.mem_range.2 (hN x hx),by simpa using hx⟩
  have:=List.length_pos_of_mem this
  omega
 | succ m ih=>
  rintro D hm hN ⟨x,hx⟩ hT
  by_cases hxx:T x x
  ·exact⟨x,hx,hxx⟩
  obtain⟨y,hy,hxy⟩:=hT x hx
  obtain⟨z,⟨hz,_⟩,hzz⟩:=ih (fun y=>D y∧T x y) (by
   have:=filter_lt_of (p:=fun y=>@decide (D y∧T x y) (Classical.propDecidable _)) (q:=fun y=>@decide (D y) (Classical.propDecidable _)) (fun y hy=>by
    simp only[decide_eq_true_eq] at hy ⊢
    exact hy.1) (l:=List.range N) ⟨x,List.mem_range.2 (hN x hx),by simp[hxx],by simpa using hx⟩
   omega) (fun y hy=>hN y hy.1) ⟨y,hy,hxy⟩ (fun z hz=>by
    obtain⟨v,h1,h2⟩:=hT z hz.1
    exact⟨v,⟨h1,tr _ _ _ hz.2 h2⟩,h2⟩)
  exact⟨z,hz,hzz⟩
def Rch1 (E:Nat→Nat→Prop) (x y:Nat):Prop:=∃z,E x z∧Rch E z y
theorem Rch1.trans {E:Nat→Nat→Prop}{x y z:Nat}(h:Rch1 E x y) (k:Rch1 E y z):Rch1 E x z:=by
 obtain⟨u,h1,h2⟩:=h
 obtain⟨v,h3,h4⟩:=k
 exact⟨u,h1,h2.trans (.step h3 h4)⟩
theorem Rch1.rch {E:Nat→Nat→Prop}{x y:Nat}(h:Rch1 E x y):Rch E x y:=by
 obtain⟨u,h1,h2⟩:=h
 exact .step h1 h2
theorem fin_rch {E:Nat→Nat→Prop}{N:Nat}{D:Nat→Prop}(hN:∀x,D x→x<N) (h0:∃x,D x) (hT:∀x,D x→∃y,D y∧Rch1 E x y):∃x,D x∧Cyc E x:=
 fin_cyc (T:=Rch1 E) (fun _ _ _ h k=>Rch1.trans h k) N _ D (Nat.le_refl _) hN h0 hT
def Aut.PE (a:Aut) (l:Las) (x y:Nat):Prop:=∃e∈a.edges,∃i,i<l.size∧x=i*a.acc.length+e.frm.toNat∧y=l.nx i*a.acc.length+e.to.toNat∧e.on (l.all.getD i 0)=true
section
variable {a:Aut}{l:Las}
theorem Aut.Ok.tr (ha:a.Ok) {e:Tr}(he:e∈a.edges):∃f g:Nat,e.frm=f∧e.to=g∧f<a.acc.length∧g<a.acc.length:=by
 have:=ha.2.2.2 e he
 unfold Tr.Ok at this
 exact⟨e.frm.toNat,e.to.toNat,by omega,by omega,by omega,by omega⟩
theorem Aut.Ok.st (ha:a.Ok) {w:Nat→Int}{t p q:Nat}(h:StE a.edges w t p q):p<a.acc.length∧q<a.acc.length:=by
 obtain⟨e,he,h1,h2,_⟩:=h
 obtain⟨f,g,h3,h4,h5,h6⟩:=ha.tr he
 exact⟨by omega,by omega⟩
theorem Aut.Ok.ini (ha:a.Ok) {s:Nat}(hs:(s:Int)∈a.init):s<a.acc.length:=by
 have:=incr_mem ha.i _ hs
 omega
theorem PE.of (hl:1≤l.loop.length) {t p q:Nat}(h:StE a.edges l.word t p q):a.PE l (l.pos t*a.acc.length+p) (l.pos (t+1)*a.acc.length+q):=by
 obtain⟨e,he,h1,h2,h3⟩:=h
 exact⟨e,he,l.pos t,Las.pos_lt hl t,by rw[h1];rfl,by rw[h2];rfl,h3⟩
theorem PE.rch (hl:1≤l.loop.length) {t p u q:Nat}(h:FR a.edges l.word t p u q):Rch (a.PE l) (l.pos t*a.acc.length+p) (l.pos u*a.acc.length+q):=by
 induction h with
 | refl=>exact .refl _
 | step h _ ih=>exact .step (PE.of hl h) ih
theorem PE.rch1 (hl:1≤l.loop.length) {t p u q:Nat}(h:FR a.edges l.word t p u q) (htu:t<u):Rch1 (a.PE l) (l.pos t*a.acc.length+p) (l.pos u*a.acc.length+q):=by
 cases h with
 | refl=>omega
 | step h k=>exact⟨_,PE.of hl h,PE.rch hl k⟩
theorem FR.lt (ha:a.Ok) {w:Nat→Int}{t p u q:Nat}(h:FR a.edges w t p u q) (hp:p<a.acc.length):q<a.acc.length:=by
 induction h with
 | refl=>exact hp
 | step h _ ih=>exact ih (ha.st h).2
end
theorem Run.live {a:Aut}(ha:a.Ok) {w:Nat→Int}{t p:Nat}(hp:p<a.acc.length) (h:Run a.acc a.edges w t p):a.Live p:=by
 have rch:∀{t p u q:Nat},FR a.edges w t p u q→Rch a.E p q:=by
  intro t p u q h
  induction h with
  | refl=>exact .refl _
  | step h _ ih=>
   obtain⟨e,he,h1,h2,_⟩:=h
   exact .step ⟨e,he,h1,h2⟩ ih
 have rch1:∀{t p u q:Nat},FR a.edges w t p u q→t<u→Rch1 a.E p q:=by
  intro t p u q h hlt
  cases h with
  | refl=>omega
  | step h k=>
   obtain⟨e,he,h1,h2,_⟩:=h
   exact⟨_,⟨e,he,h1,h2⟩,rch k⟩
 obtain⟨C,hC,hG⟩:=h
 obtain⟨x,⟨t,g1,g2,g3,g4⟩,hx⟩:=fin_rch (E:=a.E) (N:=a.acc.length) (D:=fun x=>∃t,C t x∧x<a.acc.length∧tru a.acc x∧Rch a.E p x)
  (by rintro x ⟨t,g1,g2,_⟩;exact g2)
  (by
   obtain⟨u,q,h1,h2,h3,h4⟩:=hG t p hC
   exact⟨q,u,h4,h2.lt ha hp,h3,rch h2⟩)
  (by
   rintro x ⟨t,g1,g2,g3,g4⟩
   obtain⟨u,q,h1,h2,h3,h4⟩:=hG t x g1
   exact⟨q,⟨u,h4,h2.lt ha g2,h3,g4.trans (rch h2)⟩,rch1 h2 h1⟩)
 exact⟨x,g4,hx,g3⟩
namespace Fm
mutual
def sat (w:Nat→Int):Exq→Nat→Prop
 | .mk k v l,t=>if k=1 then True else if k=2 then (w t).toNat.testBit v.toNat=true
  else if k=3 then ¬(satL w l).getD 0 (fun _=>False) t
  else if k=4 then (satL w l).getD 0 (fun _=>False) t∧(satL w l).getD 1 (fun _=>False) t
  else if k=5 then (satL w l).getD 0 (fun _=>False) t∨(satL w l).getD 1 (fun _=>False) t
  else if k=6 then (satL w l).getD 0 (fun _=>False) (t+1)
  else if k=7 then ∃u,t≤u∧(satL w l).getD 1 (fun _=>False) u∧∀v,t≤v→v<u→(satL w l).getD 0 (fun _=>False) v
  else if k=8 then ∀u,t≤u→(satL w l).getD 1 (fun _=>False) u∨∃v,t≤v∧v<u∧(satL w l).getD 0 (fun _=>False) v
  else if k=9 then ∃u,t≤u∧(satL w l).getD 0 (fun _=>False) u
  else ∀u,t≤u→(satL w l).getD 0 (fun _=>False) u
def satL (w:Nat→Int):List Exq→List (Nat→Prop)
 | []=>[]
 | x::l=>sat w x::satL w l
end
theorem satL_eq {w:Nat→Int}:∀l,satL w l=l.map (sat w)
 | []=>rfl
 | x::l=>by simp only[satL,List.map_cons,satL_eq l]
def sk (w:Nat→Int) (x:Exq) (j:Nat):Nat→Prop:=(x.kids.map (sat w)).getD j (fun _=>False)
theorem sk_at {w:Nat→Int}{x:Exq}{j:Nat}(hj:j<x.kids.length):sk w x j=sat w x.kids[j]:=by simp[sk,hj]
section
variable {w:Nat→Int}
theorem sat_eq (x:Exq) (t:Nat):sat w x t=if x.kind=1 then True else if x.kind=2 then (w t).toNat.testBit x.val.toNat=true
  else if x.kind=3 then ¬sk w x 0 t else if x.kind=4 then sk w x 0 t∧sk w x 1 t else if x.kind=5 then sk w x 0 t∨sk w x 1 t
  else if x.kind=6 then sk w x 0 (t+1) else if x.kind=7 then ∃u,t≤u∧sk w x 1 u∧∀v,t≤v→v<u→sk w x 0 v
  else if x.kind=8 then ∀u,t≤u→sk w x 1 u∨∃v,t≤v∧v<u∧sk w x 0 v
  else if x.kind=9 then ∃u,t≤u∧sk w x 0 u else ∀u,t≤u→sk w x 0 u:=by
 cases x with
 | mk k v l=>simp only[sat,satL_eq];rfl
variable {x:Exq}{t:Nat}
theorem sat1 (h:x.kind=1):sat w x t:=by rw[sat_eq];simp[h]
theorem sat2 (h:x.kind=2):sat w x t↔(w t).toNat.testBit x.val.toNat=true:=by rw[sat_eq];simp[h]
theorem sat3 (h:x.kind=3):sat w x t↔¬sk w x 0 t:=by rw[sat_eq];simp[h]
theorem sat4 (h:x.kind=4):sat w x t↔sk w x 0 t∧sk w x 1 t:=by rw[sat_eq];simp[h]
theorem sat5 (h:x.kind=5):sat w x t↔sk w x 0 t∨sk w x 1 t:=by rw[sat_eq];simp[h]
theorem sat6 (h:x.kind=6):sat w x t↔sk w x 0 (t+1):=by rw[sat_eq];simp[h]
theorem sat7 (h:x.kind=7):sat w x t↔∃u,t≤u∧sk w x 1 u∧∀v,t≤v→v<u→sk w x 0 v:=by rw[sat_eq];simp[h]
theorem sat8 (h:x.kind=8):sat w x t↔∀u,t≤u→sk w x 1 u∨∃v,t≤v∧v<u∧sk w x 0 v:=by rw[sat_eq];simp[h]
theorem sat9 (h:x.kind=9):sat w x t↔∃u,t≤u∧sk w x 0 u:=by rw[sat_eq];simp[h]
theorem sat10 (h:x.kind=10):sat w x t↔∀u,t≤u→sk w x 0 u:=by rw[sat_eq];simp[h]
theorem until_step {a b:Nat→Prop}{t:Nat}:(∃u,t≤u∧b u∧∀v,t≤v→v<u→a v)↔b t∨(a t∧∃u,t+1≤u∧b u∧∀v,t+1≤v→v<u→a v):=by
 constructor
 ·rintro⟨u,h1,h2,h3⟩
  by_cases e:u=t
  ·subst e;exact .inl h2
  ·exact .inr ⟨h3 t (Nat.le_refl _) (by omega),u,by omega,h2,fun v hv hv2=>h3 v (by omega) hv2⟩
 ·rintro (h | ⟨h,u,h1,h2,h3⟩)
  ·exact⟨t,Nat.le_refl _,h,fun v hv hv2=>by omega⟩
  ·refine⟨u,by omega,h2,fun v hv hv2=>?_⟩
   by_cases e:v=t
   ·subst e;exact h
   ·exact h3 v (by omega) hv2
theorem release_step {a b:Nat→Prop}{t:Nat}:(∀u,t≤u→b u∨∃v,t≤v∧v<u∧a v)↔b t∧(a t∨∀u,t+1≤u→b u∨∃v,t+1≤v∧v<u∧a v):=by
 constructor
 ·intro h
  refine⟨(h t (Nat.le_refl _)).elim id fun ⟨v,h1,h2,_⟩=>by omega,?_⟩
  by_cases ha:a t
  ·exact .inl ha
  ·refine .inr fun u hu=>?_
   rcases h u (by omega) with h1 | ⟨v,h1,h2,h3⟩
   ·exact .inl h1
   ·by_cases e:v=t
    ·subst e;exact absurd h3 ha
    ·exact .inr ⟨v,by omega,h2,h3⟩
 ·rintro⟨h1,h2⟩ u hu
  by_cases e:u=t
  ·subst e;exact .inl h1
  rcases h2 with h2 | h2
  ·exact .inr ⟨t,Nat.le_refl _,by omega,h2⟩
  ·rcases h2 u (by omega) with h3 | ⟨v,h3,h4,h5⟩
   ·exact .inl h3
   ·exact .inr ⟨v,by omega,h4,h5⟩
theorem ev_step {b:Nat→Prop}{t:Nat}:(∃u,t≤u∧b u)↔b t∨∃u,t+1≤u∧b u:=by
 constructor
 ·rintro⟨u,h1,h2⟩
  by_cases e:u=t
  ·subst e;exact .inl h2
  ·exact .inr ⟨u,by omega,h2⟩
 ·rintro (h | ⟨u,h1,h2⟩)
  ·exact⟨t,Nat.le_refl _,h⟩
  ·exact⟨u,by omega,h2⟩
theorem al_step {b:Nat→Prop}{t:Nat}:(∀u,t≤u→b u)↔b t∧∀u,t+1≤u→b u:=by
 constructor
 ·exact fun h=>⟨h t (Nat.le_refl _),fun u hu=>h u (by omega)⟩
 ·rintro⟨h1,h2⟩ u hu
  by_cases e:u=t
  ·subst e;exact h1
  ·exact h2 u (by omega)
theorem sat_shift (d:Nat):∀(x:Exq) (t:Nat),sat (fun k=>w (k+d)) x t↔sat w x (t+d):=by
 refine Exq.ind fun x ih t=>?_
 have hk:∀j t,sk (fun k=>w (k+d)) x j t↔sk w x j (t+d):=by
  intro j t
  by_cases hj:j<x.kids.length
  ·rw[sk_at hj,sk_at hj];exact ih _ (List.getElem_mem hj) t
  ·simp[sk,hj]
 rw[sat_eq,sat_eq]
 split
 ·rfl
 split
 ·rfl
 split
 ·rw[hk]
 split
 ·rw[hk,hk]
 split
 ·rw[hk,hk]
 split
 ·rw[hk];rw[show t+1+d=t+d+1 by omega]
 split
 ·constructor
  ·rintro⟨u,h1,h2,h3⟩
   refine⟨u+d,by omega,(hk _ _).1 h2,fun v hv hv2=>?_⟩
   have:=(hk 0 (v-d)).1 (h3 (v-d) (by omega) (by omega))
   rwa [show v-d+d=v by omega] at this
  ·rintro⟨u,h1,h2,h3⟩
   refine⟨u-d,by omega,(hk _ _).2 (by rwa [show u-d+d=u by omega]),fun v hv hv2=>(hk _ _).2 (h3 _ (by omega) (by omega))⟩
 split
 ·constructor
  ·intro h u hu
   rcases h (u-d) (by omega) with h1 | ⟨v,h1,h2,h3⟩
   ·have:=(hk _ _).1 h1
    rw[show u-d+d=u by omega] at this
    exact .inl this
   ·exact .inr ⟨v+d,by omega,by omega,(hk _ _).1 h3⟩
  ·intro h u hu
   rcases h (u+d) (by omega) with h1 | ⟨v,h1,h2,h3⟩
   ·exact .inl ((hk _ _).2 h1)
   ·exact .inr ⟨v-d,by omega,by omega,(hk _ _).2 (by rwa [show v-d+d=v by omega])⟩
 split
 ·constructor
  ·rintro⟨u,h1,h2⟩
   exact⟨u+d,by omega,(hk _ _).1 h2⟩
  ·rintro⟨u,h1,h2⟩
   exact⟨u-d,by omega,(hk _ _).2 (by rwa [show u-d+d=u by omega])⟩
 ·constructor
  ·intro h u hu
   have:=(hk _ _).1 (h (u-d) (by omega))
   rwa [show u-d+d=u by omega] at this
  ·exact fun h u hu=>(hk _ _).2 (h _ (by omega))
theorem sat_congr {w':Nat→Int}(h:∀t,w t=w' t) (x:Exq) (t:Nat):sat w x t↔sat w' x t:=by rw[show w=w' from funext h]
theorem sat_tru:sat w tru t:=sat1 rfl
theorem sat_neg {x:Exq}:sat w (neg x) t↔¬sat w x t:=by rw[sat3 rfl];rfl
theorem sat_push:∀(x:Exq) {n:Nat},Shp n x→∀(b:Bool) (t:Nat),sat w (push x b) t↔(if b then ¬sat w x t else sat w x t):=by
 refine Exq.ind fun x ih n hs b t=>?_
 obtain⟨m,rfl⟩:∃m,n=m+1:=⟨n-1,by cases n with
  | zero=>exact hs.elim
  | succ n=>rfl⟩
 have hk:∀(b:Bool) (j t:Nat),j<x.kids.length→(sat w (kp x b j) t↔(if b then ¬sk w x j t else sk w x j t)):=by
  intro b j t hj
  rw[kp_at hj,sk_at hj]
  exact ih _ (List.getElem_mem hj) (hs.kid hj) b t
 have hk0:=hs.nd.kind
 rw[push_eq]
 by_cases c1:x.kind=1
 ·rw[if_pos (.inl c1)]
  have h1:sat w (.mk x.kind x.val []) t:=sat1 c1
  have h2:sat w x t:=sat1 c1
  cases b
  ·simp[h1,h2]
  ·simp only[if_true];rw[sat_neg];simp[h1,h2]
 by_cases c2:x.kind=2
 ·rw[if_pos (.inr c2)]
  have h1:sat w (.mk x.kind x.val []) t↔sat w x t:=by rw[sat2 c2,sat2 (x:=.mk x.kind x.val []) c2];rfl
  cases b
  ·simp[h1]
  ·simp only[if_true];rw[sat_neg,h1]
 rw[if_neg (by omega)]
 by_cases c3:x.kind=3
 ·rw[if_pos c3,hk _ _ _ (by rw[hs.one (.inl c3)];omega),sat3 c3]
  cases b<;>simp
 rw[if_neg c3]
 by_cases c6:x.kind=6
 ·rw[if_pos c6,sat6 rfl,sat6 c6]
  show sat w (kp x b 0) (t+1)↔_
  rw[hk _ _ _ (by rw[hs.one (.inr (.inl c6))];omega)]
 rw[if_neg c6]
 by_cases c9:x.kind=9
 ·rw[if_pos (.inl c9)]
  have hl:0<x.kids.length:=by rw[hs.one (.inr (.inr (.inl c9)))];omega
  cases b
  ·rw[if_pos (by simp[c9]),sat7 rfl]
   simp only[Bool.false_eq_true,if_false]
   rw[sat9 c9]
   constructor
   ·rintro⟨u,h1,h2,_⟩;exact⟨u,h1,(hk false 0 u hl).1 h2⟩
   ·rintro⟨u,h1,h2⟩;exact⟨u,h1,(hk false 0 u hl).2 h2,fun v _ _=>show sat w tru v from sat_tru⟩
  ·rw[if_neg (by simp[c9]),sat8 rfl]
   simp only[if_true]
   rw[sat9 c9]
   constructor
   ·rintro h ⟨u,h1,h2⟩
    rcases h u h1 with h3 | ⟨v,_,_,h3⟩
    ·exact (hk true 0 u hl).1 h3 h2
    ·exact absurd sat_tru (sat_neg.1 h3)
   ·intro h u hu
    exact .inl ((hk true 0 u hl).2 fun hh=>h ⟨u,hu,hh⟩)
 by_cases c10:x.kind=10
 ·rw[if_pos (.inr c10)]
  have hl:0<x.kids.length:=by rw[hs.one (.inr (.inr (.inr c10)))];omega
  cases b
  ·rw[if_neg (by simp[c10]),sat8 rfl]
   simp only[Bool.false_eq_true,if_false]
   rw[sat10 c10]
   constructor
   ·intro h u hu
    rcases h u hu with h3 | ⟨v,_,_,h3⟩
    ·exact (hk false 0 u hl).1 h3
    ·exact absurd sat_tru (sat_neg.1 h3)
   ·exact fun h u hu=>.inl ((hk false 0 u hl).2 (h u hu))
  ·rw[if_pos (by simp[c10]),sat7 rfl]
   simp only[if_true]
   rw[sat10 c10]
   constructor
   ·rintro⟨u,h1,h2,_⟩ h;exact (hk true 0 u hl).1 h2 (h u h1)
   ·intro h
    rw[Classical.not_forall] at h
    obtain⟨u,hu⟩:=h
    rw[Classical.not_imp] at hu
    exact⟨u,hu.1,(hk true 0 u hl).2 hu.2,fun v _ _=>show sat w tru v from sat_tru⟩
 rw[if_neg (by omega)]
 have c:x.kind=4∨x.kind=5∨x.kind=7∨x.kind=8:=by omega
 have hl:=hs.two c
 have k0:=fun b t=>hk b 0 t (by omega)
 have k1:=fun b t=>hk b 1 t (by omega)
 have q0:∀{k:Int}{t:Nat},sk w (.mk k 0 [kp x b 0,kp x b 1]) 0 t↔(if b then ¬sk w x 0 t else sk w x 0 t):=fun {k t}=>k0 b t
 have q1:∀{k:Int}{t:Nat},sk w (.mk k 0 [kp x b 0,kp x b 1]) 1 t↔(if b then ¬sk w x 1 t else sk w x 1 t):=fun {k t}=>k1 b t
 clear k0 k1
 rcases c with c | c | c | c
 ·cases b
  ·rw[if_neg (by simp),sat4 (x:=.mk x.kind 0 _) c,q0,q1,sat4 c];simp
  ·rw[if_pos rfl,sat5 (by simp[c,dual]),q0,q1,sat4 c]
   simp only[if_true]
   rw[Classical.not_and_iff_not_or_not]
 ·cases b
  ·rw[if_neg (by simp),sat5 (x:=.mk x.kind 0 _) c,q0,q1,sat5 c];simp
  ·rw[if_pos rfl,sat4 (by simp[c,dual]),q0,q1,sat5 c]
   simp only[if_true,not_or]
 ·cases b
  ·simp only[Bool.false_eq_true,if_false] at q0 q1 ⊢
   rw[sat7 (x:=.mk x.kind 0 _) c,sat7 c]
   simp only[q0,q1]
  ·simp only[if_true] at q0 q1 ⊢
   rw[sat8 (by simp[c,dual]),sat7 c]
   simp only[q0,q1]
   constructor
   ·rintro h ⟨u,h1,h2,h3⟩
    rcases h u h1 with h4 | ⟨v,h4,h5,h6⟩
    ·exact h4 h2
    ·exact h6 (h3 v h4 h5)
   ·intro h u hu
    by_cases h1:sk w x 1 u
    ·refine .inr ?_
     by_cases h2:∃v,t≤v∧v<u∧¬sk w x 0 v
     ·exact h2
     ·exact absurd ⟨u,hu,h1,fun v hv hv2=>Classical.byContradiction fun hh=>h2 ⟨v,hv,hv2,hh⟩⟩ h
    ·exact .inl h1
 ·cases b
  ·simp only[Bool.false_eq_true,if_false] at q0 q1 ⊢
   rw[sat8 (x:=.mk x.kind 0 _) c,sat8 c]
   simp only[q0,q1]
  ·simp only[if_true] at q0 q1 ⊢
   rw[sat7 (by simp[c,dual]),sat8 c]
   simp only[q0,q1]
   constructor
   ·rintro⟨u,h1,h2,h3⟩ h
    rcases h u h1 with h4 | ⟨v,h4,h5,h6⟩
    ·exact h2 h4
    ·exact h3 v h4 h5 h6
   ·intro h
    rw[Classical.not_forall] at h
    obtain⟨u,hu⟩:=h
    rw[Classical.not_imp,not_or] at hu
    exact⟨u,hu.1,hu.2.1,fun v hv hv2 hh=>hu.2.2 ⟨v,hv,hv2,hh⟩⟩
end
end Fm
namespace Fm
theorem bits_ex (b:Nat→Prop):∀n,∃s,s<2^n∧∀i,i<n→(s.testBit i=true↔b i)
 | 0=>⟨0,by simp,fun i hi=>absurd hi (Nat.not_lt_zero i)⟩
 | n+1=>by
  obtain⟨s,h1,h2⟩:=bits_ex b n
  have hp:2^(n+1)=2*2^n:=by rw[Nat.pow_succ];omega
  by_cases hb:b n
  ·refine⟨2^n+s,by omega,fun i hi=>?_⟩
   by_cases e:i=n
   ·subst e
    rw[Nat.testBit_two_pow_add_eq,Nat.testBit_lt_two_pow h1]
    simp[hb]
   ·rw[Nat.testBit_two_pow_add_gt (by omega)]
    exact h2 i (by omega)
  ·refine⟨s,by omega,fun i hi=>?_⟩
   by_cases e:i=n
   ·subst e
    rw[Nat.testBit_lt_two_pow h1]
    simp[hb]
   ·exact h2 i (by omega)
theorem shl_bit {k a:Nat}:(1<<<k).testBit a=decide (k=a):=by
 rw[Nat.one_shiftLeft,Nat.testBit_two_pow]
theorem ltc_bit {B:List Exq}{a:Nat}:∀n,n≤B.length→((ltc B n).testBit a=true↔∃(i:Nat) (hi:i<B.length),i<n∧B[i].kind=2∧B[i].val.toNat=a)
 | 0,_=>by simp[ltc]
 | n+1,hn=>by
  have ih:=ltc_bit (B:=B) (a:=a) n (by omega)
  have e:B.getD n Exq.zero=B[n]'(by omega):=by simp[show n<B.length by omega]
  rw[ltc,e]
  split
  ·rename_i hk
   rw[Nat.testBit_or,Bool.or_eq_true,ih,shl_bit,decide_eq_true_iff]
   constructor
   ·rintro (⟨i,hi,h1,h2,h3⟩ | h)
    ·exact⟨i,hi,by omega,h2,h3⟩
    ·exact⟨n,by omega,by omega,hk,h⟩
   ·rintro⟨i,hi,h1,h2,h3⟩
    by_cases e:i=n
    ·subst e;exact .inr h3
    ·exact .inl ⟨i,hi,by omega,h2,h3⟩
  ·rename_i hk
   rw[ih]
   constructor
   ·rintro⟨i,hi,h1,h2,h3⟩;exact⟨i,hi,by omega,h2,h3⟩
   ·rintro⟨i,hi,h1,h2,h3⟩
    by_cases e:i=n
    ·subst e;exact absurd h2 hk
    ·exact⟨i,hi,by omega,h2,h3⟩
theorem ltv_bit {B:List Exq}{s a:Nat}:∀n,n≤B.length→((ltv B s n).testBit a=true↔∃(i:Nat) (hi:i<B.length),i<n∧B[i].kind=2∧s.testBit i=true∧B[i].val.toNat=a)
 | 0,_=>by simp[ltv]
 | n+1,hn=>by
  have ih:=ltv_bit (B:=B) (s:=s) (a:=a) n (by omega)
  have e:B.getD n Exq.zero=B[n]'(by omega):=by simp[show n<B.length by omega]
  rw[ltv,e]
  split
  ·rename_i hk
   rw[Nat.testBit_or,Bool.or_eq_true,ih,shl_bit,decide_eq_true_iff]
   constructor
   ·rintro (⟨i,hi,h1,h2,h3⟩ | h)
    ·exact⟨i,hi,by omega,h2,h3⟩
    ·exact⟨n,by omega,by omega,hk.1,hk.2,h⟩
   ·rintro⟨i,hi,h1,h2,h3,h4⟩
    by_cases e:i=n
    ·subst e;exact .inr h4
    ·exact .inl ⟨i,hi,by omega,h2,h3,h4⟩
  ·rename_i hk
   rw[ih]
   constructor
   ·rintro⟨i,hi,h1,h2,h3⟩;exact⟨i,hi,by omega,h2,h3⟩
   ·rintro⟨i,hi,h1,h2,h3,h4⟩
    by_cases e:i=n
    ·subst e;exact absurd ⟨h2,h3⟩ hk
    ·exact⟨i,hi,by omega,h2,h3,h4⟩
def Cl (B:List Exq):Nat→Exq→Prop
 | 0,_=>False
 | n+1,x=>Nd x∧x.kind≤8∧(x.kind=3→∀y∈x.kids,y.kind=1∨y.kind=2)∧(bas x=true→x∈B)∧∀y∈x.kids,Cl B n y
theorem Cl.shp {B:List Exq}:∀{n:Nat}{x:Exq},Cl B n x→Shp n x
 | 0,_,h=>h.elim
 | _+1,_,h=>⟨h.1,fun y hy=>(h.2.2.2.2 y hy).shp⟩
theorem Cl.ex {B:List Exq}{n:Nat}{x:Exq}(h:Cl B n x):∃m,n=m+1:=by
 cases n with
 | zero=>exact h.elim
 | succ n=>exact⟨n,rfl⟩
def Lm (B:List Exq) (s:Nat) (L:Int):Prop:=L.toNat&&&ltc B B.length=ltv B s B.length
theorem Lm_iff {B:List Exq}(hn:B.Nodup) (hB:∀y∈B,Shp 6 y) {s:Nat}{L:Int}:Lm B s L↔∀(i:Nat) (hi:i<B.length),B[i].kind=2→(L.toNat.testBit B[i].val.toNat=s.testBit i):=by
 have uniq:∀(i j:Nat) (hi:i<B.length) (hj:j<B.length),B[i].kind=2→B[j].kind=2→B[i].val.toNat=B[j].val.toNat→i=j:=by
  intro i j hi hj h1 h2 h3
  have e1:=(hB _ (List.getElem_mem hi))
  have e2:=(hB _ (List.getElem_mem hj))
  have h4:=e1.nd.lo
  have h5:=e2.nd.lo
  have he:B[i]=B[j]:=Exq.ext_iff'.2 ⟨by rw[h1,h2],by omega,by rw[e1.none (.inr h1),e2.none (.inr h2)]⟩
  have hp:=List.pairwise_iff_getElem.1 hn
  rcases Nat.lt_trichotomy i j with h6 | h6 | h6
  ·exact absurd he (hp i j hi hj h6)
  ·exact h6
  ·exact absurd he.symm (hp j i hj hi h6)
 constructor
 ·intro h i hi hk
  have hb:(L.toNat&&&ltc B B.length).testBit B[i].val.toNat=(ltv B s B.length).testBit B[i].val.toNat:=by rw[h]
  have hc:(ltc B B.length).testBit B[i].val.toNat=true:=(ltc_bit _ (Nat.le_refl _)).2 ⟨i,hi,hi,hk,rfl⟩
  rw[Nat.testBit_and,hc,Bool.and_true] at hb
  rw[hb,Bool.eq_iff_iff,ltv_bit _ (Nat.le_refl _)]
  constructor
  ·rintro⟨j,hj,_,h2,h3,h4⟩
   obtain rfl:=uniq j i hj hi h2 hk h4
   exact h3
  ·exact fun h1=>⟨i,hi,hi,hk,h1,rfl⟩
 ·intro h
  refine Nat.eq_of_testBit_eq fun a=>?_
  rw[Nat.testBit_and,Bool.eq_iff_iff,Bool.and_eq_true,ltc_bit _ (Nat.le_refl _),ltv_bit _ (Nat.le_refl _)]
  constructor
  ·rintro⟨h1,i,hi,h2,h3,rfl⟩
   exact⟨i,hi,h2,h3,by rw[← h i hi h3];exact h1,rfl⟩
  ·rintro⟨i,hi,h2,h3,h4,rfl⟩
   exact⟨by rw[h i hi h3];exact h4,i,hi,h2,h3,rfl⟩
theorem val_bas {B:List Exq}{s:Nat}{x:Exq}(h:bas x=true):val B s x=has s (fx B x):=by
 rw[val_eq]
 have h:=of_decide_eq_true h
 rw[if_neg (by omega),if_neg (by omega),if_neg (by omega),if_neg (by omega)]
structure Gd (B:List Exq) (U:List Int) (w:Nat→Int) (σ:Nat→Nat) (π:Nat→Int):Prop where
 fol:∀t,Fol B (σ t) (σ (t+1))
 lm:∀t,Lm B (σ t) (w t)
 ph:∀t,π (t+1)=(phs B U (σ t) (π t)).1
 ok:∀t,POk U (π t)
 acc:∀t,∃u,t≤u∧(phs B U (σ u) (π u)).2=true
theorem Gd.ful {B:List Exq}{U:List Int}{w:Nat→Int}{σ:Nat→Nat}{π:Nat→Int}(h:Gd B U w σ π) {m:Nat}(hm:m<U.length) (t:Nat):∃u,t≤u∧Fm.ful B (σ u) U[m]=true:=by
 apply Classical.byContradiction
 intro hno
 have hno:∀u,t≤u→Fm.ful B (σ u) U[m]=false:=fun u hu=>by
  cases hf:Fm.ful B (σ u) U[m] with
  | false=>rfl
  | true=>exact absurd ⟨u,hu,hf⟩ hno
 have hU:¬U.length=0:=by omega
 have hUp:(0:Int)<U.length:=by omega
 have hstep:∀u,t≤u→∀p:Nat,π u=p→p<U.length∧(phs B U (σ u) (π u)=if Fm.ful B (σ u) (U.getD p 0)=true then ((((p+1)%U.length:Nat):Int),decide (p=0)) else ((p:Int),false)):=by
  intro u hu p hp
  have hk:=h.ok u
  rw[hp] at hk
  have hpl:p<U.length:=by rcases hk.2 with h1 | h1<;>omega
  refine⟨hpl,?_⟩
  rw[phs,if_neg hU,hp,Int.toNat_natCast]
  split
  ·congr 1
   simp
  ·rfl
 have hnat:∀u,∃p:Nat,π u=p:=fun u=>⟨(π u).toNat,by have:=(h.ok u).1;omega⟩
 have hgm:U.getD m 0=U[m]:=by simp[hm]
 -- an accepting time
 obtain⟨t1,h1,h2⟩:=h.acc t
 obtain⟨p1,hp1⟩:=hnat t1
 obtain⟨hp1l,hq1⟩:=hstep t1 h1 p1 hp1
 rw[hq1] at h2
 by_cases f1:Fm.ful B (σ t1) (U.getD p1 0)=true
 case neg=>rw[if_neg f1] at h2;simp at h2
 rw[if_pos f1] at h2 hq1
 have hp10:p1=0:=of_decide_eq_true h2
 subst hp10
 have hm0:m≠0:=by
  rintro rfl
  rw[hgm,hno t1 h1] at f1
  simp at f1
 -- from then on the phase lies between
 have hbet:∀k,∃p:Nat,π (t1+1+k)=p∧1≤p∧p≤m:=by
  intro k
  induction k with
  | zero=>exact⟨1,by rw[Nat.add_zero,h.ph t1,hq1];simp only[Nat.zero_add];rw[Nat.mod_eq_of_lt (by omega)],by omega,by omega⟩
  | succ k ih=>
   obtain⟨p,g1,g2,g3⟩:=ih
   obtain⟨g4,g5⟩:=hstep _ (by omega) p g1
   by_cases f2:Fm.ful B (σ (t1+1+k)) (U.getD p 0)=true
   ·rw[if_pos f2] at g5
    have hpm:p≠m:=by
     rintro rfl
     rw[hgm,hno _ (by omega)] at f2
     simp at f2
    exact⟨p+1,by rw[← Nat.add_assoc,h.ph,g5];simp only;rw[Nat.mod_eq_of_lt (by omega)],by omega,by omega⟩
   ·rw[if_neg f2] at g5
    exact⟨p,by rw[← Nat.add_assoc,h.ph,g5],g2,g3⟩
 obtain⟨t2,h3,h4⟩:=h.acc (t1+1)
 obtain⟨p,g1,g2,g3⟩:=hbet (t2-(t1+1))
 rw[show t1+1+(t2-(t1+1))=t2 by omega] at g1
 obtain⟨_,g5⟩:=hstep t2 (by omega) p g1
 rw[g5] at h4
 split at h4
 ·have:=of_decide_eq_true h4
  omega
 ·simp at h4
theorem unt_at {B:List Exq}:∀{n:Nat}{i:Nat},i<n→(B.getD i Exq.zero).kind=7→(i:Int)∈unt B n
 | n+1,i,hi,hk=>by
  rw[unt]
  by_cases e:i=n
  ·subst e
   rw[if_pos hk]
   simp
  ·have:=unt_at (B:=B) (n:=n) (i:=i) (by omega) hk
   split
   ·exact List.mem_append_left _ this
   ·exact this
theorem Gd.sound {B:List Exq}{w:Nat→Int}{σ:Nat→Nat}{π:Nat→Int}(h:Gd B (unt B B.length) w σ π) (hn:B.Nodup) (hB:∀y∈B,Shp 6 y):∀(x:Exq) {n:Nat},Cl B n x→∀t,val B (σ t) x=true→sat w x t:=by
 refine Exq.ind fun x ih n hc t hv=>?_
 obtain⟨n,rfl⟩:=hc.ex
 have hs:=hc.shp
 obtain⟨hnd,hk8,h3,hbB,hkids⟩:=hc
 have hkd:=hnd.kind
 have kid:∀j t,j<x.kids.length→kv B (σ t) x j=true→sk w x j t:=by
  intro j t hj hv
  rw[kv_at hj] at hv
  rw[sk_at hj]
  exact ih _ (List.getElem_mem hj) (hkids _ (List.getElem_mem hj)) t hv
 by_cases c1:x.kind=1
 ·exact sat1 c1
 have atom:∀{y:Exq}{t:Nat},y.kind=2→y∈B→(val B (σ t) y=true↔sat w y t):=by
  intro y t hy hm
  obtain⟨i,hi,e1,e2⟩:=fx_mem hm
  rw[val_bas (by simp[bas,hy]),e1,has_nat,sat2 hy,← (Lm_iff hn hB).1 (h.lm t) i hi (by rw[e2];exact hy),e2]
 by_cases c3:x.kind=3
 ·have h1:=hs.one (.inl c3)
  have hl:0<x.kids.length:=by omega
  rw[val_eq,if_neg c1,if_pos c3] at hv
  rw[sat3 c3,sk_at hl]
  rw[kv_at hl] at hv
  have hc2:=hkids _ (List.getElem_mem hl)
  rcases h3 c3 _ (List.getElem_mem hl) with hk | hk
  ·rw[val_eq,if_pos hk] at hv
   simp at hv
  ·obtain⟨n',rfl⟩:=hc2.ex
   have hm:=hc2.2.2.2.1 (by simp[bas,hk])
   rw[← atom hk hm]
   simpa using hv
 by_cases c4:x.kind=4
 ·have h1:=hs.two (.inl c4)
  rw[val_eq,if_neg c1,if_neg c3,if_pos c4,Bool.and_eq_true] at hv
  rw[sat4 c4]
  exact⟨kid _ _ (by omega) hv.1,kid _ _ (by omega) hv.2⟩
 by_cases c5:x.kind=5
 ·have h1:=hs.two (.inr (.inl c5))
  rw[val_eq,if_neg c1,if_neg c3,if_neg c4,if_pos c5,Bool.or_eq_true] at hv
  rw[sat5 c5]
  exact hv.imp (kid _ _ (by omega)) (kid _ _ (by omega))
 have hb:bas x=true:=decide_eq_true (by omega)
 have hm:=hbB hb
 obtain⟨i,hi,e1,e2⟩:=fx_mem hm
 have hvb:∀t,val B (σ t) x=(σ t).testBit i:=fun t=>by rw[val_bas hb,e1,has_nat]
 by_cases c2:x.kind=2
 ·exact (atom c2 hm).1 hv
 have hfol:∀t,got B (σ t) (σ (t+1)) i x=(σ t).testBit i:=fun t=>by have:=h.fol t i hi;rwa [e2] at this
 rw[hvb] at hv
 by_cases c6:x.kind=6
 ·have h1:=hs.one (.inr (.inl c6))
  have h2:=hfol t
  rw[got,if_pos c6,hv] at h2
  rw[sat6 c6]
  exact kid _ _ (by omega) h2
 by_cases c7:x.kind=7
 ·have h1:=hs.two (.inr (.inr (.inl c7)))
  have hst:∀t,(σ t).testBit i=(kv B (σ t) x 1||kv B (σ t) x 0&&(σ (t+1)).testBit i):=fun t=>by
   have h2:=hfol t
   rw[got,if_neg c6,if_pos c7] at h2
   exact h2.symm
  have hu:=unt_at (B:=B) (n:=B.length) (i:=i) hi (by rw[List.getD_eq_getElem?_getD,List.getElem?_eq_getElem hi,e2];exact c7)
  obtain⟨m,hml,hmu⟩:=List.mem_iff_getElem.1 hu
  obtain⟨u0,g1,g2⟩:=h.ful hml t
  rw[hmu,Fm.ful,has_nat,Int.toNat_natCast,List.getD_eq_getElem?_getD,List.getElem?_eq_getElem hi,e2] at g2
  simp only[Option.getD_some,Bool.or_eq_true,Bool.not_eq_true'] at g2
  -- from t to there
  have key:∀d t,t+d=u0→(σ t).testBit i=true→∃u,t≤u∧sk w x 1 u∧∀v,t≤v→v<u→sk w x 0 v:=by
   intro d
   induction d with
   | zero=>
    intro t ht hb
    obtain rfl:t=u0:=by omega
    rcases g2 with g2 | g2
    ·rw[hb] at g2;simp at g2
    ·exact⟨t,Nat.le_refl _,kid _ _ (by omega) g2,fun v hv hv2=>by omega⟩
   | succ d ihd=>
    intro t ht hb
    rw[hst t] at hb
    rw[until_step]
    cases hk1:kv B (σ t) x 1 with
    | true=>exact .inl (kid _ _ (by omega) hk1)
    | false=>
     rw[hk1,Bool.false_or,Bool.and_eq_true] at hb
     exact .inr ⟨kid _ _ (by omega) hb.1,ihd (t+1) (by omega) hb.2⟩
  rw[sat7 c7]
  exact key (u0-t) t (by omega) hv
 ·have c8:x.kind=8:=by omega
  have h1:=hs.two (.inr (.inr (.inr c8)))
  have hst:∀t,(σ t).testBit i=(kv B (σ t) x 1&&(kv B (σ t) x 0||(σ (t+1)).testBit i)):=fun t=>by
   have h2:=hfol t
   rw[got,if_neg c6,if_neg c7,if_pos c8] at h2
   exact h2.symm
  rw[sat8 c8]
  have key:∀d,(∃v,t≤v∧v<t+d∧sk w x 0 v)∨(σ (t+d)).testBit i=true:=by
   intro d
   induction d with
   | zero=>exact .inr hv
   | succ d ihd=>
    rcases ihd with ⟨v,g1,g2,g3⟩ | hb
    ·exact .inl ⟨v,g1,by omega,g3⟩
    ·rw[hst,Bool.and_eq_true,Bool.or_eq_true] at hb
     rcases hb.2 with g | g
     ·exact .inl ⟨t+d,by omega,by omega,kid _ _ (by omega) g⟩
     ·exact .inr (by rw[← Nat.add_assoc];exact g)
  intro u hu
  rcases key (u-t) with ⟨v,g1,g2,g3⟩ | g
  ·exact .inr ⟨v,g1,by omega,g3⟩
  ·rw[show t+(u-t)=u by omega,hst,Bool.and_eq_true] at g
   exact .inl (kid _ _ (by omega) g.1)
end Fm
namespace Fm
theorem ins_nodup {o:List Exq}{x:Exq}(h:o.Nodup):(ins o x).Nodup:=by
 unfold ins
 split
 ·exact h
 ·rename_i hx
  rw[List.nodup_append]
  exact⟨h,by simp,fun a ha b hb=>by simp at hb;subst hb;rintro rfl;exact hx ha⟩
theorem mem_ins {o:List Exq}{x y:Exq}:y∈ins o x↔y∈o∨y=x:=by
 unfold ins
 split
 ·rename_i hx
  exact⟨.inl,fun h=>h.elim id fun e=>e▸hx⟩
 ·simp
theorem nod_kid {x y:Exq}(h:y∈x.kids):y.nod<x.nod:=by
 obtain⟨i,hi,rfl⟩:=List.mem_iff_getElem.1 h
 have e1:=Exq.nods_take hi
 have e2:=Exq.nods_le x.kids (i+1)
 have e3:=x.nod_eq
 omega
theorem subs_nodup:∀(n:Nat) (x:Exq),x.nod≤n→∀(o:List Exq),o.Nodup→(subs x o).Nodup:=by
 intro n
 induction n with
 | zero=>intro x h;rw[Exq.nod_eq] at h;omega
 | succ n ih=>
  intro x hx o ho
  rw[subs_eq]
  have hl:∀(l:List Exq),(∀z∈l,z.nod≤n)→∀(o:List Exq),o.Nodup→(l.foldl (fun o x=>subs x o) o).Nodup:=by
   intro l
   induction l with
   | nil=>intro _ o ho;exact ho
   | cons z l ihl=>intro hz o ho;exact ihl (fun w hw=>hz w (by simp[hw])) _ (ih z (hz z (by simp)) o ho)
  exact ins_nodup (hl _ (fun z hz=>by have:=nod_kid hz;omega) o ho)
def Kc (o:List Exq):Prop:=∀y∈o,∀z∈y.kids,z∈o
theorem subs_kc:∀(n:Nat) (x:Exq),x.nod≤n→∀(o:List Exq),Kc o→Kc (subs x o)∧x∈subs x o∧∀y∈o,y∈subs x o:=by
 intro n
 induction n with
 | zero=>intro x h;rw[Exq.nod_eq] at h;omega
 | succ n ih=>
  intro x hx o ho
  rw[subs_eq]
  have hl:∀(l:List Exq),(∀z∈l,z.nod≤n)→∀(o:List Exq),Kc o→Kc (l.foldl (fun o x=>subs x o) o)∧(∀y∈l,y∈l.foldl (fun o x=>subs x o) o)∧∀y∈o,y∈l.foldl (fun o x=>subs x o) o:=by
   intro l
   induction l with
   | nil=>intro _ o ho;exact⟨ho,fun y hy=>by simp at hy,fun y hy=>hy⟩
   | cons z l ihl=>
    intro hz o ho
    obtain⟨h1,h2,h3⟩:=ih z (hz z (by simp)) o ho
    obtain⟨h4,h5,h6⟩:=ihl (fun w hw=>hz w (by simp[hw])) _ h1
    rw[List.foldl_cons]
    refine⟨h4,fun y hy=>?_,fun y hy=>h6 _ (h3 y hy)⟩
    rcases List.mem_cons.1 hy with rfl | hy
    ·exact h6 _ h2
    ·exact h5 y hy
  obtain⟨h1,h2,h3⟩:=hl x.kids (fun z hz=>by have:=nod_kid hz;omega) o ho
  refine⟨fun y hy z hz=>?_,mem_ins.2 (.inr rfl),fun y hy=>mem_ins.2 (.inl (h3 y hy))⟩
  rcases mem_ins.1 hy with hy | rfl
  ·exact mem_ins.2 (.inl (h1 y hy z hz))
  ·exact mem_ins.2 (.inl (h2 z hz))
def Nf:Nat→Exq→Prop
 | 0,_=>False
 | n+1,x=>x.kind≤8∧(x.kind=3→∀y∈x.kids,y.kind=1∨y.kind=2)∧∀y∈x.kids,Nf n y
theorem Nf.kids {x:Exq}(h:∃n,Nf n x):∀y∈x.kids,∃n,Nf n y:=by
 obtain⟨n,h⟩:=h
 cases n with
 | zero=>exact h.elim
 | succ n=>exact fun y hy=>⟨n,h.2.2 y hy⟩
theorem Nf.mono:∀{n:Nat}{x:Exq},Nf n x→Nf (n+1) x
 | 0,_,h=>h.elim
 | n+1,_,h=>⟨h.1,h.2.1,fun y hy=>(h.2.2 y hy).mono⟩
theorem Nf.up {n m:Nat}{x:Exq}(h:Nf n x) (hm:n≤m):Nf m x:=by
 obtain⟨k,rfl⟩:=Nat.exists_eq_add_of_le hm
 induction k with
 | zero=>exact h
 | succ k ih=>exact (ih (by omega)).mono
theorem nf_tru:Nf 3 tru:=⟨by decide,fun h=>absurd h (by decide),fun y hy=>by simp[tru] at hy⟩
theorem nf_neg {x:Exq}(h:x.kind=1∨x.kind=2) (hk:x.kids=[]):Nf 3 (neg x):=
 ⟨by simp[neg],fun _ y hy=>by simp[neg] at hy;subst hy;exact h,fun y hy=>by
  simp[neg] at hy;subst hy
  exact⟨by omega,fun h3=>by omega,fun z hz=>by rw[hk] at hz;simp at hz⟩⟩
theorem nf_push:∀(x:Exq) {n:Nat},Shp n x→∀b,Nf (n+3) (push x b):=by
 refine Exq.ind fun x ih n hs b=>?_
 obtain⟨m,rfl⟩:∃m,n=m+1:=⟨n-1,by cases n with
  | zero=>exact hs.elim
  | succ n=>rfl⟩
 have hk:∀(b:Bool) (j:Nat),j<x.kids.length→Nf (m+3) (kp x b j):=by
  intro b j hj
  rw[kp_at hj]
  exact ih _ (List.getElem_mem hj) (hs.kid hj) b
 have hkd:=hs.nd.kind
 rw[push_eq]
 have e3:m+1+3=(m+3)+1:=by omega
 split
 ·rename_i h
  split
  ·exact (nf_neg (x:=.mk x.kind x.val []) h rfl).up (by omega)
  ·exact⟨by simp only[Exq.kind_mk];omega,fun h3=>by simp only[Exq.kind_mk] at h3;omega,fun y hy=>by simp at hy⟩
 split
 ·rename_i h
  exact (hk _ 0 (by rw[hs.one (.inl h)];omega)).mono
 split
 ·rename_i h
  rw[e3]
  exact⟨by simp,fun h3=>absurd h3 (by simp),fun y hy=>by simp at hy;subst hy;exact hk _ 0 (by rw[hs.one (.inr (.inl h))];omega)⟩
 split
 ·rename_i h
  have h0:=hk b 0 (by rw[hs.one (.inr (.inr h))];omega)
  split
  ·rw[e3]
   refine⟨by simp,fun h3=>absurd h3 (by simp),fun y hy=>?_⟩
   simp at hy
   rcases hy with rfl | rfl
   ·exact nf_tru.up (by omega)
   ·exact h0
  ·rw[e3]
   refine⟨by simp,fun h3=>absurd h3 (by simp),fun y hy=>?_⟩
   simp at hy
   rcases hy with rfl | rfl
   ·exact (nf_neg (x:=tru) (.inl rfl) rfl).up (by omega)
   ·exact h0
 ·have c:x.kind=4∨x.kind=5∨x.kind=7∨x.kind=8:=by omega
  have hl:=hs.two c
  have hd:(if b=true then dual x.kind else x.kind)=4∨(if b=true then dual x.kind else x.kind)=5∨(if b=true then dual x.kind else x.kind)=7∨(if b=true then dual x.kind else x.kind)=8:=by
   unfold dual
   rcases c with c | c | c | c<;>(rw[c];cases b<;>simp)
  rw[e3]
  refine⟨by simp only[Exq.kind_mk];omega,fun h3=>by simp only[Exq.kind_mk] at h3;omega,fun y hy=>?_⟩
  simp at hy
  rcases hy with rfl | rfl
  ·exact hk _ 0 (by omega)
  ·exact hk _ 1 (by omega)
theorem basics_nodup {x:Exq}:(basics x).Nodup:=List.Pairwise.filter _ (subs_nodup _ _ (Nat.le_refl _) [] (by simp))
theorem basics_cl {x:Exq}(h:Ok x∧Ok (push x false)):Cl (basics x) 6 (push x false):=by
 obtain⟨h1,h2,_⟩:=subs_kc _ (push x false) (Nat.le_refl _) [] (fun y hy=>by simp at hy)
 have hnf:=subs_all (P:=fun y=>∃n,Nf n y) _ (push x false) (fun y hy=>Nf.kids hy) (Nat.le_refl _) ⟨_,nf_push x h.1.1 false⟩ [] (fun y hy=>by simp at hy)
 have key:∀(n:Nat) (y:Exq),y∈subs (push x false) []→Shp n y→Cl (basics x) n y:=by
  intro n
  induction n with
  | zero=>intro y _ h;exact h.elim
  | succ n ih=>
   intro y hy hs
   obtain⟨m,hm⟩:=hnf y hy
   cases m with
   | zero=>exact hm.elim
   | succ m=>exact⟨hs.1,hm.1,hm.2.1,fun hb=>List.mem_filter.2 ⟨hy,hb⟩,fun z hz=>ih z (h1 y hy z hz) (hs.2 z hz)⟩
 exact key 6 _ h2 h.2.1
structure Ds (B:List Exq) (w:Nat→Int) (σ:Nat→Nat):Prop where
 lt:∀t,σ t<2^B.length
 at_:∀t (i:Nat) (hi:i<B.length),((σ t).testBit i=true↔sat w B[i] t)
theorem Ds.ex (B:List Exq) (w:Nat→Int):∃σ,Ds B w σ:=by
 have h:∀t,∃s,s<2^B.length∧∀(i:Nat) (hi:i<B.length),(s.testBit i=true↔sat w B[i] t):=fun t=>by
  obtain⟨s,h1,h2⟩:=bits_ex (fun i=>sat w (B.getD i Exq.zero) t) B.length
  exact⟨s,h1,fun i hi=>by rw[h2 i hi];simp[hi]⟩
 exact⟨fun t=>Classical.choose (h t),fun t=>(Classical.choose_spec (h t)).1,fun t=>(Classical.choose_spec (h t)).2⟩
theorem Ds.val {B:List Exq}{w:Nat→Int}{σ:Nat→Nat}(h:Ds B w σ) (t:Nat):∀(x:Exq) {n:Nat},Cl B n x→(Fm.val B (σ t) x=true↔sat w x t):=by
 refine Exq.ind fun x ih n hc=>?_
 obtain⟨n,rfl⟩:=hc.ex
 have hs:=hc.shp
 obtain⟨hnd,hk8,h3,hbB,hkids⟩:=hc
 have hkd:=hnd.kind
 have kid:∀j,j<x.kids.length→(kv B (σ t) x j=true↔sk w x j t):=by
  intro j hj
  rw[kv_at hj,sk_at hj]
  exact ih _ (List.getElem_mem hj) (hkids _ (List.getElem_mem hj))
 by_cases hb:bas x=true
 ·obtain⟨i,hi,e1,e2⟩:=fx_mem (hbB hb)
  rw[val_bas hb,e1,has_nat,h.at_ t i hi,e2]
 have hb':¬(x.kind=2∨x.kind=6∨x.kind=7∨x.kind=8):=fun hh=>hb (decide_eq_true hh)
 rw[val_eq]
 split
 ·rename_i c;simp[sat1 c]
 split
 ·rename_i c
  rw[sat3 c,← kid 0 (by rw[hs.one (.inl c)];omega)]
  simp
 split
 ·rename_i c
  have:=hs.two (.inl c)
  rw[sat4 c,← kid 0 (by omega),← kid 1 (by omega),Bool.and_eq_true]
 split
 ·rename_i c
  have:=hs.two (.inr (.inl c))
  rw[sat5 c,← kid 0 (by omega),← kid 1 (by omega),Bool.or_eq_true]
 ·omega
def Bc (B:List Exq):Prop:=B.Nodup∧∀y∈B,Shp 6 y∧bas y=true∧∃n,Cl B n y
theorem Ds.fol {B:List Exq}{w:Nat→Int}{σ:Nat→Nat}(h:Ds B w σ) (hB:Bc B) (t:Nat):Fol B (σ t) (σ (t+1)):=by
 intro i hi
 obtain⟨_,hb,n,hc⟩:=hB.2 _ (List.getElem_mem hi)
 obtain⟨n,rfl⟩:=hc.ex
 have hs:=hc.shp
 obtain⟨hnd,hk8,h3,hbB,hkids⟩:=hc
 have hb:=of_decide_eq_true hb
 have kid:∀t j,j<B[i].kids.length→(kv B (σ t) B[i] j=true↔sk w B[i] j t):=by
  intro t j hj
  rw[kv_at hj,sk_at hj]
  exact h.val t _ (hkids _ (List.getElem_mem hj))
 have at_:=fun t=>h.at_ t i hi
 unfold got
 rw[Bool.eq_iff_iff]
 split
 ·rename_i c
  rw[at_,sat6 c,kid _ _ (by rw[hs.one (.inr (.inl c))];omega)]
 split
 ·rename_i c
  have:=hs.two (.inr (.inr (.inl c)))
  have h1:=at_ (t+1)
  rw[sat7 c] at h1
  rw[at_,sat7 c,until_step,Bool.or_eq_true,Bool.and_eq_true,kid _ _ (by omega),kid _ _ (by omega),h1]
 split
 ·rename_i c
  have:=hs.two (.inr (.inr (.inr c)))
  have h1:=at_ (t+1)
  rw[sat8 c] at h1
  rw[at_,sat8 c,release_step,Bool.and_eq_true,Bool.or_eq_true,kid _ _ (by omega),kid _ _ (by omega),h1]
 ·rfl
theorem Ds.lm {B:List Exq}{w:Nat→Int}{σ:Nat→Nat}(h:Ds B w σ) (hB:Bc B) (t:Nat):Lm B (σ t) (w t):=by
 rw[Lm_iff hB.1 fun y hy=>(hB.2 y hy).1]
 intro i hi hk
 rw[Bool.eq_iff_iff,h.at_ t i hi,sat2 hk]
theorem Ds.ful {B:List Exq}{w:Nat→Int}{σ:Nat→Nat}(h:Ds B w σ) (hB:Bc B) {u:Int}(hu:u∈unt B B.length) (t:Nat):∃v,t≤v∧Fm.ful B (σ v) u=true:=by
 obtain⟨i,rfl,hi,hk⟩:=unt_mem hu
 have e:B.getD i Exq.zero=B[i]:=by simp[hi]
 rw[e] at hk
 obtain⟨_,hb,n,hc⟩:=hB.2 _ (List.getElem_mem hi)
 obtain⟨n,rfl⟩:=hc.ex
 have hs:=hc.shp
 obtain⟨hnd,hk8,h3,hbB,hkids⟩:=hc
 have h2:=hs.two (.inr (.inr (.inl hk)))
 simp only[Fm.ful,has_nat,Int.toNat_natCast,e,Bool.or_eq_true,Bool.not_eq_true']
 cases hb2:(σ t).testBit i with
 | false=>exact⟨t,Nat.le_refl _,.inl hb2⟩
 | true=>
  have h4:=(h.at_ t i hi).1 hb2
  rw[sat7 hk] at h4
  obtain⟨v,g1,g2,_⟩:=h4
  refine⟨v,g1,.inr ?_⟩
  rw[kv_at (by omega),h.val v _ (hkids _ (List.getElem_mem (show 1<B[i].kids.length by omega))),← sk_at (by omega)]
  exact g2
noncomputable def phN (B:List Exq) (U:List Int) (σ:Nat→Nat):Nat→Int
 | 0=>0
 | t+1=>(phs B U (σ t) (phN B U σ t)).1
theorem phN_ok {B:List Exq}{U:List Int}{σ:Nat→Nat}:∀t,POk U (phN B U σ t)
 | 0=>⟨Int.le_refl _,.inr rfl⟩
 | t+1=>phs_ok (phN_ok t)
theorem phN_acc {B:List Exq}{U:List Int}{σ:Nat→Nat}(hf:∀u∈U,∀t,∃v,t≤v∧ful B (σ v) u=true) (t:Nat):∃u,t≤u∧(phs B U (σ u) (phN B U σ u)).2=true:=by
 by_cases hU:U.length=0
 ·exact⟨t,Nat.le_refl _,by rw[phs,if_pos hU]⟩
 have hstep:∀u,∃p:Nat,phN B U σ u=p∧p<U.length∧phs B U (σ u) (phN B U σ u)=if ful B (σ u) (U.getD p 0)=true then ((((p+1)%U.length:Nat):Int),decide (p=0)) else ((p:Int),false):=by
  intro u
  have hk:=phN_ok (B:=B) (U:=U) (σ:=σ) u
  obtain⟨p,hp⟩:∃p:Nat,phN B U σ u=p:=⟨(phN B U σ u).toNat,by have:=hk.1;omega⟩
  rw[hp] at hk
  have hpl:p<U.length:=by rcases hk.2 with h1 | h1<;>omega
  refine⟨p,hp,hpl,?_⟩
  rw[phs,if_neg hU,hp,Int.toNat_natCast]
  split
  ·congr 1
   simp
  ·rfl
 -- a phase is left
 have leave:∀(p:Nat) (t:Nat),phN B U σ t=p→∃u,t≤u∧phN B U σ u=p∧ful B (σ u) (U.getD p 0)=true:=by
  intro p t hp
  obtain⟨q,h1,h2,_⟩:=hstep t
  obtain rfl:p=q:=by omega
  obtain⟨v,g1,g2⟩:=hf _ (List.getElem_mem h2) t
  have hgd:U.getD p 0=U[p]:=by simp[h2]
  -- the first time
  have key:∀d t,t+d=v→phN B U σ t=p→∃u,t≤u∧phN B U σ u=p∧ful B (σ u) (U.getD p 0)=true:=by
   intro d
   induction d with
   | zero=>
    intro t ht hp
    obtain rfl:t=v:=by omega
    exact⟨t,Nat.le_refl _,hp,by rw[hgd];exact g2⟩
   | succ d ih=>
    intro t ht hp
    by_cases hfu:ful B (σ t) (U.getD p 0)=true
    ·exact⟨t,Nat.le_refl _,hp,hfu⟩
    ·obtain⟨q,k1,k2,k3⟩:=hstep t
     obtain rfl:p=q:=by omega
     rw[if_neg hfu] at k3
     obtain⟨u,k4,k5⟩:=ih (t+1) (by omega) (by rw[phN,k3])
     exact⟨u,by omega,k5⟩
  exact key (v-t) t (by omega) hp
 -- each phase comes to the first one
 have down:∀d (p:Nat) (t:Nat),p+d=U.length→p<U.length→phN B U σ t=p→∃u,t≤u∧phN B U σ u=((0:Nat):Int):=by
  intro d
  induction d with
  | zero=>intro p t h1 h2;omega
  | succ d ih=>
   intro p t h1 h2 hp
   obtain⟨u,g1,g2,g3⟩:=leave p t hp
   obtain⟨q,k1,k2,k3⟩:=hstep u
   obtain rfl:p=q:=by omega
   rw[if_pos g3] at k3
   by_cases e:p+1=U.length
   ·exact⟨u+1,by omega,by rw[phN,k3,e];simp⟩
   ·obtain⟨v,k4,k5⟩:=ih (p+1) (u+1) (by omega) (by omega) (by rw[phN,k3];simp only;rw[Nat.mod_eq_of_lt (by omega)])
    exact⟨v,by omega,k5⟩
 obtain⟨p,h1,h2,_⟩:=hstep t
 obtain⟨u,h3,h4⟩:=down (U.length-p) p t (by omega) h2 h1
 obtain⟨v,h5,h6,h7⟩:=leave 0 u h4
 obtain⟨q,k1,k2,k3⟩:=hstep v
 obtain rfl:q=0:=by omega
 rw[if_pos h7] at k3
 exact⟨v,by omega,by rw[k3];rfl⟩
theorem Ds.gd {B:List Exq}{w:Nat→Int}{σ:Nat→Nat}(h:Ds B w σ) (hB:Bc B):Gd B (unt B B.length) w σ (phN B (unt B B.length) σ):=
 ⟨h.fol hB,h.lm hB,fun _=>rfl,phN_ok,phN_acc fun _ hu=>h.ful hB hu⟩
theorem basics_bc {x:Exq}(h:bOk x):Bc (basics x):=by
 refine⟨basics_nodup,fun y hy=>⟨(basics_ok h y hy).1,(basics_ok h y hy).2,6,?_⟩⟩
 obtain⟨h1,h2,_⟩:=subs_kc _ (push x false) (Nat.le_refl _) [] (fun y hy=>by simp at hy)
 have hnf:=subs_all (P:=fun y=>∃n,Nf n y) _ (push x false) (fun y hy=>Nf.kids hy) (Nat.le_refl _) ⟨_,nf_push x h.1.1.1 false⟩ [] (fun y hy=>by simp at hy)
 have key:∀(n:Nat) (y:Exq),y∈subs (push x false) []→Shp n y→Cl (basics x) n y:=by
  intro n
  induction n with
  | zero=>intro y _ h;exact h.elim
  | succ n ih=>
   intro y hy hs
   obtain⟨m,hm⟩:=hnf y hy
   cases m with
   | zero=>exact hm.elim
   | succ m=>exact⟨hs.1,hm.1,hm.2.1,fun hb=>List.mem_filter.2 ⟨hy,hb⟩,fun z hz=>ih z (h1 y hy z hz) (hs.2 z hz)⟩
 exact key 6 _ (List.mem_filter.1 hy).1 (basics_ok h y hy).1
end Fm
structure Tgt (A:List Bool) (E:List Tr) (w:Nat→Int) (C:Nat→Nat→Prop) where
 t:Nat
 p:Nat
 u:Nat
 q:Nat
 lt:t<u
 fr:FR E w t p u q
 acc:tru A q
 mem:C u q
section
variable {A:List Bool}{E:List Tr}{w:Nat→Int}{C:Nat→Nat→Prop}
theorem Tgt.step (hG:Goes A E w C) (x:Tgt A E w C):∃y:Tgt A E w C,y.t=x.t+1∧StE E w x.t x.p y.p∧(x.t+1<x.u→y.u=x.u∧y.q=x.q)∧(x.t+1=x.u→y.p=x.q):=by
 obtain⟨t,p,u,q,h1,h2,h3,h4⟩:=x
 cases h2 with
 | refl=>omega
 | step h k=>
  rename_i p'
  by_cases e:t+1=u
  ·subst e
   have hq:p'=q:=by
    cases k with
    | refl=>rfl
    | step h k=>have:=k.le;omega
   subst hq
   obtain⟨u',q',g1,g2,g3,g4⟩:=hG _ _ h4
   exact⟨⟨t+1,p',u',q',g1,g2,g3,g4⟩,rfl,h,fun hh=>absurd hh (Nat.lt_irrefl _),fun _=>rfl⟩
  ·exact⟨⟨t+1,p',u,q,by omega,k,h3,h4⟩,rfl,h,fun _=>⟨rfl,rfl⟩,fun hh=>absurd hh e⟩
noncomputable def Tgt.seq (hG:Goes A E w C) (x:Tgt A E w C):Nat→Tgt A E w C
 | 0=>x
 | n+1=>Classical.choose (Tgt.step hG (Tgt.seq hG x n))
theorem Run.seq {t p:Nat}(h:Run A E w t p):∃ρ:Nat→Nat,ρ 0=p∧(∀n,StE E w (t+n) (ρ n) (ρ (n+1)))∧∀n,∃m,n≤m∧tru A (ρ m):=by
 obtain⟨C,hC,hG⟩:=h
 obtain⟨u,q,h1,h2,h3,h4⟩:=hG t p hC
 obtain⟨x0,hx0⟩:∃x0:Tgt A E w C,x0=⟨t,p,u,q,h1,h2,h3,h4⟩:=⟨_,rfl⟩
 have hs:∀n,(Tgt.seq hG x0 (n+1)).t=(Tgt.seq hG x0 n).t+1∧StE E w (Tgt.seq hG x0 n).t (Tgt.seq hG x0 n).p (Tgt.seq hG x0 (n+1)).p∧((Tgt.seq hG x0 n).t+1<(Tgt.seq hG x0 n).u→(Tgt.seq hG x0 (n+1)).u=(Tgt.seq hG x0 n).u∧(Tgt.seq hG x0 (n+1)).q=(Tgt.seq hG x0 n).q)∧((Tgt.seq hG x0 n).t+1=(Tgt.seq hG x0 n).u→(Tgt.seq hG x0 (n+1)).p=(Tgt.seq hG x0 n).q):=
  fun n=>Classical.choose_spec (Tgt.step hG (Tgt.seq hG x0 n))
 have ht:∀n,(Tgt.seq hG x0 n).t=t+n:=by
  intro n
  induction n with
  | zero=>show x0.t=t+0;rw[hx0];rfl
  | succ n ih=>have:=(hs n).1;omega
 refine⟨fun n=>(Tgt.seq hG x0 n).p,by show x0.p=p;rw[hx0],fun n=>by rw[← ht n];exact (hs n).2.1,fun n=>?_⟩
 have key:∀d n,(Tgt.seq hG x0 n).u=(Tgt.seq hG x0 n).t+1+d→∃m,n≤m∧tru A (Tgt.seq hG x0 m).p:=by
  intro d
  induction d with
  | zero=>
   intro n hn
   refine⟨n+1,by omega,?_⟩
   have:=(hs n).2.2.2 (by omega)
   rw[this]
   exact (Tgt.seq hG x0 n).acc
  | succ d ih=>
   intro n hn
   obtain⟨e1,e2⟩:=(hs n).2.2.1 (by omega)
   have e3:=(hs n).1
   obtain⟨m,g1,g2⟩:=ih (n+1) (by rw[e1,e3];omega)
   exact⟨m,by omega,g2⟩
 have:=(Tgt.seq hG x0 n).lt
 exact key ((Tgt.seq hG x0 n).u-((Tgt.seq hG x0 n).t+1)) n (by omega)
theorem Run.of_seq {ρ:Nat→Nat}(h1:∀n,StE E w n (ρ n) (ρ (n+1))) (h2:∀n,∃m,n≤m∧tru A (ρ m)):Run A E w 0 (ρ 0):=by
 refine⟨fun t p=>p=ρ t,rfl,?_⟩
 rintro t p rfl
 obtain⟨m,h3,h4⟩:=h2 (t+1)
 have fr:∀d t,FR E w t (ρ t) (t+d) (ρ (t+d)):=by
  intro d
  induction d with
  | zero=>intro t;exact .refl _ _
  | succ d ih=>
   intro t
   have:=ih (t+1)
   rw[show t+1+d=t+(d+1) by omega] at this
   exact .step (h1 t) this
 have:=fr (m-t) t
 rw[show t+(m-t)=m by omega] at this
 exact⟨m,ρ m,by omega,this,h4,rfl⟩
end
namespace Fm
theorem atL_mem {L:List (List Int)}{p:List Int}:∃j:Nat,atL L p=j∧(adL L p)[j]? = some p:=by
 by_cases h:p∈L
 ·rw[adL,if_pos h]
  unfold atL
  rcases hf:L.findIdx? (fun y=>decide (y=p)) with _ | i
  ·rw[List.findIdx?_eq_none_iff] at hf
   have:=hf p h
   simp at this
  ·have h2:=hf
   rw[List.findIdx?_eq_some_iff_getElem] at h2
   obtain⟨h3,h4,_⟩:=h2
   exact⟨i,rfl,by rw[List.getElem?_eq_getElem h3];simpa using h4⟩
 ·exact⟨L.length,atL_not h,by rw[adL,if_neg h];simp⟩
theorem adL_get {L:List (List Int)}{p x:List Int}{j:Nat}(h:L[j]? = some x):(adL L p)[j]? = some x:=by
 obtain⟨t,ht⟩:=adL_pre (L:=L) (p:=p)
 rw[ht,List.getElem?_append_left (List.getElem?_eq_some_iff.1 h).1]
 exact h
def eg (B:List Exq) (i s j:Nat):Tr:=⟨(i:Int),(ltc B B.length:Nat),(ltv B s B.length:Nat),(j:Int)⟩
structure TR (B:List Exq) (i s:Nat) (p:Int) (m:Nat) (q r:List (List Int)×List Tr):Prop where
 pre:∀(j:Nat) x,q.1[j]? = some x→r.1[j]? = some x
 old:∀e∈q.2,e∈r.2
 new:∀e∈r.2,e∈q.2∨∃t j:Nat,t<m∧Fol B s t∧e=eg B i s j∧r.1[j]? = some [(t:Int),p]
 all:∀t,t<m→Fol B s t→∃j:Nat,r.1[j]? = some [(t:Int),p]∧eg B i s j∈r.2
theorem trow_tr {B:List Exq}{i s:Nat}{p:Int}{q:List (List Int)×List Tr}:∀m,TR B i s p m q (trow B i s p m q)
 | 0=>⟨fun _ _ h=>h,fun _ h=>h,fun _ h=>.inl h,fun _ h=>absurd h (Nat.not_lt_zero _)⟩
 | m+1=>by
  have ih:=trow_tr (B:=B) (i:=i) (s:=s) (p:=p) (q:=q) m
  unfold trow
  simp only
  split
  ·rename_i hf
   obtain⟨j,e1,e2⟩:=atL_mem (L:=(trow B i s p m q).1) (p:=[(m:Int),p])
   have he:(⟨(i:Int),(ltc B B.length:Nat),(ltv B s B.length:Nat),atL (trow B i s p m q).1 [(m:Int),p]⟩:Tr)=eg B i s j:=by rw[e1];rfl
   rw[he]
   refine⟨fun j x h=>adL_get (ih.pre j x h),fun e h=>List.mem_append_left _ (ih.old e h),fun e h=>?_,fun t ht hft=>?_⟩
   ·rcases List.mem_append.1 h with h | h
    ·rcases ih.new e h with h | ⟨t,j,h1,h2,h3,h4⟩
     ·exact .inl h
     ·exact .inr ⟨t,j,by omega,h2,h3,adL_get h4⟩
    ·rw[List.mem_singleton] at h
     exact .inr ⟨m,j,by omega,hf,h,e2⟩
   ·by_cases e:t=m
    ·subst e
     exact⟨j,e2,by simp⟩
    ·obtain⟨j,h1,h2⟩:=ih.all t (by omega) hft
     exact⟨j,adL_get h1,List.mem_append_left _ h2⟩
  ·rename_i hf
   refine⟨ih.pre,ih.old,fun e h=>?_,fun t ht hft=>?_⟩
   ·rcases ih.new e h with h | ⟨t,j,h1,h2,h3,h4⟩
    ·exact .inl h
    ·exact .inr ⟨t,j,by omega,h2,h3,h4⟩
   ·by_cases e:t=m
    ·subst e;exact absurd hft hf
    ·exact ih.all t (by omega) hft
structure TT (B:List Exq) (U:List Int) (L0:List (List Int)) (n:Nat) (r:List (List Int)×List Bool×List Tr):Prop where
 pre:∀(j:Nat) x,L0[j]? = some x→r.1[j]? = some x
 new:∀e∈r.2.2,∃(i s:Nat) (p:Int) (t j:Nat),i<n∧r.1[i]? = some [(s:Int),p]∧Fol B s t∧e=eg B i s j∧r.1[j]? = some [(t:Int),(phs B U s p).1]
 all:∀(i s:Nat) (p:Int) (t:Nat),i<n→i<r.2.1.length→r.1[i]? = some [(s:Int),p]→t<2^B.length→Fol B s t→∃j:Nat,r.1[j]? = some [(t:Int),(phs B U s p).1]∧eg B i s j∈r.2.2
 acc:∀(i s:Nat) (p:Int),i<r.2.1.length→r.1[i]? = some [(s:Int),p]→r.2.1[i]? = some (phs B U s p).2
 le:r.2.1.length≤n
 le2:r.2.1.length≤r.1.length
theorem tN_tt {B:List Exq}{U:List Int}{L0:List (List Int)}(h0:LOk2 (2^B.length) U L0) (hl:L0.length≤2^B.length):∀n,(∀m,m<n→m<(tN B U L0 m).1.length∧(tN B U L0 m).1.length≤64)→TT B U L0 n (tN B U L0 n)
 | 0,_=>⟨fun _ _ h=>h,fun e h=>by simp[tN] at h,fun _ _ _ _ h=>absurd h (Nat.not_lt_zero _),fun _ _ _ h=>by simp[tN] at h,by simp[tN],by simp[tN]⟩
 | n+1,hgo=>by
  have ih:=tN_tt h0 hl n fun m hm=>hgo m (by omega)
  obtain⟨h1,h2⟩:=hgo n (by omega)
  have inv:=tN_inv h0 hl n
  obtain⟨s,p,e,hs,hp⟩:=inv.ok _ (List.getElem_mem h1)
  have hal:=tN_al (B:=B) (U:=U) (L0:=L0) n fun m hm=>hgo m (by omega)
  rw[tN_succ h1 h2 e]
  have I:=trow_tr (B:=B) (i:=n) (s:=s) (p:=(phs B U s p).1) (q:=((tN B U L0 n).1,(tN B U L0 n).2.2)) (2^B.length)
  have back:∀(i:Nat) x,i<(tN B U L0 n).1.length→(trow B n s (phs B U s p).1 (2^B.length) ((tN B U L0 n).1,(tN B U L0 n).2.2)).1[i]? = some x→(tN B U L0 n).1[i]? = some x:=by
   intro i x hi hx
   have:=I.pre i _ (List.getElem?_eq_getElem hi)
   rw[this] at hx
   rw[List.getElem?_eq_getElem hi];exact hx
  have hnn:(tN B U L0 n).1[n]? = some [(s:Int),p]:=by rw[List.getElem?_eq_getElem h1,e]
  have two:∀{s':Nat}{p':Int},some [(s:Int),p]=some [(s':Int),p']→s=s'∧p=p':=by
   intro s' p' h
   simp only[Option.some.injEq,List.cons.injEq,and_true] at h
   exact⟨by omega,h.2⟩
  have hge:=(trow_inv (B:=B) (U:=U) (c:=2^B.length) (s:=s) (i:=n) (p:=(phs B U s p).1) (q:=((tN B U L0 n).1,(tN B U L0 n).2.2)) inv.ok (phs_ok hp) (2^B.length) (Nat.le_refl _)).ge
  refine⟨fun j x h=>I.pre j x (ih.pre j x h),fun e' he'=>?_,fun i s' p' t hi hil hx ht hf=>?_,fun i s' p' hi hx=>?_,by simp only[List.length_append,List.length_singleton];omega,by simp only[List.length_append,List.length_singleton];simp only at hge;omega⟩
  ·rcases I.new e' he' with h | ⟨t,j,g1,g2,g3,g4⟩
   ·obtain⟨i,s',p',t,j,g1,g2,g3,g4,g5⟩:=ih.new e' h
    exact⟨i,s',p',t,j,by omega,I.pre _ _ g2,g3,g4,I.pre _ _ g5⟩
   ·exact⟨n,s,p,t,j,by omega,I.pre _ _ hnn,g2,g3,g4⟩
  ·simp only at hx
   by_cases en:i=n
   ·subst en
    rw[I.pre _ _ hnn] at hx
    obtain⟨rfl,rfl⟩:=two hx
    exact I.all t ht hf
   ·obtain⟨j,g1,g2⟩:=ih.all i s' p' t (by omega) (by omega) (back i _ (by omega) hx) ht hf
    exact⟨j,I.pre _ _ g1,I.old _ g2⟩
  ·simp only at hx hi ⊢
   simp only[List.length_append,List.length_singleton] at hi
   by_cases en:i=n
   ·subst en
    rw[I.pre _ _ hnn] at hx
    obtain⟨rfl,rfl⟩:=two hx
    rw[List.getElem?_append_right (by omega),hal]
    simp
   ·rw[List.getElem?_append_left (by omega)]
    exact ih.acc i s' p' (by omega) (back i _ (by omega) hx)
structure TF (B:List Exq) (U:List Int) (L0:List (List Int)) (r:List (List Int)×List Bool×List Tr):Prop where
 pre:∀(j:Nat) x,L0[j]? = some x→r.1[j]? = some x
 new:∀e∈r.2.2,∃(i s:Nat) (p:Int) (t j:Nat),r.1[i]? = some [(s:Int),p]∧Fol B s t∧e=eg B i s j∧r.1[j]? = some [(t:Int),(phs B U s p).1]
 all:∀(i s:Nat) (p:Int) (t:Nat),r.1[i]? = some [(s:Int),p]→t<2^B.length→Fol B s t→∃j:Nat,r.1[j]? = some [(t:Int),(phs B U s p).1]∧eg B i s j∈r.2.2
 acc:∀(i s:Nat) (p:Int),r.1[i]? = some [(s:Int),p]→r.2.1[i]? = some (phs B U s p).2
 len:r.2.1.length=r.1.length
theorem tN_mono {B:List Exq}{U:List Int}{L0:List (List Int)}(h0:LOk2 (2^B.length) U L0) (hl:L0.length≤2^B.length) (n:Nat):(tN B U L0 n).1.length≤(tN B U L0 (n+1)).1.length:=by
 by_cases hc:n<(tN B U L0 n).1.length∧(tN B U L0 n).1.length≤64
 ·have inv:=tN_inv h0 hl n
  obtain⟨s,p,e,hs,hp⟩:=inv.ok _ (List.getElem_mem hc.1)
  rw[tN_succ hc.1 hc.2 e]
  exact (trow_inv (B:=B) (U:=U) (c:=2^B.length) (s:=s) (i:=n) (p:=(phs B U s p).1) (q:=((tN B U L0 n).1,(tN B U L0 n).2.2)) inv.ok (phs_ok hp) (2^B.length) (Nat.le_refl _)).ge
 ·rw[tN_stop hc (n+1) (by omega)]
  exact Nat.le_refl _
theorem tN_mono2 {B:List Exq}{U:List Int}{L0:List (List Int)}(h0:LOk2 (2^B.length) U L0) (hl:L0.length≤2^B.length) {n m:Nat}(h:n≤m):(tN B U L0 n).1.length≤(tN B U L0 m).1.length:=by
 obtain⟨k,rfl⟩:=Nat.exists_eq_add_of_le h
 induction k with
 | zero=>exact Nat.le_refl _
 | succ k ih=>exact Nat.le_trans (ih (by omega)) (tN_mono h0 hl _)
theorem tN_tf {B:List Exq}{U:List Int}{L0:List (List Int)}(h0:LOk2 (2^B.length) U L0) (hl:L0.length≤2^B.length) (h64:(tN B U L0 64).1.length≤64):TF B U L0 (tN B U L0 64):=by
 obtain⟨K,hK⟩:∃K,K=(tN B U L0 64).1.length:=⟨_,rfl⟩
 have hgo:∀m,m<K→m<(tN B U L0 m).1.length∧(tN B U L0 m).1.length≤64:=by
  intro m hm
  have h1:=tN_mono2 h0 hl (n:=m) (m:=64) (by omega)
  refine⟨?_,by omega⟩
  apply Classical.byContradiction
  intro hno
  have:=tN_stop (B:=B) (U:=U) (L0:=L0) (n:=m) (fun hh=>hno hh.1) 64 (by omega)
  rw[this] at hK
  omega
 have hst:¬(K<(tN B U L0 K).1.length∧(tN B U L0 K).1.length≤64):=fun hh=>by
  have h1:=tN_mono2 h0 hl (n:=K) (m:=64) (by omega)
  omega
 have he:=tN_stop hst 64 (by omega)
 have T:=tN_tt h0 hl K hgo
 have hal:=tN_al (B:=B) (U:=U) (L0:=L0) K hgo
 rw[he] at hK ⊢
 have lt:∀{i:Nat}{x:List Int},(tN B U L0 K).1[i]? = some x→i<K:=fun h=>by have:=(List.getElem?_eq_some_iff.1 h).1;omega
 exact⟨T.pre,fun e h=>by
  obtain⟨i,s,p,t,j,_,g⟩:=T.new e h
  exact⟨i,s,p,t,j,g⟩,fun i s p t h=>T.all i s p t (lt h) (by have:=lt h;omega) h,fun i s p h=>T.acc i s p (by have:=lt h;omega) h,by omega⟩
theorem ini0_mem {B:List Exq}{g:Exq}:∀{n:Nat}{x:List Int},x∈ini0 B g n↔∃s:Nat,s<n∧x=[(s:Int),0]∧val B s g=true
 | 0,x=>by simp[ini0]
 | n+1,x=>by
  rw[ini0]
  split
  ·rename_i hv
   rw[List.mem_append,ini0_mem (n:=n),List.mem_singleton]
   constructor
   ·rintro (⟨s,h1,h2,h3⟩ | rfl)
    ·exact⟨s,by omega,h2,h3⟩
    ·exact⟨n,by omega,rfl,hv⟩
   ·rintro⟨s,h1,h2,h3⟩
    by_cases e:s=n
    ·subst e;exact .inr h2
    ·exact .inl ⟨s,by omega,h2,h3⟩
  ·rename_i hv
   rw[ini0_mem (n:=n)]
   constructor
   ·rintro⟨s,h1,h2,h3⟩;exact⟨s,by omega,h2,h3⟩
   ·rintro⟨s,h1,h2,h3⟩
    by_cases e:s=n
    ·subst e;exact absurd h3 hv
    ·exact⟨s,by omega,h2,h3⟩
theorem upto_mem {n:Nat}{x:Int}:x∈upto n↔∃i:Nat,i<n∧x=i:=by
 simp only[upto,List.mem_map,List.mem_range]
 constructor
 ·rintro⟨i,h,rfl⟩;exact⟨i,h,rfl⟩
 ·rintro⟨i,h,rfl⟩;exact⟨i,h,rfl⟩
theorem eg_on {B:List Exq}(hB:∀y∈B,Shp 6 y) {i s j:Nat}{L:Int}(h0:0≤L) (h7:L≤7):(eg B i s j).on L=true↔Lm B s L:=by
 obtain⟨n,rfl⟩:∃n:Nat,L=n:=⟨L.toNat,by omega⟩
 have h1:=ltc_lt hB B.length (Nat.le_refl _)
 unfold Lm Tr.on eg
 simp only
 rw[i64_and (by omega) (by omega),decide_eq_true_iff,Int.toNat_natCast]
 omega
theorem trA_lang {x:Exq}(h:trOk x) {w:Nat→Int}(hw:∀t,0≤w t∧w t≤7):(trA x).Lang w↔sat w x 0:=by
 obtain⟨hb,h64⟩:=h
 have hp:=sat_push (w:=w) x hb.1.1.1 false 0
 simp only[Bool.false_eq_true,if_false] at hp
 rw[← hp]
 have hcl:=basics_cl hb.1
 have hBc:=basics_bc hb
 obtain⟨B,hBd⟩:∃B,B=basics x:=⟨_,rfl⟩
 obtain⟨U,hU⟩:∃U,U=unt B B.length:=⟨_,rfl⟩
 obtain⟨L0,hL0⟩:∃L0,L0=ini0 B (push x false) (2^B.length):=⟨_,rfl⟩
 have T:TF B U L0 (trT x):=by
  unfold trT at h64 ⊢
  rw[← hBd,← hU,← hL0] at h64 ⊢
  exact tN_tf (hL0▸ini0_ok (Nat.le_refl _)) (hL0▸ini0_len _) h64
 have hini:(trA x).init=upto L0.length:=by unfold trA;rw[hL0,hBd]
 have hed:(trA x).edges=(trT x).2.2:=by unfold trA;simp only
 have hacc:∀{i:Nat}{y},(trT x).1[i]? = some y→(trA x).acc=(trT x).2.1:=fun {i y} hi=>by
  unfold trA
  simp only
  rw[if_neg]
  intro e
  rw[e] at hi
  simp at hi
 rw[← hBd] at hcl hBc
 have hB6:=fun y hy=>(hBc.2 y hy).1
 have two:∀{s s':Nat}{p p':Int},some [(s:Int),p]=some [(s':Int),p']→s=s'∧p=p':=by
  intro s s' p p' h
  simp only[Option.some.injEq,List.cons.injEq,and_true] at h
  exact⟨by omega,h.2⟩
 constructor
 ·rintro⟨i0,hi0,hr⟩
  rw[hini,upto_mem] at hi0
  obtain⟨i,hi,hii⟩:=hi0
  obtain rfl:i0=i:=by omega
  obtain⟨s0,hs0,hs1,hs2⟩:=ini0_mem.1 (show L0[i0]∈ini0 B (push x false) (2^B.length) by rw[← hL0];exact List.getElem_mem hi)
  have h0:=T.pre i0 _ (List.getElem?_eq_getElem hi)
  rw[hs1] at h0
  rw[hacc h0,hed] at hr
  obtain⟨ρ,r1,r2,r3⟩:=Run.seq hr
  subst r1
  -- the states of the run
  have hst:∀n,∃(s:Nat) (p:Int),(trT x).1[ρ n]? = some [(s:Int),p]:=by
   intro n
   cases n with
   | zero=>exact⟨_,_,h0⟩
   | succ n=>
    obtain⟨e,he,e1,e2,e3⟩:=r2 n
    obtain⟨i,s,p,t,j,g1,g2,g3,g4⟩:=T.new e he
    subst g3
    have:ρ (n+1)=j:=by simp only[eg] at e2;omega
    rw[this]
    exact⟨_,_,g4⟩
  obtain⟨σ,hσ⟩:∃σ:Nat→Nat,∀n,∃p:Int,(trT x).1[ρ n]? = some [(σ n:Int),p]:=⟨fun n=>Classical.choose (hst n),fun n=>Classical.choose_spec (hst n)⟩
  obtain⟨π,hπ⟩:∃π:Nat→Int,∀n,(trT x).1[ρ n]? = some [(σ n:Int),π n]:=⟨fun n=>Classical.choose (hσ n),fun n=>Classical.choose_spec (hσ n)⟩
  have hstep:∀n,Fol B (σ n) (σ (n+1))∧Lm B (σ n) (w n)∧π (n+1)=(phs B U (σ n) (π n)).1:=by
   intro n
   obtain⟨e,he,e1,e2,e3⟩:=r2 n
   obtain⟨i,s,p,t,j,g1,g2,g3,g4⟩:=T.new e he
   subst g3
   have f1:ρ n=i:=by simp only[eg] at e1;omega
   have f2:ρ (n+1)=j:=by simp only[eg] at e2;omega
   rw[← f1,hπ] at g1
   rw[← f2,hπ] at g4
   obtain⟨rfl,rfl⟩:=two g1
   obtain⟨rfl,h5⟩:=two g4
   rw[Nat.zero_add] at e3
   exact⟨g2,(eg_on hB6 (hw n).1 (hw n).2).1 e3,h5⟩
  obtain⟨rfl,hπ0⟩:=two ((hπ 0).symm.trans h0)
  have hG:Gd B U w σ π:=⟨fun n=>(hstep n).1,fun n=>(hstep n).2.1,fun n=>(hstep n).2.2,fun n=>by
   induction n with
   | zero=>rw[hπ0];exact⟨Int.le_refl _,.inr rfl⟩
   | succ n ih=>rw[(hstep n).2.2];exact phs_ok ih,fun n=>by
   obtain⟨m,g1,g2⟩:=r3 n
   refine⟨m,g1,?_⟩
   have:=T.acc _ _ _ (hπ m)
   unfold Go.Proofs.YtedbaenahnfhfaaGreat.tru at g2
   rw[List.getD_eq_getElem?_getD,this] at g2
   exact g2⟩
  rw[hU] at hG
  exact hG.sound hBc.1 hB6 _ hcl 0 hs2
 ·intro hs
  obtain⟨σ,D⟩:=Ds.ex B w
  have hG:=D.gd hBc
  rw[← hU] at hG
  obtain⟨π,hπd⟩:∃π,π=phN B U σ:=⟨_,rfl⟩
  rw[← hπd] at hG
  have hv0:val B (σ 0) (push x false)=true:=(D.val 0 _ hcl).2 hs
  have hm0:[(σ 0:Int),0]∈L0:=by rw[hL0];exact ini0_mem.2 ⟨σ 0,D.lt 0,rfl,hv0⟩
  obtain⟨i0,hi0,he0⟩:=List.mem_iff_getElem.1 hm0
  have h0:=T.pre i0 _ (List.getElem?_eq_getElem hi0)
  rw[he0] at h0
  have hπ0:π 0=0:=by rw[hπd];rfl
  -- the states are in the table
  have nxt:∀n i,(trT x).1[i]? = some [(σ n:Int),π n]→∃j:Nat,(trT x).1[j]? = some [(σ (n+1):Int),π (n+1)]∧eg B i (σ n) j∈(trT x).2.2:=by
   intro n i hi
   rw[hG.ph n]
   exact T.all i _ _ _ hi (D.lt _) (hG.fol n)
  have hex:∃ρ:Nat→Nat,ρ 0=i0∧∀n,(trT x).1[ρ n]? = some [(σ n:Int),π n]∧eg B (ρ n) (σ n) (ρ (n+1))∈(trT x).2.2:=by
   let S:=fun n=>{ i:Nat // (trT x).1[i]? = some [(σ n:Int),π n] }
   let f:∀n,S n:=fun n=>Nat.rec (motive:=S) ⟨i0,by rw[hπ0];exact h0⟩ (fun n i=>⟨Classical.choose (nxt n i.1 i.2),(Classical.choose_spec (nxt n i.1 i.2)).1⟩) n
   exact⟨fun n=>(f n).1,rfl,fun n=>⟨(f n).2,(Classical.choose_spec (nxt n (f n).1 (f n).2)).2⟩⟩
  obtain⟨ρ,g1,g2⟩:=hex
  refine⟨i0,by rw[hini,upto_mem];exact⟨i0,hi0,rfl⟩,?_⟩
  rw[hacc h0,hed,← g1]
  refine Run.of_seq (fun n=>⟨_,(g2 n).2,rfl,rfl,(eg_on hB6 (hw n).1 (hw n).2).2 (hG.lm n)⟩) fun n=>?_
  obtain⟨m,g3,g4⟩:=hG.acc n
  refine⟨m,g3,?_⟩
  unfold Go.Proofs.YtedbaenahnfhfaaGreat.tru
  rw[List.getD_eq_getElem?_getD,T.acc _ _ _ (g2 m).1]
  exact g4
end Fm
namespace Bf
abbrev SP:=List Int×List Int
def s1 (a:Int) (p:SP) (to:Int):SP:=if p.1.getD to.toNat 0 = -2 then (p.1.set to.toNat a,p.2++[to]) else p
def sF (l:List Int) (a:Int) (p:SP):SP:=l.foldl (s1 a) p
def s0 (N:Nat) (S:List Int):SP:=(S.foldl (fun f s=>f.set s.toNat (-1)) (List.replicate N (-2)),S)
def sN (next:List (List Int)) (S:List Int):Nat→SP
 | 0=>s0 next.length S
 | n+1=>if n<(sN next S n).2.length then sF (next.getD ((sN next S n).2.getD n 0).toNat []) ((sN next S n).2.getD n 0) (sN next S n) else sN next S n
theorem sF_snoc {l:List Int}{x a:Int}{p:SP}:sF (l++[x]) a p=s1 a (sF l a p) x:=by simp[sF]
theorem sF_take {l:List Int}{a:Int}{p:SP}{m:Nat}(hm:m<l.length):sF (l.take (m+1)) a p=s1 a (sF (l.take m) a p) l[m]:=by
 rw[List.take_add_one,List.getElem?_eq_getElem hm]
 exact sF_snoc
theorem set_getD {l:List Int}{k j:Nat}{a:Int}(hk:k<l.length):(l.set k a).getD j 0=if k=j then a else l.getD j 0:=by
 rw[List.getD_eq_getElem?_getD,List.getElem?_set]
 split
 ·rename_i e;subst e;simp[hk]
 ·rw[List.getD_eq_getElem?_getD]
theorem set_count {l:List Int}:∀{k:Nat}(hk:k<l.length) {a b:Int},l[k]=a→a≠b→(l.set k b).count a+1=l.count a:=by
 induction l with
 | nil=>intro k hk;exact absurd hk (Nat.not_lt_zero k)
 | cons x l ih=>
  intro k hk a b h1 h2
  cases k with
  | zero=>
   simp only[List.getElem_cons_zero] at h1
   subst h1
   simp only[List.set_cons_zero,List.count_cons_self]
   rw[List.count_cons_of_ne (Ne.symm h2)]
  | succ k=>
   simp only[List.getElem_cons_succ] at h1
   have:=ih (k:=k) (by simpa using hk) h1 h2
   simp only[List.set_cons_succ,List.count_cons]
   omega
structure Le (p p':SP):Prop where
 keep:∀j:Nat,p.1.getD j 0≠-2→p'.1.getD j 0=p.1.getD j 0
 pre:∃t,p'.2=p.2++t
theorem Le.refl {p:SP}:Le p p:=⟨fun _ _=>rfl,⟨[],by simp⟩⟩
theorem Le.trans {p q r:SP}(h:Le p q) (h':Le q r):Le p r:=by
 refine⟨fun j hj=>?_,?_⟩
 ·have e:=h.keep j hj
  rw[h'.keep j (by rw[e];exact hj),e]
 ·obtain⟨t,e⟩:=h.pre
  obtain⟨t',e'⟩:=h'.pre
  exact⟨t++t',by rw[e',e,List.append_assoc]⟩
theorem Le.len {p q:SP}(h:Le p q):p.2.length≤q.2.length:=by
 obtain⟨t,e⟩:=h.pre
 rw[e];simp
theorem Le.at {p q:SP}(h:Le p q) {i:Nat}(hi:i<p.2.length):q.2.getD i 0=p.2.getD i 0:=by
 obtain⟨t,e⟩:=h.pre
 rw[e,List.getD_eq_getElem?_getD,List.getD_eq_getElem?_getD,List.getElem?_append_left hi]
structure SI (N:Nat) (S:List Int) (Ed:Int→Int→Prop) (p:SP):Prop where
 fl:p.1.length=N
 pre:∃t,p.2=S++t
 inq:∀x∈p.2,0≤x∧x<N∧p.1.getD x.toNat 0≠-2
 vis:∀j:Nat,j<N→p.1.getD j 0≠-2→(j:Int)∈p.2
 st:∀s∈S,p.1.getD s.toNat 0 = -1
 val:∀j:Nat,j<N→p.1.getD j 0 = -2∨p.1.getD j 0 = -1∨0≤p.1.getD j 0∧p.1.getD j 0<N
 par:∀q:Nat,S.length≤q→q<p.2.length→∃r:Nat,r<q∧p.1.getD (p.2.getD q 0).toNat 0=p.2.getD r 0∧Ed (p.2.getD r 0) (p.2.getD q 0)
 cnt:p.2.length+p.1.count (-2)=N
section
variable {N:Nat}{S:List Int}{Ed:Int→Int→Prop}{p:SP}
theorem SI.le (h:SI N S Ed p):p.2.length≤N:=by have:=h.cnt;omega
theorem SI.at (h:SI N S Ed p) {i:Nat}(hi:i<p.2.length):0≤p.2.getD i 0∧p.2.getD i 0<N∧p.1.getD (p.2.getD i 0).toNat 0≠-2:=by
 have e:p.2.getD i 0=p.2[i]:=by simp[hi]
 rw[e]
 exact h.inq _ (List.getElem_mem hi)
theorem SI.start {n:Nat}(hS:incr n (-1) S):SI n S Ed (s0 n S):=by
 have key:∀(T:List Int),(∀x∈T,0≤x∧x<(n:Int))→T.Pairwise (· < ·)→∀f:List Int,f.length=n→(∀x∈T,f.getD x.toNat 0 = -2) →
   (T.foldl (fun f s=>f.set s.toNat (-1)) f).length=n∧(∀j:Nat,(T.foldl (fun f s=>f.set s.toNat (-1)) f).getD j 0=if (j:Int)∈T then -1 else f.getD j 0)∧T.length+(T.foldl (fun f s=>f.set s.toNat (-1)) f).count (-2)=f.count (-2):=by
  intro T
  induction T with
  | nil=>intro _ _ f hf _;exact⟨hf,fun j=>by simp,by simp⟩
  | cons x T ih=>
   intro h1 h2 f hf h3
   obtain⟨h4,h5⟩:=List.pairwise_cons.1 h2
   have hx:=h1 x (by simp)
   obtain⟨k,rfl⟩:∃k:Nat,x=k:=⟨x.toNat,by omega⟩
   have hk:k<f.length:=by omega
   have hfk:=h3 k (by simp)
   rw[Int.toNat_natCast] at hfk
   have hge:f[k] = -2:=by rw[← hfk];simp[hk]
   obtain⟨g1,g2,g3⟩:=ih (fun y hy=>h1 y (by simp[hy])) h5 (f.set k (-1)) (by simpa using hf) (fun y hy=>by
    have:=h4 y hy
    rw[set_getD hk,if_neg (by omega)]
    exact h3 y (by simp[hy]))
   have hc:=set_count hk hge (b:=(-1:Int)) (by decide)
   refine⟨g1,fun j=>?_,?_⟩
   ·show (T.foldl _ (f.set ((k:Int)).toNat (-1))).getD j 0=_
    rw[Int.toNat_natCast,g2 j,set_getD hk]
    by_cases e1:(j:Int)∈T
    ·simp[e1]
    ·by_cases e2:k=j
     ·subst e2;simp
     ·rw[if_neg e1,if_neg e2,if_neg]
      intro hm
      rcases List.mem_cons.1 hm with hm | hm
      ·omega
      ·exact e1 hm
   ·show (T.length+1)+(T.foldl _ (f.set ((k:Int)).toNat (-1))).count (-2)=_
    rw[Int.toNat_natCast]
    omega
 have hb:∀x∈S,0≤x∧x<(n:Int):=fun x hx=>by have:=incr_mem hS x hx;omega
 have hp:=(incr_iff.1 hS).1
 obtain⟨g1,g2,g3⟩:=key S hb hp (List.replicate n (-2)) (by simp) (fun x hx=>by
  have:=hb x hx
  simp[show x.toNat<n by omega])
 have hrep:∀j,j<n→(List.replicate n (-2:Int)).getD j 0 = -2:=fun j hj=>by simp[hj]
 refine⟨g1,⟨[],by simp[s0]⟩,?_,?_,?_,?_,?_,?_⟩
 ·intro x hx
  have h1:=hb x hx
  refine⟨h1.1,h1.2,?_⟩
  show (S.foldl (fun f s=>f.set s.toNat (-1)) (List.replicate n (-2))).getD x.toNat 0≠-2
  rw[g2,if_pos (by rw[Int.toNat_of_nonneg h1.1];exact hx)]
  decide
 ·intro j hj h1
  show (j:Int)∈S
  have h2:(S.foldl (fun f s=>f.set s.toNat (-1)) (List.replicate n (-2))).getD j 0≠-2:=h1
  rw[g2] at h2
  by_cases e:(j:Int)∈S
  ·exact e
  ·rw[if_neg e,hrep j hj] at h2
   exact absurd rfl h2
 ·intro s hs
  have h1:=hb s hs
  show (S.foldl (fun f s=>f.set s.toNat (-1)) (List.replicate n (-2))).getD s.toNat 0 = -1
  rw[g2,if_pos (by rw[Int.toNat_of_nonneg h1.1];exact hs)]
 ·intro j hj
  show (S.foldl (fun f s=>f.set s.toNat (-1)) (List.replicate n (-2))).getD j 0 = -2∨(S.foldl (fun f s=>f.set s.toNat (-1)) (List.replicate n (-2))).getD j 0 = -1∨_
  rw[g2,hrep j hj]
  by_cases e:(j:Int)∈S
  ·simp[e]
  ·simp[e]
 ·intro q h1 h2
  have h3:q<S.length:=h2
  omega
 ·show S.length+(S.foldl (fun f s=>f.set s.toNat (-1)) (List.replicate n (-2))).count (-2)=n
  rw[g3,List.count_replicate_self]
theorem SI.step (h:SI N S Ed p) {i:Nat}(hi:i<p.2.length) {to:Int}(h0:0≤to) (h1:to<N) (he:Ed (p.2.getD i 0) to):SI N S Ed (s1 (p.2.getD i 0) p to)∧Le p (s1 (p.2.getD i 0) p to)∧(s1 (p.2.getD i 0) p to).1.getD to.toNat 0≠-2:=by
 obtain⟨a,ha⟩:∃a,a=p.2.getD i 0:=⟨_,rfl⟩
 have hat:=h.at hi
 rw[← ha] at hat he ⊢
 unfold s1
 split
 case isFalse e=>exact⟨h,Le.refl,e⟩
 rename_i e
 obtain⟨k,rfl⟩:∃k:Nat,to=k:=⟨to.toNat,(Int.toNat_of_nonneg h0).symm⟩
 simp only[Int.toNat_natCast] at e ⊢
 have hkN:k<p.1.length:=by rw[h.fl];omega
 have hkq:(k:Int)∉p.2:=fun hm=>by
  have:=(h.inq _ hm).2.2
  rw[Int.toNat_natCast] at this
  exact this e
 have hge:p.1[k] = -2:=by rw[← e];simp[hkN]
 obtain⟨tp,hpre⟩:=h.pre
 refine⟨⟨by simp[h.fl],⟨tp++[(k:Int)],by rw[hpre,List.append_assoc]⟩,?_,?_,?_,?_,?_,?_⟩,⟨fun j hj=>?_,⟨_,rfl⟩⟩,?_⟩
 ·intro x hx
  simp only[List.mem_append,List.mem_singleton] at hx
  simp only[set_getD hkN]
  rcases hx with hx | rfl
  ·have:=h.inq x hx
   refine⟨this.1,this.2.1,?_⟩
   split
   ·omega
   ·exact this.2.2
  ·refine⟨by omega,by omega,?_⟩
   simp;omega
 ·intro j hj h2
  simp only[set_getD hkN] at h2
  simp only[List.mem_append,List.mem_singleton]
  split at h2
  ·rename_i e2;right;omega
  ·exact .inl (h.vis j hj h2)
 ·intro s hs
  simp only[set_getD hkN]
  rw[if_neg]
  ·exact h.st s hs
  ·intro e2
   refine hkq ?_
   rw[hpre]
   have:=(h.inq s (by rw[hpre];simp[hs])).1
   have e3:(k:Int)=s:=by omega
   rw[e3];simp[hs]
 ·intro j hj
  simp only[set_getD hkN]
  split
  ·right;right;omega
  ·exact h.val j hj
 ·intro q h2 h3
  simp only[List.length_append,List.length_singleton] at h3
  by_cases hq:q<p.2.length
  ·obtain⟨r,hr,e2,e5⟩:=h.par q h2 hq
   have e3:(p.2++[(k:Int)]).getD q 0=p.2.getD q 0:=by rw[List.getD_eq_getElem?_getD,List.getElem?_append_left hq,List.getD_eq_getElem?_getD]
   have e4:(p.2++[(k:Int)]).getD r 0=p.2.getD r 0:=by rw[List.getD_eq_getElem?_getD,List.getElem?_append_left (by omega),List.getD_eq_getElem?_getD]
   refine⟨r,hr,?_⟩
   simp only[e3,e4,set_getD hkN]
   have:=h.at hq
   rw[if_neg (fun e5=>hkq (by
    have e6:p.2.getD q 0=p.2[q]:=by simp[hq]
    have e7:(k:Int)=p.2[q]:=by rw[← e6];omega
    rw[e7];exact List.getElem_mem hq))]
   exact⟨e2,e5⟩
  ·have hq2:q=p.2.length:=by omega
   subst hq2
   refine⟨i,hi,?_⟩
   have e3:(p.2++[(k:Int)]).getD p.2.length 0=k:=by simp
   have e4:(p.2++[(k:Int)]).getD i 0=a:=by rw[List.getD_eq_getElem?_getD,List.getElem?_append_left hi,← List.getD_eq_getElem?_getD,ha]
   simp only[e3,e4,set_getD hkN,Int.toNat_natCast,if_pos]
   exact⟨trivial,he⟩
 ·have h2:=h.cnt
  have h3:=set_count hkN hge (b:=a) (by omega)
  simp only[List.length_append,List.length_singleton]
  omega
 ·simp only[set_getD hkN]
  rw[if_neg]
  rintro rfl
  exact hj e
 ·simp only[set_getD hkN,if_pos]
  omega
theorem SI.fold {i:Nat}:∀{l:List Int}{p:SP},SI N S Ed p→i<p.2.length→(∀x∈l,0≤x∧x<N∧Ed (p.2.getD i 0) x)→SI N S Ed (sF l (p.2.getD i 0) p)∧Le p (sF l (p.2.getD i 0) p)∧∀x∈l,(sF l (p.2.getD i 0) p).1.getD x.toNat 0≠-2
 | [],p,h,_,_=>⟨h,Le.refl,fun x hx=>absurd hx (by simp)⟩
 | y::l,p,h,hi,hl=>by
  have hy:=hl y (by simp)
  obtain⟨h1,h2,h3⟩:=h.step hi hy.1 hy.2.1 hy.2.2
  have hi':i<(s1 (p.2.getD i 0) p y).2.length:=by have:=h2.len;omega
  have ih:=SI.fold (l:=l) h1 hi' (fun x hx=>by rw[h2.at hi];exact hl x (by simp[hx]))
  rw[h2.at hi] at ih
  obtain⟨g1,g2,g3⟩:=ih
  refine⟨g1,h2.trans g2,fun x hx=>?_⟩
  rcases List.mem_cons.1 hx with rfl | hx
  ·have:=g2.keep _ h3
   show (sF l _ _).1.getD _ _≠_
   rw[this];exact h3
  ·exact g3 x hx
end
structure NOk (next:List (List Int)):Prop where
 ent:∀l∈next,∀x∈l,0≤x∧x<next.length
def Ed (next:List (List Int)) (x y:Int):Prop:=0≤x∧x<next.length∧y∈next.getD x.toNat []
section
variable {next:List (List Int)}{S:List Int}
theorem row_mem {k:Nat}(hk:k<next.length):next.getD k []∈next:=by
 rw[List.getD_eq_getElem?_getD,List.getElem?_eq_getElem hk]
 exact List.getElem_mem hk
theorem NOk.row (hn:NOk next) {p:SP}(h:SI next.length S (Ed next) p) {i:Nat}(hi:i<p.2.length):∀x∈next.getD (p.2.getD i 0).toNat [],0≤x∧x<next.length∧Ed next (p.2.getD i 0) x:=by
 intro x hx
 have hat:=h.at hi
 have h1:=hn.ent _ (row_mem (k:=(p.2.getD i 0).toNat) (by omega)) x hx
 exact⟨h1.1,h1.2,hat.1,hat.2.1,hx⟩
theorem sN_inv (hn:NOk next) (hS:incr next.length (-1) S):∀n,SI next.length S (Ed next) (sN next S n)∧∀q:Nat,q<n→q<(sN next S n).2.length→∀x∈next.getD ((sN next S n).2.getD q 0).toNat [],(sN next S n).1.getD x.toNat 0≠-2
 | 0=>⟨SI.start hS,fun q hq=>absurd hq (Nat.not_lt_zero q)⟩
 | n+1=>by
  obtain⟨h1,h2⟩:=sN_inv hn hS n
  rw[sN]
  split
  case isFalse hlt=>exact⟨h1,fun q hq hq2=>h2 q (by omega) hq2⟩
  rename_i hlt
  obtain⟨f1,f2,f3⟩:=h1.fold hlt (hn.row h1 hlt)
  refine⟨f1,fun q hq hq2 x hx=>?_⟩
  by_cases e:q=n
  ·subst e
   rw[f2.at hlt] at hx
   exact f3 x hx
  ·by_cases hq3:q<(sN next S n).2.length
   ·rw[f2.at hq3] at hx
    have:=h2 q (by omega) hq3 x hx
    rw[f2.keep _ this]
    exact this
   ·omega
theorem sN_succ {n:Nat}(h:n<(sN next S n).2.length):sN next S (n+1)=sF (next.getD ((sN next S n).2.getD n 0).toNat []) ((sN next S n).2.getD n 0) (sN next S n):=by
 rw[sN,if_pos h]
theorem sN_stop {n:Nat}(h:(sN next S n).2.length≤n):sN next S (n+1)=sN next S n:=by
 rw[sN,if_neg (by omega)]
theorem sN_le (hn:NOk next) (hS:incr next.length (-1) S) {n m:Nat}(h:n≤m):Le (sN next S n) (sN next S m):=by
 induction m with
 | zero=>have:n=0:=by omega
         subst this;exact Le.refl
 | succ m ih=>
  by_cases e:n=m+1
  ·subst e;exact Le.refl
  refine (ih (by omega)).trans ?_
  have hi:=(sN_inv hn hS m).1
  by_cases hlt:m<(sN next S m).2.length
  ·rw[sN_succ hlt]
   exact (hi.fold hlt (hn.row hi hlt)).2.1
  ·rw[sN_stop (by omega)];exact Le.refl
theorem sN_fix {n m:Nat}(h:(sN next S n).2.length≤n) (hm:n≤m):sN next S m=sN next S n:=by
 induction m with
 | zero=>have:n=0:=by omega
         subst this;rfl
 | succ m ih=>
  by_cases e:n=m+1
  ·subst e;rfl
  have:=ih (by omega)
  rw[sN_stop (by rw[this];omega),this]
def fin (next:List (List Int)) (S:List Int):SP:=sN next S next.length
theorem fin_eq (hn:NOk next) (hS:incr next.length (-1) S) {n:Nat}(h:(sN next S n).2.length≤n):sN next S n=fin next S:=by
 have hN:=(sN_inv hn hS next.length).1.le
 unfold fin
 by_cases e:n≤next.length
 ·exact (sN_fix h e).symm
 ·exact sN_fix hN (by omega)
theorem sN_fin (hn:NOk next) (hS:incr next.length (-1) S) (n:Nat):Le (sN next S n) (fin next S):=by
 by_cases e:n≤next.length
 ·exact sN_le hn hS e
 ·have:=sN_fix (sN_inv hn hS next.length).1.le (show next.length≤n by omega)
  unfold fin
  rw[this];exact Le.refl
theorem fin_mem (hn:NOk next) (hS:incr next.length (-1) S) {E:Nat→Nat→Prop}(hE:∀x y:Nat,E x y↔x<next.length∧(y:Int)∈next.getD x []) {t:Nat}:(t:Int)∈(fin next S).2↔∃s:Nat,(s:Int)∈S∧Rch E s t:=by
 obtain⟨h1,h2⟩:=sN_inv hn hS next.length
 have hle:=h1.le
 unfold fin
 generalize sN next S next.length=p at *
 obtain⟨tp,hpre⟩:=h1.pre
 constructor
 ·intro ht
  have:∀q,q<p.2.length→∃s:Nat,(s:Int)∈S∧Rch E s (p.2.getD q 0).toNat:=by
   intro q
   induction q using Nat.strongRecOn with
   | _ q ih=>
    intro hq
    have hat:=h1.at hq
    by_cases e:q<S.length
    ·refine⟨(p.2.getD q 0).toNat,?_,.refl _⟩
     rw[Int.toNat_of_nonneg hat.1,hpre,List.getD_eq_getElem?_getD,List.getElem?_append_left e,List.getElem?_eq_getElem e]
     exact List.getElem_mem e
    ·obtain⟨r,hr,_,e2,e3,e4⟩:=h1.par q (by omega) hq
     obtain⟨s,g1,g2⟩:=ih r hr (by omega)
     refine⟨s,g1,g2.snoc ((hE _ _).2 ⟨by omega,?_⟩)⟩
     rw[Int.toNat_of_nonneg hat.1]
     exact e4
  obtain⟨q,hq,e⟩:=List.mem_iff_getElem.1 ht
  obtain⟨s,g1,g2⟩:=this q hq
  have e2:p.2.getD q 0=p.2[q]:=by simp[hq]
  rw[e2,e,Int.toNat_natCast] at g2
  exact⟨s,g1,g2⟩
 ·rintro⟨s,hs,hr⟩
  refine hr.closed (C:=fun x=>(x:Int)∈p.2) ?_ (by rw[hpre];simp[hs])
  intro x y hx hxy
  obtain⟨g1,g2⟩:=(hE x y).1 hxy
  obtain⟨q,hq,e⟩:=List.mem_iff_getElem.1 hx
  have e2:p.2.getD q 0=p.2[q]:=by simp[hq]
  have h3:=h2 q (by omega) hq y (by rw[e2,e,Int.toNat_natCast];exact g2)
  have h4:=hn.ent _ (row_mem g1) _ g2
  rw[Int.toNat_natCast] at h3
  exact h1.vis y (by omega) h3
end
inductive Chn (f:List Int):Int→List Int→Prop where
 | z:Chn f (-1) []
 | s {a:Int}{l:List Int}:0≤a→a<f.length→Chn f (f.getD a.toNat 0) l→Chn f a (l++[a])
theorem Chn.neg {f:List Int}{l:List Int}(h:Chn f (-1) l):l=[]:=by
 generalize hx:(-1:Int)=x at h
 cases h with
 | z=>rfl
 | s h0 _ _=>omega
theorem Chn.un {f:List Int}{a:Int}{l:List Int}(h:Chn f a l) (h0:0≤a):∃l',l=l'++[a]∧a<f.length∧Chn f (f.getD a.toNat 0) l':=by
 cases h with
 | z=>omega
 | s h1 h2 h3=>exact⟨_,rfl,h2,h3⟩
theorem Chn.ge {f:List Int}{a:Int}{l:List Int}(h:Chn f a l):-1≤a:=by
 cases h with
 | z=>decide
 | s h1 _ _=>omega
theorem Chn.det {f:List Int}{a:Int}{l:List Int}(h:Chn f a l):∀{l'},Chn f a l'→l=l':=by
 induction h with
 | z=>exact fun h'=>h'.neg.symm
 | s h1 h2 h3 ih=>
  intro l' h'
  obtain⟨l2,rfl,_,h4⟩:=h'.un h1
  rw[ih h4]
theorem Chn.le {p p':SP}(hb:Le p p') (hl:p.1.length=p'.1.length) {a:Int}{l:List Int}(h:Chn p.1 a l):Chn p'.1 a l:=by
 induction h with
 | z=>exact .z
 | s h1 h2 h3 ih=>
  refine .s h1 (by omega) ?_
  have:=h3.ge
  rw[hb.keep _ (by omega)]
  exact ih
theorem Chn.all {f:List Int}{a:Int}{l:List Int}(h:Chn f a l):∀x∈l,0≤x∧x<f.length:=by
 induction h with
 | z=>simp
 | s h1 h2 h3 ih=>
  intro x hx
  simp only[List.mem_append,List.mem_singleton] at hx
  rcases hx with hx | rfl
  ·exact ih x hx
  ·exact⟨h1,h2⟩
inductive Pth (S:List Int) (Ed:Int→Int→Prop):Int→List Int→Prop
 | one {s:Int}(h:s∈S):Pth S Ed s [s]
 | snoc {x y:Int}{l:List Int}(h:Pth S Ed x l) (e:Ed x y):Pth S Ed y (l++[y])
theorem SI.chn {N:Nat}{S:List Int}{Ed:Int→Int→Prop}{p:SP}(h:SI N S Ed p):∀(q:Nat),q<p.2.length→∃l,Chn p.1 (p.2.getD q 0) l∧l.length≤q+1∧Pth S Ed (p.2.getD q 0) l:=by
 intro q
 induction q using Nat.strongRecOn with
 | _ q ih=>
  intro hq
  have hat:=h.at hq
  obtain⟨tp,hpre⟩:=h.pre
  by_cases e:q<S.length
  ·have hm:p.2.getD q 0∈S:=by
    rw[hpre,List.getD_eq_getElem?_getD,List.getElem?_append_left e,List.getElem?_eq_getElem e]
    exact List.getElem_mem e
   refine⟨[]++[p.2.getD q 0],.s hat.1 (by rw[h.fl];exact hat.2.1) ?_,by simp,.one hm⟩
   rw[h.st _ hm]
   exact .z
  ·obtain⟨r,hr,e1,e2⟩:=h.par q (by omega) hq
   obtain⟨l,h1,h2,h3⟩:=ih r hr (by omega)
   exact⟨l++[p.2.getD q 0],.s hat.1 (by rw[h.fl];exact hat.2.1) (by rw[e1];exact h1),by simp;omega,.snoc h3 e2⟩
noncomputable def path (next:List (List Int)) (S:List Int) (a:Int):List Int:=open Classical in if h:∃l,Chn (fin next S).1 a l then h.choose else []
theorem path_eq {next:List (List Int)}{S:List Int}(hn:NOk next) (hS:incr next.length (-1) S) {n:Nat}{a:Int}{l:List Int}(h:Chn (sN next S n).1 a l):path next S a=l:=by
 have h2:=h.le (sN_fin hn hS n) (by rw[(sN_inv hn hS n).1.fl];exact (sN_inv hn hS next.length).1.fl.symm)
 unfold path
 rw[dif_pos ⟨l,h2⟩]
 exact (Exists.choose_spec (⟨l,h2⟩:∃l,Chn (fin next S).1 a l)).det h2
theorem path_ok {next:List (List Int)}{S:List Int}(hn:NOk next) (hS:incr next.length (-1) S) {a:Int}(ha:a∈(fin next S).2):Chn (fin next S).1 a (path next S a)∧(path next S a).length≤next.length∧Pth S (Ed next) a (path next S a):=by
 have h1:=(sN_inv hn hS next.length).1
 obtain⟨q,hq,e⟩:=List.mem_iff_getElem.1 ha
 obtain⟨l,g1,g2,g3⟩:=h1.chn q hq
 have e2:(sN next S next.length).2.getD q 0=a:=by
  have e3:(fin next S).2.getD q 0=a:=by
   rw[List.getD_eq_getElem?_getD,List.getElem?_eq_getElem hq]
   exact e
  exact e3
 rw[e2] at g1 g3
 have:=path_eq hn hS g1
 have hle:=h1.le
 have hq':q<(sN next S next.length).2.length:=hq
 rw[this]
 exact⟨g1,by omega,g3⟩
theorem fst_hit {next:List (List Int)}{S:List Int}(hn:NOk next) (hS:incr next.length (-1) S) {g:Int→Bool}{i:Nat}(hi:i<(sN next S i).2.length) (h:g ((sN next S i).2.getD i 0)=true) (hno:∀j,j<i→g ((sN next S i).2.getD j 0)=false):(fin next S).2.find? g=some ((sN next S i).2.getD i 0):=by
 have hle:=sN_fin hn hS i
 obtain⟨t,e⟩:=hle.pre
 rw[List.find?_eq_some_iff_getElem]
 refine⟨h,i,by rw[e];simp;omega,?_,?_⟩
 ·simp only[e]
  rw[List.getElem_append_left hi]
  simp[hi]
 ·intro j hj
  simp only[e]
  rw[List.getElem_append_left (by omega)]
  have:=hno j hj
  rw[List.getD_eq_getElem?_getD,List.getElem?_eq_getElem (by omega)] at this
  simpa using this
theorem no_hit {next:List (List Int)}{S:List Int}(hn:NOk next) (hS:incr next.length (-1) S) {g:Int→Bool}{i:Nat}(hi:(sN next S i).2.length≤i) (hno:∀j,j<i→j<(sN next S i).2.length→g ((sN next S i).2.getD j 0)=false):(fin next S).2.find? g=none:=by
 rw[← fin_eq hn hS hi,List.find?_eq_none]
 intro x hx
 obtain⟨j,hj,rfl⟩:=List.mem_iff_getElem.1 hx
 have:=hno j (by omega) hj
 rw[List.getD_eq_getElem?_getD,List.getElem?_eq_getElem hj] at this
 simpa using this
end Bf
end Go.Proofs.YtedbaenahnfhfaaGreat
