/-
  Texts of this proof, one behind the other.
-/
import Derived.Test.YtielhfonnleldaaGreatYF6
set_option linter.all false
set_option linter.unusedVariables false
set_option linter.unusedSimpArgs false
set_option linter.defProp false
set_option maxRecDepth 1000000
namespace Go.Proofs.YtielhfonnleldaaGreat
open Go
namespace Fm
noncomputable def ini2 (B:List Exq) (g:Exq):Nat→List (Int×Int)
 | 0=>[]
 | n+1=>if val B n g then ini2 B g n++[((n:Int),0)] else ini2 B g n
theorem ini2_map {B:List Exq}{g:Exq}:∀n,(ini2 B g n).map lf2=ini0 B g n
 | 0=>rfl
 | n+1=>by
  have ih:=ini2_map (B:=B) (g:=g) n
  rw[ini2,ini0]
  split
  ·rw[List.map_append,ih];rfl
  ·exact ih
theorem ini2_len {B:List Exq}{g:Exq}(n:Nat):(ini2 B g n).length≤n:=by
 have:=ini0_len (B:=B) (g:=g) n
 rw[← ini2_map,List.length_map] at this
 exact this
theorem ini2_mem {B:List Exq}{g:Exq}{n:Nat}{p:Int×Int}(h:p∈ini2 B g n):∃s:Nat,s<n∧p=((s:Int),0):=by
 have h1:lf2 p∈ini0 B g n:=by rw[← ini2_map];exact List.mem_map.2 ⟨p,h,rfl⟩
 obtain⟨s,h2,h3,_⟩:=ini0_mem.1 h1
 exact⟨s,h2,lf2_inj _ _ h3⟩
theorem ini2_nodup {B:List Exq}{g:Exq}:∀n,(ini2 B g n).Nodup
 | 0=>by simp[ini2]
 | n+1=>by
  have ih:=ini2_nodup (B:=B) (g:=g) n
  rw[ini2]
  split
  ·rw[List.nodup_append]
   refine⟨ih,by simp,fun x hx y hy=>?_⟩
   rw[List.mem_singleton] at hy
   subst hy
   rintro rfl
   obtain⟨s,h1,h2⟩:=ini2_mem hx
   simp only[Prod.mk.injEq] at h2
   omega
  ·exact ih
theorem ltv_sub' {B:List Exq}{s:Nat}:ltv B s B.length&&&ltc B B.length=ltv B s B.length:=by
 refine Nat.eq_of_testBit_eq fun a=>?_
 rw[Nat.testBit_and]
 cases h:(ltv B s B.length).testBit a with
 | false=>rfl
 | true=>
  obtain⟨i,hi,h1,h2,_,h4⟩:=(ltv_bit _ (Nat.le_refl _)).1 h
  rw[(ltc_bit _ (Nat.le_refl _)).2 ⟨i,hi,h1,h2,h4⟩]
  rfl
theorem exOk_tr {x:Exq}:trOk x↔bOk x∧exOk (mvT (basics x) (unt (basics x) (basics x).length)) (acT (basics x) (unt (basics x) (basics x).length)) (ini0 (basics x) (push x false) (2^(basics x).length)):=by
 rw[trOk_ex]
 constructor
 ·rintro⟨h1,h2⟩
  refine⟨h1,h2,?_⟩
  have hp:2^(basics x).length≤2^5:=Nat.pow_le_pow_right (by omega) h1.2
  have:=exN_edges (mv:=mvT (basics x) (unt (basics x) (basics x).length)) (ac:=acT (basics x) (unt (basics x) (basics x).length)) (L0:=ini0 (basics x) (push x false) (2^(basics x).length)) (fun _=>mvT_len) 64
  omega
 ·rintro⟨h1,h2,_⟩
  exact⟨h1,h2⟩
end Fm
theorem c_accT {h:Heap}{w uv:Value}{B:List Exq}{bT bt s:Nat}{p:Int}(hB:Fm.Bc B) (hn5:B.length≤5) (hs:s<4611686018427387904) (hp:Fm.POk (Fm.unt B B.length) p) (R:Rep h w B) (RU:Rep h uv (Fm.unt B B.length))
  (hbT:hload h (some (.pointer (some ⟨bT,0,none⟩))) none=some (.pointer (some ⟨bt,0,none⟩)))
  (hbt:hload h (some (.pointer (some ⟨bt,0,none⟩))) none=some w) (hbu:hload h (some (.pointer (some ⟨bt,1,none⟩))) none=some uv) :
  CallE Tryz.prog fn_impl_TranslateFormula_1 [.agg #[.int .i64 s,.int .i64 p],.pointer (some ⟨bT,0,none⟩)] h (fun u h'=>h.le h'∧u=.bool (Fm.phs B (Fm.unt B B.length) s p).2):=by
 have hum:∀{u:Int},u∈Fm.unt B B.length→_:=fun h=>Fm.unt_mem h
 refine CallE.gen fun k hk=>EN_impl_TranslateFormula_1 rfl ?_
 unfold Fm.phs at hk
 generalize Fm.unt B B.length=U at *
 by_cases q0:U.length=0
 ·rw[if_pos q0] at hk
  have q0':U=[]:=List.length_eq_zero_iff.1 q0
  simp -implicitDefEqProofs (disch:=first|omega|(simp only[LnZ];omega))[wrap64,setC,hbT,hbu,RU.len,q0,q0']
  exact RetK.keep (hk _ _ ⟨Heap.le.refl _,rfl⟩)
 rw[if_neg q0] at hk
 have q0':¬U=[]:=fun e=>q0 (by rw[e];rfl)
 have q0i:¬(U.length:Int)=0:=by omega
 by_cases qp:p=0
 case neg=>
  simp -implicitDefEqProofs (disch:=first|omega|(simp only[LnZ];omega))[wrap64,setC,hbT,hbu,RU.len,q0,q0',q0i,qp]
  refine RetK.keep (hk _ _ ⟨Heap.le.refl _,?_⟩)
  split
  ·simp[qp]
  ·rfl
 subst qp
 have hnU:0<U.length:=by omega
 obtain⟨m,hm1,hm2,hm3⟩:=hum (List.getElem_mem hnU)
 have e1:U.getD (0:Int).toNat 0=(m:Int):=by rw[Int.toNat_zero,List.getD_eq_getElem?_getD,List.getElem?_eq_getElem hnU,← hm1];rfl
 have hm3':B[m].kind=7:=by rw[← hm3];simp[hm2]
 rw[e1] at hk
 simp -implicitDefEqProofs (disch:=first|omega|(simp only[LnZ];omega))[wrap64,setC,hbT,hbu,RU.len,q0,q0',q0i]
 refine (c_fulfils (p:=0) hB hn5 hs hnU hm1 hm2 hm3' R RU hbt hbu).go ?_
 rintro _ h2 ⟨l2,rfl⟩
 cases hf:Fm.ful B s m with
 | true=>
  rw[hf] at hk
  simp -implicitDefEqProofs (disch:=first|omega|(simp only[LnZ];omega))[wrap64,hf]
  exact RetK.keep (hk _ _ ⟨l2,by simp⟩)
 | false=>
  rw[hf] at hk
  simp -implicitDefEqProofs (disch:=first|omega|(simp only[LnZ];omega))[wrap64,hf]
  exact RetK.keep (hk _ _ ⟨l2,by simp⟩)
theorem c_TranslateFormula {h:Heap}{v:Value}{x:Exq}(R:Rep h v x):CallE Tryz.prog fn_impl_TranslateFormula [v] h (fun u h'=>∃w,u=.tuple #[w,.bool (decide (Fm.trOk x))]∧HS h [ow w (Fm.trR x)] h'):=by
 have FX:=R.aExq
 refine CallE.gen fun k hk=>EN_impl_TranslateFormula rfl ?_
 simp -implicitDefEqProofs (disch:=first|omega|(simp only[LnZ];omega))[wrap64,FX]
 refine (c_BasicFormulas R).go ?_
 rintro _ h1 ⟨w,rfl,l1,RB⟩
 by_cases q1:Fm.bOk x
 case neg=>
  simp -implicitDefEqProofs (disch:=first|omega|(simp only[LnZ];omega))[wrap64,q1,setC]
  refine RetK.keep (hk _ _ ⟨_,by rw[decide_eq_false (fun hh=>q1 hh.1)],?_⟩)
  rw[Fm.trR,if_neg (fun hh=>q1 hh.1)]
  exact HS.mkAut (a:=⟨[],[],[]⟩) (HS.nil_ow (Γ:=[]) l1).nil_ow.nil_ow
 rw[Fm.basR,if_pos q1] at RB
 simp -implicitDefEqProofs (disch:=first|omega|(simp only[LnZ];omega))[wrap64,q1,FX]
 refine (c_Formula_normalForm (R.le l1) q1.1.1).go ?_
 rintro _ h2 ⟨gu,rfl,l2,RG⟩
 rw[Fm.nfR,if_pos q1.1] at RG
 have FG:=RG.aExq
 have RB:=RB.le l2
 have hB:=Fm.basics_bc q1
 have hn5:=q1.2
 have hcl:=Fm.basics_cl q1.1
 have htO:=Fm.exOk_tr (x:=x)
 have htR:Fm.trOk x→Fm.trA x=_:=fun h=>Fm.trA_ex h
 have hl12:=l1.trans l2
 generalize Fm.basics x=B at *
 generalize Fm.push x false=G at *
 simp -implicitDefEqProofs (disch:=first|omega|(simp only[LnZ];omega))[wrap64,FG,setC,RB.one,RB.cells]
 refine (HS.init (h:=h2)).alloc rfl fun bt h3 H=>?_
 simp -implicitDefEqProofs (disch:=omega)[wrap64]
 refine H.alloc rfl fun bT h4 H=>?_
 simp -implicitDefEqProofs (disch:=omega)[wrap64]
 refine H.bxst (u:=.pointer (some ⟨bt,0,none⟩)) rfl rfl rfl rfl (by simp) fun h5 H=>?_
 have H:HS h2 [bx bT [.pointer (some ⟨bt,0,none⟩)],bx bt [w,.slice none 0 0]] h5:=by simpa[setC] using H
 simp -implicitDefEqProofs (disch:=first|omega|(simp only[LnZ];omega))[wrap64,RB.len]
 refine wp_count B.length (fun i e h'=>∃uv,e=[none,none,some (.agg #[.slice none 0 0,.slice none 0 0,.slice none 0 0]),none,some w,none,some gu,some (.pointer (some ⟨bT,0,none⟩)),none,none,none,none,none,some w,some (.int .i64 B.length),some (.int .i64 i),none,none] ∧
  HS h2 [bx bT [.pointer (some ⟨bt,0,none⟩)],bx bt [w,uv],ow uv (Fm.unt B i)] h') ⟨.slice none 0 0,by simp,by simpa[Fm.unt] using (H.nil_ow (α:=Int)).bk2⟩ ?_
 clear H
 rintro J i _ h6 hJ hi ⟨uv,rfl,H⟩
 simp -implicitDefEqProofs (disch:=omega)[wrap64]
 refine IteW.mk (fun hlt=>?_) (fun hge=>?_)
 ·have hlx:i<B.length:=by omega
  have e:B.getD i Exq.zero=B[i]:=by simp[hlx]
  have hu1:Fm.unt B (i+1)=if B[i].kind=7 then Fm.unt B i++[(i:Int)] else Fm.unt B i:=by rw[Fm.unt,e]
  have hul:=Fm.unt_len (B:=B) i
  obtain⟨u,hu,Ru⟩:=RB.ld hlx
  have hu':=hload_le H.base hu
  change hload _ (some (elp 3 w i)) (some 3)=some u at hu'
  obtain⟨wk,rfl,k1,k2,R1⟩:=Rep_Exq.1 Ru
  have hX:=RB.X (n:=3) rfl
  have kO:=R1.one
  have hbu:hload h6 (some (.pointer (some ⟨bt,1,none⟩))) none=some uv:=H.sw1.bxld (o:=1) rfl
  by_cases c7:B[i].kind=7
  ·rw[if_pos c7] at hu1
   simp -implicitDefEqProofs (disch:=first|omega|(simp only[LnZ];omega))[wrap64,hX,hu',setC,kO,c7,H.bxld0,hbu]
   refine HS.app1 (bytes:=8) H.sw2 (i:Int) rfl rfl rfl ⟨by omega,by omega⟩ rfl rfl (by omega) (by omega) fun uv' h7 H=>?_
   simp -implicitDefEqProofs (disch:=first|omega|(simp only[LnZ];omega))[wrap64,H.sw1.bxld0]
   refine H.sw2.bxst (o:=1) (u:=uv') rfl rfl (by rw[H.rep.cells];rfl) (by rw[H.rep.cells];simp[H.rep.one]) (by simp[H.rep.cells]) fun h8 H=>?_
   have H:HS h2 [bx bt [w,uv'],ow uv' (Fm.unt B i++[(i:Int)]),bx bT [.pointer (some ⟨bt,0,none⟩)]] h8:=by simpa[setC,H.sw1.rep.cells] using H
   simp -implicitDefEqProofs (disch:=omega)[wrap64]
   exact hJ _ _ hlx ⟨uv',by simp,by rw[hu1];exact H.sw2⟩
  ·rw[if_neg c7] at hu1
   simp -implicitDefEqProofs (disch:=first|omega|(simp only[LnZ];omega))[wrap64,hX,hu',setC,kO,c7]
   exact hJ _ _ hlx ⟨uv,by simp,by rw[hu1];exact H⟩
 obtain rfl:i=B.length:=by omega
 have hc32:2^B.length≤32:=Nat.pow_le_pow_right (n:=2) (by omega) hn5
 have hcnt:shlI .i64 1 (B.length:Int)=((2^B.length:Nat):Int):=by rw[i64_shl1 (by omega),Nat.shiftLeft_eq,Nat.one_mul]
 have hcw:IntKind.u64.wrap (B.length:Int)=B.length:=u64_pos (by omega) (by omega)
 have hcw0:¬(B.length:Int)<0:=by omega
 obtain⟨c,hc⟩:∃c,c=2^B.length:=⟨_,rfl⟩
 rw[← hc] at hcnt hc32 htO htR
 have hb0:=H.bxld0
 have hbt:hload h6 (some (.pointer (some ⟨bt,0,none⟩))) none=some w:=H.sw1.bxld (o:=0) rfl
 have hbu:hload h6 (some (.pointer (some ⟨bt,1,none⟩))) none=some uv:=H.sw1.bxld (o:=1) rfl
 have RU:=H.sw2.rep
 have lb:=H.base
 have RB:=RB.le lb
 have RG:=RG.le lb
 clear H hJ
 simp -implicitDefEqProofs (disch:=first|omega|(simp only[LnZ];omega))[wrap64,RB.len,hcnt,hcw,hcw0]
 clear J
 refine wp_count c (fun n e h'=>∃iv,e=[none,none,some (.agg #[.slice none 0 0,.slice none 0 0,.slice none 0 0]),none,none,none,some gu,some (.pointer (some ⟨bT,0,none⟩)),none,none,some iv,none,none,none,none,none,some (.int .i64 c),some (.int .i64 n)] ∧
  HS h6 [ow iv (Fm.ini2 B G n)] h') ⟨.slice none 0 0,by simp,HS.init.nil_ow⟩ ?_
 rintro J n _ h7 hJ hn ⟨iv,rfl,H⟩
 simp -implicitDefEqProofs (disch:=omega)[wrap64]
 refine IteW.mk (fun hlt=>?_) (fun hge=>?_)
 ·have hnc:n<c:=by omega
  have hin:Fm.ini2 B G (n+1)=if Fm.val B n G then Fm.ini2 B G n++[((n:Int),0)] else Fm.ini2 B G n:=rfl
  have hil:=Fm.ini2_len (B:=B) (g:=G) n
  simp -implicitDefEqProofs (disch:=first|omega|(simp only[LnZ];omega))[wrap64,hload_le H.base hb0,RG.aExq]
  refine (c_holds (s:=n) (Bc_bas hB) (by omega) G hcl (RG.on H) (RB.on H) (hload_le H.base hbt)).go ?_
  rintro _ h8 ⟨l8,rfl⟩
  have H:=H.le l8
  cases hv:Fm.val B n G with
  | false=>
   rw[hv,if_neg (by decide)] at hin
   simp -implicitDefEqProofs (disch:=first|omega|(simp only[LnZ];omega))[wrap64,hv]
   exact hJ _ _ hnc ⟨iv,by simp,by rw[hin];exact H⟩
  | true=>
   rw[hv,if_pos rfl] at hin
   have hok:I64 (n:Int)∧I64 0:=⟨⟨by omega,by omega⟩,⟨by omega,by omega⟩⟩
   simp -implicitDefEqProofs (disch:=first|omega|(simp only[LnZ];omega))[wrap64,hv,setC]
   refine HS.app1 (bytes:=16) H ((n:Int),(0:Int)) rfl rfl rfl hok rfl rfl (by omega) (by omega) fun iv' h9 H=>?_
   simp -implicitDefEqProofs (disch:=omega)[wrap64]
   exact hJ _ _ hnc ⟨iv',by simp,by rw[hin];exact H⟩
 obtain rfl:n=c:=by omega
 have lb2:=H.base
 have RI:=H.rep
 have RB:=RB.le lb2
 have RU:=RU.le lb2
 have hb0:=hload_le lb2 hb0
 have hbt:=hload_le lb2 hbt
 have hbu:=hload_le lb2 hbu
 have lf:=hl12.trans (lb.trans lb2)
 have hpo:∀{s:Nat}{q:Int},Fm.POk (Fm.unt B B.length) q→Fm.POk (Fm.unt B B.length) (Fm.phs B (Fm.unt B B.length) s q).1:=fun h=>Fm.phs_ok h
 have hul:=Fm.unt_len (B:=B) B.length
 have hsh:∀y∈B,Fm.Shp 6 y:=fun y hy=>(hB.2 y hy).1
 simp -implicitDefEqProofs (disch:=first|omega|(simp only[LnZ];omega))[wrap64,hb0]
 refine (c_explore2 (g:=h7) (I:=Fm.ini2 B G n) (mv:=Fm.mvT B (Fm.unt B B.length)) (ac:=Fm.acT B (Fm.unt B B.length)) (P:=fun p=>∃s:Nat,p.1=s∧s<n∧Fm.POk (Fm.unt B B.length) p.2) (K:=n) (Mf:=fun p=>Fm.tmv B p.1.toNat (Fm.phs B (Fm.unt B B.length) p.1.toNat p.2).1 n)
  (by omega) (Fm.ini2_nodup n) (by have:=Fm.ini2_len (B:=B) (g:=G) n;omega) ?_ ?_ ?_ ?_
  (fA:=fn_impl_TranslateFormula_1) (a1:=[]) (a2:=[.pointer (some ⟨bT,0,none⟩)]) (fM:=fn_impl_translator_moves) (m1:=[.pointer (some ⟨bt,0,none⟩)]) (m2:=[]) rfl rfl ?_ ?_ RI).go ?_
 ·intro p hp
  obtain⟨s,h1,rfl⟩:=Fm.ini2_mem hp
  exact⟨s,rfl,h1,by simp,.inr rfl⟩
 ·rintro⟨p1,p2⟩ ⟨s,rfl,h1,h2,h3⟩
  simp only at h2 h3
  exact⟨⟨by simp only;omega,by simp only;omega⟩,⟨by simp only;omega,by simp only;omega⟩⟩
 ·rintro⟨p1,p2⟩ ⟨s,rfl,h1,h2⟩
  refine⟨?_,Fm.tmv_len,fun m hm=>?_⟩
  ·have:=Fm.tmv_mvS (B:=B) (s:=s) (p:=(Fm.phs B (Fm.unt B B.length) s p2).1) (m:=n)
   rw[hc] at this ⊢
   exact this
  ·unfold Fm.tmv at hm
   obtain⟨t,ht,rfl⟩:=List.mem_map.1 hm
   have h3:=List.mem_range.1 (List.mem_filter.1 ht).1
   exact⟨t,rfl,h3,hpo h2⟩
 ·rintro⟨p1,p2⟩ ⟨s,rfl,h1,h2⟩ m hm
  unfold Fm.mvT Fm.mvS at hm
  obtain⟨t,_,rfl⟩:=List.mem_map.1 hm
  exact⟨_,_,rfl,rfl,Fm.ltc_lt hsh _ (Nat.le_refl _),Fm.ltv_sub'⟩
 ·rintro⟨p1,p2⟩ h8 ⟨s,rfl,h1,h2⟩ l8
  exact c_accT (s:=s) hB hn5 (by omega) h2 (RB.le l8) (RU.le l8) (hload_le l8 hb0) (hload_le l8 hbt) (hload_le l8 hbu)
 ·rintro⟨p1,p2⟩ h8 ⟨s,rfl,h1,h2⟩ l8
  have:=c_moves (s:=s) (p:=p2) hB hn5 (by omega) h2 (RB.le l8) (RU.le l8) (hload_le l8 hbt) (hload_le l8 hbu)
  rw[← hc] at this
  exact this
 rintro _ h8 ⟨w2,rfl,H⟩
 rw[Fm.ini2_map] at H ⊢
 simp -implicitDefEqProofs (disch:=first|omega|(simp only[LnZ];omega))[wrap64,H.rep.aAut,setC]
 have hiff:Fm.trOk x↔Fm.exOk (Fm.mvT B (Fm.unt B B.length)) (Fm.acT B (Fm.unt B B.length)) (Fm.ini0 B G n):=⟨fun h=>(htO.1 h).2,fun h=>htO.2 ⟨q1,h⟩⟩
 refine RetK.keep (hk _ _ ⟨w2,by rw[decide_eq_decide.2 hiff],?_⟩)
 have hR:Fm.trR x=Fm.exR (Fm.mvT B (Fm.unt B B.length)) (Fm.acT B (Fm.unt B B.length)) (Fm.ini0 B G n):=by
  by_cases q:Fm.trOk x
  ·rw[Fm.trR,if_pos q,htR q,Fm.exR,if_pos (hiff.1 q)]
  ·rw[Fm.trR,if_neg q,Fm.exR,if_neg (fun hh=>q (hiff.2 hh))]
 rw[hR]
 exact HS.app (Γ:=[]) H lf
namespace Fm
instance instDecTru {B:List Bool}{x:Nat}:Decidable (Go.Proofs.YtielhfonnleldaaGreat.tru B x):=by unfold Go.Proofs.YtielhfonnleldaaGreat.tru;infer_instance
end Fm
theorem Great.refl {a:Aut}{R:Rl}(h:Great a R) {i:Nat}(hi:i<a.acc.length):R i i=true:=by
 refine h.upper (fun x y=>decide (x=y)) ⟨?_,?_⟩ i i hi hi (by simp)
 ·intro x y _ _ hxy hx
  simp only[decide_eq_true_eq] at hxy
  subst hxy;exact hx
 ·intro x y _ _ hxy l _ e he hx ho
  simp only[decide_eq_true_eq] at hxy
  subst hxy
  exact⟨e,he,hx,ho,by simp⟩
theorem Great.trans {a:Aut}(ha:a.Ok) {R:Rl}(h:Great a R) {i j k:Nat}(hi:i<a.acc.length) (hj:j<a.acc.length) (hk:k<a.acc.length) (h1:R i j=true) (h2:R j k=true):R i k=true:=by
 refine h.upper (fun x z=>@decide (∃y,y<a.acc.length∧R x y=true∧R y z=true) (Classical.propDecidable _)) ⟨?_,?_⟩ i k hi hk (by simpa using⟨j,hj,h1,h2⟩)
 ·intro x z hx hz hxz h3
  simp only[decide_eq_true_eq] at hxz
  obtain⟨y,hy,h4,h5⟩:=hxz
  exact h.simu.1 y z hy hz h5 (h.simu.1 x y hx hy h4 h3)
 ·intro x z hx hz hxz l hl e he h6 ho
  simp only[decide_eq_true_eq] at hxz
  obtain⟨y,hy,h4,h5⟩:=hxz
  obtain⟨f,hf,g1,g2,g3⟩:=h.simu.2 x y hx hy h4 l hl e he h6 ho
  obtain⟨f',hf',k1,k2,k3⟩:=h.simu.2 y z hy hz h5 l hl f hf g1 g2
  obtain⟨_,q,_,h8,_,h10⟩:=ha.tr hf
  refine⟨f',hf',k1,k2,?_⟩
  simp only[decide_eq_true_eq]
  exact⟨f.to.toNat,by rw[h8];simpa using h10,g3,k3⟩
def Letters (w:Nat→Int):Prop:=∀t,0≤w t∧w t≤7
theorem Simu.run {a:Aut}(ha:a.Ok) {R:Rl}(hR:Simu a R) {w:Nat→Int}(hw:Letters w) {t i j:Nat}(hi:i<a.acc.length) (hj:j<a.acc.length) (h:R i j=true) (k:Run a.acc a.edges w t i):Run a.acc a.edges w t j:=by
 refine Run.sim (fun x y=>x<a.acc.length∧y<a.acc.length∧R x y=true) ?_ ?_ k ⟨hi,hj,h⟩
 ·rintro t p q p' ⟨h1,h2,h3⟩ ⟨e,he,h4,h5,h6⟩ _
  have h7:=hw t
  obtain⟨n,hn⟩:∃n:Nat,w t=n:=⟨(w t).toNat,by omega⟩
  rw[hn] at h6 h7
  obtain⟨f,hf,g1,g2,g3⟩:=hR.2 p p' h1 h2 h3 n (by omega) e he h4 h6
  obtain⟨x,y,k1,k2,k3,k4⟩:=ha.tr he
  obtain⟨x',y',k1',k2',k3',k4'⟩:=ha.tr hf
  refine⟨y',⟨f,hf,g1,k2',by rw[hn];exact g2⟩,by omega,k4',?_⟩
  rw[h5,k2'] at g3
  simpa using g3
 ·rintro p p' ⟨h1,h2,h3⟩ h4
  exact hR.1 p p' h1 h2 h3 h4
section
variable {a b:Aut}
end
section
variable {a:Aut}{K:Nat→Bool}
end
namespace Fm
theorem ltv_sub {B:List Exq}{s:Nat}:ltv B s B.length&&&ltc B B.length=ltv B s B.length:=by
 refine Nat.eq_of_testBit_eq fun a=>?_
 rw[Nat.testBit_and]
 cases h:(ltv B s B.length).testBit a with
 | false=>rfl
 | true=>
  obtain⟨i,hi,h1,h2,_,h4⟩:=(ltv_bit _ (Nat.le_refl _)).1 h
  rw[(ltc_bit _ (Nat.le_refl _)).2 ⟨i,hi,h1,h2,h4⟩]
  rfl
theorem trA_ok {x:Exq}(h:trOk x):(trA x).Ok:=by
 rw[trA_ex h]
 have h5:=h.1.2
 have hB:=fun y hy=>(basics_ok h.1 y hy).1
 have hp:2^(basics x).length≤2^5:=Nat.pow_le_pow_right (by omega) h5
 refine exA_ok (trOk_ex.1 h).2 ?_ fun s _ m hm=>?_
 ·have:=exN_edges (mv:=mvT (basics x) (unt (basics x) (basics x).length)) (ac:=acT (basics x) (unt (basics x) (basics x).length)) (L0:=ini0 (basics x) (push x false) (2^(basics x).length)) (fun _=>mvT_len) 64
  omega
 ·unfold mvT mvS at hm
  obtain⟨t,_,rfl⟩:=List.mem_map.1 hm
  exact⟨_,_,rfl,rfl,ltc_lt hB _ (Nat.le_refl _),ltv_sub⟩
end Fm
theorem c_Equal_bool {h:Heap}{a b:Value}{x y:List Bool}(Ra:Rep h a x) (Rb:Rep h b y):CallE Tryz.prog fn_slices_Equal_S_bool_bool [a,b] h (fun u h'=>h'=h∧u=.bool (decide (x=y))):=by
 have hL:=Ra.lt
 refine CallE.gen fun k hk=>EN_slices_Equal_S_bool_bool rfl ?_
 by_cases hl:(x.length:Int)=y.length
 case neg=>
  simp -implicitDefEqProofs (disch:=first|omega|(simp only[LnZ];omega))[wrap64,Ra.len,Rb.len,hl]
  exact RetK.keep (hk _ _ ⟨rfl,by congr 1;rw[eq_comm,decide_eq_false_iff_not];intro e;subst e;exact hl rfl⟩)
 simp -implicitDefEqProofs (disch:=first|omega|(simp only[LnZ];omega))[wrap64,Ra.len,Rb.len,hl]
 refine wp_count x.length (fun i e h'=>e=[some a,some b,none,none,some (.int .i64 x.length),some (.int .i64 i)]∧h'=h∧x.take i=y.take i) ⟨by simp[hl],rfl,rfl⟩ ?_
 rintro J i _ h1 hJ hi ⟨rfl,rfl,hq⟩
 simp -implicitDefEqProofs (disch:=omega)[wrap64]
 refine IteW.mk (fun hlt=>?_) (fun hge=>?_)
 ·have hlx:i<x.length:=by omega
  have hly:i<y.length:=by omega
  by_cases he:x[i]=y[i]
  ·simp -implicitDefEqProofs (disch:=first|omega|(simp only[LnZ];omega))[wrap64,Ra.B,Rb.B,he]
   exact hJ _ _ hlx ⟨rfl,rfl,take_step hq hlx hly he⟩
  ·simp -implicitDefEqProofs (disch:=first|omega|(simp only[LnZ];omega))[wrap64,Ra.B,Rb.B,he]
   exact RetK.keep (hk _ _ ⟨rfl,by congr 1;rw[eq_comm,decide_eq_false_iff_not];intro e;subst e;exact he rfl⟩)
 ·simp -implicitDefEqProofs (disch:=omega)[wrap64]
  rw[List.take_of_length_le (by omega),List.take_of_length_le (by omega)] at hq
  exact RetK.keep (hk _ _ ⟨rfl,by simp[hq]⟩)
theorem Rep.tail {α:Type} [Ty α] {h:Heap}{v:Value}{l:List α}(R:Rep h v l) {n esz:Nat}{k:IntKind}(hn:n≤l.length) (he:esz=Ty.sz α):∃v',sliceVV esz v (some (some (.int k n))) none none=some v'∧Rep h v' (l.drop n):=by
 subst he
 obtain⟨p,cap,rfl,h1,h2,h3⟩:=Rep_list.1 R
 have hl:(l.drop n).length=l.length-n:=by simp
 have hv:sliceVV (Ty.sz α) (.slice p l.length cap) (some (some (.int k n))) none none=some (Value.slice (if cap=n then p else p.map fun a=>a.add (n*Ty.sz α)) (l.length-n) (cap-n)):=by
  simp[sliceVV,bndV,hn]
 refine⟨_,hv,?_⟩
 by_cases e:n=l.length
 ·have hd:l.drop n=[]:=by rw[e];simp
  rw[hd,show l.length-n=0 by omega]
  exact Rep_list.2 ⟨_,cap-n,rfl,by simp,trivial,fun i hi=>by simp at hi⟩
 ·obtain⟨b,off,vs,rfl,_⟩:=h3 0 (by omega)
  rw[if_neg (by omega)]
  refine Rep_list.2 ⟨_,cap-n,by rw[hl],by rw[hl];omega,trivial,fun i hi=>?_⟩
  rw[hl] at hi
  obtain⟨b',off',vs,e1,e2,e3⟩:=h3 (n+i) (by omega)
  simp only[Option.some.injEq,Addr.mk.injEq] at e1
  obtain⟨rfl,rfl,_⟩:=e1
  refine⟨b,off+n*Ty.sz α,vs,by simp[Addr.add],?_,by simpa using e3⟩
  rw[Nat.add_mul,← Nat.add_assoc] at e2
  exact e2
namespace Fm
def LtW (W:List Int):Prop:=∀y∈W,0≤y∧y≤7
noncomputable def vdt (x y:Exq) (W:List Int):Int:=if (trA x).states W=[] then 2 else if (trA y).states W=[] then 1 else 0
structure Dual (x y:Exq):Prop where
 tx:trOk x
 ty:trOk y
 ax:(trA x).Ok
 ay:(trA y).Ok
 neg:∀w,sat w y 0↔¬sat w x 0
theorem Dual.symm {x y:Exq}(h:Dual x y):Dual y x:=⟨h.ty,h.tx,h.ay,h.ax,fun w=>by rw[h.neg];exact Classical.not_not.symm⟩
theorem Dual.bad {x y:Exq}(h:Dual x y) {W:List Int}(hW:LtW W):(trA x).states W=[]↔∀w,Lts w→Pre W w→¬sat w x 0:=bad_iff h.tx h.ax hW
theorem Dual.good {x y:Exq}(h:Dual x y) {W:List Int}(hW:LtW W):(trA y).states W=[]↔∀w,Lts w→Pre W w→sat w x 0:=by
 rw[bad_iff h.ty h.ay hW]
 constructor
 ·exact fun h1 w h2 h3=>Classical.not_not.1 fun h4=>h1 w h2 h3 ((h.neg w).2 h4)
 ·exact fun h1 w h2 h3 h4=>(h.neg w).1 h4 (h1 w h2 h3)
end Fm
namespace Fm
noncomputable def runs (x:Exq) (W:List Int):List Int:=(List.range (W.length+1)).map fun n=>vdt x (ngt x) (W.take n)
noncomputable def part (R:List Int) (i:Nat):List Int:=R.take i++List.replicate (R.length-i) 0
end Fm
theorem set_states {a:Aut}{B:List Bool}{V:List Int}(hl:B.length=a.acc.length) (hB:∀q,tru B q↔a.behind V q):true∈B↔¬a.states V=[]:=by
 constructor
 ·intro h e
  obtain⟨q,hq,he⟩:=List.mem_iff_getElem.1 h
  have:(q:Int)∈a.states V:=states_mem.2 ⟨q,rfl,by omega,(hB q).1 (by simp[tru,hq,he])⟩
  rw[e] at this
  simp at this
 ·intro h
  obtain⟨y,hy⟩:=List.exists_mem_of_ne_nil _ h
  obtain⟨q,rfl,h1,h2⟩:=states_mem.1 hy
  have h3:=(hB q).2 h2
  have hq:q<B.length:=by omega
  have:B[q]=true:=by simpa[tru,hq] using h3
  exact this▸List.getElem_mem hq
theorem c_Index_bool {h:Heap}{v:Value}{B:List Bool}(R:Rep h v B):CallE Tryz.prog fn_slices_Index_S_bool_bool [v,.bool true] h (fun u h'=>h'=h∧∃j:Int,u=.int .i64 j∧(0≤j↔true∈B)):=by
 have hL:=R.lt
 refine CallE.gen fun k hk=>EN_slices_Index_S_bool_bool rfl ?_
 simp -implicitDefEqProofs (disch:=first|omega|(simp only[LnZ];omega))[wrap64,R.len]
 refine wp_count B.length (fun i e h'=>e=[some v,some (.bool true),none,none,some (.int .i64 B.length),some (.int .i64 i)]∧h'=h∧∀(j:Nat) (hj:j<B.length),j<i→B[j]=false) ⟨rfl,rfl,fun j _ hj=>absurd hj (Nat.not_lt_zero j)⟩ ?_
 rintro J i _ _ hJ hi ⟨rfl,rfl,hall⟩
 simp -implicitDefEqProofs (disch:=omega)[wrap64]
 refine IteW.mk (fun hlt=>?_) (fun hge=>?_)
 ·have hlx:i<B.length:=by omega
  cases e:B[i] with
  | true=>
   simp -implicitDefEqProofs (disch:=first|omega|(simp only[LnZ];omega))[wrap64,R.B,e]
   exact RetK.keep (hk _ _ ⟨rfl,i,rfl,⟨fun _=>e▸List.getElem_mem hlx,fun _=>by omega⟩⟩)
  | false=>
   simp -implicitDefEqProofs (disch:=first|omega|(simp only[LnZ];omega))[wrap64,R.B,e]
   refine hJ _ _ hlx ⟨rfl,rfl,fun j hj hji=>?_⟩
   by_cases hji2:j=i
   ·subst hji2;exact e
   ·exact hall j hj (by omega)
 ·simp -implicitDefEqProofs (disch:=omega)[wrap64]
  refine RetK.keep (hk _ _ ⟨rfl,-1,rfl,⟨fun hh=>absurd hh (by omega),fun hm=>?_⟩⟩)
  obtain⟨j,hj,e⟩:=List.mem_iff_getElem.1 hm
  rw[hall j hj (by omega)] at e
  simp at e
theorem c_Contains_bool {h:Heap}{v:Value}{B:List Bool}(R:Rep h v B):CallE Tryz.prog fn_slices_Contains_S_bool_bool [v,.bool true] h (fun u h'=>h'=h∧u=.bool (decide (true∈B))):=by
 refine CallE.gen fun k hk=>EN_slices_Contains_S_bool_bool rfl ?_
 simp -implicitDefEqProofs (disch:=omega)[wrap64]
 refine (c_Index_bool R).go ?_
 rintro _ _ ⟨rfl,j,rfl,hj⟩
 by_cases q:true∈B
 ·have:=hj.2 q
  simp -implicitDefEqProofs (disch:=first|omega|(simp only[LnZ];omega))[wrap64,this]
  exact RetK.keep (hk _ _ ⟨rfl,by simp[q]⟩)
 ·have:¬0≤j:=fun hh=>q (hj.1 hh)
  simp -implicitDefEqProofs (disch:=first|omega|(simp only[LnZ];omega))[wrap64,this]
  exact RetK.keep (hk _ _ ⟨rfl,by simp[q]⟩)
namespace Fm
end Fm
section
variable {a:Aut}
theorem behind_snoc {W:List Int}{x:Int}:a.behind (W++[x])=a.aft (a.behind W) x:=by simp[Aut.behind]
theorem states_congr {V W:List Int}(h:a.states V=a.states W) (ha:a.Ok) (x:Int):a.states (V++[x])=a.states (W++[x]):=by
 have hm:∀q:Nat,q<a.acc.length→(a.behind V q↔a.behind W q):=fun q hq=>by
  have h1:(q:Int)∈a.states V↔(q:Int)∈a.states W:=by rw[h]
  rw[states_mem,states_mem] at h1
  constructor
  ·intro h2
   obtain⟨p,e,_,h3⟩:=h1.1 ⟨q,rfl,hq,h2⟩
   obtain rfl:q=p:=by omega
   exact h3
  ·intro h2
   obtain⟨p,e,_,h3⟩:=h1.2 ⟨q,rfl,hq,h2⟩
   obtain rfl:q=p:=by omega
   exact h3
 have hb:∀t,a.behind (V++[x]) t↔a.behind (W++[x]) t:=fun t=>by
  rw[behind_snoc,behind_snoc]
  unfold Aut.aft
  refine and_congr Iff.rfl ⟨?_,?_⟩
  ·rintro⟨e,he,h1,h2⟩
   obtain⟨f,g,k1,k2,k3,k4⟩:=ha.tr he
   rw[k1,Int.toNat_natCast] at h1
   exact⟨e,he,by rw[k1,Int.toNat_natCast];exact (hm f k3).1 h1,h2⟩
  ·rintro⟨e,he,h1,h2⟩
   obtain⟨f,g,k1,k2,k3,k4⟩:=ha.tr he
   rw[k1,Int.toNat_natCast] at h1
   exact⟨e,he,by rw[k1,Int.toNat_natCast];exact (hm f k3).2 h1,h2⟩
 unfold Aut.states
 congr 1
 funext q
 exact decide_eq_decide.2 (hb q)
end
namespace Sb
noncomputable def add (a:Aut) (L:List (List Int)) (W:List Int):List (List Int):=if a.states W∈L.map a.states then L else L++[W]
noncomputable def adds (a:Aut) (W:List Int):Nat→List (List Int)→List (List Int)
 | 0,L=>L
 | n+1,L=>add a (adds a W n L) (W++[(n:Int)])
noncomputable def run (a:Aut) (most:Int):Nat→Nat→List (List Int)→Option (List Int)
 | 0,_,_=>none
 | f+1,i,L=>if i<L.length∧L.length≤200 then
   (if a.states (L.getD i [])=[] then some (L.getD i []) else if most≤((L.getD i []).length:Int) then run a most f (i+1) L else run a most f (i+1) (adds a (L.getD i []) 8 L))
  else none
noncomputable def bad (a:Aut) (most:Int):Option (List Int):=if 0≤most then run a most 201 0 [[]] else none
section
variable {a:Aut}
structure AD (a:Aut) (W:List Int) (n:Nat) (L M:List (List Int)):Prop where
 pre:∃T,M=L++T∧∀x∈T,∃l:Nat,l<n∧x=W++[(l:Int)]
 all:∀l:Nat,l<n→∃x∈M,a.states x=a.states (W++[(l:Int)])∧(x∈L∨x.length=W.length+1)
theorem adds_ad {W:List Int}{L:List (List Int)}:∀n,AD a W n L (adds a W n L)
 | 0=>⟨⟨[],by simp[adds],fun x h=>by simp at h⟩,fun l h=>absurd h (Nat.not_lt_zero l)⟩
 | n+1=>by
  obtain⟨⟨T,hT,h1⟩,h2⟩:=adds_ad (W:=W) (L:=L) n
  unfold adds add
  have old:∀M':List (List Int),(∀x∈adds a W n L,x∈M')→(∃x∈M',a.states x=a.states (W++[(n:Int)])∧(x∈L∨x.length=W.length+1))→∀l:Nat,l<n+1→∃x∈M',a.states x=a.states (W++[(l:Int)])∧(x∈L∨x.length=W.length+1):=by
   intro M' hM hn l hl
   by_cases e:l=n
   ·subst e;exact hn
   ·obtain⟨x,g1,g2⟩:=h2 l (by omega)
    exact⟨x,hM x g1,g2⟩
  split
  ·rename_i h
   obtain⟨x,g1,g2⟩:=List.mem_map.1 h
   refine⟨⟨T,hT,fun x hx=>?_⟩,old _ (fun x h=>h) ⟨x,g1,g2,?_⟩⟩
   ·obtain⟨l,g1,g2⟩:=h1 x hx
    exact⟨l,by omega,g2⟩
   ·rw[hT] at g1
    rcases List.mem_append.1 g1 with g | g
    ·exact .inl g
    ·obtain⟨l,_,rfl⟩:=h1 x g
     exact .inr (by simp)
  ·refine⟨⟨T++[W++[(n:Int)]],by rw[hT,List.append_assoc],fun x hx=>?_⟩,old _ (fun x h=>List.mem_append_left _ h) ⟨_,List.mem_append_right _ (List.mem_singleton.2 rfl),rfl,.inr (by simp)⟩⟩
   rcases List.mem_append.1 hx with hx | hx
   ·obtain⟨l,g1,g2⟩:=h1 x hx
    exact⟨l,by omega,g2⟩
   ·rw[List.mem_singleton] at hx
    exact⟨n,by omega,hx⟩
structure Inv (a:Aut) (most:Int) (i:Nat) (L:List (List Int)):Prop where
 zero:L[0]? = some []
 le:∀x∈L,(x.length:Int)≤most
 lt:∀x∈L,∀y∈x,0≤y∧y≤7
 srt:L.Pairwise fun x y=>x.length≤y.length
 top:∀(j:Nat) x y,j≤i→L[j]? = some x→y∈L→j=i→y.length≤x.length+1
 top':∀(j:Nat) x y,i≤j→L[j]? = some x→y∈L→y.length≤x.length+1
 live:∀(j:Nat) x,j<i→L[j]? = some x→a.states x≠[]
 par:∀x∈L,x=[]∨∃(j:Nat) (V:List Int) (l:Int),j<i∧L[j]? = some V∧x=V++[l]
 ext:∀(j:Nat) V (l:Nat),j<i→L[j]? = some V→(V.length:Int)<most→l<8→∃x∈L,a.states x=a.states (V++[(l:Int)])∧x.length≤V.length+1
theorem Inv.init {most:Int}(h:0≤most):Inv a most 0 [[]]:=
 ⟨rfl,fun x hx=>by simp at hx;subst hx;simpa using h,fun x hx=>by simp at hx;subst hx;simp,by simp,fun j x y _ _ hy _=>by simp at hy;subst hy;simp,fun j x y _ _ hy=>by simp at hy;subst hy;simp,fun j _ hj=>absurd hj (Nat.not_lt_zero j),fun x hx=>.inl (by simpa using hx),fun j _ _ hj=>absurd hj (Nat.not_lt_zero j)⟩
theorem Inv.step {most:Int}{i:Nat}{L:List (List Int)}(h:Inv a most i L) {W:List Int}(hW:L[i]? = some W) (hne:a.states W≠[]):(most≤W.length→Inv a most (i+1) L)∧((W.length:Int)<most→Inv a most (i+1) (adds a W 8 L)):=by
 have hil:=(List.getElem?_eq_some_iff.1 hW).1
 have hWm:=List.mem_of_getElem? hW
 have up:∀(j:Nat) x,i≤j→L[j]? = some x→W.length≤x.length:=by
  intro j x hij hx
  obtain⟨h1,h2⟩:=List.getElem?_eq_some_iff.1 hW
  obtain⟨h3,h4⟩:=List.getElem?_eq_some_iff.1 hx
  by_cases e:i=j
  ·subst e;rw[hW] at hx;rw[Option.some.inj hx];exact Nat.le_refl _
  ·have:=List.pairwise_iff_getElem.1 h.srt i j h1 h3 (by omega)
   rw[h2,h4] at this
   exact this
 have live:∀(M:List (List Int)),(∀(j:Nat) x,j<i+1→M[j]? = some x→L[j]? = some x)→∀(j:Nat) x,j<i+1→M[j]? = some x→a.states x≠[]:=by
  intro M hM j x hj hx
  have:=hM j x hj hx
  by_cases e:j=i
  ·subst e;rw[hW] at this;rw[← Option.some.inj this];exact hne
  ·exact h.live j x (by omega) this
 constructor
 ·intro hm
  refine⟨h.zero,h.le,h.lt,h.srt,fun j x y _ hx hy e=>h.top' j x y (by omega) hx hy,fun j x y hj hx hy=>h.top' j x y (by omega) hx hy,live L (fun _ _ _ h=>h),fun x hx=>?_,fun j V l hj hV hl hl8=>?_⟩
  ·rcases h.par x hx with h1 | ⟨j,V,l,h1,h2⟩
   ·exact .inl h1
   ·exact .inr ⟨j,V,l,by omega,h2⟩
  ·by_cases e:j=i
   ·subst e;rw[hW] at hV;obtain rfl:=Option.some.inj hV;omega
   ·exact h.ext j V l (by omega) hV hl hl8
 ·intro hm
  obtain⟨⟨T,hT,h1⟩,h2⟩:=adds_ad (a:=a) (W:=W) (L:=L) 8
  have get:∀{j:Nat}{x},L[j]? = some x→(adds a W 8 L)[j]? = some x:=fun {j x} hx=>by
   rw[hT,List.getElem?_append_left (List.getElem?_eq_some_iff.1 hx).1];exact hx
  have back:∀{j:Nat}{x},j<L.length→(adds a W 8 L)[j]? = some x→L[j]? = some x:=fun {j x} hj hx=>by
   rw[hT,List.getElem?_append_left hj] at hx;exact hx
  have Tl:∀x∈T,x.length=W.length+1:=fun x hx=>by
   obtain⟨l,_,rfl⟩:=h1 x hx;simp
  have all:∀y∈adds a W 8 L,y.length≤W.length+1:=fun y hy=>by
   rw[hT] at hy
   rcases List.mem_append.1 hy with hy | hy
   ·exact h.top' i W y (Nat.le_refl _) hW hy
   ·rw[Tl y hy];exact Nat.le_refl _
  have up2:∀(j:Nat) x,i≤j→(adds a W 8 L)[j]? = some x→W.length≤x.length:=by
   intro j x hij hx
   by_cases hj:j<L.length
   ·exact up j x hij (back hj hx)
   ·rw[hT,List.getElem?_append_right (by omega)] at hx
    rw[Tl x (List.mem_of_getElem? hx)];omega
  refine⟨get h.zero,fun x hx=>?_,fun x hx=>?_,?_,fun j x y _ hx hy e=>?_,fun j x y hj hx hy=>?_,live _ fun j x hj hx=>back (by omega) hx,fun x hx=>?_,fun j V l hj hV hl hl8=>?_⟩
  ·rw[hT] at hx
   rcases List.mem_append.1 hx with hx | hx
   ·exact h.le x hx
   ·rw[Tl x hx];omega
  ·rw[hT] at hx
   rcases List.mem_append.1 hx with hx | hx
   ·exact h.lt x hx
   ·obtain⟨l,hl,rfl⟩:=h1 x hx
    intro y hy
    rcases List.mem_append.1 hy with hy | hy
    ·exact h.lt W hWm y hy
    ·rw[List.mem_singleton] at hy;omega
  ·rw[hT,List.pairwise_append]
   refine⟨h.srt,?_,fun x hx y hy=>by rw[Tl y hy];exact h.top' i W x (Nat.le_refl _) hW hx⟩
   exact List.Pairwise.imp_of_mem (R:=fun _ _=>True) (fun hx hy _=>by rw[Tl _ hx,Tl _ hy];exact Nat.le_refl _) (List.pairwise_of_forall fun _ _=>trivial)
  ·have h3:=all y hy
   have h4:=up2 j x (by omega) hx
   omega
  ·have h3:=all y hy
   have h4:=up2 j x (by omega) hx
   omega
  ·rw[hT] at hx
   rcases List.mem_append.1 hx with hx | hx
   ·rcases h.par x hx with h3 | ⟨j,V,l,h3,h4,h5⟩
    ·exact .inl h3
    ·exact .inr ⟨j,V,l,by omega,get h4,h5⟩
   ·obtain⟨l,hl,rfl⟩:=h1 x hx
    exact .inr ⟨i,W,l,by omega,get hW,rfl⟩
  ·by_cases e:j=i
   ·subst e
    have:=back hil hV
    rw[hW] at this
    obtain rfl:=Option.some.inj this
    obtain⟨x,g1,g2,g3⟩:=h2 l hl8
    exact⟨x,g1,g2,all x g1⟩
   ·have hV':=back (by omega) hV
    obtain⟨x,g1,g2,g3⟩:=h.ext j V l (by omega) hV' hl hl8
    exact⟨x,by rw[hT];exact List.mem_append_left _ g1,g2,g3⟩
structure Fd (a:Aut) (most:Int) (W:List Int):Prop where
 nil:a.states W=[]
 le:(W.length:Int)≤most
 lt:∀y∈W,0≤y∧y≤7
 pre:∀n,n<W.length→a.states (W.take n)≠[]
 least:∀V:List Int,(∀y∈V,0≤y∧y≤7)→V.length<W.length→a.states V≠[]
theorem Inv.found (ha:a.Ok) {most:Int}{i:Nat}{L:List (List Int)}(h:Inv a most i L) {W:List Int}(hW:L[i]? = some W) (hn:a.states W=[]):Fd a most W:=by
 have hWm:=List.mem_of_getElem? hW
 have idx:∀(k:Nat) x,L[k]? = some x→x.length<W.length→k<i:=by
  intro k x hk hx
  apply Classical.byContradiction
  intro hno
  obtain⟨h1,h2⟩:=List.getElem?_eq_some_iff.1 hW
  obtain⟨h3,h4⟩:=List.getElem?_eq_some_iff.1 hk
  by_cases e:i=k
  ·subst e;rw[hW] at hk;rw[Option.some.inj hk] at hx;omega
  ·have:=List.pairwise_iff_getElem.1 h.srt i k h1 h3 (by omega)
   rw[h2,h4] at this
   omega
 have hle:=h.le W hWm
 have least:∀V:List Int,(∀y∈V,0≤y∧y≤7)→V.length<W.length→a.states V≠[]:=by
  intro V hV hlt
  have key:∀n,n≤V.length→∃(k:Nat) (x:List Int),L[k]? = some x∧a.states x=a.states (V.take n)∧x.length≤n:=by
   intro n
   induction n with
   | zero=>intro _;exact⟨0,[],h.zero,by simp,by simp⟩
   | succ n ih=>
    intro hnl
    obtain⟨k,x,g1,g2,g3⟩:=ih (by omega)
    have hk:=idx k x g1 (by omega)
    have hv:=hV _ (List.getElem_mem (show n<V.length by omega))
    obtain⟨l,hl⟩:∃l:Nat,V[n]=l:=⟨V[n].toNat,by omega⟩
    obtain⟨y,g4,g5,g6⟩:=h.ext k x l hk g1 (by omega) (by omega)
    obtain⟨k',hk',rfl⟩:=List.mem_iff_getElem.1 g4
    refine⟨k',_,List.getElem?_eq_getElem hk',?_,by omega⟩
    rw[g5,states_congr g2 ha,List.take_add_one,List.getElem?_eq_getElem (show n<V.length by omega),← hl]
    rfl
  obtain⟨k,x,g1,g2,g3⟩:=key V.length (Nat.le_refl _)
  rw[List.take_length] at g2
  rw[← g2]
  exact h.live k x (idx k x g1 (by omega)) g1
 exact⟨hn,hle,h.lt W hWm,fun n hlt=>least _ (fun y hy=>h.lt W hWm y (List.mem_of_mem_take hy)) (by rw[List.length_take];omega),least⟩
theorem run_fd (ha:a.Ok) {most:Int}{W:List Int}:∀(f i:Nat) (L:List (List Int)),Inv a most i L→run a most f i L=some W→Fd a most W
 | 0,_,_,_,h=>by simp[run] at h
 | f+1,i,L,hI,h=>by
  rw[run] at h
  split at h
  case isFalse=>simp at h
  rename_i hc
  have hg:L[i]? = some (L.getD i []):=by rw[List.getElem?_eq_getElem hc.1];simp[hc.1]
  split at h
  ·rename_i hn
   rw[Option.some.injEq] at h
   rw[← h]
   exact hI.found ha hg hn
  ·rename_i hn
   obtain⟨s1,s2⟩:=hI.step hg hn
   split at h
   ·rename_i hm;exact run_fd ha f _ _ (s1 hm) h
   ·rename_i hm;exact run_fd ha f _ _ (s2 (by omega)) h
theorem bad_fd (ha:a.Ok) {most:Int}{W:List Int}(h:bad a most=some W):Fd a most W:=by
 unfold bad at h
 split at h
 ·rename_i h0;exact run_fd ha _ _ _ (Inv.init h0) h
 ·simp at h
end
end Sb
noncomputable def bset (a:Aut) (W:List Int):List Bool:=(List.range a.acc.length).map fun q=>@decide (a.behind W q) (Classical.propDecidable _)
theorem bset_len {a:Aut}{W:List Int}:(bset a W).length=a.acc.length:=by simp[bset]
theorem bset_tru {a:Aut}{W:List Int}(hb:∀q,a.behind W q→q<a.acc.length) (q:Nat):tru (bset a W) q↔a.behind W q:=by
 unfold tru
 by_cases hq:q<a.acc.length
 ·have h1:q<(bset a W).length:=by rw[bset_len];exact hq
  rw[getD_some h1]
  simp[bset]
 ·have h1:(bset a W).length≤q:=by rw[bset_len];omega
  constructor
  ·intro h;simp[h1] at h
  ·intro h;exact absurd (hb q h) hq
theorem bset_eq {a:Aut}{W:List Int}{B:List Bool}(hl:B.length=a.acc.length) (hB:∀q,tru B q↔a.behind W q):B=bset a W:=by
 refine List.ext_getElem (by rw[hl,bset_len]) fun q h1 h2=>?_
 have:=hB q
 unfold tru at this
 rw[getD_some h1] at this
 rw[Bool.eq_iff_iff,this]
 simp[bset]
theorem bset_states {a:Aut}{V W:List Int}:bset a V=bset a W↔a.states V=a.states W:=by
 constructor
 ·intro h
  unfold Aut.states
  have hp:∀q,q<a.acc.length→(a.behind V q↔a.behind W q):=by
   intro q hq
   have h1:(bset a V)[q]'(by rw[bset_len];exact hq)=(bset a W)[q]'(by rw[bset_len];exact hq):=by simp only[h]
   simpa[bset] using h1
  refine Aut.states_eq (a:=a) (w:=W) (l:=a.states V) Aut.states_incr fun q=>?_
  rw[states_mem]
  constructor
  ·rintro⟨p,e,h1,h2⟩
   obtain rfl:q=p:=by omega
   exact⟨h1,(hp q h1).1 h2⟩
  ·rintro⟨h1,h2⟩
   exact⟨q,rfl,h1,(hp q h1).2 h2⟩
 ·intro h
  have hm:∀q:Nat,q<a.acc.length→(a.behind V q↔a.behind W q):=fun q hq=>by
   have h1:(q:Int)∈a.states V↔(q:Int)∈a.states W:=by rw[h]
   rw[states_mem,states_mem] at h1
   constructor
   ·intro h2
    obtain⟨p,e,_,h3⟩:=h1.1 ⟨q,rfl,hq,h2⟩
    obtain rfl:q=p:=by omega
    exact h3
   ·intro h2
    obtain⟨p,e,_,h3⟩:=h1.2 ⟨q,rfl,hq,h2⟩
    obtain rfl:q=p:=by omega
    exact h3
  unfold bset
  refine List.map_congr_left fun q hq=>?_
  exact decide_eq_decide.2 (hm q (List.mem_range.1 hq))
theorem c_IndexFunc_set {h:Heap}{a fv:Value}{l:List (List Bool)}{x:List Bool}(Ra:Rep h a l) {f:FuncId}{c1 c2:List Value}(hf:fnOf fv=some (f,c1,c2))
  (hp:∀(i:Nat) (hi:i<l.length) (u:Value),Rep h u l[i]→CallE Tryz.prog f (c1++u::c2) h (fun r h'=>h'=h∧r=.bool (decide (l[i]=x)))) :
  CallE Tryz.prog fn_slices_IndexFunc_S_S_bool_S_bool [a,fv] h (fun r h'=>h'=h∧∃j:Int,r=.int .i64 j∧(0≤j↔x∈l)):=by
 refine CallE.gen fun k hk=>EN_slices_IndexFunc_S_S_bool_S_bool rfl ?_
 have hL:=Ra.lt
 simp -implicitDefEqProofs (disch:=first|omega|(simp only[LnZ];omega))[wrap64,Ra.len]
 refine wp_count l.length (fun i e h'=>e=[some a,some fv,none,none,some (.int .i64 l.length),some (.int .i64 i)]∧h'=h∧∀(j:Nat) (hj:j<l.length),j<i→l[j]≠x) ⟨rfl,rfl,fun j _ hj=>absurd hj (Nat.not_lt_zero j)⟩ ?_
 rintro J i _ h hJ hi ⟨rfl,rfl,hall⟩
 simp -implicitDefEqProofs (disch:=omega)[wrap64]
 refine IteW.mk (fun hlt=>?_) (fun hge=>?_)
 ·have hlx:i<l.length:=by omega
  obtain⟨u,hu,Ru⟩:=Ra.ldL hlx
  simp -implicitDefEqProofs (disch:=first|omega|(simp only[LnZ];omega))[wrap64,Ra.X (n:=1) rfl,hu,hf]
  refine (hp i hlx u Ru).go ?_
  rintro _ h ⟨rfl,rfl⟩
  by_cases e:l[i]=x
  ·simp -implicitDefEqProofs (disch:=first|omega|(simp only[LnZ];omega))[wrap64,e]
   exact RetK.keep (hk _ _ ⟨rfl,i,rfl,⟨fun _=>e▸List.getElem_mem hlx,fun _=>by omega⟩⟩)
  ·simp -implicitDefEqProofs (disch:=first|omega|(simp only[LnZ];omega))[wrap64,e]
   refine hJ _ _ hlx ⟨rfl,rfl,fun j hj hji=>?_⟩
   by_cases hji2:j=i
   ·subst hji2;exact e
   ·exact hall j hj (by omega)
 ·simp -implicitDefEqProofs (disch:=omega)[wrap64]
  refine RetK.keep (hk _ _ ⟨rfl,-1,rfl,⟨fun hh=>absurd hh (by omega),fun hm=>?_⟩⟩)
  obtain⟨j,hj,e⟩:=List.mem_iff_getElem.1 hm
  exact absurd e (hall j hj (by omega))
theorem c_ContainsFunc_set {h:Heap}{a fv:Value}{l:List (List Bool)}{x:List Bool}(Ra:Rep h a l) {f:FuncId}{c1 c2:List Value}(hf:fnOf fv=some (f,c1,c2))
  (hp:∀(i:Nat) (hi:i<l.length) (u:Value),Rep h u l[i]→CallE Tryz.prog f (c1++u::c2) h (fun r h'=>h'=h∧r=.bool (decide (l[i]=x)))) :
  CallE Tryz.prog fn_slices_ContainsFunc_S_S_bool_S_bool [a,fv] h (fun r h'=>h'=h∧r=.bool (decide (x∈l))):=by
 refine CallE.gen fun k hk=>EN_slices_ContainsFunc_S_S_bool_S_bool rfl ?_
 simp -implicitDefEqProofs (disch:=omega)[wrap64]
 refine (c_IndexFunc_set Ra hf hp).go ?_
 rintro _ h ⟨rfl,j,rfl,hj⟩
 by_cases q:x∈l
 ·have:=hj.2 q
  simp -implicitDefEqProofs (disch:=first|omega|(simp only[LnZ];omega))[wrap64,this]
  exact RetK.keep (hk _ _ ⟨rfl,by simp[q]⟩)
 ·have:¬0≤j:=fun hh=>q (hj.1 hh)
  simp -implicitDefEqProofs (disch:=first|omega|(simp only[LnZ];omega))[wrap64,this]
  exact RetK.keep (hk _ _ ⟨rfl,by simp[q]⟩)
theorem c_sb_1 {h:Heap}{u v:Value}{b:Nat}{x y:List Bool}(Ru:Rep h u x) (hb:hload h (some (.pointer (some ⟨b,0,none⟩))) none=some v) (Rv:Rep h v y):CallE Tryz.prog fn_impl_ShortestBad_1 [u,.pointer (some ⟨b,0,none⟩)] h (fun r h'=>h'=h∧r=.bool (decide (x=y))):=by
 refine CallE.gen fun k hk=>EN_impl_ShortestBad_1 rfl ?_
 simp -implicitDefEqProofs (disch:=first|omega|(simp only[LnZ];omega))[wrap64,hb]
 refine (c_Equal_bool Ru Rv).go ?_
 rintro _ _ ⟨rfl,rfl⟩
 simp -implicitDefEqProofs (disch:=omega)[wrap64]
 exact RetK.keep (hk _ _ ⟨rfl,rfl⟩)
theorem behind_lt {a:Aut}(ha:a.Ok) (W:List Int) (q:Nat) (hq:a.behind W q):q<a.acc.length:=by
 by_cases hW:W=[]
 ·subst hW
  have h1:a.beg q:=hq
  have h2:=incr_mem ha.2.2.1 _ h1.1
  omega
 ·rw[← List.dropLast_concat_getLast hW,behind_snoc] at hq
  obtain⟨_,e,he,_,h1,_⟩:=hq
  obtain⟨f,g,k1,k2,k3,k4⟩:=ha.tr he
  omega
noncomputable def sbR (x:Exq) (most:Int):Option (List Int):=if Fm.trOk x then Sb.bad (Fm.trA x) most else none
theorem adds_len {a:Aut}{W:List Int}{L:List (List Int)}:∀n,(Sb.adds a W n L).length≤L.length+n
 | 0=>Nat.le_refl _
 | n+1=>by
  have ih:=adds_len (a:=a) (W:=W) (L:=L) n
  unfold Sb.adds Sb.add
  split
  ·omega
  ·simp;omega
set_option maxHeartbeats 2000000 in
theorem c_ShortestBad {h:Heap}{v:Value}{x:Exq}{most:Int}(R:Rep h v x) (hmo:I64 most):CallE Tryz.prog fn_impl_ShortestBad [v,.int .i64 most] h (fun u h'=>∃w,u=.tuple #[w,.bool (sbR x most).isSome]∧HS h [ow w ((sbR x most).getD [])] h'):=by
 have FX:=R.aExq
 refine CallE.gen fun k hk=>EN_impl_ShortestBad rfl ?_
 simp -implicitDefEqProofs (disch:=first|omega|(simp only[LnZ];omega))[wrap64,FX]
 refine (c_TranslateFormula R).go ?_
 rintro _ h1 ⟨wa,rfl,H⟩
 have FA:=H.rep.aAut
 by_cases q0:Fm.trOk x
 case neg=>
  rw[sbR,if_neg q0] at hk
  simp -implicitDefEqProofs (disch:=first|omega|(simp only[LnZ];omega))[wrap64,q0,FA,setC]
  exact RetK.keep (hk _ _ ⟨_,rfl,HS.nil_ow (Γ:=[]) H.base⟩)
 rw[sbR,if_pos q0] at hk
 unfold Sb.bad at hk
 by_cases q1:most<0
 ·rw[if_neg (by omega)] at hk
  simp -implicitDefEqProofs (disch:=first|omega|(simp only[LnZ];omega))[wrap64,q0,q1,FA,setC]
  exact RetK.keep (hk _ _ ⟨_,rfl,HS.nil_ow (Γ:=[]) H.base⟩)
 rw[if_pos (by omega)] at hk
 rw[Fm.trR,if_pos q0] at H
 have ha:=Fm.trA_ok q0
 generalize Fm.trA x=a at *
 simp -implicitDefEqProofs (disch:=first|omega|(simp only[LnZ];omega))[wrap64,q0,q1,FA,setC]
 refine (c_live H.rep ha).go ?_
 rintro lw h2 ⟨L0,H2,hLl,hL⟩
 have H:=H2.app H
 simp -implicitDefEqProofs (disch:=omega)[wrap64]
 refine (HS.nil_ow (α:=Int) H).blsO1 rfl fun ws h3 H=>?_
 simp -implicitDefEqProofs (disch:=first|omega|(simp only[LnZ];omega))[wrap64,FA]
 refine (c_begin H.sw2.rep H.sw1.rep ha hLl hL).go ?_
 rintro bw h4 ⟨B,H4,hBl,hB⟩
 have H:=H4.app H
 obtain rfl:=bset_eq (W:=[]) hBl hB
 obtain⟨p0,c0,hbw,_⟩:=Rep_list.1 H.rep
 subst hbw
 simp -implicitDefEqProofs (disch:=first|omega|(simp only[LnZ];omega))[wrap64,setC]
 refine H.blsO1 rfl fun ss h5 H=>?_
 have H:HS h ([ow ss [bset a []],ow ws [([]:List Int)]]++[ow lw L0,ow wa a]) h5:=H
 obtain⟨g1,H1,H⟩:=H.rebase
 have RL:=H1.rep
 have RA:=H1.sw1.rep
 have lg:=H1.base
 simp -implicitDefEqProofs (disch:=omega)[wrap64]
 refine wp_count 201 (fun i e h'=>∃ws ss L,e=[none,some (.int .i64 most),none,none,none,some wa,none,some lw,some ws,some ss,some (.int .i64 i),none,none,none]∧HS g1 [ow ss (L.map (bset a)),ow ws L] h'∧L.length≤1+8*i∧(∀w∈L,w.length≤i) ∧
  Sb.run a most (201-i) i L=Sb.run a most 201 0 [[]]) ⟨ws,ss,[[]],by simp,H,by simp,by simp,rfl⟩ ?_
 clear H
 rintro J i _ h6 hJ hi ⟨ws,ss,L,rfl,H,hLb,hLw,hrun⟩
 have hcm:=H.rep.len
 rw[List.length_map] at hcm
 by_cases q2:i<L.length
 case neg=>
  have hn:Sb.run a most (201-i) i L=none:=by
   cases e:201-i with
   | zero=>rfl
   | succ f=>rw[Sb.run,if_neg (fun hh=>q2 hh.1)]
  rw[← hrun,hn] at hk
  simp -implicitDefEqProofs (disch:=first|omega|(simp only[LnZ];omega))[wrap64,H.sw1.rep.len,q2]
  exact RetK.keep (hk _ _ ⟨_,rfl,HS.nil_ow (Γ:=[]) (lg.trans H.base)⟩)
 by_cases q3:200<L.length
 ·have hn:Sb.run a most (201-i) i L=none:=by
   cases e:201-i with
   | zero=>rfl
   | succ f=>rw[Sb.run,if_neg (fun hh=>by omega)]
  rw[← hrun,hn] at hk
  have q3i:(200:Int)<L.length:=by omega
  simp -implicitDefEqProofs (disch:=first|omega|(simp only[LnZ];omega))[wrap64,H.sw1.rep.len,q2,q3,q3i]
  exact RetK.keep (hk _ _ ⟨_,rfl,HS.nil_ow (Γ:=[]) (lg.trans H.base)⟩)
 have q3i:¬(200:Int)<L.length:=by omega
 obtain⟨f,hf⟩:∃f,201-i=f+1:=⟨200-i,by omega⟩
 have hgd:L.getD i []=L[i]:=getD_some q2
 rw[hf,Sb.run,if_pos ⟨q2,by omega⟩,hgd] at hrun
 obtain⟨su,hsu,Rsu⟩:=H.rep.ldL (i:=i) (by simpa using q2)
 obtain⟨wu,hwu,Rwu⟩:=H.sw1.rep.ldL q2
 rw[List.getElem_map] at Rsu
 have hX1:=H.rep.X (n:=1) rfl
 rw[List.length_map] at hX1
 have hX2:=H.sw1.rep.X (n:=1) rfl
 have hbt:=bset_tru (behind_lt ha L[i])
 have hst:=set_states bset_len hbt
 have hwl:=hLw _ (List.getElem_mem q2)
 simp -implicitDefEqProofs (disch:=first|omega|(simp only[LnZ];omega))[wrap64,H.sw1.rep.len,q2,q3,q3i,hX1,hsu]
 refine (c_Contains_bool Rsu).go ?_
 rintro _ h6 ⟨rfl,rfl⟩
 by_cases q4:a.states L[i]=[]
 ·have q4':¬true∈bset a L[i]:=fun hh=>hst.1 hh q4
  rw[if_pos q4] at hrun
  rw[← hrun] at hk
  simp -implicitDefEqProofs (disch:=first|omega|(simp only[LnZ];omega))[wrap64,q4',hX2,hwu]
  refine (c_clone_int Rwu (by omega)).go ?_
  intro cw h7 G
  simp -implicitDefEqProofs (disch:=omega)[wrap64]
  exact RetK.keep (hk _ _ ⟨cw,rfl,HS.app (Γ:=[]) G (lg.trans H.base)⟩)
 have q4':true∈bset a L[i]:=hst.2 q4
 rw[if_neg q4] at hrun
 by_cases q5:most≤(L[i].length:Int)
 ·rw[if_pos q5] at hrun
  simp -implicitDefEqProofs (disch:=first|omega|(simp only[LnZ];omega))[wrap64,q4',hX2,hwu,Rwu.len,q5]
  exact hJ _ _ (by omega) ⟨ws,ss,L,by simp,H,by omega,fun w hw=>by have:=hLw w hw;omega,by rw[show 201-(i+1)=f by omega];exact hrun⟩
 rw[if_neg q5] at hrun
 have hrl:L.length≤200:=by omega
 simp -implicitDefEqProofs (disch:=first|omega|(simp only[LnZ];omega))[wrap64,q4',hX2,hwu,Rwu.len,q5]
 refine wp_count 8 (fun n e h'=>∃ws ss,e=[none,some (.int .i64 most),none,none,none,some wa,none,some lw,some ws,some ss,some (.int .i64 i),none,none,some (.int .i64 n)]∧HS g1 [ow ss ((Sb.adds a L[i] n L).map (bset a)),ow ws (Sb.adds a L[i] n L)] h') ⟨ws,ss,by simp,H⟩ ?_
 clear H hsu hwu hX1 hX2 Rsu Rwu hcm
 rintro J2 n _ h7 hJ2 hn ⟨ws,ss,rfl,H⟩
 obtain⟨⟨T,hT,hT2⟩,_⟩:=Sb.adds_ad (a:=a) (W:=L[i]) (L:=L) n
 have hMl:=adds_len (a:=a) (W:=L[i]) (L:=L) n
 have hMi:(Sb.adds a L[i] n L)[i]? = some L[i]:=by rw[hT,List.getElem?_append_left q2,List.getElem?_eq_getElem q2]
 have hsuc:Sb.adds a L[i] (n+1) L=Sb.add a (Sb.adds a L[i] n L) (L[i]++[(n:Int)]):=rfl
 have hall:∀w∈Sb.adds a L[i] n L,w.length≤i+1:=fun w hw=>by
  rw[hT] at hw
  rcases List.mem_append.1 hw with hw | hw
  ·have:=hLw w hw;omega
  ·obtain⟨l,_,rfl⟩:=hT2 w hw
   simp;omega
 simp -implicitDefEqProofs (disch:=omega)[wrap64]
 refine IteW.mk (fun hlt=>?_) (fun hge=>?_)
 ·have hnx:n<8:=by omega
  generalize Sb.adds a L[i] n L=M at *
  obtain⟨hiM,hMe⟩:=List.getElem?_eq_some_iff.1 hMi
  obtain⟨su,hsu,Rsu⟩:=H.rep.ldL (i:=i) (by simpa using hiM)
  rw[List.getElem_map,hMe] at Rsu
  have hX1:=H.rep.X (n:=1) rfl
  rw[List.length_map] at hX1
  have main:∀{h8:Heap}{b12:Nat}{cw:Value}{q14 q15 q16 q17 q18 q19 q20 q21:Option Value},HS g1 [ow cw (bset a (L[i]++[(n:Int)])),bx b12 [cw],ow ss (M.map (bset a)),ow ws M] h8→K19_12.wp Tryz.prog (blockQ 3 (seqQ Tryz.prog K19_3 (loopQ 14 [0,2,3,4,6,11,12] J2 (blockQ 2 (blockQ 1 (seqQ Tryz.prog K19_2 (loopQ 14 [0,2,3,4,6,11,12,13] J (blockQ 0 (seqQ Tryz.prog K19_1 (retQ [(3,none),(4,none)] k)))))))))) [none,some (.int .i64 most),none,none,none,some wa,none,some lw,some ws,some ss,some (.int .i64 i),some (.int .i64 n),some (.pointer (some ⟨b12,0,none⟩)),some (.int .i64 n),q14,q15,q16,q17,q18,q19,q20,q21] h8:=by
   intro h8 b12 cw q14 q15 q16 q17 q18 q19 q20 q21 H
   have hcb:=H.sw1.bxld0
   have hRc:=H.rep
   simp -implicitDefEqProofs (disch:=omega)[wrap64]
   refine (c_ContainsFunc_set (x:=bset a (L[i]++[(n:Int)])) H.sw2.rep (f:=fn_impl_ShortestBad_1) (c1:=[]) (c2:=[.pointer (some ⟨b12,0,none⟩)]) rfl fun j hj u Ru=>c_sb_1 Ru hcb hRc).go ?_
   rintro _ h8 ⟨rfl,rfl⟩
   have hmem:bset a (L[i]++[(n:Int)])∈M.map (bset a)↔a.states (L[i]++[(n:Int)])∈M.map a.states:=by
    simp only[List.mem_map,bset_states]
   by_cases q6:bset a (L[i]++[(n:Int)])∈M.map (bset a)
   ·rw[Sb.add,if_pos (hmem.1 q6)] at hsuc
    simp -implicitDefEqProofs (disch:=first|omega|(simp only[LnZ];omega))[wrap64,q6]
    exact hJ2 _ _ hnx ⟨ws,ss,by simp,by rw[hsuc];exact H.drop.drop⟩
   ·rw[Sb.add,if_neg (fun hh=>q6 (hmem.2 hh))] at hsuc
    obtain⟨wu,hwu,Rwu⟩:=H.sw3.rep.ldL hiM
    rw[hMe] at Rwu
    have hX2:=H.sw3.rep.X (n:=1) rfl
    simp -implicitDefEqProofs (disch:=first|omega|(simp only[LnZ];omega))[wrap64,q6,hX2,hwu]
    refine (c_clone_int Rwu (by omega)).go ?_
    intro kw h9 G
    have H:=G.app H
    simp -implicitDefEqProofs (disch:=first|omega|(simp only[LnZ];omega))[wrap64,setC]
    refine HS.app1 (bytes:=8) H (n:Int) rfl rfl rfl ⟨by omega,by omega⟩ rfl rfl (by omega) (by omega) fun kw' h10 H=>?_
    have H:HS g1 [ow kw' (L[i]++[(n:Int)]),ow cw (bset a (L[i]++[(n:Int)])),bx b12 [cw],ow ss (M.map (bset a)),ow ws M] h10:=H
    have hc1:=H.rep.cells
    simp -implicitDefEqProofs (disch:=first|omega|(simp only[LnZ];omega))[wrap64,setC,hc1,H.rep.one]
    refine HS.appO (bytes:=24) (H.sw4.sw1) rfl rfl (by rw[hc1]) rfl rfl (by omega) (by omega) fun ws' h11 H=>?_
    have H:HS g1 [ow ws' (M++[L[i]++[(n:Int)]]),ow cw (bset a (L[i]++[(n:Int)])),bx b12 [cw],ow ss (M.map (bset a))] h11:=H
    have hc2:=H.sw1.rep.cells
    simp -implicitDefEqProofs (disch:=first|omega|(simp only[LnZ];omega))[wrap64,setC,hc2,H.sw1.rep.one,H.sw2.bxld0]
    refine HS.appO (bytes:=24) (H.sw3.sw2) rfl rfl (by rw[hc2]) rfl rfl (by simp;omega) (by simp;omega) fun ss' h12 H=>?_
    simp -implicitDefEqProofs (disch:=omega)[wrap64]
    refine hJ2 _ _ hnx ⟨ws',ss',by simp,?_⟩
    rw[hsuc,List.map_append]
    exact H.under fun _ H=>H.under fun _ H=>H.drop
  have M1:=fun {h8}{b12}{cw} q14 q15 q16 q17 q18 q19 q20 q21=>main (h8:=h8) (b12:=b12) (cw:=cw) (q14:=q14) (q15:=q15) (q16:=q16) (q17:=q17) (q18:=q18) (q19:=q19) (q20:=q20) (q21:=q21)
  simp -implicitDefEqProofs (disch:=first|omega|(simp only[LnZ];omega))[wrap64,FA,hX1,hsu]
  refine⟨?_,?_⟩
  ·simp -implicitDefEqProofs (disch:=omega)[wrap64]
   refine (c_after (RA.on H) (RL.on H) Rsu ha hLl bset_len hL).go ?_
   rintro cw h8 ⟨B',H8,hBl',hB'⟩
   have eB:B'=bset a (L[i]++[(n:Int)]):=bset_eq hBl' fun q=>by
    rw[hB',behind_snoc,show tru (bset a L[i])=a.behind L[i] from funext fun q=>propext (hbt q)]
   subst eB
   have hsu2:=hload_le H8.base hsu
   have H:=H8.app H
   simp -implicitDefEqProofs (disch:=omega)[wrap64]
   refine (HS.init (h:=h8)).alloc rfl fun b12 h9 H9=>?_
   have hsu3:=hload_le H9.base hsu2
   have H:=H9.app H
   simp -implicitDefEqProofs (disch:=first|omega|(simp only[LnZ];omega))[wrap64,hsu3]
   refine H.bxst (u:=cw) rfl rfl (by rw[H.sw1.rep.cells];rfl) (by rw[H.sw1.rep.cells];simp[H.sw1.rep.one]) (by simp[H.sw1.rep.cells]) fun h10 H=>?_
   have H:HS g1 [bx b12 [cw],ow cw (bset a (L[i]++[(n:Int)])),ow ss (M.map (bset a)),ow ws M] h10:=by simpa[setC,H.sw1.rep.cells] using H
   have M1:=fun q14 q15 q16 q17 q18 q19 q20 q21=>M1 q14 q15 q16 q17 q18 q19 q20 q21 H.sw1
   simp -implicitDefEqProofs (disch:=omega)[wrap64] at M1
   simp -implicitDefEqProofs (disch:=omega)[wrap64]
   exact M1
  ·simp -implicitDefEqProofs (disch:=omega)[wrap64]
   refine (HS.init (h:=h7)).alloc rfl fun b12 h8 H8=>?_
   have hsu2:=hload_le H8.base hsu
   have Rsu2:=Rsu.on H8
   have H:=H8.app H
   simp -implicitDefEqProofs (disch:=first|omega|(simp only[LnZ];omega))[wrap64,hsu2]
   refine (c_after (RA.on H) (RL.on H) Rsu2 ha hLl bset_len hL).go ?_
   rintro cw h9 ⟨B',H9,hBl',hB'⟩
   have eB:B'=bset a (L[i]++[(n:Int)]):=bset_eq hBl' fun q=>by
    rw[hB',behind_snoc,show tru (bset a L[i])=a.behind L[i] from funext fun q=>propext (hbt q)]
   subst eB
   have H:=H9.app H
   simp -implicitDefEqProofs (disch:=omega)[wrap64]
   refine H.sw1.bxst (u:=cw) rfl rfl (by rw[H.rep.cells];rfl) (by rw[H.rep.cells];simp[H.rep.one]) (by simp[H.rep.cells]) fun h10 H=>?_
   have H:HS g1 [bx b12 [cw],ow cw (bset a (L[i]++[(n:Int)])),ow ss (M.map (bset a)),ow ws M] h10:=by simpa[setC,H.sw1.rep.cells] using H
   have M1:=fun q14 q15 q16 q17 q18 q19 q20 q21=>M1 q14 q15 q16 q17 q18 q19 q20 q21 H.sw1
   simp -implicitDefEqProofs (disch:=omega)[wrap64] at M1
   simp -implicitDefEqProofs (disch:=omega)[wrap64]
   exact M1
 ·obtain rfl:n=8:=by omega
  simp -implicitDefEqProofs (disch:=omega)[wrap64]
  refine hJ _ _ (by omega) ⟨ws,ss,_,by simp,H,by omega,hall,by rw[show 201-(i+1)=f by omega];exact hrun⟩
section
variable {α:Type} [Ty α] {P:Program}{k:Env→Heap→Prop}{e:Env}{h g r:Heap}{Γ:List HP}{v:Value}{l:List α}
theorem a_appK {bytes esz:Nat}{zero:List Value}{a:O}{b:AO}{dst:Nat}{cs:List Value}(O:Own r v l) (ha:a.get e=some v) (hs:b.src h e esz=some (1,cs)) (hcs:cs.length=Ty.sz α) (hcell:cs.all Value.oneCell'=true)
  (d:Dj g r) (hh:h=g.add r) (hsz:esz=Ty.sz α) (hb:(l.length+1)*bytes≤140737488355328) (hn:l.length+1<2^62)
  (K:∀v' r',Dj g r'→Own r' v l→k (eset e dst (some v')) (g.add r')):(A.ex (some dst) (.app bytes esz zero (.o a) b)).wp P k e h:=by
 subst hsz
 refine⟨1,cs,hs,?_⟩
 have O0:=O
 rcases Own_list.1 O with ⟨p,rfl,rfl,rfl,hp⟩ | ⟨bb,off,cap,cells,el,r',rfl,⟨h1,hM⟩,h2,rfl,h4,h5⟩
 ·refine⟨p,0,0,ha,fun h1=>absurd h1 (by omega),fun h1=>⟨0,[],?_,growslice_fits h1 (by simpa using hb),by simpa using hn,?_⟩⟩
  ·rcases hp with rfl | ⟨b',o',rfl⟩
   ·rfl
   ·simp[srcV,hcells]
  ·intro b' el c hb' hc
   subst hh
   rw[set_new hb']
   exact Fgt.drop (le_add (Dj_one.2 hb')) (K _ _ d O0)
 ·have hbk:(g.add ((Heap.one bb (.cells cells.toArray el (0,0))).add r')) bb=some (.cells cells.toArray el (0,0)):=by
   have:=Dj_one.1 (Dj_add.1 d).1
   simp[Heap.add,Heap.one,this,h4]
  obtain⟨d3,d4⟩:=Dj_add.1 d
  have hll:=ownL_len h5
  have hfit:l.length*Ty.sz α≤cap*Ty.sz α:=Nat.mul_le_mul_right _ h1
  refine⟨_,l.length,cap,ha,?_,?_⟩
  ·intro hle
   right
   have hf2:l.length*Ty.sz α+Ty.sz α≤cap*Ty.sz α:=by rw[← Nat.succ_mul];exact Nat.mul_le_mul_right _ hle
   refine⟨g.add ((Heap.one bb (.cells (setC cells (off+l.length*Ty.sz α) cs).toArray el (0,0))).add r'),?_,Fgt.keep ?_⟩
   ·unfold hstore
    rw[hh,hbk]
    simp only
    rw[if_pos (by refine⟨trivial,?_,hcell⟩;simp[hcs];omega),add_one_set (Dj_one.1 d3) h4]
   ·refine K _ _ (Dj_add.2 ⟨Dj_one.2 (Dj_one.1 d3),d4⟩) ?_
    refine Own_list.2 (.inr ⟨bb,off,cap,_,el,r',rfl,⟨h1,hM⟩,?_,rfl,h4,?_⟩)
    ·rw[setC_length (by rw[hcs];omega)];exact h2
    ·rw[drop_setC (by rw[hcs];omega)]
     refine ownL_congr h5 ?_
     unfold setC
     rw[List.append_assoc,List.take_append_of_le_length (by simp;omega),List.take_take,Nat.min_self]
  ·intro hlt
   refine⟨l.length,(cells.drop off).take (l.length*Ty.sz α),?_,growslice_fits hlt hb,hn,?_⟩
   ·rw[srcV_slice (l:=(cells.drop off).take (l.length*Ty.sz α))]
    rw[hh,hcells_mk hbk (by simp;omega)]
   ·intro b' el' c hb' hc
    subst hh
    rw[set_new hb']
    exact Fgt.drop (le_add (Dj_one.2 hb')) (K _ _ d O0)
theorem HS.appK (H:HS g (ow v l::Γ) h) {bytes esz:Nat}{zero:List Value}{a:O}{j:Nat}{dst:Nat}{c0:Array Value}(ha:a.get e=some v) (hp:eget e j=some (.agg c0)) (hc:c0.size=Ty.sz α) (hcell:c0.toList.all Value.oneCell'=true) (hsz:esz=Ty.sz α)
  (hb:(l.length+1)*bytes≤140737488355328) (hn:l.length+1<2^62)
  (K:∀v' h',HS g (ow v l::Γ) h'→k (eset e dst (some v')) h'):(A.ex (some dst) (.app bytes esz zero (.o a) (.p 1 j))).wp P k e h:=by
 obtain⟨g',r,rfl,d,O,H⟩:=H
 refine a_appK (cs:=c0.toList) O ha ?_ (by simpa using hc) hcell d rfl hsz hb hn fun v' r' d' O'=>K _ _ ⟨g',r',rfl,d',O',H⟩
 have h2:c0.size=1*esz:=by rw[hsz,Nat.one_mul,hc]
 simp only[AO.src,hp,h2,if_true]
end
theorem c_l7PairK {g h:Heap}{Γ:List HP}{v w:Value}{L:List (List Int)}{p:List Int}(H:HS g (ow w p::ow v L::Γ) h) (hl:L.length≤1048576):CallE Tryz.prog fn_spec_l7Pair [v,w] h (fun u h'=>∃v',u=.tuple #[v',.int .i64 (Fm.atL L p)]∧HS g (ow w p::ow v L::Γ) h'):=by
 have RL:=H.sw1.rep
 have Rp:=H.rep
 refine CallE.gen fun k hk=>EN_spec_l7Pair rfl ?_
 simp -implicitDefEqProofs (disch:=omega)[wrap64]
 refine wp_count L.length (fun i e h'=>e=[some v,some w,none,none,some (.int .i64 i)]∧h'=h∧∀(j:Nat) (hj:j<L.length),j<i→L[j]≠p) ⟨by simp,rfl,fun j _ hj=>absurd hj (Nat.not_lt_zero j)⟩ ?_
 rintro J i _ h hJ hi ⟨rfl,rfl,hn⟩
 simp -implicitDefEqProofs (disch:=first|omega|(simp only[LnZ];omega))[wrap64,RL.len]
 refine IteW.mk (fun hlt=>?_) (fun hge=>?_)
 ·have hlx:i<L.length:=by omega
  obtain⟨u,hu,Ru⟩:=RL.ldL hlx
  simp -implicitDefEqProofs (disch:=first|omega|(simp only[LnZ];omega))[wrap64,RL.X (n:=1) rfl,hu]
  refine (c_l2IntsM Ru Rp).go ?_
  rintro _ h ⟨rfl,rfl⟩
  by_cases e:L[i]=p
  ·simp -implicitDefEqProofs (disch:=first|omega|(simp only[LnZ];omega))[wrap64,e]
   exact RetK.keep (hk _ _ ⟨v,by rw[Fm.atL_at hlx e hn],H⟩)
  ·simp -implicitDefEqProofs (disch:=first|omega|(simp only[LnZ];omega))[wrap64,e]
   refine hJ _ _ hlx ⟨by simp,rfl,fun j hj hji=>?_⟩
   by_cases hji2:j=i
   ·subst hji2;exact e
   ·exact hn j hj (by omega)
 ·have hm:p∉L:=fun hm=>by
   obtain⟨j,hj,h1⟩:=List.mem_iff_getElem.1 hm
   exact hn j hj (by omega) h1
  have hcl:=Rp.cells
  simp -implicitDefEqProofs (disch:=first|omega|(simp only[LnZ];omega))[wrap64,setC,hcl,Rp.one,RL.len]
  refine HS.appK (bytes:=24) H.sw1 rfl rfl rfl (by simp[Rp.one]) rfl (by omega) (by omega) fun v' h2 H=>?_
  simp -implicitDefEqProofs (disch:=first|omega|(simp only[LnZ];omega))[wrap64,RL.len]
  exact RetK.keep (hk _ _ ⟨v',by rw[Fm.atL_not hm],H.sw1⟩)
theorem only_eq {a:Aut}{L:List Bool}(hL:∀q,tru L q↔q<a.acc.length∧a.Live q) {S:List Int}(hS:incr a.acc.length (-1) S) {W:List Int}(hq:∀q:Nat,((q:Int)∈S∧a.Live q)↔a.behind W q) :
  (S.filter fun x=>L.getD x.toNat false)=a.states W:=by
 refine Aut.states_eq (incr_filter hS) fun q=>?_
 rw[List.mem_filter]
 have h1:=hL q
 simp only[tru] at h1
 simp only[Int.toNat_natCast]
 rw[h1,← hq]
 constructor
 ·rintro⟨h2,h3,h4⟩;exact⟨h3,h2,h4⟩
 ·rintro⟨h3,h2,h4⟩;exact⟨h2,h3,h4⟩
theorem step_eq {a:Aut}(ha:a.Ok) {L:List Bool}(hL:∀q,tru L q↔q<a.acc.length∧a.Live q) {T W:List Int}{x:Int}(hT:incr a.acc.length (-1) T) (hTm:∀y,y∈T↔∃e∈a.edges,e.frm∈a.states W∧e.on x=true∧e.to=y) :
  (T.filter fun x=>L.getD x.toNat false)=a.states (W++[x]):=by
 refine only_eq hL hT fun q=>?_
 rw[hTm,behind_snoc]
 unfold Aut.aft
 constructor
 ·rintro⟨⟨e,h1,h2,h3,h4⟩,h5⟩
  obtain⟨p,h6,_,h7⟩:=states_mem.1 h2
  exact⟨h5,e,h1,by rw[h6,Int.toNat_natCast];exact h7,h4,h3⟩
 ·rintro⟨h5,e,h1,h2,h4,h3⟩
  obtain⟨f,g,k1,k2,k3,k4⟩:=ha.tr h1
  rw[k1,Int.toNat_natCast] at h2
  exact⟨⟨e,h1,by rw[k1];exact states_mem.2 ⟨f,rfl,k3,h2⟩,h3,h4⟩,h5⟩
theorem atL_len {L:List (List Int)}{p:List Int}:Fm.atL L p=(L.length:Int)↔p∉L:=by
 constructor
 ·intro h hm
  have h1:=(Fm.atL_lt (L:=L) (p:=p)).2
  rw[Fm.adL,if_pos hm] at h1
  omega
 ·exact Fm.atL_not
set_option maxHeartbeats 2000000 in
theorem c_spec_ShortestBad {h:Heap}{v:Value}{x:Exq}{most:Int}(R:Rep h v x) (hmo:I64 most):CallE Tryz.prog fn_spec_ShortestBad [v,.int .i64 most] h (fun u h'=>∃w,u=.tuple #[w,.bool (sbR x most).isSome]∧HS h [ow w ((sbR x most).getD [])] h'):=by
 have FX:=R.aExq
 refine CallE.gen fun k hk=>EN_spec_ShortestBad rfl ?_
 simp -implicitDefEqProofs (disch:=first|omega|(simp only[LnZ];omega))[wrap64,FX]
 refine (c_spec_TranslateFormula R).go ?_
 rintro _ h1 ⟨wa,rfl,H⟩
 have FA:=H.rep.aAut
 by_cases q0:Fm.trOk x
 case neg=>
  rw[sbR,if_neg q0] at hk
  simp -implicitDefEqProofs (disch:=first|omega|(simp only[LnZ];omega))[wrap64,q0,FA,setC]
  refine HS.bls0 (HS.init (h:=h1)) Int fun o h2 G=>?_
  simp -implicitDefEqProofs (disch:=omega)[wrap64]
  exact RetK.keep (hk _ _ ⟨_,rfl,HS.app G (show HS h [] h1 from H.base)⟩)
 rw[sbR,if_pos q0] at hk
 unfold Sb.bad at hk
 by_cases q1:most<0
 ·rw[if_neg (by omega)] at hk
  simp -implicitDefEqProofs (disch:=first|omega|(simp only[LnZ];omega))[wrap64,q0,q1,FA,setC]
  refine HS.bls0 (HS.init (h:=h1)) Int fun o h2 G=>?_
  simp -implicitDefEqProofs (disch:=omega)[wrap64]
  exact RetK.keep (hk _ _ ⟨_,rfl,HS.app G (show HS h [] h1 from H.base)⟩)
 rw[if_pos (by omega)] at hk
 rw[Fm.trR,if_pos q0] at H
 have ha:=Fm.trA_ok q0
 generalize Fm.trA x=a at *
 obtain⟨v1,v2,v3,hwa,R1,R2',R3⟩:=Rep_Aut.1 H.rep
 subst hwa
 have hin:=incr_len ha.i (by have:=ha.n;omega)
 have hnn:=ha.n
 have o1:=R1.one
 have o2:=R2'.one
 have o3:=R3.one
 simp -implicitDefEqProofs (disch:=first|omega|(simp only[LnZ];omega))[wrap64,q0,q1,FA,setC,o1,o2,o3]
 refine (c_spec_LiveStates H.rep ha).go ?_
 rintro lw h2 ⟨L0,H2,hLl,hL⟩
 have H:=H2.app H
 have R1:=R1.on H2
 simp -implicitDefEqProofs (disch:=omega)[wrap64]
 refine HS.bls0 H Int fun w0 h3 H=>?_
 have hw0:=H.rep.cells
 simp -implicitDefEqProofs (disch:=first|omega|(simp only[LnZ];omega))[wrap64,setC,hw0,H.rep.one]
 refine H.blsO1 (by simp[fillP,reps,setC,hw0]) fun ws h4 H=>?_
 have R1:Rep h4 v1 a.init:=by
  obtain⟨_,_,_,e,R1,_,_⟩:=Rep_Aut.1 H.sw2.rep
  simp only[Value.agg.injEq,Array.mk.injEq,List.cons.injEq,and_true] at e
  obtain⟨rfl,rfl,rfl⟩:=e
  exact R1
 simp -implicitDefEqProofs (disch:=first|omega|(simp only[LnZ];omega))[wrap64,o1,o2,o3]
 refine (c_l12Only R1 H.sw1.rep (fun x hx=>by have:=incr_mem ha.i x hx;omega) (by omega)).go ?_
 intro sw h5 H5
 have H:=H5.app H
 clear H5 H2
 rw[only_eq (W:=[]) hL ha.i fun q=>Iff.rfl] at H
 have hsc:=H.rep.cells
 simp -implicitDefEqProofs (disch:=first|omega|(simp only[LnZ];omega))[wrap64,setC,hsc,H.rep.one]
 refine H.blsO1 (by simp[fillP,reps,setC,hsc]) fun ss h6 H=>?_
 have H:HS h ([ow ss [a.states []],ow ws [([]:List Int)]]++[ow lw L0,ow (.agg #[v1,v2,v3]) a]) h6:=H
 obtain⟨g1,H1,H⟩:=H.rebase
 have RL:=H1.rep
 have RA:=H1.sw1.rep
 have lg:=H1.base
 simp -implicitDefEqProofs (disch:=omega)[wrap64]
 refine wp_count 201 (fun i e h'=>∃ws ss L,e=[none,some (.int .i64 most),none,none,none,some (.agg #[v1,v2,v3]),none,some lw,some ws,some ss,some (.int .i64 i),none,none,none]∧HS g1 [ow ss (L.map a.states),ow ws L] h'∧L.length≤1+8*i∧(∀w∈L,w.length≤i) ∧
  Sb.run a most (201-i) i L=Sb.run a most 201 0 [[]]) ⟨ws,ss,[[]],by simp,H,by simp,by simp,rfl⟩ ?_
 clear H
 rintro J i _ h7 hJ hi ⟨ws,ss,L,rfl,H,hLb,hLw,hrun⟩
 have hcm:=H.rep.len
 rw[List.length_map] at hcm
 by_cases q2:i<L.length
 case neg=>
  have hn:Sb.run a most (201-i) i L=none:=by
   cases e:201-i with
   | zero=>rfl
   | succ f=>rw[Sb.run,if_neg (fun hh=>q2 hh.1)]
  rw[← hrun,hn] at hk
  simp -implicitDefEqProofs (disch:=first|omega|(simp only[LnZ];omega))[wrap64,H.sw1.rep.len,q2]
  refine HS.bls0 (HS.init (h:=h7)) Int fun o h8 G=>?_
  simp -implicitDefEqProofs (disch:=omega)[wrap64]
  exact RetK.keep (hk _ _ ⟨_,rfl,HS.app G (show HS h [] h7 from lg.trans H.base)⟩)
 by_cases q3:200<L.length
 ·have hn:Sb.run a most (201-i) i L=none:=by
   cases e:201-i with
   | zero=>rfl
   | succ f=>rw[Sb.run,if_neg (fun hh=>by omega)]
  rw[← hrun,hn] at hk
  have q3i:¬(L.length:Int)≤200:=by omega
  simp -implicitDefEqProofs (disch:=first|omega|(simp only[LnZ];omega))[wrap64,H.sw1.rep.len,q2,q3,q3i]
  refine HS.bls0 (HS.init (h:=h7)) Int fun o h8 G=>?_
  simp -implicitDefEqProofs (disch:=omega)[wrap64]
  exact RetK.keep (hk _ _ ⟨_,rfl,HS.app G (show HS h [] h7 from lg.trans H.base)⟩)
 have q3i:(L.length:Int)≤200:=by omega
 obtain⟨f,hf⟩:∃f,201-i=f+1:=⟨200-i,by omega⟩
 have hgd:L.getD i []=L[i]:=getD_some q2
 rw[hf,Sb.run,if_pos ⟨q2,by omega⟩,hgd] at hrun
 obtain⟨su,hsu,Rsu⟩:=H.rep.ldL (i:=i) (by simpa using q2)
 obtain⟨wu,hwu,Rwu⟩:=H.sw1.rep.ldL q2
 rw[List.getElem_map] at Rsu
 have hX1:=H.rep.X (n:=1) rfl
 rw[List.length_map] at hX1
 have hX2:=H.sw1.rep.X (n:=1) rfl
 have hwl:=hLw _ (List.getElem_mem q2)
 simp -implicitDefEqProofs (disch:=first|omega|(simp only[LnZ];omega))[wrap64,H.sw1.rep.len,q2,q3,q3i,hX1,hsu,Rsu.len]
 by_cases q4:a.states L[i]=[]
 ·rw[if_pos q4] at hrun
  rw[← hrun] at hk
  obtain⟨wu',hwu',G⟩:=H.sw1.take q2
  change hload h7 (some (elp 1 ws i)) none=some wu' at hwu'
  simp -implicitDefEqProofs (disch:=first|omega|(simp only[LnZ];omega))[wrap64,q4,hX2,hwu']
  exact RetK.keep (hk _ _ ⟨wu',rfl,HS.app (Γ:=[]) (G.under fun _ H=>H.drop.drop) lg⟩)
 have q4l:¬(a.states L[i]).length=0:=fun e=>q4 (List.length_eq_zero_iff.1 e)
 rw[if_neg q4] at hrun
 by_cases q5:most≤(L[i].length:Int)
 ·rw[if_pos q5] at hrun
  simp -implicitDefEqProofs (disch:=first|omega|(simp only[LnZ];omega))[wrap64,q4,q4l,hX2,hwu,Rwu.len,q5]
  exact hJ _ _ (by omega) ⟨ws,ss,L,by simp,H,by omega,fun w hw=>by have:=hLw w hw;omega,by rw[show 201-(i+1)=f by omega];exact hrun⟩
 rw[if_neg q5] at hrun
 have hrl:L.length≤200:=by omega
 simp -implicitDefEqProofs (disch:=first|omega|(simp only[LnZ];omega))[wrap64,q4,q4l,hX2,hwu,Rwu.len,q5]
 refine wp_count 8 (fun n e h'=>∃ws ss,e=[none,some (.int .i64 most),none,none,none,some (.agg #[v1,v2,v3]),none,some lw,some ws,some ss,some (.int .i64 i),some (.int .i64 n),none,none]∧HS g1 [ow ss ((Sb.adds a L[i] n L).map a.states),ow ws (Sb.adds a L[i] n L)] h') ⟨ws,ss,by simp,H⟩ ?_
 clear H hsu hwu hX1 hX2 Rsu Rwu hcm
 rintro J2 n _ h8 hJ2 hn ⟨ws,ss,rfl,H⟩
 obtain⟨⟨T,hT,hT2⟩,_⟩:=Sb.adds_ad (a:=a) (W:=L[i]) (L:=L) n
 have hMl:=adds_len (a:=a) (W:=L[i]) (L:=L) n
 have hMi:(Sb.adds a L[i] n L)[i]? = some L[i]:=by rw[hT,List.getElem?_append_left q2,List.getElem?_eq_getElem q2]
 have hsuc:Sb.adds a L[i] (n+1) L=Sb.add a (Sb.adds a L[i] n L) (L[i]++[(n:Int)]):=rfl
 have hall:∀w∈Sb.adds a L[i] n L,w.length≤i+1:=fun w hw=>by
  rw[hT] at hw
  rcases List.mem_append.1 hw with hw | hw
  ·have:=hLw w hw;omega
  ·obtain⟨l,_,rfl⟩:=hT2 w hw
   simp;omega
 simp -implicitDefEqProofs (disch:=omega)[wrap64]
 by_cases hnx:n<8
 case neg=>
  obtain rfl:n=8:=by omega
  simp -implicitDefEqProofs (disch:=omega)[wrap64]
  refine hJ _ _ (by omega) ⟨ws,ss,_,by simp,H,by omega,hall,by rw[show 201-(i+1)=f by omega];exact hrun⟩
 have hni:(n:Int)≤7:=by omega
 generalize Sb.adds a L[i] n L=M at *
 obtain⟨hiM,hMe⟩:=List.getElem?_eq_some_iff.1 hMi
 obtain⟨su,hsu,Rsu⟩:=H.rep.ldL (i:=i) (by simpa using hiM)
 rw[List.getElem_map,hMe] at Rsu
 have hX1:=H.rep.X (n:=1) rfl
 rw[List.length_map] at hX1
 simp -implicitDefEqProofs (disch:=first|omega|(simp only[LnZ];omega))[wrap64,hni,hX1,hsu,o1,o2,o3]
 refine (c_l12Step (RA.on H) Rsu ha).go ?_
 rintro tw h9 ⟨T',H9,hT',hTm'⟩
 have H:=H9.app H
 have hTl:=incr_len hT' (by omega)
 simp -implicitDefEqProofs (disch:=omega)[wrap64]
 refine (c_l12Only H.rep (RL.on H) (fun x hx=>by have:=incr_mem hT' x hx;omega) (by omega)).go ?_
 intro nw h10 H10
 rw[step_eq ha hL hT' hTm'] at H10
 have H:=H10.app H
 have H:HS g1 [ow nw (a.states (L[i]++[(n:Int)])),ow ss (M.map a.states),ow ws M] h10:=H.under fun _ H=>H.drop
 clear H9 H10
 simp -implicitDefEqProofs (disch:=omega)[wrap64]
 refine (c_l7PairK H (by simp;omega)).go ?_
 rintro _ h11 ⟨v',rfl,H⟩
 have hlenM:=H.sw1.rep.len
 rw[List.length_map] at hlenM
 have hnl:=H.rep.cells
 by_cases q6:a.states (L[i]++[(n:Int)])∈M.map a.states
 ·have h6:¬Fm.atL (M.map a.states) (a.states (L[i]++[(n:Int)]))=(M.length:Int):=fun e=>atL_len.1 (by rw[e];simp) q6
  rw[Sb.add,if_pos q6] at hsuc
  simp -implicitDefEqProofs (disch:=first|omega|(simp only[LnZ];omega))[wrap64,hlenM,h6]
  exact hJ2 _ _ hnx ⟨ws,ss,by simp,by rw[hsuc];exact H.drop⟩
 ·have h6:Fm.atL (M.map a.states) (a.states (L[i]++[(n:Int)]))=(M.length:Int):=by rw[atL_len.2 q6];simp
  rw[Sb.add,if_neg q6] at hsuc
  simp -implicitDefEqProofs (disch:=first|omega|(simp only[LnZ];omega))[wrap64,hlenM,h6,setC,hnl,H.rep.one]
  refine HS.appO (bytes:=24) H rfl rfl (by rw[hnl]) rfl rfl (by simp;omega) (by simp;omega) fun ss' h12 H=>?_
  obtain⟨wu,hwu,Rwu⟩:=H.sw1.rep.ldL hiM
  rw[hMe] at Rwu
  have hX2:=H.sw1.rep.X (n:=1) rfl
  simp -implicitDefEqProofs (disch:=first|omega|(simp only[LnZ];omega))[wrap64,hX2,hwu]
  refine H.appPL (α:=Int) (bytes:=8) rfl rfl Rwu rfl rfl (by omega) fun kw h13 H=>?_
  simp -implicitDefEqProofs (disch:=first|omega|(simp only[LnZ];omega))[wrap64,setC]
  refine HS.app1 (bytes:=8) H (n:Int) rfl rfl rfl ⟨by omega,by omega⟩ rfl rfl (by omega) (by omega) fun kw' h14 H=>?_
  have H:HS g1 [ow kw' (L[i]++[(n:Int)]),ow ss' (M.map a.states++[a.states (L[i]++[(n:Int)])]),ow ws M] h14:=H
  have hkl:=H.rep.cells
  simp -implicitDefEqProofs (disch:=first|omega|(simp only[LnZ];omega))[wrap64,setC,hkl,H.rep.one]
  refine HS.appO (bytes:=24) (H.under fun _ H=>H.sw1) rfl rfl (by rw[hkl]) rfl rfl (by omega) (by omega) fun ws' h15 H=>?_
  simp -implicitDefEqProofs (disch:=omega)[wrap64]
  refine hJ2 _ _ hnx ⟨ws',ss',by simp,?_⟩
  rw[hsuc,List.map_append]
  exact H.sw1
theorem c_DrawMonitorFormula {h:Heap}{v:Value}{l:List (BitVec 8)}(R:Rep h v l):CallE Tryz.prog fn_spec_DrawMonitorFormula [v] h (fun u h'=>∃(u1 u2:Value) (x:Exq) (W:List Int),u=.tuple #[u1,u2]∧h.le h'∧Rep h' u1 x∧Rep h' u2 W∧W.length≤300):=by
 refine CallE.gen fun k hk=>EN_spec_DrawMonitorFormula rfl ?_
 simp -implicitDefEqProofs (disch:=omega)[wrap64]
 refine (c_l16Open R).go ?_
 rintro _ h1 ⟨b,sl,l',rfl,R',H⟩
 simp -implicitDefEqProofs (disch:=omega)[wrap64]
 refine (c_l5Formula2 R' H (by omega) (by omega)).go ?_
 rintro w h2 ⟨x,p1,H,b1,b2,b3⟩
 obtain⟨g1,H1,H2⟩:=HS.rebase (Δ:=[rb b sl p1]) H.sw1
 have FX:=H.rep.aExq
 simp -implicitDefEqProofs (disch:=first|omega|(simp only[LnZ];omega))[wrap64,FX]
 refine (c_l5Mutate (R'.on H1) H1.rep (by omega) H2 (by omega) (by omega)).go ?_
 rintro u h3 ⟨y,p2,H3,c1,c2⟩
 have H:=H3.app H1
 have FY:=H3.rep.aExq
 simp -implicitDefEqProofs (disch:=first|omega|(simp only[LnZ];omega))[wrap64,FY,setC]
 refine (c_l12Letters R' H.sw1 (by omega) (by omega)).go ?_
 rintro z h4 ⟨W,p3,H,d1⟩
 have FY2:=H.sw2.rep.aExq
 simp -implicitDefEqProofs (disch:=first|omega|(simp only[LnZ];omega))[wrap64,FY2,setC]
 exact RetK.keep (hk _ _ ⟨u,z,y,W,rfl,H.base,H.sw2.rep,H.rep,d1⟩)
theorem c_DrawMonitorRun {h:Heap}{v:Value}{l:List (BitVec 8)}(R:Rep h v l):CallE Tryz.prog fn_spec_DrawMonitorRun [v] h (fun u h'=>∃(u1 u2:Value) (x:Exq) (W:List Int),u=.tuple #[u1,u2]∧h.le h'∧Rep h' u1 x∧Rep h' u2 W∧W.length≤8):=by
 refine CallE.gen fun k hk=>EN_spec_DrawMonitorRun rfl ?_
 simp -implicitDefEqProofs (disch:=omega)[wrap64]
 refine (c_DrawMonitorFormula R).go ?_
 rintro _ h1 ⟨u1,u2,x,W,rfl,l1,Rx,RW,hW⟩
 have FX:=Rx.aExq
 by_cases q:(8:Int)<W.length
 ·obtain⟨t,ht,Rt⟩:=RW.cut (n:=8) (esz:=1) (k:=.i64) (by omega)
  have ht:sliceVV 1 u2 none (some (some (.int .i64 8))) none=some t:=ht
  simp -implicitDefEqProofs (disch:=first|omega|(simp only[LnZ];omega))[wrap64,FX,RW.len,q,ht,setC]
  exact RetK.keep (hk _ _ ⟨u1,t,x,W.take 8,rfl,l1,Rx,Rt,by simp;omega⟩)
 ·simp -implicitDefEqProofs (disch:=first|omega|(simp only[LnZ];omega))[wrap64,FX,RW.len,q,setC]
  exact RetK.keep (hk _ _ ⟨u1,u2,x,W,rfl,l1,Rx,RW,by omega⟩)
namespace Fm
end Fm
theorem c_wpInts {h:Heap}{v w:Value}{a b:List Int}(Ra:Rep h v a) (Rb:Rep h w b):CallE Tryz.prog fn_laws_wpInts [v,w] h (fun u h'=>h'=h∧u=.bool (decide (a=b))):=by
 have hL:=Ra.lt
 refine CallE.gen fun k hk=>EN_laws_wpInts rfl ?_
 by_cases hl:(a.length:Int)=b.length
 case neg=>
  simp -implicitDefEqProofs (disch:=first|omega|(simp only[LnZ];omega))[wrap64,Ra.len,Rb.len,hl]
  exact RetK.keep (hk _ _ ⟨rfl,by congr 1;rw[eq_comm,decide_eq_false_iff_not];intro e;subst e;exact hl rfl⟩)
 simp -implicitDefEqProofs (disch:=first|omega|(simp only[LnZ];omega))[wrap64,Ra.len,Rb.len,hl]
 refine wp_count a.length (fun i e h'=>e=[some v,some w,none,some (.int .i64 i)]∧h'=h∧a.take i=b.take i) ⟨by simp,rfl,rfl⟩ ?_
 rintro J i _ h hJ hi ⟨rfl,rfl,hq⟩
 simp -implicitDefEqProofs (disch:=first|omega|(simp only[LnZ];omega))[wrap64,Ra.len]
 refine IteW.mk (fun hlt=>?_) (fun hge=>?_)
 ·have hlx:i<a.length:=by omega
  have hly:i<b.length:=by omega
  by_cases he:a[i]=b[i]
  ·simp -implicitDefEqProofs (disch:=first|omega|(simp only[LnZ];omega))[wrap64,Ra.I,Rb.I,he]
   exact hJ _ _ hlx ⟨rfl,rfl,take_step hq hlx hly he⟩
  ·simp -implicitDefEqProofs (disch:=first|omega|(simp only[LnZ];omega))[wrap64,Ra.I,Rb.I,he]
   exact RetK.keep (hk _ _ ⟨rfl,by congr 1;rw[eq_comm,decide_eq_false_iff_not];intro e;subst e;exact he rfl⟩)
 ·simp -implicitDefEqProofs (disch:=omega)[wrap64]
  rw[List.take_of_length_le (by omega),List.take_of_length_le (by omega)] at hq
  exact RetK.keep (hk _ _ ⟨rfl,by simp[hq]⟩)
theorem c_DrawShortestBad {h:Heap}{v:Value}{l:List (BitVec 8)}(R:Rep h v l):CallE Tryz.prog fn_spec_DrawShortestBad [v] h (fun u h'=>∃(u1:Value) (x:Exq) (most:Int),u=.tuple #[u1,.int .i64 most]∧h.le h'∧Rep h' u1 x∧I64 most):=by
 refine CallE.gen fun k hk=>EN_spec_DrawShortestBad rfl ?_
 simp -implicitDefEqProofs (disch:=omega)[wrap64]
 refine (c_l16Open R).go ?_
 rintro _ h1 ⟨b,sl,l',rfl,R',H⟩
 simp -implicitDefEqProofs (disch:=omega)[wrap64]
 refine (c_l5Formula2 R' H (by omega) (by omega)).go ?_
 rintro w h2 ⟨x,p1,H,b1,b2,b3⟩
 obtain⟨g1,H1,H2⟩:=HS.rebase (Δ:=[rb b sl p1]) H.sw1
 have FX:=H.rep.aExq
 simp -implicitDefEqProofs (disch:=first|omega|(simp only[LnZ];omega))[wrap64,FX]
 refine (c_l5Mutate (R'.on H1) H1.rep (by omega) H2 (by omega) (by omega)).go ?_
 rintro u h3 ⟨y,p2,H3,c1,c2⟩
 have H:=H3.app H1
 have FY:=H3.rep.aExq
 simp -implicitDefEqProofs (disch:=first|omega|(simp only[LnZ];omega))[wrap64,FY,setC]
 refine H.sw1.bls [(3:Int),4,2,1,0,-1,9223372036854775807] rfl rfl (okL (by decide)) (by decide) fun w h4 H=>?_
 simp -implicitDefEqProofs (disch:=first|omega|(simp only[LnZ];omega))[wrap64,FY]
 refine (c_num R' H (by omega) (by omega) (by simp)).go ?_
 rintro _ h5 ⟨r2,rfl,o2,_,H⟩
 have FY2:=H.sw1.rep.aExq
 simp -implicitDefEqProofs (disch:=first|omega|(simp only[LnZ];omega))[wrap64,FY2,setC]
 exact RetK.keep (hk _ _ ⟨u,y,r2,rfl,H.base,H.sw1.rep,o2⟩)
theorem Sb.run_len {a:Aut}{most:Int}{W:List Int}:∀(f i:Nat) (L:List (List Int)),(∀w∈L,w.length≤i)→Sb.run a most f i L=some W→W.length+1≤i+f
 | 0,_,_,_,h=>by simp[Sb.run] at h
 | f+1,i,L,hL,h=>by
  rw[Sb.run] at h
  split at h
  case isFalse=>simp at h
  rename_i hc
  have hm:L.getD i []∈L:=by
   have:L.getD i []=L[i]'hc.1:=by simp[hc.1]
   rw[this];exact List.getElem_mem _
  have h1:=hL _ hm
  split at h
  ·rw[Option.some.injEq] at h
   rw[← h];omega
  ·split at h
   ·have:=Sb.run_len f (i+1) L (fun w hw=>by have:=hL w hw;omega) h
    omega
   ·have:=Sb.run_len f (i+1) _ (fun w hw=>?_) h
    ·omega
    ·obtain⟨⟨T,hT,hT2⟩,_⟩:=Sb.adds_ad (a:=a) (W:=L.getD i []) (L:=L) 8
     rw[hT] at hw
     rcases List.mem_append.1 hw with hw | hw
     ·have:=hL w hw;omega
     ·obtain⟨l,_,rfl⟩:=hT2 w hw
      simp only[List.length_append,List.length_singleton];omega
theorem Sb.bad_len {a:Aut}{most:Int}{W:List Int}(h:Sb.bad a most=some W):W.length≤200:=by
 unfold Sb.bad at h
 split at h
 ·have:=Sb.run_len 201 0 [[]] (by simp) h
  omega
 ·simp at h
theorem sbR_some {x:Exq}{most:Int}{W:List Int}(h:sbR x most=some W):Fm.trOk x∧(Fm.trA x).Ok∧Sb.Fd (Fm.trA x) most W∧Wok W:=by
 unfold sbR at h
 split at h
 case isFalse=>simp at h
 rename_i ht
 have ha:=Fm.trA_ok ht
 have hf:=Sb.bad_fd ha h
 exact⟨ht,ha,hf,Sb.bad_len h,hf.lt⟩
set_option maxHeartbeats 1000000 in
theorem c_FnShortestBadLeast {h:Heap}{v w:Value}{l m:List (BitVec 8)}(R:Rep h v l) (RM0:Rep h w m):CallE Tryz.prog fn_laws_FnShortestBadLeast [v,w] h (fun u h'=>h.le h'∧u=.bool true):=by
 refine CallE.gen fun k hk=>EN_laws_FnShortestBadLeast rfl ?_
 by_cases a1:(1048576:Int)<l.length
 ·simp -implicitDefEqProofs (disch:=first|omega|(simp only[LnZ];omega))[wrap64,R.len,a1]
  exact RetK.keep (hk _ _ ⟨Heap.le.refl _,rfl⟩)
 by_cases a2:(1048576:Int)<m.length
 ·simp -implicitDefEqProofs (disch:=first|omega|(simp only[LnZ];omega))[wrap64,R.len,RM0.len,a1,a2]
  exact RetK.keep (hk _ _ ⟨Heap.le.refl _,rfl⟩)
 simp -implicitDefEqProofs (disch:=first|omega|(simp only[LnZ];omega))[wrap64,R.len,RM0.len,a1,a2]
 refine (c_DrawShortestBad R).go ?_
 rintro _ h1 ⟨u1,x,most,rfl,l1,Rx,hmo⟩
 have FX:=Rx.aExq
 simp -implicitDefEqProofs (disch:=first|omega|(simp only[LnZ];omega))[wrap64,FX,setC]
 refine (c_DrawMonitorRun (RM0.le l1)).go ?_
 rintro _ h1b ⟨y1,y2,z,V,rfl,l1b,Rz,RV,hVl⟩
 have FZ:=Rz.aExq
 have Rx:=Rx.le l1b
 simp -implicitDefEqProofs (disch:=first|omega|(simp only[LnZ];omega))[wrap64,FX,FZ,setC]
 refine (c_ShortestBad Rx hmo).go ?_
 rintro _ h2 ⟨w1,rfl,H⟩
 have Rx:=Rx.on H
 have RV:=RV.on H
 simp -implicitDefEqProofs (disch:=first|omega|(simp only[LnZ];omega))[wrap64,FX,setC]
 refine (c_spec_ShortestBad Rx hmo).go ?_
 rintro _ h3 ⟨w2,rfl,H2⟩
 have H:=H2.app H
 have Rx:=Rx.on H2
 have RV:=RV.on H2
 have lb:=(l1.trans l1b).trans H.base
 have R2:=H.rep
 have R1:=H.sw1.rep
 clear H H2
 cases hq:sbR x most with
 | none=>
  rw[hq] at R1 R2
  simp -implicitDefEqProofs (disch:=omega)[wrap64]
  refine (c_wpInts R1 R2).go ?_
  rintro _ h3 ⟨rfl,rfl⟩
  simp -implicitDefEqProofs (disch:=omega)[wrap64]
  refine (c_wpInts R1 R2).go ?_
  rintro _ h3 ⟨rfl,rfl⟩
  simp -implicitDefEqProofs (disch:=omega)[wrap64]
  exact RetK.keep (hk _ _ ⟨lb,rfl⟩)
 | some W=>
  rw[hq] at R1 R2
  simp only[Option.getD_some] at R1 R2
  obtain⟨ht,ha,hf,hw⟩:=sbR_some hq
  simp -implicitDefEqProofs (disch:=omega)[wrap64]
  refine (c_wpInts R1 R2).go ?_
  rintro _ h3 ⟨rfl,rfl⟩
  by_cases q:W.length≤V.length
  ·have qi:(W.length:Int)≤V.length:=by omega
   simp -implicitDefEqProofs (disch:=first|omega|(simp only[LnZ];omega))[wrap64,R1.len,RV.len,q,qi]
   refine (c_wpInts R1 R2).go ?_
   rintro _ h3 ⟨rfl,rfl⟩
   simp -implicitDefEqProofs (disch:=omega)[wrap64]
   exact RetK.keep (hk _ _ ⟨lb,rfl⟩)
  have qi:¬(W.length:Int)≤V.length:=by omega
  simp -implicitDefEqProofs (disch:=first|omega|(simp only[LnZ];omega))[wrap64,R1.len,RV.len,q,qi,FX]
  refine (c_TranslateFormula Rx).go ?_
  rintro _ h4 ⟨wa,rfl,H⟩
  rw[Fm.trR,if_pos ht] at H
  have FA:=H.rep.aAut
  have RV:=RV.on H
  simp -implicitDefEqProofs (disch:=first|omega|(simp only[LnZ];omega))[wrap64,FA,ht,setC]
  refine (c_PrefixStates H.rep RV).go ?_
  rintro _ h5 ⟨vs,rfl,H5⟩
  have lb:=lb.trans (H.base.trans H5.base)
  by_cases q2:Wok V
  ·have hne:=hf.least V q2.2 (by omega)
   rw[preV,if_pos ⟨ha,q2⟩] at H5
   have hl0:0<((Fm.trA x).states V).length:=List.length_pos_iff.2 hne
   have hl0i:(0:Int)<((Fm.trA x).states V).length:=by omega
   simp -implicitDefEqProofs (disch:=first|omega|(simp only[LnZ];omega))[wrap64,ha,q2,H5.rep.len,hl0,hl0i]
   exact RetK.keep (hk _ _ ⟨lb,by simp⟩)
  ·simp -implicitDefEqProofs (disch:=first|omega|(simp only[LnZ];omega))[wrap64,ha,q2]
   exact RetK.keep (hk _ _ ⟨lb,rfl⟩)
end Go.Proofs.YtielhfonnleldaaGreat
