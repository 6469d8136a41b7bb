/-
  Texts of this proof, one behind the other.
-/
import Derived.Test.YtjbjnicobdpdhaaYDZB641
set_option linter.all false
set_option linter.unusedVariables false
set_option linter.unusedSimpArgs false
set_option linter.defProp false
set_option maxRecDepth 1000000
namespace Go.Proofs.Ytjbjnicobdpdhaa
open Go
theorem c_l3Digits {h:Heap}{v:Value}{l:List Int}(R:Rep h v l) (hl:l.length≤4294967296):CallE Try.prog fn_spec_l3Digits [v] h (fun u h'=>h.le h'∧u=.tuple #[.string (Tx (dgR l)),.bool (okR l)]):=by
 refine CallE.gen fun k hk=>EN_spec_l3Digits rfl ?_
 simp -implicitDefEqProofs (disch:=omega)[wrap64]
 refine wp_count l.length (fun i e h'=>e=[some v,none,none,some (.string (Tx (dgs (l.take i)))),some (.int .i64 i)]∧h.le h'∧(l.take i).all okD=true) ⟨by simp[dgs],Heap.le.refl _,rfl⟩ ?_
 rintro J i _ h2 hJ hi ⟨rfl,l2,hall⟩
 have R2:=R.le l2
 have hdl:(dgs (l.take i)).length≤l.length:=by simp[dgs];omega
 simp -implicitDefEqProofs (disch:=first|omega|(simp only[LnZ];omega))[wrap64,R2.len]
 refine IteW.mk (fun hlt=>?_) (fun hge=>?_)
 ·have hix:i<l.length:=by omega
  by_cases q:0≤l[i]∧l[i]≤9
  ·have q1:¬l[i]<0:=by omega
   have q2:¬9<l[i]:=by omega
   simp -implicitDefEqProofs (disch:=first|omega|(simp only[LnZ];omega))[wrap64,R2.I,q1,q2]
   refine (c_l16Dec q.1 q.2).go ?_
   rintro _ h3 ⟨l3,rfl⟩
   simp -implicitDefEqProofs (disch:=omega)[wrap64]
   refine hJ _ _ hix ⟨?_,l2.trans l3,?_⟩
   ·have:dgs (l.take (i+1))=dgs (l.take i)++[dg l[i]]:=by rw[List.take_add_one,List.getElem?_eq_getElem hix,dgs,List.map_append];rfl
    simp[this]
   ·rw[List.take_add_one,List.getElem?_eq_getElem hix,List.all_append,hall]
    simp[okD,q]
  ·have hno:l.all okD=false:=by
    rw[List.all_eq_false]
    exact⟨l[i],List.getElem_mem hix,by simp only[okD,q];decide⟩
   have hno':okR l=false:=hno
   rw[dgR,hno'] at hk
   by_cases q1:l[i]<0
   ·simp -implicitDefEqProofs (disch:=first|omega|(simp only[LnZ];omega))[wrap64,R2.I,q1]
    exact RetK.keep (hk _ _ ⟨l2,rfl⟩)
   ·have q2:9<l[i]:=by omega
    simp -implicitDefEqProofs (disch:=first|omega|(simp only[LnZ];omega))[wrap64,R2.I,q1,q2]
    exact RetK.keep (hk _ _ ⟨l2,rfl⟩)
 ·obtain rfl:i=l.length:=by omega
  rw[List.take_length] at hall hdl ⊢
  have hall':okR l=true:=hall
  rw[dgR_ok hall',hall'] at hk
  simp -implicitDefEqProofs (disch:=omega)[wrap64]
  exact RetK.keep (hk _ _ ⟨l2,rfl⟩)
theorem c_spec_FormatState {h:Heap}{v:Value}{st:Sta}(R:Rep h v st) (h1:st.locs.length≤1048576) (h2:st.vals.length≤1048576):CallE Try.prog fn_spec_FormatState [v] h (fun u h'=>h.le h'∧u=.string (Tx st.fmt)):=by
 have FS:=R.aSta
 obtain⟨v1,v2,rfl,R1,R2'⟩:=Rep_Sta.1 R
 rw[Sta.fmt_eq]
 refine CallE.gen fun k hk=>EN_spec_FormatState rfl ?_
 simp -implicitDefEqProofs (disch:=first|omega|(simp only[LnZ];omega))[wrap64,FS,setC,R1.one,R2'.one]
 refine (c_l3Digits R1 (by omega)).go ?_
 rintro _ h3 ⟨l3,rfl⟩
 simp -implicitDefEqProofs (disch:=first|omega|(simp only[LnZ];omega))[wrap64,FS,setC,R1.one,R2'.one]
 refine (c_l3Digits (R2'.le l3) (by omega)).go ?_
 rintro _ h4 ⟨l4,rfl⟩
 have hd1:=dgR_len (l:=st.locs)
 have hd2:=dgR_len (l:=st.vals)
 cases q1:okR st.locs with
 | false=>
  simp -implicitDefEqProofs (disch:=omega)[wrap64]
  exact RetK.keep (hk _ _ ⟨l3.trans l4,by simp[q1]⟩)
 | true=>
  cases q2:okR st.vals with
  | false=>
   simp -implicitDefEqProofs (disch:=omega)[wrap64]
   exact RetK.keep (hk _ _ ⟨l3.trans l4,by simp[q2]⟩)
  | true=>
   simp -implicitDefEqProofs (disch:=omega)[wrap64]
   exact RetK.keep (hk _ _ ⟨l3.trans l4,by simp[q1,q2]⟩)
theorem c_Equal_int {h:Heap}{a b:Value}{x y:List Int}(Ra:Rep h a x) (Rb:Rep h b y):CallE Try.prog fn_slices_Equal_S_int_int [a,b] h (fun u h'=>h'=h∧u=.bool (decide (x=y))):=by
 have hL:=Ra.lt
 refine CallE.gen fun k hk=>EN_slices_Equal_S_int_int rfl ?_
 by_cases hl:(x.length:Int)=y.length
 case neg=>
  simp -implicitDefEqProofs (disch:=first|omega|(simp only[LnZ];omega))[wrap64,Ra.len,Rb.len,hl]
  exact RetK.keep (hk _ _ ⟨rfl,by congr 1;rw[eq_comm,decide_eq_false_iff_not];intro e;subst e;exact hl rfl⟩)
 simp -implicitDefEqProofs (disch:=first|omega|(simp only[LnZ];omega))[wrap64,Ra.len,Rb.len,hl]
 refine wp_count x.length (fun i e h'=>e=[some a,some b,none,none,some (.int .i64 x.length),some (.int .i64 i)]∧h'=h∧x.take i=y.take i) ⟨by simp[hl],rfl,rfl⟩ ?_
 rintro J i _ h1 hJ hi ⟨rfl,rfl,hq⟩
 simp -implicitDefEqProofs (disch:=omega)[wrap64]
 refine IteW.mk (fun hlt=>?_) (fun hge=>?_)
 ·have hlx:i<x.length:=by omega
  have hly:i<y.length:=by omega
  by_cases he:x[i]=y[i]
  ·simp -implicitDefEqProofs (disch:=first|omega|(simp only[LnZ];omega))[wrap64,Ra.I,Rb.I,he]
   exact hJ _ _ hlx ⟨rfl,rfl,take_step hq hlx hly he⟩
  ·simp -implicitDefEqProofs (disch:=first|omega|(simp only[LnZ];omega))[wrap64,Ra.I,Rb.I,he]
   exact RetK.keep (hk _ _ ⟨rfl,by congr 1;rw[eq_comm,decide_eq_false_iff_not];intro e;subst e;exact he rfl⟩)
 ·simp -implicitDefEqProofs (disch:=omega)[wrap64]
  rw[List.take_of_length_le (by omega),List.take_of_length_le (by omega)] at hq
  exact RetK.keep (hk _ _ ⟨rfl,by simp[hq]⟩)
theorem c_StateSame {h:Heap}{v w:Value}{a b:Sta}(Ra:Rep h v a) (Rb:Rep h w b):CallE Try.prog fn_impl_StateSame [v,w] h (fun u h'=>h'=h∧u=.bool (decide (a=b))):=by
 obtain⟨v1,v2,rfl,R1,R2⟩:=Rep_Sta.1 Ra
 obtain⟨w1,w2,rfl,S1,S2⟩:=Rep_Sta.1 Rb
 refine CallE.gen fun k hk=>EN_impl_StateSame rfl ?_
 simp -implicitDefEqProofs (disch:=omega)[wrap64]
 refine (c_Equal_int R1 S1).go ?_
 rintro _ h ⟨rfl,rfl⟩
 by_cases h1:a.locs=b.locs
 case neg=>
  simp -implicitDefEqProofs (disch:=first|omega|(simp only[LnZ];omega))[wrap64,h1]
  exact RetK.keep (hk _ _ ⟨rfl,by simp[Sta.ext_iff',h1]⟩)
 simp -implicitDefEqProofs (disch:=first|omega|(simp only[LnZ];omega))[wrap64,h1]
 refine (c_Equal_int R2 S2).go ?_
 rintro _ h ⟨rfl,rfl⟩
 simp -implicitDefEqProofs (disch:=omega)[wrap64]
 exact RetK.keep (hk _ _ ⟨rfl,by simp[Sta.ext_iff',h1]⟩)
theorem c_of {g h:Heap}{Γ:List HP}{b:Nat}{sl v:Value}{l:List (BitVec 8)}{p:Int}{xs:List ByteArray}(R:Rep g sl l) (H:HS g (ow v xs::rb b sl p::Γ) h) (hp:0≤p) (hp2:p<1099511627776) (hx:xs≠[]) :
  CallE Try.prog fn_spec_l16Rd_of [.pointer (some ⟨b,0,none⟩),v] h (fun u h'=>∃r∈xs,u=.string r∧HS g (rb b sl (p+1)::Γ) h'):=by
 have hL:=H.rep.lt
 have hpos:0<xs.length:=List.length_pos_iff.2 hx
 refine CallE.gen fun k hk=>EN_spec_l16Rd_of rfl ?_
 simp -implicitDefEqProofs (disch:=first|omega|(simp only[LnZ];omega))[wrap64,H.rep.len]
 refine (c_pick R H.sw1 hp hp2 ⟨by omega,by omega⟩).go ?_
 rintro _ h1 ⟨r,rfl,hr,hr0,hr1,H⟩
 obtain⟨i,rfl⟩:∃i:Nat,r=i:=⟨r.toNat,(Int.toNat_of_nonneg hr0).symm⟩
 have hi:i<xs.length:=by have:=hr1 (by omega);omega
 have hS:=H.sw1.rep.S
 simp -implicitDefEqProofs (disch:=first|omega|(simp only[LnZ];omega))[wrap64,hS]
 exact RetK.keep (hk _ _ ⟨xs[i],List.getElem_mem hi,rfl,H.sw1.drop⟩)
theorem c_l1Bend {g h:Heap}{Γ:List HP}{b:Nat}{sl v:Value}{l:List (BitVec 8)}{p:Int}{xs:List ByteArray}{t:List UInt8}(R:Rep g sl l) (H:HS g (ow v xs::rb b sl p::Γ) h) (hp:0≤p) (hp2:p+200≤1000000000000) (hx:xs≠[]) (hxs:∀x∈xs,x.size≤8) (ht:t.length≤1048000) :
  CallE Try.prog fn_spec_l1Bend [.pointer (some ⟨b,0,none⟩),.string (Tx t),v] h (fun u h'=>∃(t':List UInt8) (p':Int),u=.string (Tx t')∧HS g (rb b sl p'::Γ) h'∧t'.length≤t.length+8∧p≤p'∧p'≤p+10):=by
 refine CallE.gen fun k hk=>EN_spec_l1Bend rfl ?_
 by_cases q0:t=[]
 ·subst q0
  simp -implicitDefEqProofs (disch:=omega)[wrap64]
  exact RetK.keep (hk _ _ ⟨[],p,rfl,H.drop,by simp,by omega,by omega⟩)
 have hpos:0<t.length:=List.length_pos_iff.2 q0
 have q1:¬(t.length:Int)=0:=by omega
 have q2:¬t.length=0:=by omega
 simp -implicitDefEqProofs (disch:=first|omega|(simp only[LnZ];omega))[wrap64,q0,q1,q2]
 refine (c_pick (n:=2) R H.sw1 hp (by omega) ⟨by decide,by decide⟩).go ?_
 rintro _ h1 ⟨r1,rfl,_,_,_,H⟩
 by_cases c0:r1=0
 ·simp -implicitDefEqProofs (disch:=first|omega|(simp only[LnZ];omega))[wrap64,c0]
  exact RetK.keep (hk _ _ ⟨t,p+1,rfl,H.sw1.drop,by omega,by omega,by omega⟩)
 simp -implicitDefEqProofs (disch:=first|omega|(simp only[LnZ];omega))[wrap64,c0]
 refine (c_pick (n:=t.length) R H (by omega) (by omega) ⟨by omega,by omega⟩).go ?_
 rintro _ h2 ⟨r2,rfl,_,z2,y2,H⟩
 obtain⟨i,rfl⟩:∃i:Nat,r2=i:=⟨r2.toNat,(Int.toNat_of_nonneg z2).symm⟩
 have hi:i<t.length:=by have:=y2 (by omega);omega
 have e1:=slcTx0 (l:=t) (k:=.i64) (b:=i) (by omega)
 simp -implicitDefEqProofs (disch:=first|omega|(simp only[LnZ];omega))[wrap64,e1]
 refine (c_of R H.sw1 (by omega) (by omega) hx).go ?_
 rintro _ h3 ⟨r,hr,rfl,H⟩
 have hr8:=hxs r hr
 obtain⟨r,rfl⟩:∃r',r=Tx r':=⟨_,(Tx_eta r).symm⟩
 rw[Tx_size] at hr8
 have b1:(t.take i).length≤t.length:=by rw[List.length_take];omega
 simp -implicitDefEqProofs (disch:=first|omega|(simp only[LnZ];omega))[wrap64,e1]
 refine (c_pick (n:=2) R H (by omega) (by omega) ⟨by decide,by decide⟩).go ?_
 rintro _ h4 ⟨r3,rfl,q3,z3,y3,H⟩
 obtain⟨j,rfl⟩:∃j:Nat,r3=j:=⟨r3.toNat,(Int.toNat_of_nonneg z3).symm⟩
 have hj:=y3 (by decide)
 have e2:=slcTxE (l:=t) (k:=.i64) (a:=i+j) (by omega)
 rw[Int.natCast_add] at e2
 have b2:¬(9223372036854775807:Int)<(i:Int)+(r.length:Int)+((t.length-(i+j):Nat):Int):=by omega
 simp -implicitDefEqProofs (disch:=first|omega|(simp only[LnZ];omega))[wrap64,e1,e2,b2]
 exact RetK.keep (hk _ _ ⟨t.take i++(r++t.drop (i+j)),_,rfl,H,by simp only[List.length_append,List.length_take,List.length_drop];omega,by omega,by omega⟩)
theorem c_DrawParseState {h:Heap}{v:Value}{l:List (BitVec 8)}(R:Rep h v l):CallE Try.prog fn_spec_DrawParseState [v] h (fun u h'=>∃(w:Value) (s:Sy) (t:List UInt8),u=.tuple #[w,.string (Tx t)]∧HS h [ow w s] h'∧t.length≤100):=by
 refine CallE.gen fun k hk=>EN_spec_DrawParseState rfl ?_
 simp -implicitDefEqProofs (disch:=omega)[wrap64]
 refine (c_l16Open R).go ?_
 rintro _ h1 ⟨b,sl,l',rfl,R',H⟩
 simp -implicitDefEqProofs (disch:=omega)[wrap64]
 refine (c_l2System R' H (by omega) (by omega)).go ?_
 rintro u h2 ⟨s,p1,H,hs,hp1,hp2⟩
 have FS:=H.rep.aSy
 simp -implicitDefEqProofs (disch:=first|omega|(simp only[LnZ];omega))[wrap64,FS,setC]
 obtain⟨g1,H1,H2⟩:=HS.rebase (Δ:=[rb b sl p1]) H.sw1
 refine (c_l3State (R'.on H1) H1.rep H2 (by omega) (by omega)).go ?_
 rintro w h3 ⟨st,p2,H3,hst,hp3,hp4⟩
 have H:=H3.app H1
 have FT:=H.rep.aSta
 have hl1:=hst.ll
 have hl2:=hst.vl
 simp -implicitDefEqProofs (disch:=first|omega|(simp only[LnZ];omega))[wrap64,FT,FS]
 refine (c_spec_FormatState H.rep (by omega) (by omega)).go ?_
 rintro _ h4 ⟨l4,rfl⟩
 have H:=H.le l4
 have hfl:st.fmt.length≤9:=by
  have h1:=dgR_len (l:=st.locs)
  have h2:=dgR_len (l:=st.vals)
  rw[Sta.fmt_eq]
  split
  ·simp only[List.length_append,List.length_cons];omega
  ·simp
 generalize st.fmt=t at *
 simp -implicitDefEqProofs (disch:=first|omega|(simp only[LnZ];omega))[wrap64,FT,FS]
 refine HS.bls (H.drop) [Tx [],Tx [47],Tx [48],Tx [51],Tx [52],Tx [57],Tx [97],Tx [32]] rfl rfl (by simp[Flat.ok]) (by decide) fun q hq H=>?_
 simp -implicitDefEqProofs (disch:=first|omega|(simp only[LnZ];omega))[wrap64,FS]
 have H:HS h [ow q [Tx [],Tx [47],Tx [48],Tx [51],Tx [52],Tx [57],Tx [97],Tx [32]],rb b sl p2,ow u s] hq:=H
 refine (c_l1Bend R' H (by omega) (by omega) (by decide) (by decide) (by omega)).go ?_
 rintro _ h5 ⟨t',p3,rfl,H,hl3,hp5,hp6⟩
 simp -implicitDefEqProofs (disch:=first|omega|(simp only[LnZ];omega))[wrap64,FS]
 obtain⟨g3,H1,H2⟩:=HS.rebase (Δ:=[rb b sl p3]) H
 refine (c_l2Mutate (R'.on H1) H1.rep hs (by omega) (by omega) H2 (by omega) (by omega)).go ?_
 rintro x h5 ⟨y,p4,H3,hy,hp7,hp8⟩
 have H:=H3.app H1
 have FY:=H.rep.aSy
 simp -implicitDefEqProofs (disch:=first|omega|(simp only[LnZ];omega))[wrap64,FY,setC]
 exact RetK.keep (hk _ _ ⟨x,y,t',rfl,(H.under fun _ H=>H.drop.drop),by omega⟩)
theorem psT_fmt {s:Sy}{st:Sta}:psT s st.fmt=if s.Ok∧st.Ok s then some st else none:=by
 split
 ·rename_i h
  exact psT_iff.2 ⟨h.1,h.2,rfl⟩
 ·rename_i h
  refine psT_none fun st' hs hst' he=>h ⟨hs,?_⟩
  have hd:=hst'.d hs
  have hd2:st.dOk:=by
   by_cases q:st.dOk
   ·exact q
   ·rw[Sta.fmt_ok hd,Sta.fmt,if_neg q] at he
    exact absurd he (by simp)
  have h1:=Sta.fmt_spl hd
  have h2:=Sta.fmt_spl hd2
  rw[he,h2] at h1
  simp only[List.cons.injEq,and_true] at h1
  have e1:=congrArg nums h1.1
  have e2:=congrArg nums h1.2
  rw[nums_dgs hd.1,nums_dgs hd2.1] at e1
  rw[nums_dgs hd.2,nums_dgs hd2.2] at e2
  have:st=st':=Sta.ext_iff'.2 ⟨e1,e2⟩
  rw[this]
  exact hst'
theorem Sta.fmt_len (st:Sta):st.fmt.length≤st.locs.length+st.vals.length+1:=by
 have h1:=dgR_len (l:=st.locs)
 have h2:=dgR_len (l:=st.vals)
 rw[Sta.fmt_eq]
 split
 ·simp only[List.length_append,List.length_cons];omega
 ·simp
set_option maxHeartbeats 2000000 in
theorem c_FnStateText {h:Heap}{v w:Value}{l m:List (BitVec 8)}(R:Rep h v l) (RM:Rep h w m):CallE Try.prog fn_laws_FnStateText [v,w] h (fun u h'=>h.le h'∧u=.bool true):=by
 refine CallE.gen fun k hk=>EN_laws_FnStateText rfl ?_
 by_cases a1:(1048576:Int)<l.length
 ·simp -implicitDefEqProofs (disch:=first|omega|(simp only[LnZ];omega))[wrap64,R.len,a1]
  exact RetK.keep (hk _ _ ⟨Heap.le.refl _,rfl⟩)
 by_cases a2:(1048576:Int)<m.length
 ·simp -implicitDefEqProofs (disch:=first|omega|(simp only[LnZ];omega))[wrap64,R.len,RM.len,a1,a2]
  exact RetK.keep (hk _ _ ⟨Heap.le.refl _,rfl⟩)
 simp -implicitDefEqProofs (disch:=first|omega|(simp only[LnZ];omega))[wrap64,R.len,RM.len,a1,a2]
 refine (c_DrawStateValidL R).go ?_
 rintro _ h1 ⟨u1,u2,s,st,rfl,H,q1,q2⟩
 have FS:=H.rep.aSy
 have FT:=H.sw1.rep.aSta
 have hfl:=st.fmt_len
 simp -implicitDefEqProofs (disch:=first|omega|(simp only[LnZ];omega))[wrap64,FS,FT,setC]
 refine (c_FormatState H.sw1.rep (by omega) (by omega)).go ?_
 rintro _ _ ⟨rfl,rfl⟩
 simp -implicitDefEqProofs (disch:=first|omega|(simp only[LnZ];omega))[wrap64,FS,FT,setC]
 refine (c_ParseState H.rep (by omega)).go ?_
 rintro _ h2 ⟨p,rfl,G⟩
 have H:=G.app H
 have FP:=H.rep.aSta
 simp -implicitDefEqProofs (disch:=first|omega|(simp only[LnZ];omega))[wrap64,FS,FT,FP,setC]
 refine (c_spec_FormatState H.sw2.rep (by omega) (by omega)).go ?_
 rintro _ h3 ⟨l3,rfl⟩
 have H:=H.le l3
 simp -implicitDefEqProofs (disch:=first|omega|(simp only[LnZ];omega))[wrap64,FS,FT,FP,setC]
 refine (c_StateValidT H.sw1.rep H.sw2.rep).go ?_
 rintro _ h4 ⟨l4,rfl⟩
 have H:=H.le l4
 simp -implicitDefEqProofs (disch:=first|omega|(simp only[LnZ];omega))[wrap64,FS,FT,FP,setC]
 refine (c_spec_StateValid H.sw1.rep H.sw2.rep).go ?_
 rintro _ _ ⟨rfl,rfl⟩
 simp -implicitDefEqProofs (disch:=first|omega|(simp only[LnZ];omega))[wrap64,FS,FT,FP,setC]
 refine (c_spec_StateValid H.sw1.rep H.sw2.rep).go ?_
 rintro _ _ ⟨rfl,rfl⟩
 rw[psT_fmt] at *
 by_cases q:s.Ok∧st.Ok s
 ·rw[if_pos q] at *
  simp -implicitDefEqProofs (disch:=first|omega|(simp only[LnZ];omega))[wrap64,q,FS,FT,FP,setC]
  refine (c_StateSame H.rep H.sw2.rep).go ?_
  rintro _ _ ⟨rfl,rfl⟩
  simp -implicitDefEqProofs (disch:=first|omega|(simp only[LnZ];omega))[wrap64,FS,FT,FP,setC]
  refine (c_DrawParseState (RM.le H.base)).go ?_
  rintro _ h5 ⟨w1,s2,t,rfl,G,ht⟩
  have H:=G.app H
  have FS2:=H.rep.aSy
  simp -implicitDefEqProofs (disch:=first|omega|(simp only[LnZ];omega))[wrap64,FS2,setC]
  refine (c_ParseState H.rep (by omega)).go ?_
  rintro _ h6 ⟨p2,rfl,G⟩
  have H:=G.app H
  have FP2:=H.rep.aSta
  simp -implicitDefEqProofs (disch:=first|omega|(simp only[LnZ];omega))[wrap64,FS2,FP2,setC]
  refine (c_spec_ParseState H.sw1.rep (by omega)).go ?_
  rintro _ h7 ⟨p3,rfl,G⟩
  have H:=G.app H
  have FP3:=H.rep.aSta
  simp -implicitDefEqProofs (disch:=first|omega|(simp only[LnZ];omega))[wrap64,FS2,FP2,FP3,setC]
  refine (c_StateSame H.sw1.rep H.rep).go ?_
  rintro _ _ ⟨rfl,rfl⟩
  cases e:psT s2 t with
  | none=>
   simp -implicitDefEqProofs (disch:=first|omega|(simp only[LnZ];omega))[wrap64,FS2,FP2,FP3,setC]
   exact RetK.keep (hk _ _ ⟨H.base,rfl⟩)
  | some st2=>
   obtain⟨k1,k2,k3⟩:=psT_iff.1 e
   have j1:=k2.len
   have j2:=k2.vs.1
   have j3:=k1.p3
   rw[e] at H
   simp -implicitDefEqProofs (disch:=first|omega|(simp only[LnZ];omega))[wrap64,FS2,FP2,FP3,setC]
   refine (c_FormatState (st:=st2) H.sw1.rep (by omega) (by omega)).go ?_
   rintro _ _ ⟨rfl,rfl⟩
   rw[k3]
   simp -implicitDefEqProofs (disch:=omega)[wrap64]
   exact RetK.keep (hk _ _ ⟨H.base,rfl⟩)
 ·rw[if_neg q] at *
  simp -implicitDefEqProofs (disch:=first|omega|(simp only[LnZ];omega))[wrap64,q,FS,FT,FP,setC]
  refine (c_DrawParseState (RM.le H.base)).go ?_
  rintro _ h5 ⟨w1,s2,t,rfl,G,ht⟩
  have H:=G.app H
  have FS2:=H.rep.aSy
  simp -implicitDefEqProofs (disch:=first|omega|(simp only[LnZ];omega))[wrap64,FS2,setC]
  refine (c_ParseState H.rep (by omega)).go ?_
  rintro _ h6 ⟨p2,rfl,G⟩
  have H:=G.app H
  have FP2:=H.rep.aSta
  simp -implicitDefEqProofs (disch:=first|omega|(simp only[LnZ];omega))[wrap64,FS2,FP2,setC]
  refine (c_spec_ParseState H.sw1.rep (by omega)).go ?_
  rintro _ h7 ⟨p3,rfl,G⟩
  have H:=G.app H
  have FP3:=H.rep.aSta
  simp -implicitDefEqProofs (disch:=first|omega|(simp only[LnZ];omega))[wrap64,FS2,FP2,FP3,setC]
  refine (c_StateSame H.sw1.rep H.rep).go ?_
  rintro _ _ ⟨rfl,rfl⟩
  cases e:psT s2 t with
  | none=>
   simp -implicitDefEqProofs (disch:=first|omega|(simp only[LnZ];omega))[wrap64,FS2,FP2,FP3,setC]
   exact RetK.keep (hk _ _ ⟨H.base,rfl⟩)
  | some st2=>
   obtain⟨k1,k2,k3⟩:=psT_iff.1 e
   have j1:=k2.len
   have j2:=k2.vs.1
   have j3:=k1.p3
   rw[e] at H
   simp -implicitDefEqProofs (disch:=first|omega|(simp only[LnZ];omega))[wrap64,FS2,FP2,FP3,setC]
   refine (c_FormatState (st:=st2) H.sw1.rep (by omega) (by omega)).go ?_
   rintro _ _ ⟨rfl,rfl⟩
   rw[k3]
   simp -implicitDefEqProofs (disch:=omega)[wrap64]
   exact RetK.keep (hk _ _ ⟨H.base,rfl⟩)
end Go.Proofs.Ytjbjnicobdpdhaa
