/-
  Texts of this proof, one behind the other.
-/
import Derived.Test.YtjbjnicobdpdhaaGreatDoorYF4
set_option linter.all false
set_option linter.unusedVariables false
set_option linter.unusedSimpArgs false
set_option linter.defProp false
set_option maxRecDepth 1000000
namespace Go.Proofs.YtjbjnicobdpdhaaGreatDoor
open Go
theorem c_spec_FormatExpr {h:Heap}{v:Value}{x:Exq}(R:Rep h v x):CallE Tryz.prog fn_spec_FormatExpr [v] h (fun u h'=>h.le h'∧u=.string (Tx (if x.Ok then x.fmt else []))):=by
 have FX:=R.aExq
 refine CallE.gen fun k hk=>EN_spec_FormatExpr rfl ?_
 simp -implicitDefEqProofs (disch:=first|omega|(simp only[LnZ];omega))[wrap64,FX]
 refine (c_spec_ExprValid R).go ?_
 rintro _ h ⟨rfl,rfl⟩
 by_cases q:x.Ok
 ·simp -implicitDefEqProofs (disch:=first|omega|(simp only[LnZ];omega))[wrap64,q,FX]
  refine (c_l1Format _ q.1 q.2 R).go ?_
  rintro _ h1 ⟨l1,rfl⟩
  simp -implicitDefEqProofs (disch:=omega)[wrap64]
  exact RetK.keep (hk _ _ ⟨l1,by rw[if_pos q]⟩)
 ·simp -implicitDefEqProofs (disch:=first|omega|(simp only[LnZ];omega))[wrap64,q]
  exact RetK.keep (hk _ _ ⟨Heap.le.refl _,by rw[if_neg q]⟩)
def PE (t:List UInt8) (o:Option Exq):Prop:=∀x:Exq,x.Ok→t=x.fmt→o=some x
theorem c_spec_ParseExpr {h:Heap}{t:List UInt8}(ht:t.length≤1048577):CallE Tryz.prog fn_spec_ParseExpr [.string (Tx t)] h (fun u h'=>∃o,R2 o.isSome (o.getD Exq.zero) h u h'∧PE t o):=by
 have i0:I64 0:=⟨by decide,by decide⟩
 refine CallE.gen fun k hk=>EN_spec_ParseExpr rfl ?_
 have nil:∀{h':Heap},h.le h'→PE t none→k (.tuple #[.agg #[.int .i64 0,.int .i64 0,.slice none 0 0],.bool false]) h':=fun hl he=>hk _ _ ⟨none,⟨_,rfl,HS.mkE0 (Γ:=[]) hl i0 i0⟩,he⟩
 simp -implicitDefEqProofs (disch:=omega)[wrap64]
 refine (c_l1Parse 6 (p:=0) (by omega) ht (by omega)).go ?_
 rintro _ h1 ⟨v,y,m,rfl,H,hm,hA⟩
 obtain⟨w,rfl,_,_,Rw⟩:=Rep_Exq.1 H.rep
 have FY:=H.rep.aExq
 have hOw:=Rw.one
 have hCw:=Rw.cells
 have hx:∀x:Exq,x.Ok→t=x.fmt→y=x∧m=t.length:=fun x h1 h2=>by
  have:=hA x [] h1.1 (by rw[List.append_nil,← h2];rfl)
  exact⟨this.1,by rw[this.2,h2];simp⟩
 have hmr:I64 m:=by rcases hm with rfl | ⟨j,rfl,hj⟩<;>exact⟨by omega,by omega⟩
 by_cases c1:t=[]
 ·simp -implicitDefEqProofs (disch:=first|omega|(simp only[LnZ];omega))[wrap64,FY,setC,hOw,hCw,c1]
  refine RetK.keep (nil H.base fun x h1 h2=>?_)
  have:=h1.fmt_len
  rw[← h2,c1] at this
  simp at this
 by_cases c2:m=t.length
 case neg=>
  simp -implicitDefEqProofs (disch:=first|omega|(simp only[LnZ];omega))[wrap64,FY,setC,hOw,hCw,c1,c2]
  exact RetK.keep (nil H.base fun x h1 h2=>absurd (hx x h1 h2).2 c2)
 simp -implicitDefEqProofs (disch:=first|omega|(simp only[LnZ];omega))[wrap64,FY,setC,hOw,hCw,c1,c2]
 refine (c_spec_FormatExpr H.rep).go ?_
 rintro _ h3 ⟨l3,rfl⟩
 obtain⟨z,hz⟩:∃z,z=(if y.Ok then y.fmt else []):=⟨_,rfl⟩
 rw[← hz]
 by_cases c3:y.Ok∧y.fmt=t
 ·rw[if_pos c3.1,c3.2] at hz
  subst hz
  simp -implicitDefEqProofs (disch:=first|omega|(simp only[LnZ];omega))[wrap64,FY,setC,hOw,hCw]
  exact RetK.keep (hk _ _ ⟨some y,⟨_,rfl,H.le l3⟩,fun x h1 h2=>by rw[(hx x h1 h2).1]⟩)
 ·have c4:¬z=t:=fun hh=>by
   rw[hz] at hh
   by_cases q:y.Ok
   ·rw[if_pos q] at hh;exact c3 ⟨q,hh⟩
   ·rw[if_neg q] at hh;exact c1 hh.symm
  have c5:¬Tx z=Tx t:=fun hh=>c4 (Tx_inj.1 hh)
  simp -implicitDefEqProofs (disch:=first|omega|(simp only[LnZ];omega))[wrap64,FY,setC,hOw,hCw,c4,c5]
  exact RetK.keep (nil (H.base.trans l3) fun x h1 h2=>absurd ⟨by rw[(hx x h1 h2).1];exact h1,by rw[(hx x h1 h2).1,h2]⟩ c3)
def vl (l:List UInt8):Nat:=l.foldl (fun a c=>a*10+(c.toNat-48)) 0
theorem c_l16Num {h:Heap}{t:List UInt8}(ht:t.length≤1048577):CallE Tryz.prog fn_spec_l16Num [.string (Tx t)] h (fun u h'=>h'=h∧∃n b,u=.tuple #[.int .i64 n,.bool b]∧-200000000000000000≤n∧n≤200000000000000000∧∀v,0≤v→v≤9→t=[dg v]→n=v):=by
 refine CallE.gen fun k hk=>EN_spec_l16Num rfl ?_
 have zz:∀{h':Heap},(∀v,0≤v→v≤9→t=[dg v]→False)→(h'=h)→k (.tuple #[.int .i64 0,.bool false]) h':=fun hno e=>hk _ _ ⟨e,0,false,rfl,by decide,by decide,fun v h0 h9 e=>(hno v h0 h9 e).elim⟩
 have zz:=@zz h
 replace zz:=fun hh=>zz hh rfl
 by_cases q0:∃r,t=45::r
 ·obtain⟨r,rfl⟩:=q0
  have hex:∀v,0≤v→v≤9→(45:UInt8)::r=[dg v]→r=[dg v]∧true=false:=fun v h0 h9 e=>absurd (List.cons.inj e).1.symm (dg_ne h0 h9 (.inl (by decide)))
  have hi0:idxSV (.string (Tx (45::r))) (.int .i64 0)=some (.int .u8 45):=rfl
  have hs1:sliceSV (.string (Tx (45::r))) (some (some (.int .i64 1))) none=some (.string (Tx r)):=slcTxE (l:=45::r) (k:=.i64) (a:=1) (by simp)
  have hrl:r.length≤1048577:=by simp at ht;omega
  by_cases d0:r=[]
  ·subst d0
   simp -implicitDefEqProofs (disch:=first|omega|(simp only[LnZ];omega))[wrap64,hi0,hs1]
   exact RetK.keep (zz fun v h0 h9 e=>by have:=(hex v h0 h9 e).1;simp at this)
  have d0l:0<r.length:=List.length_pos_iff.2 d0
  have d0i:¬(r.length:Int)=0:=by omega
  have d0n:¬r.length=0:=by omega
  by_cases d1:17<r.length
  ·have d1i:(17:Int)<r.length:=by omega
   simp -implicitDefEqProofs (disch:=first|omega|(simp only[LnZ];omega))[wrap64,hi0,hs1,d0,d0i,d0n,d1i]
   exact RetK.keep (zz fun v h0 h9 e=>by have:=(hex v h0 h9 e).1;rw[this] at d1;simp at d1)
  have d1i:¬(17:Int)<r.length:=by omega
  have hix:=idxTx0 (l:=r) (kd:=.i64) d0l
  by_cases d2:r[0].toNat=48∧(1<r.length∨true=true)
  ·have d2i:((r[0].toNat:Nat):Int)=48:=by omega
   by_cases d3:1<r.length
   ·have d3i:(1:Int)<r.length:=by omega
    simp -implicitDefEqProofs (disch:=first|omega|(simp only[LnZ];omega))[wrap64,hi0,hs1,d0,d0i,d0n,d1i,hix,d2i,d3i]
    exact RetK.keep (zz fun v h0 h9 e=>by have:=(hex v h0 h9 e).1;rw[this] at d3;simp at d3)
   ·have d3i:¬(1:Int)<r.length:=by omega
    have hng:true=true:=d2.2.resolve_left d3
    first
    | (simp -implicitDefEqProofs (disch:=first|omega|(simp only[LnZ];omega))[wrap64,hi0,hs1,d0,d0i,d0n,d1i,hix,d2i,d3i];exact RetK.keep (zz fun v h0 h9 e=>by have:=(hex v h0 h9 e).2;simp at this))
    |exact absurd hng (by simp)
  have go:(r[0].toNat=48→¬1<r.length∧true=false):=fun h1=>by
   refine⟨fun h2=>d2 ⟨h1,.inl h2⟩,?_⟩
   cases hN:true with
   | false=>rfl
   | true=>exact absurd ⟨h1,.inr hN⟩ d2
  by_cases d4:r[0].toNat=48
  ·have d4i:((r[0].toNat:Nat):Int)=48:=by omega
   have d5i:¬(1:Int)<r.length:=by have:=(go d4).1;omega
   have d5n:¬1<r.length:=(go d4).1
   exact absurd (go d4).2 (by simp)
  ·have d4i:¬((r[0].toNat:Nat):Int)=48:=by omega
   simp -implicitDefEqProofs (disch:=first|omega|(simp only[LnZ];omega))[wrap64,hi0,hs1,d0,d0i,d0n,d1i,hix,d4,d4i]
   refine wp_count r.length (fun i e h'=>∃m:Nat,e=[some (.string (Tx r)),none,none,some (.bool true),some (.int .i64 m),some (.int .i64 i)]∧h'=h∧m<10^i∧m=vl (r.take i)) ⟨0,by simp,rfl,by decide,rfl⟩ ?_
   rintro J i _ h hJ hi ⟨m,rfl,rfl,hm,hv⟩
   have hpw:(10:Nat)^i≤10^17:=Nat.pow_le_pow_right (by decide) (by omega)
   have hpn:(10:Nat)^17=100000000000000000:=by decide
   simp -implicitDefEqProofs (disch:=omega)[wrap64]
   refine IteW.mk (fun hlt=>?_) (fun hge=>?_)
   ·have hix:i<r.length:=by omega
    have hb:=idxTx (l:=r) (kd:=.i64) hix
    have hcl:=r[i].toNat_lt
    by_cases e1:r[i].toNat<48
    ·have e1i:((r[i].toNat:Nat):Int)<48:=by omega
     simp -implicitDefEqProofs (disch:=first|omega|(simp only[LnZ];omega))[wrap64,hb,e1i]
     refine RetK.keep (zz fun v h0 h9 e=>?_)
     have h5:=(hex v h0 h9 e).1
     have h6:=dg_nat h0 h9
     subst h5
     obtain rfl:i=0:=by simp at hix;omega
     simp only[List.getElem_cons_zero] at e1
     omega
    by_cases e2:57<r[i].toNat
    ·have e1i:¬((r[i].toNat:Nat):Int)<48:=by omega
     have e2i:(57:Int)<((r[i].toNat:Nat):Int):=by omega
     simp -implicitDefEqProofs (disch:=first|omega|(simp only[LnZ];omega))[wrap64,hb,e1i,e2i]
     refine RetK.keep (zz fun v h0 h9 e=>?_)
     have h5:=(hex v h0 h9 e).1
     have h6:=dg_nat h0 h9
     subst h5
     obtain rfl:i=0:=by simp at hix;omega
     simp only[List.getElem_cons_zero] at e2
     omega
    ·have e1i:¬((r[i].toNat:Nat):Int)<48:=by omega
     have e2i:¬(57:Int)<((r[i].toNat:Nat):Int):=by omega
     have e3:IntKind.u8.wrap (((r[i].toNat:Nat):Int)-48)=((r[i].toNat-48:Nat):Int):=by rw[← u8_small (m:=r[i].toNat-48) (by omega)];congr 1;omega
     simp -implicitDefEqProofs (disch:=first|omega|(simp only[LnZ];omega))[wrap64,hb,e1i,e2i,e3]
     have hp2:(10:Nat)^(i+1)=10^i*10:=Nat.pow_succ 10 i
     refine hJ _ _ hix ⟨m*10+(r[i].toNat-48),by simp,rfl,by omega,?_⟩
     rw[List.take_add_one,List.getElem?_eq_getElem hix,vl,List.foldl_append,← vl,← hv]
     rfl
   ·obtain rfl:i=r.length:=by omega
    rw[List.take_length] at hv
    simp -implicitDefEqProofs (disch:=omega)[wrap64]
    exact RetK.keep (hk _ _ ⟨rfl,-(m:Int),true,rfl,by omega,by omega,fun v h0 h9 e=>by have:=(hex v h0 h9 e).2;simp at this⟩)
 ·have hex:∀v,0≤v→v≤9→t=[dg v]→t=[dg v]∧false=false:=fun v h0 h9 e=>⟨e,rfl⟩
  by_cases d0:t=[]
  ·subst d0
   simp -implicitDefEqProofs (disch:=omega)[wrap64]
   exact RetK.keep (zz fun v h0 h9 e=>by simp at e)
  have d0l:0<t.length:=List.length_pos_iff.2 d0
  have d0li:(0:Int)<t.length:=by omega
  have hixb:=idxTx0 (l:=t) (kd:=.i64) d0l
  have h45:¬((t[0].toNat:Nat):Int)=45:=fun e=>q0 ⟨t.tail,by
   match t,d0l with
   | a::r,_=>
    have:a=45:=UInt8.toNat_inj.1 (by have e:((a.toNat:Nat):Int)=45:=e;show a.toNat=45;omega)
    rw[this];rfl⟩
  have h45n:¬t[0].toNat=45:=by omega
  have d0i:¬(t.length:Int)=0:=by omega
  have d0n:¬t.length=0:=by omega
  by_cases d1:17<t.length
  ·have d1i:(17:Int)<t.length:=by omega
   simp -implicitDefEqProofs (disch:=first|omega|(simp only[LnZ];omega))[wrap64,d0l,d0li,hixb,h45,h45n,d0,d0i,d0n,d1i]
   exact RetK.keep (zz fun v h0 h9 e=>by have:=(hex v h0 h9 e).1;rw[this] at d1;simp at d1)
  have d1i:¬(17:Int)<t.length:=by omega
  have hix:=idxTx0 (l:=t) (kd:=.i64) d0l
  by_cases d2:t[0].toNat=48∧(1<t.length∨false=true)
  ·have d2i:((t[0].toNat:Nat):Int)=48:=by omega
   by_cases d3:1<t.length
   ·have d3i:(1:Int)<t.length:=by omega
    simp -implicitDefEqProofs (disch:=first|omega|(simp only[LnZ];omega))[wrap64,d0l,d0li,hixb,h45,h45n,d0,d0i,d0n,d1i,hix,d2i,d3i]
    exact RetK.keep (zz fun v h0 h9 e=>by have:=(hex v h0 h9 e).1;rw[this] at d3;simp at d3)
   ·have d3i:¬(1:Int)<t.length:=by omega
    have hng:false=true:=d2.2.resolve_left d3
    first
    | (simp -implicitDefEqProofs (disch:=first|omega|(simp only[LnZ];omega))[wrap64,d0l,d0li,hixb,h45,h45n,d0,d0i,d0n,d1i,hix,d2i,d3i];exact RetK.keep (zz fun v h0 h9 e=>by have:=(hex v h0 h9 e).2;simp at this))
    |exact absurd hng (by simp)
  have go:(t[0].toNat=48→¬1<t.length∧false=false):=fun h1=>by
   refine⟨fun h2=>d2 ⟨h1,.inl h2⟩,?_⟩
   cases hN:false with
   | false=>rfl
   | true=>exact absurd ⟨h1,.inr hN⟩ d2
  by_cases d4:t[0].toNat=48
  ·have d4i:((t[0].toNat:Nat):Int)=48:=by omega
   have d5i:¬(1:Int)<t.length:=by have:=(go d4).1;omega
   have d5n:¬1<t.length:=(go d4).1
   simp -implicitDefEqProofs (disch:=first|omega|(simp only[LnZ];omega))[wrap64,d0l,d0li,hixb,h45,h45n,d0,d0i,d0n,d1i,hix,d4i,d5i,d5n]
   refine wp_count t.length (fun i e h'=>∃m:Nat,e=[some (.string (Tx t)),none,none,some (.bool false),some (.int .i64 m),some (.int .i64 i)]∧h'=h∧m<10^i∧m=vl (t.take i)) ⟨0,by simp,rfl,by decide,rfl⟩ ?_
   rintro J i _ h hJ hi ⟨m,rfl,rfl,hm,hv⟩
   have hpw:(10:Nat)^i≤10^17:=Nat.pow_le_pow_right (by decide) (by omega)
   have hpn:(10:Nat)^17=100000000000000000:=by decide
   simp -implicitDefEqProofs (disch:=omega)[wrap64]
   refine IteW.mk (fun hlt=>?_) (fun hge=>?_)
   ·have hix:i<t.length:=by omega
    have hb:=idxTx (l:=t) (kd:=.i64) hix
    have hcl:=t[i].toNat_lt
    by_cases e1:t[i].toNat<48
    ·have e1i:((t[i].toNat:Nat):Int)<48:=by omega
     simp -implicitDefEqProofs (disch:=first|omega|(simp only[LnZ];omega))[wrap64,hb,e1i]
     refine RetK.keep (zz fun v h0 h9 e=>?_)
     have h5:=(hex v h0 h9 e).1
     have h6:=dg_nat h0 h9
     subst h5
     obtain rfl:i=0:=by simp at hix;omega
     simp only[List.getElem_cons_zero] at e1
     omega
    by_cases e2:57<t[i].toNat
    ·have e1i:¬((t[i].toNat:Nat):Int)<48:=by omega
     have e2i:(57:Int)<((t[i].toNat:Nat):Int):=by omega
     simp -implicitDefEqProofs (disch:=first|omega|(simp only[LnZ];omega))[wrap64,hb,e1i,e2i]
     refine RetK.keep (zz fun v h0 h9 e=>?_)
     have h5:=(hex v h0 h9 e).1
     have h6:=dg_nat h0 h9
     subst h5
     obtain rfl:i=0:=by simp at hix;omega
     simp only[List.getElem_cons_zero] at e2
     omega
    ·have e1i:¬((t[i].toNat:Nat):Int)<48:=by omega
     have e2i:¬(57:Int)<((t[i].toNat:Nat):Int):=by omega
     have e3:IntKind.u8.wrap (((t[i].toNat:Nat):Int)-48)=((t[i].toNat-48:Nat):Int):=by rw[← u8_small (m:=t[i].toNat-48) (by omega)];congr 1;omega
     simp -implicitDefEqProofs (disch:=first|omega|(simp only[LnZ];omega))[wrap64,hb,e1i,e2i,e3]
     have hp2:(10:Nat)^(i+1)=10^i*10:=Nat.pow_succ 10 i
     refine hJ _ _ hix ⟨m*10+(t[i].toNat-48),by simp,rfl,by omega,?_⟩
     rw[List.take_add_one,List.getElem?_eq_getElem hix,vl,List.foldl_append,← vl,← hv]
     rfl
   ·obtain rfl:i=t.length:=by omega
    rw[List.take_length] at hv
    simp -implicitDefEqProofs (disch:=omega)[wrap64]
    exact RetK.keep (hk _ _ ⟨rfl,(m:Int),true,rfl,by omega,by omega,fun v h0 h9 e=>by
    have h6:=dg_nat h0 h9
    rw[hv,e]
    show (((0*10+((dg v).toNat-48):Nat)):Int)=v
    omega⟩)
  ·have d4i:¬((t[0].toNat:Nat):Int)=48:=by omega
   simp -implicitDefEqProofs (disch:=first|omega|(simp only[LnZ];omega))[wrap64,d0l,d0li,hixb,h45,h45n,d0,d0i,d0n,d1i,hix,d4,d4i]
   refine wp_count t.length (fun i e h'=>∃m:Nat,e=[some (.string (Tx t)),none,none,some (.bool false),some (.int .i64 m),some (.int .i64 i)]∧h'=h∧m<10^i∧m=vl (t.take i)) ⟨0,by simp,rfl,by decide,rfl⟩ ?_
   rintro J i _ h hJ hi ⟨m,rfl,rfl,hm,hv⟩
   have hpw:(10:Nat)^i≤10^17:=Nat.pow_le_pow_right (by decide) (by omega)
   have hpn:(10:Nat)^17=100000000000000000:=by decide
   simp -implicitDefEqProofs (disch:=omega)[wrap64]
   refine IteW.mk (fun hlt=>?_) (fun hge=>?_)
   ·have hix:i<t.length:=by omega
    have hb:=idxTx (l:=t) (kd:=.i64) hix
    have hcl:=t[i].toNat_lt
    by_cases e1:t[i].toNat<48
    ·have e1i:((t[i].toNat:Nat):Int)<48:=by omega
     simp -implicitDefEqProofs (disch:=first|omega|(simp only[LnZ];omega))[wrap64,hb,e1i]
     refine RetK.keep (zz fun v h0 h9 e=>?_)
     have h5:=(hex v h0 h9 e).1
     have h6:=dg_nat h0 h9
     subst h5
     obtain rfl:i=0:=by simp at hix;omega
     simp only[List.getElem_cons_zero] at e1
     omega
    by_cases e2:57<t[i].toNat
    ·have e1i:¬((t[i].toNat:Nat):Int)<48:=by omega
     have e2i:(57:Int)<((t[i].toNat:Nat):Int):=by omega
     simp -implicitDefEqProofs (disch:=first|omega|(simp only[LnZ];omega))[wrap64,hb,e1i,e2i]
     refine RetK.keep (zz fun v h0 h9 e=>?_)
     have h5:=(hex v h0 h9 e).1
     have h6:=dg_nat h0 h9
     subst h5
     obtain rfl:i=0:=by simp at hix;omega
     simp only[List.getElem_cons_zero] at e2
     omega
    ·have e1i:¬((t[i].toNat:Nat):Int)<48:=by omega
     have e2i:¬(57:Int)<((t[i].toNat:Nat):Int):=by omega
     have e3:IntKind.u8.wrap (((t[i].toNat:Nat):Int)-48)=((t[i].toNat-48:Nat):Int):=by rw[← u8_small (m:=t[i].toNat-48) (by omega)];congr 1;omega
     simp -implicitDefEqProofs (disch:=first|omega|(simp only[LnZ];omega))[wrap64,hb,e1i,e2i,e3]
     have hp2:(10:Nat)^(i+1)=10^i*10:=Nat.pow_succ 10 i
     refine hJ _ _ hix ⟨m*10+(t[i].toNat-48),by simp,rfl,by omega,?_⟩
     rw[List.take_add_one,List.getElem?_eq_getElem hix,vl,List.foldl_append,← vl,← hv]
     rfl
   ·obtain rfl:i=t.length:=by omega
    rw[List.take_length] at hv
    simp -implicitDefEqProofs (disch:=omega)[wrap64]
    exact RetK.keep (hk _ _ ⟨rfl,(m:Int),true,rfl,by omega,by omega,fun v h0 h9 e=>by
    have h6:=dg_nat h0 h9
    rw[hv,e]
    show (((0*10+((dg v).toNat-48):Nat)):Int)=v
    omega⟩)
set_option maxHeartbeats 1000000 in
theorem c_l2ScanEdge {h:Heap}{v:Value}{a0 a1 a2 a3 a4 a5:List UInt8}(R:Rep h v ([a0,a1,a2,a3,a4,a5].map Tx)) (b1:a1.length≤1048577) (b2:a2.length≤1048577) (b3:a3.length≤1048577) (b4:a4.length≤1048577) :
  CallE Tryz.prog fn_spec_l2ScanEdge [v] h (fun u h'=>∃y:Ed,HS h [ow u y] h'∧∀e n,Ed.Ok e n→[a0,a1,a2,a3,a4,a5]=(Ln.edg e).ws→y=e):=by
 have i0:I64 0:=⟨by decide,by decide⟩
 have im:I64 (-1):=⟨by decide,by decide⟩
 have hws:∀(e:Ed) (n:Int),[a0,a1,a2,a3,a4,a5]=(Ln.edg e).ws→a1=[dg e.frm]∧a2=[dg e.to]∧a3=e.guard.fmt∧a4=e.asg∧a5=syn e.sync:=by
  intro e n hw
  simp only[Ln.ws,List.cons.injEq,and_true] at hw
  exact hw.2
 have hS:=R.S
 have hS1:hload h (some (elp 1 v 1)) none=some (.string (Tx a1)):=hS.2 1 (by simp)
 have hS2:hload h (some (elp 1 v 2)) none=some (.string (Tx a2)):=hS.2 2 (by simp)
 have hS3:hload h (some (elp 1 v 3)) none=some (.string (Tx a3)):=hS.2 3 (by simp)
 have hS4:hload h (some (elp 1 v 4)) none=some (.string (Tx a4)):=hS.2 4 (by simp)
 have hS5:hload h (some (elp 1 v 5)) none=some (.string (Tx a5)):=hS.2 5 (by simp)
 have hI:=(R.X (n:=1) rfl).1
 have hI1:iaV 1 v (.int .i64 1)=some (elp 1 v 1):=hI .i64 1 (by simp)
 have hI2:iaV 1 v (.int .i64 2)=some (elp 1 v 2):=hI .i64 2 (by simp)
 have hI3:iaV 1 v (.int .i64 3)=some (elp 1 v 3):=hI .i64 3 (by simp)
 have hI4:iaV 1 v (.int .i64 4)=some (elp 1 v 4):=hI .i64 4 (by simp)
 have hI5:iaV 1 v (.int .i64 5)=some (elp 1 v 5):=hI .i64 5 (by simp)
 refine CallE.gen fun k hk=>EN_spec_l2ScanEdge rfl ?_
 simp -implicitDefEqProofs (disch:=first|omega|(simp only[LnZ];omega))[wrap64,setC,hI1,hS1]
 refine (c_l16Num b1).go ?_
 rintro _ h ⟨rfl,n1,bb,rfl,r1,r2,hn1⟩
 replace hn1:∀e n,Ed.Ok e n→[a0,a1,a2,a3,a4,a5]=(Ln.edg e).ws→n1=e.frm:=fun e n he hw=>hn1 _ he.f0 (by have:=he.f1;have:=he.n4;omega) (hws e n hw).1
 have o1:I64 n1:=⟨by omega,by omega⟩
 clear r1 r2
 simp -implicitDefEqProofs (disch:=first|omega|(simp only[LnZ];omega))[wrap64,setC,hI2,hS2]
 refine (c_l16Num b2).go ?_
 rintro _ h ⟨rfl,n2,bb,rfl,r1,r2,hn2⟩
 replace hn2:∀e n,Ed.Ok e n→[a0,a1,a2,a3,a4,a5]=(Ln.edg e).ws→n2=e.to:=fun e n he hw=>hn2 _ he.t0 (by have:=he.t1;have:=he.n4;omega) (hws e n hw).2.1
 have o2:I64 n2:=⟨by omega,by omega⟩
 clear r1 r2
 simp -implicitDefEqProofs (disch:=first|omega|(simp only[LnZ];omega))[wrap64,setC,hI3,hS3]
 refine (c_spec_ParseExpr b3).go ?_
 rintro _ h1 ⟨o,⟨wg,rfl,H⟩,hP⟩
 have hgu:∀e n,Ed.Ok e n→[a0,a1,a2,a3,a4,a5]=(Ln.edg e).ws→o.getD Exq.zero=e.guard:=fun e n he hw=>by rw[hP _ he.gd (hws e n hw).2.2.1];rfl
 generalize o.getD Exq.zero=gu at *
 replace hS4:=hload_le H.base hS4
 replace hS5:=hload_le H.base hS5
 obtain⟨w,rfl,g1,g2,H⟩:=H.unExq
 have hO:=H.rep.one
 have hC:=H.rep.cells
 by_cases q1:3<a4.length∧∃(hl:0<a4.length),120≤a4[0].toNat∧a4[0].toNat≤122
 ·obtain⟨q1,hl,q2,q3⟩:=q1
  have hi4:=idxTx0 (l:=a4) (kd:=.i64) hl
  have hsl4:sliceSV (.string (Tx a4)) (some (some (.int .i64 3))) none=some (.string (Tx (a4.drop 3))):=slcTxE (l:=a4) (k:=.i64) (a:=3) (by omega)
  have q1i:(3:Int)<a4.length:=by omega
  have q2i:(120:Int)≤((a4[0].toNat:Nat):Int):=by omega
  have q3i:((a4[0].toNat:Nat):Int)≤122:=by omega
  have b5:(a4.drop 3).length≤1048577:=by rw[List.length_drop];omega
  simp -implicitDefEqProofs (disch:=first|omega|(simp only[LnZ];omega))[wrap64,setC,hO,hC,hI4,hS4,hi4,hsl4,q1i,q2i,q3i]
  refine (c_spec_ParseExpr b5).go ?_
  rintro _ h2 ⟨o',⟨wv,rfl,H2⟩,hP2⟩
  have hval:∀e n,Ed.Ok e n→[a0,a1,a2,a3,a4,a5]=(Ln.edg e).ws→((a4[0].toNat:Nat):Int)-120=e.var∧o'.getD Exq.zero=e.value:=by
   intro e n he hw
   have h4:=(hws e n hw).2.2.2.1
   have hv0:=he.v0
   have hv1:=he.v1
   rcases he.vl with ⟨q,hv⟩ | ⟨q,hv⟩
   ·unfold Ed.asg at h4
    rw[if_neg (by omega)] at h4
    subst h4
    refine⟨?_,by rw[hP2 _ hv rfl];rfl⟩
    have:([UInt8.ofNat (120+e.var.toNat)][0]).toNat=120+e.var.toNat:=by
     show (UInt8.ofNat (120+e.var.toNat)).toNat=_
     rw[UInt8.toNat_ofNat'];omega
    show (((UInt8.ofNat (120+e.var.toNat)).toNat:Nat):Int)-120=e.var
    have:(UInt8.ofNat (120+e.var.toNat)).toNat=120+e.var.toNat:=this
    rw[this];omega
   ·unfold Ed.asg at h4
    rw[if_pos q] at h4
    rw[h4] at q1
    simp at q1
  generalize o'.getD Exq.zero=va at *
  replace hS5:=hload_le H2.base hS5
  obtain⟨w2,rfl,v1,v2,H2⟩:=H2.unExq
  have hO2:=H2.rep.one
  have hC2:=H2.rep.cells
  have HH:=(H2.app H).sw1
  have OV:I64 (((a4[0].toNat:Nat):Int)-120):=⟨by omega,by omega⟩
  generalize ((a4[0].toNat:Nat):Int)-120=vr at *
  by_cases s1:a5.length=2
  case neg=>
   have s1i:¬(a5.length:Int)=2:=by omega
   simp -implicitDefEqProofs (disch:=first|omega|(simp only[LnZ];omega))[wrap64,setC,hO,hC,hO2,hC2,hI5,hS5,s1,s1i]
   refine RetK.keep (hk _ _ ⟨⟨n1,n2,gu,vr,va,0⟩,HS.mkEd (e:=⟨n1,n2,gu,vr,va,0⟩) HH ⟨o1,o2,g1,g2,OV,v1,v2,i0⟩,fun e n he hw=>?_⟩)
   have hv:=hval e n he hw
   have h5:=(hws e n hw).2.2.2.2
   have hsy:e.sync=0:=by
    unfold syn at h5
    split at h5
    ·rw[h5] at s1;simp at s1
    ·split at h5
     ·rw[h5] at s1;simp at s1
     ·omega
   exact Ed.ext_iff'.2 ⟨hn1 e n he hw,hn2 e n he hw,hgu e n he hw,hv.1,hv.2,hsy.symm⟩
  obtain⟨y,z,rfl⟩:∃y z,a5=[y,z]:=by
   match a5,s1 with
   | [y,z],_=>exact⟨y,z,rfl⟩
  have hsl:sliceSV (.string (Tx [y,z])) (some (some (.int .i64 1))) none=some (.string (Tx [z])):=slcTxE (l:=[y,z]) (k:=.i64) (a:=1) (by simp)
  have hi5:idxSV (.string (Tx [y,z])) (.int .i64 0)=some (.int .u8 ((y.toNat:Nat):Int)):=idxTx0 (l:=[y,z]) (by simp)
  simp -implicitDefEqProofs (disch:=first|omega|(simp only[LnZ];omega))[wrap64,setC,hO,hC,hO2,hC2,hI5,hS5,hsl]
  refine (c_l16Num (t:=[z]) (by simp)).go ?_
  rintro _ hZ ⟨rfl,n3,bb,rfl,r1,r2,hz⟩
  by_cases s2:y.toNat=63
  ·have s2i:((y.toNat:Nat):Int)=63:=by omega
   simp -implicitDefEqProofs (disch:=first|omega|(simp only[LnZ];omega))[wrap64,setC,hO,hC,hO2,hC2,hI5,hS5,hi5,s2i]
   refine RetK.keep (hk _ _ ⟨⟨n1,n2,gu,vr,va,-n3⟩,HS.mkEd (e:=⟨n1,n2,gu,vr,va,-n3⟩) HH ⟨o1,o2,g1,g2,OV,v1,v2,(⟨by omega,by omega⟩:I64 (-n3))⟩,fun e n he hw=>?_⟩)
   have hv:=hval e n he hw
   have h5:=(hws e n hw).2.2.2.2
   have hs0:=he.s0
   have hs1:=he.s1
   have hsy:-n3=e.sync:=by
    unfold syn at h5
    split at h5
    ·rw[(List.cons.inj h5).1] at s2;exact absurd s2 (by decide)
    ·split at h5
     ·have:=hz (-e.sync) (by omega) (by omega) (List.cons.inj h5).2
      omega
     ·simp at h5
   exact Ed.ext_iff'.2 ⟨hn1 e n he hw,hn2 e n he hw,hgu e n he hw,hv.1,hv.2,hsy⟩
  ·have s2i:¬((y.toNat:Nat):Int)=63:=by omega
   simp -implicitDefEqProofs (disch:=first|omega|(simp only[LnZ];omega))[wrap64,setC,hO,hC,hO2,hC2,hI5,hS5,hi5,s2i,s2]
   refine RetK.keep (hk _ _ ⟨⟨n1,n2,gu,vr,va,n3⟩,HS.mkEd (e:=⟨n1,n2,gu,vr,va,n3⟩) HH ⟨o1,o2,g1,g2,OV,v1,v2,(⟨by omega,by omega⟩:I64 n3)⟩,fun e n he hw=>?_⟩)
   have hv:=hval e n he hw
   have h5:=(hws e n hw).2.2.2.2
   have hs0:=he.s0
   have hs1:=he.s1
   have hsy:n3=e.sync:=by
    unfold syn at h5
    split at h5
    ·exact hz e.sync (by omega) (by omega) (List.cons.inj h5).2
    ·split at h5
     ·rw[(List.cons.inj h5).1] at s2;exact absurd rfl s2
     ·simp at h5
   exact Ed.ext_iff'.2 ⟨hn1 e n he hw,hn2 e n he hw,hgu e n he hw,hv.1,hv.2,hsy⟩
 ·have hval:∀e n,Ed.Ok e n→[a0,a1,a2,a3,a4,a5]=(Ln.edg e).ws→(-1:Int)=e.var∧Exq.zero=e.value:=by
   intro e n he hw
   have h4:=(hws e n hw).2.2.2.1
   rcases he.vl with ⟨q,hv⟩ | ⟨q,hv⟩
   ·unfold Ed.asg at h4
    rw[if_neg (by omega)] at h4
    have h6:=hv.fmt_len
    have h7:=he.v1
    refine absurd ?_ q1
    subst h4
    refine⟨by simp only[List.length_cons];omega,by simp,?_⟩
    show 120≤(UInt8.ofNat (120+e.var.toNat)).toNat∧(UInt8.ofNat (120+e.var.toNat)).toNat≤122
    rw[UInt8.toNat_ofNat'];omega
   ·have:=he.v0
    exact⟨by omega,hv.symm⟩
  have v1:I64 Exq.zero.kind:=i0
  have v2:I64 Exq.zero.val:=i0
  have OV:=im
  have HH:=(HS.nil_ow (α:=Exq) H).sw1
  by_cases p1:3<a4.length
  case neg=>
   have p1i:¬(3:Int)<a4.length:=by omega
   by_cases s1:a5.length=2
   case neg=>
    have s1i:¬(a5.length:Int)=2:=by omega
    simp -implicitDefEqProofs (disch:=first|omega|(simp only[LnZ];omega))[wrap64,setC,hO,hC,hI4,hS4,p1,p1i,hI5,hS5,s1,s1i]
    refine RetK.keep (hk _ _ ⟨⟨n1,n2,gu,(-1),Exq.zero,0⟩,HS.mkEd (e:=⟨n1,n2,gu,(-1),Exq.zero,0⟩) HH ⟨o1,o2,g1,g2,OV,v1,v2,i0⟩,fun e n he hw=>?_⟩)
    have hv:=hval e n he hw
    have h5:=(hws e n hw).2.2.2.2
    have hsy:e.sync=0:=by
     unfold syn at h5
     split at h5
     ·rw[h5] at s1;simp at s1
     ·split at h5
      ·rw[h5] at s1;simp at s1
      ·omega
    exact Ed.ext_iff'.2 ⟨hn1 e n he hw,hn2 e n he hw,hgu e n he hw,hv.1,hv.2,hsy.symm⟩
   obtain⟨y,z,rfl⟩:∃y z,a5=[y,z]:=by
    match a5,s1 with
    | [y,z],_=>exact⟨y,z,rfl⟩
   have hsl:sliceSV (.string (Tx [y,z])) (some (some (.int .i64 1))) none=some (.string (Tx [z])):=slcTxE (l:=[y,z]) (k:=.i64) (a:=1) (by simp)
   have hi5:idxSV (.string (Tx [y,z])) (.int .i64 0)=some (.int .u8 ((y.toNat:Nat):Int)):=idxTx0 (l:=[y,z]) (by simp)
   simp -implicitDefEqProofs (disch:=first|omega|(simp only[LnZ];omega))[wrap64,setC,hO,hC,hI4,hS4,p1,p1i,hI5,hS5,hsl]
   refine (c_l16Num (t:=[z]) (by simp)).go ?_
   rintro _ hZ ⟨rfl,n3,bb,rfl,r1,r2,hz⟩
   by_cases s2:y.toNat=63
   ·have s2i:((y.toNat:Nat):Int)=63:=by omega
    simp -implicitDefEqProofs (disch:=first|omega|(simp only[LnZ];omega))[wrap64,setC,hO,hC,hI4,hS4,p1,p1i,hI5,hS5,hi5,s2i]
    refine RetK.keep (hk _ _ ⟨⟨n1,n2,gu,(-1),Exq.zero,-n3⟩,HS.mkEd (e:=⟨n1,n2,gu,(-1),Exq.zero,-n3⟩) HH ⟨o1,o2,g1,g2,OV,v1,v2,(⟨by omega,by omega⟩:I64 (-n3))⟩,fun e n he hw=>?_⟩)
    have hv:=hval e n he hw
    have h5:=(hws e n hw).2.2.2.2
    have hs0:=he.s0
    have hs1:=he.s1
    have hsy:-n3=e.sync:=by
     unfold syn at h5
     split at h5
     ·rw[(List.cons.inj h5).1] at s2;exact absurd s2 (by decide)
     ·split at h5
      ·have:=hz (-e.sync) (by omega) (by omega) (List.cons.inj h5).2
       omega
      ·simp at h5
    exact Ed.ext_iff'.2 ⟨hn1 e n he hw,hn2 e n he hw,hgu e n he hw,hv.1,hv.2,hsy⟩
   ·have s2i:¬((y.toNat:Nat):Int)=63:=by omega
    simp -implicitDefEqProofs (disch:=first|omega|(simp only[LnZ];omega))[wrap64,setC,hO,hC,hI4,hS4,p1,p1i,hI5,hS5,hi5,s2i,s2]
    refine RetK.keep (hk _ _ ⟨⟨n1,n2,gu,(-1),Exq.zero,n3⟩,HS.mkEd (e:=⟨n1,n2,gu,(-1),Exq.zero,n3⟩) HH ⟨o1,o2,g1,g2,OV,v1,v2,(⟨by omega,by omega⟩:I64 n3)⟩,fun e n he hw=>?_⟩)
    have hv:=hval e n he hw
    have h5:=(hws e n hw).2.2.2.2
    have hs0:=he.s0
    have hs1:=he.s1
    have hsy:n3=e.sync:=by
     unfold syn at h5
     split at h5
     ·exact hz e.sync (by omega) (by omega) (List.cons.inj h5).2
     ·split at h5
      ·rw[(List.cons.inj h5).1] at s2;exact absurd rfl s2
      ·simp at h5
    exact Ed.ext_iff'.2 ⟨hn1 e n he hw,hn2 e n he hw,hgu e n he hw,hv.1,hv.2,hsy⟩
  have p1i:(3:Int)<a4.length:=by omega
  have hl:0<a4.length:=by omega
  have hi4:=idxTx0 (l:=a4) (kd:=.i64) hl
  by_cases p2:120≤a4[0].toNat
  case neg=>
   have p2i:¬(120:Int)≤((a4[0].toNat:Nat):Int):=by omega
   by_cases s1:a5.length=2
   case neg=>
    have s1i:¬(a5.length:Int)=2:=by omega
    simp -implicitDefEqProofs (disch:=first|omega|(simp only[LnZ];omega))[wrap64,setC,hO,hC,hI4,hS4,hi4,p1,p1i,p2,p2i,hI5,hS5,s1,s1i]
    refine RetK.keep (hk _ _ ⟨⟨n1,n2,gu,(-1),Exq.zero,0⟩,HS.mkEd (e:=⟨n1,n2,gu,(-1),Exq.zero,0⟩) HH ⟨o1,o2,g1,g2,OV,v1,v2,i0⟩,fun e n he hw=>?_⟩)
    have hv:=hval e n he hw
    have h5:=(hws e n hw).2.2.2.2
    have hsy:e.sync=0:=by
     unfold syn at h5
     split at h5
     ·rw[h5] at s1;simp at s1
     ·split at h5
      ·rw[h5] at s1;simp at s1
      ·omega
    exact Ed.ext_iff'.2 ⟨hn1 e n he hw,hn2 e n he hw,hgu e n he hw,hv.1,hv.2,hsy.symm⟩
   obtain⟨y,z,rfl⟩:∃y z,a5=[y,z]:=by
    match a5,s1 with
    | [y,z],_=>exact⟨y,z,rfl⟩
   have hsl:sliceSV (.string (Tx [y,z])) (some (some (.int .i64 1))) none=some (.string (Tx [z])):=slcTxE (l:=[y,z]) (k:=.i64) (a:=1) (by simp)
   have hi5:idxSV (.string (Tx [y,z])) (.int .i64 0)=some (.int .u8 ((y.toNat:Nat):Int)):=idxTx0 (l:=[y,z]) (by simp)
   simp -implicitDefEqProofs (disch:=first|omega|(simp only[LnZ];omega))[wrap64,setC,hO,hC,hI4,hS4,hi4,p1,p1i,p2,p2i,hI5,hS5,hsl]
   refine (c_l16Num (t:=[z]) (by simp)).go ?_
   rintro _ hZ ⟨rfl,n3,bb,rfl,r1,r2,hz⟩
   by_cases s2:y.toNat=63
   ·have s2i:((y.toNat:Nat):Int)=63:=by omega
    simp -implicitDefEqProofs (disch:=first|omega|(simp only[LnZ];omega))[wrap64,setC,hO,hC,hI4,hS4,hi4,p1,p1i,p2,p2i,hI5,hS5,hi5,s2i]
    refine RetK.keep (hk _ _ ⟨⟨n1,n2,gu,(-1),Exq.zero,-n3⟩,HS.mkEd (e:=⟨n1,n2,gu,(-1),Exq.zero,-n3⟩) HH ⟨o1,o2,g1,g2,OV,v1,v2,(⟨by omega,by omega⟩:I64 (-n3))⟩,fun e n he hw=>?_⟩)
    have hv:=hval e n he hw
    have h5:=(hws e n hw).2.2.2.2
    have hs0:=he.s0
    have hs1:=he.s1
    have hsy:-n3=e.sync:=by
     unfold syn at h5
     split at h5
     ·rw[(List.cons.inj h5).1] at s2;exact absurd s2 (by decide)
     ·split at h5
      ·have:=hz (-e.sync) (by omega) (by omega) (List.cons.inj h5).2
       omega
      ·simp at h5
    exact Ed.ext_iff'.2 ⟨hn1 e n he hw,hn2 e n he hw,hgu e n he hw,hv.1,hv.2,hsy⟩
   ·have s2i:¬((y.toNat:Nat):Int)=63:=by omega
    simp -implicitDefEqProofs (disch:=first|omega|(simp only[LnZ];omega))[wrap64,setC,hO,hC,hI4,hS4,hi4,p1,p1i,p2,p2i,hI5,hS5,hi5,s2i,s2]
    refine RetK.keep (hk _ _ ⟨⟨n1,n2,gu,(-1),Exq.zero,n3⟩,HS.mkEd (e:=⟨n1,n2,gu,(-1),Exq.zero,n3⟩) HH ⟨o1,o2,g1,g2,OV,v1,v2,(⟨by omega,by omega⟩:I64 n3)⟩,fun e n he hw=>?_⟩)
    have hv:=hval e n he hw
    have h5:=(hws e n hw).2.2.2.2
    have hs0:=he.s0
    have hs1:=he.s1
    have hsy:n3=e.sync:=by
     unfold syn at h5
     split at h5
     ·exact hz e.sync (by omega) (by omega) (List.cons.inj h5).2
     ·split at h5
      ·rw[(List.cons.inj h5).1] at s2;exact absurd rfl s2
      ·simp at h5
    exact Ed.ext_iff'.2 ⟨hn1 e n he hw,hn2 e n he hw,hgu e n he hw,hv.1,hv.2,hsy⟩
  have p2i:(120:Int)≤((a4[0].toNat:Nat):Int):=by omega
  have p3:¬a4[0].toNat≤122:=fun hh=>q1 ⟨p1,hl,p2,hh⟩
  have p3i:¬((a4[0].toNat:Nat):Int)≤122:=by omega
  by_cases s1:a5.length=2
  case neg=>
   have s1i:¬(a5.length:Int)=2:=by omega
   simp -implicitDefEqProofs (disch:=first|omega|(simp only[LnZ];omega))[wrap64,setC,hO,hC,hI4,hS4,hi4,p1,p1i,p2,p2i,p3,p3i,hI5,hS5,s1,s1i]
   refine RetK.keep (hk _ _ ⟨⟨n1,n2,gu,(-1),Exq.zero,0⟩,HS.mkEd (e:=⟨n1,n2,gu,(-1),Exq.zero,0⟩) HH ⟨o1,o2,g1,g2,OV,v1,v2,i0⟩,fun e n he hw=>?_⟩)
   have hv:=hval e n he hw
   have h5:=(hws e n hw).2.2.2.2
   have hsy:e.sync=0:=by
    unfold syn at h5
    split at h5
    ·rw[h5] at s1;simp at s1
    ·split at h5
     ·rw[h5] at s1;simp at s1
     ·omega
   exact Ed.ext_iff'.2 ⟨hn1 e n he hw,hn2 e n he hw,hgu e n he hw,hv.1,hv.2,hsy.symm⟩
  obtain⟨y,z,rfl⟩:∃y z,a5=[y,z]:=by
   match a5,s1 with
   | [y,z],_=>exact⟨y,z,rfl⟩
  have hsl:sliceSV (.string (Tx [y,z])) (some (some (.int .i64 1))) none=some (.string (Tx [z])):=slcTxE (l:=[y,z]) (k:=.i64) (a:=1) (by simp)
  have hi5:idxSV (.string (Tx [y,z])) (.int .i64 0)=some (.int .u8 ((y.toNat:Nat):Int)):=idxTx0 (l:=[y,z]) (by simp)
  simp -implicitDefEqProofs (disch:=first|omega|(simp only[LnZ];omega))[wrap64,setC,hO,hC,hI4,hS4,hi4,p1,p1i,p2,p2i,p3,p3i,hI5,hS5,hsl]
  refine (c_l16Num (t:=[z]) (by simp)).go ?_
  rintro _ hZ ⟨rfl,n3,bb,rfl,r1,r2,hz⟩
  by_cases s2:y.toNat=63
  ·have s2i:((y.toNat:Nat):Int)=63:=by omega
   simp -implicitDefEqProofs (disch:=first|omega|(simp only[LnZ];omega))[wrap64,setC,hO,hC,hI4,hS4,hi4,p1,p1i,p2,p2i,p3,p3i,hI5,hS5,hi5,s2i]
   refine RetK.keep (hk _ _ ⟨⟨n1,n2,gu,(-1),Exq.zero,-n3⟩,HS.mkEd (e:=⟨n1,n2,gu,(-1),Exq.zero,-n3⟩) HH ⟨o1,o2,g1,g2,OV,v1,v2,(⟨by omega,by omega⟩:I64 (-n3))⟩,fun e n he hw=>?_⟩)
   have hv:=hval e n he hw
   have h5:=(hws e n hw).2.2.2.2
   have hs0:=he.s0
   have hs1:=he.s1
   have hsy:-n3=e.sync:=by
    unfold syn at h5
    split at h5
    ·rw[(List.cons.inj h5).1] at s2;exact absurd s2 (by decide)
    ·split at h5
     ·have:=hz (-e.sync) (by omega) (by omega) (List.cons.inj h5).2
      omega
     ·simp at h5
   exact Ed.ext_iff'.2 ⟨hn1 e n he hw,hn2 e n he hw,hgu e n he hw,hv.1,hv.2,hsy⟩
  ·have s2i:¬((y.toNat:Nat):Int)=63:=by omega
   simp -implicitDefEqProofs (disch:=first|omega|(simp only[LnZ];omega))[wrap64,setC,hO,hC,hI4,hS4,hi4,p1,p1i,p2,p2i,p3,p3i,hI5,hS5,hi5,s2i,s2]
   refine RetK.keep (hk _ _ ⟨⟨n1,n2,gu,(-1),Exq.zero,n3⟩,HS.mkEd (e:=⟨n1,n2,gu,(-1),Exq.zero,n3⟩) HH ⟨o1,o2,g1,g2,OV,v1,v2,(⟨by omega,by omega⟩:I64 n3)⟩,fun e n he hw=>?_⟩)
   have hv:=hval e n he hw
   have h5:=(hws e n hw).2.2.2.2
   have hs0:=he.s0
   have hs1:=he.s1
   have hsy:n3=e.sync:=by
    unfold syn at h5
    split at h5
    ·exact hz e.sync (by omega) (by omega) (List.cons.inj h5).2
    ·split at h5
     ·rw[(List.cons.inj h5).1] at s2;exact absurd rfl s2
     ·simp at h5
   exact Ed.ext_iff'.2 ⟨hn1 e n he hw,hn2 e n he hw,hgu e n he hw,hv.1,hv.2,hsy⟩
theorem c_l16Cut {h:Heap}{c:UInt8}{l:List UInt8}(hl:l.length≤4294967296):CallE Tryz.prog fn_spec_l16Cut [.string (Tx l),.int .u8 ((c.toNat:Nat):Int)] h (fun u h'=>HS h [ow u ((spl c l).map Tx)] h'):=by
 refine CallE.gen fun k hk=>EN_spec_l16Cut rfl ?_
 simp -implicitDefEqProofs (disch:=omega)[wrap64]
 refine HS.init.bls0 ByteArray fun o h1 H=>?_
 simp -implicitDefEqProofs (disch:=omega)[wrap64]
 refine wp_count (l.length+1) (fun i e h'=>∃(o:Value) (f:Nat),e=[some (.string (Tx l)),some (.int .u8 ((c.toNat:Nat):Int)),none,some o,some (.int .i64 f),some (.int .i64 i)]∧∃D:List (List UInt8),HS h [ow o (D.map Tx)] h'∧D.length≤i∧f≤i ∧
  (i≤l.length→D++spl c (l.drop f)=spl c l∧c∉(l.drop f).take (i-f))∧(l.length<i→D=spl c l)) ⟨o,0,by simp,[],H,by simp,by simp,fun _=>by simp,fun hh=>absurd hh (by omega)⟩ ?_
 clear H
 rintro J i _ h2 hJ hi ⟨o,f,rfl,D,H,hD,hf,hin,hout⟩
 simp -implicitDefEqProofs (disch:=omega)[wrap64]
 by_cases hlt:i<l.length+1
 case neg=>
  have h3:¬(i:Int)≤l.length:=by omega
  have h3':¬i≤l.length:=by omega
  simp -implicitDefEqProofs (disch:=first|omega|(simp only[LnZ];omega))[wrap64,h3,h3']
  rw[hout (by omega)] at H
  exact RetK.keep (hk _ _ H)
 have h3:i≤l.length:=by omega
 obtain⟨e1,hno⟩:=hin h3
 have hsl:=slcTx (l:=l) (k:=.i64) (k':=.i64) (a:=f) (b:=i) hf h3
 have hDl:(D.map Tx).length=D.length:=List.length_map _
 by_cases q1:i=l.length
 ·subst q1
  have hlast:(l.drop f).take (l.length-f)=l.drop f:=List.take_of_length_le (by simp)
  rw[hlast] at hno hsl
  rw[spl_no hno] at e1
  simp -implicitDefEqProofs (disch:=first|omega|(simp only[LnZ];omega))[wrap64,hsl]
  refine H.app1 (bytes:=16) (Tx (l.drop f)) rfl rfl rfl trivial rfl rfl (by omega) (by omega) fun o' h3 H=>?_
  simp -implicitDefEqProofs (disch:=omega)[wrap64]
  refine hJ _ _ (by omega) ⟨o',l.length+1,by simp,D++[l.drop f],?_,by simp;omega,by omega,fun hh=>absurd hh (by omega),fun _=>e1⟩
  simpa using H
 ·have hlx:i<l.length:=by omega
  have q1i:¬(i:Int)=l.length:=by omega
  have hdr:l.drop f=(l.drop f).take (i-f)++l[i]::l.drop (i+1):=by
   conv=>lhs;rw[← List.take_append_drop (i-f) (l.drop f)]
   rw[List.drop_drop,show f+(i-f)=i by omega,List.drop_eq_getElem_cons hlx]
  by_cases q2:l[i]=c
  ·rw[hdr,q2,spl_app hno] at e1
   have q2i:((l[i].toNat:Nat):Int)=((c.toNat:Nat):Int):=by rw[q2]
   simp -implicitDefEqProofs (disch:=first|omega|(simp only[LnZ];omega))[wrap64,h3,q1,q1i,q2i,hsl]
   refine H.app1 (bytes:=16) (Tx ((l.drop f).take (i-f))) rfl rfl rfl trivial rfl rfl (by omega) (by omega) fun o' h3 H=>?_
   simp -implicitDefEqProofs (disch:=omega)[wrap64]
   refine hJ _ _ (by omega) ⟨o',i+1,by simp,D++[(l.drop f).take (i-f)],?_,by simp;omega,by omega,fun _=>⟨by simpa using e1,by simp⟩,fun hh=>absurd hh (by omega)⟩
   simpa using H
  ·have q2i:¬((l[i].toNat:Nat):Int)=((c.toNat:Nat):Int):=fun e=>q2 (UInt8.toNat_inj.1 (by omega))
   have q2n:¬l[i].toNat=c.toNat:=fun e=>q2 (UInt8.toNat_inj.1 e)
   simp -implicitDefEqProofs (disch:=first|omega|(simp only[LnZ];omega))[wrap64,h3,q1,q1i,q2,q2i,q2n]
   refine hJ _ _ (by omega) ⟨o,f,by simp,D,H,by omega,by omega,fun _=>⟨e1,?_⟩,fun hh=>absurd hh (by omega)⟩
   rw[show i+1-f=(i-f)+1 by omega,List.take_add_one]
   intro hm
   rcases List.mem_append.1 hm with hm | hm
   ·exact hno hm
   ·rw[List.getElem?_drop,show f+(i-f)=i by omega,List.getElem?_eq_getElem hlx] at hm
    simp only[Option.toList_some,List.mem_singleton] at hm
    exact q2 hm.symm
theorem spl_mem_len {c:UInt8}:∀{l w:List UInt8},w∈spl c l→w.length≤l.length
 | [],w,h=>by simp[spl] at h;simp[h]
 | x::l,w,h=>by
  have ih:=fun {w}(h:w∈spl c l)=>spl_mem_len (c:=c) h
  rw[spl] at h
  split at h
  ·rcases List.mem_cons.1 h with rfl | h
   ·simp
   ·have:=ih h;simp only[List.length_cons];omega
  ·rcases List.mem_cons.1 h with rfl | h
   ·cases e:spl c l with
    | nil=>exact absurd e spl_ne
    | cons a r=>
     have:=ih (w:=a) (by rw[e];simp)
     simp only[List.headD_cons,List.length_cons];omega
   ·have:=ih (List.mem_of_mem_tail h);simp only[List.length_cons];omega
noncomputable def psY (t:List UInt8):Option Sy:=open Classical in if h:∃s:Sy,s.Ok∧s.fmt=t then some (Classical.choose h) else none
theorem psY_some {t:List UInt8}{s:Sy}(h:psY t=some s):s.Ok∧s.fmt=t:=by
 unfold psY at h
 split at h
 ·rename_i hx
  have:=Classical.choose_spec hx
  rw[Option.some.injEq] at h
  rw[← h];exact this
 ·simp at h
theorem psY_none {t:List UInt8}(h:psY t=none):∀s:Sy,s.Ok→s.fmt≠t:=by
 unfold psY at h
 split at h
 ·simp at h
 ·rename_i hx
  exact fun s h1 h2=>hx ⟨s,h1,h2⟩
theorem fmt_ne {s:Sy}:s.fmt≠[]:=by rw[Sy.fmt_jn];simp
theorem sys_at {s:Sy}{i:Nat}(hi:i<s.lns.length) {l:List Int}(h:s.lns[i]=.sys l):i=0∧l=s.init:=by
 match i,hi,h with
 | 0,_,h=>
  simp only[Sy.lns,List.getElem_cons_zero,Ln.sys.injEq] at h
  exact⟨rfl,h.symm⟩
 | j+1,hi,h=>
  simp only[Sy.lns,List.getElem_cons_succ] at h
  have hm:=List.getElem_mem (l:=s.procs.flatMap Pr.lns) (n:=j) (by simp only[Sy.lns,List.length_cons] at hi;omega)
  rw[h] at hm
  obtain⟨p,_,hp⟩:=List.mem_flatMap.1 hm
  simp[Pr.lns] at hp
theorem ap_step {s:Sy}{i:Nat}(hi:i<s.lns.length):(s.lns.take (i+1)).foldl Sy.ap ⟨[],[]⟩=Sy.ap ((s.lns.take i).foldl Sy.ap ⟨[],[]⟩) s.lns[i]:=by
 rw[List.take_add_one,List.getElem?_eq_getElem hi,List.foldl_append];rfl
structure Cur (t:List UInt8) (i:Nat) (c:Sy):Prop where
 ini:c.init.length≤t.length+1
 i0:i=0→c=⟨[],[]⟩
 pl:c.procs.length≤i
 el:∀p∈c.procs,p.edges.length≤i
 ex:∀s,psY t=some s→i≤s.lns.length∧c=(s.lns.take i).foldl Sy.ap ⟨[],[]⟩
theorem Cur.zero {t:List UInt8}:Cur t 0 ⟨[],[]⟩:=⟨by simp,fun _=>rfl,by simp,by simp,fun s _=>⟨by omega,rfl⟩⟩
theorem lines_of {t:List UInt8}{s:Sy}(h:psY t=some s):spl 10 t=s.lns.map Ln.row++[[]]:=by
 obtain⟨h1,rfl⟩:=psY_some h
 exact Sy.fmt_spl2 h1
theorem line_at {t:List UInt8}{s:Sy}(h:psY t=some s) {i:Nat}(hi:i<(spl 10 t).length) (hl:i<s.lns.length):(spl 10 t)[i]=s.lns[i].row∧spl 32 (spl 10 t)[i]=s.lns[i].ws∧s.lns[i].Ok:=by
 have hs:=(psY_some h).1
 have hok:=s.lns_ok hs s.lns[i] (List.getElem_mem hl)
 have e:(spl 10 t)[i]=s.lns[i].row:=by
  simp only[lines_of h]
  rw[List.getElem_append_left (by rw[List.length_map];exact hl),List.getElem_map]
 exact⟨e,by rw[e];exact Ln.row_spl hok,hok⟩
theorem lines_len {t:List UInt8}{s:Sy}(h:psY t=some s):(spl 10 t).length=s.lns.length+1:=by rw[lines_of h];simp
theorem Cur.step {t:List UInt8}{i:Nat}{c c':Sy}(H:Cur t i c) (hi:i+1<(spl 10 t).length) (h1:c'.init.length≤t.length+1) (h2:c'.procs.length≤i+1) (h3:∀p∈c'.procs,p.edges.length≤i+1)
  (h4:∀s (hl:i<s.lns.length),psY t=some s→spl 32 ((spl 10 t)[i]'(by omega))=s.lns[i].ws→s.lns[i].Ok→c=(s.lns.take i).foldl Sy.ap ⟨[],[]⟩→c'=c.ap s.lns[i]):Cur t (i+1) c':=by
 refine⟨h1,fun h=>absurd h (by omega),h2,h3,fun s hs=>?_⟩
 have hll:=lines_len hs
 have hl:i<s.lns.length:=by omega
 obtain⟨_,k2⟩:=H.ex s hs
 obtain⟨_,k3,k4⟩:=line_at hs (by omega) hl
 exact⟨hl,by rw[ap_step hl,← k2];exact h4 s hl hs k3 k4 k2⟩
theorem Cur.done {t:List UInt8}{i:Nat}{c:Sy}(H:Cur t i c) {s:Sy}(hs:psY t=some s) (hi:(spl 10 t).length≤i+1∨40<i):c=s:=by
 obtain⟨k1,k2⟩:=H.ex s hs
 have hll:=lines_len hs
 have:=lns_len (psY_some hs).1
 have e:i=s.lns.length:=by omega
 rw[k2,e,List.take_length,Sy.lns_ap]
theorem c_spec_ParseSystem {h:Heap}{t:List UInt8}(ht:t.length≤1048576):CallE Tryz.prog fn_spec_ParseSystem [.string (Tx t)] h (R2 (psY t).isSome ((psY t).getD ⟨[],[]⟩) h):=by
 have i0:I64 0:=⟨by decide,by decide⟩
 have hsl:=spl_len (c:=10) t
 have hsc:t.count 10≤t.length:=List.count_le_length
 refine CallE.gen fun k hk=>EN_spec_ParseSystem rfl ?_
 simp -implicitDefEqProofs (disch:=omega)[wrap64]
 refine (c_l16Cut (c:=10) (by omega)).go ?_
 intro L h1 H
 have hLl:((spl 10 t).map Tx).length=(spl 10 t).length:=List.length_map _
 simp -implicitDefEqProofs (disch:=first|omega|(simp only[LnZ];omega))[wrap64,setC]
 refine wp_count ((spl 10 t).length+1) (fun i e h'=>∃(c:Sy) (x1 x2:Value),e=[some (.string (Tx t)),some (.agg #[.slice none 0 0,.slice none 0 0]),none,some L,some (.agg #[x1,x2]),some (.int .i64 i),none,none,none,none,none]∧HS h [ow x1 c.init,ow x2 c.procs,ow L ((spl 10 t).map Tx)] h'∧Cur t i c) ⟨⟨[],[]⟩,_,_,by simp,HS.nil_ow (HS.nil_ow H),Cur.zero⟩ ?_
 clear H
 rintro J i _ h2 hJ hi ⟨c,x1,x2,rfl,H,hc⟩
 have hlen:=H.sw2.rep.len
 have hS:=H.sw2.rep.S
 have hci:=hc.ini
 have hcp:=hc.pl
 by_cases q1:i+1<(spl 10 t).length
 case neg=>
  have q1i:¬((i:Int)+1<(spl 10 t).length):=by omega
  have hO1:=H.rep.one
  have hC1:=H.rep.cells
  have hO2:=H.sw1.rep.one
  have hC2:=H.sw1.rep.cells
  have HS2:=H.sw2.drop
  have RC:Rep h2 (.agg #[x1,x2]) c:=Rep_Sy.2 ⟨x1,x2,rfl,H.rep,H.sw1.rep⟩
  have FC:=RC.aSy
  have nil:∀{h':Heap},h.le h'→psY t=none→k (.tuple #[.agg #[.slice none 0 0,.slice none 0 0],.bool false]) h':=fun hl he=>hk _ _ ⟨_,by rw[he];rfl,by rw[he];exact HS.mkSy (s:=⟨[],[]⟩) (HS.nil_ow (HS.nil_ow (Γ:=[]) hl))⟩
  simp -implicitDefEqProofs (disch:=first|omega|(simp only[LnZ];omega))[wrap64,hlen,hLl,q1,q1i]
  by_cases c1:t=[]
  ·simp -implicitDefEqProofs (disch:=first|omega|(simp only[LnZ];omega))[wrap64,c1,setC]
   refine RetK.keep (nil H.base ?_)
   cases e:psY t with
   | none=>rfl
   | some s=>exact absurd ((psY_some e).2.trans c1) fmt_ne
  simp -implicitDefEqProofs (disch:=first|omega|(simp only[LnZ];omega))[wrap64,c1,setC,hO1,hC1,hO2,hC2]
  refine (c_spec_FormatSystem RC).go ?_
  rintro _ h3 ⟨l3,rfl⟩
  obtain⟨z,hz⟩:∃z,z=(if c.Ok then c.fmt else []):=⟨_,rfl⟩
  rw[← hz]
  by_cases c2:z=t
  ·have hok:c.Ok∧c.fmt=t:=by
    by_cases q:c.Ok
    ·rw[if_pos q] at hz;exact⟨q,by rw[← hz,c2]⟩
    ·rw[if_neg q] at hz;exact absurd (c2.symm.trans hz) c1
   obtain⟨s,hs⟩:∃s,psY t=some s:=by
    cases e:psY t with
    | none=>exact absurd hok.2 (psY_none e c hok.1)
    | some s=>exact⟨s,rfl⟩
   have hcs:=hc.done hs (by omega)
   subst hcs
   subst c2
   simp -implicitDefEqProofs (disch:=first|omega|(simp only[LnZ];omega))[wrap64,setC,hO1,hC1,hO2,hC2]
   refine RetK.keep (hk _ _ ⟨_,by rw[hs];rfl,?_⟩)
   rw[hs]
   exact HS.mkSy (s:=c) (HS2.le l3)
  ·have hno:psY t=none:=by
    cases e:psY t with
    | none=>rfl
    | some s=>
     have hcs:=hc.done e (by omega)
     subst hcs
     have:=psY_some e
     rw[if_pos this.1,this.2] at hz
     exact absurd hz c2
   have c3:¬Tx z=Tx t:=fun hh=>c2 (Tx_inj.1 hh)
   simp -implicitDefEqProofs (disch:=first|omega|(simp only[LnZ];omega))[wrap64,c2,c3,setC]
   exact RetK.keep (nil (H.base.trans l3) hno)
 have q1i:((i:Int)+1<(spl 10 t).length):=by omega
 by_cases q2:i≤40
 case neg=>
  have q2i:¬((i:Int)≤40):=by omega
  have hO1:=H.rep.one
  have hC1:=H.rep.cells
  have hO2:=H.sw1.rep.one
  have hC2:=H.sw1.rep.cells
  have HS2:=H.sw2.drop
  have RC:Rep h2 (.agg #[x1,x2]) c:=Rep_Sy.2 ⟨x1,x2,rfl,H.rep,H.sw1.rep⟩
  have FC:=RC.aSy
  have nil:∀{h':Heap},h.le h'→psY t=none→k (.tuple #[.agg #[.slice none 0 0,.slice none 0 0],.bool false]) h':=fun hl he=>hk _ _ ⟨_,by rw[he];rfl,by rw[he];exact HS.mkSy (s:=⟨[],[]⟩) (HS.nil_ow (HS.nil_ow (Γ:=[]) hl))⟩
  simp -implicitDefEqProofs (disch:=first|omega|(simp only[LnZ];omega))[wrap64,hlen,hLl,q1,q1i,q2,q2i]
  by_cases c1:t=[]
  ·simp -implicitDefEqProofs (disch:=first|omega|(simp only[LnZ];omega))[wrap64,c1,setC]
   refine RetK.keep (nil H.base ?_)
   cases e:psY t with
   | none=>rfl
   | some s=>exact absurd ((psY_some e).2.trans c1) fmt_ne
  simp -implicitDefEqProofs (disch:=first|omega|(simp only[LnZ];omega))[wrap64,c1,setC,hO1,hC1,hO2,hC2]
  refine (c_spec_FormatSystem RC).go ?_
  rintro _ h3 ⟨l3,rfl⟩
  obtain⟨z,hz⟩:∃z,z=(if c.Ok then c.fmt else []):=⟨_,rfl⟩
  rw[← hz]
  by_cases c2:z=t
  ·have hok:c.Ok∧c.fmt=t:=by
    by_cases q:c.Ok
    ·rw[if_pos q] at hz;exact⟨q,by rw[← hz,c2]⟩
    ·rw[if_neg q] at hz;exact absurd (c2.symm.trans hz) c1
   obtain⟨s,hs⟩:∃s,psY t=some s:=by
    cases e:psY t with
    | none=>exact absurd hok.2 (psY_none e c hok.1)
    | some s=>exact⟨s,rfl⟩
   have hcs:=hc.done hs (by omega)
   subst hcs
   subst c2
   simp -implicitDefEqProofs (disch:=first|omega|(simp only[LnZ];omega))[wrap64,setC,hO1,hC1,hO2,hC2]
   refine RetK.keep (hk _ _ ⟨_,by rw[hs];rfl,?_⟩)
   rw[hs]
   exact HS.mkSy (s:=c) (HS2.le l3)
  ·have hno:psY t=none:=by
    cases e:psY t with
    | none=>rfl
    | some s=>
     have hcs:=hc.done e (by omega)
     subst hcs
     have:=psY_some e
     rw[if_pos this.1,this.2] at hz
     exact absurd hz c2
   have c3:¬Tx z=Tx t:=fun hh=>c2 (Tx_inj.1 hh)
   simp -implicitDefEqProofs (disch:=first|omega|(simp only[LnZ];omega))[wrap64,c2,c3,setC]
   exact RetK.keep (nil (H.base.trans l3) hno)
 have q2i:((i:Int)≤40):=by omega
 have hil:i<(spl 10 t).length:=by omega
 have hli:i<((spl 10 t).map Tx).length:=by omega
 have hia:=hS.1.1 .i64 i hli
 have hld:=hS.2 i hli
 rw[List.getElem_map] at hld
 have hlnl:=spl_mem_len (c:=10) (List.getElem_mem (l:=spl 10 t) (n:=i) hil)
 simp -implicitDefEqProofs (disch:=first|omega|(simp only[LnZ];omega))[wrap64,hlen,hLl,q1,q1i,q2,q2i,hia,hld]
 refine (c_l16Cut (c:=32) (by omega)).go ?_
 intro W h3 H2
 have H:=H2.app H
 obtain⟨ln,hln⟩:∃ln,ln=(spl 10 t)[i]:=⟨_,rfl⟩
 rw[← hln] at hlnl
 have H:HS h [ow W ((spl 32 ((spl 10 t)[i]'hil)).map Tx),ow x1 c.init,ow x2 c.procs,ow L ((spl 10 t).map Tx)] h3:=H
 obtain⟨w0,ws,hws⟩:∃w0 ws,spl 32 ((spl 10 t)[i]'hil)=w0::ws:=by
  cases e:spl 32 ((spl 10 t)[i]'hil) with
  | nil=>exact absurd e spl_ne
  | cons a b=>exact⟨a,b,rfl⟩
 have hwl:=spl_len (c:=32) ((spl 10 t)[i]'hil)
 have hwc:((spl 10 t)[i]'hil).count 32≤((spl 10 t)[i]'hil).length:=List.count_le_length
 rw[hws] at hwl
 rw[← hln] at hwl hwc
 simp only[List.length_cons] at hwl
 have hwm:∀w∈w0::ws,w.length≤t.length:=fun w hw=>by
  rw[← hws] at hw
  have:=spl_mem_len hw
  rw[← hln] at this
  omega
 have hstep:=fun c'=>hc.step (c':=c') q1
 have HW:HS h [ow W ((w0::ws).map Tx),ow x1 c.init,ow x2 c.procs,ow L ((spl 10 t).map Tx)] h3:=by rw[← hws];exact H
 simp only[hws] at hstep
 have hO2:=H.sw2.rep.one
 have hC2:=H.sw2.rep.cells
 have hO1:=H.sw1.rep.one
 have hC1:=H.sw1.rep.cells
 have hpl:=H.sw2.rep.len
 simp -implicitDefEqProofs (disch:=first|omega|(simp only[LnZ];omega))[wrap64,setC,hO1,hC1,hO2,hC2,hpl]
 by_cases q3:i=0
 ·rw[IteW_pos q3]
  subst q3
  have hcz:=hc.i0 rfl
  subst hcz
  have hwn:∀w∈ws,w.length≤1048577:=fun w hw=>by have:=hwm w (List.mem_cons_of_mem _ hw);omega
  simp -implicitDefEqProofs (disch:=omega)[wrap64]
  refine wp_count ws.length (fun j e h'=>∃(o:Value) (l:List Int),e=[some (.string (Tx t)),some (.agg #[.slice none 0 0,.slice none 0 0]),none,some L,some (.agg #[o,x2]),some (.int .i64 0),some W,none,some (.int .i64 ((j:Int)+1)),none,none]∧HS h [ow o l,ow W ((w0::ws).map Tx),ow x2 ([]:List Pr),ow L ((spl 10 t).map Tx)] h'∧l.length≤j∧∀s,psY t=some s→∀hl:0<s.lns.length,w0::ws=s.lns[0].ws→l=s.init.take j) ⟨x1,[],by simp,HW.sw1,by simp,fun s _ _ _=>by simp⟩ ?_
  clear H HW
  rintro J2 j _ h4 hJ2 hj ⟨o,l,rfl,H,hlj,hex⟩
  have hwS:=H.sw1.rep.S
  have hwlen:=H.sw1.rep.len
  have hml:((w0::ws).map Tx).length=ws.length+1:=by simp
  have hO:=H.rep.one
  have hC:=H.rep.cells
  simp -implicitDefEqProofs (disch:=first|omega|(simp only[LnZ];omega))[wrap64,hwlen,hml]
  refine IteW.mk (fun hlt=>?_) (fun hge=>?_)
  ·have hjx:j<ws.length:=by omega
   have hj1:j+1<((w0::ws).map Tx).length:=by omega
   have hia:iaV 1 W (.int .i64 ((j:Int)+1))=some (elp 1 W (j+1)):=hwS.1.1 .i64 (j+1) hj1
   have hld:=hwS.2 (j+1) hj1
   have hge:((w0::ws).map Tx)[j+1]=Tx ws[j]:=by simp
   rw[hge] at hld
   simp -implicitDefEqProofs (disch:=first|omega|(simp only[LnZ];omega))[wrap64,hia,hld]
   refine (c_l16Num (hwn _ (List.getElem_mem hjx))).go ?_
   rintro _ h4 ⟨rfl,n,bb,rfl,r1,r2,hn⟩
   simp -implicitDefEqProofs (disch:=first|omega|(simp only[LnZ];omega))[wrap64,setC,hO,hC]
   refine H.app1 (bytes:=8) n rfl rfl rfl ⟨by omega,by omega⟩ rfl rfl (by omega) (by omega) fun o' h5 H=>?_
   have hO:=H.rep.one
   have hC:=H.rep.cells
   simp -implicitDefEqProofs (disch:=first|omega|(simp only[LnZ];omega))[wrap64,setC,hO,hC]
   refine hJ2 _ _ hjx ⟨o',l++[n],by simp,H,by simp;omega,fun s hs hl hw=>?_⟩
   have hk:=(psY_some hs).1
   have hw':w0::ws=wSys::s.init.map fun n=>[dg n]:=hw
   obtain⟨_,hw2⟩:=List.cons.inj hw'
   have hji:j<s.init.length:=by rw[hw2,List.length_map] at hjx;exact hjx
   have hv:=hk.vs.at hji
   have:n=s.init[j]:=hn _ hv.1 (by omega) (by simp[hw2])
   rw[List.take_add_one,List.getElem?_eq_getElem hji,hex s hs hl hw,this]
   rfl
  ·obtain rfl:j=ws.length:=by omega
   simp -implicitDefEqProofs (disch:=omega)[wrap64]
   have hwt:(w0::ws).length≤t.length+1:=by simp only[List.length_cons];omega
   refine hJ _ _ (by omega) ⟨⟨l,[]⟩,o,x2,by simp,(H.under fun _ H=>H.drop),hstep ⟨l,[]⟩ (by simp only[List.length_cons] at hwt;simp only;omega) (by simp) (by simp) fun s hl hs hw hok _=>?_⟩
   have hk:=(psY_some hs).1
   have hw':w0::ws=wSys::s.init.map fun n=>[dg n]:=hw
   obtain⟨_,hw2⟩:=List.cons.inj hw'
   have e:=hex s hs hl hw
   rw[hw2,List.length_map,List.take_length] at e
   rw[e];rfl
 rw[IteW_neg q3]
 clear H
 have hia0:iaV 1 W (.int .i64 0)=some (elp 1 W 0):=HW.rep.S.1.1 .i64 0 (by simp)
 have hld0:hload h3 (some (elp 1 W 0)) none=some (.string (Tx w0)):=HW.rep.S.2 0 (by simp)
 have hwlen:=HW.rep.len
 have hml:((w0::ws).map Tx).length=ws.length+1:=by simp
 have noS:∀(s:Sy) (hl:i<s.lns.length) (l:List Int),s.lns[i]≠.sys l:=fun s hl l e=>q3 (sys_at hl e).1
 by_cases p1:w0=wPrc
 ·have p1t:Tx w0=Tx [112,114,111,99,101,115,115]:=by rw[p1];rfl
  have p1u:w0=[112,114,111,99,101,115,115]:=p1
  by_cases p2:ws.length=1
  ·have p2i:(ws.length:Int)+1=2:=by omega
   obtain⟨w1,rfl⟩:=List.length_eq_one_iff.1 p2
   have hia1:iaV 1 W (.int .i64 1)=some (elp 1 W 1):=HW.rep.S.1.1 .i64 1 (by simp)
   have hld1:hload h3 (some (elp 1 W 1)) none=some (.string (Tx w1)):=HW.rep.S.2 1 (by simp)
   simp -implicitDefEqProofs (disch:=first|omega|(simp only[LnZ];omega))[wrap64,hia0,hld0,hwlen,hml,p1t,p1u,p2,p2i,hia1,hld1]
   refine (c_l16Num (by have:=hwm w1 (by simp);omega)).go ?_
   rintro _ h3 ⟨rfl,n,bb,rfl,r1,r2,hn⟩
   simp -implicitDefEqProofs (disch:=first|omega|(simp only[LnZ];omega))[wrap64,setC,hO1,hC1,hO2,hC2]
   have on:I64 n:=⟨by omega,by omega⟩
   refine HS.appO (bytes:=32) (HS.mkPr (p:=⟨n,[]⟩) (HS.nil_ow HW.sw2) on) rfl rfl rfl rfl rfl (by omega) (by omega) fun o' h5 H=>?_
   have hO:=H.rep.one
   have hC:=H.rep.cells
   simp -implicitDefEqProofs (disch:=first|omega|(simp only[LnZ];omega))[wrap64,setC,hO1,hC1,hO,hC]
   refine hJ _ _ (by omega) ⟨⟨c.init,c.procs++[⟨n,[]⟩]⟩,x1,o',by simp,H.sw2.under fun _ H=>H.under fun _ H=>H.drop,hstep ⟨c.init,c.procs++[⟨n,[]⟩]⟩ (by simp only;omega) (by simp;omega) (fun p hp=>?_) fun s hl hs hw hok _=>?_⟩
   ·rcases List.mem_append.1 hp with hp | hp
    ·have:=hc.el p hp;omega
    ·rw[List.mem_singleton.1 hp];simp
   ·cases e:s.lns[i] with
    | sys l=>exact absurd e (noS s hl l)
    | prc m=>
     rw[e] at hw hok
     have hok:1≤m∧m≤4:=hok
     have hw:w0::[w1]=[wPrc,[dg m]]:=hw
     have hw1:w1=[dg m]:=by simpa using (List.cons.inj hw).2
     rw[hn m (by omega) (by omega) hw1]
     rfl
    | edg ed=>
     rw[e] at hw
     have:=congrArg List.length hw
     simp[Ln.ws] at this
  ·have p2i:¬((ws.length:Int)+1=2):=by omega
   have p3t:¬w0=[101,100,103,101]:=by rw[p1];decide
   have p3u:¬Tx w0=Tx [101,100,103,101]:=fun e=>p3t (Tx_inj.1 e)
   simp -implicitDefEqProofs (disch:=first|omega|(simp only[LnZ];omega))[wrap64,hia0,hld0,hwlen,hml,p1t,p1u,p2,p2i,p3t,p3u]
   refine hJ _ _ (by omega) ⟨c,x1,x2,by simp,HW.drop,hstep c (by omega) (by omega) (fun p hp=>by have:=hc.el p hp;omega) fun s hl hs hw hok hcc=>?_⟩
   exfalso
   cases e:s.lns[i] with
   | sys l=>exact absurd e (noS s hl l)
   | prc m=>
    rw[e] at hw
    have hw:w0::ws=[wPrc,[dg m]]:=hw
    obtain⟨e1,e2⟩:=List.cons.inj hw
    exact p2 (by rw[e2];rfl)
   | edg ed=>
    rw[e] at hw
    have hw:w0::ws=[wEdg,[dg ed.frm],[dg ed.to],ed.guard.fmt,ed.asg,syn ed.sync]:=hw
    obtain⟨e1,e2⟩:=List.cons.inj hw
    rw[p1] at e1;exact absurd e1 (by decide)
 have p1t:¬Tx w0=Tx [112,114,111,99,101,115,115]:=fun e=>p1 (Tx_inj.1 e)
 have p1u:¬w0=[112,114,111,99,101,115,115]:=p1
 by_cases p4:w0=wEdg
 case neg=>
  have p4t:¬Tx w0=Tx [101,100,103,101]:=fun e=>p4 (Tx_inj.1 e)
  have p4u:¬w0=[101,100,103,101]:=p4
  simp -implicitDefEqProofs (disch:=first|omega|(simp only[LnZ];omega))[wrap64,hia0,hld0,hwlen,hml,p1t,p1u,p4t,p4u]
  refine hJ _ _ (by omega) ⟨c,x1,x2,by simp,HW.drop,hstep c (by omega) (by omega) (fun p hp=>by have:=hc.el p hp;omega) fun s hl hs hw hok hcc=>?_⟩
  exfalso
  cases e:s.lns[i] with
  | sys l=>exact absurd e (noS s hl l)
  | prc m=>
   rw[e] at hw
   have hw:w0::ws=[wPrc,[dg m]]:=hw
   obtain⟨e1,e2⟩:=List.cons.inj hw
   exact p1 e1
  | edg ed=>
   rw[e] at hw
   have hw:w0::ws=[wEdg,[dg ed.frm],[dg ed.to],ed.guard.fmt,ed.asg,syn ed.sync]:=hw
   obtain⟨e1,e2⟩:=List.cons.inj hw
   exact p4 e1
 have p4t:Tx w0=Tx [101,100,103,101]:=by rw[p4];rfl
 have p4u:w0=[101,100,103,101]:=p4
 have p7:¬([101,100,103,101]:List UInt8)=[112,114,111,99,101,115,115]:=by decide
 by_cases p5:ws.length=5
 case neg=>
  have p5i:¬((ws.length:Int)+1=6):=by omega
  simp -implicitDefEqProofs (disch:=first|omega|(simp only[LnZ];omega))[wrap64,hia0,hld0,hwlen,hml,p1t,p4t,p4u,p7,p5,p5i]
  refine hJ _ _ (by omega) ⟨c,x1,x2,by simp,HW.drop,hstep c (by omega) (by omega) (fun p hp=>by have:=hc.el p hp;omega) fun s hl hs hw hok hcc=>?_⟩
  exfalso
  cases e:s.lns[i] with
  | sys l=>exact absurd e (noS s hl l)
  | prc m=>
   rw[e] at hw
   have hw:w0::ws=[wPrc,[dg m]]:=hw
   obtain⟨e1,e2⟩:=List.cons.inj hw
   exact p1 e1
  | edg ed=>
   rw[e] at hw
   have hw:w0::ws=[wEdg,[dg ed.frm],[dg ed.to],ed.guard.fmt,ed.asg,syn ed.sync]:=hw
   obtain⟨e1,e2⟩:=List.cons.inj hw
   exact p5 (by rw[e2];rfl)
 have p5i:(ws.length:Int)+1=6:=by omega
 by_cases p6:0<c.procs.length
 case neg=>
  have p6i:¬((0:Int)<c.procs.length):=by omega
  have p6z:c.procs.length=0:=by omega
  simp -implicitDefEqProofs (disch:=first|omega|(simp only[LnZ];omega))[wrap64,hia0,hld0,hwlen,hml,p1t,p4t,p4u,p7,p5,p5i,p6,p6i,p6z]
  refine hJ _ _ (by omega) ⟨c,x1,x2,by simp,HW.drop,hstep c (by omega) (by omega) (fun p hp=>by have:=hc.el p hp;omega) fun s hl hs hw hok hcc=>?_⟩
  exfalso
  cases e:s.lns[i] with
  | sys l=>exact absurd e (noS s hl l)
  | prc m=>
   rw[e] at hw
   have hw:w0::ws=[wPrc,[dg m]]:=hw
   obtain⟨e1,e2⟩:=List.cons.inj hw
   exact p1 e1
  | edg ed=>
   rw[e] at hw
   have hw:w0::ws=[wEdg,[dg ed.frm],[dg ed.to],ed.guard.fmt,ed.asg,syn ed.sync]:=hw
   obtain⟨e1,e2⟩:=List.cons.inj hw
   have:=Sy.edg_at (psY_some hs).1 hl e
   rw[← hcc] at this
   exact p6 this
 have p6i:(0:Int)<c.procs.length:=by omega
 obtain⟨m,hm⟩:∃m,c.procs.length=m+1:=⟨c.procs.length-1,by omega⟩
 have hmi:m<c.procs.length:=by omega
 obtain⟨w1,w2,w3,w4,w5,rfl⟩:∃a b c d f,ws=[a,b,c,d,f]:=by
  match ws,p5 with
  | [a,b,c,d,f],_=>exact⟨a,b,c,d,f,rfl⟩
 obtain⟨u,hu,H1⟩:=HS.take HW.sw2 hmi
 obtain⟨we,rfl,kl,H1⟩:=H1.unPr
 have hiam:=HS.holeia H1.sw1 (n:=2) (kd:=.i64) rfl hmi
 have hP:=hld_parts (HS.holeP H1.sw1 (n:=2) rfl rfl)
 have hmm:(c.procs.length:Int)=(m:Int)+1:=by omega
 simp -implicitDefEqProofs (disch:=first|omega|(simp only[LnZ];omega))[wrap64,hia0,hld0,hwlen,hml,p1t,p4t,p4u,p7,p6,p6i,setC,hO1,hC1,hO2,hC2,hmm,hiam,hP.1,hP.2.2.1]
 have bw:=fun w (hw:w∈[w0,w1,w2,w3,w4,w5])=>hwm w hw
 have bw1:=bw w1 (by simp)
 have bw2:=bw w2 (by simp)
 have bw3:=bw w3 (by simp)
 have bw4:=bw w4 (by simp)
 refine (c_l2ScanEdge HW.rep (by omega) (by omega) (by omega) (by omega)).go ?_
 rintro u2 h4 ⟨y,H2,hy⟩
 have H:=H2.app H1
 obtain⟨wa,wb,rfl,ok,Ra,Rb⟩:=Rep_Ed.1 H2.rep
 have H:HS h (ow (.agg (y.cs wa wb).toArray) y::ow we c.procs[m].edges::hole x2 c.procs m (.agg #[.int .i64 c.procs[m].locs,we])::ow W ([w0,w1,w2,w3,w4,w5].map Tx)::ow x1 c.init::ow L ((spl 10 t).map Tx)::[]) h4:=H
 have hel:=hc.el c.procs[m] (List.getElem_mem hmi)
 have hiam:=HS.holeia H.sw2 (n:=2) (kd:=.i64) rfl hmi
 have hP:=hld_parts (HS.holeP H.sw2 (n:=2) rfl rfl)
 have hOa:=Ra.one
 have hCa:=Ra.cells
 have hOb:=Rb.one
 have hCb:=Rb.cells
 simp -implicitDefEqProofs (disch:=first|omega|(simp only[LnZ];omega))[wrap64,setC,hO1,hC1,hO2,hC2,hmm,hiam,hP.1,hP.2.2.1,Ed.cs,hOa,hCa,hOb,hCb]
 refine HS.appO (bytes:=112) H rfl rfl rfl rfl rfl (by omega) (by omega) fun o' h5 H=>?_
 have hiam:=HS.holeia H.sw1 (n:=2) (kd:=.i64) rfl hmi
 have hP:=hld_parts (HS.holeP H.sw1 (n:=2) rfl rfl)
 have hO:=H.rep.one
 have hC:=H.rep.cells
 simp -implicitDefEqProofs (disch:=first|omega|(simp only[LnZ];omega))[wrap64,hmm,hiam,hP.1]
 refine HS.holest H.sw1 rfl (n:=2) rfl rfl rfl (by simp[hC]) (by simp[hC,hO]) (by decide) fun h6 H=>?_
 rw[hC] at H
 have H:HS h (hole x2 c.procs m (.agg ([.int .i64 c.procs[m].locs,o']:List Value).toArray)::ow o' (c.procs[m].edges++[y])::ow W ([w0,w1,w2,w3,w4,w5].map Tx)::ow x1 c.init::ow L ((spl 10 t).map Tx)::[]) h6:=H
 have H:=HS.put (HS.mkPr (p:=⟨c.procs[m].locs,c.procs[m].edges++[y]⟩) H.sw1 kl)
 simp -implicitDefEqProofs (disch:=omega)[wrap64]
 refine hJ _ _ (by omega) ⟨⟨c.init,c.procs.set m ⟨c.procs[m].locs,c.procs[m].edges++[y]⟩⟩,x1,x2,by simp,H.sw2.under fun _ H=>H.under fun _ H=>H.drop,hstep ⟨c.init,c.procs.set m ⟨c.procs[m].locs,c.procs[m].edges++[y]⟩⟩ (by simp only;omega) (by simp only[List.length_set];omega) (fun p hp=>?_) fun s hl hs hw hok _=>?_⟩
 ·rcases List.mem_or_eq_of_mem_set hp with hp | hp
  ·have:=hc.el p hp;omega
  ·rw[hp];simp;omega
 ·cases e:s.lns[i] with
  | sys l=>exact absurd e (noS s hl l)
  | prc n=>
   rw[e] at hw
   have hw:w0::[w1,w2,w3,w4,w5]=[wPrc,[dg n]]:=hw
   exact absurd (List.cons.inj hw).1 p1
  | edg ed=>
   rw[e] at hw hok
   obtain⟨n,hok⟩:=hok
   rw[hy ed n hok hw]
   have e1:c.procs.length-1=m:=by omega
   have e2:c.procs.getD m ⟨0,[]⟩=c.procs[m]:=by rw[List.getD_eq_getElem?_getD,List.getElem?_eq_getElem hmi];rfl
   simp only[Sy.ap,e1,e2]
theorem small_dg {n:Int}(h0:0≤n) (h9:n≤9):smallV [dg n]=n:=by rw[smallV,numv_dg h0 h9]
def Ed.zz:Ed:=⟨0,0,Exq.zero,0,Exq.zero,0⟩
theorem cut_asg {v:UInt8}{r:List UInt8}(hv:v≠58):Lib.cut (v::58::61::r) [58,61]=([v],r,true):=by
 have h0:((58:UInt8) == v)=false:=beq_eq_false_iff_ne.2 fun e=>hv e.symm
 have h1:Lib.index (58::61::r) [58,61]=0:=by
  rw[Lib.index,if_pos];simp[List.isPrefixOf]
 have h2:Lib.index (v::58::61::r) [58,61]=1:=by
  rw[Lib.index,if_neg,h1]
  ·rfl
  ·simp[List.isPrefixOf,h0]
 rw[Lib.cut,h2]
 rfl
theorem xyz_rng {s:List UInt8}:-1≤Lib.index [120,121,122] s∧Lib.index [120,121,122] s≤3:=by
 have h1:=Lib.index_ge [120,121,122] s
 refine⟨h1,?_⟩
 by_cases h:0≤Lib.index [120,121,122] s
 ·have:=Lib.index_room _ _ h
  simp only[List.length_cons,List.length_nil] at this
  omega
 ·omega
theorem xyz_at {n:Int}(h0:0≤n) (h2:n≤2):Lib.index [120,121,122] [UInt8.ofNat (120+n.toNat)]=n:=by
 obtain rfl | rfl | rfl:n=0∨n=1∨n=2:=by omega
 all_goals rfl
set_option maxHeartbeats 1000000 in
theorem c_parseEdge {h:Heap}{v:Value}{a0 a1 a2 a3 a4 a5:List UInt8}(R:Rep h v ([a0,a1,a2,a3,a4,a5].map Tx)) (b3:a3.length≤1048577) (b4:a4.length≤1048577) (G:Gm h) :
  CallE Tryz.prog fn_impl_parseEdge [v] h (fun u h'=>∃(ok:Bool) (y:Ed) (w:Value),u=.tuple #[w,.bool ok]∧HS h [ow w y] h'∧∀e n,Ed.Ok e n→[a0,a1,a2,a3,a4,a5]=(Ln.edg e).ws→ok=true∧y=e):=by
 have i0:I64 0:=⟨by decide,by decide⟩
 have im:I64 (-1):=⟨by decide,by decide⟩
 have hws:∀(e:Ed) (n:Int),[a0,a1,a2,a3,a4,a5]=(Ln.edg e).ws→a1=[dg e.frm]∧a2=[dg e.to]∧a3=e.guard.fmt∧a4=e.asg∧a5=syn e.sync:=by
  intro e n hw
  simp only[Ln.ws,List.cons.injEq,and_true] at hw
  exact hw.2
 have hn1:∀e n,Ed.Ok e n→[a0,a1,a2,a3,a4,a5]=(Ln.edg e).ws→smallV a1=e.frm:=fun e n he hw=>by rw[(hws e n hw).1,small_dg he.f0 (by have:=he.f1;have:=he.n4;omega)]
 have hn2:∀e n,Ed.Ok e n→[a0,a1,a2,a3,a4,a5]=(Ln.edg e).ws→smallV a2=e.to:=fun e n he hw=>by rw[(hws e n hw).2.1,small_dg he.t0 (by have:=he.t1;have:=he.n4;omega)]
 have hB:∀e n,Ed.Ok e n→[a0,a1,a2,a3,a4,a5]=(Ln.edg e).ws→(rdE a3).isSome=true:=fun e n he hw=>by rw[(hws e n hw).2.2.1,rdE_fmt he.gd];rfl
 have hgu:∀e n,Ed.Ok e n→[a0,a1,a2,a3,a4,a5]=(Ln.edg e).ws→(rdE a3).getD Exq.zero=e.guard:=fun e n he hw=>by rw[(hws e n hw).2.2.1,rdE_fmt he.gd];rfl
 have r1:=smallV_rng (l:=a1)
 have r2:=smallV_rng (l:=a2)
 have o1:I64 (smallV a1):=⟨by omega,by omega⟩
 have o2:I64 (smallV a2):=⟨by omega,by omega⟩
 have hS:=R.S
 have hS1:hload h (some (elp 1 v 1)) none=some (.string (Tx a1)):=hS.2 1 (by simp)
 have hS2:hload h (some (elp 1 v 2)) none=some (.string (Tx a2)):=hS.2 2 (by simp)
 have hS3:hload h (some (elp 1 v 3)) none=some (.string (Tx a3)):=hS.2 3 (by simp)
 have hS4:hload h (some (elp 1 v 4)) none=some (.string (Tx a4)):=hS.2 4 (by simp)
 have hS5:hload h (some (elp 1 v 5)) none=some (.string (Tx a5)):=hS.2 5 (by simp)
 have hI:=(R.X (n:=1) rfl).1
 have hI1:iaV 1 v (.int .i64 1)=some (elp 1 v 1):=hI .i64 1 (by simp)
 have hI2:iaV 1 v (.int .i64 2)=some (elp 1 v 2):=hI .i64 2 (by simp)
 have hI3:iaV 1 v (.int .i64 3)=some (elp 1 v 3):=hI .i64 3 (by simp)
 have hI4:iaV 1 v (.int .i64 4)=some (elp 1 v 4):=hI .i64 4 (by simp)
 have hI5:iaV 1 v (.int .i64 5)=some (elp 1 v 5):=hI .i64 5 (by simp)
 refine CallE.gen fun k hk=>EN_impl_parseEdge rfl ?_
 simp -implicitDefEqProofs (disch:=first|omega|(simp only[LnZ];omega))[wrap64,setC,hI3,hS3]
 refine (c_ParseExpr b3).go ?_
 rintro _ h1 ⟨wg,rfl,H⟩
 generalize (rdE a3).isSome=B at *
 generalize (rdE a3).getD Exq.zero=gu at *
 replace hS1:=hload_le H.base hS1
 replace hS2:=hload_le H.base hS2
 replace hS4:=hload_le H.base hS4
 replace hS5:=hload_le H.base hS5
 obtain⟨w,rfl,g1,g2,H⟩:=H.unExq
 have hO:=H.rep.one
 have hC:=H.rep.cells
 simp -implicitDefEqProofs (disch:=first|omega|(simp only[LnZ];omega))[wrap64,setC,hO,hC,hI1,hS1,hI2,hS2]
 refine c_small.go ?_
 rintro _ h1 ⟨rfl,rfl⟩
 simp -implicitDefEqProofs (disch:=first|omega|(simp only[LnZ];omega))[wrap64,setC,hO,hC,hI1,hS1,hI2,hS2]
 refine c_small.go ?_
 rintro _ h1 ⟨rfl,rfl⟩
 simp -implicitDefEqProofs (disch:=first|omega|(simp only[LnZ];omega))[wrap64,setC,hO,hC,hI4,hS4]
 refine (c_CutT (s:=[58,61]) b4 (G.le H.base)).go ?_
 rintro _ h1 ⟨rfl,rfl⟩
 have hcl:=cut_len (l:=a4) (s:=[58,61])
 have hcut:∀e n,Ed.Ok e n→[a0,a1,a2,a3,a4,a5]=(Ln.edg e).ws→(e.var<0∧Lib.cut a4 [58,61]=([45],[],false))∨(0≤e.var∧Lib.cut a4 [58,61]=([UInt8.ofNat (120+e.var.toNat)],e.value.fmt,true)):=by
  intro e n he hw
  have h4:=(hws e n hw).2.2.2.1
  have hv1:=he.v1
  unfold Ed.asg at h4
  split at h4
  ·rename_i q
   exact .inl ⟨q,by rw[h4];rfl⟩
  ·rename_i q
   refine .inr ⟨by omega,?_⟩
   rw[h4]
   exact cut_asg (var_no (by omega) hv1 (by decide))
 generalize Lib.cut a4 [58,61]=ct at *
 obtain⟨nm,tx,asg⟩:=ct
 simp only at hcl hcut
 cases asg with
 | true=>
  simp -implicitDefEqProofs (disch:=first|omega|(simp only[LnZ];omega))[wrap64,setC,hO,hC]
  refine (c_ParseExpr (by omega)).go ?_
  rintro _ h2 ⟨wv,rfl,H2⟩
  have hv2:∀e n,Ed.Ok e n→[a0,a1,a2,a3,a4,a5]=(Ln.edg e).ws→nm=[UInt8.ofNat (120+e.var.toNat)]∧0≤e.var∧rdE tx=some e.value:=by
   intro e n he hw
   rcases hcut e n he hw with ⟨_,q⟩ | ⟨q0,q⟩
   ·simp at q
   ·simp only[Prod.mk.injEq,and_true] at q
    rcases he.vl with ⟨_,hv⟩ | ⟨hv,_⟩
    ·exact⟨q.1,q0,by rw[q.2,rdE_fmt hv]⟩
    ·omega
  replace hS5:=hload_le H2.base hS5
  obtain⟨w2,rfl,v1,v2,H2⟩:=H2.unExq
  have hO2:=H2.rep.one
  have hC2:=H2.rep.cells
  have HH:=(H2.app H).sw1
  have zz:(∀e n,Ed.Ok e n→[a0,a1,a2,a3,a4,a5]=(Ln.edg e).ws→False)→k (.tuple #[.agg #[.int .i64 0,.int .i64 0,.int .i64 0,.int .i64 0,.slice none 0 0,.int .i64 0,.int .i64 0,.int .i64 0,.slice none 0 0,.int .i64 0],.bool false]) h2:=fun hno=>
   hk _ _ ⟨false,Ed.zz,_,rfl,HS.mkEd (e:=Ed.zz) (HS.nil_ow (HS.nil_ow (Γ:=[]) HH.base)) ⟨i0,i0,i0,i0,i0,i0,i0,i0⟩,fun e n he hw=>(hno e n he hw).elim⟩
  by_cases c1:nm.length=1
  case neg=>
   have c1i:¬(nm.length:Int)=1:=by omega
   simp -implicitDefEqProofs (disch:=first|omega|(simp only[LnZ];omega))[wrap64,setC,hO,hC,hO2,hC2,c1,c1i]
   exact RetK.keep (zz fun e n he hw=>by rw[(hv2 e n he hw).1] at c1;simp at c1)
  have c1i:(nm.length:Int)=1:=by omega
  cases hr:rdE tx with
  | none=>
   simp -implicitDefEqProofs (disch:=first|omega|(simp only[LnZ];omega))[wrap64,setC,hO,hC,hO2,hC2,c1,c1i,hr]
   exact RetK.keep (zz fun e n he hw=>by rw[(hv2 e n he hw).2.2] at hr;simp at hr)
  | some va=>
   rw[hr] at v1 v2 HH hv2
   simp only[Option.getD_some] at v1 v2 HH
   simp -implicitDefEqProofs (disch:=first|omega|(simp only[LnZ];omega))[wrap64,setC,hO,hC,hO2,hC2,c1,c1i,hr]
   refine (c_IndexT (l:=[120,121,122]) (s:=nm) (by simp) (G.le (HH.base))).go ?_
   rintro _ h2 ⟨rfl,rfl⟩
   have hxr:=xyz_rng (s:=nm)
   have OV:I64 (Lib.index [120,121,122] nm):=⟨by omega,by omega⟩
   have hval:∀e n,Ed.Ok e n→[a0,a1,a2,a3,a4,a5]=(Ln.edg e).ws→Lib.index [120,121,122] nm=e.var∧va=e.value:=by
    intro e n he hw
    obtain⟨k1,k2,k3⟩:=hv2 e n he hw
    rw[k1,xyz_at k2 he.v1]
    exact⟨rfl,Option.some.inj k3⟩
   generalize Lib.index [120,121,122] nm=vr at *
   by_cases s1:a5.length=2
   case neg=>
    have s1i:¬(a5.length:Int)=2:=by omega
    simp -implicitDefEqProofs (disch:=first|omega|(simp only[LnZ];omega))[wrap64,setC,hO,hC,hO2,hC2,hI5,hS5,s1,s1i]
    refine RetK.keep (hk _ _ ⟨B,⟨smallV a1,smallV a2,gu,vr,va,0⟩,_,rfl,HS.mkEd (e:=⟨smallV a1,smallV a2,gu,vr,va,0⟩) HH ⟨o1,o2,g1,g2,OV,v1,v2,i0⟩,fun e n he hw=>⟨hB e n he hw,?_⟩⟩)
    have hv:=hval e n he hw
    have h5:=(hws e n hw).2.2.2.2
    have hsy:e.sync=0:=by
     unfold syn at h5
     split at h5
     ·rw[h5] at s1;simp at s1
     ·split at h5
      ·rw[h5] at s1;simp at s1
      ·omega
    exact Ed.ext_iff'.2 ⟨hn1 e n he hw,hn2 e n he hw,hgu e n he hw,hv.1,hv.2,hsy.symm⟩
   obtain⟨y,z,rfl⟩:∃y z,a5=[y,z]:=by
    match a5,s1 with
    | [y,z],_=>exact⟨y,z,rfl⟩
   have hsl:sliceSV (.string (Tx [y,z])) (some (some (.int .i64 1))) none=some (.string (Tx [z])):=slcTxE (l:=[y,z]) (k:=.i64) (a:=1) (by simp)
   have hi5:idxSV (.string (Tx [y,z])) (.int .i64 0)=some (.int .u8 ((y.toNat:Nat):Int)):=idxTx0 (l:=[y,z]) (by simp)
   have rz:=smallV_rng (l:=[z])
   simp -implicitDefEqProofs (disch:=first|omega|(simp only[LnZ];omega))[wrap64,setC,hO,hC,hO2,hC2,hI5,hS5,hsl]
   refine (c_small (l:=[z])).go ?_
   rintro _ hZ ⟨rfl,rfl⟩
   by_cases s2:y.toNat=63
   ·have s2i:((y.toNat:Nat):Int)=63:=by omega
    simp -implicitDefEqProofs (disch:=first|omega|(simp only[LnZ];omega))[wrap64,setC,hO,hC,hO2,hC2,hI5,hS5,hi5,s2i]
    refine RetK.keep (hk _ _ ⟨B,⟨smallV a1,smallV a2,gu,vr,va,-smallV [z]⟩,_,rfl,HS.mkEd (e:=⟨smallV a1,smallV a2,gu,vr,va,-smallV [z]⟩) HH ⟨o1,o2,g1,g2,OV,v1,v2,(⟨by omega,by omega⟩:I64 (-smallV [z]))⟩,fun e n he hw=>⟨hB e n he hw,?_⟩⟩)
    have hv:=hval e n he hw
    have h5:=(hws e n hw).2.2.2.2
    have hs0:=he.s0
    have hs1:=he.s1
    have hsy:-smallV [z]=e.sync:=by
     unfold syn at h5
     split at h5
     ·rw[(List.cons.inj h5).1] at s2;exact absurd s2 (by decide)
     ·split at h5
      ·rw[(List.cons.inj h5).2,small_dg (by omega) (by omega)];omega
      ·simp at h5
    exact Ed.ext_iff'.2 ⟨hn1 e n he hw,hn2 e n he hw,hgu e n he hw,hv.1,hv.2,hsy⟩
   ·have s2i:¬((y.toNat:Nat):Int)=63:=by omega
    simp -implicitDefEqProofs (disch:=first|omega|(simp only[LnZ];omega))[wrap64,setC,hO,hC,hO2,hC2,hI5,hS5,hi5,s2i,s2]
    refine RetK.keep (hk _ _ ⟨B,⟨smallV a1,smallV a2,gu,vr,va,smallV [z]⟩,_,rfl,HS.mkEd (e:=⟨smallV a1,smallV a2,gu,vr,va,smallV [z]⟩) HH ⟨o1,o2,g1,g2,OV,v1,v2,(⟨by omega,by omega⟩:I64 (smallV [z]))⟩,fun e n he hw=>⟨hB e n he hw,?_⟩⟩)
    have hv:=hval e n he hw
    have h5:=(hws e n hw).2.2.2.2
    have hs0:=he.s0
    have hs1:=he.s1
    have hsy:smallV [z]=e.sync:=by
     unfold syn at h5
     split at h5
     ·rw[(List.cons.inj h5).2,small_dg (by omega) (by omega)]
     ·split at h5
      ·rw[(List.cons.inj h5).1] at s2;exact absurd rfl s2
      ·simp at h5
    exact Ed.ext_iff'.2 ⟨hn1 e n he hw,hn2 e n he hw,hgu e n he hw,hv.1,hv.2,hsy⟩
 | false=>
  have hval:∀e n,Ed.Ok e n→[a0,a1,a2,a3,a4,a5]=(Ln.edg e).ws→(-1:Int)=e.var∧Exq.zero=e.value:=by
   intro e n he hw
   rcases hcut e n he hw with ⟨q,_⟩ | ⟨_,q⟩
   ·rcases he.vl with ⟨hv,_⟩ | ⟨_,hv⟩
    ·omega
    ·have:=he.v0
     exact⟨by omega,hv.symm⟩
   ·simp at q
  have v1:I64 Exq.zero.kind:=i0
  have v2:I64 Exq.zero.val:=i0
  have OV:=im
  have HH:=(HS.nil_ow (α:=Exq) H).sw1
  by_cases s1:a5.length=2
  case neg=>
   have s1i:¬(a5.length:Int)=2:=by omega
   simp -implicitDefEqProofs (disch:=first|omega|(simp only[LnZ];omega))[wrap64,setC,hO,hC,hI5,hS5,s1,s1i]
   refine RetK.keep (hk _ _ ⟨B,⟨smallV a1,smallV a2,gu,(-1),Exq.zero,0⟩,_,rfl,HS.mkEd (e:=⟨smallV a1,smallV a2,gu,(-1),Exq.zero,0⟩) HH ⟨o1,o2,g1,g2,OV,v1,v2,i0⟩,fun e n he hw=>⟨hB e n he hw,?_⟩⟩)
   have hv:=hval e n he hw
   have h5:=(hws e n hw).2.2.2.2
   have hsy:e.sync=0:=by
    unfold syn at h5
    split at h5
    ·rw[h5] at s1;simp at s1
    ·split at h5
     ·rw[h5] at s1;simp at s1
     ·omega
   exact Ed.ext_iff'.2 ⟨hn1 e n he hw,hn2 e n he hw,hgu e n he hw,hv.1,hv.2,hsy.symm⟩
  obtain⟨y,z,rfl⟩:∃y z,a5=[y,z]:=by
   match a5,s1 with
   | [y,z],_=>exact⟨y,z,rfl⟩
  have hsl:sliceSV (.string (Tx [y,z])) (some (some (.int .i64 1))) none=some (.string (Tx [z])):=slcTxE (l:=[y,z]) (k:=.i64) (a:=1) (by simp)
  have hi5:idxSV (.string (Tx [y,z])) (.int .i64 0)=some (.int .u8 ((y.toNat:Nat):Int)):=idxTx0 (l:=[y,z]) (by simp)
  have rz:=smallV_rng (l:=[z])
  simp -implicitDefEqProofs (disch:=first|omega|(simp only[LnZ];omega))[wrap64,setC,hO,hC,hI5,hS5,hsl]
  refine (c_small (l:=[z])).go ?_
  rintro _ hZ ⟨rfl,rfl⟩
  by_cases s2:y.toNat=63
  ·have s2i:((y.toNat:Nat):Int)=63:=by omega
   simp -implicitDefEqProofs (disch:=first|omega|(simp only[LnZ];omega))[wrap64,setC,hO,hC,hI5,hS5,hi5,s2i]
   refine RetK.keep (hk _ _ ⟨B,⟨smallV a1,smallV a2,gu,(-1),Exq.zero,-smallV [z]⟩,_,rfl,HS.mkEd (e:=⟨smallV a1,smallV a2,gu,(-1),Exq.zero,-smallV [z]⟩) HH ⟨o1,o2,g1,g2,OV,v1,v2,(⟨by omega,by omega⟩:I64 (-smallV [z]))⟩,fun e n he hw=>⟨hB e n he hw,?_⟩⟩)
   have hv:=hval e n he hw
   have h5:=(hws e n hw).2.2.2.2
   have hs0:=he.s0
   have hs1:=he.s1
   have hsy:-smallV [z]=e.sync:=by
    unfold syn at h5
    split at h5
    ·rw[(List.cons.inj h5).1] at s2;exact absurd s2 (by decide)
    ·split at h5
     ·rw[(List.cons.inj h5).2,small_dg (by omega) (by omega)];omega
     ·simp at h5
   exact Ed.ext_iff'.2 ⟨hn1 e n he hw,hn2 e n he hw,hgu e n he hw,hv.1,hv.2,hsy⟩
  ·have s2i:¬((y.toNat:Nat):Int)=63:=by omega
   simp -implicitDefEqProofs (disch:=first|omega|(simp only[LnZ];omega))[wrap64,setC,hO,hC,hI5,hS5,hi5,s2i,s2]
   refine RetK.keep (hk _ _ ⟨B,⟨smallV a1,smallV a2,gu,(-1),Exq.zero,smallV [z]⟩,_,rfl,HS.mkEd (e:=⟨smallV a1,smallV a2,gu,(-1),Exq.zero,smallV [z]⟩) HH ⟨o1,o2,g1,g2,OV,v1,v2,(⟨by omega,by omega⟩:I64 (smallV [z]))⟩,fun e n he hw=>⟨hB e n he hw,?_⟩⟩)
   have hv:=hval e n he hw
   have h5:=(hws e n hw).2.2.2.2
   have hs0:=he.s0
   have hs1:=he.s1
   have hsy:smallV [z]=e.sync:=by
    unfold syn at h5
    split at h5
    ·rw[(List.cons.inj h5).2,small_dg (by omega) (by omega)]
    ·split at h5
     ·rw[(List.cons.inj h5).1] at s2;exact absurd rfl s2
     ·simp at h5
   exact Ed.ext_iff'.2 ⟨hn1 e n he hw,hn2 e n he hw,hgu e n he hw,hv.1,hv.2,hsy⟩
theorem slcD {n:Int}(h0:0≤n) (h9:n≤9):sliceSV (.string (Tx [48,49,50,51,52,53,54,55,56,57,97,98,99,100,101,102,103,104,105,106,107,108,109,110,111,112,113,114,115,116,117,118,119,120,121,122])) (some (some (.int .i64 n))) (some (some (.int .i64 (n+1))))=some (.string (Tx [dg n])):=by
 obtain rfl | rfl | rfl | rfl | rfl | rfl | rfl | rfl | rfl | rfl:n=0∨n=1∨n=2∨n=3∨n=4∨n=5∨n=6∨n=7∨n=8∨n=9:=by omega
 all_goals rfl
theorem c_strconv_small {h:Heap}{n:Int}(h0:0≤n) (h9:n≤9):CallE Tryz.prog fn_internal_strconv_small [.int .i64 n] h (fun u h'=>h'=h∧u=.string (Tx [dg n])):=by
 refine CallE.gen fun k hk=>EN_internal_strconv_small rfl ?_
 have e:=slcD h0 h9
 have h1:n<10:=by omega
 simp -implicitDefEqProofs (disch:=first|omega|(simp only[LnZ];omega))[wrap64,h1,e]
 exact RetK.keep (hk _ _ ⟨rfl,rfl⟩)
theorem c_FormatInt {h:Heap}{n:Int}(h0:0≤n) (h9:n≤9):CallE Tryz.prog fn_internal_strconv_FormatInt [.int .i64 n,.int .i64 10] h (fun u h'=>h'=h∧u=.string (Tx [dg n])):=by
 refine CallE.gen fun k hk=>EN_internal_strconv_FormatInt rfl ?_
 have h1:n<100:=by omega
 simp -implicitDefEqProofs (disch:=first|omega|(simp only[LnZ];omega))[wrap64,h0,h1]
 refine (c_strconv_small h0 h9).go ?_
 rintro _ _ ⟨rfl,rfl⟩
 simp -implicitDefEqProofs (disch:=omega)[wrap64]
 exact RetK.keep (hk _ _ ⟨rfl,rfl⟩)
theorem c_Itoa {h:Heap}{n:Int}(h0:0≤n) (h9:n≤9):CallE Tryz.prog fn_strconv_Itoa [.int .i64 n] h (fun u h'=>h'=h∧u=.string (Tx [dg n])):=by
 have e:CallE Tryz.prog fn_internal_strconv_Itoa [.int .i64 n] h (fun u h'=>h'=h∧u=.string (Tx [dg n])):=by
  refine CallE.gen fun k hk=>EN_internal_strconv_Itoa rfl ?_
  simp -implicitDefEqProofs (disch:=omega)[wrap64]
  refine (c_FormatInt h0 h9).go ?_
  rintro _ _ ⟨rfl,rfl⟩
  simp -implicitDefEqProofs (disch:=omega)[wrap64]
  exact RetK.keep (hk _ _ ⟨rfl,rfl⟩)
 refine CallE.gen fun k hk=>EN_strconv_Itoa rfl ?_
 simp -implicitDefEqProofs (disch:=omega)[wrap64]
 refine e.go ?_
 rintro _ _ ⟨rfl,rfl⟩
 simp -implicitDefEqProofs (disch:=omega)[wrap64]
 exact RetK.keep (hk _ _ ⟨rfl,rfl⟩)
def sgL:List ByteArray:=[Tx [],Tx [],Tx [],Tx [],Tx [38],Tx [124],Tx [61],Tx [60],Tx [43],Tx [45]]
theorem sgL_at {k:Int}(h4:4≤k) (h9:k≤9) (hi:k.toNat<sgL.length):sgL[k.toNat]=Tx [Exq.sg k]:=by
 obtain rfl | rfl | rfl | rfl | rfl | rfl:k=4∨k=5∨k=6∨k=7∨k=8∨k=9:=by omega
 all_goals rfl
def Gl (h:Heap):Prop:=∃w,hload h (some (.pointer (some ⟨0,0,none⟩))) none=some w∧Rep h w sgL
theorem Gl.le {h h':Heap}(H:Gl h) (hl:h.le h'):Gl h':=by
 obtain⟨w,h1,h2⟩:=H
 exact⟨w,hload_le hl h1,h2.le hl⟩
theorem c_text:∀(n:Nat) {x:Exq}{h:Heap}{v:Value},x.Shp n→x.nod≤15→Rep h v x→Gl h→CallE Tryz.prog fn_impl_Expr_text [v] h (fun u h'=>h'=h∧u=.string (Tx x.fmt)):=by
 intro n
 induction n with
 | zero=>intro x h v hs;exact hs.elim
 | succ n ih=>
 intro x h v hs hn R G
 obtain⟨wk,rfl,k1,k2,R1⟩:=Rep_Exq.1 R
 have hL:=R1.lt
 have hlo:=hs.1.lo
 refine CallE.gen fun k hk=>EN_impl_Expr_text rfl ?_
 rcases hs.nd.cases with c | c | c | c
 ·have h3:=hs.nd.hi1 c
  simp -implicitDefEqProofs (disch:=first|omega|(simp only[LnZ];omega))[wrap64,c]
  refine (c_Itoa hlo (by omega)).go ?_
  rintro _ _ ⟨rfl,rfl⟩
  simp -implicitDefEqProofs (disch:=omega)[wrap64]
  exact RetK.keep (hk _ _ ⟨rfl,by rw[Exq.fmt1 c]⟩)
 ·have h2:=hs.nd.hi2 c
  have e:=slcV hlo h2
  simp -implicitDefEqProofs (disch:=first|omega|(simp only[LnZ];omega))[wrap64,c,e]
  exact RetK.keep (hk _ _ ⟨rfl,by rw[Exq.fmt2 c];simp⟩)
 ·have hl:=hs.nd.k3 c
  have hnn:=Exq.nod_kids1 hl
  obtain⟨u0,hu0,Ru0⟩:=R1.ld (i:=0) (by omega)
  change hload _ (some (elp 3 wk 0)) (some 3)=some u0 at hu0
  have hf:=Exq.fmt_len (hs.kid (i:=0) (by omega))
  have c1:¬x.kind=1:=by omega
  have c2:¬x.kind=2:=by omega
  have e3:=Exq.fmt3 c (by omega)
  simp -implicitDefEqProofs (disch:=first|omega|(simp only[LnZ];omega))[wrap64,c,c1,c2,R1.X (n:=3) rfl,hu0]
  refine (ih (hs.kid (i:=0) (by omega)) (by omega) Ru0 G).go ?_
  rintro _ _ ⟨rfl,rfl⟩
  generalize x.kids[0].fmt=t at *
  simp -implicitDefEqProofs (disch:=omega)[wrap64]
  exact RetK.keep (hk _ _ ⟨rfl,by rw[e3]⟩)
 ·have hl:=hs.nd.k4 c.1
  have hnn:=Exq.nod_kids2 hl
  obtain⟨u0,hu0,Ru0⟩:=R1.ld (i:=0) (by omega)
  change hload _ (some (elp 3 wk 0)) (some 3)=some u0 at hu0
  obtain⟨u1,hu1,Ru1⟩:=R1.ld (i:=1) (by omega)
  change hload _ (some (elp 3 wk 1)) (some 3)=some u1 at hu1
  have hf:=Exq.fmt_len (hs.kid (i:=0) (by omega))
  have hg:=Exq.fmt_len (hs.kid (i:=1) (by omega))
  have c1:¬x.kind=1:=by omega
  have c2:¬x.kind=2:=by omega
  have c3:¬x.kind=3:=by omega
  have e4:=Exq.fmt4 c.1 (by omega)
  have G0:=G
  obtain⟨wg,g1,Rg⟩:=G
  have hkl:k1=k1:=rfl
  have hki:x.kind.toNat<sgL.length:=by show x.kind.toNat<10;omega
  have gi:=(Rg.X (n:=1) rfl).2.1 .i64 x.kind (by omega) (by show x.kind<(10:Nat);omega)
  have gl:=Rg.ldS hki
  rw[sgL_at c.1 c.2] at gl
  simp -implicitDefEqProofs (disch:=first|omega|(simp only[LnZ];omega))[wrap64,c1,c2,c3,R1.X (n:=3) rfl,hu0,hu1,g1,gi,gl]
  refine (ih (hs.kid (i:=0) (by omega)) (by omega) Ru0 G0).go ?_
  rintro _ _ ⟨rfl,rfl⟩
  simp -implicitDefEqProofs (disch:=first|omega|(simp only[LnZ];omega))[wrap64,c1,c2,c3,R1.X (n:=3) rfl,hu0,hu1,g1,gi,gl]
  refine (ih (hs.kid (i:=1) (by omega)) (by omega) Ru1 G0).go ?_
  rintro _ _ ⟨rfl,rfl⟩
  generalize x.kids[0].fmt=t at *
  generalize x.kids[1].fmt=t2 at *
  simp -implicitDefEqProofs (disch:=first|omega|(simp only[LnZ];omega))[wrap64,g1,gi,gl]
  exact RetK.keep (hk _ _ ⟨rfl,by rw[e4]⟩)
theorem c_syncText {h:Heap}{n:Int}(h0:-2≤n) (h2:n≤2):CallE Tryz.prog fn_impl_syncText [.int .i64 n] h (fun u h'=>h'=h∧u=.string (Tx (syn n))):=by
 refine CallE.gen fun k hk=>EN_impl_syncText rfl ?_
 by_cases s2:0<n
 ·have y1:syn n=[33,dg n]:=by rw[syn,if_pos s2]
  simp -implicitDefEqProofs (disch:=first|omega|(simp only[LnZ];omega))[wrap64,s2]
  refine (c_Itoa (n:=n) (by omega) (by omega)).go ?_
  rintro _ _ ⟨rfl,rfl⟩
  simp -implicitDefEqProofs (disch:=omega)[wrap64]
  exact RetK.keep (hk _ _ ⟨rfl,by rw[y1]⟩)
 by_cases s1:n<0
 ·have y1:syn n=[63,dg (-n)]:=by rw[syn,if_neg (by omega),if_pos s1]
  simp -implicitDefEqProofs (disch:=first|omega|(simp only[LnZ];omega))[wrap64,s1,s2]
  refine (c_Itoa (n:=-n) (by omega) (by omega)).go ?_
  rintro _ _ ⟨rfl,rfl⟩
  simp -implicitDefEqProofs (disch:=omega)[wrap64]
  exact RetK.keep (hk _ _ ⟨rfl,by rw[y1]⟩)
 ·have y1:syn n=[45]:=by rw[syn,if_neg s2,if_neg s1]
  simp -implicitDefEqProofs (disch:=first|omega|(simp only[LnZ];omega))[wrap64,s1,s2]
  exact RetK.keep (hk _ _ ⟨rfl,by rw[y1]⟩)
theorem join_jn {c:UInt8}:∀{ws:List (List UInt8)},Lib.join ws [c]=jn c ws
 | []=>rfl
 | [w]=>Lib.join_one w [c]
 | w::x::r=>by
  rw[jn_cons (by simp),← join_jn]
  simp[Lib.join,List.intercalate]
theorem c_Join {h:Heap}{v:Value}{ws:List (List UInt8)}(R:Rep h v (ws.map Tx)) (hw:ws≠[]) (hl:(jn 32 ws).length≤1048576) (hl2:ws.length≤100):CallE Tryz.prog fn_strings_Join [v,.string (Tx [32])] h (fun u h'=>h'=h∧u=.string (Tx (jn 32 ws))):=by
 obtain⟨b,o,c,rfl,hc,hcell⟩:=cells_texts R (by simp[hw])
 have e:(ws.map Tx).map (·.data.toList)=ws:=by
  rw[List.map_map]
  conv=>rhs;rw[← List.map_id ws]
  rfl
 have hjn:Lib.join ((ws.map Tx).map (·.data.toList)) (Tx [32]).data.toList=jn 32 ws:=by
  rw[e];exact join_jn
 refine calle_below Tryz.func67 (by kernel_rfl) (by kernel_rfl) fun w hw=>?_
 have:=sh_strings_Join b o c (ws.map Tx) (Tx [32]) w (hcell w hw).2 (hcell w hw).1 (by rw[List.length_map];omega) hc (by rw[hjn];omega)
 rw[hjn] at this
 exact this
theorem c_row {h:Heap}{v:Value}{ws:List (List UInt8)}(R:Rep h v (ws.map Tx)) (hw:ws≠[]) (hl:(jn 32 ws).length≤1048576) (hl2:ws.length≤100):CallE Tryz.prog fn_impl_row [v] h (fun u h'=>h'=h∧u=.string (Tx (jn 32 ws++[10]))):=by
 refine CallE.gen fun k hk=>EN_impl_row rfl ?_
 simp -implicitDefEqProofs (disch:=omega)[wrap64]
 refine (c_Join R hw hl hl2).go ?_
 rintro _ _ ⟨rfl,rfl⟩
 simp -implicitDefEqProofs (disch:=omega)[wrap64]
 exact RetK.keep (hk _ _ ⟨rfl,rfl⟩)
theorem Ln.row_ok {x:Ln}(h:x.Ok):(jn 32 x.ws).length≤1048576∧x.ws.length≤100:=by
 have h1:=Ln.row_len h
 refine⟨by have:x.row=jn 32 x.ws:=rfl;rw[← this];omega,?_⟩
 cases x with
 | sys l=>have h:VOk l:=h;have:=h.1;simp[Ln.ws,this]
 | prc n=>simp[Ln.ws]
 | edg e=>simp[Ln.ws]
theorem sys_ws {l:List Int}(h:l.length=3):(Ln.sys l).ws=[wSys,[dg l[0]],[dg l[1]],[dg l[2]]]:=by
 match l,h with
 | [a,b,c],_=>rfl
theorem c_FormatSystem {h:Heap}{v:Value}{s:Sy}(R:Rep h v s) (G:Gl h):CallE Tryz.prog fn_impl_FormatSystem [v] h (fun u h'=>h.le h'∧u=.string (Tx (if s.Ok then s.fmt else []))):=by
 have FS:=R.aSy
 have R0:=R
 obtain⟨v1,v2,rfl,R1,R2'⟩:=Rep_Sy.1 R
 refine CallE.gen fun k hk=>EN_impl_FormatSystem rfl ?_
 simp -implicitDefEqProofs (disch:=first|omega|(simp only[LnZ];omega))[wrap64,FS]
 refine (c_SystemValid R0).go ?_
 rintro _ h1 ⟨l1,rfl⟩
 by_cases hs:s.Ok
 case neg=>
  simp -implicitDefEqProofs (disch:=first|omega|(simp only[LnZ];omega))[wrap64,hs]
  exact RetK.keep (hk _ _ ⟨l1,by rw[if_neg hs]⟩)
 rw[if_pos hs] at hk
 have hil:=hs.vs.len
 have hp3:=hs.p3
 have R1':=R1.le l1
 have i0:=hs.vs.at (i:=0) (by omega)
 have i1:=hs.vs.at (i:=1) (by omega)
 have i2:=hs.vs.at (i:=2) (by omega)
 simp -implicitDefEqProofs (disch:=first|omega|(simp only[LnZ];omega))[wrap64,hs,R1'.I]
 refine (c_Itoa i0.1 (by omega)).go ?_
 rintro _ _ ⟨rfl,rfl⟩
 simp -implicitDefEqProofs (disch:=first|omega|(simp only[LnZ];omega))[wrap64,hs,R1'.I]
 refine (c_Itoa i1.1 (by omega)).go ?_
 rintro _ _ ⟨rfl,rfl⟩
 simp -implicitDefEqProofs (disch:=first|omega|(simp only[LnZ];omega))[wrap64,hs,R1'.I]
 refine (c_Itoa i2.1 (by omega)).go ?_
 rintro _ _ ⟨rfl,rfl⟩
 simp -implicitDefEqProofs (disch:=omega)[wrap64]
 have hws:=sys_ws hil
 refine HS.bls (HS.init) ([wSys,[dg s.init[0]],[dg s.init[1]],[dg s.init[2]]].map Tx) rfl rfl (by simp[Flat.ok]) (by simp) fun q h2 H=>?_
 simp -implicitDefEqProofs (disch:=omega)[wrap64]
 rw[← hws] at H
 have hro:=Ln.row_ok (x:=.sys s.init) hs.vs
 refine (c_row H.rep Ln.ws_ne hro.1 hro.2).go ?_
 rintro _ h2 ⟨rfl,rfl⟩
 have l1:=l1.trans H.base
 have ho1:jn 32 (Ln.sys s.init).ws++[10]=rows [.sys s.init]:=by rw[rows_one];rfl
 have hrl:=Ln.row_len (x:=.sys s.init) hs.vs
 have hrl:(jn 32 (Ln.sys s.init).ws).length≤120:=hrl
 clear H
 simp -implicitDefEqProofs (disch:=first|omega|(simp only[LnZ];omega))[wrap64,R2'.len]
 refine wp_count s.procs.length (fun i e h'=>∃o:List UInt8,e=[none,none,none,some (.string (Tx o)),none,none,none,some v2,some (.int .i64 s.procs.length),some (.int .i64 i),none,none,none]∧h.le h'∧o=rows (.sys s.init::(s.procs.take i).flatMap Pr.lns)∧o.length≤1000*(i+1)) ⟨_,rfl,l1,by rw[ho1];rfl,by simp;omega⟩ ?_
 rintro J i _ h3 hJ hi ⟨o,rfl,l3,ho,hol⟩
 have R2:=R2'.le l3
 simp -implicitDefEqProofs (disch:=first|omega|(simp only[LnZ];omega))[wrap64,R2.len]
 refine IteW.mk (fun hlt=>?_) (fun hge=>?_)
 ·have hix:i<s.procs.length:=by omega
  have hP:=hs.at hix
  obtain⟨u,hu,Ru⟩:=R2.ld hix
  change hload _ (some (elp 2 v2 i)) (some 2)=some u at hu
  obtain⟨we,rfl,kl,R3⟩:=Rep_Pr.1 Ru
  have hn1:=hP.n1
  have hn4:=hP.n4
  have hel:=hP.el
  simp -implicitDefEqProofs (disch:=first|omega|(simp only[LnZ];omega))[wrap64,R2.X (n:=2) rfl,hu,setC,R3.one,R3.cells]
  refine (c_Itoa (n:=s.procs[i].locs) (by omega) (by omega)).go ?_
  rintro _ h3 ⟨rfl,rfl⟩
  simp -implicitDefEqProofs (disch:=omega)[wrap64]
  refine HS.bls (HS.init) ([wPrc,[dg s.procs[i].locs]].map Tx) rfl rfl (by simp[Flat.ok]) (by simp) fun q h4 H=>?_
  simp -implicitDefEqProofs (disch:=omega)[wrap64]
  have hro:=Ln.row_ok (x:=.prc s.procs[i].locs) ⟨hn1,hn4⟩
  refine (c_row (ws:=(Ln.prc s.procs[i].locs).ws) H.rep Ln.ws_ne hro.1 hro.2).go ?_
  rintro _ h4 ⟨rfl,rfl⟩
  have l4:=H.base
  clear H
  have hrl2:(jn 32 (Ln.prc s.procs[i].locs).ws).length≤120:=Ln.row_len (x:=.prc s.procs[i].locs) ⟨hn1,hn4⟩
  simp -implicitDefEqProofs (disch:=first|omega|(simp only[LnZ];omega))[wrap64,R3.len]
  have hro2:(Ln.prc s.procs[i].locs).row=jn 32 (Ln.prc s.procs[i].locs).ws:=rfl
  refine wp_count s.procs[i].edges.length (fun k e h'=>∃o':List UInt8,e=[none,none,none,some (.string (Tx o')),none,none,none,some v2,some (.int .i64 s.procs.length),some (.int .i64 i),some we,some (.int .i64 s.procs[i].edges.length),some (.int .i64 k)]∧h3.le h'∧o'=rows (.sys s.init::(s.procs.take i).flatMap Pr.lns++.prc s.procs[i].locs::(s.procs[i].edges.take k).map .edg)∧o'.length≤1000*(i+1)+121*(k+1)) ⟨_,rfl,l4,?_,by simp;omega⟩ ?_
  ·rw[List.take_zero,List.map_nil,rows_snoc,← ho,hro2]
  rintro I k _ h5 hI hk2 ⟨o',rfl,l5,ho',hol'⟩
  have R4:=R3.le l5
  simp -implicitDefEqProofs (disch:=omega)[wrap64]
  refine IteW.mk (fun hlt=>?_) (fun hge=>?_)
  ·have hkx:k<s.procs[i].edges.length:=by omega
   have hE:=hP.at hkx
   obtain⟨u2,hu2,Ru2⟩:=R4.ld hkx
   change hload _ (some (elp 10 we k)) (some 10)=some u2 at hu2
   obtain⟨E,hEE⟩:∃E,s.procs[i].edges[k]=E:=⟨_,rfl⟩
   rw[hEE] at hE Ru2
   obtain⟨w1,w2,rfl,ok,X1,X2⟩:=Rep_Ed.1 Ru2
   have Y1:Rep h5 (.agg #[.int .i64 E.guard.kind,.int .i64 E.guard.val,w1]) E.guard:=Rep_Exq.2 ⟨w1,rfl,ok.gk,ok.gv,X1⟩
   have Y2:Rep h5 (.agg #[.int .i64 E.value.kind,.int .i64 E.value.val,w2]) E.value:=Rep_Exq.2 ⟨w2,rfl,ok.vk,ok.vv,X2⟩
   have hO1:=X1.one
   have hC1:=X1.cells
   have hO2:=X2.one
   have hC2:=X2.cells
   have Gg:=G.le (l3.trans l5)
   have hro3:=Ln.row_ok (x:=.edg E) ⟨_,hE⟩
   have hrl3:=Ln.row_len (x:=.edg E) ⟨_,hE⟩
   have hn4':=hE.n4
   have hv1:=hE.v1
   by_cases q1:0≤E.var
   ·have ya:E.asg=(120+UInt8.ofNat E.var.toNat)::58::61::E.value.fmt:=by rw[Ed.asg,if_neg (by omega)];simp
    have hvo:E.value.Ok:=by
     rcases hE.vl with ⟨_,h⟩ | ⟨h,_⟩
     ·exact h
     ·omega
    have hvl:=hvo.fmt_len
    have ex:=slcV q1 hv1
    simp -implicitDefEqProofs (disch:=first|omega|(simp only[LnZ];omega))[wrap64,R4.X (n:=10) rfl,hu2,Ed.cs,setC,hO1,hC1,hO2,hC2,q1,ex]
    refine (c_text _ hvo.1 hvo.2 Y2 Gg).go ?_
    rintro _ h5 ⟨rfl,rfl⟩
    simp -implicitDefEqProofs (disch:=first|omega|(simp only[LnZ];omega))[wrap64,Ed.cs,setC,hO1,hC1,hO2,hC2,q1]
    refine (c_Itoa hE.f0 (by have:=hE.f1;omega)).go ?_
    rintro _ h5 ⟨rfl,rfl⟩
    simp -implicitDefEqProofs (disch:=first|omega|(simp only[LnZ];omega))[wrap64,Ed.cs,setC,hO1,hC1,hO2,hC2]
    refine (c_Itoa hE.t0 (by have:=hE.t1;omega)).go ?_
    rintro _ h5 ⟨rfl,rfl⟩
    simp -implicitDefEqProofs (disch:=first|omega|(simp only[LnZ];omega))[wrap64,Ed.cs,setC,hO1,hC1,hO2,hC2]
    refine (c_text _ hE.gd.1 hE.gd.2 Y1 Gg).go ?_
    rintro _ h5 ⟨rfl,rfl⟩
    simp -implicitDefEqProofs (disch:=first|omega|(simp only[LnZ];omega))[wrap64,Ed.cs,setC,hO1,hC1,hO2,hC2]
    refine (c_syncText hE.s0 hE.s1).go ?_
    rintro _ h5 ⟨rfl,rfl⟩
    simp -implicitDefEqProofs (disch:=first|omega|(simp only[LnZ];omega))[wrap64,Ed.cs,setC,hO1,hC1,hO2,hC2]
    refine HS.bls (HS.init) ([wEdg,[dg E.frm],[dg E.to],E.guard.fmt,E.asg,syn E.sync].map Tx) (by rw[List.map_cons,List.map_cons,List.map_cons,List.map_cons,List.map_cons,List.map_cons,ya];rfl) rfl (by simp[Flat.ok]) (by simp) fun q h6 H=>?_
    simp -implicitDefEqProofs (disch:=omega)[wrap64]
    refine (c_row (ws:=(Ln.edg E).ws) H.rep Ln.ws_ne hro3.1 hro3.2).go ?_
    rintro _ h6 ⟨rfl,rfl⟩
    have l6:=H.base
    clear H
    simp -implicitDefEqProofs (disch:=omega)[wrap64]
    refine hI _ _ hkx ⟨o'++((Ln.edg E).row++[10]),rfl,l5.trans l6,?_,by simp;omega⟩
    have e:(Ln.sys s.init::(s.procs.take i).flatMap Pr.lns++.prc s.procs[i].locs::(s.procs[i].edges.take (k+1)).map .edg)=(Ln.sys s.init::(s.procs.take i).flatMap Pr.lns++.prc s.procs[i].locs::(s.procs[i].edges.take k).map .edg)++[.edg s.procs[i].edges[k]]:=by rw[take_map1 hkx];simp only[List.cons_append,List.append_assoc]
    rw[e,rows_snoc,← ho',hEE]
   ·have ya:E.asg=[45]:=by rw[Ed.asg,if_pos (by omega)]
    simp -implicitDefEqProofs (disch:=first|omega|(simp only[LnZ];omega))[wrap64,R4.X (n:=10) rfl,hu2]
    simp -implicitDefEqProofs (disch:=first|omega|(simp only[LnZ];omega))[wrap64,Ed.cs,setC,hO1,hC1,hO2,hC2,q1]
    refine (c_Itoa hE.f0 (by have:=hE.f1;omega)).go ?_
    rintro _ h5 ⟨rfl,rfl⟩
    simp -implicitDefEqProofs (disch:=first|omega|(simp only[LnZ];omega))[wrap64,Ed.cs,setC,hO1,hC1,hO2,hC2]
    refine (c_Itoa hE.t0 (by have:=hE.t1;omega)).go ?_
    rintro _ h5 ⟨rfl,rfl⟩
    simp -implicitDefEqProofs (disch:=first|omega|(simp only[LnZ];omega))[wrap64,Ed.cs,setC,hO1,hC1,hO2,hC2]
    refine (c_text _ hE.gd.1 hE.gd.2 Y1 Gg).go ?_
    rintro _ h5 ⟨rfl,rfl⟩
    simp -implicitDefEqProofs (disch:=first|omega|(simp only[LnZ];omega))[wrap64,Ed.cs,setC,hO1,hC1,hO2,hC2]
    refine (c_syncText hE.s0 hE.s1).go ?_
    rintro _ h5 ⟨rfl,rfl⟩
    simp -implicitDefEqProofs (disch:=first|omega|(simp only[LnZ];omega))[wrap64,Ed.cs,setC,hO1,hC1,hO2,hC2]
    refine HS.bls (HS.init) ([wEdg,[dg E.frm],[dg E.to],E.guard.fmt,E.asg,syn E.sync].map Tx) (by rw[List.map_cons,List.map_cons,List.map_cons,List.map_cons,List.map_cons,List.map_cons,ya];rfl) rfl (by simp[Flat.ok]) (by simp) fun q h6 H=>?_
    simp -implicitDefEqProofs (disch:=omega)[wrap64]
    refine (c_row (ws:=(Ln.edg E).ws) H.rep Ln.ws_ne hro3.1 hro3.2).go ?_
    rintro _ h6 ⟨rfl,rfl⟩
    have l6:=H.base
    clear H
    simp -implicitDefEqProofs (disch:=omega)[wrap64]
    refine hI _ _ hkx ⟨o'++((Ln.edg E).row++[10]),rfl,l5.trans l6,?_,by simp;omega⟩
    have e:(Ln.sys s.init::(s.procs.take i).flatMap Pr.lns++.prc s.procs[i].locs::(s.procs[i].edges.take (k+1)).map .edg)=(Ln.sys s.init::(s.procs.take i).flatMap Pr.lns++.prc s.procs[i].locs::(s.procs[i].edges.take k).map .edg)++[.edg s.procs[i].edges[k]]:=by rw[take_map1 hkx];simp only[List.cons_append,List.append_assoc]
    rw[e,rows_snoc,← ho',hEE]
  ·obtain rfl:k=s.procs[i].edges.length:=by omega
   rw[List.take_length] at ho'
   simp -implicitDefEqProofs (disch:=omega)[wrap64]
   refine hJ _ _ hix ⟨o',by simp,l3.trans l5,?_,by omega⟩
   rw[take_flat hix,ho']
   rfl
 ·obtain rfl:i=s.procs.length:=by omega
  rw[List.take_length] at ho
  simp -implicitDefEqProofs (disch:=omega)[wrap64]
  exact RetK.keep (hk _ _ ⟨l3,by rw[ho];rfl⟩)
theorem c_Clone_impl_Expr {h:Heap}{a:Value}{x:List Exq}(Ra:Rep h a x) (hs:x.length≤1048576):CallE Tryz.prog fn_slices_Clone_S_impl_Expr_impl_Expr [a] h (fun v h'=>∃M,Raws h x M∧HS h [ow v M] h'):=by
 refine CallE.gen fun k hk=>EN_slices_Clone_S_impl_Expr_impl_Expr rfl ?_
 obtain⟨b,hb,hb2⟩:=Ra.isNil
 simp -implicitDefEqProofs (disch:=first|omega|(simp only[LnZ];omega))[wrap64,hb]
 refine IteW.mk (fun h1=>?_) (fun h1=>?_)
 ·simp -implicitDefEqProofs (disch:=omega)[wrap64]
  have h2:x=[]:=hb2 h1
  subst h2
  exact RetK.keep (hk _ _ ⟨[],⟨rfl,fun i hi=>absurd hi (Nat.not_lt_zero i)⟩,HS.init.nil_ow⟩)
 ·simp -implicitDefEqProofs (disch:=omega)[wrap64]
  refine HS.init.appPLr (α:=Exq) (l2:=x) (u:=a) rfl rfl Ra rfl rfl (by omega) fun v h1 M hM H=>?_
  simp -implicitDefEqProofs (disch:=omega)[wrap64]
  exact RetK.keep (hk _ _ ⟨M,hM,H⟩)
theorem c_Clip_impl_Expr {g h:Heap}{Γ:List HP}{a:Value}{x:List (Mix Exq)}(H:HS g (ow a x::Γ) h):CallE Tryz.prog fn_slices_Clip_S_impl_Expr_impl_Expr [a] h (fun v h'=>HS g (ow v x::Γ) h'):=by
 refine CallE.gen fun k hk=>EN_slices_Clip_S_impl_Expr_impl_Expr rfl ?_
 obtain⟨v',h1,h2⟩:=H.clip (esz:=3) (k:=.i64)
 simp -implicitDefEqProofs (disch:=first|omega|(simp only[LnZ];omega))[wrap64,H.rep.len,h1]
 exact RetK.keep (hk _ _ h2)
theorem c_clone_impl_Expr {h:Heap}{a:Value}{x:List Exq}(Ra:Rep h a x) (hs:x.length≤1048576):CallE Tryz.prog fn_impl_clone_impl_Expr [a] h (fun v h'=>∃M,Raws h x M∧HS h [ow v M] h'):=by
 refine CallE.gen fun k hk=>EN_impl_clone_impl_Expr rfl ?_
 simp -implicitDefEqProofs (disch:=omega)[wrap64]
 refine (c_Clone_impl_Expr Ra hs).go ?_
 rintro v h1 ⟨M,hM,H⟩
 simp -implicitDefEqProofs (disch:=omega)[wrap64]
 refine (c_Clip_impl_Expr H).go ?_
 intro v' h2 H
 simp -implicitDefEqProofs (disch:=omega)[wrap64]
 exact RetK.keep (hk _ _ ⟨M,hM,H⟩)
theorem c_Clone_impl_Edge {h:Heap}{a:Value}{x:List Ed}(Ra:Rep h a x) (hs:x.length≤1048576):CallE Tryz.prog fn_slices_Clone_S_impl_Edge_impl_Edge [a] h (fun v h'=>∃M,Raws h x M∧HS h [ow v M] h'):=by
 refine CallE.gen fun k hk=>EN_slices_Clone_S_impl_Edge_impl_Edge rfl ?_
 obtain⟨b,hb,hb2⟩:=Ra.isNil
 simp -implicitDefEqProofs (disch:=first|omega|(simp only[LnZ];omega))[wrap64,hb]
 refine IteW.mk (fun h1=>?_) (fun h1=>?_)
 ·simp -implicitDefEqProofs (disch:=omega)[wrap64]
  have h2:x=[]:=hb2 h1
  subst h2
  exact RetK.keep (hk _ _ ⟨[],⟨rfl,fun i hi=>absurd hi (Nat.not_lt_zero i)⟩,HS.init.nil_ow⟩)
 ·simp -implicitDefEqProofs (disch:=omega)[wrap64]
  refine HS.init.appPLr (α:=Ed) (l2:=x) (u:=a) rfl rfl Ra rfl rfl (by omega) fun v h1 M hM H=>?_
  simp -implicitDefEqProofs (disch:=omega)[wrap64]
  exact RetK.keep (hk _ _ ⟨M,hM,H⟩)
theorem c_Clip_impl_Edge {g h:Heap}{Γ:List HP}{a:Value}{x:List (Mix Ed)}(H:HS g (ow a x::Γ) h):CallE Tryz.prog fn_slices_Clip_S_impl_Edge_impl_Edge [a] h (fun v h'=>HS g (ow v x::Γ) h'):=by
 refine CallE.gen fun k hk=>EN_slices_Clip_S_impl_Edge_impl_Edge rfl ?_
 obtain⟨v',h1,h2⟩:=H.clip (esz:=10) (k:=.i64)
 simp -implicitDefEqProofs (disch:=first|omega|(simp only[LnZ];omega))[wrap64,H.rep.len,h1]
 exact RetK.keep (hk _ _ h2)
theorem c_clone_impl_Edge {h:Heap}{a:Value}{x:List Ed}(Ra:Rep h a x) (hs:x.length≤1048576):CallE Tryz.prog fn_impl_clone_impl_Edge [a] h (fun v h'=>∃M,Raws h x M∧HS h [ow v M] h'):=by
 refine CallE.gen fun k hk=>EN_impl_clone_impl_Edge rfl ?_
 simp -implicitDefEqProofs (disch:=omega)[wrap64]
 refine (c_Clone_impl_Edge Ra hs).go ?_
 rintro v h1 ⟨M,hM,H⟩
 simp -implicitDefEqProofs (disch:=omega)[wrap64]
 refine (c_Clip_impl_Edge H).go ?_
 intro v' h2 H
 simp -implicitDefEqProofs (disch:=omega)[wrap64]
 exact RetK.keep (hk _ _ ⟨M,hM,H⟩)
theorem c_Clone_impl_Process {h:Heap}{a:Value}{x:List Pr}(Ra:Rep h a x) (hs:x.length≤1048576):CallE Tryz.prog fn_slices_Clone_S_impl_Process_impl_Process [a] h (fun v h'=>∃M,Raws h x M∧HS h [ow v M] h'):=by
 refine CallE.gen fun k hk=>EN_slices_Clone_S_impl_Process_impl_Process rfl ?_
 obtain⟨b,hb,hb2⟩:=Ra.isNil
 simp -implicitDefEqProofs (disch:=first|omega|(simp only[LnZ];omega))[wrap64,hb]
 refine IteW.mk (fun h1=>?_) (fun h1=>?_)
 ·simp -implicitDefEqProofs (disch:=omega)[wrap64]
  have h2:x=[]:=hb2 h1
  subst h2
  exact RetK.keep (hk _ _ ⟨[],⟨rfl,fun i hi=>absurd hi (Nat.not_lt_zero i)⟩,HS.init.nil_ow⟩)
 ·simp -implicitDefEqProofs (disch:=omega)[wrap64]
  refine HS.init.appPLr (α:=Pr) (l2:=x) (u:=a) rfl rfl Ra rfl rfl (by omega) fun v h1 M hM H=>?_
  simp -implicitDefEqProofs (disch:=omega)[wrap64]
  exact RetK.keep (hk _ _ ⟨M,hM,H⟩)
theorem c_Clip_impl_Process {g h:Heap}{Γ:List HP}{a:Value}{x:List (Mix Pr)}(H:HS g (ow a x::Γ) h):CallE Tryz.prog fn_slices_Clip_S_impl_Process_impl_Process [a] h (fun v h'=>HS g (ow v x::Γ) h'):=by
 refine CallE.gen fun k hk=>EN_slices_Clip_S_impl_Process_impl_Process rfl ?_
 obtain⟨v',h1,h2⟩:=H.clip (esz:=2) (k:=.i64)
 simp -implicitDefEqProofs (disch:=first|omega|(simp only[LnZ];omega))[wrap64,H.rep.len,h1]
 exact RetK.keep (hk _ _ h2)
theorem c_clone_impl_Process {h:Heap}{a:Value}{x:List Pr}(Ra:Rep h a x) (hs:x.length≤1048576):CallE Tryz.prog fn_impl_clone_impl_Process [a] h (fun v h'=>∃M,Raws h x M∧HS h [ow v M] h'):=by
 refine CallE.gen fun k hk=>EN_impl_clone_impl_Process rfl ?_
 simp -implicitDefEqProofs (disch:=omega)[wrap64]
 refine (c_Clone_impl_Process Ra hs).go ?_
 rintro v h1 ⟨M,hM,H⟩
 simp -implicitDefEqProofs (disch:=omega)[wrap64]
 refine (c_Clip_impl_Process H).go ?_
 intro v' h2 H
 simp -implicitDefEqProofs (disch:=omega)[wrap64]
 exact RetK.keep (hk _ _ ⟨M,hM,H⟩)
theorem Exq.nods_sz:∀x:Exq,x.nod=1+Sz.sz x:=by
 have key:∀l:List Exq,(∀y∈l,y.nod=1+Sz.sz y)→Exq.nods l=Sz.sz l:=by
  intro l
  induction l with
  | nil=>intro _;rfl
  | cons y l ih=>
   intro h
   rw[Exq.nods,ih fun z hz=>h z (by simp[hz]),h y (by simp),sz_cons]
 refine Exq.ind fun x ih=>?_
 rw[Exq.nod_eq,key _ ih,← sz_Exq]
theorem sz_kid {x:Exq}{i:Nat}(hi:i<x.kids.length):Sz.sz x.kids[i]≤Sz.sz x:=by
 have:=szL_get hi
 rw[sz_Exq x,sz_list];omega
theorem Exq.Ok.sz {x:Exq}(h:x.Ok):Sz.sz x≤14:=by have:=h.2;have:=x.nods_sz;omega
theorem Ed.Ok.vsz {e:Ed}{n:Int}(h:e.Ok n):Sz.sz e.value≤14:=by
 rcases h.vl with ⟨_,h1⟩ | ⟨_,h1⟩
 ·exact h1.sz
 ·rw[h1];decide
theorem c_Expr_copyOf:∀(x:Exq) {h:Heap}{v:Value},Rep h v x→Sz.sz x≤1048576→CallE Tryz.prog fn_impl_Expr_copyOf [v] h (fun u h'=>HS h [ow u x] h'):=by
 refine Exq.ind fun x ih h v R hs=>?_
 obtain⟨w,rfl,k1,k2,R1⟩:=Rep_Exq.1 R
 have hsz:=sz_Exq x
 rw[sz_list] at hsz
 refine CallE.gen fun k hk=>EN_impl_Expr_copyOf rfl ?_
 simp -implicitDefEqProofs (disch:=first|omega|(simp only[LnZ];omega))[wrap64,setC]
 refine (c_clone_impl_Expr R1 (by omega)).go ?_
 rintro o h1 ⟨M,hM,H⟩
 simp -implicitDefEqProofs (disch:=first|omega|(simp only[LnZ];omega))[wrap64,setC,H.rep.cells,H.rep.one,R1.len]
 refine wp_count x.kids.length (fun i e h'=>e=[none,none,some (.agg #[.int .i64 0,.int .i64 0,.slice none 0 0]),some (.agg #[.int .i64 x.kind,.int .i64 x.val,o]),none,none,some w,some (.int .i64 x.kids.length),some (.int .i64 i)]∧∃M,HS h [ow o M] h'∧Mixed h x.kids (fun y=>y) M i) ⟨by simp,M,H,Mixed.zero hM⟩ ?_
 clear H
 rintro J i _ h2 hJ hi ⟨rfl,M,H,hM⟩
 simp -implicitDefEqProofs (disch:=omega)[wrap64]
 refine IteW.mk (fun hlt=>?_) (fun hge=>?_)
 ·have hlx:i<x.kids.length:=by omega
  have hlM:i<M.length:=by rw[hM.len];exact hlx
  obtain⟨u,hu,Ru⟩:=R1.ld hlx
  have hu2:=hload_le H.base hu
  change hload _ (some (elp 3 w i)) (some 3)=some u at hu2
  simp -implicitDefEqProofs (disch:=first|omega|(simp only[LnZ];omega))[wrap64,R1.X (n:=3) rfl,hu2,Ru.aExq]
  refine (ih _ (List.getElem_mem hlx) (Ru.on H) (by have:=sz_kid hlx;omega)).go ?_
  intro y h3 G
  have H:=(G.newO).app H
  simp -implicitDefEqProofs (disch:=first|omega|(simp only[LnZ];omega))[wrap64,H.sw1.rep.X (n:=3) rfl,G.rep.aExq]
  refine HS.store H hlM rfl rfl rfl fun h4 H=>?_
  simp -implicitDefEqProofs (disch:=omega)[wrap64]
  exact hJ _ _ hlx ⟨by simp,_,H,hM.step hlx⟩
 ·simp -implicitDefEqProofs (disch:=first|omega|(simp only[LnZ];omega))[wrap64,H.rep.cells,H.rep.one,setC]
  have he:=hM.all (by omega)
  subst he
  have H:=H.mixed
  rw[List.map_id'] at H
  exact RetK.keep (hk _ _ (H.mkExq k1 k2))
theorem c_heldExprS':∀(x0:Exq) {h:Heap}{v:Value}{k0:Int},Rep h v x0.kids→0≤k0→k0+Mk.cnt x0.kids<4611686018427387904 →
  CallE Tryz.prog fn_laws_heldExprS [v,.int .i64 k0] h (fun u h'=>h'=h∧u=.int .i64 (if Mk.wr k0 x0.kids=x0.kids then k0+Mk.cnt x0.kids else -1)):=by
 refine Exq.ind fun x0 ih h v k0 Rv hk0 hk1=>?_
 generalize hx0:x0.kids=x at *
 refine CallE.gen fun k hk=>EN_laws_heldExprS rfl ?_
 have hL:=Rv.lt
 have hcx:Mk.cnt x=cntL x:=rfl
 simp -implicitDefEqProofs (disch:=omega)[wrap64]
 refine wp_count x.length (fun i e h'=>h'=h∧e=[some v,some (.int .i64 (k0+cntL (x.take i))),none,some (.int .i64 i)]∧(mkL k0 x).take i=x.take i) ⟨rfl,by simp[cntL],rfl⟩ ?_
 rintro J i _ h1 hJ hi ⟨rfl,rfl,M⟩
 simp -implicitDefEqProofs (disch:=first|omega|(simp only[LnZ];omega))[wrap64,Rv.len]
 refine IteW.mk (fun hlt=>?_) (fun hge=>?_)
 ·have hlx:i<x.length:=by omega
  have hb:=cntL_le x (i+1)
  have hc:=cntL_take x i hlx
  have hg:=mkL_get k0 x i hlx
  have hce:=cnt_Exq x[i]
  obtain⟨q,hq⟩:∃q,q=k0+cntL (x.take i):=⟨_,rfl⟩
  rw[← hq] at hg ⊢
  have hw:=wr_Exq q x[i]
  have hno:Mk.wr q x[i]≠x[i]→k (.int .i64 (-1)) h1:=by
   intro hm
   refine hk _ _ ⟨rfl,?_⟩
   rw[if_neg]
   intro he
   have he2:mkL k0 x=x:=he
   simp only[he2] at hg
   exact hm hg.symm
  obtain⟨u,hu,Ru⟩:=Rv.ld hlx
  change hload _ (some (elp 3 v i)) (some 3)=some u at hu
  obtain⟨w,rfl,k1,k2,R1⟩:=Rep_Exq.1 Ru
  have hP:=hld_parts hu
  by_cases m0:x[i].kind=q
  case neg=>
   simp -implicitDefEqProofs (disch:=first|omega|(simp only[LnZ];omega))[wrap64,Rv.X (n:=3) rfl,hP.1,hP.2.2.1,m0]
   exact RetK.keep (hno fun he=>m0 (by rw[hw] at he;rw[← he];rfl))
  by_cases m1:x[i].val=q+1
  case neg=>
   simp -implicitDefEqProofs (disch:=first|omega|(simp only[LnZ];omega))[wrap64,Rv.X (n:=3) rfl,hP.1,hP.2.2.1,m0,m1]
   exact RetK.keep (hno fun he=>m1 (by rw[hw] at he;rw[← he];rfl))
  simp -implicitDefEqProofs (disch:=first|omega|(simp only[LnZ];omega))[wrap64,Rv.X (n:=3) rfl,hP.1,hP.2.2.1,m0,m1]
  refine (ih x[i] (List.getElem_mem hlx) (k0:=q+1+1) R1 (by omega) (by omega)).go ?_
  rintro _ h1 ⟨rfl,rfl⟩
  by_cases m2:Mk.wr (q+1+1) x[i].kids=x[i].kids
  case neg=>
   rw[if_neg m2]
   simp -implicitDefEqProofs (disch:=omega)[wrap64]
   exact RetK.keep (hno fun he=>m2 (by rw[hw,show q+2=q+1+1 by omega] at he;exact congrArg Exq.kids he))
  rw[if_pos m2]
  simp -implicitDefEqProofs (disch:=omega)[wrap64]
  rw[IteW_neg (by omega)]
  simp -implicitDefEqProofs (disch:=omega)[wrap64]
  refine hJ _ _ hlx ⟨rfl,?_,take_step M (by simpa using hlx) hlx ?_⟩
  ·simp only[List.cons.injEq,Option.some.injEq,Value.int.injEq,true_and,and_true]
   refine⟨?_,by simp⟩
   rw[hc,hce,hq];push_cast;omega
  ·rw[hg,hw,Exq.ext_iff',show q+2=q+1+1 by omega]
   exact⟨m0.symm,m1.symm,m2⟩
 ·simp -implicitDefEqProofs (disch:=omega)[wrap64]
  have h2:x.take i=x:=List.take_of_length_le (by omega)
  rw[List.take_of_length_le (by simp;omega),h2] at M
  exact RetK.keep (hk _ _ ⟨rfl,by rw[h2];exact congrArg _ (if_pos M).symm⟩)
theorem c_heldExprS {h:Heap}{v:Value}{x:List Exq}{k0:Int}(Rv:Rep h v x) (hk0:0≤k0) (hk1:k0+Mk.cnt x<4611686018427387904) :
  CallE Tryz.prog fn_laws_heldExprS [v,.int .i64 k0] h (fun u h'=>h'=h∧u=.int .i64 (if Mk.wr k0 x=x then k0+Mk.cnt x else -1)):=c_heldExprS' (Exq.mk 0 0 x) Rv hk0 hk1
theorem wr_Ed (q:Int) (e:Ed):Mk.wr q e=⟨q,q+1,.mk (q+1+1) (q+1+1+1) (Mk.wr (q+1+1+1+1) e.guard.kids),q+1+1+1+1+Mk.cnt e.guard.kids,
        .mk (q+1+1+1+1+Mk.cnt e.guard.kids+1) (q+1+1+1+1+Mk.cnt e.guard.kids+1+1) (Mk.wr (q+1+1+1+1+Mk.cnt e.guard.kids+1+1+1) e.value.kids),q+1+1+1+1+Mk.cnt e.guard.kids+1+1+1+Mk.cnt e.value.kids⟩:=by
 show (⟨_,_,Mk.wr _ e.guard,_,Mk.wr _ e.value,_⟩:Ed)=_
 rw[wr_Exq,wr_Exq,Ed.ext_iff']
 have e1:=cnt_Exq e.guard
 have e2:=cnt_Exq e.value
 have e3:Mk.cnt e.frm=1:=rfl
 have e4:Mk.cnt e.to=1:=rfl
 have e5:Mk.cnt e.var=1:=rfl
 have e6:∀(a b:Int) (l:List Exq),a=b→Mk.wr a l=Mk.wr b l:=fun a b l h=>by rw[h]
 simp only[Exq.ext_iff',Exq.kind_mk,Exq.val_mk,Exq.kids_mk]
 refine⟨rfl,?_,⟨?_,?_,e6 _ _ _ ?_⟩,?_,⟨?_,?_,e6 _ _ _ ?_⟩,?_⟩<;>(try show _+_=_)<;>(try show Mk.wr _ (_:Int)=_)<;>(try simp only[Mk.wr])<;>push_cast [e1,e2,e3,e4,e5]<;>omega
set_option maxHeartbeats 1000000 in
theorem c_heldEdgeS {h:Heap}{v:Value}{x:List Ed}{k0:Int}(Rv:Rep h v x) (hk0:0≤k0) (hk1:k0+Mk.cnt x<4611686018427387904) :
  CallE Tryz.prog fn_laws_heldEdgeS [v,.int .i64 k0] h (fun u h'=>h'=h∧u=.int .i64 (if Mk.wr k0 x=x then k0+Mk.cnt x else -1)):=by
 refine CallE.gen fun k hk=>EN_laws_heldEdgeS rfl ?_
 have hL:=Rv.lt
 have hcx:Mk.cnt x=cntL x:=rfl
 simp -implicitDefEqProofs (disch:=omega)[wrap64]
 refine wp_count x.length (fun i e h'=>h'=h∧e=[some v,some (.int .i64 (k0+cntL (x.take i))),none,some (.int .i64 i)]∧(mkL k0 x).take i=x.take i) ⟨rfl,by simp[cntL],rfl⟩ ?_
 rintro J i _ h1 hJ hi ⟨rfl,rfl,M⟩
 simp -implicitDefEqProofs (disch:=first|omega|(simp only[LnZ];omega))[wrap64,Rv.len]
 refine IteW.mk (fun hlt=>?_) (fun hge=>?_)
 ·have hlx:i<x.length:=by omega
  have hb:=cntL_le x (i+1)
  have hc:=cntL_take x i hlx
  have hg:=mkL_get k0 x i hlx
  have hce:=cnt_Ed x[i]
  obtain⟨q,hq⟩:∃q,q=k0+cntL (x.take i):=⟨_,rfl⟩
  rw[← hq] at hg ⊢
  have hw:=wr_Ed q x[i]
  have hno:Mk.wr q x[i]≠x[i]→k (.int .i64 (-1)) h1:=by
   intro hm
   refine hk _ _ ⟨rfl,?_⟩
   rw[if_neg]
   intro he
   have he2:mkL k0 x=x:=he
   simp only[he2] at hg
   exact hm hg.symm
  obtain⟨n1,hn1⟩:∃n1,n1=Mk.cnt x[i].guard.kids:=⟨_,rfl⟩
  obtain⟨n2,hn2⟩:∃n2,n2=Mk.cnt x[i].value.kids:=⟨_,rfl⟩
  rw[← hn1,← hn2] at hw hce
  obtain⟨u,hu,Ru⟩:=Rv.ld hlx
  change hload _ (some (elp 10 v i)) (some 10)=some u at hu
  obtain⟨w1,w2,rfl,ok,G1,G2⟩:=Rep_Ed.1 Ru
  have hP:=hld_parts hu
  by_cases m0:x[i].frm=q
  case neg=>
   simp -implicitDefEqProofs (disch:=first|omega|(simp only[LnZ];omega))[wrap64,Rv.X (n:=10) rfl,hP.1,hP.2.1,hP.2.2.1,Ed.cs,m0]
   exact RetK.keep (hno fun he=>m0 (by rw[hw] at he;rw[← he]))
  by_cases m1:x[i].to=q+1
  case neg=>
   simp -implicitDefEqProofs (disch:=first|omega|(simp only[LnZ];omega))[wrap64,Rv.X (n:=10) rfl,hP.1,hP.2.1,hP.2.2.1,Ed.cs,m0,m1]
   exact RetK.keep (hno fun he=>m1 (by rw[hw] at he;rw[← he]))
  by_cases m2:x[i].guard.kind=q+1+1
  case neg=>
   simp -implicitDefEqProofs (disch:=first|omega|(simp only[LnZ];omega))[wrap64,Rv.X (n:=10) rfl,hP.1,hP.2.1,hP.2.2.1,Ed.cs,m0,m1,m2]
   exact RetK.keep (hno fun he=>m2 (by rw[hw] at he;rw[← he];rfl))
  by_cases m3:x[i].guard.val=q+1+1+1
  case neg=>
   simp -implicitDefEqProofs (disch:=first|omega|(simp only[LnZ];omega))[wrap64,Rv.X (n:=10) rfl,hP.1,hP.2.1,hP.2.2.1,Ed.cs,m0,m1,m2,m3]
   exact RetK.keep (hno fun he=>m3 (by rw[hw] at he;rw[← he];rfl))
  simp -implicitDefEqProofs (disch:=first|omega|(simp only[LnZ];omega))[wrap64,Rv.X (n:=10) rfl,hP.1,hP.2.1,hP.2.2.1,Ed.cs,m0,m1,m2,m3]
  refine (c_heldExprS (k0:=q+1+1+1+1) G1 (by omega) (by omega)).go ?_
  rintro _ h1 ⟨rfl,rfl⟩
  by_cases m4:Mk.wr (q+1+1+1+1) x[i].guard.kids=x[i].guard.kids
  case neg=>
   rw[if_neg m4]
   simp -implicitDefEqProofs (disch:=omega)[wrap64]
   exact RetK.keep (hno fun he=>m4 (by rw[hw] at he;exact congrArg (fun e:Ed=>e.guard.kids) he))
  rw[if_pos m4,← hn1]
  simp -implicitDefEqProofs (disch:=omega)[wrap64]
  rw[IteW_neg (by omega)]
  by_cases m5:x[i].var=q+1+1+1+1+n1
  case neg=>
   simp -implicitDefEqProofs (disch:=first|omega|(simp only[LnZ];omega))[wrap64,Rv.X (n:=10) rfl,hP.1,hP.2.1,hP.2.2.1,Ed.cs,m5]
   exact RetK.keep (hno fun he=>m5 (by rw[hw] at he;rw[← he]))
  by_cases m6:x[i].value.kind=q+1+1+1+1+n1+1
  case neg=>
   simp -implicitDefEqProofs (disch:=first|omega|(simp only[LnZ];omega))[wrap64,Rv.X (n:=10) rfl,hP.1,hP.2.1,hP.2.2.1,Ed.cs,m5,m6]
   exact RetK.keep (hno fun he=>m6 (by rw[hw] at he;rw[← he];rfl))
  by_cases m7:x[i].value.val=q+1+1+1+1+n1+1+1
  case neg=>
   simp -implicitDefEqProofs (disch:=first|omega|(simp only[LnZ];omega))[wrap64,Rv.X (n:=10) rfl,hP.1,hP.2.1,hP.2.2.1,Ed.cs,m5,m6,m7]
   exact RetK.keep (hno fun he=>m7 (by rw[hw] at he;rw[← he];rfl))
  simp -implicitDefEqProofs (disch:=first|omega|(simp only[LnZ];omega))[wrap64,Rv.X (n:=10) rfl,hP.1,hP.2.1,hP.2.2.1,Ed.cs,m5,m6,m7]
  refine (c_heldExprS (k0:=q+1+1+1+1+n1+1+1+1) G2 (by omega) (by omega)).go ?_
  rintro _ h1 ⟨rfl,rfl⟩
  by_cases m8:Mk.wr (q+1+1+1+1+n1+1+1+1) x[i].value.kids=x[i].value.kids
  case neg=>
   rw[if_neg m8]
   simp -implicitDefEqProofs (disch:=omega)[wrap64]
   exact RetK.keep (hno fun he=>m8 (by rw[hw] at he;exact congrArg (fun e:Ed=>e.value.kids) he))
  rw[if_pos m8,← hn2]
  simp -implicitDefEqProofs (disch:=omega)[wrap64]
  rw[IteW_neg (by omega)]
  by_cases m9:x[i].sync=q+1+1+1+1+n1+1+1+1+n2
  case neg=>
   simp -implicitDefEqProofs (disch:=first|omega|(simp only[LnZ];omega))[wrap64,Rv.X (n:=10) rfl,hP.1,hP.2.1,hP.2.2.1,Ed.cs,m9]
   exact RetK.keep (hno fun he=>m9 (by rw[hw] at he;rw[← he]))
  simp -implicitDefEqProofs (disch:=first|omega|(simp only[LnZ];omega))[wrap64,Rv.X (n:=10) rfl,hP.1,hP.2.1,hP.2.2.1,Ed.cs,m9]
  refine hJ _ _ hlx ⟨rfl,?_,take_step M (by simpa using hlx) hlx ?_⟩
  ·simp only[List.cons.injEq,Option.some.injEq,Value.int.injEq,true_and,and_true]
   refine⟨?_,by simp⟩
   rw[hc,hce,hq];push_cast;omega
  ·rw[hg,hw,Ed.ext_iff',Exq.ext_iff',Exq.ext_iff']
   exact⟨m0.symm,m1.symm,⟨m2.symm,m3.symm,m4⟩,m5.symm,⟨m6.symm,m7.symm,m8⟩,m9.symm⟩
 ·simp -implicitDefEqProofs (disch:=omega)[wrap64]
  have h2:x.take i=x:=List.take_of_length_le (by omega)
  rw[List.take_of_length_le (by simp;omega),h2] at M
  exact RetK.keep (hk _ _ ⟨rfl,by rw[h2];exact congrArg _ (if_pos M).symm⟩)
theorem c_heldProcessS {h:Heap}{v:Value}{x:List Pr}{k0:Int}(Rv:Rep h v x) (hk0:0≤k0) (hk1:k0+Mk.cnt x<4611686018427387904) :
  CallE Tryz.prog fn_laws_heldProcessS [v,.int .i64 k0] h (fun u h'=>h'=h∧u=.int .i64 (if Mk.wr k0 x=x then k0+Mk.cnt x else -1)):=by
 refine CallE.gen fun k hk=>EN_laws_heldProcessS rfl ?_
 have hL:=Rv.lt
 have hcx:Mk.cnt x=cntL x:=rfl
 simp -implicitDefEqProofs (disch:=omega)[wrap64]
 refine wp_count x.length (fun i e h'=>h'=h∧e=[some v,some (.int .i64 (k0+cntL (x.take i))),none,some (.int .i64 i)]∧(mkL k0 x).take i=x.take i) ⟨rfl,by simp[cntL],rfl⟩ ?_
 rintro J i _ h1 hJ hi ⟨rfl,rfl,M⟩
 simp -implicitDefEqProofs (disch:=first|omega|(simp only[LnZ];omega))[wrap64,Rv.len]
 refine IteW.mk (fun hlt=>?_) (fun hge=>?_)
 ·have hlx:i<x.length:=by omega
  have hb:=cntL_le x (i+1)
  have hc:=cntL_take x i hlx
  have hg:=mkL_get k0 x i hlx
  have hce:=cnt_Pr x[i]
  obtain⟨q,hq⟩:∃q,q=k0+cntL (x.take i):=⟨_,rfl⟩
  rw[← hq] at hg ⊢
  have hw:Mk.wr q x[i]=⟨q,Mk.wr (q+1) x[i].edges⟩:=rfl
  have hno:Mk.wr q x[i]≠x[i]→k (.int .i64 (-1)) h1:=by
   intro hm
   refine hk _ _ ⟨rfl,?_⟩
   rw[if_neg]
   intro he
   have he2:mkL k0 x=x:=he
   simp only[he2] at hg
   exact hm hg.symm
  obtain⟨u,hu,Ru⟩:=Rv.ld hlx
  change hload _ (some (elp 2 v i)) (some 2)=some u at hu
  obtain⟨w,rfl,k1,R1⟩:=Rep_Pr.1 Ru
  have hP:=hld_parts hu
  by_cases m0:x[i].locs=q
  case neg=>
   simp -implicitDefEqProofs (disch:=first|omega|(simp only[LnZ];omega))[wrap64,Rv.X (n:=2) rfl,hP.1,hP.2.2.1,m0]
   exact RetK.keep (hno fun he=>m0 (by rw[hw] at he;rw[← he]))
  simp -implicitDefEqProofs (disch:=first|omega|(simp only[LnZ];omega))[wrap64,Rv.X (n:=2) rfl,hP.1,hP.2.2.1,m0]
  refine (c_heldEdgeS (k0:=q+1) R1 (by omega) (by omega)).go ?_
  rintro _ h1 ⟨rfl,rfl⟩
  by_cases m2:Mk.wr (q+1) x[i].edges=x[i].edges
  case neg=>
   rw[if_neg m2]
   simp -implicitDefEqProofs (disch:=omega)[wrap64]
   exact RetK.keep (hno fun he=>m2 (by rw[hw] at he;exact congrArg Pr.edges he))
  rw[if_pos m2]
  simp -implicitDefEqProofs (disch:=omega)[wrap64]
  rw[IteW_neg (by omega)]
  simp -implicitDefEqProofs (disch:=omega)[wrap64]
  refine hJ _ _ hlx ⟨rfl,?_,take_step M (by simpa using hlx) hlx ?_⟩
  ·simp only[List.cons.injEq,Option.some.injEq,Value.int.injEq,true_and,and_true]
   refine⟨?_,by simp⟩
   rw[hc,hce,hq];push_cast;omega
  ·rw[hg,hw,Pr.ext_iff']
   exact⟨m0.symm,m2⟩
 ·simp -implicitDefEqProofs (disch:=omega)[wrap64]
  have h2:x.take i=x:=List.take_of_length_le (by omega)
  rw[List.take_of_length_le (by simp;omega),h2] at M
  exact RetK.keep (hk _ _ ⟨rfl,by rw[h2];exact congrArg _ (if_pos M).symm⟩)
theorem c_heldSystem {h:Heap}{v:Value}{x:Sy}{k0:Int}(Rv:Rep h v x) (hk0:0≤k0) (hk1:k0+Mk.cnt x<4611686018427387904):CallE Tryz.prog fn_laws_heldSystem [v,.int .i64 k0] h (fun u h'=>h'=h∧u=.int .i64 (if Mk.wr k0 x=x then k0+Mk.cnt x else -1)):=by
 have hc:Mk.cnt x=Mk.cnt x.init+Mk.cnt x.procs:=rfl
 have hw:Mk.wr k0 x=⟨Mk.wr (k0) x.init,Mk.wr (k0+(Mk.cnt x.init:Nat)) x.procs⟩:=rfl
 obtain⟨v1,v2,rfl,R1,R2⟩:=Rep_Sy.1 Rv
 refine CallE.gen fun k hk=>EN_laws_heldSystem rfl ?_
 simp -implicitDefEqProofs (disch:=omega)[wrap64]
 refine (c_heldIntS (k0:=k0) R1 (by omega) (by omega)).go ?_
 rintro _ _ ⟨rfl,rfl⟩
 by_cases m1:Mk.wr (k0) x.init=x.init
 case neg=>
  rw[if_neg m1]
  simp -implicitDefEqProofs (disch:=omega)[wrap64]
  refine RetK.keep (hk _ _ ⟨rfl,?_⟩)
  rw[if_neg]
  intro he
  rw[hw] at he
  exact m1 (congrArg Sy.init he)
 rw[if_pos m1]
 simp -implicitDefEqProofs (disch:=omega)[wrap64]
 rw[IteW_neg (by omega)]
 simp -implicitDefEqProofs (disch:=omega)[wrap64]
 refine (c_heldProcessS (k0:=k0+(Mk.cnt x.init:Nat)) R2 (by omega) (by omega)).go ?_
 rintro _ _ ⟨rfl,rfl⟩
 by_cases m2:Mk.wr (k0+(Mk.cnt x.init:Nat)) x.procs=x.procs
 case neg=>
  rw[if_neg m2]
  simp -implicitDefEqProofs (disch:=omega)[wrap64]
  refine RetK.keep (hk _ _ ⟨rfl,?_⟩)
  rw[if_neg]
  intro he
  rw[hw] at he
  exact m2 (congrArg Sy.procs he)
 rw[if_pos m2]
 simp -implicitDefEqProofs (disch:=omega)[wrap64]
 rw[IteW_neg (by omega)]
 simp -implicitDefEqProofs (disch:=omega)[wrap64]
 refine RetK.keep (hk _ _ ⟨rfl,?_⟩)
 rw[if_pos,hc]
 ·congr 1;omega
 ·rw[hw,m1,m2]
structure Prog {α:Type}(f:α→α) (l y:List α) (i:Nat):Prop where
 len:y.length=l.length
 done:y.take i=(l.map f).take i
 rest:∀(j:Nat) (hj:j<l.length) (hj':j<y.length),i≤j→y[j]=l[j]
section
variable {α:Type}{f:α→α}{l y:List α}{i:Nat}
theorem Prog.zero:Prog f l l 0:=⟨rfl,rfl,fun _ _ _ _=>rfl⟩
theorem Prog.get (H:Prog f l y i) (hi:i<l.length):y[i]'(by rw[H.len];exact hi)=l[i]:=H.rest i hi _ (Nat.le_refl i)
theorem Prog.step (H:Prog f l y i) (hi:i<l.length):Prog f l (y.set i (f l[i])) (i+1):=by
 refine⟨by simp[H.len],?_,fun j hj hj' hij=>?_⟩
 ·have:=take_set_succ (x:=l.map f) H.done (by simpa using hi) (by simp[H.len])
  rwa [List.getElem_map] at this
 ·simp only[List.getElem_set]
  rw[if_neg (by omega)]
  exact H.rest j hj (by simpa using hj') (by omega)
theorem Prog.skip (H:Prog f l y i) (hi:i<l.length) (hf:f l[i]=l[i]):Prog f l y (i+1):=by
 have:=H.step hi
 rw[hf,← H.get hi,List.set_getElem_self] at this
 exact this
theorem Prog.all (H:Prog f l y i) (hi:l.length≤i):y=l.map f:=eq_of_take H.done (by simpa using hi) (by simp[H.len])
end
theorem repPr {h:Heap}{cs:List Value}{p:Pr}(H:Ty.rep h cs p):∃w,cs=[.int .i64 p.locs,w]∧I64 p.locs:=by
 obtain⟨c1,c2,rfl,⟨rfl,h1⟩,h2⟩:=H
 obtain⟨w,rfl,h3⟩:=(rep1 (α:=List Ed) rfl).1 h2
 exact⟨w,rfl,h1⟩
theorem c_System_copyOf {h:Heap}{v:Value}{s:Sy}(hs:s.Ok) (R:Rep h v s):CallE Tryz.prog fn_impl_System_copyOf [v] h (fun u h'=>HS h [ow u s] h'):=by
 obtain⟨v1,v2,rfl,R1,R2'⟩:=Rep_Sy.1 R
 have hil:=hs.vs.len
 have hp3:=hs.p3
 refine CallE.gen fun k hk=>EN_impl_System_copyOf rfl ?_
 simp -implicitDefEqProofs (disch:=first|omega|(simp only[LnZ];omega))[wrap64,setC]
 refine (c_clone_int R1 (by omega)).go ?_
 intro c1 h1 H
 simp -implicitDefEqProofs (disch:=first|omega|(simp only[LnZ];omega))[wrap64,setC]
 refine (c_clone_impl_Process (R2'.on H) (by omega)).go ?_
 rintro c2 h2 ⟨M,hM,G⟩
 have hC1:=H.rep.cells
 have hC2:=H.rep.one
 have hC3:=G.rep.cells
 have hC4:=G.rep.one
 have H:=G.app H
 simp -implicitDefEqProofs (disch:=first|omega|(simp only[LnZ];omega))[wrap64,setC,hC1,hC2,hC3,hC4,R2'.len]
 refine wp_count s.procs.length (fun i e h'=>e=[none,none,some (.agg #[.slice none 0 0,.slice none 0 0]),some (.agg #[c1,c2]),none,none,none,none,some v2,some (.int .i64 s.procs.length),some (.int .i64 i),none,none,none]∧∃M,HS h [ow c2 M,ow c1 s.init] h'∧Mixed h1 s.procs (fun p=>p) M i) ⟨by simp,M,H,Mixed.zero hM⟩ ?_
 clear H G hM
 rintro J i _ h3 hJ hi ⟨rfl,M,H,hM⟩
 simp -implicitDefEqProofs (disch:=omega)[wrap64]
 refine IteW.mk (fun hlt=>?_) (fun hge=>?_)
 ·have hlx:i<s.procs.length:=by omega
  have hlM:i<M.length:=by rw[hM.len];exact hlx
  obtain⟨u,hu,Ru⟩:=R2'.ld hlx
  have hu2:=hload_le H.base hu
  change hload _ (some (elp 2 v2 i)) (some 2)=some u at hu2
  obtain⟨we,rfl,k1,R3⟩:=Rep_Pr.1 Ru
  have hpo:=hs.at hlx
  have hel:=hpo.el
  have hF1:=R3.cells
  have hF2:=R3.one
  simp -implicitDefEqProofs (disch:=first|omega|(simp only[LnZ];omega))[wrap64,R2'.X (n:=2) rfl,hu2,hF1,hF2,setC]
  refine (c_clone_impl_Edge (R3.on H) (by omega)).go ?_
  rintro w' h4 ⟨ME,hME,G⟩
  have hc':=G.rep.cells
  have hc2:=G.rep.one
  have H0:=G.app H
  obtain⟨u,hu,H1⟩:=HS.take H0.sw1 hlM
  obtain⟨c,hc,hr⟩:=hM.get hlx
  rw[hc] at H1
  obtain⟨rfl,H2⟩:=H1.unraw
  obtain⟨wo,rfl,_⟩:=repPr hr
  have H3:HS h (hole c2 M i (.agg ([.int .i64 s.procs[i].locs,wo]:List Value).toArray)::ow w' ME::ow c1 s.init::[]) h4:=H2
  have hia:=HS.holeia H3 (n:=2) (kd:=.i64) rfl hlM
  have hP:=hld_parts (HS.holeP H3 (n:=2) rfl rfl)
  simp -implicitDefEqProofs (disch:=first|omega|(simp only[LnZ];omega))[wrap64,hia,hP.1]
  refine HS.holest H3 rfl (n:=2) rfl rfl rfl (by simp[hc']) (by simp[hc',hc2]) (by decide) fun h5 H=>?_
  rw[hc'] at H
  have H:HS h (hole c2 M i (.agg ([.int .i64 s.procs[i].locs,w']:List Value).toArray)::ow w' ME::ow c1 s.init::[]) h5:=H
  simp -implicitDefEqProofs (disch:=first|omega|(simp only[LnZ];omega))[wrap64,R3.len]
  refine wp_count s.procs[i].edges.length (fun j e h'=>e=[none,none,some (.agg #[.slice none 0 0,.slice none 0 0]),some (.agg #[c1,c2]),some (.int .i64 i),none,none,none,some v2,some (.int .i64 s.procs.length),some (.int .i64 i),some we,some (.int .i64 s.procs[i].edges.length),some (.int .i64 j)]∧∃ME,HS h [hole c2 M i (.agg ([.int .i64 s.procs[i].locs,w']:List Value).toArray),ow w' ME,ow c1 s.init] h'∧Mixed h3 s.procs[i].edges (fun p=>p) ME j) ⟨by simp,ME,H,Mixed.zero hME⟩ ?_
  clear H H0 H1 H2 H3 G hME hia hP hu hu2
  rintro J2 j _ h6 hJ2 hj ⟨rfl,ME,H,hME⟩
  simp -implicitDefEqProofs (disch:=omega)[wrap64]
  refine IteW.mk (fun hlt2=>?_) (fun hge2=>?_)
  ·have hjx:j<s.procs[i].edges.length:=by omega
   have hjM:j<ME.length:=by rw[hME.len];exact hjx
   obtain⟨u,hu,Ru⟩:=R3.ld hjx
   have hu2:=hload_le H.base hu
   change hload _ (some (elp 10 we j)) (some 10)=some u at hu2
   obtain⟨w1,w2,rfl,ok,G1,G2⟩:=Rep_Ed.1 Ru
   have heo:=hpo.at hjx
   have hF3:=G1.one
   have hF4:=G2.one
   have hia:=HS.holeia H (n:=2) (kd:=.i64) rfl hlM
   have hP:=hld_parts (HS.holeP H (n:=2) rfl rfl)
   simp -implicitDefEqProofs (disch:=first|omega|(simp only[LnZ];omega))[wrap64,R3.X (n:=10) rfl,hu2,Ed.cs,setC,hF3,hF4,hia,hP.1,hP.2.2.1]
   refine (c_Expr_copyOf _ ((Rep.gd (w2:=w2) ok G1).on H) (by have:=heo.gd.sz;omega)).go ?_
   intro u1 h7 HU
   obtain⟨x1,rfl,_,_,HU1⟩:=HU.unExq
   have hX1:=HU1.rep.cells
   have hX2:=HU1.rep.one
   have H0:=HU1.app H
   have hP:=hld_parts (HS.holeP H0.sw1 (n:=2) rfl rfl)
   obtain⟨u,hu,H1⟩:=HS.take H0.sw2 hjM
   obtain⟨c,hc,hr⟩:=hME.get hjx
   rw[hc] at H1
   obtain⟨rfl,H2⟩:=H1.unraw
   obtain⟨wa,wb,rfl,_,_,_⟩:=repEd.1 hr
   have H3:HS h (hole w' ME j (.agg (Ed.cs s.procs[i].edges[j] wa wb).toArray)::ow x1 s.procs[i].edges[j].guard.kids::hole c2 M i (.agg ([.int .i64 s.procs[i].locs,w']:List Value).toArray)::ow c1 s.init::[]) h7:=H2
   have hiaE:=HS.holeia H3 (n:=10) (kd:=.i64) rfl hjM
   have hPE:=hld_parts (HS.holeP H3 (n:=10) rfl rfl)
   simp -implicitDefEqProofs (disch:=first|omega|(simp only[LnZ];omega))[wrap64,hP.1,hP.2.2.1,hiaE,hPE.1]
   refine HS.holest H3 rfl (n:=10) rfl rfl rfl rfl (by simp[hX2]) (by decide) fun h8 H=>?_
   have H:HS h (hole w' ME j (.agg (Ed.cs s.procs[i].edges[j] x1 wb).toArray)::ow x1 s.procs[i].edges[j].guard.kids::hole c2 M i (.agg ([.int .i64 s.procs[i].locs,w']:List Value).toArray)::ow c1 s.init::[]) h8:=H
   have hia:=HS.holeia H.sw2 (n:=2) (kd:=.i64) rfl hlM
   have hP:=hld_parts (HS.holeP H.sw2 (n:=2) rfl rfl)
   simp -implicitDefEqProofs (disch:=first|omega|(simp only[LnZ];omega))[wrap64,hia,hP.1,hP.2.2.1]
   refine (c_Expr_copyOf _ ((Rep.vl ok G2).on H) (by have:=heo.vsz;omega)).go ?_
   intro u2 h9 HU
   obtain⟨x2,rfl,_,_,HU2⟩:=HU.unExq
   have hX3:=HU2.rep.cells
   have hX4:=HU2.rep.one
   have H:=(HU2.app H).sw1
   have hP:=hld_parts (HS.holeP H.sw3 (n:=2) rfl rfl)
   have hiaE:=HS.holeia H (n:=10) (kd:=.i64) rfl hjM
   have hPE:=hld_parts (HS.holeP H (n:=10) rfl rfl)
   simp -implicitDefEqProofs (disch:=first|omega|(simp only[LnZ];omega))[wrap64,hP.1,hP.2.2.1,hiaE,hPE.1]
   refine HS.holest H rfl (n:=10) rfl rfl rfl rfl (by simp[hX4]) (by decide) fun h10 H=>?_
   have H:HS h (hole w' ME j (.agg (Ed.cs s.procs[i].edges[j] x1 x2).toArray)::ow x2 s.procs[i].edges[j].value.kids::ow x1 s.procs[i].edges[j].guard.kids::hole c2 M i (.agg ([.int .i64 s.procs[i].locs,w']:List Value).toArray)::ow c1 s.init::[]) h10:=H
   have H:=(HS.put ((HS.mkEd H.sw1.sw2 ok).newO))
   simp -implicitDefEqProofs (disch:=omega)[wrap64]
   exact hJ2 _ _ hjx ⟨by simp,_,H.sw1,hME.step hjx⟩
  simp -implicitDefEqProofs (disch:=omega)[wrap64]
  have he:=hME.all (by omega)
  subst he
  have H:=H.sw1.mixed
  rw[List.map_id'] at H
  have H:=HS.put ((HS.mkPr (p:=s.procs[i]) H k1).newO)
  exact hJ _ _ hlx ⟨by simp,_,H,hM.step hlx⟩
 simp -implicitDefEqProofs (disch:=first|omega|(simp only[LnZ];omega))[wrap64,hC2,hC4,setC]
 have he:=hM.all (by omega)
 subst he
 have H:=H.mixed
 rw[List.map_id'] at H
 exact RetK.keep (hk _ _ (H.sw1.mkSy))
theorem cnt_mul_le {α:Type} [Mk α] {c:Nat}{l:List α}(h:∀x∈l,Mk.cnt x≤c):Mk.cnt l≤l.length*c:=by
 induction l with
 | nil=>exact Nat.zero_le _
 | cons x l ih=>
  rw[cnt_cons,List.length_cons,Nat.add_mul]
  have h1:=h x (by simp)
  have h2:=ih fun y hy=>h y (by simp[hy])
  omega
def lnP (t:List UInt8):List (List UInt8):=spl 10 (Lib.trimSuffix t [10])
structure CurP (t:List UInt8) (i:Nat) (c:Sy):Prop where
 pl:c.procs.length≤i
 el:∀p∈c.procs,p.edges.length≤i
 ex:∀s,psY t=some s→i≤s.lns.length∧c=(s.lns.take i).foldl Sy.ap ⟨[],[]⟩
theorem CurP.zero {t:List UInt8}:CurP t 0 ⟨[],[]⟩:=⟨by simp,by simp,fun s _=>⟨by omega,rfl⟩⟩
theorem linesP_of {t:List UInt8}{s:Sy}(h:psY t=some s):lnP t=s.lns.map Ln.row:=by
 obtain⟨h1,rfl⟩:=psY_some h
 rw[lnP,Sy.fmt_jn,trim_snoc,Sy.fmt_spl h1]
theorem lineP_at {t:List UInt8}{s:Sy}(h:psY t=some s) {i:Nat}(hi:i<(lnP t).length) (hl:i<s.lns.length):spl 32 (lnP t)[i]=s.lns[i].ws∧s.lns[i].Ok:=by
 have hs:=(psY_some h).1
 have hok:=s.lns_ok hs s.lns[i] (List.getElem_mem hl)
 have e:(lnP t)[i]=s.lns[i].row:=by
  simp only[linesP_of h]
  rw[List.getElem_map]
 exact⟨by rw[e];exact Ln.row_spl hok,hok⟩
theorem linesP_len {t:List UInt8}{s:Sy}(h:psY t=some s):(lnP t).length=s.lns.length:=by rw[linesP_of h];simp
theorem CurP.step {t:List UInt8}{i:Nat}{c c':Sy}(H:CurP t i c) (hi:i<(lnP t).length) (h2:c'.procs.length≤i+1) (h3:∀p∈c'.procs,p.edges.length≤i+1)
  (h4:∀s (hl:i<s.lns.length),psY t=some s→spl 32 (lnP t)[i]=s.lns[i].ws→s.lns[i].Ok→c=(s.lns.take i).foldl Sy.ap ⟨[],[]⟩→c'=c.ap s.lns[i]):CurP t (i+1) c':=by
 refine⟨h2,h3,fun s hs=>?_⟩
 have hll:=linesP_len hs
 have hl:i<s.lns.length:=by omega
 obtain⟨_,k2⟩:=H.ex s hs
 obtain⟨k3,k4⟩:=lineP_at hs hi hl
 exact⟨hl,by rw[ap_step hl,← k2];exact h4 s hl hs k3 k4 k2⟩
theorem CurP.stop {t:List UInt8}{i:Nat}{c:Sy}(H:CurP t i c) (hi:i<(lnP t).length) (h4:∀s (hl:i<s.lns.length),psY t=some s→spl 32 (lnP t)[i]=s.lns[i].ws→s.lns[i].Ok→c=(s.lns.take i).foldl Sy.ap ⟨[],[]⟩→False):psY t=none:=by
 cases e:psY t with
 | none=>rfl
 | some s=>
  have hll:=linesP_len e
  have hl:i<s.lns.length:=by omega
  obtain⟨k3,k4⟩:=lineP_at e hi hl
  exact (h4 s hl e k3 k4 (H.ex s e).2).elim
theorem CurP.done {t:List UInt8}{i:Nat}{c:Sy}(H:CurP t i c) {s:Sy}(hs:psY t=some s) (hi:(lnP t).length≤i):c=s:=by
 obtain⟨k1,k2⟩:=H.ex s hs
 have hll:=linesP_len hs
 have e:i=s.lns.length:=by omega
 rw[k2,e,List.take_length,Sy.lns_ap]
set_option maxHeartbeats 1000000 in
theorem c_ParseSystem {h:Heap}{t:List UInt8}(ht:t.length≤1048576) (GM:Gm h) (GL:Gl h):CallE Tryz.prog fn_impl_ParseSystem [.string (Tx t)] h (R2 (psY t).isSome ((psY t).getD ⟨[],[]⟩) h):=by
 have i0:I64 0:=⟨by decide,by decide⟩
 have htl:=trim_len (l:=t) (p:=[10])
 have hsl:=spl_len (c:=10) (Lib.trimSuffix t [10])
 have hsc:(Lib.trimSuffix t [10]).count 10≤(Lib.trimSuffix t [10]).length:=List.count_le_length
 have hlP:lnP t=spl 10 (Lib.trimSuffix t [10]):=rfl
 refine CallE.gen fun k hk=>EN_impl_ParseSystem rfl ?_
 have nil:∀{h':Heap},h.le h'→psY t=none→k (.tuple #[.agg #[.slice none 0 0,.slice none 0 0],.bool false]) h':=fun hl he=>hk _ _ ⟨_,by rw[he];rfl,by rw[he];exact HS.mkSy (s:=⟨[],[]⟩) (HS.nil_ow (HS.nil_ow (Γ:=[]) hl))⟩
 simp -implicitDefEqProofs (disch:=omega)[wrap64]
 refine (c_TrimSuffix (p:=[10]) (by omega)).go ?_
 rintro _ h ⟨rfl,rfl⟩
 simp -implicitDefEqProofs (disch:=omega)[wrap64]
 refine (c_Split (c:=10) (by omega) GM).go ?_
 intro L h1 H
 rw[← hlP] at H
 have hLl:((lnP t).map Tx).length=(lnP t).length:=List.length_map _
 have hlen:=H.rep.len
 have hln:(lnP t).length≤t.length+1:=by rw[hlP];omega
 simp -implicitDefEqProofs (disch:=first|omega|(simp only[LnZ];omega))[wrap64,setC,hlen,hLl]
 refine wp_count (lnP t).length (fun i e h'=>∃(c:Sy) (x1 x2:Value),e=[some (.string (Tx t)),some (.agg #[.slice none 0 0,.slice none 0 0]),none,some (.agg #[x1,x2]),none,none,none,none,none,some L,some (.int .i64 (lnP t).length),some (.int .i64 i)]∧HS h [ow x1 c.init,ow x2 c.procs,ow L ((lnP t).map Tx)] h'∧CurP t i c) ⟨⟨[],[]⟩,_,_,by simp,HS.nil_ow (HS.nil_ow H),CurP.zero⟩ ?_
 clear H hlen
 rintro J i _ h2 hJ hi ⟨c,x1,x2,rfl,H,hc⟩
 have hS:=H.sw2.rep.S
 have hcp:=hc.pl
 simp -implicitDefEqProofs (disch:=omega)[wrap64]
 by_cases hil:i<(lnP t).length
 case neg=>
  have hili:¬((i:Int)<(lnP t).length):=by omega
  simp -implicitDefEqProofs (disch:=first|omega|(simp only[LnZ];omega))[wrap64,hil,hili]
  have hO1:=H.rep.one
  have hC1:=H.rep.cells
  have hO2:=H.sw1.rep.one
  have hC2:=H.sw1.rep.cells
  have HS2:=H.sw2.drop
  have RC:Rep h2 (.agg #[x1,x2]) c:=Rep_Sy.2 ⟨x1,x2,rfl,H.rep,H.sw1.rep⟩
  have FC:=RC.aSy
  simp -implicitDefEqProofs (disch:=first|omega|(simp only[LnZ];omega))[wrap64,setC,hO1,hC1,hO2,hC2]
  refine (c_SystemValid RC).go ?_
  rintro _ h3 ⟨l3,rfl⟩
  by_cases c1:c.Ok
  case neg=>
   simp -implicitDefEqProofs (disch:=first|omega|(simp only[LnZ];omega))[wrap64,c1,setC]
   refine RetK.keep (nil (H.base.trans l3) ?_)
   cases e:psY t with
   | none=>rfl
   | some s=>
    have hcs:=hc.done e (by omega)
    subst hcs
    exact absurd (psY_some e).1 c1
  simp -implicitDefEqProofs (disch:=first|omega|(simp only[LnZ];omega))[wrap64,c1,setC,hO1,hC1,hO2,hC2]
  refine (c_FormatSystem (RC.le l3) (GL.le (H.base.trans l3))).go ?_
  rintro _ h4 ⟨l4,rfl⟩
  rw[if_pos c1]
  by_cases c2:c.fmt=t
  ·obtain⟨s,hs⟩:∃s,psY t=some s:=by
    cases e:psY t with
    | none=>exact absurd c2 (psY_none e c c1)
    | some s=>exact⟨s,rfl⟩
   have hcs:=hc.done hs (by omega)
   subst hcs
   simp -implicitDefEqProofs (disch:=first|omega|(simp only[LnZ];omega))[wrap64,c2,setC,hO1,hC1,hO2,hC2]
   refine (c_System_copyOf c1 ((RC.le l3).le l4)).go ?_
   intro u h5 H5
   have FU:=H5.rep.aSy
   simp -implicitDefEqProofs (disch:=first|omega|(simp only[LnZ];omega))[wrap64,FU,setC]
   refine RetK.keep (hk _ _ ⟨_,by rw[hs];rfl,?_⟩)
   rw[hs]
   have H9:=H5.app (H.le (l3.trans l4))
   exact H9.under fun _ H=>H.drop.drop.drop
  ·have c3:¬Tx c.fmt=Tx t:=fun hh=>c2 (Tx_inj.1 hh)
   simp -implicitDefEqProofs (disch:=first|omega|(simp only[LnZ];omega))[wrap64,c2,c3,setC]
   refine RetK.keep (nil (H.base.trans (l3.trans l4)) ?_)
   cases e:psY t with
   | none=>rfl
   | some s=>
    have hcs:=hc.done e (by omega)
    subst hcs
    exact absurd (psY_some e).2 c2
 have hili:((i:Int)<(lnP t).length):=by omega
 have hli:i<((lnP t).map Tx).length:=by omega
 have hia:=hS.1.1 .i64 i hli
 have hld:=hS.2 i hli
 rw[List.getElem_map] at hld
 have hlnl:((lnP t)[i]'hil).length≤t.length:=by
  have:=spl_mem_len (c:=10) (l:=Lib.trimSuffix t [10]) (w:=(lnP t)[i]'hil) (List.getElem_mem hil)
  omega
 simp -implicitDefEqProofs (disch:=first|omega|(simp only[LnZ];omega))[wrap64,hil,hili,hia,hld]
 refine (c_Split (c:=32) (by omega) (GM.le H.base)).go ?_
 intro W h3 H2
 have HW0:=H2.app H
 have HW0:HS h [ow W ((spl 32 ((lnP t)[i]'hil)).map Tx),ow x1 c.init,ow x2 c.procs,ow L ((lnP t).map Tx)] h3:=HW0
 obtain⟨w0,ws,hws⟩:∃w0 ws,spl 32 ((lnP t)[i]'hil)=w0::ws:=by
  cases e:spl 32 ((lnP t)[i]'hil) with
  | nil=>exact absurd e spl_ne
  | cons a b=>exact⟨a,b,rfl⟩
 have hwl:=spl_len (c:=32) ((lnP t)[i]'hil)
 have hwc:((lnP t)[i]'hil).count 32≤((lnP t)[i]'hil).length:=List.count_le_length
 rw[hws] at hwl
 simp only[List.length_cons] at hwl
 have hwm:∀w∈w0::ws,w.length≤t.length:=fun w hw=>by
  rw[← hws] at hw
  have:=spl_mem_len hw
  omega
 have HW:HS h [ow W ((w0::ws).map Tx),ow x1 c.init,ow x2 c.procs,ow L ((lnP t).map Tx)] h3:=by rw[← hws];exact HW0
 have hstep:=fun c'=>hc.step (c':=c') hil
 simp only[hws] at hstep
 clear HW0 H H2
 have hO2:=HW.sw2.rep.one
 have hC2:=HW.sw2.rep.cells
 have hO1:=HW.sw1.rep.one
 have hC1:=HW.sw1.rep.cells
 have hpl:=HW.sw2.rep.len
 have hia0:iaV 1 W (.int .i64 0)=some (elp 1 W 0):=HW.rep.S.1.1 .i64 0 (by simp)
 have hld0:hload h3 (some (elp 1 W 0)) none=some (.string (Tx w0)):=HW.rep.S.2 0 (by simp)
 have hwlen:=HW.rep.len
 have hml:((w0::ws).map Tx).length=ws.length+1:=by simp
 have hdf1:¬([101,100,103,101]:List UInt8)=[112,114,111,99,101,115,115]:=by decide
 have hdf2:¬([101,100,103,101]:List UInt8)=[115,121,115,116,101,109]:=by decide
 have hdf3:¬([112,114,111,99,101,115,115]:List UInt8)=[115,121,115,116,101,109]:=by decide
 have hdf4:¬([115,121,115,116,101,109]:List UInt8)=[112,114,111,99,101,115,115]:=by decide
 have hdf5:¬([115,121,115,116,101,109]:List UInt8)=[101,100,103,101]:=by decide
 have hdf6:¬([112,114,111,99,101,115,115]:List UInt8)=[101,100,103,101]:=by decide
 by_cases s1:w0=wSys
 ·have s1t:Tx w0=Tx [115,121,115,116,101,109]:=by rw[s1];rfl
  have s1u:w0=[115,121,115,116,101,109]:=s1
  by_cases s2:ws.length=3
  case neg=>
   have s2i:¬((ws.length:Int)+1=4):=by omega
   simp -implicitDefEqProofs (disch:=first|omega|(simp only[LnZ];omega))[wrap64,setC,hO1,hC1,hO2,hC2,hpl,hia0,hld0,hwlen,hml,s1t,s1u,s2,s2i,hdf4,hdf5]
   refine RetK.keep (nil HW.base (hc.stop hil fun s hl hs hw hok hcc=>?_))
   rw[hws] at hw
   cases e:s.lns[i] with
   | sys l=>
    rw[e] at hw hok
    have hok:VOk l:=hok
    have hw:w0::ws=wSys::l.map (fun n=>[dg n]):=hw
    obtain⟨e1,e2⟩:=List.cons.inj hw
    exact s2 (by rw[e2,List.length_map];exact hok.1)
   | prc m=>
    rw[e] at hw
    have hw:w0::ws=[wPrc,[dg m]]:=hw
    obtain⟨e1,e2⟩:=List.cons.inj hw
    rw[s1] at e1;exact absurd e1 (by decide)
   | edg ed=>
    rw[e] at hw
    have hw:w0::ws=[wEdg,[dg ed.frm],[dg ed.to],ed.guard.fmt,ed.asg,syn ed.sync]:=hw
    obtain⟨e1,e2⟩:=List.cons.inj hw
    rw[s1] at e1;exact absurd e1 (by decide)
  have s2i:(ws.length:Int)+1=4:=by omega
  obtain⟨w1,w2,w3,rfl⟩:∃a b d,ws=[a,b,d]:=by
   match ws,s2 with
   | [a,b,d],_=>exact⟨a,b,d,rfl⟩
  have hia1:iaV 1 W (.int .i64 1)=some (elp 1 W 1):=HW.rep.S.1.1 .i64 1 (by simp)
  have hld1:hload h3 (some (elp 1 W 1)) none=some (.string (Tx w1)):=HW.rep.S.2 1 (by simp)
  have hia2:iaV 1 W (.int .i64 2)=some (elp 1 W 2):=HW.rep.S.1.1 .i64 2 (by simp)
  have hld2:hload h3 (some (elp 1 W 2)) none=some (.string (Tx w2)):=HW.rep.S.2 2 (by simp)
  have hia3:iaV 1 W (.int .i64 3)=some (elp 1 W 3):=HW.rep.S.1.1 .i64 3 (by simp)
  have hld3:hload h3 (some (elp 1 W 3)) none=some (.string (Tx w3)):=HW.rep.S.2 3 (by simp)
  simp -implicitDefEqProofs (disch:=first|omega|(simp only[LnZ];omega))[wrap64,setC,hO1,hC1,hO2,hC2,hpl,hia0,hld0,hwlen,hml,s1t,s1u,hia1,hld1,hia2,hld2,hia3,hld3]
  refine (c_small (l:=w1)).go ?_
  rintro _ h3 ⟨rfl,rfl⟩
  simp -implicitDefEqProofs (disch:=first|omega|(simp only[LnZ];omega))[wrap64,setC,hO1,hC1,hO2,hC2,hia2,hld2,hia3,hld3]
  refine (c_small (l:=w2)).go ?_
  rintro _ h3 ⟨rfl,rfl⟩
  simp -implicitDefEqProofs (disch:=first|omega|(simp only[LnZ];omega))[wrap64,setC,hO1,hC1,hO2,hC2,hia2,hld2,hia3,hld3]
  refine (c_small (l:=w3)).go ?_
  rintro _ h3 ⟨rfl,rfl⟩
  have r1:=smallV_rng (l:=w1)
  have r2:=smallV_rng (l:=w2)
  have r3:=smallV_rng (l:=w3)
  simp -implicitDefEqProofs (disch:=omega)[wrap64]
  refine HS.bls HW [smallV w1,smallV w2,smallV w3] rfl rfl (by intro x hx;simp at hx;rcases hx with rfl | rfl | rfl<;>exact⟨by omega,by omega⟩) (by simp) fun o h4 H=>?_
  have hO:=H.rep.one
  have hC:=H.rep.cells
  simp -implicitDefEqProofs (disch:=first|omega|(simp only[LnZ];omega))[wrap64,setC,hO,hC,hO2,hC2]
  refine hJ _ _ hil ⟨⟨[smallV w1,smallV w2,smallV w3],c.procs⟩,o,x2,by simp,H.under fun _ H=>H.drop.drop,hstep ⟨[smallV w1,smallV w2,smallV w3],c.procs⟩ (by simp only;omega) (fun p hp=>by have:=hc.el p hp;omega) fun s hl hs hw hok _=>?_⟩
  cases e:s.lns[i] with
  | sys l=>
   rw[e] at hw hok
   have hok:VOk l:=hok
   have hw:w0::[w1,w2,w3]=wSys::l.map (fun n=>[dg n]):=hw
   have hw2:=(List.cons.inj hw).2
   match l,hok with
   | [a,b,d],hok=>
    have ha:=hok.2 a (by simp)
    have hb:=hok.2 b (by simp)
    have hd:=hok.2 d (by simp)
    simp only[List.map_cons,List.map_nil,List.cons.injEq,and_true] at hw2
    obtain⟨z1,z2,z3⟩:=hw2
    rw[z1,z2,z3,small_dg ha.1 (by omega),small_dg hb.1 (by omega),small_dg hd.1 (by omega)]
    rfl
  | prc m=>
   rw[e] at hw
   have hw:w0::[w1,w2,w3]=[wPrc,[dg m]]:=hw
   have:=congrArg List.length hw
   simp at this
  | edg ed=>
   rw[e] at hw
   have:=congrArg List.length hw
   simp[Ln.ws] at this
 have s1t:¬Tx w0=Tx [115,121,115,116,101,109]:=fun e=>s1 (Tx_inj.1 e)
 have s1u:¬w0=[115,121,115,116,101,109]:=s1
 by_cases p1:w0=wPrc
 ·have p1t:Tx w0=Tx [112,114,111,99,101,115,115]:=by rw[p1];rfl
  have p1u:w0=[112,114,111,99,101,115,115]:=p1
  by_cases p2:ws.length=1
  case neg=>
   have p2i:¬((ws.length:Int)+1=2):=by omega
   simp -implicitDefEqProofs (disch:=first|omega|(simp only[LnZ];omega))[wrap64,setC,hO1,hC1,hO2,hC2,hpl,hia0,hld0,hwlen,hml,p1t,p1u,p2,p2i,hdf3,hdf6]
   refine RetK.keep (nil HW.base (hc.stop hil fun s hl hs hw hok hcc=>?_))
   rw[hws] at hw
   cases e:s.lns[i] with
   | sys l=>
    rw[e] at hw hok
    have hok:VOk l:=hok
    have hw:w0::ws=wSys::l.map (fun n=>[dg n]):=hw
    obtain⟨e1,e2⟩:=List.cons.inj hw
    exact s1 e1
   | prc m=>
    rw[e] at hw
    have hw:w0::ws=[wPrc,[dg m]]:=hw
    obtain⟨e1,e2⟩:=List.cons.inj hw
    exact p2 (by rw[e2];rfl)
   | edg ed=>
    rw[e] at hw
    have hw:w0::ws=[wEdg,[dg ed.frm],[dg ed.to],ed.guard.fmt,ed.asg,syn ed.sync]:=hw
    obtain⟨e1,e2⟩:=List.cons.inj hw
    rw[p1] at e1;exact absurd e1 (by decide)
  have p2i:(ws.length:Int)+1=2:=by omega
  obtain⟨w1,rfl⟩:=List.length_eq_one_iff.1 p2
  have hia1:iaV 1 W (.int .i64 1)=some (elp 1 W 1):=HW.rep.S.1.1 .i64 1 (by simp)
  have hld1:hload h3 (some (elp 1 W 1)) none=some (.string (Tx w1)):=HW.rep.S.2 1 (by simp)
  simp -implicitDefEqProofs (disch:=first|omega|(simp only[LnZ];omega))[wrap64,setC,hO1,hC1,hO2,hC2,hpl,hia0,hld0,hwlen,hml,p1t,p1u,hdf3,hia1,hld1]
  refine (c_small (l:=w1)).go ?_
  rintro _ h3 ⟨rfl,rfl⟩
  have r1:=smallV_rng (l:=w1)
  simp -implicitDefEqProofs (disch:=first|omega|(simp only[LnZ];omega))[wrap64,setC,hO1,hC1,hO2,hC2]
  have on:I64 (smallV w1):=⟨by omega,by omega⟩
  refine HS.appO (bytes:=32) (HS.mkPr (p:=⟨smallV w1,[]⟩) (HS.nil_ow HW.sw2) on) rfl rfl rfl rfl rfl (by omega) (by omega) fun o' h5 H=>?_
  have hO:=H.rep.one
  have hC:=H.rep.cells
  simp -implicitDefEqProofs (disch:=first|omega|(simp only[LnZ];omega))[wrap64,setC,hO1,hC1,hO,hC]
  refine hJ _ _ hil ⟨⟨c.init,c.procs++[⟨smallV w1,[]⟩]⟩,x1,o',by simp,H.sw2.under fun _ H=>H.under fun _ H=>H.drop,hstep ⟨c.init,c.procs++[⟨smallV w1,[]⟩]⟩ (by simp;omega) (fun p hp=>?_) fun s hl hs hw hok _=>?_⟩
  ·rcases List.mem_append.1 hp with hp | hp
   ·have:=hc.el p hp;omega
   ·rw[List.mem_singleton.1 hp];simp
  ·cases e:s.lns[i] with
   | sys l=>
    rw[e] at hw
    have hw:w0::[w1]=wSys::l.map (fun n=>[dg n]):=hw
    exact absurd (List.cons.inj hw).1 s1
   | prc m=>
    rw[e] at hw hok
    have hok:1≤m∧m≤4:=hok
    have hw:w0::[w1]=[wPrc,[dg m]]:=hw
    have hw1:w1=[dg m]:=by simpa using (List.cons.inj hw).2
    rw[hw1,small_dg (by omega) (by omega)]
    rfl
   | edg ed=>
    rw[e] at hw
    have:=congrArg List.length hw
    simp[Ln.ws] at this
 have p1t:¬Tx w0=Tx [112,114,111,99,101,115,115]:=fun e=>p1 (Tx_inj.1 e)
 have p1u:¬w0=[112,114,111,99,101,115,115]:=p1
 by_cases p4:w0=wEdg
 case neg=>
  have p4t:¬Tx w0=Tx [101,100,103,101]:=fun e=>p4 (Tx_inj.1 e)
  have p4u:¬w0=[101,100,103,101]:=p4
  simp -implicitDefEqProofs (disch:=first|omega|(simp only[LnZ];omega))[wrap64,setC,hO1,hC1,hO2,hC2,hpl,hia0,hld0,hwlen,hml,s1t,s1u,p1t,p1u,p4t,p4u]
  refine RetK.keep (nil HW.base (hc.stop hil fun s hl hs hw hok hcc=>?_))
  rw[hws] at hw
  cases e:s.lns[i] with
  | sys l=>
   rw[e] at hw hok
   have hok:VOk l:=hok
   have hw:w0::ws=wSys::l.map (fun n=>[dg n]):=hw
   obtain⟨e1,e2⟩:=List.cons.inj hw
   exact s1 e1
  | prc m=>
   rw[e] at hw
   have hw:w0::ws=[wPrc,[dg m]]:=hw
   obtain⟨e1,e2⟩:=List.cons.inj hw
   exact p1 e1
  | edg ed=>
   rw[e] at hw
   have hw:w0::ws=[wEdg,[dg ed.frm],[dg ed.to],ed.guard.fmt,ed.asg,syn ed.sync]:=hw
   obtain⟨e1,e2⟩:=List.cons.inj hw
   exact p4 e1
 have p4t:Tx w0=Tx [101,100,103,101]:=by rw[p4];rfl
 have p4u:w0=[101,100,103,101]:=p4
 by_cases p5:ws.length=5
 case neg=>
  have p5i:¬((ws.length:Int)+1=6):=by omega
  simp -implicitDefEqProofs (disch:=first|omega|(simp only[LnZ];omega))[wrap64,setC,hO1,hC1,hO2,hC2,hpl,hia0,hld0,hwlen,hml,p4t,p4u,hdf1,hdf2,p5,p5i]
  refine RetK.keep (nil HW.base (hc.stop hil fun s hl hs hw hok hcc=>?_))
  rw[hws] at hw
  cases e:s.lns[i] with
  | sys l=>
   rw[e] at hw hok
   have hok:VOk l:=hok
   have hw:w0::ws=wSys::l.map (fun n=>[dg n]):=hw
   obtain⟨e1,e2⟩:=List.cons.inj hw
   exact s1 e1
  | prc m=>
   rw[e] at hw
   have hw:w0::ws=[wPrc,[dg m]]:=hw
   obtain⟨e1,e2⟩:=List.cons.inj hw
   exact p1 e1
  | edg ed=>
   rw[e] at hw
   have hw:w0::ws=[wEdg,[dg ed.frm],[dg ed.to],ed.guard.fmt,ed.asg,syn ed.sync]:=hw
   obtain⟨e1,e2⟩:=List.cons.inj hw
   exact p5 (by rw[e2];rfl)
 have p5i:(ws.length:Int)+1=6:=by omega
 by_cases p6:0<c.procs.length
 case neg=>
  have p6i:¬((0:Int)<c.procs.length):=by omega
  have p6z:c.procs.length=0:=by omega
  simp -implicitDefEqProofs (disch:=first|omega|(simp only[LnZ];omega))[wrap64,setC,hO1,hC1,hO2,hC2,hpl,hia0,hld0,hwlen,hml,p4t,p4u,hdf1,hdf2,p5,p5i,p6,p6i,p6z]
  refine RetK.keep (nil HW.base (hc.stop hil fun s hl hs hw hok hcc=>?_))
  rw[hws] at hw
  cases e:s.lns[i] with
  | sys l=>
   rw[e] at hw hok
   have hok:VOk l:=hok
   have hw:w0::ws=wSys::l.map (fun n=>[dg n]):=hw
   obtain⟨e1,e2⟩:=List.cons.inj hw
   exact s1 e1
  | prc m=>
   rw[e] at hw
   have hw:w0::ws=[wPrc,[dg m]]:=hw
   obtain⟨e1,e2⟩:=List.cons.inj hw
   exact p1 e1
  | edg ed=>
   rw[e] at hw
   have hw:w0::ws=[wEdg,[dg ed.frm],[dg ed.to],ed.guard.fmt,ed.asg,syn ed.sync]:=hw
   obtain⟨e1,e2⟩:=List.cons.inj hw
   have:=Sy.edg_at (psY_some hs).1 hl e
   rw[← hcc] at this
   exact p6 this
 have p6i:(0:Int)<c.procs.length:=by omega
 obtain⟨m,hm⟩:∃m,c.procs.length=m+1:=⟨c.procs.length-1,by omega⟩
 have hmi:m<c.procs.length:=by omega
 have hmm:(c.procs.length:Int)=(m:Int)+1:=by omega
 obtain⟨w1,w2,w3,w4,w5,rfl⟩:∃a b c d f,ws=[a,b,c,d,f]:=by
  match ws,p5 with
  | [a,b,c,d,f],_=>exact⟨a,b,c,d,f,rfl⟩
 have bw:=fun w (hw:w∈[w0,w1,w2,w3,w4,w5])=>hwm w hw
 have bw3:=bw w3 (by simp)
 have bw4:=bw w4 (by simp)
 simp -implicitDefEqProofs (disch:=first|omega|(simp only[LnZ];omega))[wrap64,setC,hO1,hC1,hO2,hC2,hpl,hia0,hld0,hwlen,hml,p4t,p4u,hdf1,hdf2,p6,p6i]
 refine (c_parseEdge HW.rep (by omega) (by omega) (GM.le HW.base)).go ?_
 rintro _ h4 ⟨ok,y,u2,rfl,H2,hy⟩
 obtain⟨wa,wb,rfl,oke,Ra,Rb⟩:=Rep_Ed.1 H2.rep
 have hOa:=Ra.one
 have hCa:=Ra.cells
 have hOb:=Rb.one
 have hCb:=Rb.cells
 have H:=H2.app HW
 cases ok with
 | false=>
  simp -implicitDefEqProofs (disch:=first|omega|(simp only[LnZ];omega))[wrap64,setC,hO1,hC1,hO2,hC2,Ed.cs,hOa,hCa,hOb,hCb]
  refine RetK.keep (nil H.base (hc.stop hil fun s hl hs hw hok hcc=>?_))
  rw[hws] at hw
  cases e:s.lns[i] with
  | sys l=>
   rw[e] at hw
   have hw:w0::[w1,w2,w3,w4,w5]=wSys::l.map (fun n=>[dg n]):=hw
   exact s1 (List.cons.inj hw).1
  | prc n=>
   rw[e] at hw
   have hw:w0::[w1,w2,w3,w4,w5]=[wPrc,[dg n]]:=hw
   exact p1 (List.cons.inj hw).1
  | edg ed=>
   rw[e] at hw hok
   obtain⟨n,hok⟩:=hok
   have:=(hy ed n hok hw).1
   simp at this
 | true=>
  have H:HS h [ow (.agg (y.cs wa wb).toArray) y,ow W ([w0,w1,w2,w3,w4,w5].map Tx),ow x1 c.init,ow x2 c.procs,ow L ((lnP t).map Tx)] h4:=H
  obtain⟨u,hu,H1⟩:=HS.take H.sw3 hmi
  obtain⟨we,rfl,kl,H1⟩:=H1.unPr
  have H1:HS h (ow we c.procs[m].edges::hole x2 c.procs m (.agg #[.int .i64 c.procs[m].locs,we])::ow (.agg (y.cs wa wb).toArray) y::ow W ([w0,w1,w2,w3,w4,w5].map Tx)::ow x1 c.init::ow L ((lnP t).map Tx)::[]) h4:=H1
  have hel:=hc.el c.procs[m] (List.getElem_mem hmi)
  have hiam:=HS.holeia H1.sw1 (n:=2) (kd:=.i64) rfl hmi
  have hP:=hld_parts (HS.holeP H1.sw1 (n:=2) rfl rfl)
  simp -implicitDefEqProofs (disch:=first|omega|(simp only[LnZ];omega))[wrap64,setC,hO1,hC1,hO2,hC2,hmm,hiam,hP.1,hP.2.2.1,Ed.cs,hOa,hCa,hOb,hCb]
  refine HS.appO (bytes:=112) (H1.sw2) rfl rfl rfl rfl rfl (by omega) (by omega) fun o' h5 H=>?_
  have hiam:=HS.holeia H.sw1 (n:=2) (kd:=.i64) rfl hmi
  have hP:=hld_parts (HS.holeP H.sw1 (n:=2) rfl rfl)
  have hO:=H.rep.one
  have hC:=H.rep.cells
  simp -implicitDefEqProofs (disch:=first|omega|(simp only[LnZ];omega))[wrap64,hmm,hiam,hP.1]
  refine HS.holest H.sw1 rfl (n:=2) rfl rfl rfl (by simp[hC]) (by simp[hC,hO]) (by decide) fun h6 H=>?_
  rw[hC] at H
  have H:HS h (hole x2 c.procs m (.agg ([.int .i64 c.procs[m].locs,o']:List Value).toArray)::ow o' (c.procs[m].edges++[y])::ow W ([w0,w1,w2,w3,w4,w5].map Tx)::ow x1 c.init::ow L ((lnP t).map Tx)::[]) h6:=H
  have H:=HS.put (HS.mkPr (p:=⟨c.procs[m].locs,c.procs[m].edges++[y]⟩) H.sw1 kl)
  simp -implicitDefEqProofs (disch:=omega)[wrap64]
  refine hJ _ _ hil ⟨⟨c.init,c.procs.set m ⟨c.procs[m].locs,c.procs[m].edges++[y]⟩⟩,x1,x2,by simp,H.sw2.under fun _ H=>H.under fun _ H=>H.drop,hstep ⟨c.init,c.procs.set m ⟨c.procs[m].locs,c.procs[m].edges++[y]⟩⟩ (by simp only[List.length_set];omega) (fun p hp=>?_) fun s hl hs hw hok _=>?_⟩
  ·rcases List.mem_or_eq_of_mem_set hp with hp | hp
   ·have:=hc.el p hp;omega
   ·rw[hp];simp;omega
  ·cases e:s.lns[i] with
   | sys l=>
    rw[e] at hw
    have hw:w0::[w1,w2,w3,w4,w5]=wSys::l.map (fun n=>[dg n]):=hw
    exact absurd (List.cons.inj hw).1 s1
   | prc n=>
    rw[e] at hw
    have hw:w0::[w1,w2,w3,w4,w5]=[wPrc,[dg n]]:=hw
    exact absurd (List.cons.inj hw).1 p1
   | edg ed=>
    rw[e] at hw hok
    obtain⟨n,hok⟩:=hok
    rw[(hy ed n hok hw).2]
    have e1:c.procs.length-1=m:=by omega
    have e2:c.procs.getD m ⟨0,[]⟩=c.procs[m]:=by rw[List.getD_eq_getElem?_getD,List.getElem?_eq_getElem hmi];rfl
    simp only[Sy.ap,e1,e2]
theorem cnt_okSy {s:Sy}(hs:s.Ok):Mk.cnt s≤4194304:=by
 have h1:Mk.cnt s.procs≤s.procs.length*1000:=cnt_mul_le fun p hp=>by
  have hpo:=hs.pr p hp
  have h2:Mk.cnt p.edges≤p.edges.length*100:=cnt_mul_le fun e he=>by
   have heo:=hpo.ed e he
   have g1:=heo.gd.sz
   have g2:=heo.vsz
   rw[sz_Exq] at g1 g2
   have g3:=cnt_ExprS' e.guard.kids
   have g4:=cnt_ExprS' e.value.kids
   rw[cnt_Ed];omega
  have h3:=hpo.el
  have h4:p.edges.length*100≤6*100:=Nat.mul_le_mul_right _ h3
  rw[cnt_Pr];omega
 have h3:=hs.p3
 have h4:s.procs.length*1000≤3*1000:=Nat.mul_le_mul_right _ h3
 have h5:=hs.vs.len
 rw[cnt_Sy,cnt_ints]
 omega
theorem bnd_ParseSystem {t:List UInt8}:Mk.cnt ((psY t).getD (⟨[],[]⟩:Sy))≤4194304:=by
 cases h:psY t with
 | none=>decide
 | some s=>exact cnt_okSy (psY_some h).1
set_option maxHeartbeats 4000000 in
theorem c_FnExactParseSystem {h:Heap}{v1:Value}{a1:ByteArray}(R1:Rep h v1 a1) (GM:Gm h) (GL:Gl h):CallE Tryz.prog fn_laws_FnExactParseSystem [v1] h (fun u h'=>h.le h'∧u=.bool true):=by
 have e1:v1=.string (Tx a1.data.toList):=by
  obtain⟨cs,e,hc⟩:=R1
  have hc:cs=[.string a1]:=hc
  subst hc
  exact e
 subst e1
 clear R1
 generalize a1.data.toList=t
 refine CallE.gen fun k hk=>EN_laws_FnExactParseSystem rfl ?_
 by_cases ht:(1048576:Int)<t.length
 ·simp -implicitDefEqProofs (disch:=first|omega|(simp only[LnZ];omega))[wrap64,ht]
  exact RetK.keep (hk _ _ ⟨Heap.le.refl _,rfl⟩)
 have hcy:=bnd_ParseSystem (t:=t)
 have hcw:=fun y:Sy=>Mk.cnt_wr 1 y
 simp -implicitDefEqProofs (disch:=first|omega|(simp only[LnZ];omega))[wrap64,ht]
 refine (c_spec_ParseSystem (by omega)).go ?_
 rintro _ m3 ⟨w0,rfl,H⟩
 have F5:=H.rep.aSy
 generalize hB:(psY t).isSome=B at *
 simp -implicitDefEqProofs (disch:=first|omega|(simp only[LnZ];omega))[wrap64,F5,setC]
 refine (c_ParseSystem (by omega) (GM.le H.base) (GL.le H.base)).go ?_
 rintro _ m6 ⟨g0,rfl,G⟩
 have H:=G.app H
 have F8:=H.rep.aSy
 rw[hB]
 simp -implicitDefEqProofs (disch:=first|omega|(simp only[LnZ];omega))[wrap64,F5,F8,setC]
 refine (c_eqSystem H.rep H.sw1.rep).go ?_
 rintro _ _ ⟨rfl,rfl⟩
 simp -implicitDefEqProofs (disch:=first|omega|(simp only[LnZ];omega))[wrap64,F5,F8]
 refine (c_markSystem (k0:=1) H (by omega) (by omega)).go ?_
 rintro _ m9 ⟨H,rfl⟩
 simp -implicitDefEqProofs (disch:=first|omega|(simp only[LnZ];omega))[wrap64,F5,F8]
 refine (c_heldSystem (k0:=1) H.rep (by omega) (by rw[hcw];omega)).go ?_
 rintro _ _ ⟨rfl,rfl⟩
 rw[if_pos (Mk.wr_wr 1 1 _),hcw]
 simp -implicitDefEqProofs (disch:=first|omega|(simp only[LnZ];omega))[wrap64,F5,F8]
 rw[IteW_neg (by omega)]
 simp -implicitDefEqProofs (disch:=first|omega|(simp only[LnZ];omega))[wrap64,F5,F8]
 refine (c_ParseSystem (by omega) (GM.le H.base) (GL.le H.base)).go ?_
 rintro _ m14 ⟨z0,rfl,G⟩
 have H:=G.app H
 have F14:=H.rep.aSy
 rw[hB]
 simp -implicitDefEqProofs (disch:=first|omega|(simp only[LnZ];omega))[wrap64,F5,F8,F14,setC]
 refine (c_eqSystem H.rep H.sw2.rep).go ?_
 rintro _ _ ⟨rfl,rfl⟩
 simp -implicitDefEqProofs (disch:=first|omega|(simp only[LnZ];omega))[wrap64,F5,F8,F14]
 refine (c_heldSystem (k0:=1) H.sw1.rep (by omega) (by rw[hcw];omega)).go ?_
 rintro _ _ ⟨rfl,rfl⟩
 rw[if_pos (Mk.wr_wr 1 1 _),hcw]
 simp -implicitDefEqProofs (disch:=first|omega|(simp only[LnZ];omega))[wrap64,F5,F8,F14]
 rw[IteW_neg (by omega)]
 simp -implicitDefEqProofs (disch:=first|omega|(simp only[LnZ];omega))[wrap64,F5,F8,F14]
 exact RetK.keep (hk _ _ ⟨H.base,rfl⟩)
end Go.Proofs.YtjbjnicobdpdhaaGreatDoor
