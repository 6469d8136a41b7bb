/-
  Texts of this proof, one behind the other.
-/
import Derived.Test.YtielhfonnleldaaGreatYF5
set_option linter.all false
set_option linter.unusedVariables false
set_option linter.unusedSimpArgs false
set_option linter.defProp false
set_option maxRecDepth 1000000
namespace Go.Proofs.YtielhfonnleldaaGreat
open Go
structure LpI (E:Nat→Nat→Prop) (n q:Nat) (B:List Bool) (Q:List Int) (i:Nat):Prop where
 len:B.length=n
 size:Q.length+2048*B.count false≤2048*(n+1)
 le:i≤Q.length
 snd:∀z∈Q,∃p:Nat,z=p∧p<n∧∃y,E q y∧Rch E y p
 start:∀y,E q y→(y:Int)∈Q
 seen:∀x,tru B x→∀y,E x y→(y:Int)∈Q
 past:∀j (hj:j<Q.length),j<i→Q[j]≠q∧tru B Q[j].toNat
theorem LpI.done {E:Nat→Nat→Prop}{n q:Nat}{B:List Bool}{Q:List Int}{i:Nat}(h:LpI E n q B Q i) (hi:Q.length≤i):¬Cyc E q:=by
 rintro⟨y,h1,h2⟩
 have hm:((q:Nat):Int)∈Q:=by
  refine h2.closed (C:=fun x=>(x:Int)∈Q) (fun u v hu huv=>?_) (h.start y h1)
  obtain⟨j,hj,h3⟩:=List.mem_iff_getElem.1 hu
  have h4:=(h.past j hj (by omega)).2
  rw[h3] at h4
  exact h.seen u h4 v huv
 obtain⟨j,hj,h3⟩:=List.mem_iff_getElem.1 hm
 exact (h.past j hj (by omega)).1 h3
theorem c_l7Loop {h:Heap}{w:Value}{G:List (List Int)}{E:Nat→Nat→Prop}(Rw:Rep h w G) (hG:Adj E G) (hrow:∀x (hx:x<G.length),G[x].length≤2048) (hGl:G.length≤1048576) {q:Nat}(hq:q<G.length) :
  CallE Tryz.prog fn_spec_l7Loop [w,.int .i64 q] h (fun u h'=>h.le h'∧∃r:Bool,u=.bool r∧(r=true↔Cyc E q)):=by
 refine CallE.gen fun k hk=>EN_spec_l7Loop rfl ?_
 obtain⟨u,hu0,Ru⟩:=Rw.ldL hq
 have hul:=hrow q hq
 simp -implicitDefEqProofs (disch:=omega)[wrap64]
 refine wp_count G[q].length (fun i e h'=>e=[some w,some (.int .i64 q),none,some (.int .i64 i),none,none,none,none]∧h'=h∧∀(j:Nat) (hj:j<G[q].length),j<i→G[q][j]≠q) ⟨rfl,rfl,fun j _ hj=>absurd hj (Nat.not_lt_zero j)⟩ ?_
 rintro J i _ h hJ hi ⟨rfl,rfl,hn⟩
 simp -implicitDefEqProofs (disch:=first|omega|(simp only[LnZ];omega))[wrap64,Rw.X (n:=1) rfl,hu0,Ru.I]
 refine IteW.mk (fun hlt=>?_) (fun hge=>?_)
 ·have hlx:i<G[q].length:=by omega
  simp -implicitDefEqProofs (disch:=first|omega|(simp only[LnZ];omega))[wrap64,Rw.X (n:=1) rfl,hu0,Ru.I]
  refine IteW.mk (fun he=>?_) (fun he=>?_)
  ·simp -implicitDefEqProofs (disch:=omega)[wrap64]
   refine RetK.keep (hk _ _ ⟨Heap.le.refl _,true,rfl,?_⟩)
   simp only[true_iff]
   obtain⟨y,h1,h2,_⟩:=hG.get hq hlx
   obtain rfl:y=q:=by rw[he] at h1;omega
   exact⟨y,h2,.refl _⟩
  ·simp -implicitDefEqProofs (disch:=omega)[wrap64]
   refine hJ _ _ hlx ⟨rfl,rfl,fun j hj hji=>?_⟩
   by_cases hji2:j=i
   ·subst hji2;exact he
   ·exact hn j hj (by omega)
 clear hn
 simp -implicitDefEqProofs (disch:=first|omega|(simp only[LnZ];omega))[wrap64,Rw.len]
 refine HS.init.mks (α:=Bool) (z:=false) rfl rfl own_false (Nat.le_refl _) (by omega) (by omega) fun b h1 H=>?_
 have hu:=hload_le H.base hu0
 simp -implicitDefEqProofs (disch:=first|omega|(simp only[LnZ];omega))[wrap64,(Rw.on H).X (n:=1) rfl,hu]
 refine H.appPL (α:=Int) (l2:=G[q]) rfl rfl (Ru.on H) rfl rfl (by omega) fun t h2 H=>?_
 simp -implicitDefEqProofs (disch:=omega)[wrap64]
 have hmem:=hG.mem q hq
 have hI:LpI E G.length q (List.replicate G.length false) G[q] 0:=by
  refine⟨by simp,by simp;omega,by omega,fun z hz=>?_,fun y hy=>(hmem y).2 ⟨y,rfl,hy⟩,fun x hx=>absurd hx tru_replicate,fun j _ hj=>absurd hj (Nat.not_lt_zero j)⟩
  obtain⟨y,rfl,h2⟩:=(hmem z).1 hz
  exact⟨y,rfl,(hG.lt _ _ h2).2,y,h2,.refl _⟩
 refine wp_while (σ:=List Bool×List Int×Nat) (fun s e h'=>∃t,e=[some w,some (.int .i64 q),none,none,some b,some t,some (.int .i64 s.2.2),none] ∧
   HS h [ow t s.2.1,ow b s.1] h'∧LpI E G.length q s.1 s.2.1 s.2.2) (fun s=>s.1.count false*2049+(s.2.1.length-s.2.2)) (List.replicate G.length false,G[q],0) ⟨t,by simp,H,hI⟩ ?_
 rintro J2 ⟨B,Q,i⟩ _ h3 hJ2 ⟨t,rfl,H,hI⟩
 dsimp only at H hI
 have hsz:=hI.size
 have hle:=hI.le
 have hBl:=hI.len
 simp -implicitDefEqProofs (disch:=first|omega|(simp only[LnZ];omega))[wrap64,H.rep.len]
 refine IteW.mkr (fun h0=>?_) (fun h0=>?_)
 ·simp -implicitDefEqProofs (disch:=omega)[wrap64]
  exact RetK.keep (hk _ _ ⟨H.base,false,rfl,by simpa using hI.done (by omega)⟩)
 have hiQ:i<Q.length:=by omega
 obtain⟨p,hp,hpn,y,hy1,hy2⟩:=hI.snd _ (List.getElem_mem hiQ)
 by_cases hpq:p=q
 ·have hp2:Q[i]=(q:Int):=by rw[hp,hpq]
  simp -implicitDefEqProofs (disch:=first|omega|(simp only[LnZ];omega))[wrap64,H.rep.I,hp2]
  refine RetK.keep (hk _ _ ⟨H.base,true,rfl,?_⟩)
  simp only[true_iff]
  exact⟨y,hy1,hpq▸hy2⟩
 have hpq2:¬((p:Int)=q):=by omega
 have H:=H.sw1
 have hpB:p<B.length:=by omega
 have hpast:∀(B':List Bool) (W:List Int),(∀x,tru B x→tru B' x)→tru B' p→∀j (hj:j<(Q++W).length),j<i+1→(Q++W)[j]≠q∧tru B' (Q++W)[j].toNat:=by
  intro B' W h1 h2 j hj hji
  have hjQ:j<Q.length:=by omega
  rw[List.getElem_append_left hjQ]
  by_cases e:j=i
  ·subst e
   rw[hp]
   exact⟨hpq2,by simpa using h2⟩
  ·have:=hI.past j hjQ (by omega)
   exact⟨this.1,h1 _ this.2⟩
 by_cases hb:B[p]=true
 ·simp -implicitDefEqProofs (disch:=first|omega|(simp only[LnZ];omega))[wrap64,H.sw1.rep.I,hp,hpq2,H.rep.B,hb]
  refine hJ2 (B,Q,i+1) _ _ ?_ ⟨t,rfl,H.sw1,hI.len,hsz,by dsimp only;omega,hI.snd,hI.start,hI.seen,?_⟩
  ·dsimp only;omega
  ·dsimp only
   have:=hpast B [] (fun _ h=>h) ((tru_get hpB).2 hb)
   simpa using this
 ·have hb':B[p]=false:=by simpa using hb
  obtain⟨v,hv0,Rv⟩:=Rw.ldL hpn
  have hrp:=hrow p hpn
  have hcs:=count_set hpB hb'
  simp -implicitDefEqProofs (disch:=first|omega|(simp only[LnZ];omega))[wrap64,H.sw1.rep.I,hp,hpq2,H.rep.B,hb']
  refine H.storeF true (i:=p) hpB rfl rfl trivial rfl fun h4 H=>?_
  have hv:=hload_le H.base hv0
  simp -implicitDefEqProofs (disch:=first|omega|(simp only[LnZ];omega))[wrap64,(Rw.on H).X (n:=1) rfl,hv]
  refine H.sw1.appL rfl rfl (Rv.on H) rfl rfl (by omega) (by omega) fun t3 h5 H=>?_
  simp -implicitDefEqProofs (disch:=omega)[wrap64]
  have hmp:=hG.mem p hpn
  refine hJ2 (B.set p true,Q++G[p],i+1) _ _ ?_ ⟨t3,rfl,H,by simpa using hI.len,by simp;omega,by simp;omega,?_,?_,?_,hpast _ _ (fun x hx=>(tru_set hpB).2 (.inl hx)) ((tru_set hpB).2 (.inr rfl))⟩
  ·simp;omega
  ·intro z hz
   rcases List.mem_append.1 hz with hz | hz
   ·exact hI.snd z hz
   ·obtain⟨y',rfl,h2⟩:=(hmp z).1 hz
    exact⟨y',rfl,(hG.lt _ _ h2).2,y,hy1,hy2.snoc h2⟩
  ·intro y' hy'
   exact List.mem_append_left _ (hI.start y' hy')
  ·intro x hx y' hxy
   rcases (tru_set hpB).1 hx with hx | rfl
   ·exact List.mem_append_left _ (hI.seen x hx y' hxy)
   ·exact List.mem_append_right _ ((hmp _).2 ⟨y',rfl,hxy⟩)
theorem ok_one {n:Int}(h:-9223372036854775808≤n∧n<9223372036854775808):∀x∈[n],Flat.ok x:=by
 intro x hx
 obtain rfl:x=n:=by simpa using hx
 exact h
theorem c_spec_LiveStates {h:Heap}{v:Value}{a:Aut}(Ra:Rep h v a) (ha:a.Ok):CallE Tryz.prog fn_spec_LiveStates [v] h (fun u h'=>∃L:List Bool,HS h [ow u L] h'∧L.length=a.acc.length∧∀q,tru L q↔q<a.acc.length∧a.Live q):=by
 obtain⟨v1,v2,v3,rfl,R1,R2,R3⟩:=Rep_Aut.1 Ra
 refine CallE.gen fun k hk=>EN_spec_LiveStates rfl ?_
 have hn:=ha.n
 simp -implicitDefEqProofs (disch:=omega)[wrap64]
 refine HS.init.bls0 Bool fun o h1 H=>?_
 simp -implicitDefEqProofs (disch:=omega)[wrap64]
 refine (c_spec_AutomatonValid (Ra.on H)).go ?_
 rintro _ h1 ⟨rfl,rfl⟩
 simp -implicitDefEqProofs (disch:=first|omega|(simp only[LnZ];omega))[wrap64,ha]
 refine (c_l7Next (Ra.on H) ha).go ?_
 rintro w h2 ⟨G,H2,hG,hGl,hrow⟩
 have H:=H2.app H
 have H:=H.sw1
 simp -implicitDefEqProofs (disch:=omega)[wrap64]
 refine wp_count a.acc.length (fun i e h'=>∃(o:Value) (L:List Bool),e=[none,some (.agg #[v1,v2,v3]),none,some o,some w,some (.int .i64 i),none,none,none]∧HS h [ow o L,ow w G] h'∧L.length=i∧∀q,tru L q↔q<i∧a.Live q) ⟨o,[],by simp,H,rfl,fun q=>by simp[tru]⟩ ?_
 rintro J i _ h3 hJ hi ⟨o,L,rfl,H,hLl,hL⟩
 simp -implicitDefEqProofs (disch:=first|omega|(simp only[LnZ];omega))[wrap64,(R2.on H).len]
 refine IteW.mk (fun hlt=>?_) (fun hge=>?_)
 ·have hin:i<a.acc.length:=by omega
  simp -implicitDefEqProofs (disch:=omega)[wrap64]
  refine H.bls (α:=Int) [(i:Int)] (by rfl) rfl (ok_one (by omega)) (by decide) fun s h4 H=>?_
  simp -implicitDefEqProofs (disch:=omega)[wrap64]
  have hS1:∀z∈[(i:Int)],0≤z∧z<(G.length:Int):=by
   intro z hz
   have hxi:z=i:=by simpa using hz
   omega
  refine (c_l7Reach (S:=[(i:Int)]) H.sw2.rep H.rep hG hS1 (by omega)).go ?_
  rintro qv h5 ⟨Q,H5,hQl,hQn,hQ⟩
  have H:=H5.app H.drop
  simp -implicitDefEqProofs (disch:=omega)[wrap64]
  refine wp_count Q.length (fun k e h'=>∃(r:Bool),e=[none,some (.agg #[v1,v2,v3]),none,some o,some w,some (.int .i64 i),some qv,some (.bool r),some (.int .i64 k)]∧HS h [ow qv Q,ow o L,ow w G] h'∧(r=true→a.Live i)∧∀j (hj:j<Q.length),j<k→r=false→¬(tru a.acc Q[j].toNat∧Cyc a.E Q[j].toNat)) ⟨false,by simp,H,by simp,fun j _ hj=>absurd hj (Nat.not_lt_zero j)⟩ ?_
  rintro J2 k _ h6 hJ2 hk2 ⟨r,rfl,H,hr1,hr2⟩
  simp -implicitDefEqProofs (disch:=first|omega|(simp only[LnZ];omega))[wrap64,H.rep.len]
  by_cases hx:k<Q.length∧r=false
  ·obtain⟨hkl,rfl⟩:=hx
   obtain⟨hz0,hz1⟩:=hQn _ (List.getElem_mem hkl)
   obtain⟨z,hz⟩:∃z:Nat,Q[k]=z:=⟨Q[k].toNat,by omega⟩
   have hzG:z<G.length:=by omega
   have hzr:Rch a.E i z:=by
    have h1:((z:Nat):Int)∈Q:=by rw[← hz];exact List.getElem_mem hkl
    obtain⟨i',h2,h3⟩:=(hQ z).1 h1
    obtain rfl:i'=i:=by simpa[Int.ofNat_inj] using h2
    exact h3
   have hnext:∀r':Bool,(r'=true↔tru a.acc z∧Cyc a.E z)→(r'=true→a.Live i)∧∀j (hj:j<Q.length),j<k+1→r'=false→¬(tru a.acc Q[j].toNat∧Cyc a.E Q[j].toNat):=by
    intro r' hr'
    refine⟨fun h=>⟨z,hzr,(hr'.1 h).2,(hr'.1 h).1⟩,fun j hj hjk hf=>?_⟩
    by_cases e:j=k
    ·subst e
     rw[hz]
     intro hh
     have:=hr'.2 (by simpa using hh)
     rw[hf] at this;simp at this
    ·exact hr2 j hj (by omega) rfl
   by_cases hac:tru a.acc z
   ·have hac2:=(tru_get (by omega:z<a.acc.length)).1 hac
    simp -implicitDefEqProofs (disch:=first|omega|(simp only[LnZ];omega))[wrap64,hkl,H.rep.I,hz,(R2.on H).B,hac2]
    refine (c_l7Loop H.sw2.rep hG hrow (by omega) hzG).go ?_
    rintro _ h7 ⟨l7,r',rfl,hr'⟩
    have H:=H.le l7
    simp -implicitDefEqProofs (disch:=omega)[wrap64]
    have h8:=hnext r' (by rw[hr'];simp[hac])
    exact hJ2 _ _ hkl ⟨r',by simp,H,h8.1,h8.2⟩
   ·have hac2:a.acc[z]'(by omega)=false:=by
     have:=mt (tru_get (by omega:z<a.acc.length)).2 hac
     simpa using this
    simp -implicitDefEqProofs (disch:=first|omega|(simp only[LnZ];omega))[wrap64,hkl,H.rep.I,hz,(R2.on H).B,hac2]
    have h8:=hnext false (by simp[hac])
    exact hJ2 _ _ hkl ⟨false,by simp,H,h8.1,h8.2⟩
  ·have hfin:r=true↔a.Live i:=by
    refine⟨hr1,fun ⟨t,h1,h2,h3⟩=>?_⟩
    cases r with
    | true=>rfl
    | false=>
     exfalso
     have hkl:¬k<Q.length:=fun h=>hx ⟨h,rfl⟩
     have hm:((t:Nat):Int)∈Q:=(hQ t).2 ⟨i,by simp,h1⟩
     obtain⟨j,hj,h4⟩:=List.mem_iff_getElem.1 hm
     refine hr2 j hj (by omega) rfl ?_
     rw[h4]
     exact⟨by simpa using h3,by simpa using h2⟩
   have hstep:∀q,tru (L++[r]) q↔q<i+1∧a.Live q:=by
    intro q
    by_cases e:q=i
    ·subst e
     rw[← hfin]
     simp[tru,← hLl]
    ·have h1:tru (L++[r]) q↔tru L q:=by
      simp only[tru,List.getD_eq_getElem?_getD]
      by_cases h2:q<L.length
      ·rw[List.getElem?_append_left h2]
      ·rw[List.getElem?_eq_none (by simp;omega),List.getElem?_eq_none (by omega)]
     rw[h1,hL]
     constructor
     ·rintro⟨h2,h3⟩;exact⟨by omega,h3⟩
     ·rintro⟨h2,h3⟩;exact⟨by omega,h3⟩
   have hcase:(¬k<Q.length)∨(k<Q.length∧r=true):=by
    by_cases hkl:k<Q.length
    ·exact .inr ⟨hkl,by cases r with | true=>rfl | false=>exact absurd ⟨hkl,rfl⟩ hx⟩
    ·exact .inl hkl
   have H:=H.drop
   rcases hcase with hkl | ⟨hkl,rfl⟩
   ·simp -implicitDefEqProofs (disch:=first|omega|(simp only[LnZ];omega))[wrap64,hkl]
    refine H.app1 r rfl rfl rfl trivial rfl rfl (by omega) (by omega) fun o' h7 H=>?_
    simp -implicitDefEqProofs (disch:=omega)[wrap64]
    exact hJ _ _ hin ⟨o',_,by simp,H,by simp[hLl],hstep⟩
   ·simp -implicitDefEqProofs (disch:=first|omega|(simp only[LnZ];omega))[wrap64,hkl]
    refine H.app1 true rfl rfl rfl trivial rfl rfl (by omega) (by omega) fun o' h7 H=>?_
    simp -implicitDefEqProofs (disch:=omega)[wrap64]
    exact hJ _ _ hin ⟨o',_,by simp,H,by simp[hLl],hstep⟩
 ·simp -implicitDefEqProofs (disch:=omega)[wrap64]
  have hia:i=a.acc.length:=by omega
  exact RetK.keep (hk _ _ ⟨L,H.sw1.drop,by omega,fun q=>by rw[hL,hia]⟩)
def gd (l:List Int):Nat→Int:=fun x=>l.getD x 0
theorem gd_get {l:List Int}{i:Nat}(hi:i<l.length):gd l i=l[i]:=by simp[gd,hi]
theorem gd_set {l:List Int}{i:Nat}{v:Int}(hi:i<l.length):gd (l.set i v)=fput (gd l) i v:=by
 funext x
 simp only[gd,fput,List.getD_eq_getElem?_getD,List.getElem?_set]
 by_cases h:i=x
 ·subst h;simp[hi]
 ·simp[h,Ne.symm h]
theorem ite_min {a b:Int}:(if b<a then b else a)=min a b:=by
 split<;>omega
def unv (n:Nat) (f:Nat→Int):Nat:=((List.range n).filter fun x=>decide (x<n∧f x=0)).length
theorem unv_lt {n:Nat}{f f':Nat→Int}{a:Nat}(ha:a<n) (h0:f a=0) (h1:f' a≠0) (h:∀x,x<n→f x≠0→f' x≠0):unv n f'<unv n f:=by
 refine filter_lt_of ?_ ⟨a,by simpa using ha,by simp[h1],by simp[h0,ha]⟩
 intro x hx2
 simp at hx2 ⊢
 exact⟨hx2.1,Classical.byContradiction fun hn=>h x hx2.1 hn hx2.2⟩
@[reducible] def FB (bN bL bQ bG bV:Nat) (vn vl vq w fv:Value) (h:Heap):Prop:=hload h (some (.pointer (some ⟨bN,0,none⟩))) none=some vn∧hload h (some (.pointer (some ⟨bL,0,none⟩))) none=some vl∧hload h (some (.pointer (some ⟨bQ,0,none⟩))) none=some vq ∧
 hload h (some (.pointer (some ⟨bG,0,none⟩))) none=some w∧hload h (some (.pointer (some ⟨bV,0,none⟩))) none=some fv
theorem FB.on {bN bL bQ bG bV:Nat}{vn vl vq w fv:Value}{g h:Heap}{Γ:List HP}(F:FB bN bL bQ bG bV vn vl vq w fv g) (H:HS g Γ h):FB bN bL bQ bG bV vn vl vq w fv h:=
 ⟨hload_le H.base F.1,hload_le H.base F.2.1,hload_le H.base F.2.2.1,hload_le H.base F.2.2.2.1,hload_le H.base F.2.2.2.2⟩
@[reducible] def CHs (vn vl vq:Value) (bS bC bP:Nat) (vs:Value) (N L Q:List Int) (s:TS):List HP:=
 [ow vn N,ow vl L,ow vq Q,ow vs (s.stk.map Int.ofNat),bx bS [vs],bx bC [.int .i64 s.cnt],bx bP [.int .i64 s.prt]]
structure CHl (n:Nat) (N L Q:List Int) (s:TS):Prop where
 hN:N.length=n
 hL:L.length=n
 hQ:Q.length=n
 num:s.num=gd N
 low:s.low=gd L
 part:s.part=gd Q
 cnt:s.cnt+unv n s.num≤n
def CH (g:Heap) (vn vl vq:Value) (bS bC bP n:Nat) (s:TS) (h:Heap):Prop:=∃(N L Q:List Int) (vs:Value),CHl n N L Q s∧HS g (CHs vn vl vq bS bC bP vs N L Q s) h
theorem TL.mono {n:Nat}{E:Nat→Nat→Prop}{gr sc sc':Nat→Prop}{s s1:TS}{a:Nat}(h:TL n E gr s a sc s1) (hs:∀y,sc' y→sc y):TL n E gr s a sc' s1:=
 ⟨h.inv,h.num,h.part,h.stk,h.na,h.cnt,h.fresh,h.black,h.lowa,h.low,h.min,fun y hy=>h.proc y (hs y hy)⟩
def topv (C:List Nat) (m:Nat):Int:=if h:m<C.length then (C[m]:Int) else -1
set_option maxHeartbeats 4000000 in
theorem c_visit {g:Heap}{bN bL bQ bG bV bS bC bP n:Nat}{vn vl vq w fv:Value}{G:List (List Int)}{E:Nat→Nat→Prop}(F:FB bN bL bQ bG bV vn vl vq w fv g) (Rw:Rep g w G) (hG:Adj E G) (hn:G.length=n) (hnl:n≤1048576)
  (hfv:fnOf fv=some (fn_impl_components_1,[],[.pointer (some ⟨bC,0,none⟩),.pointer (some ⟨bN,0,none⟩),.pointer (some ⟨bL,0,none⟩),.pointer (some ⟨bS,0,none⟩),.pointer (some ⟨bG,0,none⟩),.pointer (some ⟨bV,0,none⟩),.pointer (some ⟨bQ,0,none⟩),.pointer (some ⟨bP,0,none⟩)])) :
  ∀(m:Nat) (gr:Nat→Prop) (s:TS) (a:Nat) (h:Heap),unv n s.num=m→CH g vn vl vq bS bC bP n s h→TI n E gr s→a<n→s.num a=0→(∀g,gr g→g∈s.stk→Rch E g a)→(∀g,gr g→g<n∧s.num g≠0) →
  CallE Tryz.prog fn_impl_components_1 [.int .i64 a,.pointer (some ⟨bC,0,none⟩),.pointer (some ⟨bN,0,none⟩),.pointer (some ⟨bL,0,none⟩),.pointer (some ⟨bS,0,none⟩),.pointer (some ⟨bG,0,none⟩),.pointer (some ⟨bV,0,none⟩),.pointer (some ⟨bQ,0,none⟩),.pointer (some ⟨bP,0,none⟩)] h
   (fun u h'=>∃s',CH g vn vl vq bS bC bP n s' h'∧TV n E gr s a s'):=by
 intro m
 induction m using Nat.strongRecOn with
 | ind m ih=>
 rintro gr s a h hm ⟨N,L,Q,vs,hl,H⟩ hI han ha0 hg1 hg2
 have hE:∀x y,E x y→x<n∧y<n:=fun x y hxy=>hn▸hG.lt x y hxy
 have hc:=hI.cnt
 have hcn:=hl.cnt
 have hNl:=hl.hN
 have hLl:=hl.hL
 have hQl:=hl.hQ
 have haG:a<G.length:=by omega
 obtain⟨u,hu0,Ru⟩:=Rw.ldL haG
 have hul:=Ru.lt
 refine CallE.gen fun k hk=>EN_impl_components_1 rfl ?_
 simp -implicitDefEqProofs (disch:=first|omega|(simp only[LnZ];omega))[wrap64,H.sw5.bxld0]
 refine H.sw5.bxst (u:=.int .i64 (s.cnt+1)) rfl rfl rfl rfl (by simp) fun h1 H=>?_
 simp only[setC,cells_int,List.take_zero,List.nil_append] at H
 have H:HS g (bx bC [.int .i64 (s.cnt+1)]::ow vn N::ow vl L::ow vq Q::ow vs (s.stk.map Int.ofNat)::bx bS [vs]::[bx bP [.int .i64 s.prt]]) h1:=H
 have H:=H.bk5
 simp -implicitDefEqProofs (disch:=first|omega|(simp only[LnZ];omega))[wrap64,F.on H,H.sw5.bxld0,H.rep.I]
 refine H.storeF (s.cnt+1) (i:=a) (by omega) rfl rfl ⟨by omega,by omega⟩ rfl fun h2 H=>?_
 have H:=H.sw1
 simp -implicitDefEqProofs (disch:=first|omega|(simp only[LnZ];omega))[wrap64,F.on H,H.sw5.bxld0,H.rep.I]
 refine H.storeF (s.cnt+1) (i:=a) (by omega) rfl rfl ⟨by omega,by omega⟩ rfl fun h3 H=>?_
 have H:=H.sw1
 simp -implicitDefEqProofs (disch:=first|omega|(simp only[LnZ];omega))[wrap64,F.on H,H.sw4.bxld0]
 refine H.sw3.app1 (a:Int) rfl rfl rfl ⟨by omega,by omega⟩ rfl rfl (by simp;omega) (by simp;omega) fun vs1 h4 H=>?_
 have H:=H.bk3
 simp -implicitDefEqProofs (disch:=first|omega|(simp only[LnZ];omega))[wrap64,F.on H]
 refine H.sw4.bxst (u:=vs1) rfl rfl (by rw[H.sw3.rep.cells];rfl) (by rw[H.sw3.rep.cells];simp[H.sw3.rep.one]) (by simp[H.sw3.rep.cells]) fun h5 H=>?_
 have H:HS g [ow vn (N.set a (s.cnt+1)),ow vl (L.set a (s.cnt+1)),ow vq Q,ow vs1 ((s.push a).stk.map Int.ofNat),bx bS [vs1],bx bC [.int .i64 (s.cnt+1)],bx bP [.int .i64 s.prt]] h5:=by
  simpa[setC,H.sw4.rep.cells,TS.push] using H.bk4
 have hl1:CHl n (N.set a (s.cnt+1)) (L.set a (s.cnt+1)) Q (s.push a):=by
  refine⟨by simpa using hNl,by simpa using hLl,hQl,by rw[gd_set (by omega),← hl.num];rfl,by rw[gd_set (by omega),← hl.low];rfl,hl.part,?_⟩
  have h1:unv n (s.push a).num<unv n s.num:=by
   refine unv_lt han ha0 (by simp[TS.push];omega) fun x hx hx0=>?_
   by_cases e:x=a
   ·exact absurd ha0 (e▸hx0)
   ·simp only[TS.push,fput_ne e];exact hx0
  show s.cnt+1+(unv n (s.push a).num:Int)≤n
  omega
 have hT:=TL.start hE hI han ha0 hg1
 simp -implicitDefEqProofs (disch:=first|omega|(simp only[LnZ];omega))[wrap64,F.on H,(Rw.on H).X (n:=1) rfl,hload_le H.base hu0,Ru.len]
 refine wp_count G[a].length (fun j e h'=>e=[some (.int .i64 a),none,some (.pointer (some ⟨bN,0,none⟩)),some (.pointer (some ⟨bL,0,none⟩)),some (.pointer (some ⟨bS,0,none⟩)),none,some (.pointer (some ⟨bV,0,none⟩)),some (.pointer (some ⟨bQ,0,none⟩)),some (.pointer (some ⟨bP,0,none⟩)),none,none,some u,some (.int .i64 G[a].length),some (.int .i64 j)] ∧
  ∃s1,CH g vn vl vq bS bC bP n s1 h'∧TL n E gr s a (fun y=>∃(j':Nat) (hj':j'<G[a].length),j'<j∧G[a][j']=y) s1) ⟨by simp,_,⟨_,_,_,_,hl1,H⟩,hT.mono fun y ⟨_,_,h0,_⟩=>absurd h0 (Nat.not_lt_zero _)⟩ ?_
 clear hl1 hT H hl
 rintro J j _ h6 hJ hj ⟨rfl,s1,⟨N,L,Q,vs,hl,H⟩,hT⟩
 have hNl:=hl.hN
 have hLl:=hl.hL
 have hQl:=hl.hQ
 simp -implicitDefEqProofs (disch:=omega)[wrap64]
 refine IteW.mk (fun hlt=>?_) (fun hge=>?_)
 ·have hjl:j<G[a].length:=by omega
  obtain⟨y,hy,hxy,hyG⟩:=hG.get haG hjl
  have hyn:y<n:=by omega
  have hsc:∀z:Nat,(∃(j':Nat) (hj':j'<G[a].length),j'<j+1∧G[a][j']=z)→(∃(j':Nat) (hj':j'<G[a].length),j'<j∧G[a][j']=z)∨z=y:=by
   rintro z ⟨j',hj',h1,h2⟩
   by_cases e:j'=j
   ·subst e;exact .inr (by omega)
   ·exact .inl ⟨j',hj',by omega,h2⟩
  have hNy:s1.num y=N[y]'(by omega):=by rw[hl.num,gd_get]
  have hQy:s1.part y=Q[y]'(by omega):=by rw[hl.part,gd_get]
  have hLa:s1.low a=L[a]'(by omega):=by rw[hl.low,gd_get]
  by_cases hy0:N[y]'(by omega)=0
  ·have hy0':s1.num y=0:=by rw[hNy,hy0]
   have hgray:=hT.gray hxy hI hg2 han
   have hlt2:unv n s1.num<m:=by
    rw[← hm]
    refine unv_lt han ha0 (by rw[hT.na];omega) fun x hx hx0=>?_
    rw[(hT.num x hx hx0).1];exact hx0
   simp -implicitDefEqProofs (disch:=first|omega|(simp only[LnZ];omega))[wrap64,(Ru.on H).I,hy,F.on H,H.rep.I,hy0,hfv]
   refine (ih (unv n s1.num) hlt2 _ s1 y _ rfl ⟨N,L,Q,vs,hl,H⟩ hT.inv hyn hy0' hgray.1 hgray.2.1).go ?_
   clear H hl hNy hQy hLa
   rintro u' h7 ⟨s2,⟨N2,L2,Q2,vs2,hl,H⟩,hV⟩
   have hLl2:=hl.hL
   have hLa:L2[a]'(by omega)=s2.low a:=by rw[hl.low,gd_get]
   have hLy:L2[y]'(by omega)=s2.low y:=by rw[hl.low,gd_get]
   have H:=H.sw1
   have hla:=H.rep.okI (i:=a) (by omega)
   have hly:=H.rep.okI (i:=y) (by omega)
   simp -implicitDefEqProofs (disch:=first|omega|(simp only[LnZ];omega))[wrap64,F.on H,H.rep.I,ite_min]
   refine H.storeF (min (L2[a]'(by omega)) (L2[y]'(by omega))) (i:=a) (by omega) rfl rfl ⟨by omega,by omega⟩ rfl fun h8 H=>?_
   simp -implicitDefEqProofs (disch:=omega)[wrap64]
   refine hJ _ _ hjl ⟨rfl,s2.lower a (s2.low y),⟨N2,L2.set a (min (L2[a]'(by omega)) (L2[y]'(by omega))),Q2,vs2,⟨hl.hN,by simpa using hLl2,hl.hQ,hl.num,?_,hl.part,hl.cnt⟩,H.sw1⟩,(hT.visit hxy hE ha0 hI hy0' hV).mono hsc⟩
   rw[gd_set (by omega),← hl.low,hLa,hLy]
   rfl
  ·have hy0':s1.num y≠0:=by rw[hNy];exact hy0
   by_cases hp:Q[y]'(by omega)<0
   ·have hl2:(L[a]'(by omega))=s1.low a:=hLa.symm
    have H1:=H.sw1
    have hla:=H1.rep.okI (i:=a) (by omega)
    have hny:=H.rep.okI (i:=y) (by omega)
    simp -implicitDefEqProofs (disch:=first|omega|(simp only[LnZ];omega))[wrap64,(Ru.on H).I,hy,F.on H,H.rep.I,hy0,H.sw2.rep.I,hp,H.sw1.rep.I,ite_min]
    refine H1.storeF (min (L[a]'(by omega)) (N[y]'(by omega))) (i:=a) (by omega) rfl rfl ⟨by omega,by omega⟩ rfl fun h8 H=>?_
    simp -implicitDefEqProofs (disch:=omega)[wrap64]
    refine hJ _ _ hjl ⟨rfl,s1.lower a (s1.num y),⟨N,L.set a (min (L[a]'(by omega)) (N[y]'(by omega))),Q,vs,⟨hl.hN,by simpa using hLl,hl.hQ,hl.num,?_,hl.part,hl.cnt⟩,H.sw1⟩,(hT.seen hxy hE ha0 hI hy0' (by rw[hQy];exact hp)).mono hsc⟩
    rw[gd_set (by omega),← hl.low,hl2,← hNy]
    rfl
   ·simp -implicitDefEqProofs (disch:=first|omega|(simp only[LnZ];omega))[wrap64,(Ru.on H).I,hy,F.on H,H.rep.I,hy0,H.sw2.rep.I,hp]
    exact hJ _ _ hjl ⟨rfl,s1,⟨N,L,Q,vs,hl,H⟩,(hT.skip hI hyn hy0' (by rw[hQy];omega)).mono hsc⟩
 have hall:∀y,E a y→∃(j':Nat) (hj':j'<G[a].length),j'<j∧G[a][j']=y:=by
  intro y hxy
  obtain⟨_,j',hj',h1⟩:=hG.of hxy
  exact⟨j',hj',by omega,h1⟩
 have hLa:s1.low a=L[a]'(by omega):=by rw[hl.low,gd_get]
 have hNa:s1.num a=N[a]'(by omega):=by rw[hl.num,gd_get]
 have hc1:=hT.inv.cnt
 by_cases he:L[a]'(by omega)=N[a]'(by omega)
 case neg=>
  simp -implicitDefEqProofs (disch:=first|omega|(simp only[LnZ];omega))[wrap64,F.on H,H.rep.I,H.sw1.rep.I,he]
  exact RetK.keep (hk _ _ ⟨s1,⟨N,L,Q,vs,hl,H⟩,hT.end1 hall han ha0 hI (by rw[hLa,hNa];exact he)⟩)
 obtain⟨wl,hw,hw2⟩:=hT.stk
 have hlen:s1.stk.length=s.stk.length+(a::wl).length:=by rw[hw];simp
 have hcl:s1.cnt≤n:=by have:=hl.cnt;omega
 have hpr:∀x∈a::wl,x<n:=fun x hx=>hT.inv.stk_lt (by rw[hw];exact List.mem_append_right _ hx)
 simp -implicitDefEqProofs (disch:=first|omega|(simp only[LnZ];omega))[wrap64,F.on H,H.rep.I,H.sw1.rep.I,he]
 refine wp_while (σ:=Nat) (fun m e h'=>m≤(a::wl).length∧e=[some (.int .i64 a),none,none,none,some (.pointer (some ⟨bS,0,none⟩)),none,none,some (.pointer (some ⟨bQ,0,none⟩)),some (.pointer (some ⟨bP,0,none⟩)),none,some (.int .i64 (topv (a::wl) m)),none,none,none] ∧
   ∃Q' vs',Q'.length=n∧gd Q'=(fun x=>if x∈(a::wl).drop m then s1.prt else s1.part x)∧HS g [ow vn N,ow vl L,ow vq Q',ow vs' ((s.stk++(a::wl).take m).map Int.ofNat),bx bS [vs'],bx bC [.int .i64 s1.cnt],bx bP [.int .i64 s1.prt]] h')
  (fun m=>m) (a::wl).length ⟨Nat.le_refl _,by simp[topv],Q,vs,hQl,by rw[List.drop_length];simp[hl.part],by rw[List.take_length,← hw];exact H⟩ ?_
 rintro J2 m _ h7 hJ2 ⟨hml,rfl,Q',vs',hQl',hQ',H⟩
 cases m with
 | zero=>
  have ht:topv (a::wl) 0=a:=by simp[topv]
  simp -implicitDefEqProofs (disch:=first|omega|(simp only[LnZ];omega))[wrap64,ht,H.sw6.bxld0]
  refine H.sw6.bxst (u:=.int .i64 (s1.prt+1)) rfl rfl rfl rfl (by simp) fun h8 H=>?_
  have H:HS g (bx bP [.int .i64 (s1.prt+1)]::ow vn N::ow vl L::ow vq Q'::ow vs' (s.stk.map Int.ofNat)::bx bS [vs']::[bx bC [.int .i64 s1.cnt]]) h8:=by
   simpa[setC] using H
  have H:=H.bk6
  simp -implicitDefEqProofs (disch:=omega)[wrap64]
  exact RetK.keep (hk _ _ ⟨s1.pop s.stk (a::wl),⟨N,L,Q',vs',⟨hl.hN,hl.hL,hQl',hl.num,hl.low,by rw[hQ'];rfl,hl.cnt⟩,H⟩,hT.end2 hE hall han ha0 hI hg2 (by rw[hLa,hNa];exact he) hw⟩)
 | succ m=>
  have hmC:m<(a::wl).length:=by omega
  obtain⟨c,hc'⟩:∃c,(a::wl)[m]=c:=⟨_,rfl⟩
  have hcn:c<n:=hpr c (hc' ▸ List.getElem_mem hmC)
  have ht:¬(topv (a::wl) (m+1)=a):=by
   unfold topv
   split
   ·rename_i hlt2
    simp only[List.getElem_cons_succ]
    have hm2:m<wl.length:=by simpa using hlt2
    have:=(hw2 _ (List.getElem_mem hm2)).2
    omega
   ·omega
  have htm:topv (a::wl) m=c:=by simp only[topv,hmC,dif_pos,hc']
  obtain⟨W,hW⟩:∃W,W=(s.stk++(a::wl).take m).map Int.ofNat:=⟨_,rfl⟩
  have hst:(s.stk++(a::wl).take (m+1)).map Int.ofNat=W++[(c:Int)]:=by
   rw[hW,List.take_add_one,List.getElem?_eq_getElem hmC,hc']
   simp
  have hWl:W.length=s.stk.length+m:=by
   rw[hW]
   simp at hml ⊢
   omega
  rw[hst] at H
  obtain⟨v',hv',H'⟩:=H.sw3.cut (n:=W.length) (esz:=1) (k:=.i64) (by simp)
  rw[List.take_left' rfl] at H'
  have hlen1:(W++[(c:Int)]).length=W.length+1:=by simp
  have hi1:IntKind.i64.wrap ((W.length:Int)+1-1)=W.length:=by rw[wrap64 (by omega) (by omega)];omega
  have H':=H'.bk3
  simp -implicitDefEqProofs (disch:=first|omega|(simp only[LnZ];omega))[wrap64,ht,H.sw4.bxld0,H.sw3.rep.I,hlen1,hi1,hv']
  refine H'.sw4.bxst (u:=v') rfl rfl (by rw[H'.sw3.rep.cells];rfl) (by rw[H'.sw3.rep.cells];simp[H'.sw3.rep.one]) (by simp[H'.sw3.rep.cells]) fun h8 H=>?_
  have H:HS g [ow vn N,ow vl L,ow vq Q',ow v' W,bx bS [v'],bx bC [.int .i64 s1.cnt],bx bP [.int .i64 s1.prt]] h8:=by
   simpa[setC,H'.sw3.rep.cells] using H.bk4
  have hQb:=hT.inv.bnd a han
  simp -implicitDefEqProofs (disch:=first|omega|(simp only[LnZ];omega))[wrap64,F.on H,H.sw6.bxld0,H.sw2.rep.I]
  refine H.sw2.storeF s1.prt (i:=c) (by omega) rfl rfl ⟨by omega,by omega⟩ rfl fun h9 H=>?_
  have H:=H.bk2
  simp -implicitDefEqProofs (disch:=omega)[wrap64]
  refine hJ2 m _ _ (by omega) ⟨by omega,by rw[htm],Q'.set c s1.prt,v',by simpa using hQl',?_,by rw[← hW];exact H⟩
  rw[gd_set (by omega),hQ']
  funext x
  rw[List.drop_eq_getElem_cons hmC,hc']
  by_cases e:x=c
  ·subst e;simp
  ·simp only[fput_ne e,List.mem_cons,e,false_or]
theorem HS.only {g h:Heap}{Γ:List HP}{p:HP}(H:HS g (p::Γ) h):HS g [p] h:=by
 obtain⟨g',r,e,d,hp,H⟩:=H
 exact⟨g',r,e,d,hp,H.base⟩
structure NmI (n:Nat) (f:Nat→Int) (i:Nat) (l:List (Int×Int)) (Q:List Int):Prop where
 len:Q.length=n
 le:l.length≤i
 done:∀x,x<i→mlk l (f x)=some (gd Q x)
 rest:∀x,i≤x→x<n→gd Q x=f x
 bnd:∀a y,mlk l a=some y→0≤y∧y<l.length
 inj:∀a b y,mlk l a=some y→mlk l b=some y→a=b
theorem NmI.old {n:Nat}{f:Nat→Int}{i:Nat}{l:List (Int×Int)}{Q:List Int}{y:Int}(h:NmI n f i l Q) (hi:i<n) (hy:mlk l (f i)=some y):NmI n f (i+1) l (Q.set i y):=by
 have hl:=h.len
 refine⟨by simpa using hl,by have:=h.le;omega,?_,?_,h.bnd,h.inj⟩
 ·intro x hx
  rw[gd_set (by omega)]
  by_cases e:x=i
  ·subst e;simp[hy]
  ·rw[fput_ne e];exact h.done x (by omega)
 ·intro x hx hxn
  rw[gd_set (by omega),fput_ne (by omega)]
  exact h.rest x (by omega) hxn
theorem NmI.new {n:Nat}{f:Nat→Int}{i:Nat}{l:List (Int×Int)}{Q:List Int}(h:NmI n f i l Q) (hi:i<n) (hy:mlk l (f i)=none):NmI n f (i+1) (l++[(f i,(l.length:Int))]) (Q.set i (l.length:Int))∧mlk (l++[(f i,(l.length:Int))]) (f i)=some (l.length:Int):=by
 have hl:=h.len
 have hs:=fun b=>mlk_snoc (y:=(l.length:Int)) (b:=b) hy
 refine⟨⟨by simpa using hl,by have:=h.le;simp;omega,?_,?_,?_,?_⟩,by rw[hs,if_pos rfl]⟩
 ·intro x hx
  rw[gd_set (by omega),hs]
  by_cases e:x=i
  ·subst e;simp
  ·rw[fput_ne e]
   have h1:=h.done x (by omega)
   rw[if_neg]
   ·exact h1
   ·intro e2;rw[← e2,hy] at h1;simp at h1
 ·intro x hx hxn
  rw[gd_set (by omega),fput_ne (by omega)]
  exact h.rest x (by omega) hxn
 ·intro a y ha
  rw[hs] at ha
  split at ha
  ·simp at ha;subst ha;simp;omega
  ·have:=h.bnd a y ha;simp;omega
 ·intro a b y ha hb
  rw[hs] at ha hb
  split at ha
  ·simp at ha
   split at hb
   ·rename_i e1 e2;rw[← e1,← e2]
   ·have:=h.bnd b y hb;omega
  ·split at hb
   ·simp at hb
    have:=h.bnd a y ha;omega
   ·exact h.inj a b y ha hb
theorem NmI.result {n:Nat}{f:Nat→Int}{l:List (Int×Int)}{Q:List Int}(h:NmI n f n l Q):(∀x,x<n→0≤gd Q x∧gd Q x<n)∧∀x y,x<n→y<n→(gd Q x=gd Q y↔f x=f y):=by
 refine⟨fun x hx=>?_,fun x y hx hy=>⟨fun e=>?_,fun e=>?_⟩⟩
 ·have:=h.bnd _ _ (h.done x hx)
  have:=h.le
  omega
 ·have h1:=h.done x hx
  have h2:=h.done y hy
  rw[e] at h1
  exact h.inj _ _ _ h1 h2
 ·have h1:=h.done x hx
  have h2:=h.done y hy
  rw[e,h2] at h1
  simpa using h1.symm
set_option maxHeartbeats 4000000 in
theorem c_components {h:Heap}{w:Value}{G:List (List Int)}{E:Nat→Nat→Prop}(Rw:Rep h w G) (hG:Adj E G) (hnl:G.length≤1048576) :
  CallE Tryz.prog fn_impl_components [w] h (fun u h'=>∃Q:List Int,HS h [ow u Q] h'∧Q.length=G.length∧(∀x,x<G.length→0≤gd Q x∧gd Q x<G.length)∧∀x y,x<G.length→y<G.length→(gd Q x=gd Q y↔Scc E x y)):=by
 refine CallE.gen fun k hk=>EN_impl_components rfl ?_
 simp -implicitDefEqProofs (disch:=omega)[wrap64]
 refine HS.init.alloc rfl fun bG h1 H=>?_
 have H:HS h [bx bG [w]] h1:=by simpa[Rw.cells] using H
 simp -implicitDefEqProofs (disch:=first|omega|(simp only[LnZ];omega))[wrap64,H.bxld0,Rw.len]
 refine H.mks (α:=Int) (z:=0) rfl rfl (own_zero (by decide) (by decide)) (Nat.le_refl _) (by omega) (by omega) fun vn h2 H=>?_
 simp -implicitDefEqProofs (disch:=omega)[wrap64]
 refine H.mks (α:=Int) (z:=0) rfl rfl (own_zero (by decide) (by decide)) (Nat.le_refl _) (by omega) (by omega) fun vl h3 H=>?_
 simp -implicitDefEqProofs (disch:=omega)[wrap64]
 refine H.mks (α:=Int) (z:=0) rfl rfl (own_zero (by decide) (by decide)) (Nat.le_refl _) (by omega) (by omega) fun vq h4 H=>?_
 simp -implicitDefEqProofs (disch:=omega)[wrap64]
 refine H.alloc rfl fun bN h5 H=>?_
 simp -implicitDefEqProofs (disch:=omega)[wrap64]
 refine H.alloc rfl fun bL h6 H=>?_
 simp -implicitDefEqProofs (disch:=omega)[wrap64]
 refine H.alloc rfl fun bQ h7 H=>?_
 simp -implicitDefEqProofs (disch:=omega)[wrap64]
 have R0:=H.sw3.rep
 have R1:=H.sw4.rep
 have R2:=H.sw5.rep
 refine H.sw2.bxst (u:=vn) rfl rfl (by rw[R2.cells];rfl) (by rw[R2.cells];simp[R2.one]) (by simp[R2.cells]) fun h8 H=>?_
 simp -implicitDefEqProofs (disch:=omega)[wrap64]
 refine H.sw2.bxst (u:=vl) rfl rfl (by rw[R1.cells];rfl) (by rw[R1.cells];simp[R1.one]) (by simp[R1.cells]) fun h9 H=>?_
 simp -implicitDefEqProofs (disch:=omega)[wrap64]
 refine H.sw2.bxst (u:=vq) rfl rfl (by rw[R0.cells];rfl) (by rw[R0.cells];simp[R0.one]) (by simp[R0.cells]) fun h10 H=>?_
 have H:HS h [bx bQ [vq],bx bL [vl],bx bN [vn],ow vq (List.replicate G.length (0:Int)),ow vl (List.replicate G.length (0:Int)),ow vn (List.replicate G.length (0:Int)),bx bG [w]] h10:=by
  simpa[setC,R0.cells,R1.cells,R2.cells] using H
 have H:=H.sw3
 simp -implicitDefEqProofs (disch:=first|omega|(simp only[LnZ];omega))[wrap64,H.sw1.bxld0,H.rep.len]
 refine wp_count G.length (fun i e h'=>e=[none,some (.pointer (some ⟨bG,0,none⟩)),none,some (.int .i64 G.length),some (.pointer (some ⟨bN,0,none⟩)),some (.pointer (some ⟨bL,0,none⟩)),some (.pointer (some ⟨bQ,0,none⟩)),none,none,none,none,none,none,none,none,none,none,some (.int .i64 G.length),some (.int .i64 i),none,none,none,none,none] ∧
  ∃Q:List Int,HS h [ow vq Q,bx bQ [vq],bx bL [vl],bx bN [vn],ow vl (List.replicate G.length (0:Int)),ow vn (List.replicate G.length (0:Int)),bx bG [w]] h'∧Q.length=G.length∧∀x,x<i→gd Q x = -1) ⟨by simp,_,H,by simp,fun x hx=>absurd hx (Nat.not_lt_zero x)⟩ ?_
 clear H
 rintro J i _ h11 hJ hi ⟨rfl,Q,H,hQl,hQ⟩
 simp -implicitDefEqProofs (disch:=omega)[wrap64]
 refine IteW.mk (fun hlt=>?_) (fun hge=>?_)
 ·have hin:i<G.length:=by omega
  simp -implicitDefEqProofs (disch:=first|omega|(simp only[LnZ];omega))[wrap64,H.sw1.bxld0,H.rep.I]
  refine H.storeF (-1) (i:=i) (by omega) rfl rfl ⟨by decide,by decide⟩ rfl fun h12 H=>?_
  simp -implicitDefEqProofs (disch:=omega)[wrap64]
  refine hJ _ _ hin ⟨rfl,_,H,by simpa using hQl,fun x hx=>?_⟩
  rw[gd_set (by omega)]
  by_cases e:x=i
  ·subst e;simp
  ·rw[fput_ne e];exact hQ x (by omega)
 have hin:i=G.length:=by omega
 subst hin
 simp -implicitDefEqProofs (disch:=omega)[wrap64]
 refine H.alloc rfl fun bS h12 H=>?_
 simp -implicitDefEqProofs (disch:=omega)[wrap64]
 refine H.alloc rfl fun bC h13 H=>?_
 simp -implicitDefEqProofs (disch:=omega)[wrap64]
 refine H.alloc rfl fun bP h14 H=>?_
 simp -implicitDefEqProofs (disch:=omega)[wrap64]
 refine H.sw1.bxst (u:=.int .i64 0) rfl rfl rfl rfl (by simp) fun h15 H=>?_
 simp -implicitDefEqProofs (disch:=omega)[wrap64]
 refine H.sw1.bxst (u:=.int .i64 0) rfl rfl rfl rfl (by simp) fun h16 H=>?_
 simp -implicitDefEqProofs (disch:=omega)[wrap64]
 refine H.alloc rfl fun bV h17 H=>?_
 simp -implicitDefEqProofs (disch:=omega)[wrap64]
 obtain⟨fv,hfv⟩:∃fv,fv=Value.func (.func fn_impl_components_1) #[] #[.pointer (some ⟨bC,0,none⟩),.pointer (some ⟨bN,0,none⟩),.pointer (some ⟨bL,0,none⟩),.pointer (some ⟨bS,0,none⟩),.pointer (some ⟨bG,0,none⟩),.pointer (some ⟨bV,0,none⟩),.pointer (some ⟨bQ,0,none⟩),.pointer (some ⟨bP,0,none⟩)]:=⟨_,rfl⟩
 have hfn:fnOf fv=some (fn_impl_components_1,[],[.pointer (some ⟨bC,0,none⟩),.pointer (some ⟨bN,0,none⟩),.pointer (some ⟨bL,0,none⟩),.pointer (some ⟨bS,0,none⟩),.pointer (some ⟨bG,0,none⟩),.pointer (some ⟨bV,0,none⟩),.pointer (some ⟨bQ,0,none⟩),.pointer (some ⟨bP,0,none⟩)]):=by subst hfv;rfl
 have hfc:fv.cells = #[fv]:=by subst hfv;rfl
 have hf1:fv.oneCell'=true:=by subst hfv;rfl
 rw[← hfv]
 refine H.bxst (u:=fv) rfl rfl (by rw[hfc];rfl) (by rw[hfc];simp[hf1]) (by simp) fun h18 H=>?_
 have H:HS h [bx bV [fv],bx bP [.int .i64 0],bx bC [.int .i64 0],bx bS [.slice none 0 0],ow vq Q,bx bQ [vq],bx bL [vl],bx bN [vn],ow vl (List.replicate G.length (0:Int)),ow vn (List.replicate G.length (0:Int)),bx bG [w]] h18:=by
  simpa[setC,hfc] using H
 have H:=H.nil_ow (α:=Int)
 have H:=H.sw1.sw11.sw7.sw8.sw9.sw6.sw7.sw8.sw8.sw9.sw10.sw11
 obtain⟨g1,H0,H⟩:=HS.rebase (Δ:=[ow vn (List.replicate G.length (0:Int)),ow vl (List.replicate G.length (0:Int)),ow vq Q,ow (.slice none 0 0) ([]:List Int),bx bS [.slice none 0 0],bx bC [.int .i64 0],bx bP [.int .i64 0]]) (Γ:=[bx bN [vn],bx bL [vl],bx bQ [vq],bx bG [w],bx bV [fv]]) H
 have F:FB bN bL bQ bG bV vn vl vq w fv g1:=⟨H0.bxld0,H0.sw1.bxld0,H0.sw2.bxld0,H0.sw3.bxld0,H0.sw4.bxld0⟩
 have Rw1:=Rw.on H0
 have hg0:∀x,gd (List.replicate G.length (0:Int)) x=0:=by
  intro x
  simp only[gd,List.getD_eq_getElem?_getD,List.getElem?_replicate]
  split<;>rfl
 have hE:=hG.lt
 have hC0:∃s,CH g1 vn vl vq bS bC bP G.length s h18∧TI G.length E (fun _=>False) s∧∀x,x<0→s.num x≠0:=by
  refine⟨⟨gd (List.replicate G.length (0:Int)),gd (List.replicate G.length (0:Int)),gd Q,[],0,0⟩,⟨_,_,Q,.slice none 0 0,⟨by simp,by simp,hQl,rfl,rfl,rfl,?_⟩,H⟩,TI.start (fun x _=>hg0 x) (fun x hx=>hQ x hx) rfl rfl rfl,fun x hx=>absurd hx (Nat.not_lt_zero x)⟩
  have:=List.length_filter_le (fun x=>decide (x<G.length∧gd (List.replicate G.length (0:Int)) x=0)) (List.range G.length)
  simp only[List.length_range] at this
  show (0:Int)+((unv G.length (gd (List.replicate G.length (0:Int))):Nat):Int)≤_
  unfold unv
  omega
 simp -implicitDefEqProofs (disch:=omega)[wrap64]
 refine wp_count G.length (fun i e h'=>e=[none,none,none,none,some (.pointer (some ⟨bN,0,none⟩)),none,some (.pointer (some ⟨bQ,0,none⟩)),none,none,none,none,some (.pointer (some ⟨bV,0,none⟩)),none,none,none,none,none,none,none,some (.int .i64 G.length),some (.int .i64 i),none,none,none] ∧
  ∃s,CH g1 vn vl vq bS bC bP G.length s h'∧TI G.length E (fun _=>False) s∧∀x,x<i→s.num x≠0) ⟨by simp,hC0⟩ ?_
 clear H hC0 hQ hQl hJ
 rintro J2 i _ h19 hJ2 hi2 ⟨rfl,s,⟨N,L,Q,vs,hl,H⟩,hI,hv⟩
 have hNl:=hl.hN
 simp -implicitDefEqProofs (disch:=omega)[wrap64]
 refine IteW.mk (fun hlt2=>?_) (fun hge2=>?_)
 ·have hin:i<G.length:=by omega
  have hNi:s.num i=N[i]'(by omega):=by rw[hl.num,gd_get]
  by_cases h0:N[i]'(by omega)=0
  ·simp -implicitDefEqProofs (disch:=first|omega|(simp only[LnZ];omega))[wrap64,F.on H,H.rep.I,h0,hfn]
   refine (c_visit F Rw1 hG rfl hnl hfn _ (fun _=>False) s i _ rfl ⟨N,L,Q,vs,hl,H⟩ hI hin (by rw[hNi,h0]) (fun _ h=>h.elim) (fun _ h=>h.elim)).go ?_
   rintro u h20 ⟨s2,hC2,hV⟩
   simp -implicitDefEqProofs (disch:=omega)[wrap64]
   refine hJ2 _ _ hin ⟨rfl,s2,hC2,hV.inv,fun x hx=>?_⟩
   by_cases e:x=i
   ·subst e;exact hV.vis
   ·have h1:=hv x (by omega)
    rw[(hV.num x (by omega) h1).1];exact h1
  ·simp -implicitDefEqProofs (disch:=first|omega|(simp only[LnZ];omega))[wrap64,F.on H,H.rep.I,h0]
   refine hJ2 _ _ hin ⟨rfl,s,⟨N,L,Q,vs,hl,H⟩,hI,fun x hx=>?_⟩
   by_cases e:x=i
   ·subst e;rw[hNi];exact h0
   ·exact hv x (by omega)
 have hin:i=G.length:=by omega
 subst hin
 obtain⟨hr1,hr2⟩:=hI.result hv
 have hQl:=hl.hQ
 have H:=H.sw2.only
 simp -implicitDefEqProofs (disch:=omega)[wrap64]
 refine H.mkm (fun n:Int=>.int .i64 n) (fun n:Int=>.int .i64 n) fun bm h20 H=>?_
 have H:=H.sw1
 simp -implicitDefEqProofs (disch:=first|omega|(simp only[LnZ];omega))[wrap64,F.on H,H.rep.len]
 refine wp_count G.length (fun i e h'=>e=[none,none,none,none,none,none,some (.pointer (some ⟨bQ,0,none⟩)),none,none,none,none,none,none,some (.map (some bm)),none,none,none,none,none,none,none,some vq,some (.int .i64 G.length),some (.int .i64 i)] ∧
  ∃(l:List (Int×Int)) (Q:List Int),HS g1 [ow vq Q,mpo (fun n:Int=>.int .i64 n) (fun n:Int=>.int .i64 n) bm l] h'∧NmI G.length s.part i l Q) ⟨by simp[hQl],[],Q,H,hQl,by simp,fun x hx=>absurd hx (Nat.not_lt_zero x),fun x _ _=>by rw[hl.part],fun a y h=>by simp[mlk_nil] at h,fun a b y h=>by simp[mlk_nil] at h⟩ ?_
 clear H hQl hl
 rintro J3 i _ h21 hJ3 hi3 ⟨rfl,l,Q,H,hM⟩
 have hQl:=hM.len
 have hle:=hM.le
 simp -implicitDefEqProofs (disch:=omega)[wrap64]
 refine IteW.mk (fun hlt3=>?_) (fun hge3=>?_)
 ·have hin:i<G.length:=by omega
  have hQi:Q[i]'(by omega)=s.part i:=by rw[← gd_get,hM.rest i (Nat.le_refl _) hin]
  simp -implicitDefEqProofs (disch:=first|omega|(simp only[LnZ];omega))[wrap64,H.rep.I,hQi]
  refine H.sw1.mget (a:=s.part i) rfl rfl keyEq_int ?_
  cases hlk:mlk l (s.part i) with
  | some y=>
   have hyb:=hM.bnd _ _ hlk
   simp -implicitDefEqProofs (disch:=first|omega|(simp only[LnZ];omega))[wrap64,F.on H]
   refine H.sw1.mget (a:=s.part i) rfl rfl keyEq_int ?_
   rw[hlk]
   simp -implicitDefEqProofs (disch:=first|omega|(simp only[LnZ];omega))[wrap64,F.on H,H.rep.I]
   refine H.storeF y (i:=i) (by omega) rfl rfl ⟨by omega,by omega⟩ rfl fun h22 H=>?_
   simp -implicitDefEqProofs (disch:=omega)[wrap64]
   exact hJ3 _ _ hin ⟨rfl,l,_,H,hM.old hin hlk⟩
  | none=>
   obtain⟨hn1,hn2⟩:=hM.new hin hlk
   simp -implicitDefEqProofs (disch:=omega)[wrap64]
   refine H.sw1.mlen rfl ?_
   simp -implicitDefEqProofs (disch:=omega)[wrap64]
   refine H.sw1.mput (a:=s.part i) (v:=(l.length:Int)) rfl rfl rfl keyEq_int hlk fun h22 H=>?_
   simp -implicitDefEqProofs (disch:=first|omega|(simp only[LnZ];omega))[wrap64,F.on H]
   refine H.mget (a:=s.part i) rfl rfl keyEq_int ?_
   rw[hn2]
   have H:=H.sw1
   simp -implicitDefEqProofs (disch:=first|omega|(simp only[LnZ];omega))[wrap64,F.on H,H.rep.I]
   refine H.storeF (l.length:Int) (i:=i) (by omega) rfl rfl ⟨by omega,by omega⟩ rfl fun h23 H=>?_
   simp -implicitDefEqProofs (disch:=omega)[wrap64]
   exact hJ3 _ _ hin ⟨rfl,_,_,H,hn1⟩
 have hin:i=G.length:=by omega
 subst hin
 simp -implicitDefEqProofs (disch:=first|omega|(simp only[LnZ];omega))[wrap64,F.on H]
 obtain⟨hb,hc⟩:=hM.result
 have Hf:=(H.app H0).only
 exact RetK.keep (hk _ _ ⟨Q,Hf,hQl,hb,fun x y hx hy=>by rw[hc x y hx hy,hr2 x y hx hy]⟩)
def cntP (Q:List Int) (i:Nat) (p:Int):Nat:=((List.range i).filter fun y=>decide (gd Q y=p)).length
theorem cntP_succ {Q:List Int}{i:Nat}{p:Int}:cntP Q (i+1) p=cntP Q i p+if gd Q i=p then 1 else 0:=by
 simp only[cntP,List.range_succ,List.filter_append,List.length_append,List.filter_cons,List.filter_nil]
 by_cases h:gd Q i=p<;>simp[h]
theorem cntP_le {Q:List Int}{i:Nat}{p:Int}:cntP Q i p≤i:=by
 have:=List.length_filter_le (fun y=>decide (gd Q y=p)) (List.range i)
 simpa[cntP] using this
theorem c_cyclic {h:Heap}{w:Value}{G:List (List Int)}{E:Nat→Nat→Prop}(Rw:Rep h w G) (hG:Adj E G) (hnl:G.length≤1048576) :
  CallE Tryz.prog fn_impl_cyclic [w] h (fun u h'=>∃C:List Bool,HS h [ow u C] h'∧C.length=G.length∧∀x,x<G.length→(tru C x↔Cyc E x)):=by
 refine CallE.gen fun k hk=>EN_impl_cyclic rfl ?_
 simp -implicitDefEqProofs (disch:=omega)[wrap64]
 refine (c_components Rw hG hnl).go ?_
 rintro p h1 ⟨Q,H,hQl,hQb,hQ⟩
 simp -implicitDefEqProofs (disch:=first|omega|(simp only[LnZ];omega))[wrap64,(Rw.on H).len]
 refine H.mks (α:=Int) (z:=0) rfl rfl (own_zero (by decide) (by decide)) (Nat.le_refl _) (by omega) (by omega) fun z h2 H=>?_
 simp -implicitDefEqProofs (disch:=first|omega|(simp only[LnZ];omega))[wrap64,H.sw1.rep.len]
 refine wp_count G.length (fun i e h'=>e=[some w,none,some p,some z,none,none,none,some p,some (.int .i64 G.length),some (.int .i64 i),none,none]∧∃Z:List Int,HS h [ow z Z,ow p Q] h'∧Z.length=G.length∧∀x,x<G.length→gd Z x=cntP Q i x) ⟨by simp[hQl],_,H,by simp,fun x hx=>by rw[gd_get (by simpa using hx)];simp[cntP]⟩ ?_
 clear H
 rintro J i _ h3 hJ hi ⟨rfl,Z,H,hZl,hZ⟩
 simp -implicitDefEqProofs (disch:=omega)[wrap64]
 refine IteW.mk (fun hlt=>?_) (fun hge=>?_)
 ·have hin:i<G.length:=by omega
  have hq:=hQb i hin
  obtain⟨q,hqi⟩:∃q:Nat,Q[i]'(by omega)=q:=⟨(Q[i]'(by omega)).toNat,by rw[← gd_get];omega⟩
  have hqn:q<G.length:=by rw[gd_get (by omega),hqi] at hq;omega
  have hzq:Z[q]'(by omega)=cntP Q i q:=by rw[← gd_get,hZ q hqn]
  have hcl:=cntP_le (Q:=Q) (i:=i) (p:=q)
  simp -implicitDefEqProofs (disch:=first|omega|(simp only[LnZ];omega))[wrap64,H.sw1.rep.I,hqi,H.rep.I,hzq]
  refine H.storeF ((cntP Q i q:Int)+1) (i:=q) (by omega) rfl rfl ⟨by omega,by omega⟩ rfl fun h4 H=>?_
  simp -implicitDefEqProofs (disch:=omega)[wrap64]
  refine hJ _ _ hin ⟨rfl,_,H,by simpa using hZl,fun x hx=>?_⟩
  rw[gd_set (by omega),cntP_succ,gd_get (by omega),hqi]
  by_cases e:x=q
  ·subst e;simp
  ·rw[fput_ne e,hZ x hx,if_neg (by omega)];simp
 have hin:i=G.length:=by omega
 subst hin
 simp -implicitDefEqProofs (disch:=first|omega|(simp only[LnZ];omega))[wrap64,(Rw.on H).len]
 refine H.mks (α:=Bool) (z:=false) rfl rfl own_false (Nat.le_refl _) (by omega) (by omega) fun c h4 H=>?_
 simp -implicitDefEqProofs (disch:=first|omega|(simp only[LnZ];omega))[wrap64,(Rw.on H).len]
 refine wp_count G.length (fun i e h'=>e=[some w,none,some p,some z,none,some c,none,none,none,none,some (.int .i64 G.length),some (.int .i64 i)]∧∃C:List Bool,HS h [ow c C,ow z Z,ow p Q] h'∧C.length=G.length∧∀x,x<i→(tru C x↔Cyc E x)) ⟨by simp,_,H,by simp,fun x hx=>absurd hx (Nat.not_lt_zero x)⟩ ?_
 clear H hJ
 rintro J i _ h5 hJ hi ⟨rfl,C,H,hCl,hC⟩
 simp -implicitDefEqProofs (disch:=omega)[wrap64]
 refine IteW.mk (fun hlt2=>?_) (fun hge2=>?_)
 ·have hin:i<G.length:=by omega
  have hq:=hQb i hin
  obtain⟨q,hqi⟩:∃q:Nat,Q[i]'(by omega)=q:=⟨(Q[i]'(by omega)).toNat,by rw[← gd_get];omega⟩
  have hqn:q<G.length:=by rw[gd_get (by omega),hqi] at hq;omega
  have hzq:Z[q]'(by omega)=cntP Q G.length q:=by rw[← gd_get,hZ q hqn]
  have hpc:=part_cycle hQ hG.lt hin
  have hcnt:((List.range G.length).filter fun y=>decide (gd Q y=gd Q i)).length=cntP Q G.length q:=by
   rw[gd_get (by omega),hqi];rfl
  rw[hcnt] at hpc
  have hstep:∀b:Bool,(b=true↔Cyc E i)→∀x,x<i+1→(tru (C.set i b) x↔Cyc E x):=by
   intro b hb x hx
   have h1:tru (C.set i b) x↔if x=i then b=true else tru C x:=by
    simp only[tru,List.getD_eq_getElem?_getD,List.getElem?_set]
    by_cases e:i=x
    ·subst e;simp[show i<C.length by omega]
    ·simp[e,Ne.symm e]
   rw[h1]
   split
   ·rename_i e;subst e;exact hb
   ·exact hC x (by omega)
  by_cases h1:(1:Int)<cntP Q G.length q
  ·simp -implicitDefEqProofs (disch:=first|omega|(simp only[LnZ];omega))[wrap64,H.sw2.rep.I,hqi,H.sw1.rep.I,hzq,h1,H.rep.B]
   refine H.storeF true (i:=i) (by omega) rfl rfl trivial rfl fun h6 H=>?_
   simp -implicitDefEqProofs (disch:=omega)[wrap64]
   exact hJ _ _ hin ⟨rfl,_,H,by simpa using hCl,hstep true (by rw[hpc];simp;omega)⟩
  ·obtain⟨u,hu0,Ru⟩:=Rw.ldL hin
   simp -implicitDefEqProofs (disch:=first|omega|(simp only[LnZ];omega))[wrap64,H.sw2.rep.I,hqi,H.sw1.rep.I,hzq,h1,H.rep.B,(Rw.on H).X (n:=1) rfl,hload_le H.base hu0]
   refine (c_Contains_int (Ru.on H)).go ?_
   rintro _ _ ⟨rfl,rfl⟩
   simp -implicitDefEqProofs (disch:=first|omega|(simp only[LnZ];omega))[wrap64,H.rep.B]
   refine H.storeF (decide ((i:Int)∈G[i])) (i:=i) (by omega) rfl rfl trivial rfl fun h6 H=>?_
   simp -implicitDefEqProofs (disch:=omega)[wrap64]
   refine hJ _ _ hin ⟨rfl,_,H,by simpa using hCl,hstep _ ?_⟩
   rw[hpc,decide_eq_true_iff,hG.mem i hin]
   constructor
   ·rintro⟨y,h2,h3⟩
    obtain rfl:i=y:=by omega
    exact .inr h3
   ·rintro (h2 | h2)
    ·omega
    ·exact⟨i,rfl,h2⟩
 have hin:i=G.length:=by omega
 subst hin
 simp -implicitDefEqProofs (disch:=omega)[wrap64]
 exact RetK.keep (hk _ _ ⟨C,H.only,hCl,hC⟩)
theorem c_live {h:Heap}{v:Value}{a:Aut}(Ra:Rep h v a) (ha:a.Ok):CallE Tryz.prog fn_impl_Automaton_live [v] h (fun u h'=>∃L:List Bool,HS h [ow u L] h'∧L.length=a.acc.length∧∀q,tru L q↔q<a.acc.length∧a.Live q):=by
 obtain⟨v1,v2,v3,rfl,R1,R2,R3⟩:=Rep_Aut.1 Ra
 have hn:=ha.n
 refine CallE.gen fun k hk=>EN_impl_Automaton_live rfl ?_
 simp -implicitDefEqProofs (disch:=omega)[wrap64]
 refine (c_next Ra ha).go ?_
 rintro w h1 ⟨G,H,hG,hGl⟩
 simp -implicitDefEqProofs (disch:=omega)[wrap64]
 refine (c_cyclic H.rep hG (by omega)).go ?_
 rintro c h2 ⟨C,H2,hCl,hC⟩
 have H:=H2.app H
 simp -implicitDefEqProofs (disch:=first|omega|(simp only[LnZ];omega))[wrap64,H.sw1.rep.len]
 refine H.mks (α:=Bool) (z:=false) rfl rfl own_false (Nat.le_refl _) (by omega) (by omega) fun o h3 H=>?_
 simp -implicitDefEqProofs (disch:=first|omega|(simp only[LnZ];omega))[wrap64,H.sw2.rep.len]
 refine wp_count G.length (fun i e h'=>e=[none,some (.agg #[v1,v2,v3]),none,some w,some c,some o,none,none,none,some (.int .i64 G.length),some (.int .i64 i),none,none,none]∧∃L:List Bool,HS h [ow o L,ow c C,ow w G] h'∧L.length=G.length∧∀q,tru L q↔q<i∧a.Live q) ⟨by simp,_,H,by simp,fun q=>by simp[tru_replicate]⟩ ?_
 clear H
 rintro J i _ h4 hJ hi ⟨rfl,L,H,hLl,hL⟩
 simp -implicitDefEqProofs (disch:=omega)[wrap64]
 refine IteW.mk (fun hlt=>?_) (fun hge=>?_)
 ·have hin:i<G.length:=by omega
  simp -implicitDefEqProofs (disch:=omega)[wrap64]
  refine H.bls (α:=Int) [(i:Int)] (by rfl) rfl (ok_one (by omega)) (by decide) fun s h4 H=>?_
  simp -implicitDefEqProofs (disch:=omega)[wrap64]
  have hS1:∀z∈[(i:Int)],0≤z∧z<(G.length:Int):=by
   intro z hz
   have hxi:z=i:=by simpa using hz
   omega
  refine (c_reachable (S:=[(i:Int)]) H.sw3.rep H.rep hG hS1 (by simp) (by omega)).go ?_
  rintro r h5 ⟨B,H5,hBl,hB⟩
  have H:=H5.app H.drop
  simp -implicitDefEqProofs (disch:=first|omega|(simp only[LnZ];omega))[wrap64,H.rep.len]
  refine wp_count G.length (fun k e h'=>e=[none,some (.agg #[v1,v2,v3]),none,some w,some c,some o,some (.int .i64 i),none,none,some (.int .i64 G.length),some (.int .i64 i),some r,some (.int .i64 G.length),some (.int .i64 k)]∧∃(L':List Bool),HS h [ow r B,ow o L',ow c C,ow w G] h'∧L'.length=G.length∧(∀q,q≠i→(tru L' q↔q<i∧a.Live q))∧(tru L' i↔∃t,t<k∧tru B t∧tru C t∧tru a.acc t)) ⟨by simp[hBl],L,H,hLl,fun q _=>hL q,by rw[hL];simp⟩ ?_
  rintro J2 k _ h6 hJ2 hk2 ⟨rfl,L',H,hLl',hL1,hL2⟩
  simp -implicitDefEqProofs (disch:=omega)[wrap64]
  refine IteW.mk (fun hlt2=>?_) (fun hge2=>?_)
  ·have hkn:k<G.length:=by omega
   have H:=H.sw1
   have hold:tru L' i↔L'[i]'(by omega)=true:=tru_get (by omega)
   have hstep:∀b:Bool,(b=true↔tru L' i∨(tru B k∧tru C k∧tru a.acc k))→(∀q,q≠i→(tru (L'.set i b) q↔q<i∧a.Live q))∧(tru (L'.set i b) i↔∃t,t<k+1∧tru B t∧tru C t∧tru a.acc t):=by
    intro b hb
    have h1:∀x,tru (L'.set i b) x↔if x=i then b=true else tru L' x:=by
     intro x
     simp only[tru,List.getD_eq_getElem?_getD,List.getElem?_set]
     by_cases e:i=x
     ·subst e;simp[show i<L'.length by omega]
     ·simp[e,Ne.symm e]
    refine⟨fun q hq=>by rw[h1,if_neg hq];exact hL1 q hq,?_⟩
    rw[h1,if_pos rfl,hb,hL2]
    constructor
    ·rintro (⟨t,h2,h3⟩ | h3)
     ·exact⟨t,by omega,h3⟩
     ·exact⟨k,by omega,h3⟩
    ·rintro⟨t,h2,h3⟩
     by_cases e:t=k
     ·subst e;exact .inr h3
     ·exact .inl ⟨t,by omega,h3⟩
   have hgB:=tru_get (B:=B) (i:=k) (by omega)
   have hgC:=tru_get (B:=C) (i:=k) (by omega)
   have hgA:=tru_get (B:=a.acc) (i:=k) (by omega)
   have hfin:∀b:Bool,(b=true↔tru L' i∨(tru B k∧tru C k∧tru a.acc k))→∀h8,HS h [ow o (L'.set i b),ow r B,ow c C,ow w G] h8→J2 [none,some (.agg #[v1,v2,v3]),none,some w,some c,some o,some (.int .i64 i),none,none,some (.int .i64 G.length),some (.int .i64 i),some r,some (.int .i64 G.length),some (.int .i64 ((k+1:Nat):Int))] h8:=
    fun b hb h8 H=>hJ2 _ _ hkn ⟨rfl,_,H.sw1,by simpa using hLl',hstep b hb⟩
   by_cases e0:L'[i]'(by omega)=true
   ·simp -implicitDefEqProofs (disch:=first|omega|(simp only[LnZ];omega))[wrap64,H.sw1.rep.B,H.rep.B,e0]
    refine H.storeF true (i:=i) (by omega) rfl rfl trivial rfl fun h7 H=>?_
    simp -implicitDefEqProofs (disch:=omega)[wrap64]
    exact hfin true (by simp[hold,e0]) _ H
   by_cases e1:B[k]'(by omega)=true
   case neg=>
    simp -implicitDefEqProofs (disch:=first|omega|(simp only[LnZ];omega))[wrap64,H.sw1.rep.B,H.rep.B,e0,e1]
    refine H.storeF false (i:=i) (by omega) rfl rfl trivial rfl fun h7 H=>?_
    simp -implicitDefEqProofs (disch:=omega)[wrap64]
    exact hfin false (by simp[hold,e0,hgB,e1]) _ H
   by_cases e2:C[k]'(by omega)=true
   case neg=>
    simp -implicitDefEqProofs (disch:=first|omega|(simp only[LnZ];omega))[wrap64,H.sw1.rep.B,H.sw2.rep.B,H.rep.B,e0,e1,e2]
    refine H.storeF false (i:=i) (by omega) rfl rfl trivial rfl fun h7 H=>?_
    simp -implicitDefEqProofs (disch:=omega)[wrap64]
    exact hfin false (by simp[hold,e0,hgC,e2]) _ H
   by_cases e3:a.acc[k]'(by omega)=true
   ·simp -implicitDefEqProofs (disch:=first|omega|(simp only[LnZ];omega))[wrap64,H.sw1.rep.B,H.sw2.rep.B,H.rep.B,(R2.on H).B,e0,e1,e2,e3]
    refine H.storeF true (i:=i) (by omega) rfl rfl trivial rfl fun h7 H=>?_
    simp -implicitDefEqProofs (disch:=omega)[wrap64]
    exact hfin true (by simp[hgB,hgC,hgA,e1,e2,e3]) _ H
   ·simp -implicitDefEqProofs (disch:=first|omega|(simp only[LnZ];omega))[wrap64,H.sw1.rep.B,H.sw2.rep.B,H.rep.B,(R2.on H).B,e0,e1,e2,e3]
    refine H.storeF false (i:=i) (by omega) rfl rfl trivial rfl fun h7 H=>?_
    simp -implicitDefEqProofs (disch:=omega)[wrap64]
    exact hfin false (by simp[hold,e0,hgA,e3]) _ H
  ·simp -implicitDefEqProofs (disch:=omega)[wrap64]
   refine hJ _ _ hin ⟨rfl,L',H.drop,hLl',fun q=>?_⟩
   by_cases e:q=i
   ·subst e
    rw[hL2]
    constructor
    ·rintro⟨t,h1,h2,h3,h4⟩
     obtain⟨z,h5,h6⟩:=(hB t).1 h2
     obtain rfl:z=q:=by simpa[Int.ofNat_inj] using h5
     exact⟨by omega,t,h6,(hC t (by rw[← hBl];exact tru_lt h2)).1 h3,h4⟩
    ·rintro⟨_,t,h1,h2,h3⟩
     have htn:t<G.length:=by rw[hGl];exact tru_lt h3
     exact⟨t,by omega,(hB t).2 ⟨q,by simp,h1⟩,(hC t htn).2 h2,h3⟩
   ·rw[hL1 q e]
    constructor
    ·rintro⟨h1,h2⟩;exact⟨by omega,h2⟩
    ·rintro⟨h1,h2⟩;exact⟨by omega,h2⟩
 have hin:i=G.length:=by omega
 subst hin
 simp -implicitDefEqProofs (disch:=omega)[wrap64]
 exact RetK.keep (hk _ _ ⟨L,H.only,by omega,by rw[← hGl];exact hL⟩)
namespace Bf
end Bf
namespace Bf
section
variable {S:List Int}{D:Int→Int→Prop}
theorem Pth.last {x:Int}{l:List Int}(h:Pth S D x l):∃l0,l=l0++[x]:=by
 cases h with
 | one h=>exact⟨[],rfl⟩
 | snoc h e=>exact⟨_,rfl⟩
theorem Pth.head {x:Int}{l:List Int}(h:Pth S D x l):∃s∈S,∃t,l=s::t:=by
 induction h with
 | one h=>exact⟨_,h,[],rfl⟩
 | snoc h e ih=>
  obtain⟨s,hs,t,rfl⟩:=ih
  exact⟨s,hs,t++[_],rfl⟩
def Joined (D:Int→Int→Prop):List Int→Prop
 | x::y::l=>D x y∧Joined D (y::l)
 | _=>True
theorem Joined.snoc {x y:Int}:∀{l:List Int},Joined D (l++[x])→D x y→Joined D (l++[x]++[y])
 | [],_,h=>⟨h,trivial⟩
 | [z],h,h'=>⟨h.1,h',trivial⟩
 | z::z2::l,h,h'=>⟨h.1,Joined.snoc (l:=z2::l) h.2 h'⟩
theorem Pth.joined {x:Int}{l:List Int}(h:Pth S D x l):Joined D l:=by
 induction h with
 | one h=>trivial
 | snoc h e ih=>
  obtain⟨l0,rfl⟩:=h.last
  exact ih.snoc e
theorem Joined.at {D:Int→Int→Prop}:∀{l:List Int},Joined D l→∀(i:Nat) (hi:i+1<l.length),D l[i] l[i+1]
 | [],_,i,hi=>absurd hi (by simp)
 | [x],_,i,hi=>absurd hi (by simp)
 | x::y::l,h,0,_=>h.1
 | x::y::l,h,i+1,hi=>Joined.at (l:=y::l) h.2 i (by simpa using hi)
end
noncomputable def hitL (G:List (List Int)) (S:List Int) (g:Int→Bool):List Int:=match (fin G S).2.find? g with
 | some t=>path G S t
 | none=>[]
def back (G:List (List Int)) (t:Int):Int→Bool:=fun m=>decide (m≠t)&&decide (t∈G.getD m.toNat [])
noncomputable def arn (G:List (List Int)) (t:Int):List Int:=if t∈G.getD t.toNat [] then [t] else hitL G [t] (back G t)
theorem Rch.last {E:Nat→Nat→Prop}{x y z:Nat}(h:E x y) (k:Rch E y z):∃m,Rch E x m∧E m z:=by
 induction k generalizing x with
 | refl=>exact⟨x,.refl _,h⟩
 | step e _ ih=>
  obtain⟨m,h1,h2⟩:=ih e
  exact⟨m,.step h h1,h2⟩
theorem incr_one {n:Int}{t:Int}(h0:0≤t) (h1:t<n):incr n (-1) [t]:=⟨by omega,h1,trivial⟩
theorem arn_ok {G:List (List Int)}(hn:NOk G) {E:Nat→Nat→Prop}(hE:∀x y:Nat,E x y↔x<G.length∧(y:Int)∈G.getD x []) {t:Nat}(ht:t<G.length) (hc:Cyc E t) :
  ∃m:Int,Pth [(t:Int)] (Ed G) m (arn G t)∧Ed G m t∧(arn G t).length≤G.length:=by
 unfold arn
 by_cases hs:(t:Int)∈G.getD (t:Int).toNat []
 ·rw[if_pos hs]
  exact⟨t,.one (by simp),⟨by omega,by omega,hs⟩,by simp;omega⟩
 ·rw[if_neg hs]
  have hS:incr G.length (-1) [(t:Int)]:=incr_one (by omega) (by omega)
  obtain⟨y,h1,h2⟩:=hc
  obtain⟨m,h3,h4⟩:=Rch.last h1 h2
  have hm:(m:Int)∈(fin G [(t:Int)]).2:=(fin_mem hn hS hE).2 ⟨t,by simp,h3⟩
  have hmE:=(hE m t).1 h4
  have hb:back G t m=true:=by
   unfold back
   simp only[Int.toNat_natCast,Bool.and_eq_true,decide_eq_true_eq]
   refine⟨fun e=>hs ?_,hmE.2⟩
   have:m=t:=by omega
   subst this
   rw[Int.toNat_natCast]
   exact hmE.2
  cases hf:(fin G [(t:Int)]).2.find? (back G t) with
  | none=>
   rw[List.find?_eq_none] at hf
   exact absurd hb (by simpa using hf m hm)
  | some q=>
   have hq:=List.mem_of_find?_eq_some hf
   have hqb:=List.find?_some hf
   have hp:=path_ok hn hS hq
   have hin:=(sN_inv hn hS G.length).1.inq q hq
   unfold back at hqb
   simp only[Bool.and_eq_true,decide_eq_true_eq] at hqb
   refine⟨q,?_,⟨hin.1,hin.2.1,hqb.2⟩,?_⟩
   ·unfold hitL;rw[hf];exact hp.2.2
   ·unfold hitL;rw[hf];exact hp.2.1
noncomputable def gA (a:Aut):Int→Bool:=fun t=>a.acc.getD t.toNat false && @decide (Cyc a.E t.toNat) (Classical.propDecidable _)
theorem gA_iff {a:Aut}{t:Int}:gA a t=true↔tru a.acc t.toNat∧Cyc a.E t.toNat:=by simp[gA,tru]
noncomputable def fw (a:Aut):Option Las:=match (fin (nx a) a.init).2.find? (gA a) with
 | some t=>some ⟨vals a (path (nx a) a.init t),vals a (arn (nx a) t++[t])⟩
 | none=>none
section
variable {a:Aut}
theorem LP_of (ha:a.Ok) {S:List Int}{x:Int}{l:List Int}(h:Pth S (Ed (nx a)) x l) (hS:∀s∈S,0≤s):∃s∈S,0≤x∧LP a.edges s.toNat (vals a l) x.toNat∧∀y∈vals a l,0≤y∧y≤7:=by
 induction h with
 | one h=>exact⟨_,h,hS _ h,.nil _,by simp[vals]⟩
 | snoc h e ih=>
  rename_i x y l
  obtain⟨s,hs,h0,h1,h2⟩:=ih
  obtain⟨l0,rfl⟩:=h.last
  rw[vals_snoc]
  obtain⟨f,hf,k1,k2,k3,k4,k5,k6⟩:=ev_ok ha ((nx_Ed ha).1 e)
  obtain⟨p,q,m1,m2,_,_⟩:=ha.tr hf
  refine⟨s,hs,by omega,h1.append (.cons ⟨f,hf,by omega,by omega,k4⟩ (.nil _)),fun z hz=>?_⟩
  rcases List.mem_append.1 hz with hz | hz
  ·exact h2 z hz
  ·obtain rfl:z=ev a x y:=by simpa using hz
   exact⟨k5,k6⟩
theorem fw_some (ha:a.Ok) {l:Las}(h:fw a=some l):(∃(s x:Nat),(s:Int)∈a.init∧LP a.edges s l.stem x∧LP a.edges x l.loop x∧tru a.acc x)∧(∀y∈l.stem,0≤y∧y≤7)∧(∀y∈l.loop,0≤y∧y≤7)∧l.stem.length≤63∧1≤l.loop.length∧l.loop.length≤64:=by
 have hn:=nx_ok ha
 have hlen:=nx_len (a:=a)
 have hS:incr (nx a).length (-1) a.init:=by rw[hlen];exact ha.i
 have h64:=ha.n.2
 unfold fw at h
 split at h
 ·rename_i t hf
  simp only[Option.some.injEq] at h
  subst h
  have ht:=List.mem_of_find?_eq_some hf
  have htg:=gA_iff.1 (List.find?_some hf)
  have hp:=path_ok hn hS ht
  have hin:=(sN_inv hn hS (nx a).length).1.inq t ht
  obtain⟨q,rfl⟩:∃q:Nat,t=q:=⟨t.toNat,by omega⟩
  rw[Int.toNat_natCast] at htg
  obtain⟨m,c1,c2,c3⟩:=arn_ok hn (nx_E ha) (t:=q) (by omega) htg.2
  have c4:=c1.snoc c2
  obtain⟨s,hs,_,p1,p2⟩:=LP_of ha hp.2.2 (fun s hs=>by have:=incr_mem ha.i s hs;omega)
  obtain⟨s',hs',_,p3,p4⟩:=LP_of ha c4 (fun s hs=>by have:s=q:=by simpa using hs
                                                    omega)
  obtain rfl:s'=q:=by simpa using hs'
  rw[Int.toNat_natCast] at p1 p3
  have hs0:=incr_mem ha.i s hs
  have l1:=vals_len (a:=a) (l:=path (nx a) a.init q)
  have l2:=vals_len (a:=a) (l:=arn (nx a) q++[(q:Int)])
  have hne:1≤(arn (nx a) q).length:=by
   obtain⟨_,_,t,e⟩:=c1.head
   rw[e];simp
  rw[List.length_append,List.length_singleton] at l2
  have l3:=hp.2.1
  refine⟨⟨s.toNat,q,by rw[Int.toNat_of_nonneg (by omega)];exact hs,p1,p3,htg.1⟩,p2,p4,?_,?_,?_⟩
  ·simp only;omega
  ·simp only;omega
  ·simp only;omega
 ·simp at h
theorem fw_none (ha:a.Ok) (h:fw a=none) {s:Nat}(hs:(s:Int)∈a.init):¬a.Live s:=by
 have hn:=nx_ok ha
 have hS:incr (nx a).length (-1) a.init:=by rw[nx_len];exact ha.i
 unfold fw at h
 split at h
 ·simp at h
 ·rename_i hf
  rintro⟨t,h1,h2,h3⟩
  rw[List.find?_eq_none] at hf
  have hm:(t:Int)∈(fin (nx a) a.init).2:=(fin_mem hn hS (nx_E ha)).2 ⟨s,hs,h1⟩
  exact hf t hm (gA_iff.2 ⟨by rw[Int.toNat_natCast];exact h3,by rw[Int.toNat_natCast];exact h2⟩)
end
end Bf
def okR (f:Aut→Aut) (h:Heap) (a:Aut) (u:Value) (h':Heap):Prop:=∃v,u=.tuple #[v,.bool (decide a.Ok)]∧HS h [ow v (if a.Ok then f a else Aut.empty)] h'
theorem okR.no {f:Aut→Aut}{h h':Heap}{a:Aut}(hn:¬a.Ok) (H:HS h [] h'):okR f h a (.tuple #[.agg #[.slice none 0 0,.slice none 0 0,.slice none 0 0],.bool false]) h':=
 ⟨_,by rw[decide_eq_false hn],by rw[if_neg hn];exact empty_ow H⟩
theorem okR.yes {f:Aut→Aut}{h h':Heap}{a:Aut}{v:Value}(hn:a.Ok) (H:HS h [ow v (f a)] h'):okR f h a (.tuple #[v,.bool true]) h':=
 ⟨_,by rw[decide_eq_true hn],by rw[if_pos hn];exact H⟩
theorem c_IndexFunc_int {h:Heap}{a fv:Value}{x:List Int}(Ra:Rep h a x) {f:FuncId}{c1 c2:List Value}(hf:fnOf fv=some (f,c1,c2)) (p:Int→Bool)
  (hp:∀h1,h.le h1→∀(i:Nat) (hi:i<x.length) (u:Value),Rep h1 u x[i]→CallE Tryz.prog f (c1++u::c2) h1 (fun v h'=>h1.le h'∧v=.bool (p x[i]))) :
  CallE Tryz.prog fn_slices_IndexFunc_S_int_int [a,fv] h (fun v h'=>h.le h'∧v=.int .i64 (match x.findIdx? p with | some i=>(i:Int) | none=>-1)):=by
 refine CallE.gen fun k hk=>EN_slices_IndexFunc_S_int_int rfl ?_
 have hL:=Ra.lt
 simp -implicitDefEqProofs (disch:=first|omega|(simp only[LnZ];omega))[wrap64,Ra.len]
 refine wp_count x.length (fun i e h'=>e=[some a,some fv,none,none,some (.int .i64 x.length),some (.int .i64 i)]∧h.le h'∧∀(j:Nat) (hj:j<x.length),j<i→p x[j]=false) ⟨rfl,Heap.le.refl h,fun j _ hj=>absurd hj (Nat.not_lt_zero j)⟩ ?_
 rintro J i _ h1 hJ hi ⟨rfl,hl,hn⟩
 simp -implicitDefEqProofs (disch:=omega)[wrap64]
 refine IteW.mk (fun hlt=>?_) (fun hge=>?_)
 ·have hlx:i<x.length:=by omega
  obtain⟨u,hu,Ru⟩:=(Ra.le hl).ld hlx
  change hload _ (some (elp 1 a i)) none=some u at hu
  simp -implicitDefEqProofs (disch:=first|omega|(simp only[LnZ];omega))[wrap64,(Ra.le hl).X (n:=1) rfl,hu,hf]
  refine (hp h1 hl i hlx u Ru).go ?_
  rintro _ h2 ⟨hl2,rfl⟩
  simp -implicitDefEqProofs (disch:=omega)[wrap64]
  refine IteW.mk (fun hq=>?_) (fun hq=>?_)
  ·simp -implicitDefEqProofs (disch:=omega)[wrap64]
   refine RetK.keep (hk _ _ ⟨hl.trans hl2,?_⟩)
   have h3:x.findIdx? p=some i:=by
    rw[List.findIdx?_eq_some_iff_getElem]
    exact⟨hlx,hq,fun j hj=>by rw[hn j (by omega) hj];simp⟩
   rw[h3]
  ·simp -implicitDefEqProofs (disch:=omega)[wrap64]
   refine hJ _ _ hlx ⟨rfl,hl.trans hl2,fun j hj hji=>?_⟩
   by_cases hji2:j=i
   ·subst hji2;simpa using hq
   ·exact hn j hj (by omega)
 ·simp -implicitDefEqProofs (disch:=omega)[wrap64]
  refine RetK.keep (hk _ _ ⟨hl,?_⟩)
  have h3:x.findIdx? p=none:=by
   rw[List.findIdx?_eq_none_iff]
   intro y hy
   obtain⟨j,hj,rfl⟩:=List.mem_iff_getElem.1 hy
   exact hn j hj (by omega)
  rw[h3]
theorem c_ContainsFunc_int {h:Heap}{a fv:Value}{x:List Int}(Ra:Rep h a x) {f:FuncId}{c1 c2:List Value}(hf:fnOf fv=some (f,c1,c2)) (p:Int→Bool)
  (hp:∀h1,h.le h1→∀(i:Nat) (hi:i<x.length) (u:Value),Rep h1 u x[i]→CallE Tryz.prog f (c1++u::c2) h1 (fun v h'=>h1.le h'∧v=.bool (p x[i]))) :
  CallE Tryz.prog fn_slices_ContainsFunc_S_int_int [a,fv] h (fun v h'=>h.le h'∧v=.bool (x.any p)):=by
 refine CallE.gen fun k hk=>EN_slices_ContainsFunc_S_int_int rfl ?_
 simp -implicitDefEqProofs (disch:=omega)[wrap64]
 refine (c_IndexFunc_int Ra hf p hp).go ?_
 rintro _ h1 ⟨hl,rfl⟩
 simp -implicitDefEqProofs (disch:=omega)[wrap64]
 refine RetK.keep (hk _ _ ⟨hl,?_⟩)
 congr 1
 rw[← List.findIdx?_isSome]
 cases x.findIdx? p<;>simp
theorem c_takes {h:Heap}{v:Value}{t:Tr}(Rt:Rep h v t) {n:Int}:CallE Tryz.prog fn_impl_Transition_takes [v,.int .i64 n] h (fun u h'=>h'=h∧u=.bool (t.on n)):=by
 rw[(Rep_Tr.1 Rt).1]
 refine CallE.gen fun k hk=>EN_impl_Transition_takes rfl ?_
 simp -implicitDefEqProofs (disch:=first|omega|(simp only[LnZ];omega))[wrap64,Tr.v]
 exact RetK.keep (hk _ _ ⟨rfl,rfl⟩)
theorem c_l7On {h:Heap}{v:Value}{t:Tr}(Rt:Rep h v t) {n:Int}:CallE Tryz.prog fn_spec_l7On [v,.int .i64 n] h (fun u h'=>h'=h∧u=.bool (t.on n)):=by
 rw[(Rep_Tr.1 Rt).1]
 refine CallE.gen fun k hk=>EN_spec_l7On rfl ?_
 simp -implicitDefEqProofs (disch:=first|omega|(simp only[LnZ];omega))[wrap64,Tr.v]
 exact RetK.keep (hk _ _ ⟨rfl,rfl⟩)
theorem tru_set2 {B:List Bool}{i:Nat}(hi:i<B.length) {b:Bool}{x:Nat}:tru (B.set i b) x↔if x=i then b=true else tru B x:=by
 simp only[tru,List.getD_eq_getElem?_getD,List.getElem?_set]
 by_cases e:i=x
 ·subst e;simp[hi]
 ·simp[e,Ne.symm e]
theorem c_begin {h:Heap}{v l:Value}{a:Aut}{L:List Bool}(Ra:Rep h v a) (Rl:Rep h l L) (ha:a.Ok) (hLl:L.length=a.acc.length) (hL:∀q,tru L q↔q<a.acc.length∧a.Live q) :
  CallE Tryz.prog fn_impl_Automaton_begin [v,l] h (fun u h'=>∃B:List Bool,HS h [ow u B] h'∧B.length=a.acc.length∧∀q,tru B q↔a.beg q):=by
 obtain⟨v1,v2,v3,rfl,R1,R2,R3⟩:=Rep_Aut.1 Ra
 have hn:=ha.n
 have hil:=ha.il
 refine CallE.gen fun k hk=>EN_impl_Automaton_begin rfl ?_
 simp -implicitDefEqProofs (disch:=first|omega|(simp only[LnZ];omega))[wrap64,Rl.len]
 refine HS.init.mks (α:=Bool) (z:=false) rfl rfl own_false (Nat.le_refl _) (by omega) (by omega) fun b h1 H=>?_
 simp -implicitDefEqProofs (disch:=first|omega|(simp only[LnZ];omega))[wrap64,(R1.on H).len]
 refine wp_count a.init.length (fun i e h'=>e=[none,some l,none,none,some b,none,some v1,some (.int .i64 a.init.length),some (.int .i64 i)]∧∃B:List Bool,HS h [ow b B] h'∧B.length=a.acc.length∧∀q:Nat,tru B q↔(q:Int)∈a.init.take i∧a.Live q) ⟨by simp,_,H,by simp[hLl],fun q=>by simp[tru_replicate]⟩ ?_
 clear H
 rintro J i _ h2 hJ hi ⟨rfl,B,H,hBl,hB⟩
 simp -implicitDefEqProofs (disch:=omega)[wrap64]
 refine IteW.mk (fun hlt=>?_) (fun hge=>?_)
 ·have hix:i<a.init.length:=by omega
  have hx:=ha.im hix
  obtain⟨q,hq⟩:∃q:Nat,a.init[i]=q:=⟨a.init[i].toNat,by omega⟩
  have hqn:q<a.acc.length:=by omega
  simp -implicitDefEqProofs (disch:=first|omega|(simp only[LnZ];omega))[wrap64,(R1.on H).I,hq,(Rl.on H).B,H.rep.B]
  refine H.storeF (L[q]'(by omega)) (i:=q) (by omega) rfl rfl trivial rfl fun h3 H=>?_
  simp -implicitDefEqProofs (disch:=omega)[wrap64]
  refine hJ _ _ hix ⟨rfl,_,H,by simpa using hBl,fun x=>?_⟩
  rw[tru_set2 (by omega),take_mem_succ hix,hq]
  have hLq:=hL q
  rw[tru_get (by omega)] at hLq
  split
  ·rename_i e
   subst e
   rw[hLq]
   simp[hqn]
  ·rename_i e
   rw[hB]
   have e2:¬((x:Int)=q):=by omega
   simp[e2]
 simp -implicitDefEqProofs (disch:=omega)[wrap64]
 rw[List.take_of_length_le (by omega)] at hB
 exact RetK.keep (hk _ _ ⟨B,H,hBl,hB⟩)
theorem c_after {h:Heap}{v l s:Value}{a:Aut}{L S:List Bool}{letter:Int}(Ra:Rep h v a) (Rl:Rep h l L) (Rs:Rep h s S) (ha:a.Ok) (hLl:L.length=a.acc.length) (hSl:S.length=a.acc.length) (hL:∀q,tru L q↔q<a.acc.length∧a.Live q) :
  CallE Tryz.prog fn_impl_Automaton_after [v,l,s,.int .i64 letter] h (fun u h'=>∃B:List Bool,HS h [ow u B] h'∧B.length=a.acc.length∧∀q,tru B q↔a.aft (tru S) letter q):=by
 obtain⟨v1,v2,v3,rfl,R1,R2,R3⟩:=Rep_Aut.1 Ra
 have hn:=ha.n
 have he:=ha.e
 refine CallE.gen fun k hk=>EN_impl_Automaton_after rfl ?_
 simp -implicitDefEqProofs (disch:=first|omega|(simp only[LnZ];omega))[wrap64,Rl.len]
 refine HS.init.mks (α:=Bool) (z:=false) rfl rfl own_false (Nat.le_refl _) (by omega) (by omega) fun b h1 H=>?_
 simp -implicitDefEqProofs (disch:=first|omega|(simp only[LnZ];omega))[wrap64,(R3.on H).len]
 refine wp_count a.edges.length (fun i e h'=>e=[none,some l,some s,some (.int .i64 letter),none,none,some b,none,some v3,some (.int .i64 a.edges.length),some (.int .i64 i)]∧∃B:List Bool,HS h [ow b B] h'∧B.length=a.acc.length∧∀q:Nat,tru B q↔a.Live q∧∃e∈a.edges.take i,tru S e.frm.toNat∧e.to=q∧e.on letter=true) ⟨by simp,_,H,by simp[hLl],fun q=>by simp[tru_replicate]⟩ ?_
 clear H
 rintro J i _ h2 hJ hi ⟨rfl,B,H,hBl,hB⟩
 simp -implicitDefEqProofs (disch:=omega)[wrap64]
 refine IteW.mk (fun hlt=>?_) (fun hge=>?_)
 ·have hix:i<a.edges.length:=by omega
  have hx:=ha.t hix
  have hv:=R3.okTr hix
  unfold Tr.Ok at hx
  obtain⟨f,hf⟩:∃f:Nat,a.edges[i].frm=f:=⟨a.edges[i].frm.toNat,by omega⟩
  obtain⟨t,ht⟩:∃t:Nat,a.edges[i].to=t:=⟨a.edges[i].to.toNat,by omega⟩
  have hLt:=hL t
  rw[tru_get (by omega)] at hLt
  have hSf:=tru_get (B:=S) (i:=f) (by omega)
  have hstep:∀B':List Bool,(∀q:Nat,tru B' q↔tru B q∨(q=t∧a.Live q∧tru S f∧a.edges[i].on letter=true))→∀q:Nat,tru B' q↔a.Live q∧∃e∈a.edges.take (i+1),tru S e.frm.toNat∧e.to=q∧e.on letter=true:=by
   intro B' hB' q
   rw[hB',hB]
   constructor
   ·rintro (⟨h1,e,h2,h3⟩ | ⟨rfl,h1,h2,h3⟩)
    ·exact⟨h1,e,(take_mem_succ hix).2 (.inl h2),h3⟩
    ·exact⟨h1,_,(take_mem_succ hix).2 (.inr rfl),by rw[hf];simpa using h2,ht,h3⟩
   ·rintro⟨h1,e,h2,h3,h4,h5⟩
    rcases (take_mem_succ hix).1 h2 with h2 | rfl
    ·exact .inl ⟨h1,e,h2,h3,h4,h5⟩
    ·rw[hf] at h3
     exact .inr ⟨by omega,h1,by simpa using h3,h5⟩
  have hkeep:¬(a.Live t∧tru S f∧a.edges[i].on letter=true)→∀h3,HS h [ow b B] h3→J [none,some l,some s,some (.int .i64 letter),none,none,some b,none,some v3,some (.int .i64 a.edges.length),some (.int .i64 ((i+1:Nat):Int))] h3:=
   fun hno h3 H=>hJ _ _ hix ⟨by simp,B,H,hBl,hstep B fun q=>⟨.inl,fun hh=>hh.elim id fun ⟨e,h1,h2⟩=>absurd (e▸⟨h1,h2⟩) hno⟩⟩
  by_cases e1:S[f]'(by omega)=true
  case neg=>
   simp -implicitDefEqProofs (disch:=first|omega|(simp only[LnZ];omega))[wrap64,(R3.on H).xTr,Tr.v,setC,hf,(Rs.on H).B,e1]
   exact hkeep (fun hh=>e1 (hSf.1 hh.2.1)) _ H
  by_cases e2:L[t]'(by omega)=true
  case neg=>
   simp -implicitDefEqProofs (disch:=first|omega|(simp only[LnZ];omega))[wrap64,(R3.on H).xTr,Tr.v,setC,hf,ht,(Rs.on H).B,(Rl.on H).B,e1,e2]
   exact hkeep (fun hh=>e2 (hLt.2 ⟨by omega,hh.1⟩)) _ H
  simp -implicitDefEqProofs (disch:=first|omega|(simp only[LnZ];omega))[wrap64,(R3.on H).xTr,Tr.v,setC,hf,ht,(Rs.on H).B,(Rl.on H).B,e1,e2]
  refine (c_takes (t:=a.edges[i]) (Rep_Tr.2 ⟨by simp[Tr.v,hf,ht],hv⟩)).go ?_
  rintro _ _ ⟨rfl,rfl⟩
  by_cases e3:a.edges[i].on letter=true
  case neg=>
   simp -implicitDefEqProofs (disch:=first|omega|(simp only[LnZ];omega))[wrap64,e3]
   exact hkeep (fun hh=>e3 hh.2.2) _ H
  simp -implicitDefEqProofs (disch:=first|omega|(simp only[LnZ];omega))[wrap64,e3,H.rep.B]
  refine H.storeF true (i:=t) (by omega) rfl rfl trivial rfl fun h3 H=>?_
  simp -implicitDefEqProofs (disch:=omega)[wrap64]
  refine hJ _ _ hix ⟨by simp,_,H,by simpa using hBl,hstep _ fun q=>?_⟩
  rw[tru_set (by omega)]
  constructor
  ·rintro (h1 | rfl)
   ·exact .inl h1
   ·exact .inr ⟨rfl,(hLt.1 e2).2,hSf.2 e1,e3⟩
  ·rintro (h1 | h1)
   ·exact .inl h1
   ·exact .inr h1.1
 simp -implicitDefEqProofs (disch:=omega)[wrap64]
 rw[List.take_of_length_le (by omega)] at hB
 exact RetK.keep (hk _ _ ⟨B,H,hBl,hB⟩)
theorem c_members {h:Heap}{s:Value}{S:List Bool}(Rs:Rep h s S) (hl:S.length≤1048576):CallE Tryz.prog fn_impl_members [s] h (fun u h'=>HS h [ow u (memL (fun q=>S.getD q false) S.length)] h'):=by
 refine CallE.gen fun k hk=>EN_impl_members rfl ?_
 simp -implicitDefEqProofs (disch:=first|omega|(simp only[LnZ];omega))[wrap64,Rs.len]
 have H:=(HS.init (h:=h)).nil_ow (α:=Int)
 refine wp_count S.length (fun i e h'=>∃o,e=[none,none,some o,none,none,some s,some (.int .i64 S.length),some (.int .i64 i)]∧HS h [ow o (memL (fun q=>S.getD q false) i)] h') ⟨.slice none 0 0,by simp,by simpa[memL] using H⟩ ?_
 clear H
 rintro J i _ h2 hJ hi ⟨o,rfl,H⟩
 simp -implicitDefEqProofs (disch:=omega)[wrap64]
 refine IteW.mk (fun hlt=>?_) (fun hge=>?_)
 ·have hix:i<S.length:=by omega
  have hml:=memL_length (K:=fun q=>S.getD q false) (i:=i)
  have hgd:S.getD i false=S[i]:=by simp[hix]
  cases hb:S[i] with
  | true=>
   simp -implicitDefEqProofs (disch:=first|omega|(simp only[LnZ];omega))[wrap64,(Rs.on H).B,hb]
   refine H.app1 (i:Int) rfl rfl rfl ⟨by omega,by omega⟩ rfl rfl (by omega) (by omega) fun o' h3 H=>?_
   simp -implicitDefEqProofs (disch:=omega)[wrap64]
   refine hJ _ _ hix ⟨o',rfl,?_⟩
   rw[memL_succ,hgd,hb];exact H
  | false=>
   simp -implicitDefEqProofs (disch:=first|omega|(simp only[LnZ];omega))[wrap64,(Rs.on H).B,hb]
   refine hJ _ _ hix ⟨o,rfl,?_⟩
   rw[memL_succ,hgd,hb];simpa using H
 have hii:i=S.length:=by omega
 subst hii
 simp -implicitDefEqProofs (disch:=omega)[wrap64]
 refine (c_Clip_int H).go ?_
 intro o' h3 H
 simp -implicitDefEqProofs (disch:=omega)[wrap64]
 exact RetK.keep (hk _ _ H)
theorem c_letters_1 {h:Heap}{n:Int}:CallE Tryz.prog fn_impl_letters_1 [.int .i64 n] h (fun u h'=>h'=h∧u=.bool (!decide (0≤n∧n≤7))):=by
 refine CallE.gen fun k hk=>EN_impl_letters_1 rfl ?_
 simp -implicitDefEqProofs (disch:=omega)[wrap64]
 refine c_in.go ?_
 rintro _ _ ⟨rfl,rfl⟩
 simp -implicitDefEqProofs (disch:=omega)[wrap64]
 exact RetK.keep (hk _ _ ⟨rfl,by simp⟩)
theorem c_letters {h:Heap}{w:Value}{W:List Int}(Rw:Rep h w W):CallE Tryz.prog fn_impl_letters [w] h (fun u h'=>h.le h'∧u=.bool (decide (∀x∈W,0≤x∧x≤7))):=by
 refine CallE.gen fun k hk=>EN_impl_letters rfl ?_
 simp -implicitDefEqProofs (disch:=omega)[wrap64]
 refine (c_ContainsFunc_int Rw (c1:=[]) (c2:=[]) (f:=fn_impl_letters_1) rfl (fun n=>!decide (0≤n∧n≤7)) ?_).go ?_
 ·intro h3 hl j hj u Ru
  obtain⟨rfl,_⟩:=Rep_int.1 Ru
  exact (c_letters_1 (n:=W[j])).to fun _ _ ⟨h4,h5⟩=>⟨h4▸Heap.le.refl _,h5⟩
 ·rintro _ h3 ⟨hl,rfl⟩
  simp -implicitDefEqProofs (disch:=omega)[wrap64]
  refine RetK.keep (hk _ _ ⟨hl,?_⟩)
  congr 1
  rw[Bool.eq_iff_iff]
  simp
theorem c_wordOk {h:Heap}{w:Value}{W:List Int}(Rw:Rep h w W):CallE Tryz.prog fn_impl_wordOk [w] h (fun u h'=>h.le h'∧u=.bool (decide (Wok W))):=by
 have hL:=Rw.lt
 refine CallE.gen fun k hk=>EN_impl_wordOk rfl ?_
 simp -implicitDefEqProofs (disch:=first|omega|(simp only[LnZ];omega))[wrap64,Rw.len]
 by_cases h1:(W.length:Int)≤200
 ·simp -implicitDefEqProofs (disch:=first|omega|(simp only[LnZ];omega))[wrap64,h1]
  refine (c_letters Rw).go ?_
  rintro _ h2 ⟨hl,rfl⟩
  simp -implicitDefEqProofs (disch:=omega)[wrap64]
  refine RetK.keep (hk _ _ ⟨hl,?_⟩)
  congr 1
  rw[Bool.eq_iff_iff]
  have:W.length≤200:=by omega
  simp[Wok,this]
 ·simp -implicitDefEqProofs (disch:=first|omega|(simp only[LnZ];omega))[wrap64,h1]
  refine RetK.keep (hk _ _ ⟨Heap.le.refl _,?_⟩)
  congr 1
  rw[eq_comm,decide_eq_false_iff_not]
  intro hh
  have:=hh.1
  omega
theorem c_prefix {h:Heap}{v w:Value}{a:Aut}{W:List Int}(Ra:Rep h v a) (Rw:Rep h w W) (ha:a.Ok):CallE Tryz.prog fn_impl_Automaton_prefix [v,w] h (fun u h'=>HS h [ow u (a.states W)] h'):=by
 have hn:=ha.n
 have hwl:=Rw.lt
 have Fa:=Ra.aAut
 refine CallE.gen fun k hk=>EN_impl_Automaton_prefix rfl ?_
 simp -implicitDefEqProofs (disch:=first|omega|(simp only[LnZ];omega))[wrap64,Fa]
 refine (c_live Ra ha).go ?_
 rintro l h1 ⟨L,H,hLl,hL⟩
 simp -implicitDefEqProofs (disch:=first|omega|(simp only[LnZ];omega))[wrap64,Fa]
 refine (c_begin (Ra.on H) H.rep ha hLl hL).go ?_
 rintro b h2 ⟨B,H2,hBl,hB⟩
 have H:=H2.app H
 simp -implicitDefEqProofs (disch:=first|omega|(simp only[LnZ];omega))[wrap64,Fa,(Rw.on H).len]
 refine wp_count W.length (fun i e h'=>∃b,e=[none,none,some v,none,some l,some b,none,some w,some (.int .i64 W.length),some (.int .i64 i)]∧∃B:List Bool,HS h [ow b B,ow l L] h'∧B.length=a.acc.length∧∀q:Nat,tru B q↔a.behind (W.take i) q) ⟨b,by simp,B,H,hBl,hB⟩ ?_
 clear H hB hBl
 rintro J i _ h3 hJ hi ⟨b,rfl,B,H,hBl,hB⟩
 simp -implicitDefEqProofs (disch:=omega)[wrap64]
 refine IteW.mk (fun hlt=>?_) (fun hge=>?_)
 ·have hix:i<W.length:=by omega
  simp -implicitDefEqProofs (disch:=first|omega|(simp only[LnZ];omega))[wrap64,Fa,(Rw.on H).I]
  refine (c_after (Ra.on H) H.sw1.rep H.rep ha hLl hBl hL).go ?_
  rintro b' h4 ⟨B',H4,hBl',hB'⟩
  have H:=(H4.app H).sw1.drop
  simp -implicitDefEqProofs (disch:=first|omega|(simp only[LnZ];omega))[wrap64,Fa]
  refine hJ _ _ hix ⟨b',rfl,B',H,hBl',fun q=>?_⟩
  rw[hB',Aut.behind,foldl_take hix,funext fun q=>propext (hB q)]
  exact Iff.rfl
 simp -implicitDefEqProofs (disch:=omega)[wrap64]
 rw[List.take_of_length_le (by omega)] at hB
 refine (c_members H.rep (by omega)).go ?_
 intro o h4 H4
 have H:=(H4.app H).only
 simp -implicitDefEqProofs (disch:=omega)[wrap64]
 have he:memL (fun q=>B.getD q false) B.length=a.states W:=by
  refine Aut.states_eq (by rw[hBl];exact memL_incr (Nat.le_refl _)) fun q=>?_
  rw[memL_mem,← hB,← hBl]
  constructor
  ·rintro⟨q',e,h5,h6⟩
   obtain rfl:q=q':=by omega
   exact⟨h5,h6⟩
  ·rintro⟨h5,h6⟩;exact⟨q,rfl,h5,h6⟩
 rw[he] at H
 exact RetK.keep (hk _ _ H)
section
variable {P:Program}{k:Env→Heap→Prop}{e:Env}{g h:Heap}{Γ:List HP}{v:Value}{α:Type}
theorem bls_two [Ty α] {u1 u2:Value}{y1 y2:α}(R1:Rep h u1 y1) (R2:Rep h u2 y2) {esz:Nat}{zero:List Value}{parts:List (Nat×Nat×O)}{dst:Nat}(hf:fillP e (reps 2 zero) parts=some (u1.cells.toList++u2.cells.toList))
  (K:∀v' h',h.le h'→Rep h' v' [y1,y2]→k (eset e dst (some v')) h'):(A.ex (some dst) (.bls esz 2 zero parts)).wp P k e h:=by
 obtain⟨c1,rfl,r1⟩:=R1
 obtain⟨c2,rfl,r2⟩:=R2
 rw[rep_cells r1,rep_cells r2] at hf
 have l1:=Ty.len r1
 have l2:=Ty.len r2
 refine⟨_,hf,fun b el hb=>Fgt.keep ?_⟩
 rw[set_new hb]
 have hd:Dj h (Heap.one b (.cells (c1++c2).toArray el (0,0))):=Dj_one.2 hb
 have hbb:(h.add (Heap.one b (.cells (c1++c2).toArray el (0,0)))) b=some (.cells (c1++c2).toArray el (0,0)):=by simp[Heap.add,Heap.one,hb]
 refine K _ _ (le_add hd) (Rep_list.2 ⟨some ⟨b,0,none⟩,2,rfl,⟨Nat.le_refl _,by simp⟩,trivial,fun i hi=>?_⟩)
 refine⟨b,0,((c1++c2).drop (0+i*Ty.sz α)).take (Ty.sz α),rfl,?_,?_⟩
 ·rw[hcells_mk hbb (by simp at hi ⊢;rcases (by omega:i=0∨i=1) with rfl | rfl<;>simp<;>omega)]
 ·simp only[List.length_cons,List.length_nil] at hi
  rcases (by omega:i=0∨i=1) with rfl | rfl
  ·have e1:((c1++c2).drop (0+0*Ty.sz α)).take (Ty.sz α)=c1:=by simp[← l1]
   rw[e1]
   exact Ty.mono (le_add hd) r1
  ·have e1:((c1++c2).drop (0+1*Ty.sz α)).take (Ty.sz α)=c2:=by
    rw[show 0+1*Ty.sz α=c1.length by omega,List.drop_left,List.take_of_length_le (by omega)]
   rw[e1]
   exact Ty.mono (le_add hd) r2
end
structure GI (N B:Nat) (E:Nat→Nat→Prop) (G:List (List Int)):Prop where
 len:G.length=N
 mem:∀x (hx:x<G.length) z,z∈G[x]↔∃y:Nat,z=y∧E x y
 row:∀x (hx:x<G.length),G[x].length≤B
theorem GI.zero {N:Nat}:GI N 0 (fun _ _=>False) (List.replicate N []):=⟨by simp,by simp,by simp⟩
theorem GI.add {N B:Nat}{E:Nat→Nat→Prop}{G:List (List Int)}(h:GI N B E G) {f t:Nat}(hf:f<G.length):GI N (B+1) (fun x y=>E x y∨(x=f∧y=t)) (G.set f (G[f]++[(t:Int)])):=by
 refine⟨by simp[h.len],fun x hx z=>?_,fun x hx=>?_⟩
 ·simp only[List.length_set] at hx
  rw[List.getElem_set]
  split
  ·rename_i e
   subst e
   rw[List.mem_append,h.mem f hf z,List.mem_singleton]
   constructor
   ·rintro (⟨y,h1,h2⟩ | h1)
    ·exact⟨y,h1,.inl h2⟩
    ·exact⟨t,h1,.inr ⟨rfl,rfl⟩⟩
   ·rintro⟨y,h1,h2 | ⟨_,h2⟩⟩
    ·exact .inl ⟨y,h1,h2⟩
    ·subst h2;exact .inr h1
  ·rename_i e
   rw[h.mem x hx z]
   constructor
   ·rintro⟨y,h1,h2⟩;exact⟨y,h1,.inl h2⟩
   ·rintro⟨y,h1,h2 | ⟨h2,_⟩⟩
    ·exact⟨y,h1,h2⟩
    ·exact absurd h2.symm e
 ·simp only[List.length_set] at hx
  rw[List.getElem_set]
  have h1:=h.row f hf
  have h2:=h.row x hx
  split
  ·simp;omega
  ·omega
theorem GI.congr {N B B':Nat}{E E':Nat→Nat→Prop}{G:List (List Int)}(h:GI N B E G) (hB:B≤B') (he:∀x y,E x y↔E' x y):GI N B' E' G:=
 ⟨h.len,fun x hx z=>by rw[h.mem x hx z];exact⟨fun ⟨y,h1,h2⟩=>⟨y,h1,(he x y).1 h2⟩,fun ⟨y,h1,h2⟩=>⟨y,h1,(he x y).2 h2⟩⟩,fun x hx=>Nat.le_trans (h.row x hx) hB⟩
theorem c_l10Sorted {g h:Heap}{Γ:List HP}{v:Value}{l:List Int}{n y:Int}(H:HS g (ow v l::Γ) h) (hl:incr n (-1) l) (hy:-1<y∧y<n) (hn:n≤1048576):CallE Tryz.prog fn_spec_l10Sorted [v,.int .i64 y] h (fun u h'=>∃l',HS g (ow u l'::Γ) h'∧incr n (-1) l'∧∀x,x∈l'↔x∈l∨x=y):=by
 have hll:=incr_len hl (by omega)
 have hp:=(incr_iff.1 hl).1
 refine CallE.gen fun k hk=>EN_spec_l10Sorted rfl ?_
 simp -implicitDefEqProofs (disch:=omega)[wrap64]
 refine H.bls0 Int fun o h1 H=>?_
 simp -implicitDefEqProofs (disch:=omega)[wrap64]
 refine wp_count l.length (fun i e h'=>∃o dn,e=[some v,some (.int .i64 y),none,some o,some (.bool dn),some (.int .i64 i)]∧∃O:List Int,HS g (ow o O::ow v l::Γ) h'∧InsI l y i dn O) ⟨o,false,by simp,[],H,InsI.zero⟩ ?_
 clear H
 rintro J i _ h2 hJ hi ⟨o,dn,rfl,O,H,hI⟩
 have hol:=hI.len
 simp -implicitDefEqProofs (disch:=first|omega|(simp only[LnZ];omega))[wrap64,H.sw1.rep.len]
 refine IteW.mk (fun hlt=>?_) (fun hge=>?_)
 ·have hix:i<l.length:=by omega
  have hxb:=H.sw1.rep.okI hix
  by_cases h1:l[i]=y
  ·simp -implicitDefEqProofs (disch:=first|omega|(simp only[LnZ];omega))[wrap64,H.sw1.rep.I,h1]
   refine RetK.keep (hk _ _ ⟨l,H.drop,hl,fun x=>⟨.inl,fun hh=>hh.elim id fun e=>?_⟩⟩)
   rw[e,← h1];exact List.getElem_mem hix
  by_cases h2:y<l[i]
  ·cases dn with
   | false=>
    simp -implicitDefEqProofs (disch:=first|omega|(simp only[LnZ];omega))[wrap64,H.sw1.rep.I,h1,h2]
    refine H.app1 y rfl rfl rfl ⟨by omega,by omega⟩ rfl rfl (by omega) (by omega) fun o1 h3 H=>?_
    simp -implicitDefEqProofs (disch:=first|omega|(simp only[LnZ];omega))[wrap64,H.sw1.rep.I]
    refine H.app1 l[i] rfl rfl rfl hxb rfl rfl (by simp;omega) (by simp;omega) fun o2 h4 H=>?_
    simp -implicitDefEqProofs (disch:=omega)[wrap64]
    exact hJ _ _ hix ⟨o2,true,rfl,_,H,hI.big hp hix h2⟩
   | true=>
    simp -implicitDefEqProofs (disch:=first|omega|(simp only[LnZ];omega))[wrap64,H.sw1.rep.I,h1,h2]
    refine H.app1 l[i] rfl rfl rfl hxb rfl rfl (by omega) (by omega) fun o2 h4 H=>?_
    simp -implicitDefEqProofs (disch:=omega)[wrap64]
    exact hJ _ _ hix ⟨o2,true,rfl,_,H,hI.more hix h1⟩
  ·simp -implicitDefEqProofs (disch:=first|omega|(simp only[LnZ];omega))[wrap64,H.sw1.rep.I,h1,h2]
   refine H.app1 l[i] rfl rfl rfl hxb rfl rfl (by omega) (by omega) fun o2 h4 H=>?_
   simp -implicitDefEqProofs (disch:=omega)[wrap64]
   refine hJ _ _ hix ⟨o2,dn,rfl,_,H,?_⟩
   cases dn with
   | false=>exact hI.small hix (by omega)
   | true=>exact hI.more hix h1
 ·obtain⟨r1,r2⟩:=hI.result hl hy (by omega)
  cases dn with
  | false=>
   simp -implicitDefEqProofs (disch:=omega)[wrap64]
   refine H.app1 y rfl rfl rfl ⟨by omega,by omega⟩ rfl rfl (by omega) (by omega) fun o1 h3 H=>?_
   simp -implicitDefEqProofs (disch:=omega)[wrap64]
   exact RetK.keep (hk _ _ ⟨_,H.sw1.drop,r1,r2⟩)
  | true=>
   simp -implicitDefEqProofs (disch:=omega)[wrap64]
   exact RetK.keep (hk _ _ ⟨_,H.sw1.drop,r1,r2⟩)
def R2 {α:Type} [Ty α] (b:Bool) (y:α) (h:Heap) (u:Value) (h':Heap):Prop:=∃v,u=.tuple #[v,.bool b]∧HS h [ow v y] h'
theorem c_l12Only {h:Heap}{s l:Value}{S:List Int}{L:List Bool}(Rs:Rep h s S) (Rl:Rep h l L) (hS:∀x∈S,0≤x∧x<L.length) (hSl:S.length≤1048576):CallE Tryz.prog fn_spec_l12Only [s,l] h (fun u h'=>HS h [ow u (S.filter fun x=>L.getD x.toNat false)] h'):=by
 have hll:=Rl.lt
 refine CallE.gen fun k hk=>EN_spec_l12Only rfl ?_
 simp -implicitDefEqProofs (disch:=omega)[wrap64]
 refine HS.init.bls0 Int fun o h1 H=>?_
 simp -implicitDefEqProofs (disch:=omega)[wrap64]
 refine wp_count S.length (fun i e h'=>∃o,e=[some s,some l,none,some o,some (.int .i64 i)]∧HS h [ow o ((S.take i).filter fun x=>L.getD x.toNat false)] h') ⟨o,by simp,by simpa using H⟩ ?_
 clear H
 rintro J i _ h2 hJ hi ⟨o,rfl,H⟩
 have hfl:=List.length_filter_le (fun x:Int=>L.getD x.toNat false) (S.take i)
 simp only[List.length_take] at hfl
 simp -implicitDefEqProofs (disch:=first|omega|(simp only[LnZ];omega))[wrap64,(Rs.on H).len]
 refine IteW.mk (fun hlt=>?_) (fun hge=>?_)
 ·have hix:i<S.length:=by omega
  have hx:=hS _ (List.getElem_mem hix)
  obtain⟨q,hq⟩:∃q:Nat,S[i]=q:=⟨S[i].toNat,by omega⟩
  have hqn:q<L.length:=by omega
  have hgd:L.getD q false=L[q]:=by simp[hqn]
  have hfm:(S.take (i+1)).filter (fun x=>L.getD x.toNat false)=(S.take i).filter (fun x=>L.getD x.toNat false)++if L[q] then [(q:Int)] else []:=by
   rw[List.take_add_one,List.getElem?_eq_getElem hix,List.filter_append]
   congr 1
   simp only[Option.toList_some,List.filter_cons,List.filter_nil,hq,Int.toNat_natCast,hgd]
  cases hb:L[q] with
  | true=>
   simp -implicitDefEqProofs (disch:=first|omega|(simp only[LnZ];omega))[wrap64,(Rs.on H).I,hq,(Rl.on H).B,hb]
   refine H.app1 (q:Int) rfl rfl rfl ⟨by omega,by omega⟩ rfl rfl (by omega) (by omega) fun o' h3 H=>?_
   simp -implicitDefEqProofs (disch:=omega)[wrap64]
   refine hJ _ _ hix ⟨o',rfl,?_⟩
   rw[hfm,hb];exact H
  | false=>
   simp -implicitDefEqProofs (disch:=first|omega|(simp only[LnZ];omega))[wrap64,(Rs.on H).I,hq,(Rl.on H).B,hb]
   refine hJ _ _ hix ⟨o,rfl,?_⟩
   rw[hfm,hb];simpa using H
 simp -implicitDefEqProofs (disch:=omega)[wrap64]
 rw[List.take_of_length_le (by omega)] at H
 exact RetK.keep (hk _ _ H)
theorem c_l12Step {h:Heap}{v s:Value}{a:Aut}{S:List Int}{letter:Int}(Ra:Rep h v a) (Rs:Rep h s S) (ha:a.Ok):CallE Tryz.prog fn_spec_l12Step [v,s,.int .i64 letter] h (fun u h'=>∃T,HS h [ow u T] h'∧incr a.acc.length (-1) T∧∀x,x∈T↔∃e∈a.edges,e.frm∈S∧e.on letter=true∧e.to=x):=by
 obtain⟨v1,v2,v3,rfl,R1,R2,R3⟩:=Rep_Aut.1 Ra
 have hn:=ha.n
 have he:=ha.e
 refine CallE.gen fun k hk=>EN_spec_l12Step rfl ?_
 simp -implicitDefEqProofs (disch:=omega)[wrap64]
 refine HS.init.bls0 Int fun o h1 H=>?_
 simp -implicitDefEqProofs (disch:=omega)[wrap64]
 refine wp_count a.edges.length (fun i e h'=>∃o,e=[none,some s,some (.int .i64 letter),some (.agg #[v1,v2,v3]),none,some o,some (.int .i64 i)]∧∃T:List Int,HS h [ow o T] h'∧incr a.acc.length (-1) T∧∀x,x∈T↔∃e∈a.edges.take i,e.frm∈S∧e.on letter=true∧e.to=x) ⟨o,by simp,[],H,trivial,by simp⟩ ?_
 clear H
 rintro J i _ h2 hJ hi ⟨o,rfl,T,H,hT,hTm⟩
 simp -implicitDefEqProofs (disch:=first|omega|(simp only[LnZ];omega))[wrap64,(R3.on H).len]
 refine IteW.mk (fun hlt=>?_) (fun hge=>?_)
 ·have hix:i<a.edges.length:=by omega
  have hx:=ha.t hix
  have hv:=R3.okTr hix
  unfold Tr.Ok at hx
  have hstep:∀T':List Int,(∀x,x∈T'↔x∈T∨(a.edges[i].frm∈S∧a.edges[i].on letter=true∧a.edges[i].to=x))→∀x,x∈T'↔∃e∈a.edges.take (i+1),e.frm∈S∧e.on letter=true∧e.to=x:=by
   intro T' hT' x
   rw[hT',hTm]
   constructor
   ·rintro (⟨e,h1,h2⟩ | h1)
    ·exact⟨e,(take_mem_succ hix).2 (.inl h1),h2⟩
    ·exact⟨_,(take_mem_succ hix).2 (.inr rfl),h1⟩
   ·rintro⟨e,h1,h2⟩
    rcases (take_mem_succ hix).1 h1 with h1 | rfl
    ·exact .inl ⟨e,h1,h2⟩
    ·exact .inr h2
  simp -implicitDefEqProofs (disch:=first|omega|(simp only[LnZ];omega))[wrap64,(R3.on H).xTr,(R3.on H).fTr,Tr.v]
  refine (c_l4In (Rs.on H)).go ?_
  rintro _ _ ⟨rfl,rfl⟩
  by_cases h1:a.edges[i].frm∈S
  case neg=>
   simp -implicitDefEqProofs (disch:=first|omega|(simp only[LnZ];omega))[wrap64,h1]
   exact hJ _ _ hix ⟨o,by simp,T,H,hT,hstep T fun x=>⟨.inl,fun hh=>hh.elim id fun hh=>absurd hh.1 h1⟩⟩
  simp -implicitDefEqProofs (disch:=first|omega|(simp only[LnZ];omega))[wrap64,h1,(R3.on H).xTr,Tr.v]
  refine (c_l7On (t:=a.edges[i]) (Rep_Tr.2 ⟨by simp[Tr.v],hv⟩)).go ?_
  rintro _ _ ⟨rfl,rfl⟩
  by_cases h3:a.edges[i].on letter=true
  case neg=>
   simp -implicitDefEqProofs (disch:=first|omega|(simp only[LnZ];omega))[wrap64,h3]
   exact hJ _ _ hix ⟨o,by simp,T,H,hT,hstep T fun x=>⟨.inl,fun hh=>hh.elim id fun hh=>absurd hh.2.1 h3⟩⟩
  simp -implicitDefEqProofs (disch:=first|omega|(simp only[LnZ];omega))[wrap64,h3,(R3.on H).xTr,(R3.on H).fTr,Tr.v]
  refine (c_l10Sorted H hT (by omega) (by omega)).go ?_
  rintro o' h4 ⟨T',H,hT',hTm'⟩
  simp -implicitDefEqProofs (disch:=omega)[wrap64]
  refine hJ _ _ hix ⟨o',by simp,T',H,hT',hstep T' fun x=>?_⟩
  rw[hTm']
  constructor
  ·rintro (h5 | h5)
   ·exact .inl h5
   ·exact .inr ⟨h1,h3,h5.symm⟩
  ·rintro (h5 | h5)
   ·exact .inl h5
   ·exact .inr h5.2.2.symm
 simp -implicitDefEqProofs (disch:=omega)[wrap64]
 rw[List.take_of_length_le (by omega)] at hTm
 exact RetK.keep (hk _ _ ⟨T,H,hT,hTm⟩)
noncomputable def preV (a:Aut) (w:List Int):List Int:=if a.Ok∧Wok w then a.states w else []
theorem c_PrefixStates {h:Heap}{v w:Value}{a:Aut}{W:List Int}(Ra:Rep h v a) (Rw:Rep h w W):CallE Tryz.prog fn_impl_PrefixStates [v,w] h (R2 (decide (a.Ok∧Wok W)) (preV a W) h):=by
 have Fa:=Ra.aAut
 refine CallE.gen fun k hk=>EN_impl_PrefixStates rfl ?_
 have hno:¬(a.Ok∧Wok W)→∀h',h.le h'→k (.tuple #[.slice none 0 0,.bool false]) h':=fun hn h' hl=>hk _ _ ⟨_,by rw[decide_eq_false hn],by rw[preV,if_neg hn];exact HS.nil_ow (Γ:=[]) hl⟩
 simp -implicitDefEqProofs (disch:=first|omega|(simp only[LnZ];omega))[wrap64,Fa]
 refine (c_AutomatonValid Ra).go ?_
 rintro _ h1 ⟨l1,rfl⟩
 by_cases ha:a.Ok
 case neg=>
  simp -implicitDefEqProofs (disch:=first|omega|(simp only[LnZ];omega))[wrap64,ha]
  exact RetK.keep (hno (fun hh=>ha hh.1) _ l1)
 simp -implicitDefEqProofs (disch:=first|omega|(simp only[LnZ];omega))[wrap64,ha]
 refine (c_wordOk (Rw.le l1)).go ?_
 rintro _ h2 ⟨l2,rfl⟩
 have l2:=l1.trans l2
 by_cases hw:Wok W
 case neg=>
  simp -implicitDefEqProofs (disch:=first|omega|(simp only[LnZ];omega))[wrap64,hw]
  exact RetK.keep (hno (fun hh=>hw hh.2) _ l2)
 simp -implicitDefEqProofs (disch:=first|omega|(simp only[LnZ];omega))[wrap64,hw,Fa]
 refine (c_prefix (Ra.le l2) (Rw.le l2) ha).go ?_
 intro u h3 H
 simp -implicitDefEqProofs (disch:=omega)[wrap64]
 exact RetK.keep (hk _ _ ⟨_,by rw[decide_eq_true ⟨ha,hw⟩],by rw[preV,if_pos ⟨ha,hw⟩];exact HS.app (Γ:=[]) H l2⟩)
noncomputable def stA (a:Aut) (w:List Int):Aut:=⟨a.states w,a.acc,a.edges⟩
theorem stA_ok {a:Aut}{w:List Int}(ha:a.Ok):(stA a w).Ok:=⟨ha.1,ha.2.1,(Aut.states_incr:incr a.acc.length (-1) (a.states w)),ha.2.2.2⟩
noncomputable def ext (a:Aut) (w:List Int):Option Las:=
 if a.Ok∧Wok w∧a.states w≠[] then
  match Bf.fw (stA a w) with
  | some l=>if (⟨w++l.stem,l.loop⟩:Las).Ok then some ⟨w++l.stem,l.loop⟩ else none
  | none=>none
 else none
theorem fold_LP {a:Aut}(ha:a.Ok):∀{W:List Int}{P:Nat→Prop}{q:Nat},W.foldl a.aft P q→∃s,P s∧LP a.edges s W q
 | [],P,q,h=>⟨q,h,.nil q⟩
 | x::W,P,q,h=>by
  obtain⟨s,⟨_,e,he,h1,h2,h3⟩,h4⟩:=fold_LP ha (W:=W) (P:=a.aft P x) h
  obtain⟨f,g,k1,k2,_,_⟩:=ha.tr he
  rw[k1,Int.toNat_natCast] at h1
  exact⟨f,h1,.cons ⟨e,he,k1,h2,h3⟩ h4⟩
theorem fold_live {a:Aut}:∀{W:List Int}{P:Nat→Prop}{q:Nat},(∀s,P s→a.Live s)→W.foldl a.aft P q→a.Live q
 | [],P,q,hP,h=>hP q h
 | x::W,P,q,hP,h=>fold_live (W:=W) (P:=a.aft P x) (fun s hs=>hs.1) h
theorem states_mem {a:Aut}{W:List Int}{x:Int}:x∈a.states W↔∃q:Nat,x=q∧q<a.acc.length∧a.behind W q:=by
 unfold Aut.states
 rw[memL_mem]
 simp
theorem states_live {a:Aut}{W:List Int}{q:Nat}(h:(q:Int)∈a.states W):q<a.acc.length∧a.Live q∧a.behind W q:=by
 obtain⟨p,h1,h2,h3⟩:=states_mem.1 h
 obtain rfl:q=p:=by omega
 exact⟨h2,fold_live (fun s hs=>hs.2) h3,h3⟩
def Lts (w:Nat→Int):Prop:=∀t,0≤w t∧w t≤7
def Pre (W:List Int) (w:Nat→Int):Prop:=∀i (hi:i<W.length),w i=W[i]
theorem Run.next {A:List Bool}{E:List Tr}{w:Nat→Int}{t p:Nat}(h:Run A E w t p):∃q,StE E w t p q∧Run A E w (t+1) q:=by
 obtain⟨C,hC,hG⟩:=h
 obtain⟨u,q,h1,h2,h3,h4⟩:=hG t p hC
 cases h2 with
 | refl=>omega
 | step h k=>exact⟨_,h,Run.before k ⟨C,h4,hG⟩⟩
theorem states_of_lang {a:Aut}(ha:a.Ok) {W:List Int}{w:Nat→Int}(hw:Pre W w) (h:a.Lang w):a.states W≠[]:=by
 obtain⟨s,hs,hr⟩:=h
 have hs':=ha.ini hs
 have key:∀n,n≤W.length→∃p,p<a.acc.length∧Run a.acc a.edges w n p∧a.behind (W.take n) p:=by
  intro n
  induction n with
  | zero=>intro _;exact⟨s,hs',hr,hs,hr.live ha hs'⟩
  | succ n ih=>
   intro hn
   obtain⟨p,h1,h2,h3⟩:=ih (by omega)
   obtain⟨q,h4,h5⟩:=h2.next
   obtain⟨_,hq⟩:=ha.st h4
   obtain⟨e,he,e1,e2,e3⟩:=h4
   refine⟨q,hq,h5,?_⟩
   unfold Aut.behind
   rw[foldl_take (show n<W.length by omega)]
   refine⟨h5.live ha hq,e,he,?_,e2,?_⟩
   ·rw[e1,Int.toNat_natCast];exact h3
   ·rw[← hw n (by omega)];exact e3
 obtain⟨p,h1,_,h3⟩:=key W.length (Nat.le_refl _)
 rw[List.take_length] at h3
 intro hno
 have:(p:Int)∈a.states W:=states_mem.2 ⟨p,rfl,h1,h3⟩
 rw[hno] at this
 simp at this
theorem lang_of_states {a:Aut}(ha:a.Ok) {W:List Int}(hW:∀x∈W,0≤x∧x≤7) (h:a.states W≠[]):∃l:Las,1≤l.loop.length∧Lts l.word∧Pre W l.word∧a.Lang l.word:=by
 have hst:=stA_ok (w:=W) ha
 cases hf:Bf.fw (stA a W) with
 | none=>
  exfalso
  cases hs:a.states W with
  | nil=>exact h hs
  | cons x t=>
   have hx:x∈a.states W:=by rw[hs];simp
   obtain⟨q,rfl,_,_⟩:=states_mem.1 hx
   exact Bf.fw_none hst hf hx (states_live hx).2.1
 | some l0=>
  obtain⟨⟨s,x,h1,h2,h3,h4⟩,k1,k2,_,k4,_⟩:=Bf.fw_some hst hf
  obtain⟨_,_,hb⟩:=states_live (a:=a) (W:=W) h1
  obtain⟨s0,h5,h6⟩:=fold_LP ha (P:=a.beg) hb
  have hl:∀y∈(⟨W++l0.stem,l0.loop⟩:Las).all,0≤y∧y≤7:=by
   intro y hy
   simp only[Las.all,List.mem_append] at hy
   rcases hy with (hy | hy) | hy
   ·exact hW y hy
   ·exact k1 y hy
   ·exact k2 y hy
  refine⟨⟨W++l0.stem,l0.loop⟩,k4,fun t=>?_,fun i hi=>?_,lasso_lang k4 h5.1 (h6.append h2) h3 h4⟩
  ·have h1:=Las.pos_lt (l:=⟨W++l0.stem,l0.loop⟩) k4 t
   unfold Las.word
   rw[List.getD_eq_getElem?_getD,List.getElem?_eq_getElem (by rw[Las.all_len];exact h1)]
   exact hl _ (List.getElem_mem _)
  ·rw[Las.word_stem (l:=⟨W++l0.stem,l0.loop⟩) (by simp only[List.length_append];omega)]
   simp only
   rw[List.getElem_append_left hi]
namespace Fm
def ngt (x:Exq):Exq:=if x.kind=3 then x.kids.getD 0 Exq.zero else neg x
theorem bad_iff {x:Exq}(h:trOk x) (ha:(trA x).Ok) {W:List Int}(hW:∀y∈W,0≤y∧y≤7):(trA x).states W=[]↔∀w,Lts w→Pre W w→¬sat w x 0:=by
 constructor
 ·intro h1 w h2 h3 h4
  exact states_of_lang ha h3 ((trA_lang h h2).2 h4) h1
 ·intro h1
  apply Classical.byContradiction
  intro h2
  obtain⟨l,_,h3,h4,h5⟩:=lang_of_states ha hW h2
  exact h1 _ h3 h4 ((trA_lang h h3).1 h5)
end Fm
namespace Fm
section
variable {l:Las}
end
end Fm
namespace Fm
structure FixI (s0:Bool) (N:Nat) (nx:Nat→Nat) (f:Nat→Bool→Bool) (v:Nat→Bool) (O:List Bool):Prop where
 len:O.length=N
 ok:∀i,i<N→O.getD i s0=(!s0)→v i=(!s0)∧f i (O.getD (nx i) s0)=(!s0)
section
variable {s0:Bool}{N:Nat}{nx:Nat→Nat}{f:Nat→Bool→Bool}{v:Nat→Bool}{O:List Bool}
theorem FixI.init:FixI s0 N nx f v (List.replicate N s0):=⟨by simp,fun i hi h=>by simp[hi] at h⟩
theorem FixI.old (H:FixI s0 N nx f v O) {i:Nat}(hi:i<N) (hne:f i (O.getD (nx i) s0)≠O.getD i s0):O.getD i s0=s0∧f i (O.getD (nx i) s0)=(!s0):=by
 cases s0 with
 | false=>
  have h1:O.getD i false=false:=by
   cases hb:O.getD i false with
   | false=>rfl
   | true=>exact absurd ((H.ok i hi hb).2.trans hb.symm) hne
  rw[h1] at hne
  exact⟨h1,by simpa using hne⟩
 | true=>
  have h1:O.getD i true=true:=by
   cases hb:O.getD i true with
   | true=>rfl
   | false=>exact absurd ((H.ok i hi hb).2.trans hb.symm) hne
  rw[h1] at hne
  exact⟨h1,by simpa using hne⟩
theorem fix_any (hm:∀i,f i s0=(!s0)→f i (!s0)=(!s0)) {j:Nat}{c c':Bool}(h:f j c=(!s0)) (hc:c=(!s0)→c'=(!s0)):f j c'=(!s0):=by
 have h3:=hm j
 cases s0 with
 | false=>
  cases c' with
  | true=>
   cases c with
   | true=>exact h
   | false=>exact h3 h
  | false=>
   cases c with
   | false=>exact h
   | true=>exact absurd (hc rfl) (by decide)
 | true=>
  cases c' with
  | false=>
   cases c with
   | false=>exact h
   | true=>exact h3 h
  | true=>
   cases c with
   | true=>exact h
   | false=>exact absurd (hc rfl) (by decide)
theorem FixI.step (hm:∀i,f i s0=(!s0)→f i (!s0)=(!s0)) (hv:∀i,i<N→v i=f i (v (nx i))) (hn:∀i,i<N→nx i<N) (H:FixI s0 N nx f v O) {i:Nat}(hi:i<N) (hne:f i (O.getD (nx i) s0)≠O.getD i s0):FixI s0 N nx f v (O.set i (f i (O.getD (nx i) s0))):=by
 obtain⟨h1,h2⟩:=H.old hi hne
 have ge:∀j,(O.set i (!s0)).getD j s0=if i=j then (!s0) else O.getD j s0:=by
  intro j
  simp only[List.getD_eq_getElem?_getD,List.getElem?_set]
  by_cases e:i=j
  ·subst e
   rw[if_pos rfl,if_pos rfl,if_pos (by rw[H.len];exact hi)]
   rfl
  ·rw[if_neg e,if_neg e]
 have up:∀j,f j (O.getD (nx j) s0)=(!s0)→f j ((O.set i (!s0)).getD (nx j) s0)=(!s0):=by
  intro j h
  refine fix_any hm h fun hc=>?_
  rw[ge]
  split
  ·rfl
  ·exact hc
 rw[h2]
 refine⟨by simpa using H.len,fun j hj hj2=>?_⟩
 rw[ge] at hj2
 by_cases e:i=j
 ·subst e
  refine⟨?_,up i h2⟩
  rw[hv i hi]
  exact fix_any hm h2 fun hc=>(H.ok _ (hn i hi) hc).1
 ·rw[if_neg e] at hj2
  obtain⟨h3,h4⟩:=H.ok j hj hj2
  exact⟨h3,up j h4⟩
end
end Fm
theorem getD_some {α:Type}{l:List α}{i:Nat}{d:α}(hi:i<l.length):l.getD i d=l[i]:=by simp[hi]
theorem i64_0:I64 0:=⟨by decide,by decide⟩
def opn (k:Int):Int:=if k=1∨k=2 then 0 else if k=4∨k=5∨k=7∨k=8 then 2 else 1
theorem opn_eq {k:Int}(h:1≤k∧k≤10):opn k=Fm.arity k:=by
 unfold opn Fm.arity
 by_cases h1:k=1∨k=2
 ·rw[if_pos h1,if_pos h1]
 ·rw[if_neg h1,if_neg h1]
  by_cases h2:k=4∨k=5∨k=7∨k=8
  ·rw[if_pos h2,if_neg (by omega),if_pos h2]
  ·rw[if_neg h2,if_pos (by omega)]
theorem c_operands {h:Heap}{k0:Int}:CallE Tryz.prog fn_impl_operands [.int .i64 k0] h (fun u h'=>h'=h∧u=.int .i64 (opn k0)):=by
 refine CallE.gen fun k hk=>EN_impl_operands rfl ?_
 by_cases h1:k0=1
 ·simp -implicitDefEqProofs (disch:=first|omega|(simp only[LnZ];omega))[wrap64,h1]
  exact RetK.keep (hk _ _ ⟨rfl,by subst h1;rfl⟩)
 by_cases h2:k0=2
 ·simp -implicitDefEqProofs (disch:=first|omega|(simp only[LnZ];omega))[wrap64,h1,h2]
  exact RetK.keep (hk _ _ ⟨rfl,by subst h2;rfl⟩)
 by_cases h4:k0=4
 ·simp -implicitDefEqProofs (disch:=first|omega|(simp only[LnZ];omega))[wrap64,h1,h2,h4]
  exact RetK.keep (hk _ _ ⟨rfl,by subst h4;rfl⟩)
 by_cases h5:k0=5
 ·simp -implicitDefEqProofs (disch:=first|omega|(simp only[LnZ];omega))[wrap64,h1,h2,h4,h5]
  exact RetK.keep (hk _ _ ⟨rfl,by subst h5;rfl⟩)
 by_cases h7:k0=7
 ·simp -implicitDefEqProofs (disch:=first|omega|(simp only[LnZ];omega))[wrap64,h1,h2,h4,h5,h7]
  exact RetK.keep (hk _ _ ⟨rfl,by subst h7;rfl⟩)
 by_cases h8:k0=8
 ·simp -implicitDefEqProofs (disch:=first|omega|(simp only[LnZ];omega))[wrap64,h1,h2,h4,h5,h7,h8]
  exact RetK.keep (hk _ _ ⟨rfl,by subst h8;rfl⟩)
 simp -implicitDefEqProofs (disch:=first|omega|(simp only[LnZ];omega))[wrap64,h1,h2,h4,h5,h7,h8]
 exact RetK.keep (hk _ _ ⟨rfl,by congr 1;unfold opn;rw[if_neg (by omega),if_neg (by omega)]⟩)
def WalkQ (g:Heap) (Γ:List HP) (b n m:Nat) (x:Exq) (neg:Bool) (v:Value) (h':Heap):Prop:=
 ∃(n':Nat) (ok:Bool),v=.bool (ok != neg)∧HS g (bx b [.int .i64 n']::Γ) h'∧(ok=true↔Fm.Shp m x∧n+x.nod≤12)∧(ok=true→n'=n+x.nod)
theorem c_IndexFunc_walk {g h:Heap}{Γ:List HP}{a fv:Value}{l:List Exq}{b n m:Nat}(Ra:Rep g a l) {f:FuncId}{c1 c2:List Value}(hf:fnOf fv=some (f,c1,c2)) (H:HS g (bx b [.int .i64 n]::Γ) h) (hn:n≤12)
  (hp:∀(i:Nat) (hi:i<l.length) (u:Value) (n:Nat) (h1:Heap),Rep g u l[i]→HS g (bx b [.int .i64 n]::Γ) h1→n≤12→CallE Tryz.prog f (c1++u::c2) h1 (WalkQ g Γ b n m l[i] true)) :
  CallE Tryz.prog fn_slices_IndexFunc_S_impl_Formula_impl_Formula [a,fv] h (fun v h'=>∃(n':Nat) (j:Int),v=.int .i64 j∧HS g (bx b [.int .i64 n']::Γ) h'∧(j<0↔(∀y∈l,Fm.Shp m y)∧n+Exq.nods l≤12)∧(j<0→n'=n+Exq.nods l)):=by
 refine CallE.gen fun k hk=>EN_slices_IndexFunc_S_impl_Formula_impl_Formula rfl ?_
 have hL:=Ra.lt
 simp -implicitDefEqProofs (disch:=first|omega|(simp only[LnZ];omega))[wrap64,Ra.len]
 refine wp_count l.length (fun i e h'=>e=[some a,some fv,none,none,some (.int .i64 l.length),some (.int .i64 i)]∧HS g (bx b [.int .i64 ((n+Exq.nods (l.take i):Nat):Int)]::Γ) h'∧n+Exq.nods (l.take i)≤12∧∀(j:Nat) (hj:j<l.length),j<i→Fm.Shp m l[j]) ⟨rfl,by simpa[Exq.nods] using H,by simpa[Exq.nods] using hn,fun j _ hj=>absurd hj (Nat.not_lt_zero j)⟩ ?_
 clear H
 rintro J i _ h1 hJ hi ⟨rfl,H,hle,hall⟩
 simp -implicitDefEqProofs (disch:=omega)[wrap64]
 refine IteW.mk (fun hlt=>?_) (fun hge=>?_)
 ·have hlx:i<l.length:=by omega
  have hnt:=Exq.nods_take hlx
  have hnl:=Exq.nods_le l (i+1)
  obtain⟨u,hu,Ru⟩:=Ra.ld hlx
  have hu2:=hload_le H.base hu
  change hload _ (some (elp 3 a i)) (some 3)=some u at hu2
  simp -implicitDefEqProofs (disch:=first|omega|(simp only[LnZ];omega))[wrap64,Ra.X (n:=3) rfl,hu2,hf]
  refine (hp i hlx u _ h1 Ru H hle).go ?_
  rintro _ h2 ⟨n',ok,rfl,H,hok,hn'⟩
  simp -implicitDefEqProofs (disch:=omega)[wrap64]
  refine IteW.mk (fun hq=>?_) (fun hq=>?_)
  ·simp -implicitDefEqProofs (disch:=omega)[wrap64]
   refine RetK.keep (hk _ _ ⟨n',_,rfl,H,⟨fun hh=>absurd hh (by omega),fun ⟨e1,e2⟩=>?_⟩,fun hh=>absurd hh (by omega)⟩)
   have:ok=true:=hok.2 ⟨e1 _ (List.getElem_mem hlx),by omega⟩
   rw[this] at hq
   simp at hq
  ·have hok1:ok=true:=by simpa using hq
   have e1:=hok.1 hok1
   have e2:=hn' hok1
   subst e2
   simp -implicitDefEqProofs (disch:=omega)[wrap64]
   refine hJ _ _ hlx ⟨rfl,?_,by omega,fun j hj hji=>?_⟩
   ·rw[hnt,← Nat.add_assoc];exact H
   ·by_cases hji2:j=i
    ·subst hji2;exact e1.1
    ·exact hall j hj (by omega)
 ·simp -implicitDefEqProofs (disch:=omega)[wrap64]
  rw[List.take_of_length_le (by omega)] at H hle
  refine RetK.keep (hk _ _ ⟨_,_,rfl,H,⟨fun _=>⟨fun y hy=>?_,hle⟩,fun _=>by omega⟩,fun _=>rfl⟩)
  obtain⟨j,hj,rfl⟩:=List.mem_iff_getElem.1 hy
  exact hall j hj (by omega)
theorem c_ContainsFunc_walk {g h:Heap}{Γ:List HP}{a fv:Value}{l:List Exq}{b n m:Nat}(Ra:Rep g a l) {f:FuncId}{c1 c2:List Value}(hf:fnOf fv=some (f,c1,c2)) (H:HS g (bx b [.int .i64 n]::Γ) h) (hn:n≤12)
  (hp:∀(i:Nat) (hi:i<l.length) (u:Value) (n:Nat) (h1:Heap),Rep g u l[i]→HS g (bx b [.int .i64 n]::Γ) h1→n≤12→CallE Tryz.prog f (c1++u::c2) h1 (WalkQ g Γ b n m l[i] true)) :
  CallE Tryz.prog fn_slices_ContainsFunc_S_impl_Formula_impl_Formula [a,fv] h (fun v h'=>∃(n':Nat) (ok:Bool),v=.bool (!ok)∧HS g (bx b [.int .i64 n']::Γ) h'∧(ok=true↔(∀y∈l,Fm.Shp m y)∧n+Exq.nods l≤12)∧(ok=true→n'=n+Exq.nods l)):=by
 refine CallE.gen fun k hk=>EN_slices_ContainsFunc_S_impl_Formula_impl_Formula rfl ?_
 simp -implicitDefEqProofs (disch:=omega)[wrap64]
 refine (c_IndexFunc_walk Ra hf H hn hp).go ?_
 rintro _ h1 ⟨n',j,rfl,H,hj,hn'⟩
 simp -implicitDefEqProofs (disch:=omega)[wrap64]
 refine RetK.keep (hk _ _ ⟨n',decide (j<0),?_,H,by rw[decide_eq_true_iff];exact hj,by rw[decide_eq_true_iff];exact hn'⟩)
 congr 1
 by_cases e:j<0
 ·simp[e]
 ·simp[e];omega
theorem c_walk:∀(x:Exq) {g h:Heap}{Γ:List HP}{v:Value}{b n d:Nat}{dv:Int},dv=d→Rep g v x→HS g (bx b [.int .i64 n]::Γ) h→n≤12→1≤d→d≤7 →
  CallE Tryz.prog fn_impl_Formula_walk [v,.int .i64 dv,.pointer (some ⟨b,0,none⟩)] h (WalkQ g Γ b n (7-d) x false):=by
 refine Exq.ind fun x ih g h Γ v b n d dv hdv R H hn hd1 hd7=>?_
 obtain⟨w,rfl,k1,k2,R1⟩:=Rep_Exq.1 R
 have hnod:=x.nod_eq
 have hkl:=R1.lt
 obtain⟨ln,hln⟩:∃ln:Int,ln=x.kids.length:=⟨_,rfl⟩
 have hlen:=R1.len
 rw[← hln] at hlen
 refine CallE.gen fun k hk=>EN_impl_Formula_walk rfl ?_
 simp -implicitDefEqProofs (disch:=omega)[wrap64]
 refine H.alloc rfl fun b4 h1 H=>?_
 simp -implicitDefEqProofs (disch:=omega)[wrap64]
 refine H.alloc rfl fun b5 h2 H=>?_
 simp only[cells_int,cells_pointer] at H
 simp -implicitDefEqProofs (disch:=first|omega|(simp only[LnZ];omega))[wrap64,H.bxld0,H.sw2.bxld0]
 refine HS.bxst (o:=0) (sz:=1) (u:=.int .i64 ((n:Int)+1)) H.sw2 rfl rfl rfl rfl (by simp) fun h3 H=>?_
 have H:HS g (bx b [.int .i64 ((n+1:Nat):Int)]::bx b5 [.pointer (some ⟨b,0,none⟩)]::bx b4 [.int .i64 dv]::Γ) h3:=H
 -- what is wanted where it fails
 have hno:¬(Fm.Shp (7-d) x∧n+x.nod≤12)→k (.bool false) h3:=fun hh=>hk _ _ ⟨_,false,rfl,H.sw1.drop.sw1.drop,⟨fun e=>by simp at e,fun e=>absurd e hh⟩,fun e=>by simp at e⟩
 -- and where the operands were asked
 have hfin:Fm.Nd x→d≤6→∀{h4:Heap}{n':Nat}{ok:Bool},(ok=true↔(∀y∈x.kids,Fm.Shp (6-d) y)∧n+1+Exq.nods x.kids≤12)→(ok=true→n'=n+1+Exq.nods x.kids) →
   HS g (bx b [.int .i64 n']::bx b5 [.pointer (some ⟨b,0,none⟩)]::bx b4 [.int .i64 dv]::Γ) h4→k (.bool ok) h4:=by
  intro hnd hd6 h4 n' ok g1 g2 H4
  refine hk _ _ ⟨n',ok,by simp,H4.sw1.drop.sw1.drop,?_,fun e=>by have:=g2 e;omega⟩
  rw[g1,show 7-d=(6-d)+1 by omega]
  exact⟨fun ⟨h5,h6⟩=>⟨⟨hnd,h5⟩,by omega⟩,fun ⟨h5,h6⟩=>⟨h5.2,by omega⟩⟩
 -- an operand
 have hkid:d≤6→∀(i:Nat) (hi:i<x.kids.length) (u:Value) (n:Nat) (h1:Heap),Rep g u x.kids[i]→HS g (bx b [.int .i64 n]::bx b5 [.pointer (some ⟨b,0,none⟩)]::bx b4 [.int .i64 dv]::Γ) h1→n≤12 →
   CallE Tryz.prog fn_impl_Formula_walk_1 ([]++u::[.pointer (some ⟨b4,0,none⟩),.pointer (some ⟨b5,0,none⟩)]) h1 (WalkQ g (bx b5 [.pointer (some ⟨b,0,none⟩)]::bx b4 [.int .i64 dv]::Γ) b n (6-d) x.kids[i] true):=by
  intro hd6 i hi u n h1 Ru H hn
  refine CallE.gen fun k hk=>EN_impl_Formula_walk_1 rfl ?_
  have Fu:=Ru.aExq
  simp -implicitDefEqProofs (disch:=first|omega|(simp only[LnZ];omega))[wrap64,Fu,H.sw2.bxld0,H.sw1.bxld0]
  refine (ih _ (List.getElem_mem hi) (d:=d+1) (dv:=dv+1) (by omega) Ru H hn (by omega) (by omega)).go ?_
  rintro _ h2 ⟨n',ok,rfl,H,g1,g2⟩
  rw[show 7-(d+1)=6-d by omega] at g1
  simp -implicitDefEqProofs (disch:=omega)[wrap64]
  exact RetK.keep (hk _ _ ⟨n',ok,by simp,H,g1,g2⟩)
 by_cases c2:x.kind=2
 ·revert hno hfin
  intro hno hfin
  by_cases e1:(6:Int)<dv
  ·simp -implicitDefEqProofs (disch:=first|omega|(simp only[LnZ];omega))[wrap64,c2,H.bxld0,H.sw1.bxld0,H.sw2.bxld0,e1]
   exact RetK.keep (hno fun hh=>by have:=hh.1;rw[show 7-d=0 by omega] at this;exact this)
  by_cases e2:(12:Int)<(n:Int)+1
  ·simp -implicitDefEqProofs (disch:=first|omega|(simp only[LnZ];omega))[wrap64,c2,H.bxld0,H.sw1.bxld0,H.sw2.bxld0,e1,e2]
   exact RetK.keep (hno fun hh=>by have:=hh.2;omega)
  simp -implicitDefEqProofs (disch:=first|omega|(simp only[LnZ];omega))[wrap64,c2,H.bxld0,H.sw1.bxld0,H.sw2.bxld0,e1,e2]
  refine c_in.go ?_
  rintro _ _ ⟨rfl,rfl⟩
  have e3:1≤x.kind∧x.kind≤10:=by omega
  simp -implicitDefEqProofs (disch:=first|omega|(simp only[LnZ];omega))[wrap64,c2,e3]
  refine c_in.go ?_
  rintro _ _ ⟨rfl,rfl⟩
  by_cases e4:0≤x.val∧x.val≤2
  case neg=>
   simp -implicitDefEqProofs (disch:=first|omega|(simp only[LnZ];omega))[wrap64,c2,e4]
   exact RetK.keep (hno fun hh=>e4 ⟨hh.1.nd.lo,by have:=hh.1.nd.hi;omega⟩)
  simp -implicitDefEqProofs (disch:=first|omega|(simp only[LnZ];omega))[wrap64,c2,e4,hlen]
  refine c_operands.go ?_
  rintro _ _ ⟨rfl,rfl⟩
  by_cases e5:ln=opn 2
  case neg=>
   simp -implicitDefEqProofs (disch:=first|omega|(simp only[LnZ];omega))[wrap64,c2,e5,hlen]
   exact RetK.keep (hno fun hh=>e5 (by have:=hh.1.nd.ar;rw[← hln,c2] at this;rw[this,opn_eq (by decide)]))
  simp -implicitDefEqProofs (disch:=first|omega|(simp only[LnZ];omega))[wrap64,c2,e5,hlen]
  refine (c_ContainsFunc_walk (m:=6-d) R1 (c1:=[]) (c2:=[.pointer (some ⟨b4,0,none⟩),.pointer (some ⟨b5,0,none⟩)]) rfl H (by omega) (hkid (by omega))).go ?_
  rintro _ h4 ⟨n',ok,rfl,H4,g1,g2⟩
  simp -implicitDefEqProofs (disch:=omega)[wrap64]
  exact RetK.keep (hfin ⟨by rw[← hln,e5,opn_eq (by decide),c2],e4.1,by omega,fun hh=>absurd c2 hh⟩ (by omega) g1 g2 H4)
 by_cases e1:(6:Int)<dv
 ·simp -implicitDefEqProofs (disch:=first|omega|(simp only[LnZ];omega))[wrap64,c2,H.bxld0,H.sw1.bxld0,H.sw2.bxld0,e1]
  exact RetK.keep (hno fun hh=>by have:=hh.1;rw[show 7-d=0 by omega] at this;exact this)
 by_cases e2:(12:Int)<(n:Int)+1
 ·simp -implicitDefEqProofs (disch:=first|omega|(simp only[LnZ];omega))[wrap64,c2,H.bxld0,H.sw1.bxld0,H.sw2.bxld0,e1,e2]
  exact RetK.keep (hno fun hh=>by have:=hh.2;omega)
 simp -implicitDefEqProofs (disch:=first|omega|(simp only[LnZ];omega))[wrap64,c2,H.bxld0,H.sw1.bxld0,H.sw2.bxld0,e1,e2]
 refine c_in.go ?_
 rintro _ _ ⟨rfl,rfl⟩
 by_cases e3:1≤x.kind∧x.kind≤10
 case neg=>
  simp -implicitDefEqProofs (disch:=first|omega|(simp only[LnZ];omega))[wrap64,c2,e3]
  exact RetK.keep (hno fun hh=>e3 hh.1.nd.kind)
 simp -implicitDefEqProofs (disch:=first|omega|(simp only[LnZ];omega))[wrap64,c2,e3]
 refine c_in.go ?_
 rintro _ _ ⟨rfl,rfl⟩
 by_cases e4:0≤x.val∧x.val≤0
 case neg=>
  simp -implicitDefEqProofs (disch:=first|omega|(simp only[LnZ];omega))[wrap64,c2,e4]
  exact RetK.keep (hno fun hh=>e4 ⟨hh.1.nd.lo,by have:=hh.1.nd.ze c2;omega⟩)
 simp -implicitDefEqProofs (disch:=first|omega|(simp only[LnZ];omega))[wrap64,c2,e4,hlen]
 refine c_operands.go ?_
 rintro _ _ ⟨rfl,rfl⟩
 by_cases e5:ln=opn x.kind
 case neg=>
  simp -implicitDefEqProofs (disch:=first|omega|(simp only[LnZ];omega))[wrap64,c2,e5,hlen]
  exact RetK.keep (hno fun hh=>e5 (by have:=hh.1.nd.ar;rw[← hln] at this;rw[this,opn_eq e3]))
 simp -implicitDefEqProofs (disch:=first|omega|(simp only[LnZ];omega))[wrap64,c2,e5,hlen]
 refine (c_ContainsFunc_walk (m:=6-d) R1 (c1:=[]) (c2:=[.pointer (some ⟨b4,0,none⟩),.pointer (some ⟨b5,0,none⟩)]) rfl H (by omega) (hkid (by omega))).go ?_
 rintro _ h4 ⟨n',ok,rfl,H4,g1,g2⟩
 simp -implicitDefEqProofs (disch:=omega)[wrap64]
 exact RetK.keep (hfin ⟨by rw[← hln,e5,opn_eq e3],e4.1,by omega,fun _=>by omega⟩ (by omega) g1 g2 H4)
theorem c_FormulaNodes {h:Heap}{v:Value}{x:Exq}(R:Rep h v x):CallE Tryz.prog fn_impl_FormulaNodes [v] h (fun u h'=>h.le h'∧u=.int .i64 (if (Fm.Ok x) then (x.nod:Int) else 0)):=by
 have F:=R.aExq
 refine CallE.gen fun k hk=>EN_impl_FormulaNodes rfl ?_
 simp -implicitDefEqProofs (disch:=omega)[wrap64]
 refine HS.init.alloc rfl fun b h1 H=>?_
 simp only[cells_int] at H
 simp -implicitDefEqProofs (disch:=omega)[wrap64]
 refine HS.bxst (o:=0) (sz:=1) (u:=.int .i64 0) H rfl rfl rfl rfl (by simp) fun h2 H=>?_
 have H:HS h [bx b [.int .i64 ((0:Nat):Int)]] h2:=H
 simp -implicitDefEqProofs (disch:=first|omega|(simp only[LnZ];omega))[wrap64,F]
 refine (c_walk x (d:=1) rfl R H (by omega) (by omega) (by omega)).go ?_
 rintro _ h3 ⟨n',ok,rfl,H,g1,g2⟩
 have hok:ok=true↔(Fm.Ok x):=by rw[g1];simp[Fm.Ok]
 cases ok with
 | true=>
  have e:=g2 rfl
  have ho:=hok.1 rfl
  simp -implicitDefEqProofs (disch:=first|omega|(simp only[LnZ];omega))[wrap64,H.bxld0]
  refine RetK.keep (hk _ _ ⟨H.base,?_⟩)
  rw[if_pos ho,e];simp
 | false=>
  simp -implicitDefEqProofs (disch:=omega)[wrap64]
  refine RetK.keep (hk _ _ ⟨H.base,?_⟩)
  rw[if_neg (fun ho=>by have:=hok.2 ho;simp at this)]
theorem Exq.nod_pos (x:Exq):0<x.nod:=by rw[Exq.nod_eq];omega
theorem c_FormulaValid {h:Heap}{v:Value}{x:Exq}(R:Rep h v x):CallE Tryz.prog fn_impl_FormulaValid [v] h (fun u h'=>h.le h'∧u=.bool (decide (Fm.Ok x))):=by
 have F:=R.aExq
 have hp:=x.nod_pos
 refine CallE.gen fun k hk=>EN_impl_FormulaValid rfl ?_
 simp -implicitDefEqProofs (disch:=first|omega|(simp only[LnZ];omega))[wrap64,F]
 refine (c_FormulaNodes R).go ?_
 rintro _ h1 ⟨hl,rfl⟩
 simp -implicitDefEqProofs (disch:=omega)[wrap64]
 refine RetK.keep (hk _ _ ⟨hl,?_⟩)
 congr 1
 by_cases e:(Fm.Ok x)
 ·simp[e];omega
 ·simp[e]
theorem c_EqualFunc_Formula {h:Heap}{a b fv:Value}{x y:List Exq}(Ra:Rep h a x) (Rb:Rep h b y) {f:FuncId}(hf:fnOf fv=some (f,[],[]))
  (hp:∀z∈x,∀{h:Heap}{a b:Value}{w:Exq},Rep h a z→Rep h b w→CallE Tryz.prog f [a,b] h (fun u h'=>h'=h∧u=.bool (decide (z=w)))) :
  CallE Tryz.prog fn_slices_EqualFunc_S_impl_Formula_S_impl_Formula_impl_Formula_impl_Formula [a,b,fv] h (fun u h'=>h'=h∧u=.bool (decide (x=y))):=by
 refine CallE.gen fun k hk=>EN_slices_EqualFunc_S_impl_Formula_S_impl_Formula_impl_Formula_impl_Formula rfl ?_
 have hL:=Ra.lt
 simp -implicitDefEqProofs (disch:=first|omega|(simp only[LnZ];omega))[wrap64,Ra.len,Rb.len]
 refine IteW.mkr (fun hne=>?_) (fun heq=>?_)
 ·simp -implicitDefEqProofs (disch:=omega)[wrap64]
  exact RetK.keep (hk _ _ ⟨rfl,by simp;rintro rfl;exact hne rfl⟩)
 simp -implicitDefEqProofs (disch:=first|omega|(simp only[LnZ];omega))[wrap64,Ra.len]
 refine wp_count x.length (fun i e h'=>h'=h∧e=[none,some b,some fv,none,none,none,none,some a,some (.int .i64 x.length),some (.int .i64 i)]∧x.take i=y.take i) ⟨rfl,by simp[heq],rfl⟩ ?_
 rintro J i _ _ hJ hi ⟨rfl,rfl,hxy⟩
 simp -implicitDefEqProofs (disch:=omega)[wrap64]
 refine IteW.mk (fun hlt=>?_) (fun hge=>?_)
 ·have hly:i<y.length:=by omega
  have hlx:i<x.length:=by omega
  obtain⟨u,hu,Ru⟩:=Ra.ld hlx
  obtain⟨w,hw,Rw⟩:=Rb.ld hly
  change hload _ (some (elp 3 a i)) (some 3)=some u at hu
  change hload _ (some (elp 3 b i)) (some 3)=some w at hw
  simp -implicitDefEqProofs (disch:=first|omega|(simp only[LnZ];omega))[wrap64,Ra.X (n:=3) rfl,Rb.X (n:=3) rfl,hu,hw,Ru.aExq,Rw.aExq,hf]
  refine (hp _ (List.getElem_mem hlx) Ru Rw).go ?_
  rintro _ _ ⟨rfl,rfl⟩
  simp -implicitDefEqProofs (disch:=omega)[wrap64]
  refine IteW.mkr (fun hne=>?_) (fun heq=>?_)
  ·simp -implicitDefEqProofs (disch:=omega)[wrap64]
   exact RetK.keep (hk _ _ ⟨rfl,by simp;rintro rfl;exact hne rfl⟩)
  simp -implicitDefEqProofs (disch:=omega)[wrap64]
  exact hJ _ _ hlx ⟨rfl,rfl,take_step hxy hlx hly heq⟩
 ·simp -implicitDefEqProofs (disch:=omega)[wrap64]
  refine RetK.keep (hk _ _ ⟨rfl,?_⟩)
  simp
  rw[List.take_of_length_le (by omega),List.take_of_length_le (by omega)] at hxy
  exact hxy
theorem c_FormulaSame':∀(x:Exq) {h:Heap}{a b:Value}{y:Exq},Rep h a x→Rep h b y→CallE Tryz.prog fn_impl_FormulaSame [a,b] h (fun u h'=>h'=h∧u=.bool (decide (x=y))):=by
 refine Exq.ind fun x ih h a b y Ra Rb=>?_
 obtain⟨w,rfl,k1,k2,R1⟩:=Rep_Exq.1 Ra
 obtain⟨w2,rfl,k3,k4,R2⟩:=Rep_Exq.1 Rb
 refine CallE.gen fun k hk=>EN_impl_FormulaSame rfl ?_
 by_cases h1:x.kind=y.kind
 case neg=>
  simp -implicitDefEqProofs (disch:=first|omega|(simp only[LnZ];omega))[wrap64,h1]
  exact RetK.keep (hk _ _ ⟨rfl,by simp[Exq.ext_iff',h1]⟩)
 by_cases h2:x.val=y.val
 case neg=>
  simp -implicitDefEqProofs (disch:=first|omega|(simp only[LnZ];omega))[wrap64,h1,h2]
  exact RetK.keep (hk _ _ ⟨rfl,by simp[Exq.ext_iff',h2]⟩)
 simp -implicitDefEqProofs (disch:=first|omega|(simp only[LnZ];omega))[wrap64,h1,h2]
 refine (c_EqualFunc_Formula R1 R2 (f:=fn_impl_FormulaSame) rfl ih).go ?_
 rintro _ _ ⟨rfl,rfl⟩
 simp -implicitDefEqProofs (disch:=omega)[wrap64]
 exact RetK.keep (hk _ _ ⟨rfl,by simp[Exq.ext_iff',h1,h2]⟩)
theorem c_FormulaSame {x:Exq}{h:Heap}{a b:Value}{y:Exq}(Ra:Rep h a x) (Rb:Rep h b y):CallE Tryz.prog fn_impl_FormulaSame [a,b] h (fun u h'=>h'=h∧u=.bool (decide (x=y))):=c_FormulaSame' x Ra Rb
theorem rep_zero {h:Heap}:Rep h (.agg #[.int .i64 0,.int .i64 0,.slice none 0 0]) Exq.zero:=Rep_Exq.2 ⟨_,rfl,i64_0,i64_0,(Own_nils.rep.le fun _ _ h=>by simp[Heap.nil] at h)⟩
theorem sz_cons {α:Type} [Sz α] (x:α) (l:List α):Sz.sz (x::l)=1+Sz.sz x+Sz.sz l:=by
 simp only[sz_list,szL,List.length_cons];omega
theorem c_Clone_impl_Formula {h:Heap}{a:Value}{x:List Exq}(Ra:Rep h a x) (hs:x.length≤1048576):CallE Tryz.prog fn_slices_Clone_S_impl_Formula_impl_Formula [a] h (fun v h'=>∃M,Raws h x M∧HS h [ow v M] h'):=by
 refine CallE.gen fun k hk=>EN_slices_Clone_S_impl_Formula_impl_Formula rfl ?_
 obtain⟨b,hb,hb2⟩:=Ra.isNil
 simp -implicitDefEqProofs (disch:=first|omega|(simp only[LnZ];omega))[wrap64,hb]
 refine IteW.mk (fun h1=>?_) (fun h1=>?_)
 ·simp -implicitDefEqProofs (disch:=omega)[wrap64]
  have h2:x=[]:=hb2 h1
  subst h2
  exact RetK.keep (hk _ _ ⟨[],⟨rfl,fun i hi=>absurd hi (Nat.not_lt_zero i)⟩,HS.init.nil_ow⟩)
 ·simp -implicitDefEqProofs (disch:=omega)[wrap64]
  refine HS.init.appPLr (α:=Exq) (l2:=x) (u:=a) rfl rfl Ra rfl rfl (by omega) fun v h1 M hM H=>?_
  simp -implicitDefEqProofs (disch:=omega)[wrap64]
  exact RetK.keep (hk _ _ ⟨M,hM,H⟩)
theorem c_Clip_impl_Formula {g h:Heap}{Γ:List HP}{a:Value}{x:List (Mix Exq)}(H:HS g (ow a x::Γ) h):CallE Tryz.prog fn_slices_Clip_S_impl_Formula_impl_Formula [a] h (fun v h'=>HS g (ow v x::Γ) h'):=by
 refine CallE.gen fun k hk=>EN_slices_Clip_S_impl_Formula_impl_Formula rfl ?_
 obtain⟨v',h1,h2⟩:=H.clip (esz:=3) (k:=.i64)
 simp -implicitDefEqProofs (disch:=first|omega|(simp only[LnZ];omega))[wrap64,H.rep.len,h1]
 exact RetK.keep (hk _ _ h2)
theorem c_clone_impl_Formula {h:Heap}{a:Value}{x:List Exq}(Ra:Rep h a x) (hs:x.length≤1048576):CallE Tryz.prog fn_impl_clone_impl_Formula [a] h (fun v h'=>∃M,Raws h x M∧HS h [ow v M] h'):=by
 refine CallE.gen fun k hk=>EN_impl_clone_impl_Formula rfl ?_
 simp -implicitDefEqProofs (disch:=omega)[wrap64]
 refine (c_Clone_impl_Formula Ra hs).go ?_
 rintro v h1 ⟨M,hM,H⟩
 simp -implicitDefEqProofs (disch:=omega)[wrap64]
 refine (c_Clip_impl_Formula H).go ?_
 intro v' h2 H
 simp -implicitDefEqProofs (disch:=omega)[wrap64]
 exact RetK.keep (hk _ _ ⟨M,hM,H⟩)
theorem Exq.nods_sz:∀x:Exq,x.nod=1+Sz.sz x:=by
 have key:∀l:List Exq,(∀y∈l,y.nod=1+Sz.sz y)→Exq.nods l=Sz.sz l:=by
  intro l
  induction l with
  | nil=>intro _;rfl
  | cons y l ih=>
   intro h
   rw[Exq.nods,ih fun z hz=>h z (by simp[hz]),h y (by simp),sz_cons]
 refine Exq.ind fun x ih=>?_
 rw[Exq.nod_eq,key _ ih,← sz_Exq]
theorem sz_kid {x:Exq}{i:Nat}(hi:i<x.kids.length):Sz.sz x.kids[i]≤Sz.sz x:=by
 have:=szL_get hi
 rw[sz_Exq x,sz_list];omega
theorem Fm.Ok.sz {x:Exq}(h:Fm.Ok x):Sz.sz x≤11:=by have:=h.2;have:=x.nods_sz;omega
theorem c_Formula_copyOf:∀(x:Exq) {h:Heap}{v:Value},Rep h v x→Sz.sz x≤1048576→CallE Tryz.prog fn_impl_Formula_copyOf [v] h (fun u h'=>HS h [ow u x] h'):=by
 refine Exq.ind fun x ih h v R hs=>?_
 obtain⟨w,rfl,k1,k2,R1⟩:=Rep_Exq.1 R
 have hsz:=sz_Exq x
 rw[sz_list] at hsz
 refine CallE.gen fun k hk=>EN_impl_Formula_copyOf rfl ?_
 simp -implicitDefEqProofs (disch:=first|omega|(simp only[LnZ];omega))[wrap64,setC]
 refine (c_clone_impl_Formula R1 (by omega)).go ?_
 rintro o h1 ⟨M,hM,H⟩
 simp -implicitDefEqProofs (disch:=first|omega|(simp only[LnZ];omega))[wrap64,setC,H.rep.cells,H.rep.one,R1.len]
 refine wp_count x.kids.length (fun i e h'=>e=[none,none,some (.agg #[.int .i64 0,.int .i64 0,.slice none 0 0]),some (.agg #[.int .i64 x.kind,.int .i64 x.val,o]),none,none,some w,some (.int .i64 x.kids.length),some (.int .i64 i)]∧∃M,HS h [ow o M] h'∧Mixed h x.kids (fun y=>y) M i) ⟨by simp,M,H,Mixed.zero hM⟩ ?_
 clear H
 rintro J i _ h2 hJ hi ⟨rfl,M,H,hM⟩
 simp -implicitDefEqProofs (disch:=omega)[wrap64]
 refine IteW.mk (fun hlt=>?_) (fun hge=>?_)
 ·have hlx:i<x.kids.length:=by omega
  have hlM:i<M.length:=by rw[hM.len];exact hlx
  obtain⟨u,hu,Ru⟩:=R1.ld hlx
  have hu2:=hload_le H.base hu
  change hload _ (some (elp 3 w i)) (some 3)=some u at hu2
  simp -implicitDefEqProofs (disch:=first|omega|(simp only[LnZ];omega))[wrap64,R1.X (n:=3) rfl,hu2,Ru.aExq]
  refine (ih _ (List.getElem_mem hlx) (Ru.on H) (by have:=sz_kid hlx;omega)).go ?_
  intro y h3 G
  have H:=(G.newO).app H
  simp -implicitDefEqProofs (disch:=first|omega|(simp only[LnZ];omega))[wrap64,H.sw1.rep.X (n:=3) rfl,G.rep.aExq]
  refine HS.store H hlM rfl rfl rfl fun h4 H=>?_
  simp -implicitDefEqProofs (disch:=omega)[wrap64]
  exact hJ _ _ hlx ⟨by simp,_,H,hM.step hlx⟩
 ·simp -implicitDefEqProofs (disch:=first|omega|(simp only[LnZ];omega))[wrap64,H.rep.cells,H.rep.one,setC]
  have he:=hM.all (by omega)
  subst he
  have H:=H.mixed
  rw[List.map_id'] at H
  exact RetK.keep (hk _ _ (H.mkExq k1 k2))
section
variable {α:Type} [Ty α] {P:Program}{k:Env→Heap→Prop}{e:Env}{h:Heap}
theorem bls_one {u1:Value}{y1:α}(R1:Rep h u1 y1) {esz:Nat}{zero:List Value}{parts:List (Nat×Nat×O)}{dst:Nat}(hf:fillP e (reps 1 zero) parts=some u1.cells.toList)
  (K:∀v' h',h.le h'→Rep h' v' [y1]→k (eset e dst (some v')) h'):(A.ex (some dst) (.bls esz 1 zero parts)).wp P k e h:=by
 obtain⟨c1,rfl,r1⟩:=R1
 rw[rep_cells r1] at hf
 have l1:=Ty.len r1
 refine⟨_,hf,fun b el hb=>Fgt.keep ?_⟩
 rw[set_new hb]
 have hd:Dj h (Heap.one b (.cells c1.toArray el (0,0))):=Dj_one.2 hb
 have hbb:(h.add (Heap.one b (.cells c1.toArray el (0,0)))) b=some (.cells c1.toArray el (0,0)):=by simp[Heap.add,Heap.one,hb]
 refine K _ _ (le_add hd) (Rep_list.2 ⟨some ⟨b,0,none⟩,1,rfl,⟨Nat.le_refl _,by simp⟩,trivial,fun i hi=>?_⟩)
 refine⟨b,0,(c1.drop (0+i*Ty.sz α)).take (Ty.sz α),rfl,?_,?_⟩
 ·rw[hcells_mk hbb (by simp at hi ⊢;subst hi;simp;omega)]
 ·simp only[List.length_cons,List.length_nil] at hi
  obtain rfl:i=0:=by omega
  have e1:(c1.drop (0+0*Ty.sz α)).take (Ty.sz α)=c1:=by simp[← l1]
  rw[e1]
  exact Ty.mono (le_add hd) r1
end
theorem c_formula {h:Heap}{a:Value}{l:List Exq}{k0:Int}(hk0:I64 k0) (R:Rep h a l) (hl:l.length≤1048576):CallE Tryz.prog fn_impl_formula [.int .i64 k0,a] h (fun u h'=>h.le h'∧Rep h' u (Exq.mk k0 0 l)):=by
 refine CallE.gen fun k hk=>EN_impl_formula rfl ?_
 simp -implicitDefEqProofs (disch:=first|omega|(simp only[LnZ];omega))[wrap64,setC]
 refine (c_clone_impl_Formula R hl).go ?_
 rintro v h1 ⟨M,hM,H⟩
 have R1:Rep h1 v l:=H.rep.raws (hM.le H.base)
 simp -implicitDefEqProofs (disch:=first|omega|(simp only[LnZ];omega))[wrap64,setC,R1.cells,R1.one]
 exact RetK.keep (hk _ _ ⟨H.base,Rep_Exq.2 ⟨v,rfl,hk0,i64_0,R1⟩⟩)
theorem c_normal_pick {h:Heap}{b:Nat}{x y:Int}{ng:Bool}(hb:hload h (some (.pointer (some ⟨b,0,none⟩))) none=some (.bool ng)):CallE Tryz.prog fn_impl_Formula_normal_2 [.int .i64 x,.int .i64 y,.pointer (some ⟨b,0,none⟩)] h (fun u h'=>h'=h∧u=.int .i64 (if ng then y else x)):=by
 refine CallE.gen fun k hk=>EN_impl_Formula_normal_2 rfl ?_
 cases ng with
 | true=>
  simp -implicitDefEqProofs (disch:=first|omega|(simp only[LnZ];omega))[wrap64,hb]
  exact RetK.keep (hk _ _ ⟨rfl,rfl⟩)
 | false=>
  simp -implicitDefEqProofs (disch:=first|omega|(simp only[LnZ];omega))[wrap64,hb]
  exact RetK.keep (hk _ _ ⟨rfl,rfl⟩)
theorem c_normal_kid {h:Heap}{b1 b2:Nat}{x:Exq}{w:Value}{ng:Bool}{j:Nat}(hj:j<x.kids.length) (R:Rep h w x.kids) (h1:hload h (some (.pointer (some ⟨b1,2,none⟩))) none=some w) (h2:hload h (some (.pointer (some ⟨b2,0,none⟩))) none=some (.bool ng))
  (ih:∀{h:Heap}{v:Value},Rep h v x.kids[j]→CallE Tryz.prog fn_impl_Formula_normal [v,.bool ng] h (fun u h'=>h.le h'∧Rep h' u (Fm.push x.kids[j] ng))) :
  CallE Tryz.prog fn_impl_Formula_normal_1 [.int .i64 j,.pointer (some ⟨b1,0,none⟩),.pointer (some ⟨b2,0,none⟩)] h (fun u h'=>h.le h'∧Rep h' u (Fm.kp x ng j)):=by
 obtain⟨u,hu,Ru⟩:=R.ld hj
 change hload _ (some (elp 3 w j)) (some 3)=some u at hu
 refine CallE.gen fun k hk=>EN_impl_Formula_normal_1 rfl ?_
 simp -implicitDefEqProofs (disch:=first|omega|(simp only[LnZ];omega))[wrap64,setC,h1,h2,R.X (n:=3) rfl,hu,Ru.aExq]
 refine (ih Ru).go ?_
 rintro y h3 ⟨l3,R3⟩
 simp -implicitDefEqProofs (disch:=first|omega|(simp only[LnZ];omega))[wrap64,setC,R3.aExq]
 exact RetK.keep (hk _ _ ⟨l3,by rw[Fm.kp_at hj];exact R3⟩)
theorem c_normal:∀(x:Exq) {n:Nat}{h:Heap}{v:Value}{ng:Bool},Fm.Shp n x→Rep h v x→CallE Tryz.prog fn_impl_Formula_normal [v,.bool ng] h (fun u h'=>h.le h'∧Rep h' u (Fm.push x ng)):=by
 refine Exq.ind fun x ih n h v ng hs R=>?_
 obtain⟨m,rfl⟩:∃m,n=m+1:=⟨n-1,by cases n with
  | zero=>exact hs.elim
  | succ n=>rfl⟩
 have FX:=R.aExq
 obtain⟨w,rfl,k1,k2,R1⟩:=Rep_Exq.1 R
 have hpe:=Fm.push_eq x ng
 have hkd:=hs.nd.kind
 refine CallE.gen fun k hk=>EN_impl_Formula_normal rfl ?_
 rw[hpe] at hk
 simp -implicitDefEqProofs (disch:=first|omega|(simp only[LnZ];omega))[wrap64,FX]
 refine HS.init.alloc rfl fun b1 h1 H=>?_
 simp -implicitDefEqProofs (disch:=omega)[wrap64]
 refine H.alloc rfl fun b2 h2 H=>?_
 simp -implicitDefEqProofs (disch:=omega)[wrap64]
 have i1:I64 1:=⟨by decide,by decide⟩
 have i3:I64 3:=⟨by decide,by decide⟩
 have Rn:∀h,Rep h (.slice none 0 0) ([]:List Exq):=fun h=>Own_nils.rep.le fun _ _ h=>by simp[Heap.nil] at h
 refine (c_formula i1 (Rn _) (by simp)).go ?_
 rintro t h3 ⟨l3,Rt⟩
 obtain⟨tw,rfl,_,_,_⟩:=Rep_Exq.1 Rt
 simp -implicitDefEqProofs (disch:=first|omega|(simp only[LnZ];omega))[wrap64,setC]
 refine bls_one (α:=Exq) Rt rfl fun sl h4 l4 Rs=>?_
 simp -implicitDefEqProofs (disch:=omega)[wrap64]
 refine (c_formula i3 Rs (by simp)).go ?_
 rintro fs h5 ⟨l5,Rf⟩
 obtain⟨fw,rfl,_,_,Rfk⟩:=Rep_Exq.1 Rf
 have of:=Rfk.one
 have oc:=Rfk.cells
 have H:=H.le (l3.trans (l4.trans l5))
 have lb:=H.base
 have R1:=R1.le lb
 have q1:hload h5 (some (.pointer (some ⟨b1,0,none⟩))) none=some (.int .i64 x.kind):=H.sw1.bxld (o:=0) rfl
 have q2:hload h5 (some (.pointer (some ⟨b1,1,none⟩))) none=some (.int .i64 x.val):=H.sw1.bxld (o:=1) rfl
 have q3:hload h5 (some (.pointer (some ⟨b1,2,none⟩))) none=some w:=H.sw1.bxld (o:=2) rfl
 have q4:hload h5 (some (.pointer (some ⟨b2,0,none⟩))) none=some (.bool ng):=H.bxld (o:=0) rfl
 clear H
 have kid:∀{j:Nat}{h6:Heap}(hj:j<x.kids.length),h5.le h6→CallE Tryz.prog fn_impl_Formula_normal_1 [.int .i64 j,.pointer (some ⟨b1,0,none⟩),.pointer (some ⟨b2,0,none⟩)] h6 (fun u h'=>h6.le h'∧Rep h' u (Fm.kp x ng j)):=fun {j h6} hj l6=>
  c_normal_kid hj (R1.le l6) (hload_le l6 q3) (hload_le l6 q4) fun R=>ih _ (List.getElem_mem hj) (hs.kid hj) R
 have kid0:∀{h6:Heap},0<x.kids.length→h5.le h6→CallE Tryz.prog fn_impl_Formula_normal_1 [.int .i64 0,.pointer (some ⟨b1,0,none⟩),.pointer (some ⟨b2,0,none⟩)] h6 (fun u h'=>h6.le h'∧Rep h' u (Fm.kp x ng 0)):=fun hj l6=>kid (j:=0) hj l6
 have kid1:∀{h6:Heap},1<x.kids.length→h5.le h6→CallE Tryz.prog fn_impl_Formula_normal_1 [.int .i64 1,.pointer (some ⟨b1,0,none⟩),.pointer (some ⟨b2,0,none⟩)] h6 (fun u h'=>h6.le h'∧Rep h' u (Fm.kp x ng 1)):=fun hj l6=>kid (j:=1) hj l6
 by_cases c3:x.kind=3
 ·have hl:0<x.kids.length:=by rw[hs.one (.inl c3)];omega
  obtain⟨u,hu,Ru⟩:=R1.ld hl
  change hload _ (some (elp 3 w 0)) (some 3)=some u at hu
  rw[if_neg (by omega),if_pos c3] at hk
  simp -implicitDefEqProofs (disch:=first|omega|(simp only[LnZ];omega))[wrap64,setC,q1,q2,q3,q4,of,oc,c3,R1.X (n:=3) rfl,hu,Ru.aExq]
  refine (ih _ (List.getElem_mem hl) (hs.kid hl) Ru).go ?_
  rintro y h6 ⟨l6,Ry⟩
  simp -implicitDefEqProofs (disch:=first|omega|(simp only[LnZ];omega))[wrap64,setC,Ry.aExq]
  exact RetK.keep (hk _ _ ⟨lb.trans l6,by rw[Fm.kp_at hl];exact Ry⟩)
 by_cases c4:x.kind=4
 ·have hl:=hs.two (.inl c4)
  rw[if_neg (by omega),if_neg (by omega),if_neg (by omega),if_neg (by omega)] at hk
  simp -implicitDefEqProofs (disch:=first|omega|(simp only[LnZ];omega))[wrap64,setC,q1,q2,q3,q4,of,oc,c3,c4]
  refine (c_normal_pick q4).go ?_
  rintro _ _ ⟨rfl,rfl⟩
  simp -implicitDefEqProofs (disch:=omega)[wrap64]
  refine (kid0 (by omega) (Heap.le.refl _)).go ?_
  rintro y0 h6 ⟨l6,Ry0⟩
  simp -implicitDefEqProofs (disch:=omega)[wrap64]
  refine (kid1 (by omega) l6).go ?_
  rintro y1 h7 ⟨l7,Ry1⟩
  have Ry0:=Ry0.le l7
  obtain⟨z0,rfl,_,_,_⟩:=Rep_Exq.1 Ry0
  obtain⟨z1,rfl,_,_,_⟩:=Rep_Exq.1 Ry1
  simp -implicitDefEqProofs (disch:=omega)[wrap64]
  refine bls_two (α:=Exq) Ry0 Ry1 rfl fun sl2 h8 l8 Rs2=>?_
  simp -implicitDefEqProofs (disch:=omega)[wrap64]
  refine (c_formula (by cases ng<;>exact⟨by decide,by decide⟩) Rs2 (by simp)).go ?_
  rintro r h9 ⟨l9,Rr⟩
  simp -implicitDefEqProofs (disch:=first|omega|(simp only[LnZ];omega))[wrap64,setC,Rr.aExq]
  exact RetK.keep (hk _ _ ⟨lb.trans (l6.trans (l7.trans (l8.trans l9))),by cases ng<;>simpa[c4,Fm.dual] using Rr⟩)
 by_cases c5:x.kind=5
 ·have hl:=hs.two (.inr (.inl c5))
  rw[if_neg (by omega),if_neg (by omega),if_neg (by omega),if_neg (by omega)] at hk
  simp -implicitDefEqProofs (disch:=first|omega|(simp only[LnZ];omega))[wrap64,setC,q1,q2,q3,q4,of,oc,c3,c4,c5]
  refine (c_normal_pick q4).go ?_
  rintro _ _ ⟨rfl,rfl⟩
  simp -implicitDefEqProofs (disch:=omega)[wrap64]
  refine (kid0 (by omega) (Heap.le.refl _)).go ?_
  rintro y0 h6 ⟨l6,Ry0⟩
  simp -implicitDefEqProofs (disch:=omega)[wrap64]
  refine (kid1 (by omega) l6).go ?_
  rintro y1 h7 ⟨l7,Ry1⟩
  have Ry0:=Ry0.le l7
  obtain⟨z0,rfl,_,_,_⟩:=Rep_Exq.1 Ry0
  obtain⟨z1,rfl,_,_,_⟩:=Rep_Exq.1 Ry1
  simp -implicitDefEqProofs (disch:=omega)[wrap64]
  refine bls_two (α:=Exq) Ry0 Ry1 rfl fun sl2 h8 l8 Rs2=>?_
  simp -implicitDefEqProofs (disch:=omega)[wrap64]
  refine (c_formula (by cases ng<;>exact⟨by decide,by decide⟩) Rs2 (by simp)).go ?_
  rintro r h9 ⟨l9,Rr⟩
  simp -implicitDefEqProofs (disch:=first|omega|(simp only[LnZ];omega))[wrap64,setC,Rr.aExq]
  exact RetK.keep (hk _ _ ⟨lb.trans (l6.trans (l7.trans (l8.trans l9))),by cases ng<;>simpa[c5,Fm.dual] using Rr⟩)
 by_cases c6:x.kind=6
 ·have hl:=hs.one (.inr (.inl c6))
  rw[if_neg (by omega),if_neg (by omega),if_pos c6] at hk
  simp -implicitDefEqProofs (disch:=first|omega|(simp only[LnZ];omega))[wrap64,setC,q1,q2,q3,q4,of,oc,c3,c4,c5,c6]
  refine (kid0 (by omega) (Heap.le.refl _)).go ?_
  rintro y0 h6 ⟨l6,Ry0⟩
  obtain⟨z0,rfl,_,_,_⟩:=Rep_Exq.1 Ry0
  simp -implicitDefEqProofs (disch:=omega)[wrap64]
  refine bls_one (α:=Exq) Ry0 rfl fun sl2 h8 l8 Rs2=>?_
  simp -implicitDefEqProofs (disch:=omega)[wrap64]
  refine (c_formula ⟨by decide,by decide⟩ Rs2 (by simp)).go ?_
  rintro r h9 ⟨l9,Rr⟩
  simp -implicitDefEqProofs (disch:=first|omega|(simp only[LnZ];omega))[wrap64,setC,Rr.aExq]
  exact RetK.keep (hk _ _ ⟨lb.trans (l6.trans (l8.trans l9)),Rr⟩)
 by_cases c7:x.kind=7
 ·have hl:=hs.two (.inr (.inr (.inl c7)))
  rw[if_neg (by omega),if_neg (by omega),if_neg (by omega),if_neg (by omega)] at hk
  simp -implicitDefEqProofs (disch:=first|omega|(simp only[LnZ];omega))[wrap64,setC,q1,q2,q3,q4,of,oc,c3,c4,c5,c6,c7]
  refine (c_normal_pick q4).go ?_
  rintro _ _ ⟨rfl,rfl⟩
  simp -implicitDefEqProofs (disch:=omega)[wrap64]
  refine (kid0 (by omega) (Heap.le.refl _)).go ?_
  rintro y0 h6 ⟨l6,Ry0⟩
  simp -implicitDefEqProofs (disch:=omega)[wrap64]
  refine (kid1 (by omega) l6).go ?_
  rintro y1 h7 ⟨l7,Ry1⟩
  have Ry0:=Ry0.le l7
  obtain⟨z0,rfl,_,_,_⟩:=Rep_Exq.1 Ry0
  obtain⟨z1,rfl,_,_,_⟩:=Rep_Exq.1 Ry1
  simp -implicitDefEqProofs (disch:=omega)[wrap64]
  refine bls_two (α:=Exq) Ry0 Ry1 rfl fun sl2 h8 l8 Rs2=>?_
  simp -implicitDefEqProofs (disch:=omega)[wrap64]
  refine (c_formula (by cases ng<;>exact⟨by decide,by decide⟩) Rs2 (by simp)).go ?_
  rintro r h9 ⟨l9,Rr⟩
  simp -implicitDefEqProofs (disch:=first|omega|(simp only[LnZ];omega))[wrap64,setC,Rr.aExq]
  exact RetK.keep (hk _ _ ⟨lb.trans (l6.trans (l7.trans (l8.trans l9))),by cases ng<;>simpa[c7,Fm.dual] using Rr⟩)
 by_cases c8:x.kind=8
 ·have hl:=hs.two (.inr (.inr (.inr c8)))
  rw[if_neg (by omega),if_neg (by omega),if_neg (by omega),if_neg (by omega)] at hk
  simp -implicitDefEqProofs (disch:=first|omega|(simp only[LnZ];omega))[wrap64,setC,q1,q2,q3,q4,of,oc,c3,c4,c5,c6,c7,c8]
  refine (c_normal_pick q4).go ?_
  rintro _ _ ⟨rfl,rfl⟩
  simp -implicitDefEqProofs (disch:=omega)[wrap64]
  refine (kid0 (by omega) (Heap.le.refl _)).go ?_
  rintro y0 h6 ⟨l6,Ry0⟩
  simp -implicitDefEqProofs (disch:=omega)[wrap64]
  refine (kid1 (by omega) l6).go ?_
  rintro y1 h7 ⟨l7,Ry1⟩
  have Ry0:=Ry0.le l7
  obtain⟨z0,rfl,_,_,_⟩:=Rep_Exq.1 Ry0
  obtain⟨z1,rfl,_,_,_⟩:=Rep_Exq.1 Ry1
  simp -implicitDefEqProofs (disch:=omega)[wrap64]
  refine bls_two (α:=Exq) Ry0 Ry1 rfl fun sl2 h8 l8 Rs2=>?_
  simp -implicitDefEqProofs (disch:=omega)[wrap64]
  refine (c_formula (by cases ng<;>exact⟨by decide,by decide⟩) Rs2 (by simp)).go ?_
  rintro r h9 ⟨l9,Rr⟩
  simp -implicitDefEqProofs (disch:=first|omega|(simp only[LnZ];omega))[wrap64,setC,Rr.aExq]
  exact RetK.keep (hk _ _ ⟨lb.trans (l6.trans (l7.trans (l8.trans l9))),by cases ng<;>simpa[c8,Fm.dual] using Rr⟩)
 by_cases c9:x.kind=9
 ·have hl:=hs.one (.inr (.inr (.inl c9)))
  rw[if_neg (by omega),if_neg (by omega),if_neg (by omega),if_pos (by omega)] at hk
  cases ng
  ·rw[if_pos (by simp[c9])] at hk
   simp -implicitDefEqProofs (disch:=first|omega|(simp only[LnZ];omega))[wrap64,setC,q1,q2,q3,q4,of,oc,c3,c4,c5,c6,c7,c8,c9]
   refine (c_formula i1 (Rn _) (by simp)).go ?_
   rintro t2 h6 ⟨l6,Rt2⟩
   obtain⟨z1,rfl,_,_,_⟩:=Rep_Exq.1 Rt2
   simp -implicitDefEqProofs (disch:=omega)[wrap64]
   refine (kid0 (by omega) l6).go ?_
   rintro y0 h7 ⟨l7,Ry0⟩
   have Rt2:=Rt2.le l7
   obtain⟨z0,rfl,_,_,_⟩:=Rep_Exq.1 Ry0
   simp -implicitDefEqProofs (disch:=omega)[wrap64]
   refine bls_two (α:=Exq) Rt2 Ry0 rfl fun sl2 h8 l8 Rs2=>?_
   simp -implicitDefEqProofs (disch:=omega)[wrap64]
   refine (c_formula ⟨by decide,by decide⟩ Rs2 (by simp)).go ?_
   rintro r h9 ⟨l9,Rr⟩
   simp -implicitDefEqProofs (disch:=first|omega|(simp only[LnZ];omega))[wrap64,setC,Rr.aExq]
   exact RetK.keep (hk _ _ ⟨lb.trans (l6.trans (l7.trans (l8.trans l9))),Rr⟩)
  ·rw[if_neg (by simp[c9])] at hk
   simp -implicitDefEqProofs (disch:=first|omega|(simp only[LnZ];omega))[wrap64,setC,q1,q2,q3,q4,of,oc,c3,c4,c5,c6,c7,c8,c9]
   refine (kid0 (by omega) (Heap.le.refl _)).go ?_
   rintro y0 h7 ⟨l7,Ry0⟩
   have Rf2:=Rf.le l7
   obtain⟨z0,rfl,_,_,_⟩:=Rep_Exq.1 Ry0
   simp -implicitDefEqProofs (disch:=omega)[wrap64]
   refine bls_two (α:=Exq) Rf2 Ry0 rfl fun sl2 h8 l8 Rs2=>?_
   simp -implicitDefEqProofs (disch:=omega)[wrap64]
   refine (c_formula ⟨by decide,by decide⟩ Rs2 (by simp)).go ?_
   rintro r h9 ⟨l9,Rr⟩
   simp -implicitDefEqProofs (disch:=first|omega|(simp only[LnZ];omega))[wrap64,setC,Rr.aExq]
   exact RetK.keep (hk _ _ ⟨lb.trans (l7.trans (l8.trans l9)),Rr⟩)
 by_cases c10:x.kind=10
 ·have hl:=hs.one (.inr (.inr (.inr c10)))
  rw[if_neg (by omega),if_neg (by omega),if_neg (by omega),if_pos (by omega)] at hk
  cases ng
  ·rw[if_neg (by simp[c10])] at hk
   simp -implicitDefEqProofs (disch:=first|omega|(simp only[LnZ];omega))[wrap64,setC,q1,q2,q3,q4,of,oc,c3,c4,c5,c6,c7,c8,c9,c10]
   refine (kid0 (by omega) (Heap.le.refl _)).go ?_
   rintro y0 h7 ⟨l7,Ry0⟩
   have Rf2:=Rf.le l7
   obtain⟨z0,rfl,_,_,_⟩:=Rep_Exq.1 Ry0
   simp -implicitDefEqProofs (disch:=omega)[wrap64]
   refine bls_two (α:=Exq) Rf2 Ry0 rfl fun sl2 h8 l8 Rs2=>?_
   simp -implicitDefEqProofs (disch:=omega)[wrap64]
   refine (c_formula ⟨by decide,by decide⟩ Rs2 (by simp)).go ?_
   rintro r h9 ⟨l9,Rr⟩
   simp -implicitDefEqProofs (disch:=first|omega|(simp only[LnZ];omega))[wrap64,setC,Rr.aExq]
   exact RetK.keep (hk _ _ ⟨lb.trans (l7.trans (l8.trans l9)),Rr⟩)
  ·rw[if_pos (by simp[c10])] at hk
   simp -implicitDefEqProofs (disch:=first|omega|(simp only[LnZ];omega))[wrap64,setC,q1,q2,q3,q4,of,oc,c3,c4,c5,c6,c7,c8,c9,c10]
   refine (c_formula i1 (Rn _) (by simp)).go ?_
   rintro t2 h6 ⟨l6,Rt2⟩
   obtain⟨z1,rfl,_,_,_⟩:=Rep_Exq.1 Rt2
   simp -implicitDefEqProofs (disch:=omega)[wrap64]
   refine (kid0 (by omega) l6).go ?_
   rintro y0 h7 ⟨l7,Ry0⟩
   have Rt2:=Rt2.le l7
   obtain⟨z0,rfl,_,_,_⟩:=Rep_Exq.1 Ry0
   simp -implicitDefEqProofs (disch:=omega)[wrap64]
   refine bls_two (α:=Exq) Rt2 Ry0 rfl fun sl2 h8 l8 Rs2=>?_
   simp -implicitDefEqProofs (disch:=omega)[wrap64]
   refine (c_formula ⟨by decide,by decide⟩ Rs2 (by simp)).go ?_
   rintro r h9 ⟨l9,Rr⟩
   simp -implicitDefEqProofs (disch:=first|omega|(simp only[LnZ];omega))[wrap64,setC,Rr.aExq]
   exact RetK.keep (hk _ _ ⟨lb.trans (l6.trans (l7.trans (l8.trans l9))),Rr⟩)
 have c12:x.kind=1∨x.kind=2:=by omega
 rw[if_pos c12] at hk
 have Rlf:Rep h5 (.agg #[.int .i64 x.kind,.int .i64 x.val,.slice none 0 0]) (Exq.mk x.kind x.val []):=Rep_Exq.2 ⟨_,rfl,k1,k2,Rn _⟩
 have Flf:=Rlf.aExq
 cases ng
 ·simp -implicitDefEqProofs (disch:=first|omega|(simp only[LnZ];omega))[wrap64,setC,q1,q2,q3,q4,of,oc,c3,c4,c5,c6,c7,c8,c9,c10]
  exact RetK.keep (hk _ _ ⟨lb,Rlf⟩)
 ·simp -implicitDefEqProofs (disch:=first|omega|(simp only[LnZ];omega))[wrap64,setC,q1,q2,q3,q4,of,oc,c3,c4,c5,c6,c7,c8,c9,c10]
  refine bls_one (α:=Exq) Rlf rfl fun sl2 h8 l8 Rs2=>?_
  simp -implicitDefEqProofs (disch:=omega)[wrap64]
  refine (c_formula i3 Rs2 (by simp)).go ?_
  rintro r h9 ⟨l9,Rr⟩
  simp -implicitDefEqProofs (disch:=first|omega|(simp only[LnZ];omega))[wrap64,setC,Rr.aExq]
  exact RetK.keep (hk _ _ ⟨lb.trans (l8.trans l9),Rr⟩)
theorem c_Formula_normalForm {h:Heap}{v:Value}{x:Exq}(R:Rep h v x) (hx:Fm.Ok x):CallE Tryz.prog fn_impl_Formula_normalForm [v] h (fun u h'=>∃g,u=.tuple #[g,.bool (decide (Fm.Ok x∧Fm.Ok (Fm.push x false)))]∧h.le h'∧Rep h' g (Fm.nfR x)):=by
 have FX:=R.aExq
 refine CallE.gen fun k hk=>EN_impl_Formula_normalForm rfl ?_
 simp -implicitDefEqProofs (disch:=first|omega|(simp only[LnZ];omega))[wrap64,FX]
 refine (c_normal x hx.1 R).go ?_
 rintro g h1 ⟨l1,Rg⟩
 have FG:=Rg.aExq
 simp -implicitDefEqProofs (disch:=first|omega|(simp only[LnZ];omega))[wrap64,FG]
 refine (c_FormulaValid Rg).go ?_
 rintro _ h2 ⟨l2,rfl⟩
 by_cases q:Fm.Ok (Fm.push x false)
 ·simp -implicitDefEqProofs (disch:=first|omega|(simp only[LnZ];omega))[wrap64,q,FG]
  exact RetK.keep (hk _ _ ⟨_,by rw[decide_eq_true ⟨hx,q⟩],l1.trans l2,by rw[Fm.nfR,if_pos ⟨hx,q⟩];exact Rg.le l2⟩)
 ·simp -implicitDefEqProofs (disch:=first|omega|(simp only[LnZ];omega))[wrap64,q,FG]
  exact RetK.keep (hk _ _ ⟨_,by rw[decide_eq_false (fun hh=>q hh.2)],l1.trans l2,by rw[Fm.nfR,if_neg (fun hh=>q hh.2)];exact rep_zero⟩)
theorem c_NormalForm {h:Heap}{v:Value}{x:Exq}(R:Rep h v x):CallE Tryz.prog fn_impl_NormalForm [v] h (fun u h'=>∃g,u=.tuple #[g,.bool (decide (Fm.Ok x∧Fm.Ok (Fm.push x false)))]∧h.le h'∧Rep h' g (Fm.nfR x)):=by
 have FX:=R.aExq
 refine CallE.gen fun k hk=>EN_impl_NormalForm rfl ?_
 simp -implicitDefEqProofs (disch:=first|omega|(simp only[LnZ];omega))[wrap64,FX]
 refine (c_FormulaValid R).go ?_
 rintro _ h1 ⟨l1,rfl⟩
 by_cases q:Fm.Ok x
 case neg=>
  simp -implicitDefEqProofs (disch:=first|omega|(simp only[LnZ];omega))[wrap64,q]
  exact RetK.keep (hk _ _ ⟨_,by rw[decide_eq_false (fun hh=>q hh.1)],l1,by rw[Fm.nfR,if_neg (fun hh=>q hh.1)];exact rep_zero⟩)
 simp -implicitDefEqProofs (disch:=first|omega|(simp only[LnZ];omega))[wrap64,q,FX]
 refine (c_Formula_normalForm (R.le l1) q).go ?_
 rintro _ h2 ⟨g,rfl,l2,Rg⟩
 simp -implicitDefEqProofs (disch:=first|omega|(simp only[LnZ];omega))[wrap64,Rg.aExq]
 exact RetK.keep (hk _ _ ⟨g,by simp,l1.trans l2,Rg⟩)
theorem c_formulaAt_1 {h:Heap}{u:Value}{b:Nat}{x y:Exq}(Ru:Rep h u y) {v:Value}(Rv:Rep h v x) (hb:hload h (some (.pointer (some ⟨b,0,none⟩))) (some 3)=some v):CallE Tryz.prog fn_impl_formulaAt_1 [u,.pointer (some ⟨b,0,none⟩)] h (fun r h'=>h'=h∧r=.bool (decide (y=x))):=by
 have FU:=Ru.aExq
 refine CallE.gen fun k hk=>EN_impl_formulaAt_1 rfl ?_
 simp -implicitDefEqProofs (disch:=first|omega|(simp only[LnZ];omega))[wrap64,FU,hb,Rv.aExq]
 refine (c_FormulaSame Ru Rv).go ?_
 rintro _ _ ⟨rfl,rfl⟩
 simp -implicitDefEqProofs (disch:=omega)[wrap64]
 exact RetK.keep (hk _ _ ⟨rfl,rfl⟩)
theorem c_IndexFunc_eq {h:Heap}{a fv:Value}{l:List Exq}{x:Exq}(Ra:Rep h a l) {f:FuncId}{c1 c2:List Value}(hf:fnOf fv=some (f,c1,c2))
  (hp:∀(i:Nat) (hi:i<l.length) (u:Value),Rep h u l[i]→CallE Tryz.prog f (c1++u::c2) h (fun r h'=>h'=h∧r=.bool (decide (l[i]=x)))) :
  CallE Tryz.prog fn_slices_IndexFunc_S_impl_Formula_impl_Formula [a,fv] h (fun r h'=>h'=h∧r=.int .i64 (Fm.fx l x)):=by
 refine CallE.gen fun k hk=>EN_slices_IndexFunc_S_impl_Formula_impl_Formula rfl ?_
 have hL:=Ra.lt
 simp -implicitDefEqProofs (disch:=first|omega|(simp only[LnZ];omega))[wrap64,Ra.len]
 refine wp_count l.length (fun i e h'=>e=[some a,some fv,none,none,some (.int .i64 l.length),some (.int .i64 i)]∧h'=h∧∀(j:Nat) (hj:j<l.length),j<i→l[j]≠x) ⟨rfl,rfl,fun j _ hj=>absurd hj (Nat.not_lt_zero j)⟩ ?_
 rintro J i _ _ hJ hi ⟨rfl,rfl,hall⟩
 simp -implicitDefEqProofs (disch:=omega)[wrap64]
 refine IteW.mk (fun hlt=>?_) (fun hge=>?_)
 ·have hlx:i<l.length:=by omega
  obtain⟨u,hu,Ru⟩:=Ra.ld hlx
  change hload _ (some (elp 3 a i)) (some 3)=some u at hu
  simp -implicitDefEqProofs (disch:=first|omega|(simp only[LnZ];omega))[wrap64,Ra.X (n:=3) rfl,hu,hf]
  refine (hp i hlx u Ru).go ?_
  rintro _ _ ⟨rfl,rfl⟩
  by_cases e:l[i]=x
  ·simp -implicitDefEqProofs (disch:=first|omega|(simp only[LnZ];omega))[wrap64,e]
   exact RetK.keep (hk _ _ ⟨rfl,by rw[Fm.fx_at hlx e fun j hj hji=>hall j hj hji]⟩)
  ·simp -implicitDefEqProofs (disch:=first|omega|(simp only[LnZ];omega))[wrap64,e]
   refine hJ _ _ hlx ⟨rfl,rfl,fun j hj hji=>?_⟩
   by_cases hji2:j=i
   ·subst hji2;exact e
   ·exact hall j hj (by omega)
 ·simp -implicitDefEqProofs (disch:=omega)[wrap64]
  refine RetK.keep (hk _ _ ⟨rfl,?_⟩)
  rw[Fm.fx_not]
  intro hm
  obtain⟨j,hj,e⟩:=List.mem_iff_getElem.1 hm
  exact hall j hj (by omega) e
theorem c_formulaAt {h:Heap}{a v:Value}{l:List Exq}{x:Exq}(Ra:Rep h a l) (Rv:Rep h v x):CallE Tryz.prog fn_impl_formulaAt [a,v] h (fun r h'=>h.le h'∧r=.int .i64 (Fm.fx l x)):=by
 have FV:=Rv.aExq
 obtain⟨w,rfl,k1,k2,R1⟩:=Rep_Exq.1 Rv
 refine CallE.gen fun k hk=>EN_impl_formulaAt rfl ?_
 simp -implicitDefEqProofs (disch:=first|omega|(simp only[LnZ];omega))[wrap64,FV]
 refine HS.init.alloc rfl fun b h1 H=>?_
 have l1:=H.base
 have hb:hload h1 (some (.pointer (some ⟨b,0,none⟩))) (some 3)=some (.agg #[.int .i64 x.kind,.int .i64 x.val,w]):=by
  have:=H.bxlds (o:=0) (n:=3) (by simp)
  simpa using this
 simp -implicitDefEqProofs (disch:=omega)[wrap64]
 refine (c_IndexFunc_eq (x:=x) (Ra.le l1) (f:=fn_impl_formulaAt_1) (c1:=[]) (c2:=[.pointer (some ⟨b,0,none⟩)]) rfl fun i hi u Ru=>c_formulaAt_1 Ru (Rv.le l1) hb).go ?_
 rintro _ _ ⟨rfl,rfl⟩
 simp -implicitDefEqProofs (disch:=omega)[wrap64]
 exact RetK.keep (hk _ _ ⟨l1,rfl⟩)
theorem c_holds {B:List Exq}{s:Nat}(hB:∀y∈B,Fm.bas y=true) (hs:s<4611686018427387904):∀(x:Exq) {n:Nat}{h:Heap}{v bv:Value}{bt:Nat},Fm.Cl B n x→Rep h v x→Rep h bv B→hload h (some (.pointer (some ⟨bt,0,none⟩))) none=some bv →
  CallE Tryz.prog fn_impl_translator_holds [.pointer (some ⟨bt,0,none⟩),v,.int .i64 s] h (fun u h'=>h.le h'∧u=.bool (Fm.val B s x)):=by
 refine Exq.ind fun x ih n h v bv bt hc R RB ht=>?_
 obtain⟨n,rfl⟩:=hc.ex
 have hsh:=hc.shp
 obtain⟨hnd,hk8,h3,hbB,hkids⟩:=hc
 have FX:=R.aExq
 obtain⟨w,rfl,k1,k2,R1⟩:=Rep_Exq.1 R
 have hv:=Fm.val_eq (B:=B) (s:=s) x
 refine CallE.gen fun k hk=>EN_impl_translator_holds rfl ?_
 rw[hv] at hk
 simp -implicitDefEqProofs (disch:=first|omega|(simp only[LnZ];omega))[wrap64,FX,ht]
 refine (c_formulaAt RB R).go ?_
 rintro _ h1 ⟨l1,rfl⟩
 by_cases hm:x∈B
 ·obtain⟨i,hi,e1,e2⟩:=Fm.fx_mem hm
  have hb:=of_decide_eq_true (hB x hm)
  rw[if_neg (by omega),if_neg (by omega),if_neg (by omega),if_neg (by omega),e1] at hk
  have hBl:=RB.lt
  have hi0:¬(i:Int)<0:=by omega
  have hq:=has_eq (s:=s) (i:=(i:Int)) hs ⟨by omega,by omega⟩
  have hw:IntKind.u64.wrap (i:Int)=i:=u64_pos (by omega) (by omega)
  rw[hw] at hq
  cases e:Fm.has s i with
  | true=>
   have q1:=hq.2 e
   rw[e] at hk
   simp -implicitDefEqProofs (disch:=first|omega|(simp only[LnZ];omega))[wrap64,e1,hi0,hw,q1]
   exact RetK.keep (hk _ _ ⟨l1,rfl⟩)
  | false=>
   have q1:¬_:=fun hh=>by have:=hq.1 hh;rw[e] at this;simp at this
   rw[e] at hk
   simp -implicitDefEqProofs (disch:=first|omega|(simp only[LnZ];omega))[wrap64,e1,hi0,hw,q1]
   exact RetK.keep (hk _ _ ⟨l1,rfl⟩)
 have hnb:¬(x.kind=2∨x.kind=6∨x.kind=7∨x.kind=8):=fun hh=>hm (hbB (decide_eq_true hh))
 have hkd:=hnd.kind
 have e1:=Fm.fx_not hm
 have ht1:=hload_le l1 ht
 have R1:=R1.le l1
 have kid:∀{j:Nat}(hj:j<x.kids.length),∃u,hload h1 (some (elp 3 w j)) (some 3)=some u∧Rep h1 u x.kids[j]∧Fm.kv B s x j=Fm.val B s x.kids[j]:=fun {j} hj=>by
  obtain⟨u,hu,Ru⟩:=R1.ld hj
  exact⟨u,hu,Ru,Fm.kv_at hj⟩
 by_cases c1:x.kind=1
 ·rw[if_pos c1] at hk
  simp -implicitDefEqProofs (disch:=first|omega|(simp only[LnZ];omega))[wrap64,e1,c1]
  exact RetK.keep (hk _ _ ⟨l1,rfl⟩)
 rw[if_neg c1] at hk
 by_cases c3:x.kind=3
 ·have hl:=hsh.one (.inl c3)
  obtain⟨u,hu,Ru,hkv⟩:=kid (j:=0) (by omega)
  change hload h1 (some (elp 3 w 0)) (some 3)=some u at hu
  rw[if_pos c3] at hk
  simp -implicitDefEqProofs (disch:=first|omega|(simp only[LnZ];omega))[wrap64,e1,c3,R1.X (n:=3) rfl,hu,Ru.aExq]
  refine (ih _ (List.getElem_mem (by omega)) (hkids _ (List.getElem_mem (by omega))) Ru (RB.le l1) ht1).go ?_
  rintro _ h2 ⟨l2,rfl⟩
  simp -implicitDefEqProofs (disch:=omega)[wrap64]
  exact RetK.keep (hk _ _ ⟨l1.trans l2,by rw[← hkv]⟩)
 rw[if_neg c3] at hk
 by_cases c4:x.kind=4
 ·have hl:=hsh.two (.inl c4)
  obtain⟨u,hu,Ru,hkv⟩:=kid (j:=0) (by omega)
  obtain⟨u1,hu1,Ru1,hkv1⟩:=kid (j:=1) (by omega)
  change hload h1 (some (elp 3 w 0)) (some 3)=some u at hu
  change hload h1 (some (elp 3 w 1)) (some 3)=some u1 at hu1
  rw[if_pos c4,hkv,hkv1] at hk
  simp -implicitDefEqProofs (disch:=first|omega|(simp only[LnZ];omega))[wrap64,e1,c3,c4,R1.X (n:=3) rfl,hu,Ru.aExq]
  refine (ih _ (List.getElem_mem (by omega)) (hkids _ (List.getElem_mem (by omega))) Ru (RB.le l1) ht1).go ?_
  rintro _ h2 ⟨l2,rfl⟩
  cases e:Fm.val B s (x.kids[0]'(by omega)) with
  | false=>
   rw[e] at hk
   simp -implicitDefEqProofs (disch:=omega)[wrap64]
   exact RetK.keep (hk _ _ ⟨l1.trans l2,rfl⟩)
  | true=>
   rw[e] at hk
   have hu2:=hload_le l2 hu1
   simp -implicitDefEqProofs (disch:=first|omega|(simp only[LnZ];omega))[wrap64,(R1.le l2).X (n:=3) rfl,hu2,Ru1.aExq]
   refine (ih _ (List.getElem_mem (by omega)) (hkids _ (List.getElem_mem (by omega))) (Ru1.le l2) (RB.le (l1.trans l2)) (hload_le l2 ht1)).go ?_
   rintro _ h3 ⟨l3,rfl⟩
   simp -implicitDefEqProofs (disch:=omega)[wrap64]
   exact RetK.keep (hk _ _ ⟨l1.trans (l2.trans l3),by simp⟩)
 rw[if_neg c4] at hk
 by_cases c5:x.kind=5
 ·have hl:=hsh.two (.inr (.inl c5))
  obtain⟨u,hu,Ru,hkv⟩:=kid (j:=0) (by omega)
  obtain⟨u1,hu1,Ru1,hkv1⟩:=kid (j:=1) (by omega)
  change hload h1 (some (elp 3 w 0)) (some 3)=some u at hu
  change hload h1 (some (elp 3 w 1)) (some 3)=some u1 at hu1
  rw[if_pos c5,hkv,hkv1] at hk
  simp -implicitDefEqProofs (disch:=first|omega|(simp only[LnZ];omega))[wrap64,e1,c3,c4,c5,R1.X (n:=3) rfl,hu,Ru.aExq]
  refine (ih _ (List.getElem_mem (by omega)) (hkids _ (List.getElem_mem (by omega))) Ru (RB.le l1) ht1).go ?_
  rintro _ h2 ⟨l2,rfl⟩
  cases e:Fm.val B s (x.kids[0]'(by omega)) with
  | true=>
   rw[e] at hk
   simp -implicitDefEqProofs (disch:=omega)[wrap64]
   exact RetK.keep (hk _ _ ⟨l1.trans l2,rfl⟩)
  | false=>
   rw[e] at hk
   have hu2:=hload_le l2 hu1
   simp -implicitDefEqProofs (disch:=first|omega|(simp only[LnZ];omega))[wrap64,(R1.le l2).X (n:=3) rfl,hu2,Ru1.aExq]
   refine (ih _ (List.getElem_mem (by omega)) (hkids _ (List.getElem_mem (by omega))) (Ru1.le l2) (RB.le (l1.trans l2)) (hload_le l2 ht1)).go ?_
   rintro _ h3 ⟨l3,rfl⟩
   simp -implicitDefEqProofs (disch:=omega)[wrap64]
   exact RetK.keep (hk _ _ ⟨l1.trans (l2.trans l3),by simp⟩)
 omega
theorem c_subs_1 {g:Heap}{bV bO:Nat}{fv:Value}(hbv:hload g (some (.pointer (some ⟨bV,0,none⟩))) none=some fv) (hfv:fnOf fv=some (fn_impl_Formula_subformulas_1,[],[.pointer (some ⟨bV,0,none⟩),.pointer (some ⟨bO,0,none⟩)])) :
  ∀(x:Exq) {h:Heap}{v vs:Value}{O:List Exq},Sz.sz x≤1048576→O.length+x.nod≤1048576→Rep g v x→HS g [bx bO [vs],ow vs (O.map Mix.new)] h →
  CallE Tryz.prog fn_impl_Formula_subformulas_1 [v,.pointer (some ⟨bV,0,none⟩),.pointer (some ⟨bO,0,none⟩)] h (fun _ h'=>∃vs',HS g [bx bO [vs'],ow vs' ((Fm.subs x O).map Mix.new)] h'):=by
 refine Exq.ind fun x ih h v vs O hs hn R H=>?_
 have FX:=R.aExq
 obtain⟨w,rfl,k1,k2,R1⟩:=Rep_Exq.1 R
 have hnd:=x.nod_eq
 have hkl:=R1.lt
 have hlen:∀i,i≤x.kids.length→((x.kids.take i).foldl (fun o y=>Fm.subs y o) O).length+Exq.nods (x.kids.drop i)≤O.length+Exq.nods x.kids:=by
  intro i hi
  have h1:=Fm.subsL_len (x.kids.take i) (fun y _ o=>Fm.subs_len y o) O
  have h2:Exq.nods (x.kids.take i)+Exq.nods (x.kids.drop i)=Exq.nods x.kids:=by
   have key:∀a b:List Exq,Exq.nods a+Exq.nods b=Exq.nods (a++b):=by
    intro a b
    induction a with
    | nil=>simp[Exq.nods]
    | cons y a ih=>simp only[List.cons_append,Exq.nods];omega
   rw[key,List.take_append_drop]
  omega
 refine CallE.gen fun k hk=>EN_impl_Formula_subformulas_1 rfl ?_
 simp -implicitDefEqProofs (disch:=first|omega|(simp only[LnZ];omega))[wrap64,setC,FX,R1.len]
 refine wp_count x.kids.length (fun i e h'=>e=[none,some (.pointer (some ⟨bV,0,none⟩)),some (.pointer (some ⟨bO,0,none⟩)),some (.agg #[.int .i64 x.kind,.int .i64 x.val,w]),none,some w,some (.int .i64 x.kids.length),some (.int .i64 i)] ∧
  ∃vs,HS g [bx bO [vs],ow vs (((x.kids.take i).foldl (fun o y=>Fm.subs y o) O).map Mix.new)] h') ⟨by simp,vs,by simpa using H⟩ ?_
 clear H
 rintro J i _ h1 hJ hi ⟨rfl,vs,H⟩
 simp -implicitDefEqProofs (disch:=omega)[wrap64]
 refine IteW.mk (fun hlt=>?_) (fun hge=>?_)
 ·have hlx:i<x.kids.length:=by omega
  obtain⟨u,hu,Ru⟩:=R1.ld hlx
  have hu2:=hload_le H.base hu
  have hb2:=hload_le H.base hbv
  change hload _ (some (elp 3 w i)) (some 3)=some u at hu2
  have hll:=hlen i hi
  have hdr:Exq.nods (x.kids.drop i)=x.kids[i].nod+Exq.nods (x.kids.drop (i+1)):=by rw[List.drop_eq_getElem_cons hlx,Exq.nods]
  simp -implicitDefEqProofs (disch:=first|omega|(simp only[LnZ];omega))[wrap64,R1.X (n:=3) rfl,hu2,hb2,Ru.aExq,setC,hfv]
  refine (ih _ (List.getElem_mem hlx) (by have:=sz_kid hlx;omega) (by omega) Ru H).go ?_
  clear H
  rintro _ h2 ⟨vs',H⟩
  simp -implicitDefEqProofs (disch:=omega)[wrap64]
  refine hJ _ _ hlx ⟨by simp,vs',?_⟩
  rw[List.take_add_one,List.getElem?_eq_getElem hlx,List.foldl_append]
  exact H
 rw[List.take_of_length_le (by omega)] at H
 have hll:=hlen x.kids.length (Nat.le_refl _)
 rw[List.take_length] at hll
 have hse:=Fm.subs_eq x O
 generalize x.kids.foldl (fun o y=>Fm.subs y o) O=Q at *
 have HM:=H.sw1.mixed
 simp -implicitDefEqProofs (disch:=first|omega|(simp only[LnZ];omega))[wrap64,H.bxld0,FX]
 refine (c_formulaAt HM.rep (R.on H)).go ?_
 rintro _ h2 ⟨l2,rfl⟩
 have H:=H.le l2
 clear HM
 by_cases hm:x∈Q
 ·have hf:¬Fm.fx Q x<0:=fun hh=>Fm.fx_neg.1 hh hm
  simp -implicitDefEqProofs (disch:=first|omega|(simp only[LnZ];omega))[wrap64,hf]
  refine RetK.keep (hk _ _ ⟨vs,?_⟩)
  rw[hse,Fm.ins,if_pos hm]
  exact H
 ·have hf:Fm.fx Q x<0:=Fm.fx_neg.2 hm
  rw[Fm.ins,if_neg hm] at hse
  simp -implicitDefEqProofs (disch:=first|omega|(simp only[LnZ];omega))[wrap64,hf,H.bxld0,FX,H.sw1.rep.len,setC]
  refine (c_Formula_copyOf x (R.on H) hs).go ?_
  intro u h3 G
  have H:=G.app H
  have FU:=G.rep.aExq
  simp -implicitDefEqProofs (disch:=first|omega|(simp only[LnZ];omega))[wrap64,H.sw1.bxld0]
  refine HS.appO (α:=Mix Exq) (bytes:=40) ((H.sw2).rawO (c:=[.int .i64 0,.int .i64 0,.slice none 0 0]) (y:=Exq.zero) (h':=h) (repExq.2 ⟨_,rfl,i64_0,i64_0,Own_nils.rep.le fun _ _ h=>by simp[Heap.nil] at h⟩)) rfl rfl rfl rfl rfl (by simp;omega) (by simp;omega) fun vs1 h4 H=>?_
  have hia:=H.rep.X (n:=3) (α:=Mix Exq) rfl
  simp -implicitDefEqProofs (disch:=first|omega|(simp only[LnZ];omega))[wrap64,hia]
  have H:HS g [ow u (Mix.new x),ow vs1 (Q.map Mix.new++[Mix.raw [.int .i64 0,.int .i64 0,.slice none 0 0]]),bx bO [vs]] h4:=H.sw1.newO
  have hset:(Q.map Mix.new++[Mix.raw [.int .i64 0,.int .i64 0,.slice none 0 0]]).set Q.length (Mix.new x)=(Q++[x]).map Mix.new:=by
   rw[List.set_append_right _ _ (by simp)]
   simp
  constructor
  ·simp -implicitDefEqProofs (disch:=omega)[wrap64]
   refine HS.store (i:=Q.length) H (by simp) rfl rfl rfl fun h5 H=>?_
   rw[hset] at H
   simp -implicitDefEqProofs (disch:=omega)[wrap64]
   refine H.sw1.bxst (u:=vs1) rfl rfl (by rw[H.rep.cells];rfl) (by rw[H.rep.cells];simp[H.rep.one]) (by simp[H.rep.cells]) fun h6 H=>?_
   simp -implicitDefEqProofs (disch:=omega)[wrap64]
   refine RetK.keep (hk _ _ ⟨vs1,?_⟩)
   rw[hse]
   simpa[setC,H.sw1.rep.cells] using H
  ·simp -implicitDefEqProofs (disch:=omega)[wrap64]
   refine H.sw2.bxst (u:=vs1) rfl rfl (by rw[H.sw1.rep.cells];rfl) (by rw[H.sw1.rep.cells];simp[H.sw1.rep.one]) (by simp[H.sw1.rep.cells]) fun h6 H=>?_
   simp -implicitDefEqProofs (disch:=omega)[wrap64]
   refine HS.store (i:=Q.length) H.bk2 (by simp) rfl rfl rfl fun h5 H=>?_
   rw[hset] at H
   simp -implicitDefEqProofs (disch:=omega)[wrap64]
   refine RetK.keep (hk _ _ ⟨vs1,?_⟩)
   rw[hse]
   simpa[setC,H.rep.cells] using H.sw1
theorem c_subformulas {x:Exq}{h:Heap}{v:Value}(hs:Sz.sz x≤1048576) (hn:x.nod≤1048576) (R:Rep h v x):CallE Tryz.prog fn_impl_Formula_subformulas [v] h (fun u h'=>h.le h'∧Rep h' u (Fm.subs x [])):=by
 have FX:=R.aExq
 refine CallE.gen fun k hk=>EN_impl_Formula_subformulas rfl ?_
 simp -implicitDefEqProofs (disch:=first|omega|(simp only[LnZ];omega))[wrap64,setC,FX]
 refine HS.init.alloc rfl fun bO h1 H=>?_
 simp -implicitDefEqProofs (disch:=omega)[wrap64]
 refine H.alloc rfl fun bV h2 H=>?_
 simp -implicitDefEqProofs (disch:=omega)[wrap64]
 obtain⟨fv,hfv⟩:∃fv,fv=Value.func (.func fn_impl_Formula_subformulas_1) #[] #[.pointer (some ⟨bV,0,none⟩),.pointer (some ⟨bO,0,none⟩)]:=⟨_,rfl⟩
 have hfc:fv.cells = #[fv]:=by rw[hfv];rfl
 have hf1:fv.oneCell'=true:=by rw[hfv];rfl
 have hfo:fnOf fv=some (fn_impl_Formula_subformulas_1,[],[.pointer (some ⟨bV,0,none⟩),.pointer (some ⟨bO,0,none⟩)]):=by rw[hfv];rfl
 rw[← hfv]
 refine H.bxst (u:=fv) rfl rfl (by rw[hfc];rfl) (by rw[hfc];simp[hf1]) (by simp) fun h3 H=>?_
 have H:HS h [bx bV [fv],bx bO [.slice none 0 0]] h3:=by simpa[setC,hfc] using H
 simp -implicitDefEqProofs (disch:=first|omega|(simp only[LnZ];omega))[wrap64,H.bxld0,hfo,FX]
 have H:=(H.nil_ow (α:=Mix Exq)).sw1
 obtain⟨g1,H1,H2⟩:=HS.rebase (Δ:=[bx bO [.slice none 0 0],ow (.slice none 0 0) ([]:List (Mix Exq))]) (Γ:=[bx bV [fv]]) H.bk2.sw1
 have lb:=H1.base
 refine (c_subs_1 H1.bxld0 hfo x (O:=[]) hs (by simpa using hn) (R.le lb) H2).go ?_
 clear H H2
 rintro _ h4 ⟨vs,H⟩
 simp -implicitDefEqProofs (disch:=first|omega|(simp only[LnZ];omega))[wrap64,H.bxld0]
 refine (c_Clip_impl_Formula H.sw1).go ?_
 intro u h5 H
 simp -implicitDefEqProofs (disch:=omega)[wrap64]
 exact RetK.keep (hk _ _ ⟨lb.trans H.base,H.mixed.rep⟩)
theorem c_basics {x:Exq}{h:Heap}{v:Value}(hs:Sz.sz x≤1048576) (hn:x.nod≤64) (R:Rep h v x):CallE Tryz.prog fn_impl_basics [v] h (fun u h'=>h.le h'∧Rep h' u ((Fm.subs x []).filter Fm.bas)):=by
 have FX:=R.aExq
 have hsl:=Fm.subs_len x []
 refine CallE.gen fun k hk=>EN_impl_basics rfl ?_
 simp -implicitDefEqProofs (disch:=first|omega|(simp only[LnZ];omega))[wrap64,setC,FX]
 refine (c_subformulas hs (by omega) R).go ?_
 intro ls h3 ⟨l3,RL⟩
 generalize Fm.subs x []=S at *
 simp only[List.length_nil,Nat.zero_add] at hsl
 simp -implicitDefEqProofs (disch:=first|omega|(simp only[LnZ];omega))[wrap64,RL.len]
 refine wp_count S.length (fun i e h'=>∃(o:Value) (N:List (Mix Exq)),e=[none,none,none,some o,none,some ls,some (.int .i64 S.length),some (.int .i64 i)]∧HS h3 [ow o N] h'∧Raws h3 ((S.take i).filter Fm.bas) N) ⟨.slice none 0 0,[],by simp,HS.init.nil_ow,by simpa using Raws.nil⟩ ?_
 rintro J i _ h4 hJ hi ⟨o,N,rfl,H,hN⟩
 simp -implicitDefEqProofs (disch:=omega)[wrap64]
 refine IteW.mk (fun hlt=>?_) (fun hge=>?_)
 ·have hlx:i<S.length:=by omega
  obtain⟨u,hu,Ru⟩:=RL.ld hlx
  have hu':=hload_le H.base hu
  change hload _ (some (elp 3 ls i)) (some 3)=some u at hu'
  have hX:=RL.X (n:=3) rfl
  have FU:=Ru.aExq
  have hft:=flt_take (p:=Fm.bas) hlx
  have hNl:N.length≤64:=by
   rw[hN.len]
   have:=flt_len (p:=Fm.bas) (l:=S) (i:=i)
   omega
  obtain⟨wq,rfl,kk1,kk2,Rq⟩:=Rep_Exq.1 Ru
  have hcs:Ty.rep h3 [.int .i64 S[i].kind,.int .i64 S[i].val,wq] S[i]:=repExq.2 ⟨wq,rfl,kk1,kk2,Rq⟩
  have hOq:=Rq.one
  have hyes:Fm.bas S[i]=true→∀(o':Value) (h5:Heap),HS h3 [ow o' (N++[Mix.raw [.int .i64 S[i].kind,.int .i64 S[i].val,wq]])] h5→J [none,none,none,some o',none,some ls,some (.int .i64 S.length),some (.int .i64 ((i+1:Nat):Int))] h5:=fun hb o' h5 H=>
   hJ _ _ hlx ⟨o',_,by simp,H,by rw[hft,hb,if_pos rfl];exact hN.push hcs⟩
  have hno:Fm.bas S[i]=false→J [none,none,none,some o,none,some ls,some (.int .i64 S.length),some (.int .i64 ((i+1:Nat):Int))] h4:=fun hb=>
   hJ _ _ hlx ⟨o,N,by simp,H,by rw[hft,hb];simpa using hN⟩
  have hbd:Fm.bas S[i]=decide (S[i].kind=2∨S[i].kind=6∨S[i].kind=7∨S[i].kind=8):=rfl
  obtain⟨kd,hkd⟩:∃kd,S[i].kind=kd:=⟨_,rfl⟩
  rw[hkd] at hcs hyes hbd hu'
  by_cases c2:kd=2
  ·subst c2
   simp -implicitDefEqProofs (disch:=first|omega|(simp only[LnZ];omega))[wrap64,hX,hu',setC,hOq]
   refine HS.appO (α:=Mix Exq) (bytes:=40) (H.rawO hcs) rfl rfl rfl rfl rfl (by omega) (by omega) fun o' h5 H=>?_
   simp -implicitDefEqProofs (disch:=omega)[wrap64]
   simpa using hyes (by rw[hbd];simp) o' h5 H
  by_cases c6:kd=6
  ·subst c6
   simp -implicitDefEqProofs (disch:=first|omega|(simp only[LnZ];omega))[wrap64,hX,hu',setC,hOq]
   refine HS.appO (α:=Mix Exq) (bytes:=40) (H.rawO hcs) rfl rfl rfl rfl rfl (by omega) (by omega) fun o' h5 H=>?_
   simp -implicitDefEqProofs (disch:=omega)[wrap64]
   simpa using hyes (by rw[hbd];simp) o' h5 H
  by_cases c7:kd=7
  ·subst c7
   simp -implicitDefEqProofs (disch:=first|omega|(simp only[LnZ];omega))[wrap64,hX,hu',setC,hOq]
   refine HS.appO (α:=Mix Exq) (bytes:=40) (H.rawO hcs) rfl rfl rfl rfl rfl (by omega) (by omega) fun o' h5 H=>?_
   simp -implicitDefEqProofs (disch:=omega)[wrap64]
   simpa using hyes (by rw[hbd];simp) o' h5 H
  by_cases c8:kd=8
  ·subst c8
   simp -implicitDefEqProofs (disch:=first|omega|(simp only[LnZ];omega))[wrap64,hX,hu',setC,hOq]
   refine HS.appO (α:=Mix Exq) (bytes:=40) (H.rawO hcs) rfl rfl rfl rfl rfl (by omega) (by omega) fun o' h5 H=>?_
   simp -implicitDefEqProofs (disch:=omega)[wrap64]
   simpa using hyes (by rw[hbd];simp) o' h5 H
  simp -implicitDefEqProofs (disch:=first|omega|(simp only[LnZ];omega))[wrap64,hX,hu',setC,hOq,c2,c6,c7,c8]
  simpa using hno (by rw[hbd];simp[c2,c6,c7,c8])
 rw[List.take_of_length_le (by omega)] at hN
 simp -implicitDefEqProofs (disch:=omega)[wrap64]
 refine (c_Clip_impl_Formula H).go ?_
 intro u h5 H
 simp -implicitDefEqProofs (disch:=omega)[wrap64]
 exact RetK.keep (hk _ _ ⟨l3.trans H.base,H.rep.raws (hN.le H.base)⟩)
theorem c_BasicFormulas {h:Heap}{v:Value}{x:Exq}(R:Rep h v x):CallE Tryz.prog fn_impl_BasicFormulas [v] h (fun u h'=>∃w,u=.tuple #[w,.bool (decide (Fm.bOk x))]∧h.le h'∧Rep h' w (Fm.basR x)):=by
 have FX:=R.aExq
 have Rn:∀h,Rep h (.slice none 0 0) ([]:List Exq):=fun h=>Own_nils.rep.le fun _ _ h=>by simp[Heap.nil] at h
 refine CallE.gen fun k hk=>EN_impl_BasicFormulas rfl ?_
 simp -implicitDefEqProofs (disch:=first|omega|(simp only[LnZ];omega))[wrap64,FX]
 refine (c_NormalForm R).go ?_
 rintro _ h1 ⟨w,rfl,l1,Rg⟩
 have FW:=Rg.aExq
 by_cases q1:Fm.Ok x∧Fm.Ok (Fm.push x false)
 case neg=>
  simp -implicitDefEqProofs (disch:=first|omega|(simp only[LnZ];omega))[wrap64,q1,FW,setC]
  exact RetK.keep (hk _ _ ⟨_,by rw[decide_eq_false (fun hh=>q1 hh.1)],l1,by rw[Fm.basR,if_neg (fun hh=>q1 hh.1)];exact Rn _⟩)
 rw[Fm.nfR,if_pos q1] at Rg
 simp -implicitDefEqProofs (disch:=first|omega|(simp only[LnZ];omega))[wrap64,q1,FW,setC]
 refine (c_basics (by have:=q1.2.sz;omega) (by have:=q1.2.2;omega) Rg).go ?_
 intro o h2 ⟨l2,Ro⟩
 have hbd:Fm.basics x=(Fm.subs (Fm.push x false) []).filter Fm.bas:=rfl
 rw[← hbd] at Ro
 by_cases q2:(Fm.basics x).length≤5
 ·have bok:Fm.bOk x:=⟨q1,q2⟩
  have hlt:¬(5:Int)<(Fm.basics x).length:=by omega
  simp -implicitDefEqProofs (disch:=first|omega|(simp only[LnZ];omega))[wrap64,Ro.len,hlt]
  exact RetK.keep (hk _ _ ⟨o,by rw[decide_eq_true bok],l1.trans l2,by rw[Fm.basR,if_pos bok];exact Ro⟩)
 ·have nok:¬Fm.bOk x:=fun hh=>q2 hh.2
  have hlt:(5:Int)<(Fm.basics x).length:=by omega
  simp -implicitDefEqProofs (disch:=first|omega|(simp only[LnZ];omega))[wrap64,Ro.len,hlt]
  exact RetK.keep (hk _ _ ⟨_,by rw[decide_eq_false nok],l1.trans l2,by rw[Fm.basR,if_neg nok];exact Rn _⟩)
theorem has_p {s i:Nat}(hs:s<4611686018427387904) (hi:i<64):(andI .i64 (shrI .i64 (s:Int) (i:Int)) 1=1)=(s.testBit i=true):=by
 have h:=has_eq (s:=s) (i:=(i:Int)) hs ⟨by omega,by omega⟩
 rw[u64_pos (by omega) (by omega),Fm.has_nat] at h
 exact propext h
theorem has_z {s i:Nat}(hs:s<4611686018427387904) (hi:i<64):(andI .i64 (shrI .i64 (s:Int) (i:Int)) 1=0)=(s.testBit i=false):=by
 have h:=has_p hs hi
 have h1:s / 2^(min i 64)≤s:=Nat.div_le_self _ _
 have h2:andI .i64 (shrI .i64 (s:Int) (i:Int)) 1=0∨andI .i64 (shrI .i64 (s:Int) (i:Int)) 1=1:=by
  rw[i64_shr,show (1:Int)=((1:Nat):Int) from rfl,i64_and (by omega) (by omega),Nat.and_one_is_mod]
  omega
 rcases h2 with h2 | h2
 ·rw[h2] at h ⊢
  cases e:s.testBit i with
  | false=>simp
  | true=>rw[e] at h;simp at h
 ·rw[h2] at h ⊢
  cases e:s.testBit i with
  | false=>rw[e] at h;simp at h
  | true=>simp
theorem Bc_bas {B:List Exq}(h:Fm.Bc B):∀y∈B,Fm.bas y=true:=fun y hy=>(h.2 y hy).2.1
theorem Bc_kid {B:List Exq}(h:Fm.Bc B) {y:Exq}(hy:y∈B):∃m,∀z∈y.kids,Fm.Cl B m z:=by
 obtain⟨_,_,n,hc⟩:=h.2 y hy
 obtain⟨m,rfl⟩:=hc.ex
 exact⟨m,hc.2.2.2.2⟩
theorem c_follows {h:Heap}{w:Value}{B:List Exq}{bt s t:Nat}(hB:Fm.Bc B) (hn5:B.length≤5) (hs:s<4611686018427387904) (ht:t<4611686018427387904) (R:Rep h w B) (hbt:hload h (some (.pointer (some ⟨bt,0,none⟩))) none=some w) :
  CallE Tryz.prog fn_impl_translator_follows [.pointer (some ⟨bt,0,none⟩),.int .i64 s,.int .i64 t] h (fun u h'=>h.le h'∧u=.bool (decide (Fm.Fol B s t))):=by
 have hL:=R.lt
 refine CallE.gen fun k hk=>EN_impl_translator_follows rfl ?_
 simp -implicitDefEqProofs (disch:=first|omega|(simp only[LnZ];omega))[wrap64,hbt,R.len]
 refine wp_count B.length (fun i e h'=>e=[some (.pointer (some ⟨bt,0,none⟩)),some (.int .i64 s),some (.int .i64 t),none,none,none,none,none,none,some w,some (.int .i64 B.length),some (.int .i64 i),none]∧h.le h'∧∀(j:Nat) (hj:j<B.length),j<i→Fm.got B s t j B[j]=s.testBit j) ⟨by simp,Heap.le.refl _,fun j _ hj=>absurd hj (Nat.not_lt_zero j)⟩ ?_
 rintro J i _ h1 hJ hi ⟨rfl,l1,hq⟩
 simp -implicitDefEqProofs (disch:=omega)[wrap64]
 refine IteW.mk (fun hlt=>?_) (fun hge=>?_)
 ·have hlx:i<B.length:=by omega
  have R:=R.le l1
  have hbt:=hload_le l1 hbt
  have hy:Fm.got B s t i B[i]=s.testBit i→∀h2,h1.le h2→J [some (.pointer (some ⟨bt,0,none⟩)),some (.int .i64 s),some (.int .i64 t),none,none,none,none,none,none,some w,some (.int .i64 B.length),some (.int .i64 ((i+1:Nat):Int)),none] h2:=fun e h2 l2=>hJ _ _ hlx ⟨rfl,l1.trans l2,fun j hj hji=>by
   by_cases e2:j=i
   ·subst e2;exact e
   ·exact hq j hj (by omega)⟩
  have hno:¬Fm.got B s t i B[i]=s.testBit i→∀h2,h1.le h2→k (.bool false) h2:=fun e h2 l2=>hk _ _ ⟨l1.trans l2,by rw[decide_eq_false (fun hh:Fm.Fol B s t=>e (hh i hlx))]⟩
  have hsp:=(hB.2 _ (List.getElem_mem hlx)).1
  obtain⟨m,hkc⟩:=Bc_kid hB (List.getElem_mem hlx)
  obtain⟨y,hyd⟩:∃y,y=B[i]:=⟨_,rfl⟩
  obtain⟨u,hu,Ru⟩:=R.ld hlx
  change hload _ (some (elp 3 w i)) (some 3)=some u at hu
  rw[← hyd] at hy hno hsp Ru hkc
  obtain⟨wk,rfl,k1,k2,R1⟩:=Rep_Exq.1 Ru
  have hX:=R.X (n:=3) rfl
  have kO:=R1.one
  have hi0:¬(i:Int)<0:=by omega
  have hw:IntKind.u64.wrap (i:Int)=i:=u64_pos (by omega) (by omega)
  have hp1:=has_p (i:=i) hs (by omega)
  have hp2:=has_p (i:=i) ht (by omega)
  have kid:∀{j:Nat}(hj:j<y.kids.length),∃u,hload h1 (some (elp 3 wk j)) (some 3)=some u∧Rep h1 u y.kids[j]:=fun hj=>R1.ld hj
  have hY:=R1.X (n:=3) rfl
  have V:∀{j:Nat}(hj:j<y.kids.length) {u:Value}{s:Nat}{h2:Heap},h1.le h2→s<4611686018427387904→Rep h1 u y.kids[j]→CallE Tryz.prog fn_impl_translator_holds [.pointer (some ⟨bt,0,none⟩),u,.int .i64 s] h2 (fun u h'=>h2.le h'∧u=.bool (Fm.val B s y.kids[j])):=fun hj _ _ _ l2 hs r=>c_holds (Bc_bas hB) hs _ (hkc _ (List.getElem_mem hj)) (r.le l2) (R.le l2) (hload_le l2 hbt)
  unfold Fm.got at hy hno
  by_cases c6:y.kind=6
  ·have hl:=hsp.one (by omega)
   obtain⟨u0,hu0,Ru0⟩:=kid (j:=0) (by omega)
   rw[if_pos c6,Fm.kv_at (j:=0) (by omega)] at hy hno
   have hbs:Fm.bas y=true:=Bc_bas hB y (hyd▸List.getElem_mem hlx)
   change hload _ (some (elp 3 wk 0)) (some 3)=some u0 at hu0
   simp -implicitDefEqProofs (disch:=first|omega|(simp only[LnZ];omega))[wrap64,hX,hu,hi0,hw,hp1,hp2,c6,hY,hu0,setC,kO,Ru0.aExq]
   refine (V (by omega) (Heap.le.refl _) ht Ru0).go ?_
   rintro _ h2 ⟨l2,rfl⟩
   by_cases e:Fm.val B t y.kids[0]=s.testBit i
   ·simp -implicitDefEqProofs (disch:=first|omega|(simp only[LnZ];omega))[wrap64,e]
    simpa using hy e _ l2
   ·simp -implicitDefEqProofs (disch:=first|omega|(simp only[LnZ];omega))[wrap64,e,Ne.symm e]
    exact RetK.keep (hno e _ l2)
  rw[if_neg c6] at hy hno
  by_cases c7:y.kind=7
  ·have hl:=hsp.two (by omega)
   obtain⟨u0,hu0,Ru0⟩:=kid (j:=0) (by omega)
   obtain⟨u1,hu1,Ru1⟩:=kid (j:=1) (by omega)
   change hload _ (some (elp 3 wk 0)) (some 3)=some u0 at hu0
   change hload _ (some (elp 3 wk 1)) (some 3)=some u1 at hu1
   rw[if_pos c7,Fm.kv_at (j:=0) (by omega),Fm.kv_at (j:=1) (by omega)] at hy hno
   simp -implicitDefEqProofs (disch:=first|omega|(simp only[LnZ];omega))[wrap64,hX,hu,hi0,hw,hp1,hp2,c6,c7,hY,hu1,setC,kO,Ru1.aExq]
   refine (V (by omega) (Heap.le.refl _) hs Ru1).go ?_
   rintro _ h2 ⟨l2,rfl⟩
   cases hv1:Fm.val B s y.kids[1] with
   | true=>
    rw[hv1] at hy hno
    cases hw:s.testBit i with
    | true=>
     rw[hw] at hy
     simp -implicitDefEqProofs (disch:=first|omega|(simp only[LnZ];omega))[wrap64,hv1,hw]
     simpa using hy (by simp) _ l2
    | false=>
     rw[hw] at hno
     simp -implicitDefEqProofs (disch:=first|omega|(simp only[LnZ];omega))[wrap64,hv1,hw]
     exact RetK.keep (hno (by simp) _ l2)
   | false=>
    rw[hv1] at hy hno
    have hu0:=hload_le l2 hu0
    simp -implicitDefEqProofs (disch:=first|omega|(simp only[LnZ];omega))[wrap64,hv1,(R1.le l2).X (n:=3) rfl,hu0,Ru0.aExq]
    refine (V (by omega) l2 hs Ru0).go ?_
    rintro _ h3 ⟨l3,rfl⟩
    have l3:=l2.trans l3
    cases hv0:Fm.val B s y.kids[0] with
    | false=>
     rw[hv0] at hy hno
     cases hw:s.testBit i with
     | false=>
      rw[hw] at hy
      simp -implicitDefEqProofs (disch:=first|omega|(simp only[LnZ];omega))[wrap64,hv0,hw]
      simpa using hy (by simp) _ l3
     | true=>
      rw[hw] at hno
      simp -implicitDefEqProofs (disch:=first|omega|(simp only[LnZ];omega))[wrap64,hv0,hw]
      exact RetK.keep (hno (by simp) _ l3)
    | true=>
     rw[hv0] at hy hno
     by_cases e:t.testBit i=s.testBit i
     ·simp -implicitDefEqProofs (disch:=first|omega|(simp only[LnZ];omega))[wrap64,hv0,e]
      simpa using hy (by simpa using e) _ l3
     ·simp -implicitDefEqProofs (disch:=first|omega|(simp only[LnZ];omega))[wrap64,hv0,e,Ne.symm e]
      exact RetK.keep (hno (by simpa using e) _ l3)
  rw[if_neg c7] at hy hno
  by_cases c8:y.kind=8
  ·have hl:=hsp.two (by omega)
   obtain⟨u0,hu0,Ru0⟩:=kid (j:=0) (by omega)
   obtain⟨u1,hu1,Ru1⟩:=kid (j:=1) (by omega)
   change hload _ (some (elp 3 wk 0)) (some 3)=some u0 at hu0
   change hload _ (some (elp 3 wk 1)) (some 3)=some u1 at hu1
   rw[if_pos c8,Fm.kv_at (j:=0) (by omega),Fm.kv_at (j:=1) (by omega)] at hy hno
   simp -implicitDefEqProofs (disch:=first|omega|(simp only[LnZ];omega))[wrap64,hX,hu,hi0,hw,hp1,hp2,c6,c7,c8,hY,hu1,setC,kO,Ru1.aExq]
   refine (V (by omega) (Heap.le.refl _) hs Ru1).go ?_
   rintro _ h2 ⟨l2,rfl⟩
   cases hv1:Fm.val B s y.kids[1] with
   | false=>
    rw[hv1] at hy hno
    cases hw:s.testBit i with
    | false=>
     rw[hw] at hy
     simp -implicitDefEqProofs (disch:=first|omega|(simp only[LnZ];omega))[wrap64,hv1,hw]
     simpa using hy (by simp) _ l2
    | true=>
     rw[hw] at hno
     simp -implicitDefEqProofs (disch:=first|omega|(simp only[LnZ];omega))[wrap64,hv1,hw]
     exact RetK.keep (hno (by simp) _ l2)
   | true=>
    rw[hv1] at hy hno
    have hu0:=hload_le l2 hu0
    simp -implicitDefEqProofs (disch:=first|omega|(simp only[LnZ];omega))[wrap64,hv1,(R1.le l2).X (n:=3) rfl,hu0,Ru0.aExq]
    refine (V (by omega) l2 hs Ru0).go ?_
    rintro _ h3 ⟨l3,rfl⟩
    have l3:=l2.trans l3
    cases hv0:Fm.val B s y.kids[0] with
    | true=>
     rw[hv0] at hy hno
     cases hw:s.testBit i with
     | true=>
      rw[hw] at hy
      simp -implicitDefEqProofs (disch:=first|omega|(simp only[LnZ];omega))[wrap64,hv0,hw]
      simpa using hy (by simp) _ l3
     | false=>
      rw[hw] at hno
      simp -implicitDefEqProofs (disch:=first|omega|(simp only[LnZ];omega))[wrap64,hv0,hw]
      exact RetK.keep (hno (by simp) _ l3)
    | false=>
     rw[hv0] at hy hno
     by_cases e:t.testBit i=s.testBit i
     ·simp -implicitDefEqProofs (disch:=first|omega|(simp only[LnZ];omega))[wrap64,hv0,e]
      simpa using hy (by simpa using e) _ l3
     ·simp -implicitDefEqProofs (disch:=first|omega|(simp only[LnZ];omega))[wrap64,hv0,e,Ne.symm e]
      exact RetK.keep (hno (by simpa using e) _ l3)
  rw[if_neg c8] at hy hno
  simp -implicitDefEqProofs (disch:=first|omega|(simp only[LnZ];omega))[wrap64,hX,hu,hi0,hw,hp1,hp2,c6,c7,c8,setC,kO]
  simpa using hy rfl _ (Heap.le.refl _)
 ·simp -implicitDefEqProofs (disch:=omega)[wrap64]
  exact RetK.keep (hk _ _ ⟨l1,by rw[decide_eq_true (show Fm.Fol B s t from fun j hj=>hq j hj (by omega))]⟩)
theorem c_fulfils {h:Heap}{w uv:Value}{B:List Exq}{U:List Int}{bt s p u:Nat}(hB:Fm.Bc B) (hn5:B.length≤5) (hs:s<4611686018427387904) (hp:p<U.length) (hUp:U[p]=(u:Int)) (hu:u<B.length) (hk7:B[u].kind=7) (R:Rep h w B) (RU:Rep h uv U)
  (hbt:hload h (some (.pointer (some ⟨bt,0,none⟩))) none=some w) (hbu:hload h (some (.pointer (some ⟨bt,1,none⟩))) none=some uv) :
  CallE Tryz.prog fn_impl_translator_fulfils [.pointer (some ⟨bt,0,none⟩),.int .i64 s,.int .i64 p] h (fun v h'=>h.le h'∧v=.bool (Fm.ful B s u)):=by
 have hL:=R.lt
 have hsp:=(hB.2 _ (List.getElem_mem hu)).1
 obtain⟨m,hkc⟩:=Bc_kid hB (List.getElem_mem hu)
 have hl:=hsp.two (by omega)
 obtain⟨q,hq,Rq⟩:=R.ld hu
 change hload _ (some (elp 3 w u)) (some 3)=some q at hq
 obtain⟨wk,rfl,k1,k2,R1⟩:=Rep_Exq.1 Rq
 have hX:=R.X (n:=3) rfl
 have hP:=hld_parts (cs:=[.int .i64 B[u].kind,.int .i64 B[u].val,wk]) hq
 obtain⟨u1,hu1,Ru1⟩:=R1.ld (i:=1) (by omega)
 change hload _ (some (elp 3 wk 1)) (some 3)=some u1 at hu1
 have e:B.getD (u:Int).toNat Exq.zero=B[u]:=by simp[hu]
 have hi0:¬(u:Int)<0:=by omega
 have hw:IntKind.u64.wrap (u:Int)=u:=u64_pos (by omega) (by omega)
 have hz:=has_z (i:=u) hs (by omega)
 refine CallE.gen fun k hk=>EN_impl_translator_fulfils rfl ?_
 rw[Fm.ful,e,Fm.kv_at (j:=1) (by omega),Fm.has_nat] at hk
 cases hh:s.testBit u with
 | false=>
  rw[hh] at hk
  simp -implicitDefEqProofs (disch:=first|omega|(simp only[LnZ];omega))[wrap64,hbt,hbu,RU.I,hUp,hi0,hw,hz,hh]
  exact RetK.keep (hk _ _ ⟨Heap.le.refl _,by simp⟩)
 | true=>
  rw[hh] at hk
  simp -implicitDefEqProofs (disch:=first|omega|(simp only[LnZ];omega))[wrap64,hbt,hbu,RU.I,hUp,hi0,hw,hz,hh,hX,hP.1,hP.2.2.1,R1.X (n:=3) rfl,hu1,Ru1.aExq]
  refine (c_holds (Bc_bas hB) hs _ (hkc _ (List.getElem_mem (by omega))) Ru1 R hbt).go ?_
  rintro _ h2 ⟨l2,rfl⟩
  simp -implicitDefEqProofs (disch:=omega)[wrap64]
  exact RetK.keep (hk _ _ ⟨l2,by simp⟩)
namespace Fm
section
variable {l:Las}{x:Exq}{i:Nat}{c:Bool}
end
end Fm
section
variable {h:Heap}{b6:Nat}{kw:Value}{K:List (List Bool)}{i:Nat}{c:Bool}
end
namespace Fm
end Fm
namespace Fm
structure Mv where
 care:Int
 value:Int
 to:List Int
def exRow (i:Nat) (M:List Mv) (q:List (List Int)×List Tr):List (List Int)×List Tr:=
 M.foldl (fun q m=>(adL q.1 m.to,q.2++[⟨(i:Int),m.care,m.value,atL q.1 m.to⟩])) q
section
variable (mv:List Int→List Mv) (ac:List Int→Bool) (L0:List (List Int))
def exN:Nat→List (List Int)×List Bool×List Tr
 | 0=>(L0,[],[])
 | n+1=>let r:=exN n
  if n<r.1.length then
   let q:=exRow n (mv (r.1.getD n [])) (r.1,r.2.2)
   (q.1,r.2.1++[ac (r.1.getD n [])],q.2)
  else r
def exA:Aut:=⟨upto L0.length,if L0=[] then [false] else (exN mv ac L0 64).2.1,(exN mv ac L0 64).2.2⟩
end
section
variable {mv:List Int→List Mv}{ac:List Int→Bool}{L0:List (List Int)}
structure ER (i:Nat) (M:List Mv) (q r:List (List Int)×List Tr):Prop where
 pre:∀(j:Nat) x,q.1[j]? = some x→r.1[j]? = some x
 old:∀e∈q.2,e∈r.2
 new:∀e∈r.2,e∈q.2∨∃m∈M,∃j:Nat,e=⟨(i:Int),m.care,m.value,(j:Int)⟩∧r.1[j]? = some m.to
 all:∀m∈M,∃j:Nat,r.1[j]? = some m.to∧⟨(i:Int),m.care,m.value,(j:Int)⟩∈r.2
 ge:q.1.length≤r.1.length
 el:r.2.length=q.2.length+M.length
 mem:∀x∈r.1,x∈q.1∨∃m∈M,x=m.to
theorem exRow_er {i:Nat}:∀(M:List Mv) (q:List (List Int)×List Tr),ER i M q (exRow i M q)
 | [],q=>⟨fun _ _ h=>h,fun _ h=>h,fun _ h=>.inl h,fun _ h=>by simp at h,Nat.le_refl _,by simp[exRow],fun _ h=>.inl h⟩
 | m::M,q=>by
  have ih:=exRow_er (i:=i) M (adL q.1 m.to,q.2++[⟨(i:Int),m.care,m.value,atL q.1 m.to⟩])
  have he:exRow i (m::M) q=exRow i M (adL q.1 m.to,q.2++[⟨(i:Int),m.care,m.value,atL q.1 m.to⟩]):=rfl
  obtain⟨j,e1,e2⟩:=atL_mem (L:=q.1) (p:=m.to)
  rw[e1] at ih he
  rw[he]
  have hl:=adL_len (L:=q.1) (p:=m.to)
  refine⟨fun j x h=>ih.pre j x (adL_get h),fun e h=>ih.old e (List.mem_append_left _ h),fun e h=>?_,fun m' h=>?_,by have:=ih.ge;simp only at this;omega,by rw[ih.el];simp only[List.length_append,List.length_cons,List.length_nil];omega,fun x h=>?_⟩
  ·rcases ih.new e h with h | ⟨m',hm',j',h1,h2⟩
   ·rcases List.mem_append.1 h with h | h
    ·exact .inl h
    ·rw[List.mem_singleton] at h
     exact .inr ⟨m,by simp,j,h,ih.pre j _ e2⟩
   ·exact .inr ⟨m',by simp[hm'],j',h1,h2⟩
  ·rcases List.mem_cons.1 h with rfl | h
   ·exact⟨j,ih.pre j _ e2,ih.old _ (by simp)⟩
   ·exact ih.all m' h
  ·rcases ih.mem x h with h | ⟨m',hm',h⟩
   ·simp only at h
    unfold adL at h
    split at h
    ·exact .inl h
    ·rcases List.mem_append.1 h with h | h
     ·exact .inl h
     ·rw[List.mem_singleton] at h
      exact .inr ⟨m,by simp,h⟩
   ·exact .inr ⟨m',by simp[hm'],h⟩
theorem exN_succ {n:Nat}{s:List Int}(h:(exN mv ac L0 n).1[n]? = some s):exN mv ac L0 (n+1)=((exRow n (mv s) ((exN mv ac L0 n).1,(exN mv ac L0 n).2.2)).1,(exN mv ac L0 n).2.1++[ac s],(exRow n (mv s) ((exN mv ac L0 n).1,(exN mv ac L0 n).2.2)).2):=by
 obtain⟨hl,he⟩:=List.getElem?_eq_some_iff.1 h
 have eg:(exN mv ac L0 n).1.getD n []=s:=by rw[List.getD_eq_getElem?_getD,h];rfl
 rw[exN]
 simp only
 rw[if_pos hl,eg]
theorem exN_stop {n:Nat}(h:(exN mv ac L0 n).1.length≤n):∀m,n≤m→exN mv ac L0 m=exN mv ac L0 n
 | m,hm=>by
  induction m with
  | zero=>obtain rfl:n=0:=by omega
          rfl
  | succ m ih=>
   by_cases e:n=m+1
   ·rw[e]
   ·have h1:=ih (by omega)
    rw[exN]
    simp only
    rw[h1,if_neg (by omega)]
theorem exN_mono (n:Nat):(exN mv ac L0 n).1.length≤(exN mv ac L0 (n+1)).1.length∧(exN mv ac L0 n).2.2.length≤(exN mv ac L0 (n+1)).2.2.length:=by
 by_cases h:n<(exN mv ac L0 n).1.length
 ·rw[exN_succ (List.getElem?_eq_getElem h)]
  have I:=exRow_er (i:=n) (mv ((exN mv ac L0 n).1[n])) ((exN mv ac L0 n).1,(exN mv ac L0 n).2.2)
  have h1:=I.ge
  have h2:=I.el
  simp only at h1 h2 ⊢
  omega
 ·rw[exN_stop (n:=n) (by omega) (n+1) (by omega)]
  omega
theorem exN_mono2 {n m:Nat}(h:n≤m):(exN mv ac L0 n).1.length≤(exN mv ac L0 m).1.length∧(exN mv ac L0 n).2.2.length≤(exN mv ac L0 m).2.2.length:=by
 obtain⟨k,rfl⟩:=Nat.exists_eq_add_of_le h
 induction k with
 | zero=>exact⟨Nat.le_refl _,Nat.le_refl _⟩
 | succ k ih=>
  have h1:=ih (by omega)
  have h2:=exN_mono (mv:=mv) (ac:=ac) (L0:=L0) (n+k)
  rw[← Nat.add_assoc]
  omega
theorem exN_al:∀n,(∀m,m<n→m<(exN mv ac L0 m).1.length)→(exN mv ac L0 n).2.1.length=n
 | 0,_=>rfl
 | n+1,h=>by
  have ih:=exN_al n fun m hm=>h m (by omega)
  rw[exN_succ (List.getElem?_eq_getElem (h n (by omega)))]
  simp[ih]
theorem exN_all {P:List Int→Prop}(h0:∀x∈L0,P x) (hs:∀x,P x→∀m∈mv x,P m.to):∀n,∀x∈(exN mv ac L0 n).1,P x
 | 0=>h0
 | n+1=>by
  have ih:=exN_all h0 hs n
  by_cases h:n<(exN mv ac L0 n).1.length
  ·rw[exN_succ (List.getElem?_eq_getElem h)]
   have I:=exRow_er (i:=n) (mv ((exN mv ac L0 n).1[n])) ((exN mv ac L0 n).1,(exN mv ac L0 n).2.2)
   intro x hx
   rcases I.mem x hx with hx | ⟨m,hm,rfl⟩
   ·exact ih x hx
   ·exact hs _ (ih _ (List.getElem_mem h)) m hm
  ·rw[exN_stop (n:=n) (by omega) (n+1) (by omega)]
   exact ih
structure ET (mv:List Int→List Mv) (ac:List Int→Bool) (L0:List (List Int)) (n:Nat) (r:List (List Int)×List Bool×List Tr):Prop where
 pre:∀(j:Nat) x,L0[j]? = some x→r.1[j]? = some x
 new:∀e∈r.2.2,∃(i:Nat) (s:List Int),i<n∧r.1[i]? = some s∧∃m∈mv s,∃j:Nat,e=⟨(i:Int),m.care,m.value,(j:Int)⟩∧r.1[j]? = some m.to
 all:∀(i:Nat) (s:List Int),i<n→r.1[i]? = some s→∀m∈mv s,∃j:Nat,r.1[j]? = some m.to∧⟨(i:Int),m.care,m.value,(j:Int)⟩∈r.2.2
 acc:∀(i:Nat) (s:List Int),i<n→r.1[i]? = some s→r.2.1[i]? = some (ac s)
theorem exN_et:∀n,(∀m,m<n→m<(exN mv ac L0 m).1.length)→ET mv ac L0 n (exN mv ac L0 n)
 | 0,_=>⟨fun _ _ h=>h,fun e h=>by simp[exN] at h,fun _ _ h=>absurd h (Nat.not_lt_zero _),fun _ _ h=>absurd h (Nat.not_lt_zero _)⟩
 | n+1,hgo=>by
  have ih:=exN_et n fun m hm=>hgo m (by omega)
  have h1:=hgo n (by omega)
  have hal:=exN_al (mv:=mv) (ac:=ac) (L0:=L0) n fun m hm=>hgo m (by omega)
  have hnn:=List.getElem?_eq_getElem h1
  generalize hs:(exN mv ac L0 n).1[n]=s at hnn
  rw[exN_succ hnn]
  have I:=exRow_er (i:=n) (mv s) ((exN mv ac L0 n).1,(exN mv ac L0 n).2.2)
  have back:∀(i:Nat) x,i<(exN mv ac L0 n).1.length→(exRow n (mv s) ((exN mv ac L0 n).1,(exN mv ac L0 n).2.2)).1[i]? = some x→(exN mv ac L0 n).1[i]? = some x:=by
   intro i x hi hx
   have:=I.pre i _ (List.getElem?_eq_getElem hi)
   rw[this] at hx
   rw[List.getElem?_eq_getElem hi];exact hx
  refine⟨fun j x h=>I.pre j x (ih.pre j x h),fun e he=>?_,fun i t hi hx m hm=>?_,fun i t hi hx=>?_⟩
  ·rcases I.new e he with h | ⟨m,hm,j,h2,h3⟩
   ·obtain⟨i,t,g1,g2,m,hm,j,g3,g4⟩:=ih.new e h
    exact⟨i,t,by omega,I.pre _ _ g2,m,hm,j,g3,I.pre _ _ g4⟩
   ·exact⟨n,s,by omega,I.pre _ _ hnn,m,hm,j,h2,h3⟩
  ·simp only at hx
   by_cases e:i=n
   ·subst e
    rw[I.pre _ _ hnn] at hx
    obtain rfl:=Option.some.inj hx
    exact I.all m hm
   ·obtain⟨j,g1,g2⟩:=ih.all i t (by omega) (back i _ (by omega) hx) m hm
    exact⟨j,I.pre _ _ g1,I.old _ g2⟩
  ·simp only at hx ⊢
   by_cases e:i=n
   ·subst e
    rw[I.pre _ _ hnn] at hx
    obtain rfl:=Option.some.inj hx
    rw[List.getElem?_append_right (by omega),hal]
    simp
   ·rw[List.getElem?_append_left (by omega)]
    exact ih.acc i t (by omega) (back i _ (by omega) hx)
structure EF (mv:List Int→List Mv) (ac:List Int→Bool) (L0:List (List Int)) (r:List (List Int)×List Bool×List Tr):Prop where
 pre:∀(j:Nat) x,L0[j]? = some x→r.1[j]? = some x
 new:∀e∈r.2.2,∃(i:Nat) (s:List Int),r.1[i]? = some s∧∃m∈mv s,∃j:Nat,e=⟨(i:Int),m.care,m.value,(j:Int)⟩∧r.1[j]? = some m.to
 all:∀(i:Nat) (s:List Int),r.1[i]? = some s→∀m∈mv s,∃j:Nat,r.1[j]? = some m.to∧⟨(i:Int),m.care,m.value,(j:Int)⟩∈r.2.2
 acc:∀(i:Nat) (s:List Int),r.1[i]? = some s→r.2.1[i]? = some (ac s)
 len:r.2.1.length=r.1.length
theorem exN_go {K:Nat}(hK:(exN mv ac L0 K).1.length≤K):∃n,n≤K∧n=(exN mv ac L0 K).1.length∧exN mv ac L0 K=exN mv ac L0 n∧∀m,m<n→m<(exN mv ac L0 m).1.length:=by
 refine⟨_,hK,rfl,?_,fun m hm=>?_⟩
 ·obtain⟨n,hn⟩:∃n,n=(exN mv ac L0 K).1.length:=⟨_,rfl⟩
  rw[← hn] at hK ⊢
  exact exN_stop (by have:=(exN_mono2 (mv:=mv) (ac:=ac) (L0:=L0) hK).1;omega) K hK
 ·apply Classical.byContradiction
  intro hno
  have:=exN_stop (mv:=mv) (ac:=ac) (L0:=L0) (n:=m) (by omega) K (by omega)
  rw[this] at hm
  omega
theorem exN_ef {K:Nat}(hK:(exN mv ac L0 K).1.length≤K):EF mv ac L0 (exN mv ac L0 K):=by
 obtain⟨n,h1,h2,h3,h4⟩:=exN_go hK
 have T:=exN_et n h4
 have hal:=exN_al (mv:=mv) (ac:=ac) (L0:=L0) n h4
 rw[h3] at h2 ⊢
 have lt:∀{i:Nat}{x:List Int},(exN mv ac L0 n).1[i]? = some x→i<n:=fun h=>by have:=(List.getElem?_eq_some_iff.1 h).1;omega
 exact⟨T.pre,fun e h=>by
  obtain⟨i,s,_,g⟩:=T.new e h
  exact⟨i,s,g⟩,fun i s h=>T.all i s (lt h) h,fun i s h=>T.acc i s (lt h) h,by omega⟩
theorem upto_incr {n k:Nat}(h:k≤n):incr n (-1) (upto k):=by
 rw[incr_iff]
 constructor
 ·unfold upto
  rw[List.pairwise_map]
  exact List.pairwise_lt_range.imp fun h=>by omega
 ·intro x hx
  obtain⟨i,h1,rfl⟩:=upto_mem.1 hx
  omega
theorem exA_acc (hK:(exN mv ac L0 64).1.length≤64):(exA mv ac L0).acc.length=if L0=[] then 1 else (exN mv ac L0 64).1.length:=by
 unfold exA
 simp only
 split
 ·rfl
 ·exact (exN_ef hK).len
theorem exN_nil:∀n,(exN mv ac [] n)=([],[],[])
 | 0=>rfl
 | n+1=>by rw[exN,exN_nil n];rfl
theorem exN_pre {K:Nat}:L0.length≤(exN mv ac L0 K).1.length:=(exN_mono2 (mv:=mv) (ac:=ac) (L0:=L0) (Nat.zero_le K)).1
theorem exA_ok (hK:(exN mv ac L0 64).1.length≤64) (hE:(exN mv ac L0 64).2.2.length≤2048) (hm:∀x∈(exN mv ac L0 64).1,∀m∈mv x,∃c v:Nat,m.care=c∧m.value=v∧c<8∧v&&&c=v):(exA mv ac L0).Ok:=by
 have hacc:=exA_acc hK
 by_cases h0:L0=[]
 ·subst h0
  rw[if_pos rfl] at hacc
  have he:(exA mv ac []).edges=[]:=by unfold exA;rw[exN_nil]
  have hi:(exA mv ac []).init=[]:=by unfold exA;rfl
  refine⟨by omega,by rw[he];simp,by rw[hi];trivial,fun t ht=>by rw[he] at ht;simp at ht⟩
 ·rw[if_neg h0] at hacc
  have T:=exN_ef hK
  have hpre:=exN_pre (mv:=mv) (ac:=ac) (L0:=L0) (K:=64)
  have h1:1≤L0.length:=by
   have:=List.length_pos_iff.2 h0
   omega
  have hed:(exA mv ac L0).edges=(exN mv ac L0 64).2.2:=by unfold exA;simp only
  have hin:(exA mv ac L0).init=upto L0.length:=by unfold exA;simp only
  refine⟨by omega,by rw[hed];exact hE,by rw[hin,hacc];exact upto_incr hpre,fun t ht=>?_⟩
  rw[hed] at ht
  obtain⟨i,s,h2,m,h3,j,rfl,h4⟩:=T.new t ht
  obtain⟨g1,_⟩:=List.getElem?_eq_some_iff.1 h2
  obtain⟨g2,_⟩:=List.getElem?_eq_some_iff.1 h4
  obtain⟨c,v,e1,e2,e3,e4⟩:=hm s (List.mem_of_getElem? h2) m h3
  have hv:v≤c:=by rw[← e4];exact Nat.and_le_right
  rw[hacc]
  refine⟨by simp only;omega,by simp only;omega,by simp only;omega,by simp only;omega,by simp only;omega,by simp only;omega,by simp only;omega,?_⟩
  simp only
  rw[e1,e2,i64_and (by omega) (by omega),e4]
end
end Fm
namespace Fm
section
variable (B:List Exq) (U:List Int)
noncomputable def mvS (s:Nat) (p:Int) (m:Nat):List Mv:=((List.range m).filter fun t=>decide (Fol B s t)).map fun (t:Nat)=>⟨((ltc B B.length:Nat):Int),((ltv B s B.length:Nat):Int),[(t:Int),p]⟩
noncomputable def mvT (x:List Int):List Mv:=mvS B (x.getD 0 0).toNat (phs B U (x.getD 0 0).toNat (x.getD 1 0)).1 (2^B.length)
noncomputable def acT (x:List Int):Bool:=(phs B U (x.getD 0 0).toNat (x.getD 1 0)).2
end
section
variable {B:List Exq}{U:List Int}{L0:List (List Int)}
theorem mvS_succ {s:Nat}{p:Int}{m:Nat}:mvS B s p (m+1)=mvS B s p m++if Fol B s m then [⟨((ltc B B.length:Nat):Int),((ltv B s B.length:Nat):Int),[(m:Int),p]⟩] else []:=by
 unfold mvS
 rw[List.range_succ,List.filter_append,List.map_append]
 congr 1
 by_cases h:Fol B s m
 ·simp[h]
 ·simp[h]
theorem trow_ex {i s:Nat}{p:Int}{q:List (List Int)×List Tr}:∀m,trow B i s p m q=exRow i (mvS B s p m) q
 | 0=>rfl
 | m+1=>by
  have ih:=trow_ex (i:=i) (s:=s) (p:=p) (q:=q) m
  rw[mvS_succ]
  unfold trow
  simp only
  rw[ih]
  unfold exRow
  split
  ·rw[List.foldl_append];rfl
  ·rw[List.append_nil]
theorem tN_ex:∀n,(∀m,m<n→(tN B U L0 m).1.length≤64)→tN B U L0 n=exN (mvT B U) (acT B U) L0 n
 | 0,_=>rfl
 | n+1,h=>by
  have ih:=tN_ex n fun m hm=>h m (by omega)
  have h1:=h n (by omega)
  rw[tN,exN]
  simp only
  rw[← ih]
  by_cases hc:n<(tN B U L0 n).1.length
  ·rw[if_pos ⟨hc,h1⟩,if_pos hc,trow_ex];rfl
  ·rw[if_neg (fun hh=>hc hh.1),if_neg hc]
theorem tN_small (h0:LOk2 (2^B.length) U L0) (hl:L0.length≤2^B.length):(tN B U L0 64).1.length≤64↔(exN (mvT B U) (acT B U) L0 64).1.length≤64:=by
 constructor
 ·intro h
  rw[← tN_ex 64 fun m hm=>by have:=tN_mono2 h0 hl (n:=m) (m:=64) (by omega);omega]
  exact h
 ·intro h
  have key:∀n,n≤64→tN B U L0 n=exN (mvT B U) (acT B U) L0 n:=by
   intro n
   induction n with
   | zero=>intro _;rfl
   | succ n ih=>
    intro hn
    refine tN_ex (n+1) fun m hm=>?_
    by_cases e:m=n
    ·subst e
     rw[ih (by omega)]
     have:=(exN_mono2 (mv:=mvT B U) (ac:=acT B U) (L0:=L0) (show m≤64 by omega)).1
     omega
    ·have h1:=tN_mono2 h0 hl (n:=m) (m:=n) (by omega)
     rw[ih (by omega)] at h1
     have:=(exN_mono2 (mv:=mvT B U) (ac:=acT B U) (L0:=L0) (show n≤64 by omega)).1
     omega
  rw[key 64 (Nat.le_refl _)]
  exact h
theorem tN_is (h0:LOk2 (2^B.length) U L0) (hl:L0.length≤2^B.length) (h:(tN B U L0 64).1.length≤64):tN B U L0 64=exN (mvT B U) (acT B U) L0 64:=
 tN_ex 64 fun m hm=>by have:=tN_mono2 h0 hl (n:=m) (m:=64) (by omega);omega
end
theorem trA_ex {x:Exq}(h:trOk x):trA x=exA (mvT (basics x) (unt (basics x) (basics x).length)) (acT (basics x) (unt (basics x) (basics x).length)) (ini0 (basics x) (push x false) (2^(basics x).length)):=by
 have h64:=h.2
 have hi:(ini0 (basics x) (push x false) (2^(basics x).length)).length≤(trT x).1.length:=by
  unfold trT
  exact tN_mono2 (n:=0) (m:=64) (ini0_ok (Nat.le_refl _)) (ini0_len _) (by omega)
 have ht:trT x=exN (mvT (basics x) (unt (basics x) (basics x).length)) (acT (basics x) (unt (basics x) (basics x).length)) (ini0 (basics x) (push x false) (2^(basics x).length)) 64:=by
  unfold trT at h64 ⊢
  exact tN_is (ini0_ok (Nat.le_refl _)) (ini0_len _) h64
 have hn:(trT x).1=[]↔ini0 (basics x) (push x false) (2^(basics x).length)=[]:=by
  constructor
  ·intro h1
   rw[h1] at hi
   exact List.length_eq_zero_iff.1 (by simp only[List.length_nil] at hi;omega)
  ·intro h1
   rw[ht,h1,exN_nil]
 unfold trA exA
 rw[← ht]
 by_cases e:(trT x).1=[]
 ·rw[if_pos e,if_pos (hn.1 e)]
 ·rw[if_neg e,if_neg (fun hh=>e (hn.2 hh))]
theorem trOk_ex {x:Exq}:trOk x↔bOk x∧(exN (mvT (basics x) (unt (basics x) (basics x).length)) (acT (basics x) (unt (basics x) (basics x).length)) (ini0 (basics x) (push x false) (2^(basics x).length)) 64).1.length≤64:=by
 unfold trOk trT
 rw[tN_small (ini0_ok (Nat.le_refl _)) (ini0_len _)]
theorem mvT_len {B:List Exq}{U:List Int}{x:List Int}:(mvT B U x).length≤2^B.length:=by
 unfold mvT mvS
 rw[List.length_map]
 have:=List.length_filter_le (fun t=>decide (Fol B (x.getD 0 0).toNat t)) (List.range (2^B.length))
 rw[List.length_range] at this
 exact this
theorem exN_edges {mv:List Int→List Mv}{ac:List Int→Bool}{L0:List (List Int)}{k:Nat}(h:∀x,(mv x).length≤k):∀n,(exN mv ac L0 n).2.2.length≤n*k
 | 0=>by simp[exN]
 | n+1=>by
  have ih:=exN_edges h n (ac:=ac) (L0:=L0)
  by_cases hc:n<(exN mv ac L0 n).1.length
  ·rw[exN_succ (List.getElem?_eq_getElem hc)]
   have I:=(exRow_er (i:=n) (mv ((exN mv ac L0 n).1[n])) ((exN mv ac L0 n).1,(exN mv ac L0 n).2.2)).el
   have:=h ((exN mv ac L0 n).1[n])
   simp only at I ⊢
   rw[I,Nat.add_mul]
   omega
  ·rw[exN_stop (n:=n) (by omega) (n+1) (by omega),Nat.add_mul]
   omega
end Fm
theorem has_v {s i:Nat}(hs:s<4611686018427387904) (hi:i<64):andI .i64 (shrI .i64 (s:Int) (i:Int)) 1=if s.testBit i then 1 else 0:=by
 have h1:=has_p hs hi
 have h2:=has_z hs hi
 cases e:s.testBit i with
 | true=>rw[e] at h1;simpa using h1
 | false=>rw[e] at h2;simpa using h2
namespace Fm
noncomputable def tmv (B:List Exq) (s:Nat) (p:Int) (n:Nat):List (Int×Int×Int×Int):=((List.range n).filter fun t=>decide (Fol B s t)).map fun (t:Nat)=>(((ltc B B.length:Nat):Int),((ltv B s B.length:Nat):Int),(t:Int),p)
theorem tmv_succ {B:List Exq}{s:Nat}{p:Int}{m:Nat}:tmv B s p (m+1)=tmv B s p m++if Fol B s m then [(((ltc B B.length:Nat):Int),((ltv B s B.length:Nat):Int),(m:Int),p)] else []:=by
 unfold tmv
 rw[List.range_succ,List.filter_append,List.map_append]
 congr 1
 by_cases h:Fol B s m
 ·simp[h]
 ·simp[h]
theorem tmv_len {B:List Exq}{s:Nat}{p:Int}{m:Nat}:(tmv B s p m).length≤m:=by
 unfold tmv
 rw[List.length_map]
 have:=List.length_filter_le (fun t=>decide (Fol B s t)) (List.range m)
 rw[List.length_range] at this
 exact this
theorem tmv_mvS {B:List Exq}{s:Nat}{p:Int}{m:Nat}:(tmv B s p m).map (fun q=>(⟨q.1,q.2.1,[q.2.2.1,q.2.2.2]⟩:Mv))=mvS B s p m:=by
 unfold tmv mvS
 rw[List.map_map]
 rfl
end Fm
theorem c_moves {h:Heap}{w uv:Value}{B:List Exq}{bt s:Nat}{p:Int}(hB:Fm.Bc B) (hn5:B.length≤5) (hs:s<4611686018427387904) (hp:Fm.POk (Fm.unt B B.length) p) (R:Rep h w B) (RU:Rep h uv (Fm.unt B B.length))
  (hbt:hload h (some (.pointer (some ⟨bt,0,none⟩))) none=some w) (hbu:hload h (some (.pointer (some ⟨bt,1,none⟩))) none=some uv) :
  CallE Tryz.prog fn_impl_translator_moves [.pointer (some ⟨bt,0,none⟩),.agg #[.int .i64 s,.int .i64 p]] h (fun u h'=>HS h [ow u (Fm.tmv B s (Fm.phs B (Fm.unt B B.length) s p).1 (2^B.length))] h'):=by
 have hL:=R.lt
 have hall:∀y∈B,Fm.Shp 6 y:=fun y hy=>(hB.2 y hy).1
 have hul:=Fm.unt_len (B:=B) B.length
 have hum:∀{u:Int},u∈Fm.unt B B.length→_:=fun h=>Fm.unt_mem h
 have hpo:=Fm.phs_ok (B:=B) (s:=s) hp
 obtain⟨p',hp'⟩:∃p',p'=(Fm.phs B (Fm.unt B B.length) s p).1:=⟨_,rfl⟩
 rw[← hp'] at hpo ⊢
 unfold Fm.phs at hp'
 generalize Fm.unt B B.length=U at *
 have hc32:2^B.length≤32:=Nat.pow_le_pow_right (n:=2) (by omega) hn5
 refine CallE.gen fun k hk=>EN_impl_translator_moves rfl ?_
 simp -implicitDefEqProofs (disch:=first|omega|(simp only[LnZ];omega))[wrap64,setC,hbt,R.len]
 refine wp_count B.length (fun i e h'=>e=[some (.pointer (some ⟨bt,0,none⟩)),none,some (.agg #[.int .i64 s,.int .i64 p]),none,some (.int .i64 ((Fm.ltc B i:Nat):Int)),some (.int .i64 ((Fm.ltv B s i:Nat):Int)),some (.int .i64 p),none,none,none,none,none,some w,some (.int .i64 B.length),some (.int .i64 i),none,none]∧h'=h) ⟨by simp[Fm.ltc,Fm.ltv],rfl⟩ ?_
 rintro J i _ h hJ hi ⟨rfl,rfl⟩
 simp -implicitDefEqProofs (disch:=omega)[wrap64]
 refine IteW.mk (fun hlt=>?_) (fun hge=>?_)
 ·have hlx:i<B.length:=by omega
  have hc:=Fm.ltc_lt hall i (by omega)
  have hv:=Fm.ltv_lt (s:=s) hall i (by omega)
  have e:B.getD i Exq.zero=B[i]:=by simp[hlx]
  have hc1:Fm.ltc B (i+1)=if B[i].kind=2 then Fm.ltc B i|||1<<<B[i].val.toNat else Fm.ltc B i:=by rw[Fm.ltc,e]
  have hv1:Fm.ltv B s (i+1)=if B[i].kind=2∧s.testBit i=true then Fm.ltv B s i|||1<<<B[i].val.toNat else Fm.ltv B s i:=by rw[Fm.ltv,e]
  have hsp:=hall _ (List.getElem_mem hlx)
  obtain⟨u,hu,Ru⟩:=R.ld hlx
  change hload _ (some (elp 3 w i)) (some 3)=some u at hu
  obtain⟨wk,rfl,k1,k2,R1⟩:=Rep_Exq.1 Ru
  have kO:=R1.one
  have hX:=R.X (n:=3) rfl
  have hlo:=hsp.nd.lo
  have hhi:=hsp.nd.hi
  obtain⟨q,hq⟩:∃q:Nat,B[i].val=q:=⟨_,(Int.toNat_of_nonneg hlo).symm⟩
  have hq3:q<3:=by omega
  have hsl:shlI .i64 1 (q:Int)=((1<<<q:Nat):Int):=i64_shl1 (by omega)
  have hsz:shlI .i64 0 (q:Int)=0:=by
   obtain rfl | rfl | rfl:q=0∨q=1∨q=2:=by omega
   all_goals decide
  have hs8:=Fm.sh3 hq3
  have huq:IntKind.u64.wrap (q:Int)=q:=u64_pos (by omega) (by omega)
  have hq0:¬(q:Int)<0:=by omega
  have hw:IntKind.u64.wrap (i:Int)=i:=u64_pos (by omega) (by omega)
  have hi0:¬(i:Int)<0:=by omega
  have hbv:=has_v (i:=i) hs (by omega)
  have ho1:orI .i64 ((Fm.ltc B i:Nat):Int) ((1<<<q:Nat):Int)=((Fm.ltc B i|||1<<<q:Nat):Int):=i64_or (by omega) (by omega)
  have ho2:orI .i64 ((Fm.ltv B s i:Nat):Int) ((1<<<q:Nat):Int)=((Fm.ltv B s i|||1<<<q:Nat):Int):=i64_or (by omega) (by omega)
  have ho3:orI .i64 ((Fm.ltv B s i:Nat):Int) 0=((Fm.ltv B s i:Nat):Int):=by
   have:=i64_or (a:=Fm.ltv B s i) (b:=0) (by omega) (by omega)
   simpa using this
  rw[hq,Int.toNat_natCast] at hc1 hv1
  by_cases c2:B[i].kind=2
  case neg=>
   rw[if_neg c2] at hc1
   rw[if_neg (fun hh=>c2 hh.1)] at hv1
   simp -implicitDefEqProofs (disch:=first|omega|(simp only[LnZ];omega))[wrap64,hX,hu,setC,kO,c2]
   exact hJ _ _ hlx ⟨by simp[hc1,hv1],rfl⟩
  rw[if_pos c2] at hc1
  generalize hA:1<<<q=A at *
  cases hb:s.testBit i with
  | false=>
   rw[if_neg (fun hh=>by rw[hb] at hh;exact absurd hh.2 (by decide))] at hv1
   rw[hb,if_neg (by decide)] at hbv
   simp -implicitDefEqProofs (disch:=first|omega|(simp only[LnZ];omega))[wrap64,hX,hu,setC,kO,c2,hq,huq,hq0,hsl,ho1,hw,hi0,hbv,hsz,ho3]
   exact hJ _ _ hlx ⟨by simp[hc1,hv1],rfl⟩
  | true=>
   rw[if_pos ⟨c2,hb⟩] at hv1
   rw[hb,if_pos rfl] at hbv
   simp -implicitDefEqProofs (disch:=first|omega|(simp only[LnZ];omega))[wrap64,hX,hu,setC,kO,c2,hq,huq,hq0,hsl,ho1,hw,hi0,hbv,ho2]
   exact hJ _ _ hlx ⟨by simp[hc1,hv1],rfl⟩
 obtain rfl:i=B.length:=by omega
 have hc8:=Fm.ltc_lt hall B.length (Nat.le_refl _)
 have hv8:=Fm.ltv_lt (s:=s) hall B.length (Nat.le_refl _)
 have hcnt:shlI .i64 1 (B.length:Int)=((2^B.length:Nat):Int):=by rw[i64_shl1 (by omega),Nat.shiftLeft_eq,Nat.one_mul]
 have hcw:IntKind.u64.wrap (B.length:Int)=B.length:=u64_pos (by omega) (by omega)
 have hcw0:¬(B.length:Int)<0:=by omega
 have hp64:I64 p':=by
  have h1:=hpo.1
  have h2:=hpo.2
  exact⟨by omega,by omega⟩
 have main:∀{h2:Heap}{q7 q8 q9 q10 q11 q12 q13 q14 q15 q16:Option Value},h.le h2→K43_12.wp Tryz.prog (retQ [(3,none)] k) [some (.pointer (some ⟨bt,0,none⟩)),none,some (.agg #[.int .i64 s,.int .i64 p]),none,some (.int .i64 ((Fm.ltc B B.length:Nat):Int)),some (.int .i64 ((Fm.ltv B s B.length:Nat):Int)),some (.int .i64 p'),q7,q8,q9,q10,q11,q12,q13,q14,q15,q16] h2:=by
  intro h2 q7 q8 q9 q10 q11 q12 q13 q14 q15 q16 l2
  have ht2:=hload_le l2 hbt
  obtain⟨c,hc⟩:∃c,c=2^B.length:=⟨_,rfl⟩
  rw[← hc] at hcnt hk hc32
  simp -implicitDefEqProofs (disch:=first|omega|(simp only[LnZ];omega))[wrap64,ht2,R.len,hcnt,hcw,hcw0]
  refine wp_count c (fun n e h'=>∃o,e=[some (.pointer (some ⟨bt,0,none⟩)),none,some (.agg #[.int .i64 s,.int .i64 p]),none,some (.int .i64 ((Fm.ltc B B.length:Nat):Int)),some (.int .i64 ((Fm.ltv B s B.length:Nat):Int)),some (.int .i64 p'),none,none,none,some o,none,none,none,none,some (.int .i64 c),some (.int .i64 n)]∧HS h [ow o (Fm.tmv B s p' n)] h') ⟨.slice none 0 0,by simp,(HS.nil_ow (Γ:=[]) l2)⟩ ?_
  rintro J n _ h3 hJ hn ⟨o,rfl,H⟩
  have hsu:=Fm.tmv_succ (B:=B) (s:=s) (p:=p') (m:=n)
  have hml:=Fm.tmv_len (B:=B) (s:=s) (p:=p') (m:=n)
  simp -implicitDefEqProofs (disch:=omega)[wrap64]
  refine IteW.mk (fun hlt=>?_) (fun hge=>?_)
  ·have hnc:n<c:=by omega
   generalize Fm.tmv B s p' n=T at *
   simp -implicitDefEqProofs (disch:=omega)[wrap64]
   refine (c_follows (s:=s) (t:=n) hB hn5 hs (by omega) (R.on H) (hload_le H.base hbt)).go ?_
   rintro _ h4 ⟨l4,rfl⟩
   have H:=H.le l4
   by_cases hf:Fm.Fol B s n
   case neg=>
    rw[if_neg hf,List.append_nil] at hsu
    simp -implicitDefEqProofs (disch:=first|omega|(simp only[LnZ];omega))[wrap64,hf]
    exact hJ _ _ hnc ⟨o,by simp,by rw[hsu];exact H⟩
   rw[if_pos hf] at hsu
   have hok:I64 ((Fm.ltc B B.length:Nat):Int)∧I64 ((Fm.ltv B s B.length:Nat):Int)∧I64 (n:Int)∧I64 p':=⟨⟨by omega,by omega⟩,⟨by omega,by omega⟩,⟨by omega,by omega⟩,hp64⟩
   simp -implicitDefEqProofs (disch:=first|omega|(simp only[LnZ];omega))[wrap64,hf,setC]
   refine HS.app1 (bytes:=32) H (((Fm.ltc B B.length:Nat):Int),((Fm.ltv B s B.length:Nat):Int),(n:Int),p') rfl rfl rfl hok rfl rfl (by omega) (by omega) fun o' h5 H=>?_
   simp -implicitDefEqProofs (disch:=omega)[wrap64]
   exact hJ _ _ hnc ⟨o',by simp,by rw[hsu];exact H⟩
  ·obtain rfl:n=c:=by omega
   simp -implicitDefEqProofs (disch:=omega)[wrap64]
   exact RetK.keep (hk _ _ H)
 clear hJ
 by_cases q0:U.length=0
 ·rw[if_pos q0] at hp'
  have hpp:p=p':=by have:=hp.1;have:=hp.2;have:p=0:=by omega
                    rw[this,hp']
  have q0':U=[]:=List.length_eq_zero_iff.1 q0
  rw[hpp] at main ⊢
  have M:=fun q7 q8 q9 q10 q11 q12 q13 q14 q15 q16=>main (q7:=q7) (q8:=q8) (q9:=q9) (q10:=q10) (q11:=q11) (q12:=q12) (q13:=q13) (q14:=q14) (q15:=q15) (q16:=q16) (Heap.le.refl _)
  simp -implicitDefEqProofs (disch:=omega)[wrap64] at M
  simp -implicitDefEqProofs (disch:=first|omega|(simp only[LnZ];omega))[wrap64,hbu,RU.len,q0,q0']
  exact M _ _ _ _ _ _ _ _ _
 rw[if_neg q0] at hp'
 have q0':¬U=[]:=fun e=>q0 (by rw[e];rfl)
 have q0i:¬(U.length:Int)=0:=by omega
 have q0p:0<U.length:=by omega
 obtain⟨n,rfl⟩:∃n:Nat,p=n:=⟨p.toNat,(Int.toNat_of_nonneg hp.1).symm⟩
 have hnU:n<U.length:=by have:=hp.2;omega
 obtain⟨m,hm1,hm2,hm3⟩:=hum (List.getElem_mem hnU)
 have e1:U.getD (n:Int).toNat 0=(m:Int):=by rw[Int.toNat_natCast,List.getD_eq_getElem?_getD,List.getElem?_eq_getElem hnU,← hm1];rfl
 have hm3':B[m].kind=7:=by rw[← hm3];simp[hm2]
 rw[e1] at hp'
 simp -implicitDefEqProofs (disch:=first|omega|(simp only[LnZ];omega))[wrap64,hbu,RU.len,q0,q0',q0i,q0p]
 refine (c_fulfils hB hn5 hs hnU hm1 hm2 hm3' R RU hbt hbu).go ?_
 rintro _ h2 ⟨l2,rfl⟩
 cases hf:Fm.ful B s m with
 | true=>
  rw[hf,if_pos rfl] at hp'
  simp only at hp'
  rw[hp'] at main
  have M:=fun q7 q8 q9 q10 q11 q12 q13 q14 q15 q16=>main (q7:=q7) (q8:=q8) (q9:=q9) (q10:=q10) (q11:=q11) (q12:=q12) (q13:=q13) (q14:=q14) (q15:=q15) (q16:=q16) l2
  simp -implicitDefEqProofs (disch:=omega)[wrap64] at M
  simp -implicitDefEqProofs (disch:=first|omega|(simp only[LnZ];omega))[wrap64,hf,RU.len,q0i,q0']
  exact M _ _ _ _ _ _ _ _ _
 | false=>
  rw[hf,if_neg (by decide)] at hp'
  simp only at hp'
  rw[hp'] at main
  have M:=fun q7 q8 q9 q10 q11 q12 q13 q14 q15 q16=>main (q7:=q7) (q8:=q8) (q9:=q9) (q10:=q10) (q11:=q11) (q12:=q12) (q13:=q13) (q14:=q14) (q15:=q15) (q16:=q16) l2
  simp -implicitDefEqProofs (disch:=omega)[wrap64] at M
  simp -implicitDefEqProofs (disch:=first|omega|(simp only[LnZ];omega))[wrap64,hf]
  exact M _ _ _ _ _ _ _ _ _
section
variable {κ:Type} [DecidableEq κ]
def atK (F:List κ) (a:κ):Int:=match F.findIdx? (fun y=>decide (y=a)) with | some i=>(i:Int) | none=>(F.length:Int)
def adK (F:List κ) (a:κ):List κ:=if a∈F then F else F++[a]
theorem atK_not {F:List κ}{a:κ}(h:a∉F):atK F a=F.length:=by
 have:F.findIdx? (fun y=>decide (y=a))=none:=by
  rw[List.findIdx?_eq_none_iff]
  intro y hy
  simp only[decide_eq_false_iff_not]
  rintro rfl
  exact h hy
 rw[atK,this]
theorem atK_map {lf:κ→List Int}(hl:∀a b,lf a=lf b→a=b) (F:List κ) (a:κ):atK F a=Fm.atL (F.map lf) (lf a)∧(adK F a).map lf=Fm.adL (F.map lf) (lf a):=by
 have hm:lf a∈F.map lf↔a∈F:=by
  rw[List.mem_map]
  exact⟨fun ⟨b,h1,h2⟩=>hl _ _ h2▸h1,fun h=>⟨a,h,rfl⟩⟩
 constructor
 ·unfold atK Fm.atL
  rw[List.findIdx?_map,List.length_map]
  have:((fun y=>decide (y=lf a))∘lf)=fun y=>decide (y=a):=by
   funext y
   exact decide_eq_decide.2 ⟨fun h=>hl _ _ h,fun h=>by rw[h]⟩
  rw[this]
  cases F.findIdx? (fun y=>decide (y=a))<;>rfl
 ·unfold adK Fm.adL
  by_cases h:a∈F
  ·rw[if_pos h,if_pos (hm.2 h)]
  ·rw[if_neg h,if_neg (fun hh=>h (hm.1 hh))];simp
theorem atK_bnd {F:List κ}{a:κ}:0≤atK F a∧atK F a≤F.length:=by
 unfold atK
 split
 ·rename_i i h
  rw[List.findIdx?_eq_some_iff_getElem] at h
  obtain⟨h1,_⟩:=h
  omega
 ·omega
theorem adK_all {F:List κ}{a:κ}{P:κ→Prop}(h:∀x∈F,P x) (ha:P a):∀x∈adK F a,P x:=by
 unfold adK
 split
 ·exact h
 ·intro x hx
  rcases List.mem_append.1 hx with hx | hx
  ·exact h x hx
  ·rw[List.mem_singleton] at hx;subst hx;exact ha
def MI (F:List κ) (m:List (κ×Int)):Prop:=∀a,mlk m a=if a∈F then some (atK F a) else none
theorem MI.nil:MI ([]:List κ) []:=fun a=>by simp[mlk_nil]
theorem MI.get {F:List κ}{m:List (κ×Int)}(h:MI F m) {a:κ}(ha:a∈F):mlk m a=some (atK F a):=by rw[h,if_pos ha]
theorem MI.no {F:List κ}{m:List (κ×Int)}(h:MI F m) {a:κ}(ha:a∉F):mlk m a=none:=by rw[h,if_neg ha]
theorem MI.add {F:List κ}{m:List (κ×Int)}(h:MI F m) {a:κ}(ha:a∉F):MI (F++[a]) (m++[(a,(F.length:Int))]):=by
 intro b
 rw[mlk_snoc (h.no ha)]
 by_cases e:a=b
 ·subst e
  rw[if_pos rfl,if_pos (by simp)]
  congr 1
  have:(F++[a]).findIdx? (fun y=>decide (y=a))=some F.length:=by
   rw[List.findIdx?_eq_some_iff_getElem]
   refine⟨by simp,by simp,fun j hj=>?_⟩
   rw[List.getElem_append_left hj]
   simp only[decide_eq_true_eq]
   rintro rfl
   exact ha (List.getElem_mem hj)
  rw[atK,this]
 ·rw[if_neg e,h]
  by_cases hb:b∈F
  ·rw[if_pos hb,if_pos (List.mem_append_left _ hb)]
   congr 1
   unfold atK
   rw[List.findIdx?_append]
   have:∃i,F.findIdx? (fun y=>decide (y=b))=some i:=by
    rcases hf:F.findIdx? (fun y=>decide (y=b)) with _ | i
    ·rw[List.findIdx?_eq_none_iff] at hf
     have:=hf b hb
     simp at this
    ·exact⟨i,rfl⟩
   obtain⟨i,hi⟩:=this
   rw[hi]
   rfl
  ·rw[if_neg hb,if_neg]
   intro hh
   rcases List.mem_append.1 hh with hh | hh
   ·exact hb hh
   ·rw[List.mem_singleton] at hh;exact e hh.symm
end
namespace Fm
section
variable (mv:List Int→List Mv) (ac:List Int→Bool) (L0:List (List Int))
def exOk:Prop:=(exN mv ac L0 64).1.length≤64∧(exN mv ac L0 64).2.2.length≤2048
instance:Decidable (exOk mv ac L0):=by unfold exOk;infer_instance
def exR:Aut:=if exOk mv ac L0 then exA mv ac L0 else ⟨[],[],[]⟩
end
section
variable {mv:List Int→List Mv}{ac:List Int→Bool}{L0:List (List Int)}
theorem exRow_take {i j:Nat}{M:List Mv}{q:List (List Int)×List Tr}(hj:j<M.length):exRow i (M.take (j+1)) q=(adL (exRow i (M.take j) q).1 M[j].to,(exRow i (M.take j) q).2++[⟨(i:Int),M[j].care,M[j].value,atL (exRow i (M.take j) q).1 M[j].to⟩]):=by
 unfold exRow
 rw[List.take_add_one,List.getElem?_eq_getElem hj,List.foldl_append]
 rfl
theorem exRow_len {i:Nat}(M:List Mv) (q:List (List Int)×List Tr):(exRow i M q).1.length≤q.1.length+M.length:=by
 induction M generalizing q with
 | nil=>exact Nat.le_refl _
 | cons m M ih=>
  have h:=ih (adL q.1 m.to,q.2++[⟨(i:Int),m.care,m.value,atL q.1 m.to⟩])
  have h1:=adL_len (L:=q.1) (p:=m.to)
  have h2:exRow i (m::M) q=exRow i M (adL q.1 m.to,q.2++[⟨(i:Int),m.care,m.value,atL q.1 m.to⟩]):=rfl
  rw[h2]
  simp only[List.length_cons] at h ⊢
  omega
theorem exN_len {K:Nat}{Q:List Int→Prop}(h0:∀x∈L0,Q x) (hs:∀x,Q x→∀m∈mv x,Q m.to) (h:∀x,Q x→(mv x).length≤K):∀n,(exN mv ac L0 n).1.length≤L0.length+n*K
 | 0=>by simp[exN]
 | n+1=>by
  have ih:=exN_len h0 hs h n
  by_cases hc:n<(exN mv ac L0 n).1.length
  ·rw[exN_succ (List.getElem?_eq_getElem hc),Nat.add_mul]
   have h1:=exRow_len (i:=n) (mv ((exN mv ac L0 n).1[n])) ((exN mv ac L0 n).1,(exN mv ac L0 n).2.2)
   have h2:=h _ (exN_all (ac:=ac) h0 hs n _ (List.getElem_mem hc))
   simp only at h1 ⊢
   omega
  ·rw[exN_stop (n:=n) (by omega) (n+1) (by omega),Nat.add_mul]
   omega
theorem exOk_end {n:Nat}(hn:n≤64) (hl:(exN mv ac L0 n).1.length≤n):exN mv ac L0 64=exN mv ac L0 n:=exN_stop hl 64 hn
theorem exOk_big {n:Nat}(hn:n≤64) (h:n=64∧n<(exN mv ac L0 n).1.length∨2048<(exN mv ac L0 n).2.2.length):¬exOk mv ac L0:=by
 rintro⟨h1,h2⟩
 have:=exN_mono2 (mv:=mv) (ac:=ac) (L0:=L0) hn
 rcases h with ⟨rfl,h⟩ | h<;>omega
end
end Fm
def pv2 (p:Int×Int):Value:=.agg #[.int .i64 p.1,.int .i64 p.2]
def lf2 (p:Int×Int):List Int:=[p.1,p.2]
theorem lf2_inj (a b:Int×Int) (h:lf2 a=lf2 b):a=b:=by
 obtain⟨a1,a2⟩:=a
 obtain⟨b1,b2⟩:=b
 simpa[lf2] using h
theorem keyEq_2:∀a b:Int×Int,keyEq (.many [.i,.i]) (pv2 a) (pv2 b)=some (decide (a=b)):=by
 rintro⟨a1,a2⟩ ⟨b1,b2⟩
 simp[keyEq,eqB,pv2]
def vi (n:Int):Value:=.int .i64 n
@[reducible] def Tbs2 (b6 b7 bm:Nat) (fv:Value) (F:List (Int×Int)) (m:List ((Int×Int)×Int)):List HP:=[bx b6 [.map (some bm)],bx b7 [fv],mpo pv2 vi bm m,ow fv F]
theorem c_find2 {g h:Heap}{Γ:List HP}{b6 b7 bm:Nat}{fv:Value}{F:List (Int×Int)}{m:List ((Int×Int)×Int)}{a:Int×Int}(H:HS g (Tbs2 b6 b7 bm fv F m++Γ) h) (hm:MI F m) (hF:F.length≤1073741824) (ha:I64 a.1∧I64 a.2) :
  CallE Tryz.prog fn_impl_explore_impl_phased_1 [pv2 a,.pointer (some ⟨b6,0,none⟩),.pointer (some ⟨b7,0,none⟩)] h (fun u h'=>∃fv' m',u=.int .i64 (atK F a)∧HS g (Tbs2 b6 b7 bm fv' (adK F a) m'++Γ) h'∧MI (adK F a) m'):=by
 have H:HS g (bx b6 [.map (some bm)]::bx b7 [fv]::mpo pv2 vi bm m::ow fv F::Γ) h:=H
 refine CallE.gen fun k hk=>EN_impl_explore_impl_phased_1 rfl ?_
 simp -implicitDefEqProofs (disch:=first|omega|(simp only[LnZ];omega))[wrap64,pv2,H.bxld0,setC]
 refine HS.mget (kf:=pv2) (vf:=vi) (a:=a) H.sw2 rfl rfl keyEq_2 ?_
 by_cases hf:a∈F
 ·rw[hm.get hf]
  simp -implicitDefEqProofs (disch:=first|omega|(simp only[LnZ];omega))[wrap64,vi]
  refine RetK.keep (hk _ _ ⟨fv,m,rfl,?_,?_⟩)
  ·rw[adK,if_pos hf];exact H
  ·rw[adK,if_pos hf];exact hm
 ·rw[hm.no hf]
  have hF2:=H.sw3.rep.lt
  simp -implicitDefEqProofs (disch:=first|omega|(simp only[LnZ];omega))[wrap64,vi,H.sw1.bxld0,H.sw3.rep.len,H.bxld0]
  refine HS.mput (kf:=pv2) (vf:=vi) (a:=a) (v:=(F.length:Int)) H.sw2 rfl rfl rfl keyEq_2 (hm.no hf) fun h1 H=>?_
  simp -implicitDefEqProofs (disch:=first|omega|(simp only[LnZ];omega))[wrap64,setC,H.sw2.bxld0]
  refine HS.app1 (bytes:=16) H.sw3 a rfl rfl rfl ha rfl rfl (by omega) (by omega) fun fv' h2 H=>?_
  simp -implicitDefEqProofs (disch:=omega)[wrap64]
  refine H.sw3.bxst (u:=fv') rfl rfl (by rw[H.rep.cells];rfl) (by rw[H.rep.cells];simp[H.rep.one]) (by simp[H.rep.cells]) fun h3 H=>?_
  have H:HS g (bx b7 [fv']::ow fv' (F++[a])::mpo pv2 vi bm (m++[(a,(F.length:Int))])::bx b6 [.map (some bm)]::Γ) h3:=by simpa[setC,H.sw1.rep.cells] using H
  simp -implicitDefEqProofs (disch:=omega)[wrap64]
  refine RetK.keep (hk _ _ ⟨fv',_,by rw[atK_not hf],?_,by rw[adK,if_neg hf];exact hm.add hf⟩)
  rw[adK,if_neg hf]
  exact H.sw3.under fun _ H=>H.under fun _ H=>H.sw1
def toMv2 (m:Int×Int×Int×Int):Fm.Mv:=⟨m.1,m.2.1,lf2 m.2.2⟩
set_option maxHeartbeats 4000000 in
theorem c_explore2 {g:Heap}{iv fa fm:Value}{I:List (Int×Int)}{mv:List Int→List Fm.Mv}{ac:List Int→Bool}{P:Int×Int→Prop}{K:Nat}{Mf:Int×Int→List (Int×Int×Int×Int)}
  (hK:K≤8388608) (hI:I.Nodup) (hIl:I.length≤8388608) (hP0:∀p∈I,P p) (hPok:∀p,P p→I64 p.1∧I64 p.2)
  (hMf:∀p,P p→(Mf p).map toMv2=mv (lf2 p)∧(Mf p).length≤K∧∀m∈Mf p,P m.2.2)
  (hmo:∀p,P p→∀m∈mv (lf2 p),∃c v:Nat,m.care=c∧m.value=v∧c<8∧v&&&c=v)
  {fA fM:FuncId}{a1 a2 m1 m2:List Value}(hfa:fnOf fa=some (fA,a1,a2)) (hfm:fnOf fm=some (fM,m1,m2))
  (hA:∀p h,P p→g.le h→CallE Tryz.prog fA (a1++pv2 p::a2) h (fun u h'=>h.le h'∧u=.bool (ac (lf2 p))))
  (hM:∀p h,P p→g.le h→CallE Tryz.prog fM (m1++pv2 p::m2) h (fun u h'=>HS h [ow u (Mf p)] h'))
  (R:Rep g iv I) :
  CallE Tryz.prog fn_impl_explore_impl_phased [iv,fa,fm] g (fun u h'=>∃w,u=.tuple #[w,.bool (decide (Fm.exOk mv ac (I.map lf2)))]∧HS g [ow w (Fm.exR mv ac (I.map lf2))] h'):=by
 refine CallE.gen fun k hk=>EN_impl_explore_impl_phased rfl ?_
 by_cases q0:I=[]
 ·subst q0
  have hex:Fm.exN mv ac ([].map lf2) 64=([],[],[]):=Fm.exN_nil 64
  have hok:Fm.exOk mv ac (([]:List (Int×Int)).map lf2):=by unfold Fm.exOk;rw[hex];simp
  simp -implicitDefEqProofs (disch:=first|omega|(simp only[LnZ];omega))[wrap64,R.len]
  refine HS.init.mks (α:=Bool) (z:=false) rfl rfl ⟨rfl,rfl⟩ (by omega) (by decide) (by decide) fun w h1 H=>?_
  simp -implicitDefEqProofs (disch:=first|omega|(simp only[LnZ];omega))[wrap64,setC,H.rep.cells,H.rep.one]
  refine RetK.keep (hk _ _ ⟨_,by rw[decide_eq_true hok],?_⟩)
  rw[Fm.exR,if_pos hok,Fm.exA,hex]
  exact HS.mkAut (a:=⟨[],[false],[]⟩) ((H.nil_ow (α:=Tr)).sw1.nil_ow (α:=Int))
 have q0i:¬(I.length:Int)=0:=fun e=>q0 (List.length_eq_zero_iff.1 (by omega))
 have q0n:¬I.length=0:=by omega
 simp -implicitDefEqProofs (disch:=first|omega|(simp only[LnZ];omega))[wrap64,R.len,q0i,q0n,q0]
 refine HS.init.mkm pv2 vi fun bm h1 H=>?_
 simp -implicitDefEqProofs (disch:=omega)[wrap64]
 refine H.alloc rfl fun b6 h2 H=>?_
 simp -implicitDefEqProofs (disch:=omega)[wrap64]
 refine H.bxst (u:=.map (some bm)) rfl rfl rfl rfl (by simp) fun h3 H=>?_
 have H:HS g [bx b6 [.map (some bm)],mpo pv2 vi bm []] h3:=by simpa[setC] using H
 simp -implicitDefEqProofs (disch:=omega)[wrap64]
 refine H.alloc rfl fun b7 h4 H=>?_
 have H:HS g (Tbs2 b6 b7 bm (.slice none 0 0) [] []++[]) h4:=H.nil_ow.bk3.sw1
 obtain⟨fv,hfv⟩:∃fv,fv=Value.func (.func fn_impl_explore_impl_phased_1) #[] #[.pointer (some ⟨b6,0,none⟩),.pointer (some ⟨b7,0,none⟩)]:=⟨_,rfl⟩
 have hfn:fnOf fv=some (fn_impl_explore_impl_phased_1,[],[.pointer (some ⟨b6,0,none⟩),.pointer (some ⟨b7,0,none⟩)]):=by subst hfv;rfl
 have hfc:fv.cells = #[fv]:=by subst hfv;rfl
 have hf1:fv.oneCell'=true:=by subst hfv;rfl
 simp -implicitDefEqProofs (disch:=first|omega|(simp only[LnZ];omega))[wrap64,R.len]
 rw[← hfv]
 have hLd:∀F:List (Int×Int),F.length=(F.map lf2).length:=fun F=>by simp
 refine wp_count I.length (fun i e h'=>∃(iw fw:Value) (m:List ((Int×Int)×Int)),e=[none,some fa,some fm,some (.agg #[.slice none 0 0,.slice none 0 0,.slice none 0 0]),none,some (.agg #[iw,.slice none 0 0,.slice none 0 0]),none,some (.pointer (some ⟨b7,0,none⟩)),some fv,none,none,none,some iv,some (.int .i64 I.length),some (.int .i64 i),none,none,none] ∧
  HS g (Tbs2 b6 b7 bm fw (I.take i) m++[ow iw (Fm.upto i)]) h'∧MI (I.take i) m) ⟨.slice none 0 0,.slice none 0 0,[],by simp,?_,by simpa using MI.nil⟩ ?_
 ·have:=H.nil_ow (α:=Int)
  exact this.bk4
 clear H
 rintro J i _ h5 hJ hi ⟨iw,fw,m,rfl,H,hm⟩
 simp -implicitDefEqProofs (disch:=omega)[wrap64]
 refine IteW.mk (fun hlt=>?_) (fun hge=>?_)
 ·have hlx:i<I.length:=by omega
  have hpk:=hPok _ (hP0 _ (List.getElem_mem hlx))
  have hu:=hload_le H.base (R.ldF hlx)
  change hload _ (some (elp 2 iv i)) (some 2)=some (pv2 I[i]) at hu
  have hX:=R.X (n:=2) rfl
  have hnot:I[i]∉I.take i:=fun hh=>by
   obtain⟨j,hj,e⟩:=List.mem_iff_getElem.1 hh
   simp only[List.length_take] at hj
   rw[List.getElem_take] at e
   have:=(List.getElem_inj hI).1 e
   omega
  have hat:atK (I.take i) I[i]=i:=by rw[atK_not hnot,List.length_take,Nat.min_eq_left (by omega)]
  have had:adK (I.take i) I[i]=I.take (i+1):=by rw[adK,if_neg hnot,List.take_add_one,List.getElem?_eq_getElem hlx];rfl
  simp -implicitDefEqProofs (disch:=first|omega|(simp only[LnZ];omega))[wrap64,hX,hu,pv2,setC,hfn]
  refine (c_find2 (a:=I[i]) H hm (by simp only[List.length_take];omega) hpk).go ?_
  clear H hm
  rintro _ h6 ⟨fw',m',rfl,H,hm⟩
  rw[had] at H hm
  rw[hat]
  have H:HS g (bx b6 [.map (some bm)]::bx b7 [fw']::mpo pv2 vi bm m'::ow fw' (I.take (i+1))::[ow iw (Fm.upto i)]) h6:=H
  simp -implicitDefEqProofs (disch:=first|omega|(simp only[LnZ];omega))[wrap64,setC]
  refine HS.app1 (bytes:=8) H.sw4 (i:Int) rfl rfl rfl ⟨by omega,by omega⟩ rfl rfl (by simp[Fm.upto];omega) (by simp[Fm.upto];omega) fun iw' h7 H=>?_
  simp -implicitDefEqProofs (disch:=first|omega|(simp only[LnZ];omega))[wrap64,setC,H.rep.cells,H.rep.one]
  refine hJ _ _ hlx ⟨iw',fw',m',by simp,?_,hm⟩
  rw[Fm.upto_succ]
  exact H.bk4
 obtain rfl:i=I.length:=by omega
 rw[List.take_length] at H hm
 simp -implicitDefEqProofs (disch:=omega)[wrap64]
 clear hJ J
 obtain⟨L0,hL0⟩:∃L0,L0=I.map lf2:=⟨_,rfl⟩
 have hLI:L0.length=I.length:=by rw[hL0];simp
 rw[← hL0] at hk
 have hQ0:∀x∈L0,∃p,P p∧x=lf2 p:=fun x hx=>by
  rw[hL0] at hx
  obtain⟨p,hp,rfl⟩:=List.mem_map.1 hx
  exact⟨p,hP0 p hp,rfl⟩
 have hQs:∀x,(∃p,P p∧x=lf2 p)→∀m∈mv x,∃p,P p∧m.to=lf2 p:=by
  rintro _ ⟨p,hp,rfl⟩ m hm
  rw[← (hMf p hp).1] at hm
  obtain⟨q,hq,rfl⟩:=List.mem_map.1 hm
  exact⟨q.2.2,(hMf p hp).2.2 q hq,rfl⟩
 have hQl:∀x,(∃p,P p∧x=lf2 p)→(mv x).length≤K:=by
  rintro _ ⟨p,hp,rfl⟩
  rw[← (hMf p hp).1,List.length_map]
  exact (hMf p hp).2.1
 have hbd:=Fm.exN_len (ac:=ac) hQ0 hQs hQl
 have hbad:∀{h':Heap},g.le h'→¬Fm.exOk mv ac L0→k (.tuple #[.agg #[.slice none 0 0,.slice none 0 0,.slice none 0 0],.bool false]) h':=fun hl hn=>hk _ _ ⟨_,by rw[decide_eq_false hn],by
  rw[Fm.exR,if_neg hn]
  exact HS.mkAut (a:=⟨[],[],[]⟩) (HS.nil_ow (Γ:=[]) hl).nil_ow.nil_ow⟩
 have hL0n:¬L0=[]:=fun e=>q0 (List.length_eq_zero_iff.1 (by rw[← hLI,e];rfl))
 refine wp_count 65 (fun i e h'=>∃(iw aw ew fw:Value) (m:List ((Int×Int)×Int)) (F:List (Int×Int)),e=[none,some fa,some fm,some (.agg #[.slice none 0 0,.slice none 0 0,.slice none 0 0]),none,some (.agg #[iw,aw,ew]),none,some (.pointer (some ⟨b7,0,none⟩)),some fv,none,some (.int .i64 i),none,none,none,none,none,none,none] ∧
  HS g (Tbs2 b6 b7 bm fw F m++[ow iw (Fm.upto I.length),ow aw (Fm.exN mv ac L0 i).2.1,ow ew (Fm.exN mv ac L0 i).2.2]) h'∧MI F m∧F.map lf2=(Fm.exN mv ac L0 i).1∧(∀x∈F,P x)∧i≤64∧∀m,m<i→m<(Fm.exN mv ac L0 m).1.length)
  ⟨iw,.slice none 0 0,.slice none 0 0,fw,m,I,by simp,?_,hm,hL0.symm,hP0,by omega,fun m hm=>absurd hm (Nat.not_lt_zero m)⟩ ?_
 ·exact ((H.nil_ow (α:=Tr)).bk5.nil_ow (α:=Bool)).bk5
 clear H hm m fw iw
 rintro J i _ h6 hJ hi1 ⟨iw,aw,ew,fw,m,F,rfl,H,hm,hF,hPF,hi64,hall⟩
 have hFl:F.length=(Fm.exN mv ac L0 i).1.length:=by rw[← hF];simp
 have hb1:=hbd i
 have hb2:i*K≤64*8388608:=Nat.mul_le_mul hi64 hK
 have hal:=Fm.exN_al (mv:=mv) (ac:=ac) (L0:=L0) i hall
 have H:HS g (bx b6 [.map (some bm)]::bx b7 [fw]::mpo pv2 vi bm m::ow fw F::[ow iw (Fm.upto I.length),ow aw (Fm.exN mv ac L0 i).2.1,ow ew (Fm.exN mv ac L0 i).2.2]) h6:=H
 have hew:=H.sw6.rep.lt
 by_cases q2:i<F.length
 case neg=>
  have hend:Fm.exN mv ac L0 64=Fm.exN mv ac L0 i:=Fm.exOk_end hi64 (by omega)
  have hA:Fm.exA mv ac L0=⟨Fm.upto I.length,(Fm.exN mv ac L0 i).2.1,(Fm.exN mv ac L0 i).2.2⟩:=by rw[Fm.exA,if_neg hL0n,hend,hLI]
  have hOk:(Fm.exA mv ac L0).Ok↔Fm.exOk mv ac L0:=by
   constructor
   ·intro h
    have:=h.2.1
    rw[hA] at this
    exact⟨by rw[hend];omega,by rw[hend];exact this⟩
   ·rintro⟨h1,h2⟩
    refine Fm.exA_ok h1 h2 fun x hx m hm=>?_
    obtain⟨p,hp,rfl⟩:=Fm.exN_all hQ0 hQs 64 x hx
    exact hmo p hp m hm
  have hexR:Fm.exOk mv ac L0→Fm.exR mv ac L0=Fm.exA mv ac L0:=fun h=>by rw[Fm.exR,if_pos h]
  have O1:=H.sw4.rep.one
  have O2:=H.sw5.rep.one
  have O3:=H.sw6.rep.one
  have hbf:=H.sw1.bxld0
  have hfl:=H.sw3.rep.len
  have H:=HS.mkAut (a:=⟨Fm.upto I.length,(Fm.exN mv ac L0 i).2.1,(Fm.exN mv ac L0 i).2.2⟩) H.drop.drop.drop.drop
  rw[← hA] at H
  have FA:=H.rep.aAut
  simp -implicitDefEqProofs (disch:=first|omega|(simp only[LnZ];omega))[wrap64,hbf,hfl,q2,O1,O2,O3,setC]
  refine (c_AutomatonValid H.rep).go ?_
  rintro _ h7 ⟨l7,rfl⟩
  have H:=H.le l7
  by_cases q5:Fm.exOk mv ac L0
  ·have q6:=hOk.2 q5
   have hOk3:=q6.2.1
   have hOk4:=q6.1
   simp -implicitDefEqProofs (disch:=first|omega|(simp only[LnZ];omega))[wrap64,q6,FA]
   refine (c_copyOf H.rep (by rw[hA];simp[Fm.upto];omega) (by omega) (by omega)).go ?_
   intro w h8 G
   have FW:=G.rep.aAut
   simp -implicitDefEqProofs (disch:=first|omega|(simp only[LnZ];omega))[wrap64,FW,setC]
   refine RetK.keep (hk _ _ ⟨w,by rw[decide_eq_true q5],?_⟩)
   rw[hexR q5]
   exact (G.app H).sw1.drop
  ·have q6:¬_:=fun hh=>q5 (hOk.1 hh)
   simp -implicitDefEqProofs (disch:=first|omega|(simp only[LnZ];omega))[wrap64,q6,setC]
   exact RetK.keep (hbad H.base q5)
 have hnn:(Fm.exN mv ac L0 i).1[i]? = some (lf2 F[i]):=by rw[← hF];simp[q2]
 have hsu:=Fm.exN_succ hnn
 have hPi:=hPF _ (List.getElem_mem q2)
 by_cases q3:i=64
 ·have hok:=Fm.exOk_big (mv:=mv) (ac:=ac) (L0:=L0) hi64 (.inl ⟨q3,by omega⟩)
  have q3i:(i:Int)=64:=by omega
  simp -implicitDefEqProofs (disch:=first|omega|(simp only[LnZ];omega))[wrap64,H.sw1.bxld0,H.sw3.rep.len,q2,q3i,show (64:Int)<F.length by omega,H.sw4.rep.one,H.sw5.rep.one,H.sw6.rep.one,setC]
  exact RetK.keep (hbad H.base hok)
 by_cases q4:2048<(Fm.exN mv ac L0 i).2.2.length
 ·have hok:=Fm.exOk_big (mv:=mv) (ac:=ac) (L0:=L0) hi64 (.inr q4)
  have q3i:¬(i:Int)=64:=by omega
  have q4i:(2048:Int)<(Fm.exN mv ac L0 i).2.2.length:=by omega
  simp -implicitDefEqProofs (disch:=first|omega|(simp only[LnZ];omega))[wrap64,H.sw1.bxld0,H.sw3.rep.len,q2,q3i,q4i,H.sw4.rep.one,H.sw5.rep.one,H.sw6.rep.one,H.sw6.rep.len,setC]
  exact RetK.keep (hbad H.base hok)
 have q3i:¬(i:Int)=64:=by omega
 have q4i:¬(2048:Int)<(Fm.exN mv ac L0 i).2.2.length:=by omega
 obtain⟨L,hL⟩:∃L,L=(Fm.exN mv ac L0 i).1:=⟨_,rfl⟩
 obtain⟨A,hAA⟩:∃A,A=(Fm.exN mv ac L0 i).2.1:=⟨_,rfl⟩
 obtain⟨E,hE⟩:∃E,E=(Fm.exN mv ac L0 i).2.2:=⟨_,rfl⟩
 rw[← hL] at hF hFl hb1 hsu hnn
 rw[← hAA] at H hal hsu
 rw[← hE] at H hew hsu q4 q4i
 obtain⟨p,hp⟩:∃p,p=F[i]:=⟨_,rfl⟩
 rw[← hp] at hPi hsu hnn
 have hu:hload h6 (some (elp 2 fw i)) (some 2)=some (pv2 p):=by rw[hp];exact H.sw3.rep.ldF q2
 simp -implicitDefEqProofs (disch:=first|omega|(simp only[LnZ];omega))[wrap64,H.sw1.bxld0,H.sw3.rep.len,q2,q3i,q4i,H.sw4.rep.one,H.sw5.rep.one,H.sw6.rep.one,H.sw6.rep.len,H.sw3.rep.X (n:=2) rfl,hu,hfa,setC]
 refine (hA p h6 hPi H.base).go ?_
 rintro _ h7 ⟨l7,rfl⟩
 have H:=H.le l7
 have hu:=hload_le l7 hu
 simp -implicitDefEqProofs (disch:=first|omega|(simp only[LnZ];omega))[wrap64,setC]
 refine HS.app1 (bytes:=1) H.sw5 (ac (lf2 p)) rfl rfl rfl trivial rfl rfl (by omega) (by omega) fun aw' h8 H=>?_
 have hu:hload h8 (some (elp 2 fw i)) (some 2)=some (pv2 p):=by rw[hp];exact H.sw4.rep.ldF q2
 simp -implicitDefEqProofs (disch:=first|omega|(simp only[LnZ];omega))[wrap64,setC,H.rep.cells,H.rep.one,H.sw2.bxld0,H.sw4.rep.X (n:=2) rfl,hu,hfm]
 refine (hM p h8 hPi H.base).go ?_
 intro mw h9 G
 have H:=(G.app H.bk5).bk6
 obtain⟨hM1,hM2,hM3⟩:=hMf p hPi
 obtain⟨M,hMd⟩:∃M,M=mv (lf2 p):=⟨_,rfl⟩
 rw[← hMd] at hsu hM1
 have hMl:M.length=(Mf p).length:=by rw[← hM1];simp
 have H:HS g (Tbs2 b6 b7 bm fw F m++[ow iw (Fm.upto I.length),ow aw' (A++[ac (lf2 p)]),ow mw (Mf p),ow ew E]) h9:=H
 simp -implicitDefEqProofs (disch:=first|omega|(simp only[LnZ];omega))[wrap64,G.rep.len]
 refine wp_count (Mf p).length (fun j e h'=>∃(ew fw:Value) (m:List ((Int×Int)×Int)) (F:List (Int×Int)),e=[none,some fa,some fm,some (.agg #[.slice none 0 0,.slice none 0 0,.slice none 0 0]),none,some (.agg #[iw,aw',ew]),none,some (.pointer (some ⟨b7,0,none⟩)),some fv,none,some (.int .i64 i),none,none,none,none,some mw,some (.int .i64 (Mf p).length),some (.int .i64 j)] ∧
  HS g (Tbs2 b6 b7 bm fw F m++[ow iw (Fm.upto I.length),ow aw' (A++[ac (lf2 p)]),ow mw (Mf p),ow ew (Fm.exRow i (M.take j) (L,E)).2]) h'∧MI F m∧F.map lf2=(Fm.exRow i (M.take j) (L,E)).1∧∀x∈F,P x)
  ⟨ew,fw,m,F,by simp,H,hm,hF,hPF⟩ ?_
 clear H hm hF hPF hu hFl hew G
 rintro J2 j _ h10 hJ2 hj ⟨ew,fw,m,F,rfl,H,hm,hF,hPF⟩
 simp -implicitDefEqProofs (disch:=omega)[wrap64]
 refine IteW.mk (fun hlt=>?_) (fun hge=>?_)
 ·have hjx:j<(Mf p).length:=by omega
  have hjM:j<M.length:=by omega
  have hst:=Fm.exRow_take (i:=i) (q:=(L,E)) hjM
  have hel:=(Fm.exRow_er (i:=i) (M.take j) (L,E)).el
  have hll:=Fm.exRow_len (i:=i) (M.take j) (L,E)
  simp only[List.length_take] at hel hll
  have hFl:F.length=(Fm.exRow i (M.take j) (L,E)).1.length:=by rw[← hF];simp
  have hPq:=hM3 _ (List.getElem_mem hjx)
  have hMj:M[j]=toMv2 (Mf p)[j]:=by simp only[← hM1,List.getElem_map]
  have H:HS g (bx b6 [.map (some bm)]::bx b7 [fw]::mpo pv2 vi bm m::ow fw F::[ow iw (Fm.upto I.length),ow aw' (A++[ac (lf2 p)]),ow mw (Mf p),ow ew (Fm.exRow i (M.take j) (L,E)).2]) h10:=H
  have hok:=H.sw6.rep.okF hjx
  have hu:=H.sw6.rep.ldF hjx
  have hX:=H.sw6.rep.X (n:=4) rfl
  rw[hMj] at hst
  obtain⟨q,hq⟩:∃q,q=(Mf p)[j]:=⟨_,rfl⟩
  rw[← hq] at hst hPq hok hu
  change hload _ (some (elp 4 mw j)) (some 4)=some (.agg #[.int .i64 q.1,.int .i64 q.2.1,.int .i64 q.2.2.1,.int .i64 q.2.2.2]) at hu
  have hok:I64 q.1∧I64 q.2.1∧I64 q.2.2.1∧I64 q.2.2.2:=hok
  have hat:=atK_map lf2_inj F q.2.2
  rw[hF] at hat
  have hbn:=atK_bnd (F:=F) (a:=q.2.2)
  generalize Fm.exRow i (M.take j) (L,E)=Q at *
  simp -implicitDefEqProofs (disch:=first|omega|(simp only[LnZ];omega))[wrap64,hX,hu,setC,hfn]
  refine (c_find2 (a:=q.2.2) (Γ:=[ow iw (Fm.upto I.length),ow aw' (A++[ac (lf2 p)]),ow mw (Mf p),ow ew Q.2]) H hm (by omega) (hPok _ hPq)).go ?_
  rintro _ h11 ⟨fw',m',rfl,H,hm⟩
  have H:HS g (bx b6 [.map (some bm)]::bx b7 [fw']::mpo pv2 vi bm m'::ow fw' (adK F q.2.2)::[ow iw (Fm.upto I.length),ow aw' (A++[ac (lf2 p)]),ow mw (Mf p),ow ew Q.2]) h11:=H
  simp -implicitDefEqProofs (disch:=first|omega|(simp only[LnZ];omega))[wrap64,setC]
  refine HS.app1 (bytes:=32) H.sw7 (⟨(i:Int),q.1,q.2.1,atK F q.2.2⟩:Tr) rfl rfl rfl (Tr.ok_iff.2 ⟨⟨by simp only;omega,by simp only;omega⟩,hok.1,hok.2.1,⟨by simp only;omega,by simp only;omega⟩⟩) rfl rfl (by omega) (by omega) fun ew' h12 H=>?_
  simp -implicitDefEqProofs (disch:=first|omega|(simp only[LnZ];omega))[wrap64,setC,H.rep.cells,H.rep.one]
  refine hJ2 _ _ hjx ⟨ew',fw',m',adK F q.2.2,by simp,?_,hm,by rw[hst,hat.2];rfl,adK_all hPF hPq⟩
  rw[hst]
  have:Q.2++[(⟨(i:Int),q.1,q.2.1,atK F q.2.2⟩:Tr)]=(Fm.adL Q.1 (toMv2 q).to,Q.2++[⟨(i:Int),(toMv2 q).care,(toMv2 q).value,Fm.atL Q.1 (toMv2 q).to⟩]).2:=by rw[hat.1];rfl
  rw[← this]
  exact H.sw7.sw7.sw7.sw7.sw7.sw7.sw7
 simp -implicitDefEqProofs (disch:=omega)[wrap64]
 have hsuL:(Fm.exN mv ac L0 (i+1)).2.1=A++[ac (lf2 p)]:=by rw[hsu]
 rw[List.take_of_length_le (by omega)] at H hF
 refine hJ _ _ (by omega) ⟨iw,aw',ew,fw,m,F,by simp,?_,hm,by rw[hF,hsu],hPF,by omega,fun n hn=>?_⟩
 ·rw[hsu]
  have H:HS g (bx b6 [.map (some bm)]::bx b7 [fw]::mpo pv2 vi bm m::ow fw F::[ow iw (Fm.upto I.length),ow aw' (A++[ac (lf2 p)]),ow mw (Mf p),ow ew (Fm.exRow i M (L,E)).2]) h10:=H
  exact H.under fun _ H=>H.under fun _ H=>H.under fun _ H=>H.under fun _ H=>H.under fun _ H=>H.under fun _ H=>H.drop
 ·by_cases e:n=i
  ·subst e
   have:=(List.getElem?_eq_some_iff.1 hnn).1
   rw[hL] at this
   exact this
  ·exact hall n (by omega)
end Go.Proofs.YtielhfonnleldaaGreat
