/-
  Texts of this proof, one behind the other.
-/
import Derived.Test.YtedbaenahnfhfaaGreatYF6
set_option linter.all false
set_option linter.unusedVariables false
set_option linter.unusedSimpArgs false
set_option linter.defProp false
set_option maxRecDepth 1000000
namespace Go.Proofs.YtedbaenahnfhfaaGreat
open Go
theorem c_Grow_int {h:Heap}{m:Int}(hm:0≤m) (hn:m≤1048576):CallE Tryz.prog fn_slices_Grow_S_int_int [.slice none 0 0,.int .i64 m] h (fun u h'=>HS h [ow u ([]:List Int)] h'):=by
 obtain⟨n,rfl⟩:∃n:Nat,m=n:=⟨m.toNat,(Int.toNat_of_nonneg hm).symm⟩
 have H:HS h [ow (.slice none 0 0) ([]:List Int)] h:=HS.init.nil_ow
 refine CallE.gen fun k hk=>EN_slices_Grow_S_int_int rfl ?_
 have hng:¬((n:Int)<0):=by omega
 have hcap:capVV (.slice none 0 0)=some (.int .i64 0):=rfl
 have hln:lenVV (.slice none 0 0)=some (.int .i64 0):=rfl
 have hsl:sliceVV 1 (.slice none 0 0) none (some (some (.int .i64 0))) none=some (.slice none 0 0):=rfl
 by_cases h0:(0:Int)<n
 ·have h0':0<n:=by omega
  simp -implicitDefEqProofs (disch:=first|omega|(simp only[LnZ];omega))[wrap64,h0,h0',hng,hcap,hln,hsl]
  refine HS.appZ (bytes:=8) (α:=Int) (z:=0) (n:=n) H rfl rfl rfl ⟨by decide,by decide⟩ rfl rfl (by simp;omega) (by simp;omega) fun v' h1 H=>?_
  obtain⟨v2,hv2,H⟩:=H.cut (n:=0) (esz:=1) (k:=.i64) (by simp)
  simp only[List.take_zero] at H
  have hv2':sliceVV 1 v' none (some (some (.int .i64 0))) none=some v2:=hv2
  simp -implicitDefEqProofs (disch:=first|omega|(simp only[LnZ];omega))[wrap64,hln,hv2']
  exact RetK.keep (hk _ _ H)
 ·have h0':¬0<n:=by omega
  simp -implicitDefEqProofs (disch:=first|omega|(simp only[LnZ];omega))[wrap64,h0,h0',hng,hcap,hln,hsl]
  exact RetK.keep (hk _ _ H)
theorem c_Concat_int {h:Heap}{v:Value}{x y:List Int}(R:Rep h v [x,y]) (hx:x.length≤65536) (hy:y.length≤65536):CallE Tryz.prog fn_slices_Concat_S_int_int [v] h (fun u h'=>HS h [ow u (x++y)] h'):=by
 have hL:([x,y]:List (List Int)).length=2:=rfl
 obtain⟨u0,hu0,R0⟩:=R.ldL (i:=0) (by simp)
 obtain⟨u1,hu1,R1⟩:=R.ldL (i:=1) (by simp)
 simp only[List.getElem_cons_zero,List.getElem_cons_succ] at R0 R1
 have hX:=R.X (n:=1) rfl
 have hn1:¬(x.length:Int)<0:=by omega
 have hn2:¬(x.length:Int)+y.length<0:=by omega
 refine CallE.gen fun k hk=>EN_slices_Concat_S_int_int rfl ?_
 simp -implicitDefEqProofs (disch:=first|omega|(simp only[LnZ];omega))[wrap64,R.len]
 refine wp_count 2 (fun i e h'=>e=[some v,none,some (.int .i64 (if i=0 then 0 else if i=1 then x.length else x.length+y.length)),none,none,none,some v,some (.int .i64 2),some (.int .i64 i),none,none,none]∧h'=h) ⟨by simp,rfl⟩ ?_
 rintro J i _ h1 hJ hi ⟨rfl,rfl⟩
 simp -implicitDefEqProofs (disch:=omega)[wrap64]
 refine IteW.mk (fun hlt=>?_) (fun hge=>?_)
 ·obtain rfl | rfl:i=0∨i=1:=by omega
  ·simp -implicitDefEqProofs (disch:=first|omega|(simp only[LnZ];omega))[wrap64,hX,hu0,R0.len,hn1]
   exact hJ _ _ (by omega) ⟨by simp,rfl⟩
  ·simp -implicitDefEqProofs (disch:=first|omega|(simp only[LnZ];omega))[wrap64,hX,hu1,R1.len,hn1,hn2]
   exact hJ _ _ (by omega) ⟨by simp,rfl⟩
 obtain rfl:i=2:=by omega
 simp -implicitDefEqProofs (disch:=omega)[wrap64]
 refine (c_Grow_int (m:=(x.length:Int)+y.length) (by omega) (by omega)).go ?_
 intro o h2 H
 simp -implicitDefEqProofs (disch:=first|omega|(simp only[LnZ];omega))[wrap64,(R.on H).len]
 refine wp_count 2 (fun i e h'=>∃o,e=[none,none,none,none,some o,none,none,none,none,some v,some (.int .i64 2),some (.int .i64 i)]∧HS h1 [ow o (if i=0 then [] else if i=1 then x else x++y)] h') ⟨o,by simp,by simpa using H⟩ ?_
 clear H
 rintro J2 i _ h3 hJ2 hi ⟨o,rfl,H⟩
 simp -implicitDefEqProofs (disch:=omega)[wrap64]
 refine IteW.mk (fun hlt2=>?_) (fun hge2=>?_)
 ·obtain rfl | rfl:i=0∨i=1:=by omega
  ·simp only[if_true] at H
   simp -implicitDefEqProofs (disch:=first|omega|(simp only[LnZ];omega))[wrap64,hX,hload_le H.base hu0]
   refine HS.appL (bytes:=8) (l2:=x) H rfl rfl (R0.on H) rfl rfl (by simp;omega) (by simp;omega) fun o' h4 H=>?_
   simp -implicitDefEqProofs (disch:=omega)[wrap64]
   exact hJ2 _ _ (by omega) ⟨o',by simp,by simpa using H⟩
  ·simp only[Nat.one_ne_zero,if_true,if_false] at H
   simp -implicitDefEqProofs (disch:=first|omega|(simp only[LnZ];omega))[wrap64,hX,hload_le H.base hu1]
   refine HS.appL (bytes:=8) (l2:=y) H rfl rfl (R1.on H) rfl rfl (by omega) (by omega) fun o' h4 H=>?_
   simp -implicitDefEqProofs (disch:=omega)[wrap64]
   exact hJ2 _ _ (by omega) ⟨o',by simp,by simpa using H⟩
 obtain rfl:i=2:=by omega
 simp -implicitDefEqProofs (disch:=omega)[wrap64]
 exact RetK.keep (hk _ _ (by simpa using H))
theorem c_all {h:Heap}{v:Value}{l:Las}(R:Rep h v l) (hs:l.stem.length≤65536) (hl:l.loop.length≤65536):CallE Tryz.prog fn_impl_Lasso_all [v] h (fun u h'=>HS h [ow u l.all] h'):=by
 obtain⟨v1,v2,rfl,R1,R2⟩:=Rep_Las.1 R
 refine CallE.gen fun k hk=>EN_impl_Lasso_all rfl ?_
 simp -implicitDefEqProofs (disch:=omega)[wrap64]
 refine bls_two R1 R2 (by simp[fillP,R1.cells,R2.cells,R1.one,R2.one,reps,setC]) fun w h1 l1 RW=>?_
 simp -implicitDefEqProofs (disch:=omega)[wrap64]
 refine (c_Concat_int RW hs hl).go ?_
 intro u h2 H
 simp -implicitDefEqProofs (disch:=omega)[wrap64]
 exact RetK.keep (hk _ _ (H.app (show HS h [] h1 from l1)))
theorem c_nextL {h:Heap}{v:Value}{l:Las}(R:Rep h v l) (hs:l.stem.length≤65536) (hl:l.loop.length≤65536) {i:Nat}(hi:i<l.size):CallE Tryz.prog fn_impl_Lasso_next [v,.int .i64 i] h (fun u h'=>h'=h∧u=.int .i64 (l.nx i:Nat)):=by
 obtain⟨v1,v2,rfl,R1,R2⟩:=Rep_Las.1 R
 have hsz:l.size=l.stem.length+l.loop.length:=rfl
 refine CallE.gen fun k hk=>EN_impl_Lasso_next rfl ?_
 unfold Las.nx at hk
 by_cases e:i+1=l.size
 ·rw[if_pos e] at hk
  have e':(i:Int)+1=(l.stem.length:Int)+l.loop.length:=by omega
  simp -implicitDefEqProofs (disch:=first|omega|(simp only[LnZ];omega))[wrap64,R1.len,R2.len,e']
  exact RetK.keep (hk _ _ ⟨rfl,rfl⟩)
 ·rw[if_neg e] at hk
  have e':¬(i:Int)+1=(l.stem.length:Int)+l.loop.length:=by omega
  simp -implicitDefEqProofs (disch:=first|omega|(simp only[LnZ];omega))[wrap64,R1.len,R2.len,e']
  exact RetK.keep (hk _ _ ⟨rfl,by simp⟩)
theorem c_LassoValid {h:Heap}{v:Value}{l:Las}(R:Rep h v l):CallE Tryz.prog fn_impl_LassoValid [v] h (fun u h'=>h.le h'∧u=.bool (decide l.Ok)):=by
 obtain⟨v1,v2,rfl,R1,R2⟩:=Rep_Las.1 R
 have hL1:=R1.lt
 have hL2:=R2.lt
 refine CallE.gen fun k hk=>EN_impl_LassoValid rfl ?_
 simp -implicitDefEqProofs (disch:=omega)[wrap64]
 refine (c_letters R1).go ?_
 rintro _ h1 ⟨l1,rfl⟩
 by_cases q1:∀x∈l.stem,0≤x∧x≤7
 case neg=>
  have d1:decide (∀x∈l.stem,0≤x∧x≤7)=false:=decide_eq_false q1
  simp -implicitDefEqProofs (disch:=first|omega|(simp only[LnZ];omega))[wrap64,d1]
  exact RetK.keep (hk _ _ ⟨l1,by rw[decide_eq_false (fun hh:l.Ok=>q1 hh.1.1)]⟩)
 have d1:decide (∀x∈l.stem,0≤x∧x≤7)=true:=decide_eq_true q1
 simp -implicitDefEqProofs (disch:=first|omega|(simp only[LnZ];omega))[wrap64,d1]
 refine (c_letters (R2.le l1)).go ?_
 rintro _ h2 ⟨l2,rfl⟩
 by_cases q2:∀x∈l.loop,0≤x∧x≤7
 case neg=>
  have d2:decide (∀x∈l.loop,0≤x∧x≤7)=false:=decide_eq_false q2
  simp -implicitDefEqProofs (disch:=first|omega|(simp only[LnZ];omega))[wrap64,d2]
  exact RetK.keep (hk _ _ ⟨l1.trans l2,by rw[decide_eq_false (fun hh:l.Ok=>q2 hh.1.2)]⟩)
 have d2:decide (∀x∈l.loop,0≤x∧x≤7)=true:=decide_eq_true q2
 by_cases q3:(l.stem.length:Int)≤80
 case neg=>
  simp -implicitDefEqProofs (disch:=first|omega|(simp only[LnZ];omega))[wrap64,d2,R1.len,q3]
  exact RetK.keep (hk _ _ ⟨l1.trans l2,by rw[decide_eq_false (fun hh:l.Ok=>q3 (by have:=hh.2.1;omega))]⟩)
 simp -implicitDefEqProofs (disch:=first|omega|(simp only[LnZ];omega))[wrap64,d2,R1.len,q3,R2.len]
 refine c_in.go ?_
 rintro _ h2 ⟨rfl,rfl⟩
 simp -implicitDefEqProofs (disch:=omega)[wrap64]
 refine RetK.keep (hk _ _ ⟨l1.trans l2,?_⟩)
 congr 1
 rw[← Bool.decide_and]
 refine decide_eq_decide.2 ⟨fun hh=>⟨⟨q1,q2⟩,by omega,by omega,by omega⟩,fun hh=>⟨by have:=hh.2.2.1;omega,by have:=hh.2.2.2;omega⟩⟩
structure GI (N B:Nat) (E:Nat→Nat→Prop) (G:List (List Int)):Prop where
 len:G.length=N
 mem:∀x (hx:x<G.length) z,z∈G[x]↔∃y:Nat,z=y∧E x y
 row:∀x (hx:x<G.length),G[x].length≤B
theorem GI.zero {N:Nat}:GI N 0 (fun _ _=>False) (List.replicate N []):=⟨by simp,by simp,by simp⟩
theorem GI.add {N B:Nat}{E:Nat→Nat→Prop}{G:List (List Int)}(h:GI N B E G) {f t:Nat}(hf:f<G.length):GI N (B+1) (fun x y=>E x y∨(x=f∧y=t)) (G.set f (G[f]++[(t:Int)])):=by
 refine⟨by simp[h.len],fun x hx z=>?_,fun x hx=>?_⟩
 ·simp only[List.length_set] at hx
  rw[List.getElem_set]
  split
  ·rename_i e
   subst e
   rw[List.mem_append,h.mem f hf z,List.mem_singleton]
   constructor
   ·rintro (⟨y,h1,h2⟩ | h1)
    ·exact⟨y,h1,.inl h2⟩
    ·exact⟨t,h1,.inr ⟨rfl,rfl⟩⟩
   ·rintro⟨y,h1,h2 | ⟨_,h2⟩⟩
    ·exact .inl ⟨y,h1,h2⟩
    ·subst h2;exact .inr h1
  ·rename_i e
   rw[h.mem x hx z]
   constructor
   ·rintro⟨y,h1,h2⟩;exact⟨y,h1,.inl h2⟩
   ·rintro⟨y,h1,h2 | ⟨h2,_⟩⟩
    ·exact⟨y,h1,h2⟩
    ·exact absurd h2.symm e
 ·simp only[List.length_set] at hx
  rw[List.getElem_set]
  have h1:=h.row f hf
  have h2:=h.row x hx
  split
  ·simp;omega
  ·omega
theorem GI.congr {N B B':Nat}{E E':Nat→Nat→Prop}{G:List (List Int)}(h:GI N B E G) (hB:B≤B') (he:∀x y,E x y↔E' x y):GI N B' E' G:=
 ⟨h.len,fun x hx z=>by rw[h.mem x hx z];exact⟨fun ⟨y,h1,h2⟩=>⟨y,h1,(he x y).1 h2⟩,fun ⟨y,h1,h2⟩=>⟨y,h1,(he x y).2 h2⟩⟩,fun x hx=>Nat.le_trans (h.row x hx) hB⟩
theorem c_l10Sorted {g h:Heap}{Γ:List HP}{v:Value}{l:List Int}{n y:Int}(H:HS g (ow v l::Γ) h) (hl:incr n (-1) l) (hy:-1<y∧y<n) (hn:n≤1048576):CallE Tryz.prog fn_spec_l10Sorted [v,.int .i64 y] h (fun u h'=>∃l',HS g (ow u l'::Γ) h'∧incr n (-1) l'∧∀x,x∈l'↔x∈l∨x=y):=by
 have hll:=incr_len hl (by omega)
 have hp:=(incr_iff.1 hl).1
 refine CallE.gen fun k hk=>EN_spec_l10Sorted rfl ?_
 simp -implicitDefEqProofs (disch:=omega)[wrap64]
 refine H.bls0 Int fun o h1 H=>?_
 simp -implicitDefEqProofs (disch:=omega)[wrap64]
 refine wp_count l.length (fun i e h'=>∃o dn,e=[some v,some (.int .i64 y),none,some o,some (.bool dn),some (.int .i64 i)]∧∃O:List Int,HS g (ow o O::ow v l::Γ) h'∧InsI l y i dn O) ⟨o,false,by simp,[],H,InsI.zero⟩ ?_
 clear H
 rintro J i _ h2 hJ hi ⟨o,dn,rfl,O,H,hI⟩
 have hol:=hI.len
 simp -implicitDefEqProofs (disch:=first|omega|(simp only[LnZ];omega))[wrap64,H.sw1.rep.len]
 refine IteW.mk (fun hlt=>?_) (fun hge=>?_)
 ·have hix:i<l.length:=by omega
  have hxb:=H.sw1.rep.okI hix
  by_cases h1:l[i]=y
  ·simp -implicitDefEqProofs (disch:=first|omega|(simp only[LnZ];omega))[wrap64,H.sw1.rep.I,h1]
   refine RetK.keep (hk _ _ ⟨l,H.drop,hl,fun x=>⟨.inl,fun hh=>hh.elim id fun e=>?_⟩⟩)
   rw[e,← h1];exact List.getElem_mem hix
  by_cases h2:y<l[i]
  ·cases dn with
   | false=>
    simp -implicitDefEqProofs (disch:=first|omega|(simp only[LnZ];omega))[wrap64,H.sw1.rep.I,h1,h2]
    refine H.app1 y rfl rfl rfl ⟨by omega,by omega⟩ rfl rfl (by omega) (by omega) fun o1 h3 H=>?_
    simp -implicitDefEqProofs (disch:=first|omega|(simp only[LnZ];omega))[wrap64,H.sw1.rep.I]
    refine H.app1 l[i] rfl rfl rfl hxb rfl rfl (by simp;omega) (by simp;omega) fun o2 h4 H=>?_
    simp -implicitDefEqProofs (disch:=omega)[wrap64]
    exact hJ _ _ hix ⟨o2,true,rfl,_,H,hI.big hp hix h2⟩
   | true=>
    simp -implicitDefEqProofs (disch:=first|omega|(simp only[LnZ];omega))[wrap64,H.sw1.rep.I,h1,h2]
    refine H.app1 l[i] rfl rfl rfl hxb rfl rfl (by omega) (by omega) fun o2 h4 H=>?_
    simp -implicitDefEqProofs (disch:=omega)[wrap64]
    exact hJ _ _ hix ⟨o2,true,rfl,_,H,hI.more hix h1⟩
  ·simp -implicitDefEqProofs (disch:=first|omega|(simp only[LnZ];omega))[wrap64,H.sw1.rep.I,h1,h2]
   refine H.app1 l[i] rfl rfl rfl hxb rfl rfl (by omega) (by omega) fun o2 h4 H=>?_
   simp -implicitDefEqProofs (disch:=omega)[wrap64]
   refine hJ _ _ hix ⟨o2,dn,rfl,_,H,?_⟩
   cases dn with
   | false=>exact hI.small hix (by omega)
   | true=>exact hI.more hix h1
 ·obtain⟨r1,r2⟩:=hI.result hl hy (by omega)
  cases dn with
  | false=>
   simp -implicitDefEqProofs (disch:=omega)[wrap64]
   refine H.app1 y rfl rfl rfl ⟨by omega,by omega⟩ rfl rfl (by omega) (by omega) fun o1 h3 H=>?_
   simp -implicitDefEqProofs (disch:=omega)[wrap64]
   exact RetK.keep (hk _ _ ⟨_,H.sw1.drop,r1,r2⟩)
  | true=>
   simp -implicitDefEqProofs (disch:=omega)[wrap64]
   exact RetK.keep (hk _ _ ⟨_,H.sw1.drop,r1,r2⟩)
def R2 {α:Type} [Ty α] (b:Bool) (y:α) (h:Heap) (u:Value) (h':Heap):Prop:=∃v,u=.tuple #[v,.bool b]∧HS h [ow v y] h'
theorem c_l6Letters {h:Heap}{w:Value}{W:List Int}(Rw:Rep h w W):CallE Tryz.prog fn_spec_l6Letters [w] h (fun u h'=>h'=h∧u=.bool (decide (∀x∈W,0≤x∧x≤7))):=by
 have hL:=Rw.lt
 refine CallE.gen fun k hk=>EN_spec_l6Letters rfl ?_
 simp -implicitDefEqProofs (disch:=omega)[wrap64]
 refine wp_count W.length (fun i e h'=>e=[some w,none,some (.int .i64 i)]∧h'=h∧∀(j:Nat) (hj:j<W.length),j<i→0≤W[j]∧W[j]≤7) ⟨rfl,rfl,fun j _ hj=>absurd hj (Nat.not_lt_zero j)⟩ ?_
 rintro J i _ h1 hJ hi ⟨rfl,rfl,hn⟩
 simp -implicitDefEqProofs (disch:=first|omega|(simp only[LnZ];omega))[wrap64,Rw.len]
 refine IteW.mk (fun hlt=>?_) (fun hge=>?_)
 ·have hlx:i<W.length:=by omega
  have hno:¬(0≤W[i]∧W[i]≤7)→k (.bool false) h1:=fun hx=>hk _ _ ⟨rfl,by congr 1;rw[eq_comm,decide_eq_false_iff_not];exact fun hh=>hx (hh _ (List.getElem_mem hlx))⟩
  by_cases h1:W[i]<0
  ·simp -implicitDefEqProofs (disch:=first|omega|(simp only[LnZ];omega))[wrap64,Rw.I,h1]
   exact RetK.keep (hno (by omega))
  by_cases h2:7<W[i]
  ·simp -implicitDefEqProofs (disch:=first|omega|(simp only[LnZ];omega))[wrap64,Rw.I,h1,h2]
   exact RetK.keep (hno (by omega))
  simp -implicitDefEqProofs (disch:=first|omega|(simp only[LnZ];omega))[wrap64,Rw.I,h1,h2]
  refine hJ _ _ hlx ⟨rfl,rfl,fun j hj hji=>?_⟩
  by_cases hji2:j=i
  ·subst hji2;omega
  ·exact hn j hj (by omega)
 ·simp -implicitDefEqProofs (disch:=omega)[wrap64]
  refine RetK.keep (hk _ _ ⟨rfl,?_⟩)
  congr 1
  rw[eq_comm,decide_eq_true_iff]
  intro x hx
  obtain⟨j,hj,rfl⟩:=List.mem_iff_getElem.1 hx
  exact hn j hj (by omega)
theorem c_l12Word {h:Heap}{w:Value}{W:List Int}(Rw:Rep h w W):CallE Tryz.prog fn_spec_l12Word [w] h (fun u h'=>h'=h∧u=.bool (decide (Wok W))):=by
 have hL:=Rw.lt
 refine CallE.gen fun k hk=>EN_spec_l12Word rfl ?_
 simp -implicitDefEqProofs (disch:=omega)[wrap64]
 refine (c_l6Letters Rw).go ?_
 rintro _ _ ⟨rfl,rfl⟩
 by_cases h1:∀x∈W,0≤x∧x≤7
 ·rw[decide_eq_true h1]
  simp -implicitDefEqProofs (disch:=first|omega|(simp only[LnZ];omega))[wrap64,Rw.len]
  refine RetK.keep (hk _ _ ⟨rfl,?_⟩)
  congr 1
  rw[Bool.eq_iff_iff,decide_eq_true_iff,decide_eq_true_iff]
  exact⟨fun h=>⟨by omega,h1⟩,fun h=>by have:=h.1;omega⟩
 ·rw[decide_eq_false h1]
  simp -implicitDefEqProofs (disch:=omega)[wrap64]
  refine RetK.keep (hk _ _ ⟨rfl,?_⟩)
  congr 1
  rw[eq_comm,decide_eq_false_iff_not]
  exact fun hh=>h1 hh.2
theorem c_l12Only {h:Heap}{s l:Value}{S:List Int}{L:List Bool}(Rs:Rep h s S) (Rl:Rep h l L) (hS:∀x∈S,0≤x∧x<L.length) (hSl:S.length≤1048576):CallE Tryz.prog fn_spec_l12Only [s,l] h (fun u h'=>HS h [ow u (S.filter fun x=>L.getD x.toNat false)] h'):=by
 have hll:=Rl.lt
 refine CallE.gen fun k hk=>EN_spec_l12Only rfl ?_
 simp -implicitDefEqProofs (disch:=omega)[wrap64]
 refine HS.init.bls0 Int fun o h1 H=>?_
 simp -implicitDefEqProofs (disch:=omega)[wrap64]
 refine wp_count S.length (fun i e h'=>∃o,e=[some s,some l,none,some o,some (.int .i64 i)]∧HS h [ow o ((S.take i).filter fun x=>L.getD x.toNat false)] h') ⟨o,by simp,by simpa using H⟩ ?_
 clear H
 rintro J i _ h2 hJ hi ⟨o,rfl,H⟩
 have hfl:=List.length_filter_le (fun x:Int=>L.getD x.toNat false) (S.take i)
 simp only[List.length_take] at hfl
 simp -implicitDefEqProofs (disch:=first|omega|(simp only[LnZ];omega))[wrap64,(Rs.on H).len]
 refine IteW.mk (fun hlt=>?_) (fun hge=>?_)
 ·have hix:i<S.length:=by omega
  have hx:=hS _ (List.getElem_mem hix)
  obtain⟨q,hq⟩:∃q:Nat,S[i]=q:=⟨S[i].toNat,by omega⟩
  have hqn:q<L.length:=by omega
  have hgd:L.getD q false=L[q]:=by simp[hqn]
  have hfm:(S.take (i+1)).filter (fun x=>L.getD x.toNat false)=(S.take i).filter (fun x=>L.getD x.toNat false)++if L[q] then [(q:Int)] else []:=by
   rw[List.take_add_one,List.getElem?_eq_getElem hix,List.filter_append]
   congr 1
   simp only[Option.toList_some,List.filter_cons,List.filter_nil,hq,Int.toNat_natCast,hgd]
  cases hb:L[q] with
  | true=>
   simp -implicitDefEqProofs (disch:=first|omega|(simp only[LnZ];omega))[wrap64,(Rs.on H).I,hq,(Rl.on H).B,hb]
   refine H.app1 (q:Int) rfl rfl rfl ⟨by omega,by omega⟩ rfl rfl (by omega) (by omega) fun o' h3 H=>?_
   simp -implicitDefEqProofs (disch:=omega)[wrap64]
   refine hJ _ _ hix ⟨o',rfl,?_⟩
   rw[hfm,hb];exact H
  | false=>
   simp -implicitDefEqProofs (disch:=first|omega|(simp only[LnZ];omega))[wrap64,(Rs.on H).I,hq,(Rl.on H).B,hb]
   refine hJ _ _ hix ⟨o,rfl,?_⟩
   rw[hfm,hb];simpa using H
 simp -implicitDefEqProofs (disch:=omega)[wrap64]
 rw[List.take_of_length_le (by omega)] at H
 exact RetK.keep (hk _ _ H)
theorem c_l12Step {h:Heap}{v s:Value}{a:Aut}{S:List Int}{letter:Int}(Ra:Rep h v a) (Rs:Rep h s S) (ha:a.Ok):CallE Tryz.prog fn_spec_l12Step [v,s,.int .i64 letter] h (fun u h'=>∃T,HS h [ow u T] h'∧incr a.acc.length (-1) T∧∀x,x∈T↔∃e∈a.edges,e.frm∈S∧e.on letter=true∧e.to=x):=by
 obtain⟨v1,v2,v3,rfl,R1,R2,R3⟩:=Rep_Aut.1 Ra
 have hn:=ha.n
 have he:=ha.e
 refine CallE.gen fun k hk=>EN_spec_l12Step rfl ?_
 simp -implicitDefEqProofs (disch:=omega)[wrap64]
 refine HS.init.bls0 Int fun o h1 H=>?_
 simp -implicitDefEqProofs (disch:=omega)[wrap64]
 refine wp_count a.edges.length (fun i e h'=>∃o,e=[none,some s,some (.int .i64 letter),some (.agg #[v1,v2,v3]),none,some o,some (.int .i64 i)]∧∃T:List Int,HS h [ow o T] h'∧incr a.acc.length (-1) T∧∀x,x∈T↔∃e∈a.edges.take i,e.frm∈S∧e.on letter=true∧e.to=x) ⟨o,by simp,[],H,trivial,by simp⟩ ?_
 clear H
 rintro J i _ h2 hJ hi ⟨o,rfl,T,H,hT,hTm⟩
 simp -implicitDefEqProofs (disch:=first|omega|(simp only[LnZ];omega))[wrap64,(R3.on H).len]
 refine IteW.mk (fun hlt=>?_) (fun hge=>?_)
 ·have hix:i<a.edges.length:=by omega
  have hx:=ha.t hix
  have hv:=R3.okTr hix
  unfold Tr.Ok at hx
  have hstep:∀T':List Int,(∀x,x∈T'↔x∈T∨(a.edges[i].frm∈S∧a.edges[i].on letter=true∧a.edges[i].to=x))→∀x,x∈T'↔∃e∈a.edges.take (i+1),e.frm∈S∧e.on letter=true∧e.to=x:=by
   intro T' hT' x
   rw[hT',hTm]
   constructor
   ·rintro (⟨e,h1,h2⟩ | h1)
    ·exact⟨e,(take_mem_succ hix).2 (.inl h1),h2⟩
    ·exact⟨_,(take_mem_succ hix).2 (.inr rfl),h1⟩
   ·rintro⟨e,h1,h2⟩
    rcases (take_mem_succ hix).1 h1 with h1 | rfl
    ·exact .inl ⟨e,h1,h2⟩
    ·exact .inr h2
  simp -implicitDefEqProofs (disch:=first|omega|(simp only[LnZ];omega))[wrap64,(R3.on H).xTr,(R3.on H).fTr,Tr.v]
  refine (c_l4In (Rs.on H)).go ?_
  rintro _ _ ⟨rfl,rfl⟩
  by_cases h1:a.edges[i].frm∈S
  case neg=>
   simp -implicitDefEqProofs (disch:=first|omega|(simp only[LnZ];omega))[wrap64,h1]
   exact hJ _ _ hix ⟨o,by simp,T,H,hT,hstep T fun x=>⟨.inl,fun hh=>hh.elim id fun hh=>absurd hh.1 h1⟩⟩
  simp -implicitDefEqProofs (disch:=first|omega|(simp only[LnZ];omega))[wrap64,h1,(R3.on H).xTr,Tr.v]
  refine (c_l7On (t:=a.edges[i]) (Rep_Tr.2 ⟨by simp[Tr.v],hv⟩)).go ?_
  rintro _ _ ⟨rfl,rfl⟩
  by_cases h3:a.edges[i].on letter=true
  case neg=>
   simp -implicitDefEqProofs (disch:=first|omega|(simp only[LnZ];omega))[wrap64,h3]
   exact hJ _ _ hix ⟨o,by simp,T,H,hT,hstep T fun x=>⟨.inl,fun hh=>hh.elim id fun hh=>absurd hh.2.1 h3⟩⟩
  simp -implicitDefEqProofs (disch:=first|omega|(simp only[LnZ];omega))[wrap64,h3,(R3.on H).xTr,(R3.on H).fTr,Tr.v]
  refine (c_l10Sorted H hT (by omega) (by omega)).go ?_
  rintro o' h4 ⟨T',H,hT',hTm'⟩
  simp -implicitDefEqProofs (disch:=omega)[wrap64]
  refine hJ _ _ hix ⟨o',by simp,T',H,hT',hstep T' fun x=>?_⟩
  rw[hTm']
  constructor
  ·rintro (h5 | h5)
   ·exact .inl h5
   ·exact .inr ⟨h1,h3,h5.symm⟩
  ·rintro (h5 | h5)
   ·exact .inl h5
   ·exact .inr h5.2.2.symm
 simp -implicitDefEqProofs (disch:=omega)[wrap64]
 rw[List.take_of_length_le (by omega)] at hTm
 exact RetK.keep (hk _ _ ⟨T,H,hT,hTm⟩)
theorem c_l12States {h:Heap}{v w:Value}{a:Aut}{W:List Int}(Ra:Rep h v a) (Rw:Rep h w W) (ha:a.Ok):CallE Tryz.prog fn_spec_l12States [v,w] h (fun u h'=>HS h [ow u (a.states W)] h'):=by
 obtain⟨v1,v2,v3,rfl,R1,R2,R3⟩:=Rep_Aut.1 Ra
 have hn:=ha.n
 have hil:=ha.il
 have hwl:=Rw.lt
 have hfil:∀{L:List Bool}{S:List Int},L.length=a.acc.length→(∀q,tru L q↔q<a.acc.length∧a.Live q)→incr a.acc.length (-1) S→incr a.acc.length (-1) (S.filter fun x=>L.getD x.toNat false)∧∀q:Nat,(q:Int)∈(S.filter fun x=>L.getD x.toNat false)↔(q:Int)∈S∧a.Live q:=by
  intro L S hLl hL hS
  refine⟨incr_filter hS,fun q=>?_⟩
  rw[List.mem_filter]
  have:=hL q
  simp only[tru] at this
  simp only[Int.toNat_natCast]
  rw[this]
  constructor
  ·rintro⟨h1,h2⟩;exact⟨h1,h2.2⟩
  ·rintro⟨h1,h2⟩
   have:=incr_mem hS _ h1
   exact⟨h1,by omega,h2⟩
 refine CallE.gen fun k hk=>EN_spec_l12States rfl ?_
 simp -implicitDefEqProofs (disch:=omega)[wrap64]
 refine (c_spec_LiveStates Ra ha).go ?_
 rintro l h1 ⟨L,H,hLl,hL⟩
 simp -implicitDefEqProofs (disch:=omega)[wrap64]
 refine (c_l12Only (R1.on H) H.rep (fun x hx=>by have:=incr_mem ha.i x hx;omega) (by omega)).go ?_
 intro s h2 H2
 have H:=H2.app H
 obtain⟨f1,f2⟩:=hfil hLl hL ha.i
 simp -implicitDefEqProofs (disch:=omega)[wrap64]
 refine wp_count W.length (fun i e h'=>∃s,e=[none,some w,some (.agg #[v1,v2,v3]),none,some l,some s,some (.int .i64 i)]∧∃S:List Int,HS h [ow s S,ow l L] h'∧incr a.acc.length (-1) S∧∀q:Nat,(q:Int)∈S↔a.behind (W.take i) q) ⟨s,by simp,_,H,f1,f2⟩ ?_
 clear H f1 f2
 rintro J i _ h3 hJ hi ⟨s,rfl,S,H,hS,hSm⟩
 have hSl:=incr_len hS (by omega)
 simp -implicitDefEqProofs (disch:=first|omega|(simp only[LnZ];omega))[wrap64,(Rw.on H).len]
 refine IteW.mk (fun hlt=>?_) (fun hge=>?_)
 ·have hix:i<W.length:=by omega
  simp -implicitDefEqProofs (disch:=first|omega|(simp only[LnZ];omega))[wrap64,(Rw.on H).I]
  refine (c_l12Step (Ra.on H) H.rep ha).go ?_
  rintro t h4 ⟨T,H4,hT,hTm⟩
  have H:=H4.app H
  have hTl:=incr_len hT (by omega)
  simp -implicitDefEqProofs (disch:=omega)[wrap64]
  refine (c_l12Only H.rep H.sw2.rep (fun x hx=>by have:=incr_mem hT x hx;omega) (by omega)).go ?_
  intro s' h5 H5
  have H:=((H5.app H).sw1.drop).sw1.drop
  obtain⟨f1,f2⟩:=hfil hLl hL hT
  simp -implicitDefEqProofs (disch:=omega)[wrap64]
  refine hJ _ _ hix ⟨s',by simp,_,H,f1,fun q=>?_⟩
  rw[f2,hTm,Aut.behind,foldl_take hix]
  constructor
  ·rintro⟨⟨e,h6,h7,h8,h9⟩,h10⟩
   have hx:=ha.2.2.2 e h6
   unfold Tr.Ok at hx
   refine⟨h10,e,h6,?_,h9,h8⟩
   show a.behind (W.take i) _
   rw[← hSm,Int.toNat_of_nonneg hx.1]
   exact h7
  ·rintro⟨h10,e,h6,h7,h9,h8⟩
   have hx:=ha.2.2.2 e h6
   unfold Tr.Ok at hx
   have h7:a.behind (W.take i) _:=h7
   rw[← hSm,Int.toNat_of_nonneg hx.1] at h7
   exact⟨⟨e,h6,h7,h8,h9⟩,h10⟩
 simp -implicitDefEqProofs (disch:=omega)[wrap64]
 rw[List.take_of_length_le (by omega)] at hSm
 refine H.appPL (α:=Int) (l2:=S) rfl rfl H.rep rfl rfl (by omega) fun o h4 H=>?_
 simp -implicitDefEqProofs (disch:=omega)[wrap64]
 have he:S=a.states W:=by
  refine Aut.states_eq hS fun q=>?_
  rw[hSm]
  constructor
  ·intro h5
   have:=incr_mem hS q ((hSm q).2 h5)
   exact⟨by omega,h5⟩
  ·exact fun h5=>h5.2
 rw[he] at H
 exact RetK.keep (hk _ _ H.only)
noncomputable def stA (a:Aut) (w:List Int):Aut:=⟨a.states w,a.acc,a.edges⟩
theorem stA_ok {a:Aut}{w:List Int}(ha:a.Ok):(stA a w).Ok:=⟨ha.1,ha.2.1,(Aut.states_incr:incr a.acc.length (-1) (a.states w)),ha.2.2.2⟩
noncomputable def ext (a:Aut) (w:List Int):Option Las:=
 if a.Ok∧Wok w∧a.states w≠[] then
  match Bf.fw (stA a w) with
  | some l=>if (⟨w++l.stem,l.loop⟩:Las).Ok then some ⟨w++l.stem,l.loop⟩ else none
  | none=>none
 else none
theorem fold_LP {a:Aut}(ha:a.Ok):∀{W:List Int}{P:Nat→Prop}{q:Nat},W.foldl a.aft P q→∃s,P s∧LP a.edges s W q
 | [],P,q,h=>⟨q,h,.nil q⟩
 | x::W,P,q,h=>by
  obtain⟨s,⟨_,e,he,h1,h2,h3⟩,h4⟩:=fold_LP ha (W:=W) (P:=a.aft P x) h
  obtain⟨f,g,k1,k2,_,_⟩:=ha.tr he
  rw[k1,Int.toNat_natCast] at h1
  exact⟨f,h1,.cons ⟨e,he,k1,h2,h3⟩ h4⟩
theorem fold_live {a:Aut}:∀{W:List Int}{P:Nat→Prop}{q:Nat},(∀s,P s→a.Live s)→W.foldl a.aft P q→a.Live q
 | [],P,q,hP,h=>hP q h
 | x::W,P,q,hP,h=>fold_live (W:=W) (P:=a.aft P x) (fun s hs=>hs.1) h
theorem states_mem {a:Aut}{W:List Int}{x:Int}:x∈a.states W↔∃q:Nat,x=q∧q<a.acc.length∧a.behind W q:=by
 unfold Aut.states
 rw[memL_mem]
 simp
theorem states_live {a:Aut}{W:List Int}{q:Nat}(h:(q:Int)∈a.states W):q<a.acc.length∧a.Live q∧a.behind W q:=by
 obtain⟨p,h1,h2,h3⟩:=states_mem.1 h
 obtain rfl:q=p:=by omega
 exact⟨h2,fold_live (fun s hs=>hs.2) h3,h3⟩
def Lts (w:Nat→Int):Prop:=∀t,0≤w t∧w t≤7
def Pre (W:List Int) (w:Nat→Int):Prop:=∀i (hi:i<W.length),w i=W[i]
theorem Run.next {A:List Bool}{E:List Tr}{w:Nat→Int}{t p:Nat}(h:Run A E w t p):∃q,StE E w t p q∧Run A E w (t+1) q:=by
 obtain⟨C,hC,hG⟩:=h
 obtain⟨u,q,h1,h2,h3,h4⟩:=hG t p hC
 cases h2 with
 | refl=>omega
 | step h k=>exact⟨_,h,Run.before k ⟨C,h4,hG⟩⟩
theorem states_of_lang {a:Aut}(ha:a.Ok) {W:List Int}{w:Nat→Int}(hw:Pre W w) (h:a.Lang w):a.states W≠[]:=by
 obtain⟨s,hs,hr⟩:=h
 have hs':=ha.ini hs
 have key:∀n,n≤W.length→∃p,p<a.acc.length∧Run a.acc a.edges w n p∧a.behind (W.take n) p:=by
  intro n
  induction n with
  | zero=>intro _;exact⟨s,hs',hr,hs,hr.live ha hs'⟩
  | succ n ih=>
   intro hn
   obtain⟨p,h1,h2,h3⟩:=ih (by omega)
   obtain⟨q,h4,h5⟩:=h2.next
   obtain⟨_,hq⟩:=ha.st h4
   obtain⟨e,he,e1,e2,e3⟩:=h4
   refine⟨q,hq,h5,?_⟩
   unfold Aut.behind
   rw[foldl_take (show n<W.length by omega)]
   refine⟨h5.live ha hq,e,he,?_,e2,?_⟩
   ·rw[e1,Int.toNat_natCast];exact h3
   ·rw[← hw n (by omega)];exact e3
 obtain⟨p,h1,_,h3⟩:=key W.length (Nat.le_refl _)
 rw[List.take_length] at h3
 intro hno
 have:(p:Int)∈a.states W:=states_mem.2 ⟨p,rfl,h1,h3⟩
 rw[hno] at this
 simp at this
theorem lang_of_states {a:Aut}(ha:a.Ok) {W:List Int}(hW:∀x∈W,0≤x∧x≤7) (h:a.states W≠[]):∃l:Las,1≤l.loop.length∧Lts l.word∧Pre W l.word∧a.Lang l.word:=by
 have hst:=stA_ok (w:=W) ha
 cases hf:Bf.fw (stA a W) with
 | none=>
  exfalso
  cases hs:a.states W with
  | nil=>exact h hs
  | cons x t=>
   have hx:x∈a.states W:=by rw[hs];simp
   obtain⟨q,rfl,_,_⟩:=states_mem.1 hx
   exact Bf.fw_none hst hf hx (states_live hx).2.1
 | some l0=>
  obtain⟨⟨s,x,h1,h2,h3,h4⟩,k1,k2,_,k4,_⟩:=Bf.fw_some hst hf
  obtain⟨_,_,hb⟩:=states_live (a:=a) (W:=W) h1
  obtain⟨s0,h5,h6⟩:=fold_LP ha (P:=a.beg) hb
  have hl:∀y∈(⟨W++l0.stem,l0.loop⟩:Las).all,0≤y∧y≤7:=by
   intro y hy
   simp only[Las.all,List.mem_append] at hy
   rcases hy with (hy | hy) | hy
   ·exact hW y hy
   ·exact k1 y hy
   ·exact k2 y hy
  refine⟨⟨W++l0.stem,l0.loop⟩,k4,fun t=>?_,fun i hi=>?_,lasso_lang k4 h5.1 (h6.append h2) h3 h4⟩
  ·have h1:=Las.pos_lt (l:=⟨W++l0.stem,l0.loop⟩) k4 t
   unfold Las.word
   rw[List.getD_eq_getElem?_getD,List.getElem?_eq_getElem (by rw[Las.all_len];exact h1)]
   exact hl _ (List.getElem_mem _)
  ·rw[Las.word_stem (l:=⟨W++l0.stem,l0.loop⟩) (by simp only[List.length_append];omega)]
   simp only
   rw[List.getElem_append_left hi]
namespace Fm
def ngt (x:Exq):Exq:=if x.kind=3 then x.kids.getD 0 Exq.zero else neg x
theorem sat_ngt {w:Nat→Int}{x:Exq}(h:Ok x) {t:Nat}:sat w (ngt x) t↔¬sat w x t:=by
 unfold ngt
 split
 ·rename_i c
  have h1:=h.1.one (.inl c)
  have hl:0<x.kids.length:=by omega
  rw[sat3 c,sk_at hl,List.getD_eq_getElem?_getD,List.getElem?_eq_getElem hl]
  simp
 ·exact sat_neg
theorem bad_iff {x:Exq}(h:trOk x) (ha:(trA x).Ok) {W:List Int}(hW:∀y∈W,0≤y∧y≤7):(trA x).states W=[]↔∀w,Lts w→Pre W w→¬sat w x 0:=by
 constructor
 ·intro h1 w h2 h3 h4
  exact states_of_lang ha h3 ((trA_lang h h2).2 h4) h1
 ·intro h1
  apply Classical.byContradiction
  intro h2
  obtain⟨l,_,h3,h4,h5⟩:=lang_of_states ha hW h2
  exact h1 _ h3 h4 ((trA_lang h h3).1 h5)
theorem pre_ex {W:List Int}(hW:∀y∈W,0≤y∧y≤7):∃w,Lts w∧Pre W w:=by
 refine⟨fun t=>W.getD t 0,fun t=>?_,fun i hi=>by simp[hi]⟩
 by_cases ht:t<W.length
 ·have:=hW _ (List.getElem_mem ht)
  simpa[ht] using this
 ·simp[show W.length≤t by omega]
theorem not_both {x y:Exq}(hx:trOk x) (hy:trOk y) (ax:(trA x).Ok) (ay:(trA y).Ok) (hn:∀w,sat w y 0↔¬sat w x 0) {W:List Int}(hW:∀y∈W,0≤y∧y≤7):¬((trA x).states W=[]∧(trA y).states W=[]):=by
 rintro⟨h1,h2⟩
 obtain⟨w,h3,h4⟩:=pre_ex hW
 have h5:=(bad_iff hx ax hW).1 h1 w h3 h4
 exact (bad_iff hy ay hW).1 h2 w h3 h4 ((hn w).2 h5)
end Fm
theorem Las.pos_pos {l:Las}(hl:1≤l.loop.length) (t:Nat):l.pos (l.pos t)=l.pos t:=Las.pos_stem (Las.pos_lt hl t)
theorem Las.pos_add {l:Las}{s t:Nat}(h:l.pos s=l.pos t):∀k,l.pos (s+k)=l.pos (t+k)
 | 0=>h
 | k+1=>by rw[← Nat.add_assoc,← Nat.add_assoc,Las.pos,Las.pos,Las.pos_add h k]
theorem Las.word_add {l:Las}{s t:Nat}(h:l.pos s=l.pos t) (k:Nat):l.word (k+s)=l.word (k+t):=by
 unfold Las.word
 rw[Nat.add_comm k s,Nat.add_comm k t,Las.pos_add h]
namespace Fm
section
variable {l:Las}
theorem sat_pos_eq {s t:Nat}(h:l.pos s=l.pos t) (x:Exq):sat l.word x s↔sat l.word x t:=by
 have h1:=sat_shift (w:=l.word) s x 0
 have h2:=sat_shift (w:=l.word) t x 0
 rw[Nat.zero_add] at h1 h2
 rw[← h1,← h2]
 exact sat_congr (fun k=>Las.word_add h k) x 0
theorem sat_pos (hl:1≤l.loop.length) (x:Exq) (t:Nat):sat l.word x (l.pos t)↔sat l.word x t:=sat_pos_eq (Las.pos_pos hl t) x
theorem sk_pos (hl:1≤l.loop.length) (x:Exq) (j t:Nat):sk l.word x j (l.pos t)↔sk l.word x j t:=by
 by_cases hj:j<x.kids.length
 ·rw[sk_at hj];exact sat_pos hl _ t
 ·simp[sk,hj]
theorem pos_succ {i:Nat}(hi:i<l.size):l.pos (i+1)=l.nx i:=by rw[Las.pos,Las.pos_stem hi]
theorem sat_nx (hl:1≤l.loop.length) {i:Nat}(hi:i<l.size) (x:Exq):sat l.word x (l.nx i)↔sat l.word x (i+1):=by
 rw[← pos_succ hi];exact sat_pos hl x (i+1)
def stp (k:Int) (a b c:Prop):Prop:=if k=7 then b∨(a∧c) else if k=8 then b∧(a∨c) else if k=9 then a∨c else a∧c
theorem sat_stp {w:Nat→Int}{x:Exq}(hk:x.kind=7∨x.kind=8∨x.kind=9∨x.kind=10) (t:Nat):sat w x t↔stp x.kind (sk w x 0 t) (sk w x 1 t) (sat w x (t+1)):=by
 unfold stp
 rcases hk with c | c | c | c
 ·rw[if_pos c,sat7 c,sat7 c,until_step]
 ·rw[if_neg (by omega),if_pos c,sat8 c,sat8 c,release_step]
 ·rw[if_neg (by omega),if_neg (by omega),if_pos c,sat9 c,sat9 c,ev_step]
 ·rw[if_neg (by omega),if_neg (by omega),if_neg (by omega),sat10 c,sat10 c,al_step]
theorem stp_mono {k:Int}{a b c c':Prop}(h:c→c') (h1:stp k a b c):stp k a b c':=by
 unfold stp at *
 split
 ·rename_i e;rw[if_pos e] at h1;exact h1.imp id fun hh=>⟨hh.1,h hh.2⟩
 ·rename_i e
  rw[if_neg e] at h1
  split
  ·rename_i e;rw[if_pos e] at h1;exact⟨h1.1,h1.2.imp id h⟩
  ·rename_i e
   rw[if_neg e] at h1
   split
   ·rename_i e;rw[if_pos e] at h1;exact h1.imp id h
   ·rename_i e;rw[if_neg e] at h1;exact⟨h1.1,h h1.2⟩
theorem fix_least {x:Exq}(hl:1≤l.loop.length) (hk:x.kind=7∨x.kind=9) {o:Nat→Prop}(hf:∀i,i<l.size→(o i↔stp x.kind (sk l.word x 0 i) (sk l.word x 1 i) (o (l.nx i)))) (t:Nat) (h:sat l.word x t):o (l.pos t):=by
 have hf':∀t,o (l.pos t)↔stp x.kind (sk l.word x 0 t) (sk l.word x 1 t) (o (l.pos (t+1))):=fun t=>by
  rw[hf _ (Las.pos_lt hl t),propext (sk_pos hl x 0 t),propext (sk_pos hl x 1 t)];rfl
 rcases hk with c | c
 ·rw[sat7 c] at h
  obtain⟨u,h1,h2,h3⟩:=h
  have key:∀d t,t+d=u→(∀v,t≤v→v<u→sk l.word x 0 v)→o (l.pos t):=by
   intro d
   induction d with
   | zero=>
    intro t ht _
    obtain rfl:t=u:=by omega
    rw[hf'];unfold stp;rw[if_pos c];exact .inl h2
   | succ d ih=>
    intro t ht hv
    rw[hf'];unfold stp;rw[if_pos c]
    exact .inr ⟨hv t (Nat.le_refl _) (by omega),ih (t+1) (by omega) fun v hv1 hv2=>hv v (by omega) hv2⟩
  exact key (u-t) t (by omega) h3
 ·rw[sat9 c] at h
  obtain⟨u,h1,h2⟩:=h
  have key:∀d t,t+d=u→o (l.pos t):=by
   intro d
   induction d with
   | zero=>
    intro t ht
    obtain rfl:t=u:=by omega
    rw[hf'];unfold stp;rw[if_neg (by omega),if_neg (by omega),if_pos c];exact .inl h2
   | succ d ih=>
    intro t ht
    rw[hf'];unfold stp;rw[if_neg (by omega),if_neg (by omega),if_pos c]
    exact .inr (ih (t+1) (by omega))
  exact key (u-t) t (by omega)
theorem fix_great {x:Exq}(hl:1≤l.loop.length) (hk:x.kind=8∨x.kind=10) {o:Nat→Prop}(hf:∀i,i<l.size→(o i↔stp x.kind (sk l.word x 0 i) (sk l.word x 1 i) (o (l.nx i)))) (t:Nat) (h:o (l.pos t)):sat l.word x t:=by
 have hf':∀t,o (l.pos t)↔stp x.kind (sk l.word x 0 t) (sk l.word x 1 t) (o (l.pos (t+1))):=fun t=>by
  rw[hf _ (Las.pos_lt hl t),propext (sk_pos hl x 0 t),propext (sk_pos hl x 1 t)];rfl
 rcases hk with c | c
 ·have hs:∀t,o (l.pos t)↔sk l.word x 1 t∧(sk l.word x 0 t∨o (l.pos (t+1))):=fun t=>by
   rw[hf'];unfold stp;rw[if_neg (by omega),if_pos c]
  rw[sat8 c]
  have key:∀d,(∃v,t≤v∧v<t+d∧sk l.word x 0 v)∨o (l.pos (t+d)):=by
   intro d
   induction d with
   | zero=>exact .inr h
   | succ d ih=>
    rcases ih with ⟨v,h1,h2,h3⟩ | h1
    ·exact .inl ⟨v,h1,by omega,h3⟩
    ·rcases ((hs _).1 h1).2 with h2 | h2
     ·exact .inl ⟨t+d,by omega,by omega,h2⟩
     ·exact .inr h2
  intro u hu
  rcases key (u-t) with ⟨v,h1,h2,h3⟩ | h1
  ·exact .inr ⟨v,h1,by omega,h3⟩
  ·rw[show t+(u-t)=u by omega] at h1
   exact .inl ((hs _).1 h1).1
 ·have hs:∀t,o (l.pos t)↔sk l.word x 0 t∧o (l.pos (t+1)):=fun t=>by
   rw[hf'];unfold stp;rw[if_neg (by omega),if_neg (by omega),if_neg (by omega)]
  rw[sat10 c]
  have key:∀d,o (l.pos (t+d)):=by
   intro d
   induction d with
   | zero=>exact h
   | succ d ih=>exact ((hs _).1 ih).2
  intro u hu
  have:=key (u-t)
  rw[show t+(u-t)=u by omega] at this
  exact ((hs _).1 this).1
end
end Fm
namespace Fm
noncomputable def sv (l:Las) (x:Exq) (i:Nat):Bool:=@decide (sat l.word x i) (Classical.propDecidable _)
noncomputable def tvs (l:Las) (x:Exq):List Bool:=(List.range l.size).map (sv l x)
theorem tvs_len {l:Las}{x:Exq}:(tvs l x).length=l.size:=by simp[tvs]
theorem tvs_at {l:Las}{x:Exq}{i:Nat}(hi:i<(tvs l x).length):(tvs l x)[i]=sv l x i:=by simp[tvs]
theorem sv_iff {l:Las}{x:Exq}{i:Nat}:sv l x i=true↔sat l.word x i:=by simp[sv]
structure FixI (s0:Bool) (N:Nat) (nx:Nat→Nat) (f:Nat→Bool→Bool) (v:Nat→Bool) (O:List Bool):Prop where
 len:O.length=N
 ok:∀i,i<N→O.getD i s0=(!s0)→v i=(!s0)∧f i (O.getD (nx i) s0)=(!s0)
section
variable {s0:Bool}{N:Nat}{nx:Nat→Nat}{f:Nat→Bool→Bool}{v:Nat→Bool}{O:List Bool}
theorem FixI.init:FixI s0 N nx f v (List.replicate N s0):=⟨by simp,fun i hi h=>by simp[hi] at h⟩
theorem FixI.old (H:FixI s0 N nx f v O) {i:Nat}(hi:i<N) (hne:f i (O.getD (nx i) s0)≠O.getD i s0):O.getD i s0=s0∧f i (O.getD (nx i) s0)=(!s0):=by
 cases s0 with
 | false=>
  have h1:O.getD i false=false:=by
   cases hb:O.getD i false with
   | false=>rfl
   | true=>exact absurd ((H.ok i hi hb).2.trans hb.symm) hne
  rw[h1] at hne
  exact⟨h1,by simpa using hne⟩
 | true=>
  have h1:O.getD i true=true:=by
   cases hb:O.getD i true with
   | true=>rfl
   | false=>exact absurd ((H.ok i hi hb).2.trans hb.symm) hne
  rw[h1] at hne
  exact⟨h1,by simpa using hne⟩
theorem fix_any (hm:∀i,f i s0=(!s0)→f i (!s0)=(!s0)) {j:Nat}{c c':Bool}(h:f j c=(!s0)) (hc:c=(!s0)→c'=(!s0)):f j c'=(!s0):=by
 have h3:=hm j
 cases s0 with
 | false=>
  cases c' with
  | true=>
   cases c with
   | true=>exact h
   | false=>exact h3 h
  | false=>
   cases c with
   | false=>exact h
   | true=>exact absurd (hc rfl) (by decide)
 | true=>
  cases c' with
  | false=>
   cases c with
   | false=>exact h
   | true=>exact h3 h
  | true=>
   cases c with
   | true=>exact h
   | false=>exact absurd (hc rfl) (by decide)
theorem FixI.step (hm:∀i,f i s0=(!s0)→f i (!s0)=(!s0)) (hv:∀i,i<N→v i=f i (v (nx i))) (hn:∀i,i<N→nx i<N) (H:FixI s0 N nx f v O) {i:Nat}(hi:i<N) (hne:f i (O.getD (nx i) s0)≠O.getD i s0):FixI s0 N nx f v (O.set i (f i (O.getD (nx i) s0))):=by
 obtain⟨h1,h2⟩:=H.old hi hne
 have ge:∀j,(O.set i (!s0)).getD j s0=if i=j then (!s0) else O.getD j s0:=by
  intro j
  simp only[List.getD_eq_getElem?_getD,List.getElem?_set]
  by_cases e:i=j
  ·subst e
   rw[if_pos rfl,if_pos rfl,if_pos (by rw[H.len];exact hi)]
   rfl
  ·rw[if_neg e,if_neg e]
 have up:∀j,f j (O.getD (nx j) s0)=(!s0)→f j ((O.set i (!s0)).getD (nx j) s0)=(!s0):=by
  intro j h
  refine fix_any hm h fun hc=>?_
  rw[ge]
  split
  ·rfl
  ·exact hc
 rw[h2]
 refine⟨by simpa using H.len,fun j hj hj2=>?_⟩
 rw[ge] at hj2
 by_cases e:i=j
 ·subst e
  refine⟨?_,up i h2⟩
  rw[hv i hi]
  exact fix_any hm h2 fun hc=>(H.ok _ (hn i hi) hc).1
 ·rw[if_neg e] at hj2
  obtain⟨h3,h4⟩:=H.ok j hj hj2
  exact⟨h3,up j h4⟩
def fcnt (s0:Bool) (O:List Bool):Nat:=O.countP fun b=>b == s0
theorem fcnt_set {i:Nat}(hi:i<O.length) (h:O.getD i s0=s0):fcnt s0 (O.set i (!s0))<fcnt s0 O:=by
 have h':O[i]=s0:=by simpa[hi] using h
 clear h
 unfold fcnt
 induction O generalizing i with
 | nil=>simp at hi
 | cons b O ih=>
  cases i with
  | zero=>
   simp only[List.getElem_cons_zero] at h'
   subst h'
   simp only[List.set_cons_zero,List.countP_cons]
   cases b<;>simp
  | succ i=>
   simp only[List.getElem_cons_succ] at h'
   simp only[List.set_cons_succ,List.countP_cons]
   have:=ih (i:=i) (by simpa using hi) h'
   omega
end
noncomputable def fstp (l:Las) (x:Exq) (i:Nat) (c:Bool):Bool:=@decide (stp x.kind (sk l.word x 0 i) (sk l.word x 1 i) (c=true)) (Classical.propDecidable _)
theorem fstp_iff {l:Las}{x:Exq}{i:Nat}{c:Bool}:fstp l x i c=true↔stp x.kind (sk l.word x 0 i) (sk l.word x 1 i) (c=true):=by simp[fstp]
theorem fstp_mono {l:Las}{x:Exq}(s0:Bool) (i:Nat) (h:fstp l x i s0=(!s0)):fstp l x i (!s0)=(!s0):=by
 cases s0 with
 | false=>
  have h1:fstp l x i false=true:=h
  exact fstp_iff.2 (stp_mono (fun hh=>by simp at hh) (fstp_iff.1 h1))
 | true=>
  have h1:fstp l x i true=false:=h
  show fstp l x i false=false
  cases e:fstp l x i false with
  | false=>rfl
  | true=>
   have:=fstp_iff.2 (stp_mono (c':=(true=true)) (fun hh=>by simp at hh) (fstp_iff.1 e))
   rw[this] at h1
   simp at h1
theorem fstp_sv {l:Las}{x:Exq}(hl:1≤l.loop.length) (hk:x.kind=7∨x.kind=8∨x.kind=9∨x.kind=10) {i:Nat}(hi:i<l.size):sv l x i=fstp l x i (sv l x (l.nx i)):=by
 rw[Bool.eq_iff_iff,fstp_iff,sv_iff,sv_iff,sat_stp hk,sat_nx hl hi]
theorem fix_end {l:Las}{x:Exq}(hl:1≤l.loop.length) (s0:Bool) (hk:(s0=false∧(x.kind=7∨x.kind=9))∨(s0=true∧(x.kind=8∨x.kind=10))) {O:List Bool}(H:FixI s0 l.size l.nx (fstp l x) (sv l x) O) (hf:∀i,i<l.size→O.getD i s0=fstp l x i (O.getD (l.nx i) s0)):O=tvs l x:=by
 have hpt:∀i,i<l.size→O.getD i s0=sv l x i:=by
  intro i hi
  have hp:=Las.pos_stem (l:=l) hi
  have hf':∀i,i<l.size→((O.getD i s0=true)↔stp x.kind (sk l.word x 0 i) (sk l.word x 1 i) (O.getD (l.nx i) s0=true)):=fun i hi=>by rw[hf i hi,fstp_iff]
  rcases hk with ⟨rfl,hk⟩ | ⟨rfl,hk⟩
  ·rw[Bool.eq_iff_iff]
   constructor
   ·exact fun h=>(H.ok i hi h).1
   ·intro h
    have:=fix_least (o:=fun i=>O.getD i false=true) hl hk hf' i (sv_iff.1 h)
    rw[hp] at this
    exact this
  ·rw[Bool.eq_iff_iff]
   constructor
   ·intro h
    have:=fix_great (o:=fun i=>O.getD i true=true) hl hk hf' i (by rw[hp];exact h)
    exact sv_iff.2 this
   ·intro h
    cases e:O.getD i true with
    | true=>rfl
    | false=>
     have:=(H.ok i hi e).1
     rw[h] at this
     simp at this
 refine List.ext_getElem (by rw[H.len,tvs_len]) fun i h1 h2=>?_
 rw[tvs_at]
 have:=hpt i (by rw[← H.len];exact h1)
 simpa[h1] using this
end Fm
theorem getD_some {α:Type}{l:List α}{i:Nat}{d:α}(hi:i<l.length):l.getD i d=l[i]:=by simp[hi]
theorem c_fix {g h:Heap}{s0:Bool}{l:Las}{f:Nat→Bool→Bool}{v:Nat→Bool}{b8 b2:Nat}{lv fv ov:Value}{O0:List Bool}(Rl:Rep g lv l) (hb2:hload g (some (.pointer (some ⟨b2,0,none⟩))) (some 2)=some lv) (hl:l.stem.length≤80∧1≤l.loop.length∧l.loop.length≤80)
  {fH:FuncId}{c1 c2:List Value}(hfv:fnOf fv=some (fH,c1,c2)) (hH:∀i c h,i<l.size→g.le h→CallE Tryz.prog fH (c1++.int .i64 i::.bool c::c2) h (fun u h'=>h'=h∧u=.bool (f i c)))
  (hm:∀i,f i s0=(!s0)→f i (!s0)=(!s0)) (hv:∀i,i<l.size→v i=f i (v (l.nx i))) (hO0:O0.length=l.size) (H:HS g [bx b8 [ov],ow ov O0] h) :
  CallE Tryz.prog fn_impl_Lasso_truths_1 [.bool s0,fv,.pointer (some ⟨b8,0,none⟩),.pointer (some ⟨b2,0,none⟩)] h (fun _ h'=>∃O,HS g [bx b8 [ov],ow ov O] h'∧Fm.FixI s0 l.size l.nx f v O∧∀i,i<l.size→O.getD i s0=f i (O.getD (l.nx i) s0)):=by
 have hsz:l.size=l.stem.length+l.loop.length:=rfl
 have hnx:∀i,i<l.size→l.nx i<l.size:=fun i hi=>Las.nx_lt hl.2.1 hi
 refine CallE.gen fun k hk=>EN_impl_Lasso_truths_1 rfl ?_
 simp -implicitDefEqProofs (disch:=first|omega|(simp only[LnZ];omega))[wrap64,H.bxld0,H.sw1.rep.len]
 refine wp_count l.size (fun i e h'=>∃O,e=[some (.bool s0),some fv,some (.pointer (some ⟨b8,0,none⟩)),some (.pointer (some ⟨b2,0,none⟩)),none,none,none,none,some (.int .i64 l.size),some (.int .i64 i)]∧HS g [bx b8 [ov],ow ov O] h'∧O.length=l.size∧O.take i=List.replicate i s0) ⟨O0,by simp[hO0],H,hO0,by simp⟩ ?_
 clear H
 rintro J i _ h1 hJ hi ⟨O,rfl,H,hOl,hOt⟩
 simp -implicitDefEqProofs (disch:=omega)[wrap64]
 refine IteW.mk (fun hlt=>?_) (fun hge=>?_)
 ·have hix:i<l.size:=by omega
  have hi1:i<O.length:=by omega
  simp -implicitDefEqProofs (disch:=first|omega|(simp only[LnZ];omega))[wrap64,H.bxld0,H.sw1.rep.X (n:=1) rfl]
  refine H.sw1.storeF s0 (i:=i) (by omega) rfl rfl trivial rfl fun h2 H=>?_
  simp -implicitDefEqProofs (disch:=omega)[wrap64]
  refine hJ _ _ hix ⟨O.set i s0,by simp,H.sw1,by simpa using hOl,?_⟩
  rw[List.take_add_one,List.take_set_of_le (Nat.le_refl i),hOt,List.getElem?_set_self hi1,List.replicate_succ']
  rfl
 have hO:O=List.replicate l.size s0:=by rw[← List.take_of_length_le (show O.length≤i by omega),hOt];congr 1;omega
 subst hO
 clear hJ hOt hOl
 simp -implicitDefEqProofs (disch:=omega)[wrap64]
 clear J
 refine wp_while (σ:=List Bool×Bool) (fun s e h'=>e=[none,some fv,some (.pointer (some ⟨b8,0,none⟩)),some (.pointer (some ⟨b2,0,none⟩)),none,some (.bool s.2),none,none,none,none]∧HS g [bx b8 [ov],ow ov s.1] h'∧Fm.FixI s0 l.size l.nx f v s.1∧(s.2=false→∀i,i<l.size→s.1.getD i s0=f i (s.1.getD (l.nx i) s0)))
  (fun s=>2*Fm.fcnt s0 s.1+if s.2 then 1 else 0) (List.replicate l.size s0,true) ⟨by simp,H,Fm.FixI.init,fun e=>by simp at e⟩ ?_
 clear H
 rintro J ⟨O,ch⟩ _ h2 hJ ⟨rfl,H,HI,hfx⟩
 simp only at H HI hfx
 cases ch with
 | false=>
  simp -implicitDefEqProofs (disch:=omega)[wrap64]
  exact RetK.keep (hk _ _ ⟨O,H,HI,hfx rfl⟩)
 | true=>
  have hOl:=HI.len
  simp -implicitDefEqProofs (disch:=first|omega|(simp only[LnZ];omega))[wrap64,H.bxld0,H.sw1.rep.len]
  refine wp_while (σ:=(List Bool×Bool)×Nat) (fun s e h'=>e=[none,some fv,some (.pointer (some ⟨b8,0,none⟩)),some (.pointer (some ⟨b2,0,none⟩)),none,some (.bool s.1.2),some (.int .i64 ((s.2:Int)-1)),none,none,none]∧HS g [bx b8 [ov],ow ov s.1.1] h'∧s.2≤l.size∧Fm.FixI s0 l.size l.nx f v s.1.1 ∧
    (s.1.2=true→Fm.fcnt s0 s.1.1<Fm.fcnt s0 O)∧(s.1.2=false→s.1.1=O∧∀k,s.2≤k→k<l.size→O.getD k s0=f k (O.getD (l.nx k) s0)))
   (fun s=>s.2) ((O,false),l.size) ⟨by simp[hOl],H,Nat.le_refl _,HI,fun e=>by simp at e,fun _=>⟨rfl,fun k h1 h2=>by omega⟩⟩ ?_
  clear H
  rintro J2 ⟨⟨O',ch'⟩,j⟩ _ h3 hJ2 ⟨rfl,H,hj,HI',hc1,hc2⟩
  simp only at H hj HI' hc1 hc2
  have hOl':=HI'.len
  cases j with
  | zero=>
   simp -implicitDefEqProofs (disch:=omega)[wrap64]
   cases ch' with
   | true=>
    have:=hc1 rfl
    refine hJ (O',true) _ _ ?_ ⟨by simp,H,HI',fun e=>by simp at e⟩
    simp only[if_true]
    omega
   | false=>
    obtain⟨rfl,h4⟩:=hc2 rfl
    refine hJ (O',false) _ _ (by simp) ⟨by simp,H,HI',fun _ k hk=>h4 k (Nat.zero_le k) hk⟩
  | succ j=>
   have hjx:j<l.size:=by omega
   have hnj:=hnx j hjx
   have e1:((j+1:Nat):Int)-1=(j:Int):=by omega
   rw[e1]
   have hb2':=hload_le H.base hb2
   simp -implicitDefEqProofs (disch:=first|omega|(simp only[LnZ];omega))[wrap64,H.bxld0,hb2',Rl.aLas]
   refine (c_nextL (Rl.on H) (by omega) (by omega) hjx).go ?_
   rintro _ _ ⟨rfl,rfl⟩
   have hB:=H.sw1.rep.B
   simp -implicitDefEqProofs (disch:=first|omega|(simp only[LnZ];omega))[wrap64,H.bxld0,hB,hnj,hOl',hfv]
   refine (hH j _ _ hjx H.base).go ?_
   rintro _ _ ⟨rfl,rfl⟩
   have gn:O'.getD (l.nx j) s0=O'[l.nx j]'(by omega):=getD_some (by omega)
   have gj:O'.getD j s0=O'[j]'(by omega):=getD_some (by omega)
   have hst:=fun h=>HI'.step hm hv hnx hjx h
   have hold:=fun h=>HI'.old hjx h
   rw[gn,gj] at hst hold
   by_cases e:f j (O'[l.nx j]'(by omega))=O'[j]'(by omega)
   ·simp -implicitDefEqProofs (disch:=first|omega|(simp only[LnZ];omega))[wrap64,H.bxld0,hB,hnj,hOl',e]
    refine hJ2 ((O',ch'),j) _ _ (by simp) ⟨by simp,H,by simp only;omega,HI',hc1,fun hh=>?_⟩
    obtain⟨rfl,h5⟩:=hc2 hh
    refine⟨rfl,fun k h6 h7=>?_⟩
    by_cases ek:k=j
    ·subst ek
     rw[gj,gn];exact e.symm
    ·exact h5 k (by simp only at h6;omega) h7
   ·simp -implicitDefEqProofs (disch:=first|omega|(simp only[LnZ];omega))[wrap64,H.bxld0,hB,hnj,hOl',e]
    refine H.sw1.storeF (f j (O'[l.nx j]'(by omega))) (i:=j) (by omega) rfl rfl trivial rfl fun h5 H=>?_
    simp -implicitDefEqProofs (disch:=omega)[wrap64]
    refine hJ2 ((O'.set j (f j (O'[l.nx j]'(by omega))),true),j) _ _ (by simp) ⟨by simp,H.sw1,by simp only;omega,hst e,fun _=>?_,fun hh=>by simp at hh⟩
    have h6:=hold e
    have h7:=Fm.fcnt_set (s0:=s0) (O:=O') (i:=j) (by omega) (by rw[gj];exact h6.1)
    simp only
    rw[h6.2]
    cases ch' with
    | true=>have:=hc1 rfl;omega
    | false=>
     obtain⟨rfl,_⟩:=hc2 rfl
     exact h7
theorem i64_0:I64 0:=⟨by decide,by decide⟩
def opn (k:Int):Int:=if k=1∨k=2 then 0 else if k=4∨k=5∨k=7∨k=8 then 2 else 1
theorem opn_eq {k:Int}(h:1≤k∧k≤10):opn k=Fm.arity k:=by
 unfold opn Fm.arity
 by_cases h1:k=1∨k=2
 ·rw[if_pos h1,if_pos h1]
 ·rw[if_neg h1,if_neg h1]
  by_cases h2:k=4∨k=5∨k=7∨k=8
  ·rw[if_pos h2,if_neg (by omega),if_pos h2]
  ·rw[if_neg h2,if_pos (by omega)]
theorem c_operands {h:Heap}{k0:Int}:CallE Tryz.prog fn_impl_operands [.int .i64 k0] h (fun u h'=>h'=h∧u=.int .i64 (opn k0)):=by
 refine CallE.gen fun k hk=>EN_impl_operands rfl ?_
 by_cases h1:k0=1
 ·simp -implicitDefEqProofs (disch:=first|omega|(simp only[LnZ];omega))[wrap64,h1]
  exact RetK.keep (hk _ _ ⟨rfl,by subst h1;rfl⟩)
 by_cases h2:k0=2
 ·simp -implicitDefEqProofs (disch:=first|omega|(simp only[LnZ];omega))[wrap64,h1,h2]
  exact RetK.keep (hk _ _ ⟨rfl,by subst h2;rfl⟩)
 by_cases h4:k0=4
 ·simp -implicitDefEqProofs (disch:=first|omega|(simp only[LnZ];omega))[wrap64,h1,h2,h4]
  exact RetK.keep (hk _ _ ⟨rfl,by subst h4;rfl⟩)
 by_cases h5:k0=5
 ·simp -implicitDefEqProofs (disch:=first|omega|(simp only[LnZ];omega))[wrap64,h1,h2,h4,h5]
  exact RetK.keep (hk _ _ ⟨rfl,by subst h5;rfl⟩)
 by_cases h7:k0=7
 ·simp -implicitDefEqProofs (disch:=first|omega|(simp only[LnZ];omega))[wrap64,h1,h2,h4,h5,h7]
  exact RetK.keep (hk _ _ ⟨rfl,by subst h7;rfl⟩)
 by_cases h8:k0=8
 ·simp -implicitDefEqProofs (disch:=first|omega|(simp only[LnZ];omega))[wrap64,h1,h2,h4,h5,h7,h8]
  exact RetK.keep (hk _ _ ⟨rfl,by subst h8;rfl⟩)
 simp -implicitDefEqProofs (disch:=first|omega|(simp only[LnZ];omega))[wrap64,h1,h2,h4,h5,h7,h8]
 exact RetK.keep (hk _ _ ⟨rfl,by congr 1;unfold opn;rw[if_neg (by omega),if_neg (by omega)]⟩)
def WalkQ (g:Heap) (Γ:List HP) (b n m:Nat) (x:Exq) (neg:Bool) (v:Value) (h':Heap):Prop:=
 ∃(n':Nat) (ok:Bool),v=.bool (ok != neg)∧HS g (bx b [.int .i64 n']::Γ) h'∧(ok=true↔Fm.Shp m x∧n+x.nod≤12)∧(ok=true→n'=n+x.nod)
theorem c_IndexFunc_walk {g h:Heap}{Γ:List HP}{a fv:Value}{l:List Exq}{b n m:Nat}(Ra:Rep g a l) {f:FuncId}{c1 c2:List Value}(hf:fnOf fv=some (f,c1,c2)) (H:HS g (bx b [.int .i64 n]::Γ) h) (hn:n≤12)
  (hp:∀(i:Nat) (hi:i<l.length) (u:Value) (n:Nat) (h1:Heap),Rep g u l[i]→HS g (bx b [.int .i64 n]::Γ) h1→n≤12→CallE Tryz.prog f (c1++u::c2) h1 (WalkQ g Γ b n m l[i] true)) :
  CallE Tryz.prog fn_slices_IndexFunc_S_impl_Formula_impl_Formula [a,fv] h (fun v h'=>∃(n':Nat) (j:Int),v=.int .i64 j∧HS g (bx b [.int .i64 n']::Γ) h'∧(j<0↔(∀y∈l,Fm.Shp m y)∧n+Exq.nods l≤12)∧(j<0→n'=n+Exq.nods l)):=by
 refine CallE.gen fun k hk=>EN_slices_IndexFunc_S_impl_Formula_impl_Formula rfl ?_
 have hL:=Ra.lt
 simp -implicitDefEqProofs (disch:=first|omega|(simp only[LnZ];omega))[wrap64,Ra.len]
 refine wp_count l.length (fun i e h'=>e=[some a,some fv,none,none,some (.int .i64 l.length),some (.int .i64 i)]∧HS g (bx b [.int .i64 ((n+Exq.nods (l.take i):Nat):Int)]::Γ) h'∧n+Exq.nods (l.take i)≤12∧∀(j:Nat) (hj:j<l.length),j<i→Fm.Shp m l[j]) ⟨rfl,by simpa[Exq.nods] using H,by simpa[Exq.nods] using hn,fun j _ hj=>absurd hj (Nat.not_lt_zero j)⟩ ?_
 clear H
 rintro J i _ h1 hJ hi ⟨rfl,H,hle,hall⟩
 simp -implicitDefEqProofs (disch:=omega)[wrap64]
 refine IteW.mk (fun hlt=>?_) (fun hge=>?_)
 ·have hlx:i<l.length:=by omega
  have hnt:=Exq.nods_take hlx
  have hnl:=Exq.nods_le l (i+1)
  obtain⟨u,hu,Ru⟩:=Ra.ld hlx
  have hu2:=hload_le H.base hu
  change hload _ (some (elp 3 a i)) (some 3)=some u at hu2
  simp -implicitDefEqProofs (disch:=first|omega|(simp only[LnZ];omega))[wrap64,Ra.X (n:=3) rfl,hu2,hf]
  refine (hp i hlx u _ h1 Ru H hle).go ?_
  rintro _ h2 ⟨n',ok,rfl,H,hok,hn'⟩
  simp -implicitDefEqProofs (disch:=omega)[wrap64]
  refine IteW.mk (fun hq=>?_) (fun hq=>?_)
  ·simp -implicitDefEqProofs (disch:=omega)[wrap64]
   refine RetK.keep (hk _ _ ⟨n',_,rfl,H,⟨fun hh=>absurd hh (by omega),fun ⟨e1,e2⟩=>?_⟩,fun hh=>absurd hh (by omega)⟩)
   have:ok=true:=hok.2 ⟨e1 _ (List.getElem_mem hlx),by omega⟩
   rw[this] at hq
   simp at hq
  ·have hok1:ok=true:=by simpa using hq
   have e1:=hok.1 hok1
   have e2:=hn' hok1
   subst e2
   simp -implicitDefEqProofs (disch:=omega)[wrap64]
   refine hJ _ _ hlx ⟨rfl,?_,by omega,fun j hj hji=>?_⟩
   ·rw[hnt,← Nat.add_assoc];exact H
   ·by_cases hji2:j=i
    ·subst hji2;exact e1.1
    ·exact hall j hj (by omega)
 ·simp -implicitDefEqProofs (disch:=omega)[wrap64]
  rw[List.take_of_length_le (by omega)] at H hle
  refine RetK.keep (hk _ _ ⟨_,_,rfl,H,⟨fun _=>⟨fun y hy=>?_,hle⟩,fun _=>by omega⟩,fun _=>rfl⟩)
  obtain⟨j,hj,rfl⟩:=List.mem_iff_getElem.1 hy
  exact hall j hj (by omega)
theorem c_ContainsFunc_walk {g h:Heap}{Γ:List HP}{a fv:Value}{l:List Exq}{b n m:Nat}(Ra:Rep g a l) {f:FuncId}{c1 c2:List Value}(hf:fnOf fv=some (f,c1,c2)) (H:HS g (bx b [.int .i64 n]::Γ) h) (hn:n≤12)
  (hp:∀(i:Nat) (hi:i<l.length) (u:Value) (n:Nat) (h1:Heap),Rep g u l[i]→HS g (bx b [.int .i64 n]::Γ) h1→n≤12→CallE Tryz.prog f (c1++u::c2) h1 (WalkQ g Γ b n m l[i] true)) :
  CallE Tryz.prog fn_slices_ContainsFunc_S_impl_Formula_impl_Formula [a,fv] h (fun v h'=>∃(n':Nat) (ok:Bool),v=.bool (!ok)∧HS g (bx b [.int .i64 n']::Γ) h'∧(ok=true↔(∀y∈l,Fm.Shp m y)∧n+Exq.nods l≤12)∧(ok=true→n'=n+Exq.nods l)):=by
 refine CallE.gen fun k hk=>EN_slices_ContainsFunc_S_impl_Formula_impl_Formula rfl ?_
 simp -implicitDefEqProofs (disch:=omega)[wrap64]
 refine (c_IndexFunc_walk Ra hf H hn hp).go ?_
 rintro _ h1 ⟨n',j,rfl,H,hj,hn'⟩
 simp -implicitDefEqProofs (disch:=omega)[wrap64]
 refine RetK.keep (hk _ _ ⟨n',decide (j<0),?_,H,by rw[decide_eq_true_iff];exact hj,by rw[decide_eq_true_iff];exact hn'⟩)
 congr 1
 by_cases e:j<0
 ·simp[e]
 ·simp[e];omega
theorem c_walk:∀(x:Exq) {g h:Heap}{Γ:List HP}{v:Value}{b n d:Nat}{dv:Int},dv=d→Rep g v x→HS g (bx b [.int .i64 n]::Γ) h→n≤12→1≤d→d≤7 →
  CallE Tryz.prog fn_impl_Formula_walk [v,.int .i64 dv,.pointer (some ⟨b,0,none⟩)] h (WalkQ g Γ b n (7-d) x false):=by
 refine Exq.ind fun x ih g h Γ v b n d dv hdv R H hn hd1 hd7=>?_
 obtain⟨w,rfl,k1,k2,R1⟩:=Rep_Exq.1 R
 have hnod:=x.nod_eq
 have hkl:=R1.lt
 obtain⟨ln,hln⟩:∃ln:Int,ln=x.kids.length:=⟨_,rfl⟩
 have hlen:=R1.len
 rw[← hln] at hlen
 refine CallE.gen fun k hk=>EN_impl_Formula_walk rfl ?_
 simp -implicitDefEqProofs (disch:=omega)[wrap64]
 refine H.alloc rfl fun b4 h1 H=>?_
 simp -implicitDefEqProofs (disch:=omega)[wrap64]
 refine H.alloc rfl fun b5 h2 H=>?_
 simp only[cells_int,cells_pointer] at H
 simp -implicitDefEqProofs (disch:=first|omega|(simp only[LnZ];omega))[wrap64,H.bxld0,H.sw2.bxld0]
 refine HS.bxst (o:=0) (sz:=1) (u:=.int .i64 ((n:Int)+1)) H.sw2 rfl rfl rfl rfl (by simp) fun h3 H=>?_
 have H:HS g (bx b [.int .i64 ((n+1:Nat):Int)]::bx b5 [.pointer (some ⟨b,0,none⟩)]::bx b4 [.int .i64 dv]::Γ) h3:=H
 -- what is wanted where it fails
 have hno:¬(Fm.Shp (7-d) x∧n+x.nod≤12)→k (.bool false) h3:=fun hh=>hk _ _ ⟨_,false,rfl,H.sw1.drop.sw1.drop,⟨fun e=>by simp at e,fun e=>absurd e hh⟩,fun e=>by simp at e⟩
 -- and where the operands were asked
 have hfin:Fm.Nd x→d≤6→∀{h4:Heap}{n':Nat}{ok:Bool},(ok=true↔(∀y∈x.kids,Fm.Shp (6-d) y)∧n+1+Exq.nods x.kids≤12)→(ok=true→n'=n+1+Exq.nods x.kids) →
   HS g (bx b [.int .i64 n']::bx b5 [.pointer (some ⟨b,0,none⟩)]::bx b4 [.int .i64 dv]::Γ) h4→k (.bool ok) h4:=by
  intro hnd hd6 h4 n' ok g1 g2 H4
  refine hk _ _ ⟨n',ok,by simp,H4.sw1.drop.sw1.drop,?_,fun e=>by have:=g2 e;omega⟩
  rw[g1,show 7-d=(6-d)+1 by omega]
  exact⟨fun ⟨h5,h6⟩=>⟨⟨hnd,h5⟩,by omega⟩,fun ⟨h5,h6⟩=>⟨h5.2,by omega⟩⟩
 -- an operand
 have hkid:d≤6→∀(i:Nat) (hi:i<x.kids.length) (u:Value) (n:Nat) (h1:Heap),Rep g u x.kids[i]→HS g (bx b [.int .i64 n]::bx b5 [.pointer (some ⟨b,0,none⟩)]::bx b4 [.int .i64 dv]::Γ) h1→n≤12 →
   CallE Tryz.prog fn_impl_Formula_walk_1 ([]++u::[.pointer (some ⟨b4,0,none⟩),.pointer (some ⟨b5,0,none⟩)]) h1 (WalkQ g (bx b5 [.pointer (some ⟨b,0,none⟩)]::bx b4 [.int .i64 dv]::Γ) b n (6-d) x.kids[i] true):=by
  intro hd6 i hi u n h1 Ru H hn
  refine CallE.gen fun k hk=>EN_impl_Formula_walk_1 rfl ?_
  have Fu:=Ru.aExq
  simp -implicitDefEqProofs (disch:=first|omega|(simp only[LnZ];omega))[wrap64,Fu,H.sw2.bxld0,H.sw1.bxld0]
  refine (ih _ (List.getElem_mem hi) (d:=d+1) (dv:=dv+1) (by omega) Ru H hn (by omega) (by omega)).go ?_
  rintro _ h2 ⟨n',ok,rfl,H,g1,g2⟩
  rw[show 7-(d+1)=6-d by omega] at g1
  simp -implicitDefEqProofs (disch:=omega)[wrap64]
  exact RetK.keep (hk _ _ ⟨n',ok,by simp,H,g1,g2⟩)
 by_cases c2:x.kind=2
 ·revert hno hfin
  intro hno hfin
  by_cases e1:(6:Int)<dv
  ·simp -implicitDefEqProofs (disch:=first|omega|(simp only[LnZ];omega))[wrap64,c2,H.bxld0,H.sw1.bxld0,H.sw2.bxld0,e1]
   exact RetK.keep (hno fun hh=>by have:=hh.1;rw[show 7-d=0 by omega] at this;exact this)
  by_cases e2:(12:Int)<(n:Int)+1
  ·simp -implicitDefEqProofs (disch:=first|omega|(simp only[LnZ];omega))[wrap64,c2,H.bxld0,H.sw1.bxld0,H.sw2.bxld0,e1,e2]
   exact RetK.keep (hno fun hh=>by have:=hh.2;omega)
  simp -implicitDefEqProofs (disch:=first|omega|(simp only[LnZ];omega))[wrap64,c2,H.bxld0,H.sw1.bxld0,H.sw2.bxld0,e1,e2]
  refine c_in.go ?_
  rintro _ _ ⟨rfl,rfl⟩
  have e3:1≤x.kind∧x.kind≤10:=by omega
  simp -implicitDefEqProofs (disch:=first|omega|(simp only[LnZ];omega))[wrap64,c2,e3]
  refine c_in.go ?_
  rintro _ _ ⟨rfl,rfl⟩
  by_cases e4:0≤x.val∧x.val≤2
  case neg=>
   simp -implicitDefEqProofs (disch:=first|omega|(simp only[LnZ];omega))[wrap64,c2,e4]
   exact RetK.keep (hno fun hh=>e4 ⟨hh.1.nd.lo,by have:=hh.1.nd.hi;omega⟩)
  simp -implicitDefEqProofs (disch:=first|omega|(simp only[LnZ];omega))[wrap64,c2,e4,hlen]
  refine c_operands.go ?_
  rintro _ _ ⟨rfl,rfl⟩
  by_cases e5:ln=opn 2
  case neg=>
   simp -implicitDefEqProofs (disch:=first|omega|(simp only[LnZ];omega))[wrap64,c2,e5,hlen]
   exact RetK.keep (hno fun hh=>e5 (by have:=hh.1.nd.ar;rw[← hln,c2] at this;rw[this,opn_eq (by decide)]))
  simp -implicitDefEqProofs (disch:=first|omega|(simp only[LnZ];omega))[wrap64,c2,e5,hlen]
  refine (c_ContainsFunc_walk (m:=6-d) R1 (c1:=[]) (c2:=[.pointer (some ⟨b4,0,none⟩),.pointer (some ⟨b5,0,none⟩)]) rfl H (by omega) (hkid (by omega))).go ?_
  rintro _ h4 ⟨n',ok,rfl,H4,g1,g2⟩
  simp -implicitDefEqProofs (disch:=omega)[wrap64]
  exact RetK.keep (hfin ⟨by rw[← hln,e5,opn_eq (by decide),c2],e4.1,by omega,fun hh=>absurd c2 hh⟩ (by omega) g1 g2 H4)
 by_cases e1:(6:Int)<dv
 ·simp -implicitDefEqProofs (disch:=first|omega|(simp only[LnZ];omega))[wrap64,c2,H.bxld0,H.sw1.bxld0,H.sw2.bxld0,e1]
  exact RetK.keep (hno fun hh=>by have:=hh.1;rw[show 7-d=0 by omega] at this;exact this)
 by_cases e2:(12:Int)<(n:Int)+1
 ·simp -implicitDefEqProofs (disch:=first|omega|(simp only[LnZ];omega))[wrap64,c2,H.bxld0,H.sw1.bxld0,H.sw2.bxld0,e1,e2]
  exact RetK.keep (hno fun hh=>by have:=hh.2;omega)
 simp -implicitDefEqProofs (disch:=first|omega|(simp only[LnZ];omega))[wrap64,c2,H.bxld0,H.sw1.bxld0,H.sw2.bxld0,e1,e2]
 refine c_in.go ?_
 rintro _ _ ⟨rfl,rfl⟩
 by_cases e3:1≤x.kind∧x.kind≤10
 case neg=>
  simp -implicitDefEqProofs (disch:=first|omega|(simp only[LnZ];omega))[wrap64,c2,e3]
  exact RetK.keep (hno fun hh=>e3 hh.1.nd.kind)
 simp -implicitDefEqProofs (disch:=first|omega|(simp only[LnZ];omega))[wrap64,c2,e3]
 refine c_in.go ?_
 rintro _ _ ⟨rfl,rfl⟩
 by_cases e4:0≤x.val∧x.val≤0
 case neg=>
  simp -implicitDefEqProofs (disch:=first|omega|(simp only[LnZ];omega))[wrap64,c2,e4]
  exact RetK.keep (hno fun hh=>e4 ⟨hh.1.nd.lo,by have:=hh.1.nd.ze c2;omega⟩)
 simp -implicitDefEqProofs (disch:=first|omega|(simp only[LnZ];omega))[wrap64,c2,e4,hlen]
 refine c_operands.go ?_
 rintro _ _ ⟨rfl,rfl⟩
 by_cases e5:ln=opn x.kind
 case neg=>
  simp -implicitDefEqProofs (disch:=first|omega|(simp only[LnZ];omega))[wrap64,c2,e5,hlen]
  exact RetK.keep (hno fun hh=>e5 (by have:=hh.1.nd.ar;rw[← hln] at this;rw[this,opn_eq e3]))
 simp -implicitDefEqProofs (disch:=first|omega|(simp only[LnZ];omega))[wrap64,c2,e5,hlen]
 refine (c_ContainsFunc_walk (m:=6-d) R1 (c1:=[]) (c2:=[.pointer (some ⟨b4,0,none⟩),.pointer (some ⟨b5,0,none⟩)]) rfl H (by omega) (hkid (by omega))).go ?_
 rintro _ h4 ⟨n',ok,rfl,H4,g1,g2⟩
 simp -implicitDefEqProofs (disch:=omega)[wrap64]
 exact RetK.keep (hfin ⟨by rw[← hln,e5,opn_eq e3],e4.1,by omega,fun _=>by omega⟩ (by omega) g1 g2 H4)
theorem c_FormulaNodes {h:Heap}{v:Value}{x:Exq}(R:Rep h v x):CallE Tryz.prog fn_impl_FormulaNodes [v] h (fun u h'=>h.le h'∧u=.int .i64 (if (Fm.Ok x) then (x.nod:Int) else 0)):=by
 have F:=R.aExq
 refine CallE.gen fun k hk=>EN_impl_FormulaNodes rfl ?_
 simp -implicitDefEqProofs (disch:=omega)[wrap64]
 refine HS.init.alloc rfl fun b h1 H=>?_
 simp only[cells_int] at H
 simp -implicitDefEqProofs (disch:=omega)[wrap64]
 refine HS.bxst (o:=0) (sz:=1) (u:=.int .i64 0) H rfl rfl rfl rfl (by simp) fun h2 H=>?_
 have H:HS h [bx b [.int .i64 ((0:Nat):Int)]] h2:=H
 simp -implicitDefEqProofs (disch:=first|omega|(simp only[LnZ];omega))[wrap64,F]
 refine (c_walk x (d:=1) rfl R H (by omega) (by omega) (by omega)).go ?_
 rintro _ h3 ⟨n',ok,rfl,H,g1,g2⟩
 have hok:ok=true↔(Fm.Ok x):=by rw[g1];simp[Fm.Ok]
 cases ok with
 | true=>
  have e:=g2 rfl
  have ho:=hok.1 rfl
  simp -implicitDefEqProofs (disch:=first|omega|(simp only[LnZ];omega))[wrap64,H.bxld0]
  refine RetK.keep (hk _ _ ⟨H.base,?_⟩)
  rw[if_pos ho,e];simp
 | false=>
  simp -implicitDefEqProofs (disch:=omega)[wrap64]
  refine RetK.keep (hk _ _ ⟨H.base,?_⟩)
  rw[if_neg (fun ho=>by have:=hok.2 ho;simp at this)]
theorem Exq.nod_pos (x:Exq):0<x.nod:=by rw[Exq.nod_eq];omega
theorem c_FormulaValid {h:Heap}{v:Value}{x:Exq}(R:Rep h v x):CallE Tryz.prog fn_impl_FormulaValid [v] h (fun u h'=>h.le h'∧u=.bool (decide (Fm.Ok x))):=by
 have F:=R.aExq
 have hp:=x.nod_pos
 refine CallE.gen fun k hk=>EN_impl_FormulaValid rfl ?_
 simp -implicitDefEqProofs (disch:=first|omega|(simp only[LnZ];omega))[wrap64,F]
 refine (c_FormulaNodes R).go ?_
 rintro _ h1 ⟨hl,rfl⟩
 simp -implicitDefEqProofs (disch:=omega)[wrap64]
 refine RetK.keep (hk _ _ ⟨hl,?_⟩)
 congr 1
 by_cases e:(Fm.Ok x)
 ·simp[e];omega
 ·simp[e]
theorem c_EqualFunc_Formula {h:Heap}{a b fv:Value}{x y:List Exq}(Ra:Rep h a x) (Rb:Rep h b y) {f:FuncId}(hf:fnOf fv=some (f,[],[]))
  (hp:∀z∈x,∀{h:Heap}{a b:Value}{w:Exq},Rep h a z→Rep h b w→CallE Tryz.prog f [a,b] h (fun u h'=>h'=h∧u=.bool (decide (z=w)))) :
  CallE Tryz.prog fn_slices_EqualFunc_S_impl_Formula_S_impl_Formula_impl_Formula_impl_Formula [a,b,fv] h (fun u h'=>h'=h∧u=.bool (decide (x=y))):=by
 refine CallE.gen fun k hk=>EN_slices_EqualFunc_S_impl_Formula_S_impl_Formula_impl_Formula_impl_Formula rfl ?_
 have hL:=Ra.lt
 simp -implicitDefEqProofs (disch:=first|omega|(simp only[LnZ];omega))[wrap64,Ra.len,Rb.len]
 refine IteW.mkr (fun hne=>?_) (fun heq=>?_)
 ·simp -implicitDefEqProofs (disch:=omega)[wrap64]
  exact RetK.keep (hk _ _ ⟨rfl,by simp;rintro rfl;exact hne rfl⟩)
 simp -implicitDefEqProofs (disch:=first|omega|(simp only[LnZ];omega))[wrap64,Ra.len]
 refine wp_count x.length (fun i e h'=>h'=h∧e=[none,some b,some fv,none,none,none,none,some a,some (.int .i64 x.length),some (.int .i64 i)]∧x.take i=y.take i) ⟨rfl,by simp[heq],rfl⟩ ?_
 rintro J i _ _ hJ hi ⟨rfl,rfl,hxy⟩
 simp -implicitDefEqProofs (disch:=omega)[wrap64]
 refine IteW.mk (fun hlt=>?_) (fun hge=>?_)
 ·have hly:i<y.length:=by omega
  have hlx:i<x.length:=by omega
  obtain⟨u,hu,Ru⟩:=Ra.ld hlx
  obtain⟨w,hw,Rw⟩:=Rb.ld hly
  change hload _ (some (elp 3 a i)) (some 3)=some u at hu
  change hload _ (some (elp 3 b i)) (some 3)=some w at hw
  simp -implicitDefEqProofs (disch:=first|omega|(simp only[LnZ];omega))[wrap64,Ra.X (n:=3) rfl,Rb.X (n:=3) rfl,hu,hw,Ru.aExq,Rw.aExq,hf]
  refine (hp _ (List.getElem_mem hlx) Ru Rw).go ?_
  rintro _ _ ⟨rfl,rfl⟩
  simp -implicitDefEqProofs (disch:=omega)[wrap64]
  refine IteW.mkr (fun hne=>?_) (fun heq=>?_)
  ·simp -implicitDefEqProofs (disch:=omega)[wrap64]
   exact RetK.keep (hk _ _ ⟨rfl,by simp;rintro rfl;exact hne rfl⟩)
  simp -implicitDefEqProofs (disch:=omega)[wrap64]
  exact hJ _ _ hlx ⟨rfl,rfl,take_step hxy hlx hly heq⟩
 ·simp -implicitDefEqProofs (disch:=omega)[wrap64]
  refine RetK.keep (hk _ _ ⟨rfl,?_⟩)
  simp
  rw[List.take_of_length_le (by omega),List.take_of_length_le (by omega)] at hxy
  exact hxy
theorem c_FormulaSame':∀(x:Exq) {h:Heap}{a b:Value}{y:Exq},Rep h a x→Rep h b y→CallE Tryz.prog fn_impl_FormulaSame [a,b] h (fun u h'=>h'=h∧u=.bool (decide (x=y))):=by
 refine Exq.ind fun x ih h a b y Ra Rb=>?_
 obtain⟨w,rfl,k1,k2,R1⟩:=Rep_Exq.1 Ra
 obtain⟨w2,rfl,k3,k4,R2⟩:=Rep_Exq.1 Rb
 refine CallE.gen fun k hk=>EN_impl_FormulaSame rfl ?_
 by_cases h1:x.kind=y.kind
 case neg=>
  simp -implicitDefEqProofs (disch:=first|omega|(simp only[LnZ];omega))[wrap64,h1]
  exact RetK.keep (hk _ _ ⟨rfl,by simp[Exq.ext_iff',h1]⟩)
 by_cases h2:x.val=y.val
 case neg=>
  simp -implicitDefEqProofs (disch:=first|omega|(simp only[LnZ];omega))[wrap64,h1,h2]
  exact RetK.keep (hk _ _ ⟨rfl,by simp[Exq.ext_iff',h2]⟩)
 simp -implicitDefEqProofs (disch:=first|omega|(simp only[LnZ];omega))[wrap64,h1,h2]
 refine (c_EqualFunc_Formula R1 R2 (f:=fn_impl_FormulaSame) rfl ih).go ?_
 rintro _ _ ⟨rfl,rfl⟩
 simp -implicitDefEqProofs (disch:=omega)[wrap64]
 exact RetK.keep (hk _ _ ⟨rfl,by simp[Exq.ext_iff',h1,h2]⟩)
theorem c_FormulaSame {x:Exq}{h:Heap}{a b:Value}{y:Exq}(Ra:Rep h a x) (Rb:Rep h b y):CallE Tryz.prog fn_impl_FormulaSame [a,b] h (fun u h'=>h'=h∧u=.bool (decide (x=y))):=c_FormulaSame' x Ra Rb
theorem rep_zero {h:Heap}:Rep h (.agg #[.int .i64 0,.int .i64 0,.slice none 0 0]) Exq.zero:=Rep_Exq.2 ⟨_,rfl,i64_0,i64_0,(Own_nils.rep.le fun _ _ h=>by simp[Heap.nil] at h)⟩
theorem sz_cons {α:Type} [Sz α] (x:α) (l:List α):Sz.sz (x::l)=1+Sz.sz x+Sz.sz l:=by
 simp only[sz_list,szL,List.length_cons];omega
theorem c_Clone_impl_Formula {h:Heap}{a:Value}{x:List Exq}(Ra:Rep h a x) (hs:x.length≤1048576):CallE Tryz.prog fn_slices_Clone_S_impl_Formula_impl_Formula [a] h (fun v h'=>∃M,Raws h x M∧HS h [ow v M] h'):=by
 refine CallE.gen fun k hk=>EN_slices_Clone_S_impl_Formula_impl_Formula rfl ?_
 obtain⟨b,hb,hb2⟩:=Ra.isNil
 simp -implicitDefEqProofs (disch:=first|omega|(simp only[LnZ];omega))[wrap64,hb]
 refine IteW.mk (fun h1=>?_) (fun h1=>?_)
 ·simp -implicitDefEqProofs (disch:=omega)[wrap64]
  have h2:x=[]:=hb2 h1
  subst h2
  exact RetK.keep (hk _ _ ⟨[],⟨rfl,fun i hi=>absurd hi (Nat.not_lt_zero i)⟩,HS.init.nil_ow⟩)
 ·simp -implicitDefEqProofs (disch:=omega)[wrap64]
  refine HS.init.appPLr (α:=Exq) (l2:=x) (u:=a) rfl rfl Ra rfl rfl (by omega) fun v h1 M hM H=>?_
  simp -implicitDefEqProofs (disch:=omega)[wrap64]
  exact RetK.keep (hk _ _ ⟨M,hM,H⟩)
theorem c_Clip_impl_Formula {g h:Heap}{Γ:List HP}{a:Value}{x:List (Mix Exq)}(H:HS g (ow a x::Γ) h):CallE Tryz.prog fn_slices_Clip_S_impl_Formula_impl_Formula [a] h (fun v h'=>HS g (ow v x::Γ) h'):=by
 refine CallE.gen fun k hk=>EN_slices_Clip_S_impl_Formula_impl_Formula rfl ?_
 obtain⟨v',h1,h2⟩:=H.clip (esz:=3) (k:=.i64)
 simp -implicitDefEqProofs (disch:=first|omega|(simp only[LnZ];omega))[wrap64,H.rep.len,h1]
 exact RetK.keep (hk _ _ h2)
theorem c_clone_impl_Formula {h:Heap}{a:Value}{x:List Exq}(Ra:Rep h a x) (hs:x.length≤1048576):CallE Tryz.prog fn_impl_clone_impl_Formula [a] h (fun v h'=>∃M,Raws h x M∧HS h [ow v M] h'):=by
 refine CallE.gen fun k hk=>EN_impl_clone_impl_Formula rfl ?_
 simp -implicitDefEqProofs (disch:=omega)[wrap64]
 refine (c_Clone_impl_Formula Ra hs).go ?_
 rintro v h1 ⟨M,hM,H⟩
 simp -implicitDefEqProofs (disch:=omega)[wrap64]
 refine (c_Clip_impl_Formula H).go ?_
 intro v' h2 H
 simp -implicitDefEqProofs (disch:=omega)[wrap64]
 exact RetK.keep (hk _ _ ⟨M,hM,H⟩)
theorem Exq.nods_sz:∀x:Exq,x.nod=1+Sz.sz x:=by
 have key:∀l:List Exq,(∀y∈l,y.nod=1+Sz.sz y)→Exq.nods l=Sz.sz l:=by
  intro l
  induction l with
  | nil=>intro _;rfl
  | cons y l ih=>
   intro h
   rw[Exq.nods,ih fun z hz=>h z (by simp[hz]),h y (by simp),sz_cons]
 refine Exq.ind fun x ih=>?_
 rw[Exq.nod_eq,key _ ih,← sz_Exq]
theorem sz_kid {x:Exq}{i:Nat}(hi:i<x.kids.length):Sz.sz x.kids[i]≤Sz.sz x:=by
 have:=szL_get hi
 rw[sz_Exq x,sz_list];omega
theorem Fm.Ok.sz {x:Exq}(h:Fm.Ok x):Sz.sz x≤11:=by have:=h.2;have:=x.nods_sz;omega
theorem c_Formula_copyOf:∀(x:Exq) {h:Heap}{v:Value},Rep h v x→Sz.sz x≤1048576→CallE Tryz.prog fn_impl_Formula_copyOf [v] h (fun u h'=>HS h [ow u x] h'):=by
 refine Exq.ind fun x ih h v R hs=>?_
 obtain⟨w,rfl,k1,k2,R1⟩:=Rep_Exq.1 R
 have hsz:=sz_Exq x
 rw[sz_list] at hsz
 refine CallE.gen fun k hk=>EN_impl_Formula_copyOf rfl ?_
 simp -implicitDefEqProofs (disch:=first|omega|(simp only[LnZ];omega))[wrap64,setC]
 refine (c_clone_impl_Formula R1 (by omega)).go ?_
 rintro o h1 ⟨M,hM,H⟩
 simp -implicitDefEqProofs (disch:=first|omega|(simp only[LnZ];omega))[wrap64,setC,H.rep.cells,H.rep.one,R1.len]
 refine wp_count x.kids.length (fun i e h'=>e=[none,none,some (.agg #[.int .i64 0,.int .i64 0,.slice none 0 0]),some (.agg #[.int .i64 x.kind,.int .i64 x.val,o]),none,none,some w,some (.int .i64 x.kids.length),some (.int .i64 i)]∧∃M,HS h [ow o M] h'∧Mixed h x.kids (fun y=>y) M i) ⟨by simp,M,H,Mixed.zero hM⟩ ?_
 clear H
 rintro J i _ h2 hJ hi ⟨rfl,M,H,hM⟩
 simp -implicitDefEqProofs (disch:=omega)[wrap64]
 refine IteW.mk (fun hlt=>?_) (fun hge=>?_)
 ·have hlx:i<x.kids.length:=by omega
  have hlM:i<M.length:=by rw[hM.len];exact hlx
  obtain⟨u,hu,Ru⟩:=R1.ld hlx
  have hu2:=hload_le H.base hu
  change hload _ (some (elp 3 w i)) (some 3)=some u at hu2
  simp -implicitDefEqProofs (disch:=first|omega|(simp only[LnZ];omega))[wrap64,R1.X (n:=3) rfl,hu2,Ru.aExq]
  refine (ih _ (List.getElem_mem hlx) (Ru.on H) (by have:=sz_kid hlx;omega)).go ?_
  intro y h3 G
  have H:=(G.newO).app H
  simp -implicitDefEqProofs (disch:=first|omega|(simp only[LnZ];omega))[wrap64,H.sw1.rep.X (n:=3) rfl,G.rep.aExq]
  refine HS.store H hlM rfl rfl rfl fun h4 H=>?_
  simp -implicitDefEqProofs (disch:=omega)[wrap64]
  exact hJ _ _ hlx ⟨by simp,_,H,hM.step hlx⟩
 ·simp -implicitDefEqProofs (disch:=first|omega|(simp only[LnZ];omega))[wrap64,H.rep.cells,H.rep.one,setC]
  have he:=hM.all (by omega)
  subst he
  have H:=H.mixed
  rw[List.map_id'] at H
  exact RetK.keep (hk _ _ (H.mkExq k1 k2))
section
variable {α:Type} [Ty α] {P:Program}{k:Env→Heap→Prop}{e:Env}{h:Heap}
theorem bls_one {u1:Value}{y1:α}(R1:Rep h u1 y1) {esz:Nat}{zero:List Value}{parts:List (Nat×Nat×O)}{dst:Nat}(hf:fillP e (reps 1 zero) parts=some u1.cells.toList)
  (K:∀v' h',h.le h'→Rep h' v' [y1]→k (eset e dst (some v')) h'):(A.ex (some dst) (.bls esz 1 zero parts)).wp P k e h:=by
 obtain⟨c1,rfl,r1⟩:=R1
 rw[rep_cells r1] at hf
 have l1:=Ty.len r1
 refine⟨_,hf,fun b el hb=>Fgt.keep ?_⟩
 rw[set_new hb]
 have hd:Dj h (Heap.one b (.cells c1.toArray el (0,0))):=Dj_one.2 hb
 have hbb:(h.add (Heap.one b (.cells c1.toArray el (0,0)))) b=some (.cells c1.toArray el (0,0)):=by simp[Heap.add,Heap.one,hb]
 refine K _ _ (le_add hd) (Rep_list.2 ⟨some ⟨b,0,none⟩,1,rfl,⟨Nat.le_refl _,by simp⟩,trivial,fun i hi=>?_⟩)
 refine⟨b,0,(c1.drop (0+i*Ty.sz α)).take (Ty.sz α),rfl,?_,?_⟩
 ·rw[hcells_mk hbb (by simp at hi ⊢;subst hi;simp;omega)]
 ·simp only[List.length_cons,List.length_nil] at hi
  obtain rfl:i=0:=by omega
  have e1:(c1.drop (0+0*Ty.sz α)).take (Ty.sz α)=c1:=by simp[← l1]
  rw[e1]
  exact Ty.mono (le_add hd) r1
end
theorem c_formula {h:Heap}{a:Value}{l:List Exq}{k0:Int}(hk0:I64 k0) (R:Rep h a l) (hl:l.length≤1048576):CallE Tryz.prog fn_impl_formula [.int .i64 k0,a] h (fun u h'=>h.le h'∧Rep h' u (Exq.mk k0 0 l)):=by
 refine CallE.gen fun k hk=>EN_impl_formula rfl ?_
 simp -implicitDefEqProofs (disch:=first|omega|(simp only[LnZ];omega))[wrap64,setC]
 refine (c_clone_impl_Formula R hl).go ?_
 rintro v h1 ⟨M,hM,H⟩
 have R1:Rep h1 v l:=H.rep.raws (hM.le H.base)
 simp -implicitDefEqProofs (disch:=first|omega|(simp only[LnZ];omega))[wrap64,setC,R1.cells,R1.one]
 exact RetK.keep (hk _ _ ⟨H.base,Rep_Exq.2 ⟨v,rfl,hk0,i64_0,R1⟩⟩)
theorem c_normal_pick {h:Heap}{b:Nat}{x y:Int}{ng:Bool}(hb:hload h (some (.pointer (some ⟨b,0,none⟩))) none=some (.bool ng)):CallE Tryz.prog fn_impl_Formula_normal_2 [.int .i64 x,.int .i64 y,.pointer (some ⟨b,0,none⟩)] h (fun u h'=>h'=h∧u=.int .i64 (if ng then y else x)):=by
 refine CallE.gen fun k hk=>EN_impl_Formula_normal_2 rfl ?_
 cases ng with
 | true=>
  simp -implicitDefEqProofs (disch:=first|omega|(simp only[LnZ];omega))[wrap64,hb]
  exact RetK.keep (hk _ _ ⟨rfl,rfl⟩)
 | false=>
  simp -implicitDefEqProofs (disch:=first|omega|(simp only[LnZ];omega))[wrap64,hb]
  exact RetK.keep (hk _ _ ⟨rfl,rfl⟩)
theorem c_normal_kid {h:Heap}{b1 b2:Nat}{x:Exq}{w:Value}{ng:Bool}{j:Nat}(hj:j<x.kids.length) (R:Rep h w x.kids) (h1:hload h (some (.pointer (some ⟨b1,2,none⟩))) none=some w) (h2:hload h (some (.pointer (some ⟨b2,0,none⟩))) none=some (.bool ng))
  (ih:∀{h:Heap}{v:Value},Rep h v x.kids[j]→CallE Tryz.prog fn_impl_Formula_normal [v,.bool ng] h (fun u h'=>h.le h'∧Rep h' u (Fm.push x.kids[j] ng))) :
  CallE Tryz.prog fn_impl_Formula_normal_1 [.int .i64 j,.pointer (some ⟨b1,0,none⟩),.pointer (some ⟨b2,0,none⟩)] h (fun u h'=>h.le h'∧Rep h' u (Fm.kp x ng j)):=by
 obtain⟨u,hu,Ru⟩:=R.ld hj
 change hload _ (some (elp 3 w j)) (some 3)=some u at hu
 refine CallE.gen fun k hk=>EN_impl_Formula_normal_1 rfl ?_
 simp -implicitDefEqProofs (disch:=first|omega|(simp only[LnZ];omega))[wrap64,setC,h1,h2,R.X (n:=3) rfl,hu,Ru.aExq]
 refine (ih Ru).go ?_
 rintro y h3 ⟨l3,R3⟩
 simp -implicitDefEqProofs (disch:=first|omega|(simp only[LnZ];omega))[wrap64,setC,R3.aExq]
 exact RetK.keep (hk _ _ ⟨l3,by rw[Fm.kp_at hj];exact R3⟩)
theorem c_normal:∀(x:Exq) {n:Nat}{h:Heap}{v:Value}{ng:Bool},Fm.Shp n x→Rep h v x→CallE Tryz.prog fn_impl_Formula_normal [v,.bool ng] h (fun u h'=>h.le h'∧Rep h' u (Fm.push x ng)):=by
 refine Exq.ind fun x ih n h v ng hs R=>?_
 obtain⟨m,rfl⟩:∃m,n=m+1:=⟨n-1,by cases n with
  | zero=>exact hs.elim
  | succ n=>rfl⟩
 have FX:=R.aExq
 obtain⟨w,rfl,k1,k2,R1⟩:=Rep_Exq.1 R
 have hpe:=Fm.push_eq x ng
 have hkd:=hs.nd.kind
 refine CallE.gen fun k hk=>EN_impl_Formula_normal rfl ?_
 rw[hpe] at hk
 simp -implicitDefEqProofs (disch:=first|omega|(simp only[LnZ];omega))[wrap64,FX]
 refine HS.init.alloc rfl fun b1 h1 H=>?_
 simp -implicitDefEqProofs (disch:=omega)[wrap64]
 refine H.alloc rfl fun b2 h2 H=>?_
 simp -implicitDefEqProofs (disch:=omega)[wrap64]
 have i1:I64 1:=⟨by decide,by decide⟩
 have i3:I64 3:=⟨by decide,by decide⟩
 have Rn:∀h,Rep h (.slice none 0 0) ([]:List Exq):=fun h=>Own_nils.rep.le fun _ _ h=>by simp[Heap.nil] at h
 refine (c_formula i1 (Rn _) (by simp)).go ?_
 rintro t h3 ⟨l3,Rt⟩
 obtain⟨tw,rfl,_,_,_⟩:=Rep_Exq.1 Rt
 simp -implicitDefEqProofs (disch:=first|omega|(simp only[LnZ];omega))[wrap64,setC]
 refine bls_one (α:=Exq) Rt rfl fun sl h4 l4 Rs=>?_
 simp -implicitDefEqProofs (disch:=omega)[wrap64]
 refine (c_formula i3 Rs (by simp)).go ?_
 rintro fs h5 ⟨l5,Rf⟩
 obtain⟨fw,rfl,_,_,Rfk⟩:=Rep_Exq.1 Rf
 have of:=Rfk.one
 have oc:=Rfk.cells
 have H:=H.le (l3.trans (l4.trans l5))
 have lb:=H.base
 have R1:=R1.le lb
 have q1:hload h5 (some (.pointer (some ⟨b1,0,none⟩))) none=some (.int .i64 x.kind):=H.sw1.bxld (o:=0) rfl
 have q2:hload h5 (some (.pointer (some ⟨b1,1,none⟩))) none=some (.int .i64 x.val):=H.sw1.bxld (o:=1) rfl
 have q3:hload h5 (some (.pointer (some ⟨b1,2,none⟩))) none=some w:=H.sw1.bxld (o:=2) rfl
 have q4:hload h5 (some (.pointer (some ⟨b2,0,none⟩))) none=some (.bool ng):=H.bxld (o:=0) rfl
 clear H
 have kid:∀{j:Nat}{h6:Heap}(hj:j<x.kids.length),h5.le h6→CallE Tryz.prog fn_impl_Formula_normal_1 [.int .i64 j,.pointer (some ⟨b1,0,none⟩),.pointer (some ⟨b2,0,none⟩)] h6 (fun u h'=>h6.le h'∧Rep h' u (Fm.kp x ng j)):=fun {j h6} hj l6=>
  c_normal_kid hj (R1.le l6) (hload_le l6 q3) (hload_le l6 q4) fun R=>ih _ (List.getElem_mem hj) (hs.kid hj) R
 have kid0:∀{h6:Heap},0<x.kids.length→h5.le h6→CallE Tryz.prog fn_impl_Formula_normal_1 [.int .i64 0,.pointer (some ⟨b1,0,none⟩),.pointer (some ⟨b2,0,none⟩)] h6 (fun u h'=>h6.le h'∧Rep h' u (Fm.kp x ng 0)):=fun hj l6=>kid (j:=0) hj l6
 have kid1:∀{h6:Heap},1<x.kids.length→h5.le h6→CallE Tryz.prog fn_impl_Formula_normal_1 [.int .i64 1,.pointer (some ⟨b1,0,none⟩),.pointer (some ⟨b2,0,none⟩)] h6 (fun u h'=>h6.le h'∧Rep h' u (Fm.kp x ng 1)):=fun hj l6=>kid (j:=1) hj l6
 by_cases c3:x.kind=3
 ·have hl:0<x.kids.length:=by rw[hs.one (.inl c3)];omega
  obtain⟨u,hu,Ru⟩:=R1.ld hl
  change hload _ (some (elp 3 w 0)) (some 3)=some u at hu
  rw[if_neg (by omega),if_pos c3] at hk
  simp -implicitDefEqProofs (disch:=first|omega|(simp only[LnZ];omega))[wrap64,setC,q1,q2,q3,q4,of,oc,c3,R1.X (n:=3) rfl,hu,Ru.aExq]
  refine (ih _ (List.getElem_mem hl) (hs.kid hl) Ru).go ?_
  rintro y h6 ⟨l6,Ry⟩
  simp -implicitDefEqProofs (disch:=first|omega|(simp only[LnZ];omega))[wrap64,setC,Ry.aExq]
  exact RetK.keep (hk _ _ ⟨lb.trans l6,by rw[Fm.kp_at hl];exact Ry⟩)
 by_cases c4:x.kind=4
 ·have hl:=hs.two (.inl c4)
  rw[if_neg (by omega),if_neg (by omega),if_neg (by omega),if_neg (by omega)] at hk
  simp -implicitDefEqProofs (disch:=first|omega|(simp only[LnZ];omega))[wrap64,setC,q1,q2,q3,q4,of,oc,c3,c4]
  refine (c_normal_pick q4).go ?_
  rintro _ _ ⟨rfl,rfl⟩
  simp -implicitDefEqProofs (disch:=omega)[wrap64]
  refine (kid0 (by omega) (Heap.le.refl _)).go ?_
  rintro y0 h6 ⟨l6,Ry0⟩
  simp -implicitDefEqProofs (disch:=omega)[wrap64]
  refine (kid1 (by omega) l6).go ?_
  rintro y1 h7 ⟨l7,Ry1⟩
  have Ry0:=Ry0.le l7
  obtain⟨z0,rfl,_,_,_⟩:=Rep_Exq.1 Ry0
  obtain⟨z1,rfl,_,_,_⟩:=Rep_Exq.1 Ry1
  simp -implicitDefEqProofs (disch:=omega)[wrap64]
  refine bls_two (α:=Exq) Ry0 Ry1 rfl fun sl2 h8 l8 Rs2=>?_
  simp -implicitDefEqProofs (disch:=omega)[wrap64]
  refine (c_formula (by cases ng<;>exact⟨by decide,by decide⟩) Rs2 (by simp)).go ?_
  rintro r h9 ⟨l9,Rr⟩
  simp -implicitDefEqProofs (disch:=first|omega|(simp only[LnZ];omega))[wrap64,setC,Rr.aExq]
  exact RetK.keep (hk _ _ ⟨lb.trans (l6.trans (l7.trans (l8.trans l9))),by cases ng<;>simpa[c4,Fm.dual] using Rr⟩)
 by_cases c5:x.kind=5
 ·have hl:=hs.two (.inr (.inl c5))
  rw[if_neg (by omega),if_neg (by omega),if_neg (by omega),if_neg (by omega)] at hk
  simp -implicitDefEqProofs (disch:=first|omega|(simp only[LnZ];omega))[wrap64,setC,q1,q2,q3,q4,of,oc,c3,c4,c5]
  refine (c_normal_pick q4).go ?_
  rintro _ _ ⟨rfl,rfl⟩
  simp -implicitDefEqProofs (disch:=omega)[wrap64]
  refine (kid0 (by omega) (Heap.le.refl _)).go ?_
  rintro y0 h6 ⟨l6,Ry0⟩
  simp -implicitDefEqProofs (disch:=omega)[wrap64]
  refine (kid1 (by omega) l6).go ?_
  rintro y1 h7 ⟨l7,Ry1⟩
  have Ry0:=Ry0.le l7
  obtain⟨z0,rfl,_,_,_⟩:=Rep_Exq.1 Ry0
  obtain⟨z1,rfl,_,_,_⟩:=Rep_Exq.1 Ry1
  simp -implicitDefEqProofs (disch:=omega)[wrap64]
  refine bls_two (α:=Exq) Ry0 Ry1 rfl fun sl2 h8 l8 Rs2=>?_
  simp -implicitDefEqProofs (disch:=omega)[wrap64]
  refine (c_formula (by cases ng<;>exact⟨by decide,by decide⟩) Rs2 (by simp)).go ?_
  rintro r h9 ⟨l9,Rr⟩
  simp -implicitDefEqProofs (disch:=first|omega|(simp only[LnZ];omega))[wrap64,setC,Rr.aExq]
  exact RetK.keep (hk _ _ ⟨lb.trans (l6.trans (l7.trans (l8.trans l9))),by cases ng<;>simpa[c5,Fm.dual] using Rr⟩)
 by_cases c6:x.kind=6
 ·have hl:=hs.one (.inr (.inl c6))
  rw[if_neg (by omega),if_neg (by omega),if_pos c6] at hk
  simp -implicitDefEqProofs (disch:=first|omega|(simp only[LnZ];omega))[wrap64,setC,q1,q2,q3,q4,of,oc,c3,c4,c5,c6]
  refine (kid0 (by omega) (Heap.le.refl _)).go ?_
  rintro y0 h6 ⟨l6,Ry0⟩
  obtain⟨z0,rfl,_,_,_⟩:=Rep_Exq.1 Ry0
  simp -implicitDefEqProofs (disch:=omega)[wrap64]
  refine bls_one (α:=Exq) Ry0 rfl fun sl2 h8 l8 Rs2=>?_
  simp -implicitDefEqProofs (disch:=omega)[wrap64]
  refine (c_formula ⟨by decide,by decide⟩ Rs2 (by simp)).go ?_
  rintro r h9 ⟨l9,Rr⟩
  simp -implicitDefEqProofs (disch:=first|omega|(simp only[LnZ];omega))[wrap64,setC,Rr.aExq]
  exact RetK.keep (hk _ _ ⟨lb.trans (l6.trans (l8.trans l9)),Rr⟩)
 by_cases c7:x.kind=7
 ·have hl:=hs.two (.inr (.inr (.inl c7)))
  rw[if_neg (by omega),if_neg (by omega),if_neg (by omega),if_neg (by omega)] at hk
  simp -implicitDefEqProofs (disch:=first|omega|(simp only[LnZ];omega))[wrap64,setC,q1,q2,q3,q4,of,oc,c3,c4,c5,c6,c7]
  refine (c_normal_pick q4).go ?_
  rintro _ _ ⟨rfl,rfl⟩
  simp -implicitDefEqProofs (disch:=omega)[wrap64]
  refine (kid0 (by omega) (Heap.le.refl _)).go ?_
  rintro y0 h6 ⟨l6,Ry0⟩
  simp -implicitDefEqProofs (disch:=omega)[wrap64]
  refine (kid1 (by omega) l6).go ?_
  rintro y1 h7 ⟨l7,Ry1⟩
  have Ry0:=Ry0.le l7
  obtain⟨z0,rfl,_,_,_⟩:=Rep_Exq.1 Ry0
  obtain⟨z1,rfl,_,_,_⟩:=Rep_Exq.1 Ry1
  simp -implicitDefEqProofs (disch:=omega)[wrap64]
  refine bls_two (α:=Exq) Ry0 Ry1 rfl fun sl2 h8 l8 Rs2=>?_
  simp -implicitDefEqProofs (disch:=omega)[wrap64]
  refine (c_formula (by cases ng<;>exact⟨by decide,by decide⟩) Rs2 (by simp)).go ?_
  rintro r h9 ⟨l9,Rr⟩
  simp -implicitDefEqProofs (disch:=first|omega|(simp only[LnZ];omega))[wrap64,setC,Rr.aExq]
  exact RetK.keep (hk _ _ ⟨lb.trans (l6.trans (l7.trans (l8.trans l9))),by cases ng<;>simpa[c7,Fm.dual] using Rr⟩)
 by_cases c8:x.kind=8
 ·have hl:=hs.two (.inr (.inr (.inr c8)))
  rw[if_neg (by omega),if_neg (by omega),if_neg (by omega),if_neg (by omega)] at hk
  simp -implicitDefEqProofs (disch:=first|omega|(simp only[LnZ];omega))[wrap64,setC,q1,q2,q3,q4,of,oc,c3,c4,c5,c6,c7,c8]
  refine (c_normal_pick q4).go ?_
  rintro _ _ ⟨rfl,rfl⟩
  simp -implicitDefEqProofs (disch:=omega)[wrap64]
  refine (kid0 (by omega) (Heap.le.refl _)).go ?_
  rintro y0 h6 ⟨l6,Ry0⟩
  simp -implicitDefEqProofs (disch:=omega)[wrap64]
  refine (kid1 (by omega) l6).go ?_
  rintro y1 h7 ⟨l7,Ry1⟩
  have Ry0:=Ry0.le l7
  obtain⟨z0,rfl,_,_,_⟩:=Rep_Exq.1 Ry0
  obtain⟨z1,rfl,_,_,_⟩:=Rep_Exq.1 Ry1
  simp -implicitDefEqProofs (disch:=omega)[wrap64]
  refine bls_two (α:=Exq) Ry0 Ry1 rfl fun sl2 h8 l8 Rs2=>?_
  simp -implicitDefEqProofs (disch:=omega)[wrap64]
  refine (c_formula (by cases ng<;>exact⟨by decide,by decide⟩) Rs2 (by simp)).go ?_
  rintro r h9 ⟨l9,Rr⟩
  simp -implicitDefEqProofs (disch:=first|omega|(simp only[LnZ];omega))[wrap64,setC,Rr.aExq]
  exact RetK.keep (hk _ _ ⟨lb.trans (l6.trans (l7.trans (l8.trans l9))),by cases ng<;>simpa[c8,Fm.dual] using Rr⟩)
 by_cases c9:x.kind=9
 ·have hl:=hs.one (.inr (.inr (.inl c9)))
  rw[if_neg (by omega),if_neg (by omega),if_neg (by omega),if_pos (by omega)] at hk
  cases ng
  ·rw[if_pos (by simp[c9])] at hk
   simp -implicitDefEqProofs (disch:=first|omega|(simp only[LnZ];omega))[wrap64,setC,q1,q2,q3,q4,of,oc,c3,c4,c5,c6,c7,c8,c9]
   refine (c_formula i1 (Rn _) (by simp)).go ?_
   rintro t2 h6 ⟨l6,Rt2⟩
   obtain⟨z1,rfl,_,_,_⟩:=Rep_Exq.1 Rt2
   simp -implicitDefEqProofs (disch:=omega)[wrap64]
   refine (kid0 (by omega) l6).go ?_
   rintro y0 h7 ⟨l7,Ry0⟩
   have Rt2:=Rt2.le l7
   obtain⟨z0,rfl,_,_,_⟩:=Rep_Exq.1 Ry0
   simp -implicitDefEqProofs (disch:=omega)[wrap64]
   refine bls_two (α:=Exq) Rt2 Ry0 rfl fun sl2 h8 l8 Rs2=>?_
   simp -implicitDefEqProofs (disch:=omega)[wrap64]
   refine (c_formula ⟨by decide,by decide⟩ Rs2 (by simp)).go ?_
   rintro r h9 ⟨l9,Rr⟩
   simp -implicitDefEqProofs (disch:=first|omega|(simp only[LnZ];omega))[wrap64,setC,Rr.aExq]
   exact RetK.keep (hk _ _ ⟨lb.trans (l6.trans (l7.trans (l8.trans l9))),Rr⟩)
  ·rw[if_neg (by simp[c9])] at hk
   simp -implicitDefEqProofs (disch:=first|omega|(simp only[LnZ];omega))[wrap64,setC,q1,q2,q3,q4,of,oc,c3,c4,c5,c6,c7,c8,c9]
   refine (kid0 (by omega) (Heap.le.refl _)).go ?_
   rintro y0 h7 ⟨l7,Ry0⟩
   have Rf2:=Rf.le l7
   obtain⟨z0,rfl,_,_,_⟩:=Rep_Exq.1 Ry0
   simp -implicitDefEqProofs (disch:=omega)[wrap64]
   refine bls_two (α:=Exq) Rf2 Ry0 rfl fun sl2 h8 l8 Rs2=>?_
   simp -implicitDefEqProofs (disch:=omega)[wrap64]
   refine (c_formula ⟨by decide,by decide⟩ Rs2 (by simp)).go ?_
   rintro r h9 ⟨l9,Rr⟩
   simp -implicitDefEqProofs (disch:=first|omega|(simp only[LnZ];omega))[wrap64,setC,Rr.aExq]
   exact RetK.keep (hk _ _ ⟨lb.trans (l7.trans (l8.trans l9)),Rr⟩)
 by_cases c10:x.kind=10
 ·have hl:=hs.one (.inr (.inr (.inr c10)))
  rw[if_neg (by omega),if_neg (by omega),if_neg (by omega),if_pos (by omega)] at hk
  cases ng
  ·rw[if_neg (by simp[c10])] at hk
   simp -implicitDefEqProofs (disch:=first|omega|(simp only[LnZ];omega))[wrap64,setC,q1,q2,q3,q4,of,oc,c3,c4,c5,c6,c7,c8,c9,c10]
   refine (kid0 (by omega) (Heap.le.refl _)).go ?_
   rintro y0 h7 ⟨l7,Ry0⟩
   have Rf2:=Rf.le l7
   obtain⟨z0,rfl,_,_,_⟩:=Rep_Exq.1 Ry0
   simp -implicitDefEqProofs (disch:=omega)[wrap64]
   refine bls_two (α:=Exq) Rf2 Ry0 rfl fun sl2 h8 l8 Rs2=>?_
   simp -implicitDefEqProofs (disch:=omega)[wrap64]
   refine (c_formula ⟨by decide,by decide⟩ Rs2 (by simp)).go ?_
   rintro r h9 ⟨l9,Rr⟩
   simp -implicitDefEqProofs (disch:=first|omega|(simp only[LnZ];omega))[wrap64,setC,Rr.aExq]
   exact RetK.keep (hk _ _ ⟨lb.trans (l7.trans (l8.trans l9)),Rr⟩)
  ·rw[if_pos (by simp[c10])] at hk
   simp -implicitDefEqProofs (disch:=first|omega|(simp only[LnZ];omega))[wrap64,setC,q1,q2,q3,q4,of,oc,c3,c4,c5,c6,c7,c8,c9,c10]
   refine (c_formula i1 (Rn _) (by simp)).go ?_
   rintro t2 h6 ⟨l6,Rt2⟩
   obtain⟨z1,rfl,_,_,_⟩:=Rep_Exq.1 Rt2
   simp -implicitDefEqProofs (disch:=omega)[wrap64]
   refine (kid0 (by omega) l6).go ?_
   rintro y0 h7 ⟨l7,Ry0⟩
   have Rt2:=Rt2.le l7
   obtain⟨z0,rfl,_,_,_⟩:=Rep_Exq.1 Ry0
   simp -implicitDefEqProofs (disch:=omega)[wrap64]
   refine bls_two (α:=Exq) Rt2 Ry0 rfl fun sl2 h8 l8 Rs2=>?_
   simp -implicitDefEqProofs (disch:=omega)[wrap64]
   refine (c_formula ⟨by decide,by decide⟩ Rs2 (by simp)).go ?_
   rintro r h9 ⟨l9,Rr⟩
   simp -implicitDefEqProofs (disch:=first|omega|(simp only[LnZ];omega))[wrap64,setC,Rr.aExq]
   exact RetK.keep (hk _ _ ⟨lb.trans (l6.trans (l7.trans (l8.trans l9))),Rr⟩)
 have c12:x.kind=1∨x.kind=2:=by omega
 rw[if_pos c12] at hk
 have Rlf:Rep h5 (.agg #[.int .i64 x.kind,.int .i64 x.val,.slice none 0 0]) (Exq.mk x.kind x.val []):=Rep_Exq.2 ⟨_,rfl,k1,k2,Rn _⟩
 have Flf:=Rlf.aExq
 cases ng
 ·simp -implicitDefEqProofs (disch:=first|omega|(simp only[LnZ];omega))[wrap64,setC,q1,q2,q3,q4,of,oc,c3,c4,c5,c6,c7,c8,c9,c10]
  exact RetK.keep (hk _ _ ⟨lb,Rlf⟩)
 ·simp -implicitDefEqProofs (disch:=first|omega|(simp only[LnZ];omega))[wrap64,setC,q1,q2,q3,q4,of,oc,c3,c4,c5,c6,c7,c8,c9,c10]
  refine bls_one (α:=Exq) Rlf rfl fun sl2 h8 l8 Rs2=>?_
  simp -implicitDefEqProofs (disch:=omega)[wrap64]
  refine (c_formula i3 Rs2 (by simp)).go ?_
  rintro r h9 ⟨l9,Rr⟩
  simp -implicitDefEqProofs (disch:=first|omega|(simp only[LnZ];omega))[wrap64,setC,Rr.aExq]
  exact RetK.keep (hk _ _ ⟨lb.trans (l8.trans l9),Rr⟩)
theorem c_Formula_normalForm {h:Heap}{v:Value}{x:Exq}(R:Rep h v x) (hx:Fm.Ok x):CallE Tryz.prog fn_impl_Formula_normalForm [v] h (fun u h'=>∃g,u=.tuple #[g,.bool (decide (Fm.Ok x∧Fm.Ok (Fm.push x false)))]∧h.le h'∧Rep h' g (Fm.nfR x)):=by
 have FX:=R.aExq
 refine CallE.gen fun k hk=>EN_impl_Formula_normalForm rfl ?_
 simp -implicitDefEqProofs (disch:=first|omega|(simp only[LnZ];omega))[wrap64,FX]
 refine (c_normal x hx.1 R).go ?_
 rintro g h1 ⟨l1,Rg⟩
 have FG:=Rg.aExq
 simp -implicitDefEqProofs (disch:=first|omega|(simp only[LnZ];omega))[wrap64,FG]
 refine (c_FormulaValid Rg).go ?_
 rintro _ h2 ⟨l2,rfl⟩
 by_cases q:Fm.Ok (Fm.push x false)
 ·simp -implicitDefEqProofs (disch:=first|omega|(simp only[LnZ];omega))[wrap64,q,FG]
  exact RetK.keep (hk _ _ ⟨_,by rw[decide_eq_true ⟨hx,q⟩],l1.trans l2,by rw[Fm.nfR,if_pos ⟨hx,q⟩];exact Rg.le l2⟩)
 ·simp -implicitDefEqProofs (disch:=first|omega|(simp only[LnZ];omega))[wrap64,q,FG]
  exact RetK.keep (hk _ _ ⟨_,by rw[decide_eq_false (fun hh=>q hh.2)],l1.trans l2,by rw[Fm.nfR,if_neg (fun hh=>q hh.2)];exact rep_zero⟩)
theorem c_NormalForm {h:Heap}{v:Value}{x:Exq}(R:Rep h v x):CallE Tryz.prog fn_impl_NormalForm [v] h (fun u h'=>∃g,u=.tuple #[g,.bool (decide (Fm.Ok x∧Fm.Ok (Fm.push x false)))]∧h.le h'∧Rep h' g (Fm.nfR x)):=by
 have FX:=R.aExq
 refine CallE.gen fun k hk=>EN_impl_NormalForm rfl ?_
 simp -implicitDefEqProofs (disch:=first|omega|(simp only[LnZ];omega))[wrap64,FX]
 refine (c_FormulaValid R).go ?_
 rintro _ h1 ⟨l1,rfl⟩
 by_cases q:Fm.Ok x
 case neg=>
  simp -implicitDefEqProofs (disch:=first|omega|(simp only[LnZ];omega))[wrap64,q]
  exact RetK.keep (hk _ _ ⟨_,by rw[decide_eq_false (fun hh=>q hh.1)],l1,by rw[Fm.nfR,if_neg (fun hh=>q hh.1)];exact rep_zero⟩)
 simp -implicitDefEqProofs (disch:=first|omega|(simp only[LnZ];omega))[wrap64,q,FX]
 refine (c_Formula_normalForm (R.le l1) q).go ?_
 rintro _ h2 ⟨g,rfl,l2,Rg⟩
 simp -implicitDefEqProofs (disch:=first|omega|(simp only[LnZ];omega))[wrap64,Rg.aExq]
 exact RetK.keep (hk _ _ ⟨g,by simp,l1.trans l2,Rg⟩)
theorem c_formulaAt_1 {h:Heap}{u:Value}{b:Nat}{x y:Exq}(Ru:Rep h u y) {v:Value}(Rv:Rep h v x) (hb:hload h (some (.pointer (some ⟨b,0,none⟩))) (some 3)=some v):CallE Tryz.prog fn_impl_formulaAt_1 [u,.pointer (some ⟨b,0,none⟩)] h (fun r h'=>h'=h∧r=.bool (decide (y=x))):=by
 have FU:=Ru.aExq
 refine CallE.gen fun k hk=>EN_impl_formulaAt_1 rfl ?_
 simp -implicitDefEqProofs (disch:=first|omega|(simp only[LnZ];omega))[wrap64,FU,hb,Rv.aExq]
 refine (c_FormulaSame Ru Rv).go ?_
 rintro _ _ ⟨rfl,rfl⟩
 simp -implicitDefEqProofs (disch:=omega)[wrap64]
 exact RetK.keep (hk _ _ ⟨rfl,rfl⟩)
theorem c_IndexFunc_eq {h:Heap}{a fv:Value}{l:List Exq}{x:Exq}(Ra:Rep h a l) {f:FuncId}{c1 c2:List Value}(hf:fnOf fv=some (f,c1,c2))
  (hp:∀(i:Nat) (hi:i<l.length) (u:Value),Rep h u l[i]→CallE Tryz.prog f (c1++u::c2) h (fun r h'=>h'=h∧r=.bool (decide (l[i]=x)))) :
  CallE Tryz.prog fn_slices_IndexFunc_S_impl_Formula_impl_Formula [a,fv] h (fun r h'=>h'=h∧r=.int .i64 (Fm.fx l x)):=by
 refine CallE.gen fun k hk=>EN_slices_IndexFunc_S_impl_Formula_impl_Formula rfl ?_
 have hL:=Ra.lt
 simp -implicitDefEqProofs (disch:=first|omega|(simp only[LnZ];omega))[wrap64,Ra.len]
 refine wp_count l.length (fun i e h'=>e=[some a,some fv,none,none,some (.int .i64 l.length),some (.int .i64 i)]∧h'=h∧∀(j:Nat) (hj:j<l.length),j<i→l[j]≠x) ⟨rfl,rfl,fun j _ hj=>absurd hj (Nat.not_lt_zero j)⟩ ?_
 rintro J i _ _ hJ hi ⟨rfl,rfl,hall⟩
 simp -implicitDefEqProofs (disch:=omega)[wrap64]
 refine IteW.mk (fun hlt=>?_) (fun hge=>?_)
 ·have hlx:i<l.length:=by omega
  obtain⟨u,hu,Ru⟩:=Ra.ld hlx
  change hload _ (some (elp 3 a i)) (some 3)=some u at hu
  simp -implicitDefEqProofs (disch:=first|omega|(simp only[LnZ];omega))[wrap64,Ra.X (n:=3) rfl,hu,hf]
  refine (hp i hlx u Ru).go ?_
  rintro _ _ ⟨rfl,rfl⟩
  by_cases e:l[i]=x
  ·simp -implicitDefEqProofs (disch:=first|omega|(simp only[LnZ];omega))[wrap64,e]
   exact RetK.keep (hk _ _ ⟨rfl,by rw[Fm.fx_at hlx e fun j hj hji=>hall j hj hji]⟩)
  ·simp -implicitDefEqProofs (disch:=first|omega|(simp only[LnZ];omega))[wrap64,e]
   refine hJ _ _ hlx ⟨rfl,rfl,fun j hj hji=>?_⟩
   by_cases hji2:j=i
   ·subst hji2;exact e
   ·exact hall j hj (by omega)
 ·simp -implicitDefEqProofs (disch:=omega)[wrap64]
  refine RetK.keep (hk _ _ ⟨rfl,?_⟩)
  rw[Fm.fx_not]
  intro hm
  obtain⟨j,hj,e⟩:=List.mem_iff_getElem.1 hm
  exact hall j hj (by omega) e
theorem c_formulaAt {h:Heap}{a v:Value}{l:List Exq}{x:Exq}(Ra:Rep h a l) (Rv:Rep h v x):CallE Tryz.prog fn_impl_formulaAt [a,v] h (fun r h'=>h.le h'∧r=.int .i64 (Fm.fx l x)):=by
 have FV:=Rv.aExq
 obtain⟨w,rfl,k1,k2,R1⟩:=Rep_Exq.1 Rv
 refine CallE.gen fun k hk=>EN_impl_formulaAt rfl ?_
 simp -implicitDefEqProofs (disch:=first|omega|(simp only[LnZ];omega))[wrap64,FV]
 refine HS.init.alloc rfl fun b h1 H=>?_
 have l1:=H.base
 have hb:hload h1 (some (.pointer (some ⟨b,0,none⟩))) (some 3)=some (.agg #[.int .i64 x.kind,.int .i64 x.val,w]):=by
  have:=H.bxlds (o:=0) (n:=3) (by simp)
  simpa using this
 simp -implicitDefEqProofs (disch:=omega)[wrap64]
 refine (c_IndexFunc_eq (x:=x) (Ra.le l1) (f:=fn_impl_formulaAt_1) (c1:=[]) (c2:=[.pointer (some ⟨b,0,none⟩)]) rfl fun i hi u Ru=>c_formulaAt_1 Ru (Rv.le l1) hb).go ?_
 rintro _ _ ⟨rfl,rfl⟩
 simp -implicitDefEqProofs (disch:=omega)[wrap64]
 exact RetK.keep (hk _ _ ⟨l1,rfl⟩)
theorem c_holds {B:List Exq}{s:Nat}(hB:∀y∈B,Fm.bas y=true) (hs:s<4611686018427387904):∀(x:Exq) {n:Nat}{h:Heap}{v bv:Value}{bt:Nat},Fm.Cl B n x→Rep h v x→Rep h bv B→hload h (some (.pointer (some ⟨bt,0,none⟩))) none=some bv →
  CallE Tryz.prog fn_impl_translator_holds [.pointer (some ⟨bt,0,none⟩),v,.int .i64 s] h (fun u h'=>h.le h'∧u=.bool (Fm.val B s x)):=by
 refine Exq.ind fun x ih n h v bv bt hc R RB ht=>?_
 obtain⟨n,rfl⟩:=hc.ex
 have hsh:=hc.shp
 obtain⟨hnd,hk8,h3,hbB,hkids⟩:=hc
 have FX:=R.aExq
 obtain⟨w,rfl,k1,k2,R1⟩:=Rep_Exq.1 R
 have hv:=Fm.val_eq (B:=B) (s:=s) x
 refine CallE.gen fun k hk=>EN_impl_translator_holds rfl ?_
 rw[hv] at hk
 simp -implicitDefEqProofs (disch:=first|omega|(simp only[LnZ];omega))[wrap64,FX,ht]
 refine (c_formulaAt RB R).go ?_
 rintro _ h1 ⟨l1,rfl⟩
 by_cases hm:x∈B
 ·obtain⟨i,hi,e1,e2⟩:=Fm.fx_mem hm
  have hb:=of_decide_eq_true (hB x hm)
  rw[if_neg (by omega),if_neg (by omega),if_neg (by omega),if_neg (by omega),e1] at hk
  have hBl:=RB.lt
  have hi0:¬(i:Int)<0:=by omega
  have hq:=has_eq (s:=s) (i:=(i:Int)) hs ⟨by omega,by omega⟩
  have hw:IntKind.u64.wrap (i:Int)=i:=u64_pos (by omega) (by omega)
  rw[hw] at hq
  cases e:Fm.has s i with
  | true=>
   have q1:=hq.2 e
   rw[e] at hk
   simp -implicitDefEqProofs (disch:=first|omega|(simp only[LnZ];omega))[wrap64,e1,hi0,hw,q1]
   exact RetK.keep (hk _ _ ⟨l1,rfl⟩)
  | false=>
   have q1:¬_:=fun hh=>by have:=hq.1 hh;rw[e] at this;simp at this
   rw[e] at hk
   simp -implicitDefEqProofs (disch:=first|omega|(simp only[LnZ];omega))[wrap64,e1,hi0,hw,q1]
   exact RetK.keep (hk _ _ ⟨l1,rfl⟩)
 have hnb:¬(x.kind=2∨x.kind=6∨x.kind=7∨x.kind=8):=fun hh=>hm (hbB (decide_eq_true hh))
 have hkd:=hnd.kind
 have e1:=Fm.fx_not hm
 have ht1:=hload_le l1 ht
 have R1:=R1.le l1
 have kid:∀{j:Nat}(hj:j<x.kids.length),∃u,hload h1 (some (elp 3 w j)) (some 3)=some u∧Rep h1 u x.kids[j]∧Fm.kv B s x j=Fm.val B s x.kids[j]:=fun {j} hj=>by
  obtain⟨u,hu,Ru⟩:=R1.ld hj
  exact⟨u,hu,Ru,Fm.kv_at hj⟩
 by_cases c1:x.kind=1
 ·rw[if_pos c1] at hk
  simp -implicitDefEqProofs (disch:=first|omega|(simp only[LnZ];omega))[wrap64,e1,c1]
  exact RetK.keep (hk _ _ ⟨l1,rfl⟩)
 rw[if_neg c1] at hk
 by_cases c3:x.kind=3
 ·have hl:=hsh.one (.inl c3)
  obtain⟨u,hu,Ru,hkv⟩:=kid (j:=0) (by omega)
  change hload h1 (some (elp 3 w 0)) (some 3)=some u at hu
  rw[if_pos c3] at hk
  simp -implicitDefEqProofs (disch:=first|omega|(simp only[LnZ];omega))[wrap64,e1,c3,R1.X (n:=3) rfl,hu,Ru.aExq]
  refine (ih _ (List.getElem_mem (by omega)) (hkids _ (List.getElem_mem (by omega))) Ru (RB.le l1) ht1).go ?_
  rintro _ h2 ⟨l2,rfl⟩
  simp -implicitDefEqProofs (disch:=omega)[wrap64]
  exact RetK.keep (hk _ _ ⟨l1.trans l2,by rw[← hkv]⟩)
 rw[if_neg c3] at hk
 by_cases c4:x.kind=4
 ·have hl:=hsh.two (.inl c4)
  obtain⟨u,hu,Ru,hkv⟩:=kid (j:=0) (by omega)
  obtain⟨u1,hu1,Ru1,hkv1⟩:=kid (j:=1) (by omega)
  change hload h1 (some (elp 3 w 0)) (some 3)=some u at hu
  change hload h1 (some (elp 3 w 1)) (some 3)=some u1 at hu1
  rw[if_pos c4,hkv,hkv1] at hk
  simp -implicitDefEqProofs (disch:=first|omega|(simp only[LnZ];omega))[wrap64,e1,c3,c4,R1.X (n:=3) rfl,hu,Ru.aExq]
  refine (ih _ (List.getElem_mem (by omega)) (hkids _ (List.getElem_mem (by omega))) Ru (RB.le l1) ht1).go ?_
  rintro _ h2 ⟨l2,rfl⟩
  cases e:Fm.val B s (x.kids[0]'(by omega)) with
  | false=>
   rw[e] at hk
   simp -implicitDefEqProofs (disch:=omega)[wrap64]
   exact RetK.keep (hk _ _ ⟨l1.trans l2,rfl⟩)
  | true=>
   rw[e] at hk
   have hu2:=hload_le l2 hu1
   simp -implicitDefEqProofs (disch:=first|omega|(simp only[LnZ];omega))[wrap64,(R1.le l2).X (n:=3) rfl,hu2,Ru1.aExq]
   refine (ih _ (List.getElem_mem (by omega)) (hkids _ (List.getElem_mem (by omega))) (Ru1.le l2) (RB.le (l1.trans l2)) (hload_le l2 ht1)).go ?_
   rintro _ h3 ⟨l3,rfl⟩
   simp -implicitDefEqProofs (disch:=omega)[wrap64]
   exact RetK.keep (hk _ _ ⟨l1.trans (l2.trans l3),by simp⟩)
 rw[if_neg c4] at hk
 by_cases c5:x.kind=5
 ·have hl:=hsh.two (.inr (.inl c5))
  obtain⟨u,hu,Ru,hkv⟩:=kid (j:=0) (by omega)
  obtain⟨u1,hu1,Ru1,hkv1⟩:=kid (j:=1) (by omega)
  change hload h1 (some (elp 3 w 0)) (some 3)=some u at hu
  change hload h1 (some (elp 3 w 1)) (some 3)=some u1 at hu1
  rw[if_pos c5,hkv,hkv1] at hk
  simp -implicitDefEqProofs (disch:=first|omega|(simp only[LnZ];omega))[wrap64,e1,c3,c4,c5,R1.X (n:=3) rfl,hu,Ru.aExq]
  refine (ih _ (List.getElem_mem (by omega)) (hkids _ (List.getElem_mem (by omega))) Ru (RB.le l1) ht1).go ?_
  rintro _ h2 ⟨l2,rfl⟩
  cases e:Fm.val B s (x.kids[0]'(by omega)) with
  | true=>
   rw[e] at hk
   simp -implicitDefEqProofs (disch:=omega)[wrap64]
   exact RetK.keep (hk _ _ ⟨l1.trans l2,rfl⟩)
  | false=>
   rw[e] at hk
   have hu2:=hload_le l2 hu1
   simp -implicitDefEqProofs (disch:=first|omega|(simp only[LnZ];omega))[wrap64,(R1.le l2).X (n:=3) rfl,hu2,Ru1.aExq]
   refine (ih _ (List.getElem_mem (by omega)) (hkids _ (List.getElem_mem (by omega))) (Ru1.le l2) (RB.le (l1.trans l2)) (hload_le l2 ht1)).go ?_
   rintro _ h3 ⟨l3,rfl⟩
   simp -implicitDefEqProofs (disch:=omega)[wrap64]
   exact RetK.keep (hk _ _ ⟨l1.trans (l2.trans l3),by simp⟩)
 omega
theorem c_subs_1 {g:Heap}{bV bO:Nat}{fv:Value}(hbv:hload g (some (.pointer (some ⟨bV,0,none⟩))) none=some fv) (hfv:fnOf fv=some (fn_impl_Formula_subformulas_1,[],[.pointer (some ⟨bV,0,none⟩),.pointer (some ⟨bO,0,none⟩)])) :
  ∀(x:Exq) {h:Heap}{v vs:Value}{O:List Exq},Sz.sz x≤1048576→O.length+x.nod≤1048576→Rep g v x→HS g [bx bO [vs],ow vs (O.map Mix.new)] h →
  CallE Tryz.prog fn_impl_Formula_subformulas_1 [v,.pointer (some ⟨bV,0,none⟩),.pointer (some ⟨bO,0,none⟩)] h (fun _ h'=>∃vs',HS g [bx bO [vs'],ow vs' ((Fm.subs x O).map Mix.new)] h'):=by
 refine Exq.ind fun x ih h v vs O hs hn R H=>?_
 have FX:=R.aExq
 obtain⟨w,rfl,k1,k2,R1⟩:=Rep_Exq.1 R
 have hnd:=x.nod_eq
 have hkl:=R1.lt
 have hlen:∀i,i≤x.kids.length→((x.kids.take i).foldl (fun o y=>Fm.subs y o) O).length+Exq.nods (x.kids.drop i)≤O.length+Exq.nods x.kids:=by
  intro i hi
  have h1:=Fm.subsL_len (x.kids.take i) (fun y _ o=>Fm.subs_len y o) O
  have h2:Exq.nods (x.kids.take i)+Exq.nods (x.kids.drop i)=Exq.nods x.kids:=by
   have key:∀a b:List Exq,Exq.nods a+Exq.nods b=Exq.nods (a++b):=by
    intro a b
    induction a with
    | nil=>simp[Exq.nods]
    | cons y a ih=>simp only[List.cons_append,Exq.nods];omega
   rw[key,List.take_append_drop]
  omega
 refine CallE.gen fun k hk=>EN_impl_Formula_subformulas_1 rfl ?_
 simp -implicitDefEqProofs (disch:=first|omega|(simp only[LnZ];omega))[wrap64,setC,FX,R1.len]
 refine wp_count x.kids.length (fun i e h'=>e=[none,some (.pointer (some ⟨bV,0,none⟩)),some (.pointer (some ⟨bO,0,none⟩)),some (.agg #[.int .i64 x.kind,.int .i64 x.val,w]),none,some w,some (.int .i64 x.kids.length),some (.int .i64 i)] ∧
  ∃vs,HS g [bx bO [vs],ow vs (((x.kids.take i).foldl (fun o y=>Fm.subs y o) O).map Mix.new)] h') ⟨by simp,vs,by simpa using H⟩ ?_
 clear H
 rintro J i _ h1 hJ hi ⟨rfl,vs,H⟩
 simp -implicitDefEqProofs (disch:=omega)[wrap64]
 refine IteW.mk (fun hlt=>?_) (fun hge=>?_)
 ·have hlx:i<x.kids.length:=by omega
  obtain⟨u,hu,Ru⟩:=R1.ld hlx
  have hu2:=hload_le H.base hu
  have hb2:=hload_le H.base hbv
  change hload _ (some (elp 3 w i)) (some 3)=some u at hu2
  have hll:=hlen i hi
  have hdr:Exq.nods (x.kids.drop i)=x.kids[i].nod+Exq.nods (x.kids.drop (i+1)):=by rw[List.drop_eq_getElem_cons hlx,Exq.nods]
  simp -implicitDefEqProofs (disch:=first|omega|(simp only[LnZ];omega))[wrap64,R1.X (n:=3) rfl,hu2,hb2,Ru.aExq,setC,hfv]
  refine (ih _ (List.getElem_mem hlx) (by have:=sz_kid hlx;omega) (by omega) Ru H).go ?_
  clear H
  rintro _ h2 ⟨vs',H⟩
  simp -implicitDefEqProofs (disch:=omega)[wrap64]
  refine hJ _ _ hlx ⟨by simp,vs',?_⟩
  rw[List.take_add_one,List.getElem?_eq_getElem hlx,List.foldl_append]
  exact H
 rw[List.take_of_length_le (by omega)] at H
 have hll:=hlen x.kids.length (Nat.le_refl _)
 rw[List.take_length] at hll
 have hse:=Fm.subs_eq x O
 generalize x.kids.foldl (fun o y=>Fm.subs y o) O=Q at *
 have HM:=H.sw1.mixed
 simp -implicitDefEqProofs (disch:=first|omega|(simp only[LnZ];omega))[wrap64,H.bxld0,FX]
 refine (c_formulaAt HM.rep (R.on H)).go ?_
 rintro _ h2 ⟨l2,rfl⟩
 have H:=H.le l2
 clear HM
 by_cases hm:x∈Q
 ·have hf:¬Fm.fx Q x<0:=fun hh=>Fm.fx_neg.1 hh hm
  simp -implicitDefEqProofs (disch:=first|omega|(simp only[LnZ];omega))[wrap64,hf]
  refine RetK.keep (hk _ _ ⟨vs,?_⟩)
  rw[hse,Fm.ins,if_pos hm]
  exact H
 ·have hf:Fm.fx Q x<0:=Fm.fx_neg.2 hm
  rw[Fm.ins,if_neg hm] at hse
  simp -implicitDefEqProofs (disch:=first|omega|(simp only[LnZ];omega))[wrap64,hf,H.bxld0,FX,H.sw1.rep.len,setC]
  refine (c_Formula_copyOf x (R.on H) hs).go ?_
  intro u h3 G
  have H:=G.app H
  have FU:=G.rep.aExq
  simp -implicitDefEqProofs (disch:=first|omega|(simp only[LnZ];omega))[wrap64,H.sw1.bxld0]
  refine HS.appO (α:=Mix Exq) (bytes:=40) ((H.sw2).rawO (c:=[.int .i64 0,.int .i64 0,.slice none 0 0]) (y:=Exq.zero) (h':=h) (repExq.2 ⟨_,rfl,i64_0,i64_0,Own_nils.rep.le fun _ _ h=>by simp[Heap.nil] at h⟩)) rfl rfl rfl rfl rfl (by simp;omega) (by simp;omega) fun vs1 h4 H=>?_
  have hia:=H.rep.X (n:=3) (α:=Mix Exq) rfl
  simp -implicitDefEqProofs (disch:=first|omega|(simp only[LnZ];omega))[wrap64,hia]
  have H:HS g [ow u (Mix.new x),ow vs1 (Q.map Mix.new++[Mix.raw [.int .i64 0,.int .i64 0,.slice none 0 0]]),bx bO [vs]] h4:=H.sw1.newO
  have hset:(Q.map Mix.new++[Mix.raw [.int .i64 0,.int .i64 0,.slice none 0 0]]).set Q.length (Mix.new x)=(Q++[x]).map Mix.new:=by
   rw[List.set_append_right _ _ (by simp)]
   simp
  constructor
  ·simp -implicitDefEqProofs (disch:=omega)[wrap64]
   refine HS.store (i:=Q.length) H (by simp) rfl rfl rfl fun h5 H=>?_
   rw[hset] at H
   simp -implicitDefEqProofs (disch:=omega)[wrap64]
   refine H.sw1.bxst (u:=vs1) rfl rfl (by rw[H.rep.cells];rfl) (by rw[H.rep.cells];simp[H.rep.one]) (by simp[H.rep.cells]) fun h6 H=>?_
   simp -implicitDefEqProofs (disch:=omega)[wrap64]
   refine RetK.keep (hk _ _ ⟨vs1,?_⟩)
   rw[hse]
   simpa[setC,H.sw1.rep.cells] using H
  ·simp -implicitDefEqProofs (disch:=omega)[wrap64]
   refine H.sw2.bxst (u:=vs1) rfl rfl (by rw[H.sw1.rep.cells];rfl) (by rw[H.sw1.rep.cells];simp[H.sw1.rep.one]) (by simp[H.sw1.rep.cells]) fun h6 H=>?_
   simp -implicitDefEqProofs (disch:=omega)[wrap64]
   refine HS.store (i:=Q.length) H.bk2 (by simp) rfl rfl rfl fun h5 H=>?_
   rw[hset] at H
   simp -implicitDefEqProofs (disch:=omega)[wrap64]
   refine RetK.keep (hk _ _ ⟨vs1,?_⟩)
   rw[hse]
   simpa[setC,H.rep.cells] using H.sw1
theorem c_subformulas {x:Exq}{h:Heap}{v:Value}(hs:Sz.sz x≤1048576) (hn:x.nod≤1048576) (R:Rep h v x):CallE Tryz.prog fn_impl_Formula_subformulas [v] h (fun u h'=>h.le h'∧Rep h' u (Fm.subs x [])):=by
 have FX:=R.aExq
 refine CallE.gen fun k hk=>EN_impl_Formula_subformulas rfl ?_
 simp -implicitDefEqProofs (disch:=first|omega|(simp only[LnZ];omega))[wrap64,setC,FX]
 refine HS.init.alloc rfl fun bO h1 H=>?_
 simp -implicitDefEqProofs (disch:=omega)[wrap64]
 refine H.alloc rfl fun bV h2 H=>?_
 simp -implicitDefEqProofs (disch:=omega)[wrap64]
 obtain⟨fv,hfv⟩:∃fv,fv=Value.func (.func fn_impl_Formula_subformulas_1) #[] #[.pointer (some ⟨bV,0,none⟩),.pointer (some ⟨bO,0,none⟩)]:=⟨_,rfl⟩
 have hfc:fv.cells = #[fv]:=by rw[hfv];rfl
 have hf1:fv.oneCell'=true:=by rw[hfv];rfl
 have hfo:fnOf fv=some (fn_impl_Formula_subformulas_1,[],[.pointer (some ⟨bV,0,none⟩),.pointer (some ⟨bO,0,none⟩)]):=by rw[hfv];rfl
 rw[← hfv]
 refine H.bxst (u:=fv) rfl rfl (by rw[hfc];rfl) (by rw[hfc];simp[hf1]) (by simp) fun h3 H=>?_
 have H:HS h [bx bV [fv],bx bO [.slice none 0 0]] h3:=by simpa[setC,hfc] using H
 simp -implicitDefEqProofs (disch:=first|omega|(simp only[LnZ];omega))[wrap64,H.bxld0,hfo,FX]
 have H:=(H.nil_ow (α:=Mix Exq)).sw1
 obtain⟨g1,H1,H2⟩:=HS.rebase (Δ:=[bx bO [.slice none 0 0],ow (.slice none 0 0) ([]:List (Mix Exq))]) (Γ:=[bx bV [fv]]) H.bk2.sw1
 have lb:=H1.base
 refine (c_subs_1 H1.bxld0 hfo x (O:=[]) hs (by simpa using hn) (R.le lb) H2).go ?_
 clear H H2
 rintro _ h4 ⟨vs,H⟩
 simp -implicitDefEqProofs (disch:=first|omega|(simp only[LnZ];omega))[wrap64,H.bxld0]
 refine (c_Clip_impl_Formula H.sw1).go ?_
 intro u h5 H
 simp -implicitDefEqProofs (disch:=omega)[wrap64]
 exact RetK.keep (hk _ _ ⟨lb.trans H.base,H.mixed.rep⟩)
theorem c_basics {x:Exq}{h:Heap}{v:Value}(hs:Sz.sz x≤1048576) (hn:x.nod≤64) (R:Rep h v x):CallE Tryz.prog fn_impl_basics [v] h (fun u h'=>h.le h'∧Rep h' u ((Fm.subs x []).filter Fm.bas)):=by
 have FX:=R.aExq
 have hsl:=Fm.subs_len x []
 refine CallE.gen fun k hk=>EN_impl_basics rfl ?_
 simp -implicitDefEqProofs (disch:=first|omega|(simp only[LnZ];omega))[wrap64,setC,FX]
 refine (c_subformulas hs (by omega) R).go ?_
 intro ls h3 ⟨l3,RL⟩
 generalize Fm.subs x []=S at *
 simp only[List.length_nil,Nat.zero_add] at hsl
 simp -implicitDefEqProofs (disch:=first|omega|(simp only[LnZ];omega))[wrap64,RL.len]
 refine wp_count S.length (fun i e h'=>∃(o:Value) (N:List (Mix Exq)),e=[none,none,none,some o,none,some ls,some (.int .i64 S.length),some (.int .i64 i)]∧HS h3 [ow o N] h'∧Raws h3 ((S.take i).filter Fm.bas) N) ⟨.slice none 0 0,[],by simp,HS.init.nil_ow,by simpa using Raws.nil⟩ ?_
 rintro J i _ h4 hJ hi ⟨o,N,rfl,H,hN⟩
 simp -implicitDefEqProofs (disch:=omega)[wrap64]
 refine IteW.mk (fun hlt=>?_) (fun hge=>?_)
 ·have hlx:i<S.length:=by omega
  obtain⟨u,hu,Ru⟩:=RL.ld hlx
  have hu':=hload_le H.base hu
  change hload _ (some (elp 3 ls i)) (some 3)=some u at hu'
  have hX:=RL.X (n:=3) rfl
  have FU:=Ru.aExq
  have hft:=flt_take (p:=Fm.bas) hlx
  have hNl:N.length≤64:=by
   rw[hN.len]
   have:=flt_len (p:=Fm.bas) (l:=S) (i:=i)
   omega
  obtain⟨wq,rfl,kk1,kk2,Rq⟩:=Rep_Exq.1 Ru
  have hcs:Ty.rep h3 [.int .i64 S[i].kind,.int .i64 S[i].val,wq] S[i]:=repExq.2 ⟨wq,rfl,kk1,kk2,Rq⟩
  have hOq:=Rq.one
  have hyes:Fm.bas S[i]=true→∀(o':Value) (h5:Heap),HS h3 [ow o' (N++[Mix.raw [.int .i64 S[i].kind,.int .i64 S[i].val,wq]])] h5→J [none,none,none,some o',none,some ls,some (.int .i64 S.length),some (.int .i64 ((i+1:Nat):Int))] h5:=fun hb o' h5 H=>
   hJ _ _ hlx ⟨o',_,by simp,H,by rw[hft,hb,if_pos rfl];exact hN.push hcs⟩
  have hno:Fm.bas S[i]=false→J [none,none,none,some o,none,some ls,some (.int .i64 S.length),some (.int .i64 ((i+1:Nat):Int))] h4:=fun hb=>
   hJ _ _ hlx ⟨o,N,by simp,H,by rw[hft,hb];simpa using hN⟩
  have hbd:Fm.bas S[i]=decide (S[i].kind=2∨S[i].kind=6∨S[i].kind=7∨S[i].kind=8):=rfl
  obtain⟨kd,hkd⟩:∃kd,S[i].kind=kd:=⟨_,rfl⟩
  rw[hkd] at hcs hyes hbd hu'
  by_cases c2:kd=2
  ·subst c2
   simp -implicitDefEqProofs (disch:=first|omega|(simp only[LnZ];omega))[wrap64,hX,hu',setC,hOq]
   refine HS.appO (α:=Mix Exq) (bytes:=40) (H.rawO hcs) rfl rfl rfl rfl rfl (by omega) (by omega) fun o' h5 H=>?_
   simp -implicitDefEqProofs (disch:=omega)[wrap64]
   simpa using hyes (by rw[hbd];simp) o' h5 H
  by_cases c6:kd=6
  ·subst c6
   simp -implicitDefEqProofs (disch:=first|omega|(simp only[LnZ];omega))[wrap64,hX,hu',setC,hOq]
   refine HS.appO (α:=Mix Exq) (bytes:=40) (H.rawO hcs) rfl rfl rfl rfl rfl (by omega) (by omega) fun o' h5 H=>?_
   simp -implicitDefEqProofs (disch:=omega)[wrap64]
   simpa using hyes (by rw[hbd];simp) o' h5 H
  by_cases c7:kd=7
  ·subst c7
   simp -implicitDefEqProofs (disch:=first|omega|(simp only[LnZ];omega))[wrap64,hX,hu',setC,hOq]
   refine HS.appO (α:=Mix Exq) (bytes:=40) (H.rawO hcs) rfl rfl rfl rfl rfl (by omega) (by omega) fun o' h5 H=>?_
   simp -implicitDefEqProofs (disch:=omega)[wrap64]
   simpa using hyes (by rw[hbd];simp) o' h5 H
  by_cases c8:kd=8
  ·subst c8
   simp -implicitDefEqProofs (disch:=first|omega|(simp only[LnZ];omega))[wrap64,hX,hu',setC,hOq]
   refine HS.appO (α:=Mix Exq) (bytes:=40) (H.rawO hcs) rfl rfl rfl rfl rfl (by omega) (by omega) fun o' h5 H=>?_
   simp -implicitDefEqProofs (disch:=omega)[wrap64]
   simpa using hyes (by rw[hbd];simp) o' h5 H
  simp -implicitDefEqProofs (disch:=first|omega|(simp only[LnZ];omega))[wrap64,hX,hu',setC,hOq,c2,c6,c7,c8]
  simpa using hno (by rw[hbd];simp[c2,c6,c7,c8])
 rw[List.take_of_length_le (by omega)] at hN
 simp -implicitDefEqProofs (disch:=omega)[wrap64]
 refine (c_Clip_impl_Formula H).go ?_
 intro u h5 H
 simp -implicitDefEqProofs (disch:=omega)[wrap64]
 exact RetK.keep (hk _ _ ⟨l3.trans H.base,H.rep.raws (hN.le H.base)⟩)
theorem c_BasicFormulas {h:Heap}{v:Value}{x:Exq}(R:Rep h v x):CallE Tryz.prog fn_impl_BasicFormulas [v] h (fun u h'=>∃w,u=.tuple #[w,.bool (decide (Fm.bOk x))]∧h.le h'∧Rep h' w (Fm.basR x)):=by
 have FX:=R.aExq
 have Rn:∀h,Rep h (.slice none 0 0) ([]:List Exq):=fun h=>Own_nils.rep.le fun _ _ h=>by simp[Heap.nil] at h
 refine CallE.gen fun k hk=>EN_impl_BasicFormulas rfl ?_
 simp -implicitDefEqProofs (disch:=first|omega|(simp only[LnZ];omega))[wrap64,FX]
 refine (c_NormalForm R).go ?_
 rintro _ h1 ⟨w,rfl,l1,Rg⟩
 have FW:=Rg.aExq
 by_cases q1:Fm.Ok x∧Fm.Ok (Fm.push x false)
 case neg=>
  simp -implicitDefEqProofs (disch:=first|omega|(simp only[LnZ];omega))[wrap64,q1,FW,setC]
  exact RetK.keep (hk _ _ ⟨_,by rw[decide_eq_false (fun hh=>q1 hh.1)],l1,by rw[Fm.basR,if_neg (fun hh=>q1 hh.1)];exact Rn _⟩)
 rw[Fm.nfR,if_pos q1] at Rg
 simp -implicitDefEqProofs (disch:=first|omega|(simp only[LnZ];omega))[wrap64,q1,FW,setC]
 refine (c_basics (by have:=q1.2.sz;omega) (by have:=q1.2.2;omega) Rg).go ?_
 intro o h2 ⟨l2,Ro⟩
 have hbd:Fm.basics x=(Fm.subs (Fm.push x false) []).filter Fm.bas:=rfl
 rw[← hbd] at Ro
 by_cases q2:(Fm.basics x).length≤5
 ·have bok:Fm.bOk x:=⟨q1,q2⟩
  have hlt:¬(5:Int)<(Fm.basics x).length:=by omega
  simp -implicitDefEqProofs (disch:=first|omega|(simp only[LnZ];omega))[wrap64,Ro.len,hlt]
  exact RetK.keep (hk _ _ ⟨o,by rw[decide_eq_true bok],l1.trans l2,by rw[Fm.basR,if_pos bok];exact Ro⟩)
 ·have nok:¬Fm.bOk x:=fun hh=>q2 hh.2
  have hlt:(5:Int)<(Fm.basics x).length:=by omega
  simp -implicitDefEqProofs (disch:=first|omega|(simp only[LnZ];omega))[wrap64,Ro.len,hlt]
  exact RetK.keep (hk _ _ ⟨_,by rw[decide_eq_false nok],l1.trans l2,by rw[Fm.basR,if_neg nok];exact Rn _⟩)
theorem has_p {s i:Nat}(hs:s<4611686018427387904) (hi:i<64):(andI .i64 (shrI .i64 (s:Int) (i:Int)) 1=1)=(s.testBit i=true):=by
 have h:=has_eq (s:=s) (i:=(i:Int)) hs ⟨by omega,by omega⟩
 rw[u64_pos (by omega) (by omega),Fm.has_nat] at h
 exact propext h
theorem has_z {s i:Nat}(hs:s<4611686018427387904) (hi:i<64):(andI .i64 (shrI .i64 (s:Int) (i:Int)) 1=0)=(s.testBit i=false):=by
 have h:=has_p hs hi
 have h1:s / 2^(min i 64)≤s:=Nat.div_le_self _ _
 have h2:andI .i64 (shrI .i64 (s:Int) (i:Int)) 1=0∨andI .i64 (shrI .i64 (s:Int) (i:Int)) 1=1:=by
  rw[i64_shr,show (1:Int)=((1:Nat):Int) from rfl,i64_and (by omega) (by omega),Nat.and_one_is_mod]
  omega
 rcases h2 with h2 | h2
 ·rw[h2] at h ⊢
  cases e:s.testBit i with
  | false=>simp
  | true=>rw[e] at h;simp at h
 ·rw[h2] at h ⊢
  cases e:s.testBit i with
  | false=>rw[e] at h;simp at h
  | true=>simp
theorem Bc_bas {B:List Exq}(h:Fm.Bc B):∀y∈B,Fm.bas y=true:=fun y hy=>(h.2 y hy).2.1
theorem Bc_kid {B:List Exq}(h:Fm.Bc B) {y:Exq}(hy:y∈B):∃m,∀z∈y.kids,Fm.Cl B m z:=by
 obtain⟨_,_,n,hc⟩:=h.2 y hy
 obtain⟨m,rfl⟩:=hc.ex
 exact⟨m,hc.2.2.2.2⟩
theorem c_follows {h:Heap}{w:Value}{B:List Exq}{bt s t:Nat}(hB:Fm.Bc B) (hn5:B.length≤5) (hs:s<4611686018427387904) (ht:t<4611686018427387904) (R:Rep h w B) (hbt:hload h (some (.pointer (some ⟨bt,0,none⟩))) none=some w) :
  CallE Tryz.prog fn_impl_translator_follows [.pointer (some ⟨bt,0,none⟩),.int .i64 s,.int .i64 t] h (fun u h'=>h.le h'∧u=.bool (decide (Fm.Fol B s t))):=by
 have hL:=R.lt
 refine CallE.gen fun k hk=>EN_impl_translator_follows rfl ?_
 simp -implicitDefEqProofs (disch:=first|omega|(simp only[LnZ];omega))[wrap64,hbt,R.len]
 refine wp_count B.length (fun i e h'=>e=[some (.pointer (some ⟨bt,0,none⟩)),some (.int .i64 s),some (.int .i64 t),none,none,none,none,none,none,some w,some (.int .i64 B.length),some (.int .i64 i),none]∧h.le h'∧∀(j:Nat) (hj:j<B.length),j<i→Fm.got B s t j B[j]=s.testBit j) ⟨by simp,Heap.le.refl _,fun j _ hj=>absurd hj (Nat.not_lt_zero j)⟩ ?_
 rintro J i _ h1 hJ hi ⟨rfl,l1,hq⟩
 simp -implicitDefEqProofs (disch:=omega)[wrap64]
 refine IteW.mk (fun hlt=>?_) (fun hge=>?_)
 ·have hlx:i<B.length:=by omega
  have R:=R.le l1
  have hbt:=hload_le l1 hbt
  have hy:Fm.got B s t i B[i]=s.testBit i→∀h2,h1.le h2→J [some (.pointer (some ⟨bt,0,none⟩)),some (.int .i64 s),some (.int .i64 t),none,none,none,none,none,none,some w,some (.int .i64 B.length),some (.int .i64 ((i+1:Nat):Int)),none] h2:=fun e h2 l2=>hJ _ _ hlx ⟨rfl,l1.trans l2,fun j hj hji=>by
   by_cases e2:j=i
   ·subst e2;exact e
   ·exact hq j hj (by omega)⟩
  have hno:¬Fm.got B s t i B[i]=s.testBit i→∀h2,h1.le h2→k (.bool false) h2:=fun e h2 l2=>hk _ _ ⟨l1.trans l2,by rw[decide_eq_false (fun hh:Fm.Fol B s t=>e (hh i hlx))]⟩
  have hsp:=(hB.2 _ (List.getElem_mem hlx)).1
  obtain⟨m,hkc⟩:=Bc_kid hB (List.getElem_mem hlx)
  obtain⟨y,hyd⟩:∃y,y=B[i]:=⟨_,rfl⟩
  obtain⟨u,hu,Ru⟩:=R.ld hlx
  change hload _ (some (elp 3 w i)) (some 3)=some u at hu
  rw[← hyd] at hy hno hsp Ru hkc
  obtain⟨wk,rfl,k1,k2,R1⟩:=Rep_Exq.1 Ru
  have hX:=R.X (n:=3) rfl
  have kO:=R1.one
  have hi0:¬(i:Int)<0:=by omega
  have hw:IntKind.u64.wrap (i:Int)=i:=u64_pos (by omega) (by omega)
  have hp1:=has_p (i:=i) hs (by omega)
  have hp2:=has_p (i:=i) ht (by omega)
  have kid:∀{j:Nat}(hj:j<y.kids.length),∃u,hload h1 (some (elp 3 wk j)) (some 3)=some u∧Rep h1 u y.kids[j]:=fun hj=>R1.ld hj
  have hY:=R1.X (n:=3) rfl
  have V:∀{j:Nat}(hj:j<y.kids.length) {u:Value}{s:Nat}{h2:Heap},h1.le h2→s<4611686018427387904→Rep h1 u y.kids[j]→CallE Tryz.prog fn_impl_translator_holds [.pointer (some ⟨bt,0,none⟩),u,.int .i64 s] h2 (fun u h'=>h2.le h'∧u=.bool (Fm.val B s y.kids[j])):=fun hj _ _ _ l2 hs r=>c_holds (Bc_bas hB) hs _ (hkc _ (List.getElem_mem hj)) (r.le l2) (R.le l2) (hload_le l2 hbt)
  unfold Fm.got at hy hno
  by_cases c6:y.kind=6
  ·have hl:=hsp.one (by omega)
   obtain⟨u0,hu0,Ru0⟩:=kid (j:=0) (by omega)
   rw[if_pos c6,Fm.kv_at (j:=0) (by omega)] at hy hno
   have hbs:Fm.bas y=true:=Bc_bas hB y (hyd▸List.getElem_mem hlx)
   change hload _ (some (elp 3 wk 0)) (some 3)=some u0 at hu0
   simp -implicitDefEqProofs (disch:=first|omega|(simp only[LnZ];omega))[wrap64,hX,hu,hi0,hw,hp1,hp2,c6,hY,hu0,setC,kO,Ru0.aExq]
   refine (V (by omega) (Heap.le.refl _) ht Ru0).go ?_
   rintro _ h2 ⟨l2,rfl⟩
   by_cases e:Fm.val B t y.kids[0]=s.testBit i
   ·simp -implicitDefEqProofs (disch:=first|omega|(simp only[LnZ];omega))[wrap64,e]
    simpa using hy e _ l2
   ·simp -implicitDefEqProofs (disch:=first|omega|(simp only[LnZ];omega))[wrap64,e,Ne.symm e]
    exact RetK.keep (hno e _ l2)
  rw[if_neg c6] at hy hno
  by_cases c7:y.kind=7
  ·have hl:=hsp.two (by omega)
   obtain⟨u0,hu0,Ru0⟩:=kid (j:=0) (by omega)
   obtain⟨u1,hu1,Ru1⟩:=kid (j:=1) (by omega)
   change hload _ (some (elp 3 wk 0)) (some 3)=some u0 at hu0
   change hload _ (some (elp 3 wk 1)) (some 3)=some u1 at hu1
   rw[if_pos c7,Fm.kv_at (j:=0) (by omega),Fm.kv_at (j:=1) (by omega)] at hy hno
   simp -implicitDefEqProofs (disch:=first|omega|(simp only[LnZ];omega))[wrap64,hX,hu,hi0,hw,hp1,hp2,c6,c7,hY,hu1,setC,kO,Ru1.aExq]
   refine (V (by omega) (Heap.le.refl _) hs Ru1).go ?_
   rintro _ h2 ⟨l2,rfl⟩
   cases hv1:Fm.val B s y.kids[1] with
   | true=>
    rw[hv1] at hy hno
    cases hw:s.testBit i with
    | true=>
     rw[hw] at hy
     simp -implicitDefEqProofs (disch:=first|omega|(simp only[LnZ];omega))[wrap64,hv1,hw]
     simpa using hy (by simp) _ l2
    | false=>
     rw[hw] at hno
     simp -implicitDefEqProofs (disch:=first|omega|(simp only[LnZ];omega))[wrap64,hv1,hw]
     exact RetK.keep (hno (by simp) _ l2)
   | false=>
    rw[hv1] at hy hno
    have hu0:=hload_le l2 hu0
    simp -implicitDefEqProofs (disch:=first|omega|(simp only[LnZ];omega))[wrap64,hv1,(R1.le l2).X (n:=3) rfl,hu0,Ru0.aExq]
    refine (V (by omega) l2 hs Ru0).go ?_
    rintro _ h3 ⟨l3,rfl⟩
    have l3:=l2.trans l3
    cases hv0:Fm.val B s y.kids[0] with
    | false=>
     rw[hv0] at hy hno
     cases hw:s.testBit i with
     | false=>
      rw[hw] at hy
      simp -implicitDefEqProofs (disch:=first|omega|(simp only[LnZ];omega))[wrap64,hv0,hw]
      simpa using hy (by simp) _ l3
     | true=>
      rw[hw] at hno
      simp -implicitDefEqProofs (disch:=first|omega|(simp only[LnZ];omega))[wrap64,hv0,hw]
      exact RetK.keep (hno (by simp) _ l3)
    | true=>
     rw[hv0] at hy hno
     by_cases e:t.testBit i=s.testBit i
     ·simp -implicitDefEqProofs (disch:=first|omega|(simp only[LnZ];omega))[wrap64,hv0,e]
      simpa using hy (by simpa using e) _ l3
     ·simp -implicitDefEqProofs (disch:=first|omega|(simp only[LnZ];omega))[wrap64,hv0,e,Ne.symm e]
      exact RetK.keep (hno (by simpa using e) _ l3)
  rw[if_neg c7] at hy hno
  by_cases c8:y.kind=8
  ·have hl:=hsp.two (by omega)
   obtain⟨u0,hu0,Ru0⟩:=kid (j:=0) (by omega)
   obtain⟨u1,hu1,Ru1⟩:=kid (j:=1) (by omega)
   change hload _ (some (elp 3 wk 0)) (some 3)=some u0 at hu0
   change hload _ (some (elp 3 wk 1)) (some 3)=some u1 at hu1
   rw[if_pos c8,Fm.kv_at (j:=0) (by omega),Fm.kv_at (j:=1) (by omega)] at hy hno
   simp -implicitDefEqProofs (disch:=first|omega|(simp only[LnZ];omega))[wrap64,hX,hu,hi0,hw,hp1,hp2,c6,c7,c8,hY,hu1,setC,kO,Ru1.aExq]
   refine (V (by omega) (Heap.le.refl _) hs Ru1).go ?_
   rintro _ h2 ⟨l2,rfl⟩
   cases hv1:Fm.val B s y.kids[1] with
   | false=>
    rw[hv1] at hy hno
    cases hw:s.testBit i with
    | false=>
     rw[hw] at hy
     simp -implicitDefEqProofs (disch:=first|omega|(simp only[LnZ];omega))[wrap64,hv1,hw]
     simpa using hy (by simp) _ l2
    | true=>
     rw[hw] at hno
     simp -implicitDefEqProofs (disch:=first|omega|(simp only[LnZ];omega))[wrap64,hv1,hw]
     exact RetK.keep (hno (by simp) _ l2)
   | true=>
    rw[hv1] at hy hno
    have hu0:=hload_le l2 hu0
    simp -implicitDefEqProofs (disch:=first|omega|(simp only[LnZ];omega))[wrap64,hv1,(R1.le l2).X (n:=3) rfl,hu0,Ru0.aExq]
    refine (V (by omega) l2 hs Ru0).go ?_
    rintro _ h3 ⟨l3,rfl⟩
    have l3:=l2.trans l3
    cases hv0:Fm.val B s y.kids[0] with
    | true=>
     rw[hv0] at hy hno
     cases hw:s.testBit i with
     | true=>
      rw[hw] at hy
      simp -implicitDefEqProofs (disch:=first|omega|(simp only[LnZ];omega))[wrap64,hv0,hw]
      simpa using hy (by simp) _ l3
     | false=>
      rw[hw] at hno
      simp -implicitDefEqProofs (disch:=first|omega|(simp only[LnZ];omega))[wrap64,hv0,hw]
      exact RetK.keep (hno (by simp) _ l3)
    | false=>
     rw[hv0] at hy hno
     by_cases e:t.testBit i=s.testBit i
     ·simp -implicitDefEqProofs (disch:=first|omega|(simp only[LnZ];omega))[wrap64,hv0,e]
      simpa using hy (by simpa using e) _ l3
     ·simp -implicitDefEqProofs (disch:=first|omega|(simp only[LnZ];omega))[wrap64,hv0,e,Ne.symm e]
      exact RetK.keep (hno (by simpa using e) _ l3)
  rw[if_neg c8] at hy hno
  simp -implicitDefEqProofs (disch:=first|omega|(simp only[LnZ];omega))[wrap64,hX,hu,hi0,hw,hp1,hp2,c6,c7,c8,setC,kO]
  simpa using hy rfl _ (Heap.le.refl _)
 ·simp -implicitDefEqProofs (disch:=omega)[wrap64]
  exact RetK.keep (hk _ _ ⟨l1,by rw[decide_eq_true (show Fm.Fol B s t from fun j hj=>hq j hj (by omega))]⟩)
theorem c_fulfils {h:Heap}{w uv:Value}{B:List Exq}{U:List Int}{bt s p u:Nat}(hB:Fm.Bc B) (hn5:B.length≤5) (hs:s<4611686018427387904) (hp:p<U.length) (hUp:U[p]=(u:Int)) (hu:u<B.length) (hk7:B[u].kind=7) (R:Rep h w B) (RU:Rep h uv U)
  (hbt:hload h (some (.pointer (some ⟨bt,0,none⟩))) none=some w) (hbu:hload h (some (.pointer (some ⟨bt,1,none⟩))) none=some uv) :
  CallE Tryz.prog fn_impl_translator_fulfils [.pointer (some ⟨bt,0,none⟩),.int .i64 s,.int .i64 p] h (fun v h'=>h.le h'∧v=.bool (Fm.ful B s u)):=by
 have hL:=R.lt
 have hsp:=(hB.2 _ (List.getElem_mem hu)).1
 obtain⟨m,hkc⟩:=Bc_kid hB (List.getElem_mem hu)
 have hl:=hsp.two (by omega)
 obtain⟨q,hq,Rq⟩:=R.ld hu
 change hload _ (some (elp 3 w u)) (some 3)=some q at hq
 obtain⟨wk,rfl,k1,k2,R1⟩:=Rep_Exq.1 Rq
 have hX:=R.X (n:=3) rfl
 have hP:=hld_parts (cs:=[.int .i64 B[u].kind,.int .i64 B[u].val,wk]) hq
 obtain⟨u1,hu1,Ru1⟩:=R1.ld (i:=1) (by omega)
 change hload _ (some (elp 3 wk 1)) (some 3)=some u1 at hu1
 have e:B.getD (u:Int).toNat Exq.zero=B[u]:=by simp[hu]
 have hi0:¬(u:Int)<0:=by omega
 have hw:IntKind.u64.wrap (u:Int)=u:=u64_pos (by omega) (by omega)
 have hz:=has_z (i:=u) hs (by omega)
 refine CallE.gen fun k hk=>EN_impl_translator_fulfils rfl ?_
 rw[Fm.ful,e,Fm.kv_at (j:=1) (by omega),Fm.has_nat] at hk
 cases hh:s.testBit u with
 | false=>
  rw[hh] at hk
  simp -implicitDefEqProofs (disch:=first|omega|(simp only[LnZ];omega))[wrap64,hbt,hbu,RU.I,hUp,hi0,hw,hz,hh]
  exact RetK.keep (hk _ _ ⟨Heap.le.refl _,by simp⟩)
 | true=>
  rw[hh] at hk
  simp -implicitDefEqProofs (disch:=first|omega|(simp only[LnZ];omega))[wrap64,hbt,hbu,RU.I,hUp,hi0,hw,hz,hh,hX,hP.1,hP.2.2.1,R1.X (n:=3) rfl,hu1,Ru1.aExq]
  refine (c_holds (Bc_bas hB) hs _ (hkc _ (List.getElem_mem (by omega))) Ru1 R hbt).go ?_
  rintro _ h2 ⟨l2,rfl⟩
  simp -implicitDefEqProofs (disch:=omega)[wrap64]
  exact RetK.keep (hk _ _ ⟨l2,by simp⟩)
namespace Fm
section
variable {l:Las}{x:Exq}{i:Nat}{c:Bool}
theorem fstp7 (hk:x.kind=7) (h:x.kids.length=2):fstp l x i c=(sv l (x.kids[1]'(by omega)) i||(sv l (x.kids[0]'(by omega)) i&&c)):=by
 rw[Bool.eq_iff_iff,fstp_iff]
 simp[stp,hk,sv_iff,sk_at (show 0<x.kids.length by omega),sk_at (show 1<x.kids.length by omega)]
theorem fstp8 (hk:x.kind=8) (h:x.kids.length=2):fstp l x i c=(sv l (x.kids[1]'(by omega)) i&&(sv l (x.kids[0]'(by omega)) i||c)):=by
 rw[Bool.eq_iff_iff,fstp_iff]
 simp[stp,hk,sv_iff,sk_at (show 0<x.kids.length by omega),sk_at (show 1<x.kids.length by omega)]
theorem fstp9 (hk:x.kind=9) (h:x.kids.length=1):fstp l x i c=(sv l (x.kids[0]'(by omega)) i||c):=by
 rw[Bool.eq_iff_iff,fstp_iff]
 simp[stp,hk,sv_iff,sk_at (show 0<x.kids.length by omega)]
theorem fstp10 (hk:x.kind=10) (h:x.kids.length=1):fstp l x i c=(sv l (x.kids[0]'(by omega)) i&&c):=by
 rw[Bool.eq_iff_iff,fstp_iff]
 simp[stp,hk,sv_iff,sk_at (show 0<x.kids.length by omega)]
theorem sv1 (hk:x.kind=1):sv l x i=true:=sv_iff.2 (sat1 hk)
theorem sv2 (hk:x.kind=2) (hi:i<l.size):sv l x i=(l.all[i]'(by rw[Las.all_len];exact hi)).toNat.testBit x.val.toNat:=by
 rw[Bool.eq_iff_iff,sv_iff,sat2 hk,Las.word,Las.pos_stem hi,getD_some]
theorem sv3 (hk:x.kind=3) (h:x.kids.length=1):sv l x i = !sv l (x.kids[0]'(by omega)) i:=by
 rw[Bool.eq_iff_iff,sv_iff,sat3 hk,sk_at (show 0<x.kids.length by omega)]
 simp[← sv_iff]
theorem sv4 (hk:x.kind=4) (h:x.kids.length=2):sv l x i=(sv l (x.kids[0]'(by omega)) i&&sv l (x.kids[1]'(by omega)) i):=by
 rw[Bool.eq_iff_iff,sv_iff,sat4 hk,sk_at (show 0<x.kids.length by omega),sk_at (show 1<x.kids.length by omega)]
 simp[← sv_iff]
theorem sv5 (hk:x.kind=5) (h:x.kids.length=2):sv l x i=(sv l (x.kids[0]'(by omega)) i||sv l (x.kids[1]'(by omega)) i):=by
 rw[Bool.eq_iff_iff,sv_iff,sat5 hk,sk_at (show 0<x.kids.length by omega),sk_at (show 1<x.kids.length by omega)]
 simp[← sv_iff]
theorem sv6 (hk:x.kind=6) (h:x.kids.length=1) (hl:1≤l.loop.length) (hi:i<l.size):sv l x i=sv l (x.kids[0]'(by omega)) (l.nx i):=by
 rw[Bool.eq_iff_iff,sv_iff,sv_iff,sat6 hk,sk_at (show 0<x.kids.length by omega),sat_nx hl hi]
end
end Fm
section
variable {h:Heap}{b6:Nat}{kw:Value}{K:List (List Bool)}{i:Nat}{c:Bool}
theorem c_tr2 (hb:hload h (some (.pointer (some ⟨b6,0,none⟩))) none=some kw) (RK:Rep h kw K) (hK:1<K.length) (h0:i<K[0].length) (h1:i<K[1].length) :
  CallE Tryz.prog fn_impl_Lasso_truths_2 [.int .i64 i,.bool c,.pointer (some ⟨b6,0,none⟩)] h (fun u h'=>h'=h∧u=.bool (K[1][i]||(K[0][i]&&c))):=by
 obtain⟨u0,hu0,R0⟩:=RK.ldL (show 0<K.length by omega)
 obtain⟨u1,hu1,R1⟩:=RK.ldL hK
 have hX:=RK.X (n:=1) rfl
 have B0:=R0.B
 have B1:=R1.B
 refine CallE.gen fun k hk=>EN_impl_Lasso_truths_2 rfl ?_
 cases e1:K[1][i] with
 | true=>
  simp -implicitDefEqProofs (disch:=first|omega|(simp only[LnZ];omega))[wrap64,hb,hX,hu1,B1,e1]
  exact RetK.keep (hk _ _ ⟨rfl,by simp[e1]⟩)
 | false=>
  cases e0:K[0][i] with
  | true=>
   simp -implicitDefEqProofs (disch:=first|omega|(simp only[LnZ];omega))[wrap64,hb,hX,hu1,B1,e1,hu0,B0,e0]
   exact RetK.keep (hk _ _ ⟨rfl,by simp[e1,e0]⟩)
  | false=>
   simp -implicitDefEqProofs (disch:=first|omega|(simp only[LnZ];omega))[wrap64,hb,hX,hu1,B1,e1,hu0,B0,e0]
   exact RetK.keep (hk _ _ ⟨rfl,by simp[e1,e0]⟩)
theorem c_tr3 (hb:hload h (some (.pointer (some ⟨b6,0,none⟩))) none=some kw) (RK:Rep h kw K) (hK:1<K.length) (h0:i<K[0].length) (h1:i<K[1].length) :
  CallE Tryz.prog fn_impl_Lasso_truths_3 [.int .i64 i,.bool c,.pointer (some ⟨b6,0,none⟩)] h (fun u h'=>h'=h∧u=.bool (K[1][i]&&(K[0][i]||c))):=by
 obtain⟨u0,hu0,R0⟩:=RK.ldL (show 0<K.length by omega)
 obtain⟨u1,hu1,R1⟩:=RK.ldL hK
 have hX:=RK.X (n:=1) rfl
 have B0:=R0.B
 have B1:=R1.B
 refine CallE.gen fun k hk=>EN_impl_Lasso_truths_3 rfl ?_
 cases e1:K[1][i] with
 | false=>
  simp -implicitDefEqProofs (disch:=first|omega|(simp only[LnZ];omega))[wrap64,hb,hX,hu1,B1,e1]
  exact RetK.keep (hk _ _ ⟨rfl,by simp[e1]⟩)
 | true=>
  cases e0:K[0][i] with
  | true=>
   simp -implicitDefEqProofs (disch:=first|omega|(simp only[LnZ];omega))[wrap64,hb,hX,hu1,B1,e1,hu0,B0,e0]
   exact RetK.keep (hk _ _ ⟨rfl,by simp[e1,e0]⟩)
  | false=>
   simp -implicitDefEqProofs (disch:=first|omega|(simp only[LnZ];omega))[wrap64,hb,hX,hu1,B1,e1,hu0,B0,e0]
   exact RetK.keep (hk _ _ ⟨rfl,by simp[e1,e0]⟩)
theorem c_tr4 (hb:hload h (some (.pointer (some ⟨b6,0,none⟩))) none=some kw) (RK:Rep h kw K) (hK:0<K.length) (h0:i<K[0].length) :
  CallE Tryz.prog fn_impl_Lasso_truths_4 [.int .i64 i,.bool c,.pointer (some ⟨b6,0,none⟩)] h (fun u h'=>h'=h∧u=.bool (K[0][i]||c)):=by
 obtain⟨u0,hu0,R0⟩:=RK.ldL hK
 have hX:=RK.X (n:=1) rfl
 have B0:=R0.B
 refine CallE.gen fun k hk=>EN_impl_Lasso_truths_4 rfl ?_
 cases e0:K[0][i] with
 | true=>
  simp -implicitDefEqProofs (disch:=first|omega|(simp only[LnZ];omega))[wrap64,hb,hX,hu0,B0,e0]
  exact RetK.keep (hk _ _ ⟨rfl,by simp[e0]⟩)
 | false=>
  simp -implicitDefEqProofs (disch:=first|omega|(simp only[LnZ];omega))[wrap64,hb,hX,hu0,B0,e0]
  exact RetK.keep (hk _ _ ⟨rfl,by simp[e0]⟩)
theorem c_tr5 (hb:hload h (some (.pointer (some ⟨b6,0,none⟩))) none=some kw) (RK:Rep h kw K) (hK:0<K.length) (h0:i<K[0].length) :
  CallE Tryz.prog fn_impl_Lasso_truths_5 [.int .i64 i,.bool c,.pointer (some ⟨b6,0,none⟩)] h (fun u h'=>h'=h∧u=.bool (K[0][i]&&c)):=by
 obtain⟨u0,hu0,R0⟩:=RK.ldL hK
 have hX:=RK.X (n:=1) rfl
 have B0:=R0.B
 refine CallE.gen fun k hk=>EN_impl_Lasso_truths_5 rfl ?_
 cases e0:K[0][i] with
 | true=>
  simp -implicitDefEqProofs (disch:=first|omega|(simp only[LnZ];omega))[wrap64,hb,hX,hu0,B0,e0]
  exact RetK.keep (hk _ _ ⟨rfl,by simp[e0]⟩)
 | false=>
  simp -implicitDefEqProofs (disch:=first|omega|(simp only[LnZ];omega))[wrap64,hb,hX,hu0,B0,e0]
  exact RetK.keep (hk _ _ ⟨rfl,by simp[e0]⟩)
end
set_option maxHeartbeats 4000000 in
theorem c_truths {l:Las}(hl:l.Ok):∀(x:Exq) {n:Nat}{h:Heap}{v w:Value},Fm.Shp n x→Rep h v l→Rep h w x→CallE Tryz.prog fn_impl_Lasso_truths [v,w] h (fun u h'=>HS h [ow u (Fm.tvs l x)] h'):=by
 obtain⟨⟨hl1,hl2⟩,hl3,hl4,hl5⟩:=hl
 have hsz:l.size=l.stem.length+l.loop.length:=rfl
 refine Exq.ind fun x ih n h v w hs RL R=>?_
 obtain⟨m,rfl⟩:∃m,n=m+1:=⟨n-1,by cases n with
  | zero=>exact hs.elim
  | succ n=>rfl⟩
 have FX:=R.aExq
 have FL:=RL.aLas
 obtain⟨sv1,sv2,rfl,RL1,RL2⟩:=Rep_Las.1 RL
 obtain⟨w,rfl,k1,k2,R1⟩:=Rep_Exq.1 R
 have hkd:=hs.nd.kind
 have hkl:=R1.lt
 refine CallE.gen fun k hk=>EN_impl_Lasso_truths rfl ?_
 simp -implicitDefEqProofs (disch:=first|omega|(simp only[LnZ];omega))[wrap64,FX,FL]
 refine HS.init.alloc rfl fun b2 h1 H=>?_
 have hb2:hload h1 (some (.pointer (some ⟨b2,0,none⟩))) (some 2)=some (.agg #[sv1,sv2]):=by
  have:=H.bxlds (o:=0) (n:=2) (by simp)
  simpa using this
 simp -implicitDefEqProofs (disch:=first|omega|(simp only[LnZ];omega))[wrap64,FX,FL,hb2]
 refine (c_all (RL.on H) (by omega) (by omega)).go ?_
 intro ww h2 G
 have H:=G.app H
 simp -implicitDefEqProofs (disch:=omega)[wrap64]
 refine H.alloc rfl fun b6 h3 H=>?_
 have H:HS h [bx b6 [.slice none 0 0],ow ww l.all,bx b2 [sv1,sv2]] h3:=H
 simp -implicitDefEqProofs (disch:=first|omega|(simp only[LnZ];omega))[wrap64,FX,FL,R1.len]
 refine wp_count x.kids.length (fun i e h'=>∃kw,e=[none,none,some (.pointer (some ⟨b2,0,none⟩)),some (.agg #[.int .i64 x.kind,.int .i64 x.val,w]),none,some ww,some (.pointer (some ⟨b6,0,none⟩)),none,none,none,none,some w,some (.int .i64 x.kids.length),some (.int .i64 i),none,none,none,none] ∧
  HS h [bx b6 [kw],ow kw ((x.kids.take i).map (Fm.tvs l)),ow ww l.all,bx b2 [sv1,sv2]] h') ⟨.slice none 0 0,by simp,H.nil_ow.sw1⟩ ?_
 clear H G hb2
 rintro J i _ h4 hJ hi ⟨kw,rfl,H⟩
 simp -implicitDefEqProofs (disch:=omega)[wrap64]
 refine IteW.mk (fun hlt=>?_) (fun hge=>?_)
 ·have hlx:i<x.kids.length:=by omega
  obtain⟨u,hu,Ru⟩:=R1.ld hlx
  have hu2:=hload_le H.base hu
  change hload _ (some (elp 3 w i)) (some 3)=some u at hu2
  have hb2:hload h4 (some (.pointer (some ⟨b2,0,none⟩))) (some 2)=some (.agg #[sv1,sv2]):=by
   have:=H.sw3.bxlds (o:=0) (n:=2) (by simp)
   simpa using this
  have h2k:=hs.le2
  simp -implicitDefEqProofs (disch:=first|omega|(simp only[LnZ];omega))[wrap64,R1.X (n:=3) rfl,hu2,Ru.aExq,setC,H.bxld0,hb2]
  refine (ih _ (List.getElem_mem hlx) (hs.kid hlx) (RL.on H) (Ru.on H)).go ?_
  intro tw h5 G
  have H:=G.app H
  have H:HS h [ow tw (Fm.tvs l x.kids[i]),bx b6 [kw],ow kw ((x.kids.take i).map (Fm.tvs l)),ow ww l.all,bx b2 [sv1,sv2]] h5:=H
  have hcl:=H.rep.cells
  simp -implicitDefEqProofs (disch:=first|omega|(simp only[LnZ];omega))[wrap64,H.sw1.bxld0,hcl,H.rep.one,setC]
  refine HS.appO (bytes:=24) (H.sw2.sw1) rfl rfl (by rw[hcl]) rfl rfl (by simp;omega) (by simp;omega) fun kw' h6 H=>?_
  simp -implicitDefEqProofs (disch:=omega)[wrap64]
  refine H.sw1.bxst (u:=kw') rfl rfl (by rw[H.rep.cells];rfl) (by rw[H.rep.cells];simp[H.rep.one]) (by simp[H.rep.cells]) fun h7 H=>?_
  simp -implicitDefEqProofs (disch:=omega)[wrap64]
  refine hJ _ _ hlx ⟨kw',by simp,?_⟩
  rw[List.take_add_one,List.getElem?_eq_getElem hlx,List.map_append]
  simpa[setC,H.sw1.rep.cells] using H
 rw[List.take_of_length_le (by omega)] at H
 have hszi:((l.size:Nat):Int)=l.all.length:=by rw[Las.all_len]
 have hal:=Las.all_len (l:=l)
 simp -implicitDefEqProofs (disch:=first|omega|(simp only[LnZ];omega))[wrap64,H.sw2.rep.len]
 refine H.mks (α:=Bool) (z:=false) rfl rfl ⟨rfl,rfl⟩ (Nat.le_refl _) (by omega) (by omega) fun ow1 h5 H=>?_
 simp -implicitDefEqProofs (disch:=omega)[wrap64]
 refine H.alloc rfl fun b8 h6 H=>?_
 simp -implicitDefEqProofs (disch:=omega)[wrap64]
 refine H.bxst (u:=ow1) rfl rfl (by rw[H.sw1.rep.cells];rfl) (by rw[H.sw1.rep.cells];simp[H.sw1.rep.one]) (by simp[H.sw1.rep.cells]) fun h7 H=>?_
 have H:HS h ([bx b8 [ow1],ow ow1 (List.replicate l.size false)]++[bx b6 [kw],ow kw (x.kids.map (Fm.tvs l)),ow ww l.all,bx b2 [sv1,sv2]]) h7:=by
  simpa[setC,H.sw1.rep.cells,hal] using H
 obtain⟨g1,H1,H⟩:=H.rebase
 have hb6:=H1.bxld0
 have RK:=H1.sw1.rep
 have Rww:=H1.sw2.rep
 have hb2:hload g1 (some (.pointer (some ⟨b2,0,none⟩))) (some 2)=some (.agg #[sv1,sv2]):=by
  have:=H1.sw3.bxlds (o:=0) (n:=2) (by simp)
  simpa using this
 have RLg:=RL.le H1.base
 have hKl:(x.kids.map (Fm.tvs l)).length=x.kids.length:=by simp
 have hKj:∀{j:Nat}(hj:j<x.kids.length),(x.kids.map (Fm.tvs l))[j]'(by simpa using hj)=Fm.tvs l x.kids[j]:=fun hj=>by simp
 have hnx:∀i,i<l.size→l.nx i<l.size:=fun i hi=>Las.nx_lt hl4 hi
 have fin:∀{O:List Bool}{h8:Heap},HS g1 [bx b8 [ow1],ow ow1 O] h8→O=Fm.tvs l x→k ow1 h8:=fun H8 e=>hk _ _ (by
  subst e
  exact (HS.app H8.drop H1).only)
 clear hJ J
 by_cases c7:x.kind=7
 ·have h2:=hs.two (by omega)
  simp -implicitDefEqProofs (disch:=first|omega|(simp only[LnZ];omega))[wrap64,c7]
  refine (c_fix (s0:=false) (f:=Fm.fstp l x) (v:=Fm.sv l x) RLg hb2 ⟨by omega,hl4,by omega⟩ (fH:=fn_impl_Lasso_truths_2) (c1:=[]) (c2:=[.pointer (some ⟨b6,0,none⟩)]) rfl (fun i c h' hi hle=>?_) (Fm.fstp_mono false) (fun i hi=>Fm.fstp_sv hl4 (by omega) hi) (by simp) H).go ?_
  ·have hc:=c_tr2 (i:=i) (c:=c) (hload_le hle hb6) (RK.le hle) (by rw[hKl];omega) (by rw[hKj (by omega),Fm.tvs_len];exact hi) (by rw[hKj (by omega),Fm.tvs_len];exact hi)
   simp only[hKj (show 0<x.kids.length by omega),hKj (show 1<x.kids.length by omega),Fm.tvs_at] at hc
   rw[← Fm.fstp7 c7 h2] at hc
   exact hc
  clear H
  rintro _ h8 ⟨O,H,HI,hf⟩
  simp -implicitDefEqProofs (disch:=first|omega|(simp only[LnZ];omega))[wrap64,H.bxld0]
  exact RetK.keep (fin H (Fm.fix_end hl4 false (.inl ⟨rfl,.inl c7⟩) HI hf))
 by_cases c8:x.kind=8
 ·have h2:=hs.two (by omega)
  have HF:HS g1 [bx b8 [ow1],ow ow1 (List.replicate l.size false)] h7:=H
  simp -implicitDefEqProofs (disch:=first|omega|(simp only[LnZ];omega))[wrap64,c7,c8]
  refine (c_fix (s0:=true) (f:=Fm.fstp l x) (v:=Fm.sv l x) RLg hb2 ⟨by omega,hl4,by omega⟩ (fH:=fn_impl_Lasso_truths_3) (c1:=[]) (c2:=[.pointer (some ⟨b6,0,none⟩)]) rfl (fun i c h' hi hle=>?_) (Fm.fstp_mono true) (fun i hi=>Fm.fstp_sv hl4 (by omega) hi) (by simp) H).go ?_
  ·have hc:=c_tr3 (i:=i) (c:=c) (hload_le hle hb6) (RK.le hle) (by rw[hKl];omega) (by rw[hKj (by omega),Fm.tvs_len];exact hi) (by rw[hKj (by omega),Fm.tvs_len];exact hi)
   simp only[hKj (show 0<x.kids.length by omega),hKj (show 1<x.kids.length by omega),Fm.tvs_at] at hc
   rw[← Fm.fstp8 c8 h2] at hc
   exact hc
  clear H
  rintro _ h8 ⟨O,H,HI,hf⟩
  simp -implicitDefEqProofs (disch:=first|omega|(simp only[LnZ];omega))[wrap64,H.bxld0]
  exact RetK.keep (fin H (Fm.fix_end hl4 true (.inr ⟨rfl,.inl c8⟩) HI hf))
 by_cases c9:x.kind=9
 ·have h2:=hs.one (by omega)
  have HF:HS g1 [bx b8 [ow1],ow ow1 (List.replicate l.size false)] h7:=H
  simp -implicitDefEqProofs (disch:=first|omega|(simp only[LnZ];omega))[wrap64,c7,c8,c9]
  refine (c_fix (s0:=false) (f:=Fm.fstp l x) (v:=Fm.sv l x) RLg hb2 ⟨by omega,hl4,by omega⟩ (fH:=fn_impl_Lasso_truths_4) (c1:=[]) (c2:=[.pointer (some ⟨b6,0,none⟩)]) rfl (fun i c h' hi hle=>?_) (Fm.fstp_mono false) (fun i hi=>Fm.fstp_sv hl4 (by omega) hi) (by simp) H).go ?_
  ·have hc:=c_tr4 (i:=i) (c:=c) (hload_le hle hb6) (RK.le hle) (by rw[hKl];omega) (by rw[hKj (by omega),Fm.tvs_len];exact hi)
   simp only[hKj (show 0<x.kids.length by omega),Fm.tvs_at] at hc
   rw[← Fm.fstp9 c9 h2] at hc
   exact hc
  clear H
  rintro _ h8 ⟨O,H,HI,hf⟩
  simp -implicitDefEqProofs (disch:=first|omega|(simp only[LnZ];omega))[wrap64,H.bxld0]
  exact RetK.keep (fin H (Fm.fix_end hl4 false (.inl ⟨rfl,.inr c9⟩) HI hf))
 by_cases c10:x.kind=10
 ·have h2:=hs.one (by omega)
  have HF:HS g1 [bx b8 [ow1],ow ow1 (List.replicate l.size false)] h7:=H
  simp -implicitDefEqProofs (disch:=first|omega|(simp only[LnZ];omega))[wrap64,c7,c8,c9,c10]
  refine (c_fix (s0:=true) (f:=Fm.fstp l x) (v:=Fm.sv l x) RLg hb2 ⟨by omega,hl4,by omega⟩ (fH:=fn_impl_Lasso_truths_5) (c1:=[]) (c2:=[.pointer (some ⟨b6,0,none⟩)]) rfl (fun i c h' hi hle=>?_) (Fm.fstp_mono true) (fun i hi=>Fm.fstp_sv hl4 (by omega) hi) (by simp) H).go ?_
  ·have hc:=c_tr5 (i:=i) (c:=c) (hload_le hle hb6) (RK.le hle) (by rw[hKl];omega) (by rw[hKj (by omega),Fm.tvs_len];exact hi)
   simp only[hKj (show 0<x.kids.length by omega),Fm.tvs_at] at hc
   rw[← Fm.fstp10 c10 h2] at hc
   exact hc
  clear H
  rintro _ h8 ⟨O,H,HI,hf⟩
  simp -implicitDefEqProofs (disch:=first|omega|(simp only[LnZ];omega))[wrap64,H.bxld0]
  exact RetK.keep (fin H (Fm.fix_end hl4 true (.inr ⟨rfl,.inr c10⟩) HI hf))
 simp -implicitDefEqProofs (disch:=first|omega|(simp only[LnZ];omega))[wrap64,c7,c8,c9,c10,H.bxld0,H.sw1.rep.len]
 refine wp_count l.size (fun i e h'=>∃O,e=[none,none,some (.pointer (some ⟨b2,0,none⟩)),some (.agg #[.int .i64 x.kind,.int .i64 x.val,w]),none,some ww,some (.pointer (some ⟨b6,0,none⟩)),none,some (.pointer (some ⟨b8,0,none⟩)),none,none,none,none,none,none,some (.int .i64 l.size),some (.int .i64 i),none] ∧
  HS g1 [bx b8 [ow1],ow ow1 O] h'∧O.length=l.size∧O.take i=(Fm.tvs l x).take i) ⟨_,by simp,H,by simp,by simp⟩ ?_
 clear H
 rintro J i _ h8 hJ hi ⟨O,rfl,H,hOl,hOt⟩
 simp -implicitDefEqProofs (disch:=omega)[wrap64]
 refine IteW.mk (fun hlt=>?_) (fun hge=>?_)
 ·have hix:i<l.size:=by omega
  have hb6:=hload_le H.base hb6
  have RK:=RK.on H
  have hX:=RK.X (n:=1) rfl
  have hO:=H.sw1.rep.X (n:=1) rfl
  have hTl:=Fm.tvs_len (l:=l) (x:=x)
  have nxt:∀{y:Bool}{h9:Heap},HS g1 [ow ow1 (O.set i y),bx b8 [ow1]] h9→y=Fm.sv l x i→J [none,none,some (.pointer (some ⟨b2,0,none⟩)),some (.agg #[.int .i64 x.kind,.int .i64 x.val,w]),none,some ww,some (.pointer (some ⟨b6,0,none⟩)),none,some (.pointer (some ⟨b8,0,none⟩)),none,none,none,none,none,none,some (.int .i64 l.size),some (.int .i64 ((i+1:Nat):Int)),none] h9:=fun {y h9} H9 e=>hJ _ _ hix ⟨_,rfl,H9.sw1,by simpa using hOl,by
   have:=take_set_succ (x:=Fm.tvs l x) (y:=O) hOt (by omega) (by omega)
   rw[Fm.tvs_at] at this
   rw[e];exact this⟩
  have kid:∀{j:Nat}(hj:j<x.kids.length),∃u,hload h8 (some (elp 1 kw j)) none=some u∧Rep h8 u (Fm.tvs l x.kids[j]):=fun {j} hj=>by
   obtain⟨u,hu,Ru⟩:=RK.ldL (i:=j) (by rw[hKl];exact hj)
   rw[hKj hj] at Ru
   exact⟨u,hu,Ru⟩
  by_cases c1:x.kind=1
  ·simp -implicitDefEqProofs (disch:=first|omega|(simp only[LnZ];omega))[wrap64,c1,H.bxld0,hO]
   refine H.sw1.storeF true (i:=i) (by omega) rfl rfl trivial rfl fun h9 H=>?_
   simp -implicitDefEqProofs (disch:=omega)[wrap64]
   simpa[c1] using nxt H (Fm.sv1 c1).symm
  by_cases c2:x.kind=2
  ·have hlo:=hs.nd.lo
   have hhi:=hs.nd.hi
   obtain⟨q,hq⟩:∃q:Nat,x.val=q:=⟨_,(Int.toNat_of_nonneg hlo).symm⟩
   have hia:i<l.all.length:=by omega
   have hL:0≤l.all[i]∧l.all[i]≤7:=by
    have hm:l.all[i]∈l.stem++l.loop:=List.getElem_mem hia
    rcases List.mem_append.1 hm with hm | hm
    ·exact hl1 _ hm
    ·exact hl2 _ hm
   have hsv:=Fm.sv2 (l:=l) c2 hix
   obtain⟨L,hLd⟩:∃L:Nat,l.all[i]=L:=⟨_,(Int.toNat_of_nonneg hL.1).symm⟩
   rw[hLd,hq,Int.toNat_natCast,Int.toNat_natCast] at hsv
   have hp:=has_p (s:=L) (i:=q) (by omega) (by omega)
   have hwq:IntKind.u64.wrap (q:Int)=q:=u64_pos (by omega) (by omega)
   have hq0:¬(q:Int)<0:=by omega
   have hI:=(Rww.on H).I
   simp -implicitDefEqProofs (disch:=first|omega|(simp only[LnZ];omega))[wrap64,c1,c2,H.bxld0,hO,hI,hLd,hq,hwq,hq0,hp]
   refine H.sw1.storeF (L.testBit q) (i:=i) (by omega) rfl rfl trivial rfl fun h9 H=>?_
   simp -implicitDefEqProofs (disch:=omega)[wrap64]
   simpa[c2,hq] using nxt H hsv.symm
  by_cases c3:x.kind=3
  ·have h1:=hs.one (by omega)
   obtain⟨u0,hu0,Ru0⟩:=kid (j:=0) (by omega)
   have t0:=Fm.tvs_len (l:=l) (x:=x.kids[0])
   simp -implicitDefEqProofs (disch:=first|omega|(simp only[LnZ];omega))[wrap64,c1,c2,c3,H.bxld0,hO,hb6,hX,hu0,Ru0.B,Fm.tvs_at]
   refine H.sw1.storeF (!Fm.sv l x.kids[0] i) (i:=i) (by omega) rfl rfl trivial rfl fun h9 H=>?_
   simp -implicitDefEqProofs (disch:=omega)[wrap64]
   simpa[c3] using nxt H (Fm.sv3 c3 h1).symm
  by_cases c4:x.kind=4
  ·have h2:=hs.two (by omega)
   obtain⟨u0,hu0,Ru0⟩:=kid (j:=0) (by omega)
   obtain⟨u1,hu1,Ru1⟩:=kid (j:=1) (by omega)
   have t0:=Fm.tvs_len (l:=l) (x:=x.kids[0])
   have t1:=Fm.tvs_len (l:=l) (x:=x.kids[1])
   have B0:=Ru0.B
   have B1:=Ru1.B
   have hsv:=Fm.sv4 (l:=l) (i:=i) c4 h2
   cases e0:Fm.sv l x.kids[0] i with
   | false=>
    simp -implicitDefEqProofs (disch:=first|omega|(simp only[LnZ];omega))[wrap64,c1,c2,c3,c4,H.bxld0,hO,hb6,hX,hu0,B0,Fm.tvs_at,e0]
    refine H.sw1.storeF false (i:=i) (by omega) rfl rfl trivial rfl fun h9 H=>?_
    simp -implicitDefEqProofs (disch:=omega)[wrap64]
    simpa[c4] using nxt H (by rw[hsv,e0];rfl)
   | true=>
    simp -implicitDefEqProofs (disch:=first|omega|(simp only[LnZ];omega))[wrap64,c1,c2,c3,c4,H.bxld0,hO,hb6,hX,hu0,B0,Fm.tvs_at,e0,hu1,B1]
    refine H.sw1.storeF (Fm.sv l x.kids[1] i) (i:=i) (by omega) rfl rfl trivial rfl fun h9 H=>?_
    simp -implicitDefEqProofs (disch:=omega)[wrap64]
    simpa[c4] using nxt H (by rw[hsv,e0];rfl)
  by_cases c5:x.kind=5
  ·have h2:=hs.two (by omega)
   obtain⟨u0,hu0,Ru0⟩:=kid (j:=0) (by omega)
   obtain⟨u1,hu1,Ru1⟩:=kid (j:=1) (by omega)
   have t0:=Fm.tvs_len (l:=l) (x:=x.kids[0])
   have t1:=Fm.tvs_len (l:=l) (x:=x.kids[1])
   have B0:=Ru0.B
   have B1:=Ru1.B
   have hsv:=Fm.sv5 (l:=l) (i:=i) c5 h2
   cases e0:Fm.sv l x.kids[0] i with
   | true=>
    simp -implicitDefEqProofs (disch:=first|omega|(simp only[LnZ];omega))[wrap64,c1,c2,c3,c4,c5,H.bxld0,hO,hb6,hX,hu0,B0,Fm.tvs_at,e0]
    refine H.sw1.storeF true (i:=i) (by omega) rfl rfl trivial rfl fun h9 H=>?_
    simp -implicitDefEqProofs (disch:=omega)[wrap64]
    simpa[c5] using nxt H (by rw[hsv,e0];rfl)
   | false=>
    simp -implicitDefEqProofs (disch:=first|omega|(simp only[LnZ];omega))[wrap64,c1,c2,c3,c4,c5,H.bxld0,hO,hb6,hX,hu0,B0,Fm.tvs_at,e0,hu1,B1]
    refine H.sw1.storeF (Fm.sv l x.kids[1] i) (i:=i) (by omega) rfl rfl trivial rfl fun h9 H=>?_
    simp -implicitDefEqProofs (disch:=omega)[wrap64]
    simpa[c5] using nxt H (by rw[hsv,e0];rfl)
  have c6:x.kind=6:=by omega
  have h1:=hs.one (by omega)
  obtain⟨u0,hu0,Ru0⟩:=kid (j:=0) (by omega)
  have t0:=Fm.tvs_len (l:=l) (x:=x.kids[0])
  have hb2:=hload_le H.base hb2
  have hni:=hnx i hix
  have hB:=Ru0.B
  simp -implicitDefEqProofs (disch:=first|omega|(simp only[LnZ];omega))[wrap64,c1,c2,c3,c4,c5,c6,H.bxld0,hO,hb6,hX,hu0,hb2,FL]
  refine (c_nextL (RLg.on H) (by omega) (by omega) hix).go ?_
  rintro _ h8 ⟨rfl,rfl⟩
  simp -implicitDefEqProofs (disch:=first|omega|(simp only[LnZ];omega))[wrap64,H.bxld0,hO,hb6,hX,hu0,hB,Fm.tvs_at]
  refine H.sw1.storeF (Fm.sv l x.kids[0] (l.nx i)) (i:=i) (by omega) rfl rfl trivial rfl fun h9 H=>?_
  simp -implicitDefEqProofs (disch:=omega)[wrap64]
  simpa[c6] using nxt H (Fm.sv6 c6 h1 hl4 hix).symm
 simp -implicitDefEqProofs (disch:=first|omega|(simp only[LnZ];omega))[wrap64,H.bxld0]
 refine RetK.keep (fin H ?_)
 rw[List.take_of_length_le (by omega),List.take_of_length_le (by rw[Fm.tvs_len];omega)] at hOt
 exact hOt
namespace Fm
noncomputable def satB (l:Las) (x:Exq):Bool:=@decide (l.Ok∧Ok x∧sat l.word x 0) (Classical.propDecidable _)
end Fm
theorem c_Satisfies {h:Heap}{v w:Value}{l:Las}{x:Exq}(RL:Rep h v l) (R:Rep h w x):CallE Tryz.prog fn_impl_Satisfies [v,w] h (fun u h'=>h.le h'∧u=.tuple #[.bool (Fm.satB l x),.bool (decide (l.Ok∧Fm.Ok x))]):=by
 have FX:=R.aExq
 have FL:=RL.aLas
 refine CallE.gen fun k hk=>EN_impl_Satisfies rfl ?_
 simp -implicitDefEqProofs (disch:=first|omega|(simp only[LnZ];omega))[wrap64,FX,FL]
 refine (c_LassoValid RL).go ?_
 rintro _ h1 ⟨l1,rfl⟩
 by_cases q1:l.Ok
 case neg=>
  simp -implicitDefEqProofs (disch:=first|omega|(simp only[LnZ];omega))[wrap64,q1]
  exact RetK.keep (hk _ _ ⟨l1,by simp[q1,Fm.satB]⟩)
 simp -implicitDefEqProofs (disch:=first|omega|(simp only[LnZ];omega))[wrap64,q1,FX]
 refine (c_FormulaValid (R.le l1)).go ?_
 rintro _ h2 ⟨l2,rfl⟩
 by_cases q2:Fm.Ok x
 case neg=>
  simp -implicitDefEqProofs (disch:=first|omega|(simp only[LnZ];omega))[wrap64,q2]
  exact RetK.keep (hk _ _ ⟨l1.trans l2,by simp[q1,q2,Fm.satB]⟩)
 have l12:=l1.trans l2
 simp -implicitDefEqProofs (disch:=first|omega|(simp only[LnZ];omega))[wrap64,q2,FX,FL]
 refine (c_truths q1 x q2.1 (RL.le l12) (R.le l12)).go ?_
 intro tw h3 H
 have ht:=Fm.tvs_len (l:=l) (x:=x)
 have h0:0<l.size:=by have:=q1.2.2.1;unfold Las.size;omega
 have hB:=H.rep.B
 simp -implicitDefEqProofs (disch:=first|omega|(simp only[LnZ];omega))[wrap64,hB,ht,Fm.tvs_at]
 refine RetK.keep (hk _ _ ⟨l12.trans H.base,?_⟩)
 have:Fm.satB l x=Fm.sv l x 0:=by
  rw[Bool.eq_iff_iff,Fm.sv_iff]
  simp[Fm.satB,q1,q2]
 rw[this]
 simp[q1,q2]
namespace Fm
structure Mv where
 care:Int
 value:Int
 to:List Int
def exRow (i:Nat) (M:List Mv) (q:List (List Int)×List Tr):List (List Int)×List Tr:=
 M.foldl (fun q m=>(adL q.1 m.to,q.2++[⟨(i:Int),m.care,m.value,atL q.1 m.to⟩])) q
section
variable (mv:List Int→List Mv) (ac:List Int→Bool) (L0:List (List Int))
def exN:Nat→List (List Int)×List Bool×List Tr
 | 0=>(L0,[],[])
 | n+1=>let r:=exN n
  if n<r.1.length then
   let q:=exRow n (mv (r.1.getD n [])) (r.1,r.2.2)
   (q.1,r.2.1++[ac (r.1.getD n [])],q.2)
  else r
def exA:Aut:=⟨upto L0.length,if L0=[] then [false] else (exN mv ac L0 64).2.1,(exN mv ac L0 64).2.2⟩
end
section
variable {mv:List Int→List Mv}{ac:List Int→Bool}{L0:List (List Int)}
structure ER (i:Nat) (M:List Mv) (q r:List (List Int)×List Tr):Prop where
 pre:∀(j:Nat) x,q.1[j]? = some x→r.1[j]? = some x
 old:∀e∈q.2,e∈r.2
 new:∀e∈r.2,e∈q.2∨∃m∈M,∃j:Nat,e=⟨(i:Int),m.care,m.value,(j:Int)⟩∧r.1[j]? = some m.to
 all:∀m∈M,∃j:Nat,r.1[j]? = some m.to∧⟨(i:Int),m.care,m.value,(j:Int)⟩∈r.2
 ge:q.1.length≤r.1.length
 el:r.2.length=q.2.length+M.length
 mem:∀x∈r.1,x∈q.1∨∃m∈M,x=m.to
theorem exRow_er {i:Nat}:∀(M:List Mv) (q:List (List Int)×List Tr),ER i M q (exRow i M q)
 | [],q=>⟨fun _ _ h=>h,fun _ h=>h,fun _ h=>.inl h,fun _ h=>by simp at h,Nat.le_refl _,by simp[exRow],fun _ h=>.inl h⟩
 | m::M,q=>by
  have ih:=exRow_er (i:=i) M (adL q.1 m.to,q.2++[⟨(i:Int),m.care,m.value,atL q.1 m.to⟩])
  have he:exRow i (m::M) q=exRow i M (adL q.1 m.to,q.2++[⟨(i:Int),m.care,m.value,atL q.1 m.to⟩]):=rfl
  obtain⟨j,e1,e2⟩:=atL_mem (L:=q.1) (p:=m.to)
  rw[e1] at ih he
  rw[he]
  have hl:=adL_len (L:=q.1) (p:=m.to)
  refine⟨fun j x h=>ih.pre j x (adL_get h),fun e h=>ih.old e (List.mem_append_left _ h),fun e h=>?_,fun m' h=>?_,by have:=ih.ge;simp only at this;omega,by rw[ih.el];simp only[List.length_append,List.length_cons,List.length_nil];omega,fun x h=>?_⟩
  ·rcases ih.new e h with h | ⟨m',hm',j',h1,h2⟩
   ·rcases List.mem_append.1 h with h | h
    ·exact .inl h
    ·rw[List.mem_singleton] at h
     exact .inr ⟨m,by simp,j,h,ih.pre j _ e2⟩
   ·exact .inr ⟨m',by simp[hm'],j',h1,h2⟩
  ·rcases List.mem_cons.1 h with rfl | h
   ·exact⟨j,ih.pre j _ e2,ih.old _ (by simp)⟩
   ·exact ih.all m' h
  ·rcases ih.mem x h with h | ⟨m',hm',h⟩
   ·simp only at h
    unfold adL at h
    split at h
    ·exact .inl h
    ·rcases List.mem_append.1 h with h | h
     ·exact .inl h
     ·rw[List.mem_singleton] at h
      exact .inr ⟨m,by simp,h⟩
   ·exact .inr ⟨m',by simp[hm'],h⟩
theorem exN_succ {n:Nat}{s:List Int}(h:(exN mv ac L0 n).1[n]? = some s):exN mv ac L0 (n+1)=((exRow n (mv s) ((exN mv ac L0 n).1,(exN mv ac L0 n).2.2)).1,(exN mv ac L0 n).2.1++[ac s],(exRow n (mv s) ((exN mv ac L0 n).1,(exN mv ac L0 n).2.2)).2):=by
 obtain⟨hl,he⟩:=List.getElem?_eq_some_iff.1 h
 have eg:(exN mv ac L0 n).1.getD n []=s:=by rw[List.getD_eq_getElem?_getD,h];rfl
 rw[exN]
 simp only
 rw[if_pos hl,eg]
theorem exN_stop {n:Nat}(h:(exN mv ac L0 n).1.length≤n):∀m,n≤m→exN mv ac L0 m=exN mv ac L0 n
 | m,hm=>by
  induction m with
  | zero=>obtain rfl:n=0:=by omega
          rfl
  | succ m ih=>
   by_cases e:n=m+1
   ·rw[e]
   ·have h1:=ih (by omega)
    rw[exN]
    simp only
    rw[h1,if_neg (by omega)]
theorem exN_mono (n:Nat):(exN mv ac L0 n).1.length≤(exN mv ac L0 (n+1)).1.length∧(exN mv ac L0 n).2.2.length≤(exN mv ac L0 (n+1)).2.2.length:=by
 by_cases h:n<(exN mv ac L0 n).1.length
 ·rw[exN_succ (List.getElem?_eq_getElem h)]
  have I:=exRow_er (i:=n) (mv ((exN mv ac L0 n).1[n])) ((exN mv ac L0 n).1,(exN mv ac L0 n).2.2)
  have h1:=I.ge
  have h2:=I.el
  simp only at h1 h2 ⊢
  omega
 ·rw[exN_stop (n:=n) (by omega) (n+1) (by omega)]
  omega
theorem exN_mono2 {n m:Nat}(h:n≤m):(exN mv ac L0 n).1.length≤(exN mv ac L0 m).1.length∧(exN mv ac L0 n).2.2.length≤(exN mv ac L0 m).2.2.length:=by
 obtain⟨k,rfl⟩:=Nat.exists_eq_add_of_le h
 induction k with
 | zero=>exact⟨Nat.le_refl _,Nat.le_refl _⟩
 | succ k ih=>
  have h1:=ih (by omega)
  have h2:=exN_mono (mv:=mv) (ac:=ac) (L0:=L0) (n+k)
  rw[← Nat.add_assoc]
  omega
theorem exN_al:∀n,(∀m,m<n→m<(exN mv ac L0 m).1.length)→(exN mv ac L0 n).2.1.length=n
 | 0,_=>rfl
 | n+1,h=>by
  have ih:=exN_al n fun m hm=>h m (by omega)
  rw[exN_succ (List.getElem?_eq_getElem (h n (by omega)))]
  simp[ih]
theorem exN_all {P:List Int→Prop}(h0:∀x∈L0,P x) (hs:∀x,P x→∀m∈mv x,P m.to):∀n,∀x∈(exN mv ac L0 n).1,P x
 | 0=>h0
 | n+1=>by
  have ih:=exN_all h0 hs n
  by_cases h:n<(exN mv ac L0 n).1.length
  ·rw[exN_succ (List.getElem?_eq_getElem h)]
   have I:=exRow_er (i:=n) (mv ((exN mv ac L0 n).1[n])) ((exN mv ac L0 n).1,(exN mv ac L0 n).2.2)
   intro x hx
   rcases I.mem x hx with hx | ⟨m,hm,rfl⟩
   ·exact ih x hx
   ·exact hs _ (ih _ (List.getElem_mem h)) m hm
  ·rw[exN_stop (n:=n) (by omega) (n+1) (by omega)]
   exact ih
structure ET (mv:List Int→List Mv) (ac:List Int→Bool) (L0:List (List Int)) (n:Nat) (r:List (List Int)×List Bool×List Tr):Prop where
 pre:∀(j:Nat) x,L0[j]? = some x→r.1[j]? = some x
 new:∀e∈r.2.2,∃(i:Nat) (s:List Int),i<n∧r.1[i]? = some s∧∃m∈mv s,∃j:Nat,e=⟨(i:Int),m.care,m.value,(j:Int)⟩∧r.1[j]? = some m.to
 all:∀(i:Nat) (s:List Int),i<n→r.1[i]? = some s→∀m∈mv s,∃j:Nat,r.1[j]? = some m.to∧⟨(i:Int),m.care,m.value,(j:Int)⟩∈r.2.2
 acc:∀(i:Nat) (s:List Int),i<n→r.1[i]? = some s→r.2.1[i]? = some (ac s)
theorem exN_et:∀n,(∀m,m<n→m<(exN mv ac L0 m).1.length)→ET mv ac L0 n (exN mv ac L0 n)
 | 0,_=>⟨fun _ _ h=>h,fun e h=>by simp[exN] at h,fun _ _ h=>absurd h (Nat.not_lt_zero _),fun _ _ h=>absurd h (Nat.not_lt_zero _)⟩
 | n+1,hgo=>by
  have ih:=exN_et n fun m hm=>hgo m (by omega)
  have h1:=hgo n (by omega)
  have hal:=exN_al (mv:=mv) (ac:=ac) (L0:=L0) n fun m hm=>hgo m (by omega)
  have hnn:=List.getElem?_eq_getElem h1
  generalize hs:(exN mv ac L0 n).1[n]=s at hnn
  rw[exN_succ hnn]
  have I:=exRow_er (i:=n) (mv s) ((exN mv ac L0 n).1,(exN mv ac L0 n).2.2)
  have back:∀(i:Nat) x,i<(exN mv ac L0 n).1.length→(exRow n (mv s) ((exN mv ac L0 n).1,(exN mv ac L0 n).2.2)).1[i]? = some x→(exN mv ac L0 n).1[i]? = some x:=by
   intro i x hi hx
   have:=I.pre i _ (List.getElem?_eq_getElem hi)
   rw[this] at hx
   rw[List.getElem?_eq_getElem hi];exact hx
  refine⟨fun j x h=>I.pre j x (ih.pre j x h),fun e he=>?_,fun i t hi hx m hm=>?_,fun i t hi hx=>?_⟩
  ·rcases I.new e he with h | ⟨m,hm,j,h2,h3⟩
   ·obtain⟨i,t,g1,g2,m,hm,j,g3,g4⟩:=ih.new e h
    exact⟨i,t,by omega,I.pre _ _ g2,m,hm,j,g3,I.pre _ _ g4⟩
   ·exact⟨n,s,by omega,I.pre _ _ hnn,m,hm,j,h2,h3⟩
  ·simp only at hx
   by_cases e:i=n
   ·subst e
    rw[I.pre _ _ hnn] at hx
    obtain rfl:=Option.some.inj hx
    exact I.all m hm
   ·obtain⟨j,g1,g2⟩:=ih.all i t (by omega) (back i _ (by omega) hx) m hm
    exact⟨j,I.pre _ _ g1,I.old _ g2⟩
  ·simp only at hx ⊢
   by_cases e:i=n
   ·subst e
    rw[I.pre _ _ hnn] at hx
    obtain rfl:=Option.some.inj hx
    rw[List.getElem?_append_right (by omega),hal]
    simp
   ·rw[List.getElem?_append_left (by omega)]
    exact ih.acc i t (by omega) (back i _ (by omega) hx)
structure EF (mv:List Int→List Mv) (ac:List Int→Bool) (L0:List (List Int)) (r:List (List Int)×List Bool×List Tr):Prop where
 pre:∀(j:Nat) x,L0[j]? = some x→r.1[j]? = some x
 new:∀e∈r.2.2,∃(i:Nat) (s:List Int),r.1[i]? = some s∧∃m∈mv s,∃j:Nat,e=⟨(i:Int),m.care,m.value,(j:Int)⟩∧r.1[j]? = some m.to
 all:∀(i:Nat) (s:List Int),r.1[i]? = some s→∀m∈mv s,∃j:Nat,r.1[j]? = some m.to∧⟨(i:Int),m.care,m.value,(j:Int)⟩∈r.2.2
 acc:∀(i:Nat) (s:List Int),r.1[i]? = some s→r.2.1[i]? = some (ac s)
 len:r.2.1.length=r.1.length
theorem exN_go {K:Nat}(hK:(exN mv ac L0 K).1.length≤K):∃n,n≤K∧n=(exN mv ac L0 K).1.length∧exN mv ac L0 K=exN mv ac L0 n∧∀m,m<n→m<(exN mv ac L0 m).1.length:=by
 refine⟨_,hK,rfl,?_,fun m hm=>?_⟩
 ·obtain⟨n,hn⟩:∃n,n=(exN mv ac L0 K).1.length:=⟨_,rfl⟩
  rw[← hn] at hK ⊢
  exact exN_stop (by have:=(exN_mono2 (mv:=mv) (ac:=ac) (L0:=L0) hK).1;omega) K hK
 ·apply Classical.byContradiction
  intro hno
  have:=exN_stop (mv:=mv) (ac:=ac) (L0:=L0) (n:=m) (by omega) K (by omega)
  rw[this] at hm
  omega
theorem exN_ef {K:Nat}(hK:(exN mv ac L0 K).1.length≤K):EF mv ac L0 (exN mv ac L0 K):=by
 obtain⟨n,h1,h2,h3,h4⟩:=exN_go hK
 have T:=exN_et n h4
 have hal:=exN_al (mv:=mv) (ac:=ac) (L0:=L0) n h4
 rw[h3] at h2 ⊢
 have lt:∀{i:Nat}{x:List Int},(exN mv ac L0 n).1[i]? = some x→i<n:=fun h=>by have:=(List.getElem?_eq_some_iff.1 h).1;omega
 exact⟨T.pre,fun e h=>by
  obtain⟨i,s,_,g⟩:=T.new e h
  exact⟨i,s,g⟩,fun i s h=>T.all i s (lt h) h,fun i s h=>T.acc i s (lt h) h,by omega⟩
theorem upto_incr {n k:Nat}(h:k≤n):incr n (-1) (upto k):=by
 rw[incr_iff]
 constructor
 ·unfold upto
  rw[List.pairwise_map]
  exact List.pairwise_lt_range.imp fun h=>by omega
 ·intro x hx
  obtain⟨i,h1,rfl⟩:=upto_mem.1 hx
  omega
theorem exA_acc (hK:(exN mv ac L0 64).1.length≤64):(exA mv ac L0).acc.length=if L0=[] then 1 else (exN mv ac L0 64).1.length:=by
 unfold exA
 simp only
 split
 ·rfl
 ·exact (exN_ef hK).len
theorem exN_nil:∀n,(exN mv ac [] n)=([],[],[])
 | 0=>rfl
 | n+1=>by rw[exN,exN_nil n];rfl
theorem exN_pre {K:Nat}:L0.length≤(exN mv ac L0 K).1.length:=(exN_mono2 (mv:=mv) (ac:=ac) (L0:=L0) (Nat.zero_le K)).1
theorem exA_ok (hK:(exN mv ac L0 64).1.length≤64) (hE:(exN mv ac L0 64).2.2.length≤2048) (hm:∀x∈(exN mv ac L0 64).1,∀m∈mv x,∃c v:Nat,m.care=c∧m.value=v∧c<8∧v&&&c=v):(exA mv ac L0).Ok:=by
 have hacc:=exA_acc hK
 by_cases h0:L0=[]
 ·subst h0
  rw[if_pos rfl] at hacc
  have he:(exA mv ac []).edges=[]:=by unfold exA;rw[exN_nil]
  have hi:(exA mv ac []).init=[]:=by unfold exA;rfl
  refine⟨by omega,by rw[he];simp,by rw[hi];trivial,fun t ht=>by rw[he] at ht;simp at ht⟩
 ·rw[if_neg h0] at hacc
  have T:=exN_ef hK
  have hpre:=exN_pre (mv:=mv) (ac:=ac) (L0:=L0) (K:=64)
  have h1:1≤L0.length:=by
   have:=List.length_pos_iff.2 h0
   omega
  have hed:(exA mv ac L0).edges=(exN mv ac L0 64).2.2:=by unfold exA;simp only
  have hin:(exA mv ac L0).init=upto L0.length:=by unfold exA;simp only
  refine⟨by omega,by rw[hed];exact hE,by rw[hin,hacc];exact upto_incr hpre,fun t ht=>?_⟩
  rw[hed] at ht
  obtain⟨i,s,h2,m,h3,j,rfl,h4⟩:=T.new t ht
  obtain⟨g1,_⟩:=List.getElem?_eq_some_iff.1 h2
  obtain⟨g2,_⟩:=List.getElem?_eq_some_iff.1 h4
  obtain⟨c,v,e1,e2,e3,e4⟩:=hm s (List.mem_of_getElem? h2) m h3
  have hv:v≤c:=by rw[← e4];exact Nat.and_le_right
  rw[hacc]
  refine⟨by simp only;omega,by simp only;omega,by simp only;omega,by simp only;omega,by simp only;omega,by simp only;omega,by simp only;omega,?_⟩
  simp only
  rw[e1,e2,i64_and (by omega) (by omega),e4]
end
end Fm
namespace Fm
section
variable (B:List Exq) (U:List Int)
noncomputable def mvS (s:Nat) (p:Int) (m:Nat):List Mv:=((List.range m).filter fun t=>decide (Fol B s t)).map fun (t:Nat)=>⟨((ltc B B.length:Nat):Int),((ltv B s B.length:Nat):Int),[(t:Int),p]⟩
noncomputable def mvT (x:List Int):List Mv:=mvS B (x.getD 0 0).toNat (phs B U (x.getD 0 0).toNat (x.getD 1 0)).1 (2^B.length)
noncomputable def acT (x:List Int):Bool:=(phs B U (x.getD 0 0).toNat (x.getD 1 0)).2
end
section
variable {B:List Exq}{U:List Int}{L0:List (List Int)}
theorem mvS_succ {s:Nat}{p:Int}{m:Nat}:mvS B s p (m+1)=mvS B s p m++if Fol B s m then [⟨((ltc B B.length:Nat):Int),((ltv B s B.length:Nat):Int),[(m:Int),p]⟩] else []:=by
 unfold mvS
 rw[List.range_succ,List.filter_append,List.map_append]
 congr 1
 by_cases h:Fol B s m
 ·simp[h]
 ·simp[h]
theorem trow_ex {i s:Nat}{p:Int}{q:List (List Int)×List Tr}:∀m,trow B i s p m q=exRow i (mvS B s p m) q
 | 0=>rfl
 | m+1=>by
  have ih:=trow_ex (i:=i) (s:=s) (p:=p) (q:=q) m
  rw[mvS_succ]
  unfold trow
  simp only
  rw[ih]
  unfold exRow
  split
  ·rw[List.foldl_append];rfl
  ·rw[List.append_nil]
theorem tN_ex:∀n,(∀m,m<n→(tN B U L0 m).1.length≤64)→tN B U L0 n=exN (mvT B U) (acT B U) L0 n
 | 0,_=>rfl
 | n+1,h=>by
  have ih:=tN_ex n fun m hm=>h m (by omega)
  have h1:=h n (by omega)
  rw[tN,exN]
  simp only
  rw[← ih]
  by_cases hc:n<(tN B U L0 n).1.length
  ·rw[if_pos ⟨hc,h1⟩,if_pos hc,trow_ex];rfl
  ·rw[if_neg (fun hh=>hc hh.1),if_neg hc]
theorem tN_small (h0:LOk2 (2^B.length) U L0) (hl:L0.length≤2^B.length):(tN B U L0 64).1.length≤64↔(exN (mvT B U) (acT B U) L0 64).1.length≤64:=by
 constructor
 ·intro h
  rw[← tN_ex 64 fun m hm=>by have:=tN_mono2 h0 hl (n:=m) (m:=64) (by omega);omega]
  exact h
 ·intro h
  have key:∀n,n≤64→tN B U L0 n=exN (mvT B U) (acT B U) L0 n:=by
   intro n
   induction n with
   | zero=>intro _;rfl
   | succ n ih=>
    intro hn
    refine tN_ex (n+1) fun m hm=>?_
    by_cases e:m=n
    ·subst e
     rw[ih (by omega)]
     have:=(exN_mono2 (mv:=mvT B U) (ac:=acT B U) (L0:=L0) (show m≤64 by omega)).1
     omega
    ·have h1:=tN_mono2 h0 hl (n:=m) (m:=n) (by omega)
     rw[ih (by omega)] at h1
     have:=(exN_mono2 (mv:=mvT B U) (ac:=acT B U) (L0:=L0) (show n≤64 by omega)).1
     omega
  rw[key 64 (Nat.le_refl _)]
  exact h
theorem tN_is (h0:LOk2 (2^B.length) U L0) (hl:L0.length≤2^B.length) (h:(tN B U L0 64).1.length≤64):tN B U L0 64=exN (mvT B U) (acT B U) L0 64:=
 tN_ex 64 fun m hm=>by have:=tN_mono2 h0 hl (n:=m) (m:=64) (by omega);omega
end
theorem trA_ex {x:Exq}(h:trOk x):trA x=exA (mvT (basics x) (unt (basics x) (basics x).length)) (acT (basics x) (unt (basics x) (basics x).length)) (ini0 (basics x) (push x false) (2^(basics x).length)):=by
 have h64:=h.2
 have hi:(ini0 (basics x) (push x false) (2^(basics x).length)).length≤(trT x).1.length:=by
  unfold trT
  exact tN_mono2 (n:=0) (m:=64) (ini0_ok (Nat.le_refl _)) (ini0_len _) (by omega)
 have ht:trT x=exN (mvT (basics x) (unt (basics x) (basics x).length)) (acT (basics x) (unt (basics x) (basics x).length)) (ini0 (basics x) (push x false) (2^(basics x).length)) 64:=by
  unfold trT at h64 ⊢
  exact tN_is (ini0_ok (Nat.le_refl _)) (ini0_len _) h64
 have hn:(trT x).1=[]↔ini0 (basics x) (push x false) (2^(basics x).length)=[]:=by
  constructor
  ·intro h1
   rw[h1] at hi
   exact List.length_eq_zero_iff.1 (by simp only[List.length_nil] at hi;omega)
  ·intro h1
   rw[ht,h1,exN_nil]
 unfold trA exA
 rw[← ht]
 by_cases e:(trT x).1=[]
 ·rw[if_pos e,if_pos (hn.1 e)]
 ·rw[if_neg e,if_neg (fun hh=>e (hn.2 hh))]
theorem trOk_ex {x:Exq}:trOk x↔bOk x∧(exN (mvT (basics x) (unt (basics x) (basics x).length)) (acT (basics x) (unt (basics x) (basics x).length)) (ini0 (basics x) (push x false) (2^(basics x).length)) 64).1.length≤64:=by
 unfold trOk trT
 rw[tN_small (ini0_ok (Nat.le_refl _)) (ini0_len _)]
theorem mvT_len {B:List Exq}{U:List Int}{x:List Int}:(mvT B U x).length≤2^B.length:=by
 unfold mvT mvS
 rw[List.length_map]
 have:=List.length_filter_le (fun t=>decide (Fol B (x.getD 0 0).toNat t)) (List.range (2^B.length))
 rw[List.length_range] at this
 exact this
theorem exN_edges {mv:List Int→List Mv}{ac:List Int→Bool}{L0:List (List Int)}{k:Nat}(h:∀x,(mv x).length≤k):∀n,(exN mv ac L0 n).2.2.length≤n*k
 | 0=>by simp[exN]
 | n+1=>by
  have ih:=exN_edges h n (ac:=ac) (L0:=L0)
  by_cases hc:n<(exN mv ac L0 n).1.length
  ·rw[exN_succ (List.getElem?_eq_getElem hc)]
   have I:=(exRow_er (i:=n) (mv ((exN mv ac L0 n).1[n])) ((exN mv ac L0 n).1,(exN mv ac L0 n).2.2)).el
   have:=h ((exN mv ac L0 n).1[n])
   simp only at I ⊢
   rw[I,Nat.add_mul]
   omega
  ·rw[exN_stop (n:=n) (by omega) (n+1) (by omega),Nat.add_mul]
   omega
end Fm
theorem has_v {s i:Nat}(hs:s<4611686018427387904) (hi:i<64):andI .i64 (shrI .i64 (s:Int) (i:Int)) 1=if s.testBit i then 1 else 0:=by
 have h1:=has_p hs hi
 have h2:=has_z hs hi
 cases e:s.testBit i with
 | true=>rw[e] at h1;simpa using h1
 | false=>rw[e] at h2;simpa using h2
namespace Fm
noncomputable def tmv (B:List Exq) (s:Nat) (p:Int) (n:Nat):List (Int×Int×Int×Int):=((List.range n).filter fun t=>decide (Fol B s t)).map fun (t:Nat)=>(((ltc B B.length:Nat):Int),((ltv B s B.length:Nat):Int),(t:Int),p)
theorem tmv_succ {B:List Exq}{s:Nat}{p:Int}{m:Nat}:tmv B s p (m+1)=tmv B s p m++if Fol B s m then [(((ltc B B.length:Nat):Int),((ltv B s B.length:Nat):Int),(m:Int),p)] else []:=by
 unfold tmv
 rw[List.range_succ,List.filter_append,List.map_append]
 congr 1
 by_cases h:Fol B s m
 ·simp[h]
 ·simp[h]
theorem tmv_len {B:List Exq}{s:Nat}{p:Int}{m:Nat}:(tmv B s p m).length≤m:=by
 unfold tmv
 rw[List.length_map]
 have:=List.length_filter_le (fun t=>decide (Fol B s t)) (List.range m)
 rw[List.length_range] at this
 exact this
theorem tmv_mvS {B:List Exq}{s:Nat}{p:Int}{m:Nat}:(tmv B s p m).map (fun q=>(⟨q.1,q.2.1,[q.2.2.1,q.2.2.2]⟩:Mv))=mvS B s p m:=by
 unfold tmv mvS
 rw[List.map_map]
 rfl
end Fm
theorem c_moves {h:Heap}{w uv:Value}{B:List Exq}{bt s:Nat}{p:Int}(hB:Fm.Bc B) (hn5:B.length≤5) (hs:s<4611686018427387904) (hp:Fm.POk (Fm.unt B B.length) p) (R:Rep h w B) (RU:Rep h uv (Fm.unt B B.length))
  (hbt:hload h (some (.pointer (some ⟨bt,0,none⟩))) none=some w) (hbu:hload h (some (.pointer (some ⟨bt,1,none⟩))) none=some uv) :
  CallE Tryz.prog fn_impl_translator_moves [.pointer (some ⟨bt,0,none⟩),.agg #[.int .i64 s,.int .i64 p]] h (fun u h'=>HS h [ow u (Fm.tmv B s (Fm.phs B (Fm.unt B B.length) s p).1 (2^B.length))] h'):=by
 have hL:=R.lt
 have hall:∀y∈B,Fm.Shp 6 y:=fun y hy=>(hB.2 y hy).1
 have hul:=Fm.unt_len (B:=B) B.length
 have hum:∀{u:Int},u∈Fm.unt B B.length→_:=fun h=>Fm.unt_mem h
 have hpo:=Fm.phs_ok (B:=B) (s:=s) hp
 obtain⟨p',hp'⟩:∃p',p'=(Fm.phs B (Fm.unt B B.length) s p).1:=⟨_,rfl⟩
 rw[← hp'] at hpo ⊢
 unfold Fm.phs at hp'
 generalize Fm.unt B B.length=U at *
 have hc32:2^B.length≤32:=Nat.pow_le_pow_right (n:=2) (by omega) hn5
 refine CallE.gen fun k hk=>EN_impl_translator_moves rfl ?_
 simp -implicitDefEqProofs (disch:=first|omega|(simp only[LnZ];omega))[wrap64,setC,hbt,R.len]
 refine wp_count B.length (fun i e h'=>e=[some (.pointer (some ⟨bt,0,none⟩)),none,some (.agg #[.int .i64 s,.int .i64 p]),none,some (.int .i64 ((Fm.ltc B i:Nat):Int)),some (.int .i64 ((Fm.ltv B s i:Nat):Int)),some (.int .i64 p),none,none,none,none,none,some w,some (.int .i64 B.length),some (.int .i64 i),none,none]∧h'=h) ⟨by simp[Fm.ltc,Fm.ltv],rfl⟩ ?_
 rintro J i _ h hJ hi ⟨rfl,rfl⟩
 simp -implicitDefEqProofs (disch:=omega)[wrap64]
 refine IteW.mk (fun hlt=>?_) (fun hge=>?_)
 ·have hlx:i<B.length:=by omega
  have hc:=Fm.ltc_lt hall i (by omega)
  have hv:=Fm.ltv_lt (s:=s) hall i (by omega)
  have e:B.getD i Exq.zero=B[i]:=by simp[hlx]
  have hc1:Fm.ltc B (i+1)=if B[i].kind=2 then Fm.ltc B i|||1<<<B[i].val.toNat else Fm.ltc B i:=by rw[Fm.ltc,e]
  have hv1:Fm.ltv B s (i+1)=if B[i].kind=2∧s.testBit i=true then Fm.ltv B s i|||1<<<B[i].val.toNat else Fm.ltv B s i:=by rw[Fm.ltv,e]
  have hsp:=hall _ (List.getElem_mem hlx)
  obtain⟨u,hu,Ru⟩:=R.ld hlx
  change hload _ (some (elp 3 w i)) (some 3)=some u at hu
  obtain⟨wk,rfl,k1,k2,R1⟩:=Rep_Exq.1 Ru
  have kO:=R1.one
  have hX:=R.X (n:=3) rfl
  have hlo:=hsp.nd.lo
  have hhi:=hsp.nd.hi
  obtain⟨q,hq⟩:∃q:Nat,B[i].val=q:=⟨_,(Int.toNat_of_nonneg hlo).symm⟩
  have hq3:q<3:=by omega
  have hsl:shlI .i64 1 (q:Int)=((1<<<q:Nat):Int):=i64_shl1 (by omega)
  have hsz:shlI .i64 0 (q:Int)=0:=by
   obtain rfl | rfl | rfl:q=0∨q=1∨q=2:=by omega
   all_goals decide
  have hs8:=Fm.sh3 hq3
  have huq:IntKind.u64.wrap (q:Int)=q:=u64_pos (by omega) (by omega)
  have hq0:¬(q:Int)<0:=by omega
  have hw:IntKind.u64.wrap (i:Int)=i:=u64_pos (by omega) (by omega)
  have hi0:¬(i:Int)<0:=by omega
  have hbv:=has_v (i:=i) hs (by omega)
  have ho1:orI .i64 ((Fm.ltc B i:Nat):Int) ((1<<<q:Nat):Int)=((Fm.ltc B i|||1<<<q:Nat):Int):=i64_or (by omega) (by omega)
  have ho2:orI .i64 ((Fm.ltv B s i:Nat):Int) ((1<<<q:Nat):Int)=((Fm.ltv B s i|||1<<<q:Nat):Int):=i64_or (by omega) (by omega)
  have ho3:orI .i64 ((Fm.ltv B s i:Nat):Int) 0=((Fm.ltv B s i:Nat):Int):=by
   have:=i64_or (a:=Fm.ltv B s i) (b:=0) (by omega) (by omega)
   simpa using this
  rw[hq,Int.toNat_natCast] at hc1 hv1
  by_cases c2:B[i].kind=2
  case neg=>
   rw[if_neg c2] at hc1
   rw[if_neg (fun hh=>c2 hh.1)] at hv1
   simp -implicitDefEqProofs (disch:=first|omega|(simp only[LnZ];omega))[wrap64,hX,hu,setC,kO,c2]
   exact hJ _ _ hlx ⟨by simp[hc1,hv1],rfl⟩
  rw[if_pos c2] at hc1
  generalize hA:1<<<q=A at *
  cases hb:s.testBit i with
  | false=>
   rw[if_neg (fun hh=>by rw[hb] at hh;exact absurd hh.2 (by decide))] at hv1
   rw[hb,if_neg (by decide)] at hbv
   simp -implicitDefEqProofs (disch:=first|omega|(simp only[LnZ];omega))[wrap64,hX,hu,setC,kO,c2,hq,huq,hq0,hsl,ho1,hw,hi0,hbv,hsz,ho3]
   exact hJ _ _ hlx ⟨by simp[hc1,hv1],rfl⟩
  | true=>
   rw[if_pos ⟨c2,hb⟩] at hv1
   rw[hb,if_pos rfl] at hbv
   simp -implicitDefEqProofs (disch:=first|omega|(simp only[LnZ];omega))[wrap64,hX,hu,setC,kO,c2,hq,huq,hq0,hsl,ho1,hw,hi0,hbv,ho2]
   exact hJ _ _ hlx ⟨by simp[hc1,hv1],rfl⟩
 obtain rfl:i=B.length:=by omega
 have hc8:=Fm.ltc_lt hall B.length (Nat.le_refl _)
 have hv8:=Fm.ltv_lt (s:=s) hall B.length (Nat.le_refl _)
 have hcnt:shlI .i64 1 (B.length:Int)=((2^B.length:Nat):Int):=by rw[i64_shl1 (by omega),Nat.shiftLeft_eq,Nat.one_mul]
 have hcw:IntKind.u64.wrap (B.length:Int)=B.length:=u64_pos (by omega) (by omega)
 have hcw0:¬(B.length:Int)<0:=by omega
 have hp64:I64 p':=by
  have h1:=hpo.1
  have h2:=hpo.2
  exact⟨by omega,by omega⟩
 have main:∀{h2:Heap}{q7 q8 q9 q10 q11 q12 q13 q14 q15 q16:Option Value},h.le h2→K42_12.wp Tryz.prog (retQ [(3,none)] k) [some (.pointer (some ⟨bt,0,none⟩)),none,some (.agg #[.int .i64 s,.int .i64 p]),none,some (.int .i64 ((Fm.ltc B B.length:Nat):Int)),some (.int .i64 ((Fm.ltv B s B.length:Nat):Int)),some (.int .i64 p'),q7,q8,q9,q10,q11,q12,q13,q14,q15,q16] h2:=by
  intro h2 q7 q8 q9 q10 q11 q12 q13 q14 q15 q16 l2
  have ht2:=hload_le l2 hbt
  obtain⟨c,hc⟩:∃c,c=2^B.length:=⟨_,rfl⟩
  rw[← hc] at hcnt hk hc32
  simp -implicitDefEqProofs (disch:=first|omega|(simp only[LnZ];omega))[wrap64,ht2,R.len,hcnt,hcw,hcw0]
  refine wp_count c (fun n e h'=>∃o,e=[some (.pointer (some ⟨bt,0,none⟩)),none,some (.agg #[.int .i64 s,.int .i64 p]),none,some (.int .i64 ((Fm.ltc B B.length:Nat):Int)),some (.int .i64 ((Fm.ltv B s B.length:Nat):Int)),some (.int .i64 p'),none,none,none,some o,none,none,none,none,some (.int .i64 c),some (.int .i64 n)]∧HS h [ow o (Fm.tmv B s p' n)] h') ⟨.slice none 0 0,by simp,(HS.nil_ow (Γ:=[]) l2)⟩ ?_
  rintro J n _ h3 hJ hn ⟨o,rfl,H⟩
  have hsu:=Fm.tmv_succ (B:=B) (s:=s) (p:=p') (m:=n)
  have hml:=Fm.tmv_len (B:=B) (s:=s) (p:=p') (m:=n)
  simp -implicitDefEqProofs (disch:=omega)[wrap64]
  refine IteW.mk (fun hlt=>?_) (fun hge=>?_)
  ·have hnc:n<c:=by omega
   generalize Fm.tmv B s p' n=T at *
   simp -implicitDefEqProofs (disch:=omega)[wrap64]
   refine (c_follows (s:=s) (t:=n) hB hn5 hs (by omega) (R.on H) (hload_le H.base hbt)).go ?_
   rintro _ h4 ⟨l4,rfl⟩
   have H:=H.le l4
   by_cases hf:Fm.Fol B s n
   case neg=>
    rw[if_neg hf,List.append_nil] at hsu
    simp -implicitDefEqProofs (disch:=first|omega|(simp only[LnZ];omega))[wrap64,hf]
    exact hJ _ _ hnc ⟨o,by simp,by rw[hsu];exact H⟩
   rw[if_pos hf] at hsu
   have hok:I64 ((Fm.ltc B B.length:Nat):Int)∧I64 ((Fm.ltv B s B.length:Nat):Int)∧I64 (n:Int)∧I64 p':=⟨⟨by omega,by omega⟩,⟨by omega,by omega⟩,⟨by omega,by omega⟩,hp64⟩
   simp -implicitDefEqProofs (disch:=first|omega|(simp only[LnZ];omega))[wrap64,hf,setC]
   refine HS.app1 (bytes:=32) H (((Fm.ltc B B.length:Nat):Int),((Fm.ltv B s B.length:Nat):Int),(n:Int),p') rfl rfl rfl hok rfl rfl (by omega) (by omega) fun o' h5 H=>?_
   simp -implicitDefEqProofs (disch:=omega)[wrap64]
   exact hJ _ _ hnc ⟨o',by simp,by rw[hsu];exact H⟩
  ·obtain rfl:n=c:=by omega
   simp -implicitDefEqProofs (disch:=omega)[wrap64]
   exact RetK.keep (hk _ _ H)
 clear hJ
 by_cases q0:U.length=0
 ·rw[if_pos q0] at hp'
  have hpp:p=p':=by have:=hp.1;have:=hp.2;have:p=0:=by omega
                    rw[this,hp']
  have q0':U=[]:=List.length_eq_zero_iff.1 q0
  rw[hpp] at main ⊢
  have M:=fun q7 q8 q9 q10 q11 q12 q13 q14 q15 q16=>main (q7:=q7) (q8:=q8) (q9:=q9) (q10:=q10) (q11:=q11) (q12:=q12) (q13:=q13) (q14:=q14) (q15:=q15) (q16:=q16) (Heap.le.refl _)
  simp -implicitDefEqProofs (disch:=omega)[wrap64] at M
  simp -implicitDefEqProofs (disch:=first|omega|(simp only[LnZ];omega))[wrap64,hbu,RU.len,q0,q0']
  exact M _ _ _ _ _ _ _ _ _
 rw[if_neg q0] at hp'
 have q0':¬U=[]:=fun e=>q0 (by rw[e];rfl)
 have q0i:¬(U.length:Int)=0:=by omega
 have q0p:0<U.length:=by omega
 obtain⟨n,rfl⟩:∃n:Nat,p=n:=⟨p.toNat,(Int.toNat_of_nonneg hp.1).symm⟩
 have hnU:n<U.length:=by have:=hp.2;omega
 obtain⟨m,hm1,hm2,hm3⟩:=hum (List.getElem_mem hnU)
 have e1:U.getD (n:Int).toNat 0=(m:Int):=by rw[Int.toNat_natCast,List.getD_eq_getElem?_getD,List.getElem?_eq_getElem hnU,← hm1];rfl
 have hm3':B[m].kind=7:=by rw[← hm3];simp[hm2]
 rw[e1] at hp'
 simp -implicitDefEqProofs (disch:=first|omega|(simp only[LnZ];omega))[wrap64,hbu,RU.len,q0,q0',q0i,q0p]
 refine (c_fulfils hB hn5 hs hnU hm1 hm2 hm3' R RU hbt hbu).go ?_
 rintro _ h2 ⟨l2,rfl⟩
 cases hf:Fm.ful B s m with
 | true=>
  rw[hf,if_pos rfl] at hp'
  simp only at hp'
  rw[hp'] at main
  have M:=fun q7 q8 q9 q10 q11 q12 q13 q14 q15 q16=>main (q7:=q7) (q8:=q8) (q9:=q9) (q10:=q10) (q11:=q11) (q12:=q12) (q13:=q13) (q14:=q14) (q15:=q15) (q16:=q16) l2
  simp -implicitDefEqProofs (disch:=omega)[wrap64] at M
  simp -implicitDefEqProofs (disch:=first|omega|(simp only[LnZ];omega))[wrap64,hf,RU.len,q0i,q0']
  exact M _ _ _ _ _ _ _ _ _
 | false=>
  rw[hf,if_neg (by decide)] at hp'
  simp only at hp'
  rw[hp'] at main
  have M:=fun q7 q8 q9 q10 q11 q12 q13 q14 q15 q16=>main (q7:=q7) (q8:=q8) (q9:=q9) (q10:=q10) (q11:=q11) (q12:=q12) (q13:=q13) (q14:=q14) (q15:=q15) (q16:=q16) l2
  simp -implicitDefEqProofs (disch:=omega)[wrap64] at M
  simp -implicitDefEqProofs (disch:=first|omega|(simp only[LnZ];omega))[wrap64,hf]
  exact M _ _ _ _ _ _ _ _ _
section
variable {κ:Type} [DecidableEq κ]
def atK (F:List κ) (a:κ):Int:=match F.findIdx? (fun y=>decide (y=a)) with | some i=>(i:Int) | none=>(F.length:Int)
def adK (F:List κ) (a:κ):List κ:=if a∈F then F else F++[a]
theorem atK_not {F:List κ}{a:κ}(h:a∉F):atK F a=F.length:=by
 have:F.findIdx? (fun y=>decide (y=a))=none:=by
  rw[List.findIdx?_eq_none_iff]
  intro y hy
  simp only[decide_eq_false_iff_not]
  rintro rfl
  exact h hy
 rw[atK,this]
theorem atK_map {lf:κ→List Int}(hl:∀a b,lf a=lf b→a=b) (F:List κ) (a:κ):atK F a=Fm.atL (F.map lf) (lf a)∧(adK F a).map lf=Fm.adL (F.map lf) (lf a):=by
 have hm:lf a∈F.map lf↔a∈F:=by
  rw[List.mem_map]
  exact⟨fun ⟨b,h1,h2⟩=>hl _ _ h2▸h1,fun h=>⟨a,h,rfl⟩⟩
 constructor
 ·unfold atK Fm.atL
  rw[List.findIdx?_map,List.length_map]
  have:((fun y=>decide (y=lf a))∘lf)=fun y=>decide (y=a):=by
   funext y
   exact decide_eq_decide.2 ⟨fun h=>hl _ _ h,fun h=>by rw[h]⟩
  rw[this]
  cases F.findIdx? (fun y=>decide (y=a))<;>rfl
 ·unfold adK Fm.adL
  by_cases h:a∈F
  ·rw[if_pos h,if_pos (hm.2 h)]
  ·rw[if_neg h,if_neg (fun hh=>h (hm.1 hh))];simp
theorem atK_bnd {F:List κ}{a:κ}:0≤atK F a∧atK F a≤F.length:=by
 unfold atK
 split
 ·rename_i i h
  rw[List.findIdx?_eq_some_iff_getElem] at h
  obtain⟨h1,_⟩:=h
  omega
 ·omega
theorem adK_all {F:List κ}{a:κ}{P:κ→Prop}(h:∀x∈F,P x) (ha:P a):∀x∈adK F a,P x:=by
 unfold adK
 split
 ·exact h
 ·intro x hx
  rcases List.mem_append.1 hx with hx | hx
  ·exact h x hx
  ·rw[List.mem_singleton] at hx;subst hx;exact ha
def MI (F:List κ) (m:List (κ×Int)):Prop:=∀a,mlk m a=if a∈F then some (atK F a) else none
theorem MI.nil:MI ([]:List κ) []:=fun a=>by simp[mlk_nil]
theorem MI.get {F:List κ}{m:List (κ×Int)}(h:MI F m) {a:κ}(ha:a∈F):mlk m a=some (atK F a):=by rw[h,if_pos ha]
theorem MI.no {F:List κ}{m:List (κ×Int)}(h:MI F m) {a:κ}(ha:a∉F):mlk m a=none:=by rw[h,if_neg ha]
theorem MI.add {F:List κ}{m:List (κ×Int)}(h:MI F m) {a:κ}(ha:a∉F):MI (F++[a]) (m++[(a,(F.length:Int))]):=by
 intro b
 rw[mlk_snoc (h.no ha)]
 by_cases e:a=b
 ·subst e
  rw[if_pos rfl,if_pos (by simp)]
  congr 1
  have:(F++[a]).findIdx? (fun y=>decide (y=a))=some F.length:=by
   rw[List.findIdx?_eq_some_iff_getElem]
   refine⟨by simp,by simp,fun j hj=>?_⟩
   rw[List.getElem_append_left hj]
   simp only[decide_eq_true_eq]
   rintro rfl
   exact ha (List.getElem_mem hj)
  rw[atK,this]
 ·rw[if_neg e,h]
  by_cases hb:b∈F
  ·rw[if_pos hb,if_pos (List.mem_append_left _ hb)]
   congr 1
   unfold atK
   rw[List.findIdx?_append]
   have:∃i,F.findIdx? (fun y=>decide (y=b))=some i:=by
    rcases hf:F.findIdx? (fun y=>decide (y=b)) with _ | i
    ·rw[List.findIdx?_eq_none_iff] at hf
     have:=hf b hb
     simp at this
    ·exact⟨i,rfl⟩
   obtain⟨i,hi⟩:=this
   rw[hi]
   rfl
  ·rw[if_neg hb,if_neg]
   intro hh
   rcases List.mem_append.1 hh with hh | hh
   ·exact hb hh
   ·rw[List.mem_singleton] at hh;exact e hh.symm
end
namespace Fm
section
variable (mv:List Int→List Mv) (ac:List Int→Bool) (L0:List (List Int))
def exOk:Prop:=(exN mv ac L0 64).1.length≤64∧(exN mv ac L0 64).2.2.length≤2048
instance:Decidable (exOk mv ac L0):=by unfold exOk;infer_instance
def exR:Aut:=if exOk mv ac L0 then exA mv ac L0 else ⟨[],[],[]⟩
end
section
variable {mv:List Int→List Mv}{ac:List Int→Bool}{L0:List (List Int)}
theorem exRow_take {i j:Nat}{M:List Mv}{q:List (List Int)×List Tr}(hj:j<M.length):exRow i (M.take (j+1)) q=(adL (exRow i (M.take j) q).1 M[j].to,(exRow i (M.take j) q).2++[⟨(i:Int),M[j].care,M[j].value,atL (exRow i (M.take j) q).1 M[j].to⟩]):=by
 unfold exRow
 rw[List.take_add_one,List.getElem?_eq_getElem hj,List.foldl_append]
 rfl
theorem exRow_len {i:Nat}(M:List Mv) (q:List (List Int)×List Tr):(exRow i M q).1.length≤q.1.length+M.length:=by
 induction M generalizing q with
 | nil=>exact Nat.le_refl _
 | cons m M ih=>
  have h:=ih (adL q.1 m.to,q.2++[⟨(i:Int),m.care,m.value,atL q.1 m.to⟩])
  have h1:=adL_len (L:=q.1) (p:=m.to)
  have h2:exRow i (m::M) q=exRow i M (adL q.1 m.to,q.2++[⟨(i:Int),m.care,m.value,atL q.1 m.to⟩]):=rfl
  rw[h2]
  simp only[List.length_cons] at h ⊢
  omega
theorem exN_len {K:Nat}{Q:List Int→Prop}(h0:∀x∈L0,Q x) (hs:∀x,Q x→∀m∈mv x,Q m.to) (h:∀x,Q x→(mv x).length≤K):∀n,(exN mv ac L0 n).1.length≤L0.length+n*K
 | 0=>by simp[exN]
 | n+1=>by
  have ih:=exN_len h0 hs h n
  by_cases hc:n<(exN mv ac L0 n).1.length
  ·rw[exN_succ (List.getElem?_eq_getElem hc),Nat.add_mul]
   have h1:=exRow_len (i:=n) (mv ((exN mv ac L0 n).1[n])) ((exN mv ac L0 n).1,(exN mv ac L0 n).2.2)
   have h2:=h _ (exN_all (ac:=ac) h0 hs n _ (List.getElem_mem hc))
   simp only at h1 ⊢
   omega
  ·rw[exN_stop (n:=n) (by omega) (n+1) (by omega),Nat.add_mul]
   omega
theorem exOk_end {n:Nat}(hn:n≤64) (hl:(exN mv ac L0 n).1.length≤n):exN mv ac L0 64=exN mv ac L0 n:=exN_stop hl 64 hn
theorem exOk_big {n:Nat}(hn:n≤64) (h:n=64∧n<(exN mv ac L0 n).1.length∨2048<(exN mv ac L0 n).2.2.length):¬exOk mv ac L0:=by
 rintro⟨h1,h2⟩
 have:=exN_mono2 (mv:=mv) (ac:=ac) (L0:=L0) hn
 rcases h with ⟨rfl,h⟩ | h<;>omega
end
end Fm
def pv2 (p:Int×Int):Value:=.agg #[.int .i64 p.1,.int .i64 p.2]
def lf2 (p:Int×Int):List Int:=[p.1,p.2]
theorem lf2_inj (a b:Int×Int) (h:lf2 a=lf2 b):a=b:=by
 obtain⟨a1,a2⟩:=a
 obtain⟨b1,b2⟩:=b
 simpa[lf2] using h
theorem keyEq_2:∀a b:Int×Int,keyEq (.many [.i,.i]) (pv2 a) (pv2 b)=some (decide (a=b)):=by
 rintro⟨a1,a2⟩ ⟨b1,b2⟩
 simp[keyEq,eqB,pv2]
def vi (n:Int):Value:=.int .i64 n
@[reducible] def Tbs2 (b6 b7 bm:Nat) (fv:Value) (F:List (Int×Int)) (m:List ((Int×Int)×Int)):List HP:=[bx b6 [.map (some bm)],bx b7 [fv],mpo pv2 vi bm m,ow fv F]
theorem c_find2 {g h:Heap}{Γ:List HP}{b6 b7 bm:Nat}{fv:Value}{F:List (Int×Int)}{m:List ((Int×Int)×Int)}{a:Int×Int}(H:HS g (Tbs2 b6 b7 bm fv F m++Γ) h) (hm:MI F m) (hF:F.length≤1073741824) (ha:I64 a.1∧I64 a.2) :
  CallE Tryz.prog fn_impl_explore_impl_phased_1 [pv2 a,.pointer (some ⟨b6,0,none⟩),.pointer (some ⟨b7,0,none⟩)] h (fun u h'=>∃fv' m',u=.int .i64 (atK F a)∧HS g (Tbs2 b6 b7 bm fv' (adK F a) m'++Γ) h'∧MI (adK F a) m'):=by
 have H:HS g (bx b6 [.map (some bm)]::bx b7 [fv]::mpo pv2 vi bm m::ow fv F::Γ) h:=H
 refine CallE.gen fun k hk=>EN_impl_explore_impl_phased_1 rfl ?_
 simp -implicitDefEqProofs (disch:=first|omega|(simp only[LnZ];omega))[wrap64,pv2,H.bxld0,setC]
 refine HS.mget (kf:=pv2) (vf:=vi) (a:=a) H.sw2 rfl rfl keyEq_2 ?_
 by_cases hf:a∈F
 ·rw[hm.get hf]
  simp -implicitDefEqProofs (disch:=first|omega|(simp only[LnZ];omega))[wrap64,vi]
  refine RetK.keep (hk _ _ ⟨fv,m,rfl,?_,?_⟩)
  ·rw[adK,if_pos hf];exact H
  ·rw[adK,if_pos hf];exact hm
 ·rw[hm.no hf]
  have hF2:=H.sw3.rep.lt
  simp -implicitDefEqProofs (disch:=first|omega|(simp only[LnZ];omega))[wrap64,vi,H.sw1.bxld0,H.sw3.rep.len,H.bxld0]
  refine HS.mput (kf:=pv2) (vf:=vi) (a:=a) (v:=(F.length:Int)) H.sw2 rfl rfl rfl keyEq_2 (hm.no hf) fun h1 H=>?_
  simp -implicitDefEqProofs (disch:=first|omega|(simp only[LnZ];omega))[wrap64,setC,H.sw2.bxld0]
  refine HS.app1 (bytes:=16) H.sw3 a rfl rfl rfl ha rfl rfl (by omega) (by omega) fun fv' h2 H=>?_
  simp -implicitDefEqProofs (disch:=omega)[wrap64]
  refine H.sw3.bxst (u:=fv') rfl rfl (by rw[H.rep.cells];rfl) (by rw[H.rep.cells];simp[H.rep.one]) (by simp[H.rep.cells]) fun h3 H=>?_
  have H:HS g (bx b7 [fv']::ow fv' (F++[a])::mpo pv2 vi bm (m++[(a,(F.length:Int))])::bx b6 [.map (some bm)]::Γ) h3:=by simpa[setC,H.sw1.rep.cells] using H
  simp -implicitDefEqProofs (disch:=omega)[wrap64]
  refine RetK.keep (hk _ _ ⟨fv',_,by rw[atK_not hf],?_,by rw[adK,if_neg hf];exact hm.add hf⟩)
  rw[adK,if_neg hf]
  exact H.sw3.under fun _ H=>H.under fun _ H=>H.sw1
def toMv2 (m:Int×Int×Int×Int):Fm.Mv:=⟨m.1,m.2.1,lf2 m.2.2⟩
set_option maxHeartbeats 4000000 in
theorem c_explore2 {g:Heap}{iv fa fm:Value}{I:List (Int×Int)}{mv:List Int→List Fm.Mv}{ac:List Int→Bool}{P:Int×Int→Prop}{K:Nat}{Mf:Int×Int→List (Int×Int×Int×Int)}
  (hK:K≤8388608) (hI:I.Nodup) (hIl:I.length≤8388608) (hP0:∀p∈I,P p) (hPok:∀p,P p→I64 p.1∧I64 p.2)
  (hMf:∀p,P p→(Mf p).map toMv2=mv (lf2 p)∧(Mf p).length≤K∧∀m∈Mf p,P m.2.2)
  (hmo:∀p,P p→∀m∈mv (lf2 p),∃c v:Nat,m.care=c∧m.value=v∧c<8∧v&&&c=v)
  {fA fM:FuncId}{a1 a2 m1 m2:List Value}(hfa:fnOf fa=some (fA,a1,a2)) (hfm:fnOf fm=some (fM,m1,m2))
  (hA:∀p h,P p→g.le h→CallE Tryz.prog fA (a1++pv2 p::a2) h (fun u h'=>h.le h'∧u=.bool (ac (lf2 p))))
  (hM:∀p h,P p→g.le h→CallE Tryz.prog fM (m1++pv2 p::m2) h (fun u h'=>HS h [ow u (Mf p)] h'))
  (R:Rep g iv I) :
  CallE Tryz.prog fn_impl_explore_impl_phased [iv,fa,fm] g (fun u h'=>∃w,u=.tuple #[w,.bool (decide (Fm.exOk mv ac (I.map lf2)))]∧HS g [ow w (Fm.exR mv ac (I.map lf2))] h'):=by
 refine CallE.gen fun k hk=>EN_impl_explore_impl_phased rfl ?_
 by_cases q0:I=[]
 ·subst q0
  have hex:Fm.exN mv ac ([].map lf2) 64=([],[],[]):=Fm.exN_nil 64
  have hok:Fm.exOk mv ac (([]:List (Int×Int)).map lf2):=by unfold Fm.exOk;rw[hex];simp
  simp -implicitDefEqProofs (disch:=first|omega|(simp only[LnZ];omega))[wrap64,R.len]
  refine HS.init.mks (α:=Bool) (z:=false) rfl rfl ⟨rfl,rfl⟩ (by omega) (by decide) (by decide) fun w h1 H=>?_
  simp -implicitDefEqProofs (disch:=first|omega|(simp only[LnZ];omega))[wrap64,setC,H.rep.cells,H.rep.one]
  refine RetK.keep (hk _ _ ⟨_,by rw[decide_eq_true hok],?_⟩)
  rw[Fm.exR,if_pos hok,Fm.exA,hex]
  exact HS.mkAut (a:=⟨[],[false],[]⟩) ((H.nil_ow (α:=Tr)).sw1.nil_ow (α:=Int))
 have q0i:¬(I.length:Int)=0:=fun e=>q0 (List.length_eq_zero_iff.1 (by omega))
 have q0n:¬I.length=0:=by omega
 simp -implicitDefEqProofs (disch:=first|omega|(simp only[LnZ];omega))[wrap64,R.len,q0i,q0n,q0]
 refine HS.init.mkm pv2 vi fun bm h1 H=>?_
 simp -implicitDefEqProofs (disch:=omega)[wrap64]
 refine H.alloc rfl fun b6 h2 H=>?_
 simp -implicitDefEqProofs (disch:=omega)[wrap64]
 refine H.bxst (u:=.map (some bm)) rfl rfl rfl rfl (by simp) fun h3 H=>?_
 have H:HS g [bx b6 [.map (some bm)],mpo pv2 vi bm []] h3:=by simpa[setC] using H
 simp -implicitDefEqProofs (disch:=omega)[wrap64]
 refine H.alloc rfl fun b7 h4 H=>?_
 have H:HS g (Tbs2 b6 b7 bm (.slice none 0 0) [] []++[]) h4:=H.nil_ow.bk3.sw1
 obtain⟨fv,hfv⟩:∃fv,fv=Value.func (.func fn_impl_explore_impl_phased_1) #[] #[.pointer (some ⟨b6,0,none⟩),.pointer (some ⟨b7,0,none⟩)]:=⟨_,rfl⟩
 have hfn:fnOf fv=some (fn_impl_explore_impl_phased_1,[],[.pointer (some ⟨b6,0,none⟩),.pointer (some ⟨b7,0,none⟩)]):=by subst hfv;rfl
 have hfc:fv.cells = #[fv]:=by subst hfv;rfl
 have hf1:fv.oneCell'=true:=by subst hfv;rfl
 simp -implicitDefEqProofs (disch:=first|omega|(simp only[LnZ];omega))[wrap64,R.len]
 rw[← hfv]
 have hLd:∀F:List (Int×Int),F.length=(F.map lf2).length:=fun F=>by simp
 refine wp_count I.length (fun i e h'=>∃(iw fw:Value) (m:List ((Int×Int)×Int)),e=[none,some fa,some fm,some (.agg #[.slice none 0 0,.slice none 0 0,.slice none 0 0]),none,some (.agg #[iw,.slice none 0 0,.slice none 0 0]),none,some (.pointer (some ⟨b7,0,none⟩)),some fv,none,none,none,some iv,some (.int .i64 I.length),some (.int .i64 i),none,none,none] ∧
  HS g (Tbs2 b6 b7 bm fw (I.take i) m++[ow iw (Fm.upto i)]) h'∧MI (I.take i) m) ⟨.slice none 0 0,.slice none 0 0,[],by simp,?_,by simpa using MI.nil⟩ ?_
 ·have:=H.nil_ow (α:=Int)
  exact this.bk4
 clear H
 rintro J i _ h5 hJ hi ⟨iw,fw,m,rfl,H,hm⟩
 simp -implicitDefEqProofs (disch:=omega)[wrap64]
 refine IteW.mk (fun hlt=>?_) (fun hge=>?_)
 ·have hlx:i<I.length:=by omega
  have hpk:=hPok _ (hP0 _ (List.getElem_mem hlx))
  have hu:=hload_le H.base (R.ldF hlx)
  change hload _ (some (elp 2 iv i)) (some 2)=some (pv2 I[i]) at hu
  have hX:=R.X (n:=2) rfl
  have hnot:I[i]∉I.take i:=fun hh=>by
   obtain⟨j,hj,e⟩:=List.mem_iff_getElem.1 hh
   simp only[List.length_take] at hj
   rw[List.getElem_take] at e
   have:=(List.getElem_inj hI).1 e
   omega
  have hat:atK (I.take i) I[i]=i:=by rw[atK_not hnot,List.length_take,Nat.min_eq_left (by omega)]
  have had:adK (I.take i) I[i]=I.take (i+1):=by rw[adK,if_neg hnot,List.take_add_one,List.getElem?_eq_getElem hlx];rfl
  simp -implicitDefEqProofs (disch:=first|omega|(simp only[LnZ];omega))[wrap64,hX,hu,pv2,setC,hfn]
  refine (c_find2 (a:=I[i]) H hm (by simp only[List.length_take];omega) hpk).go ?_
  clear H hm
  rintro _ h6 ⟨fw',m',rfl,H,hm⟩
  rw[had] at H hm
  rw[hat]
  have H:HS g (bx b6 [.map (some bm)]::bx b7 [fw']::mpo pv2 vi bm m'::ow fw' (I.take (i+1))::[ow iw (Fm.upto i)]) h6:=H
  simp -implicitDefEqProofs (disch:=first|omega|(simp only[LnZ];omega))[wrap64,setC]
  refine HS.app1 (bytes:=8) H.sw4 (i:Int) rfl rfl rfl ⟨by omega,by omega⟩ rfl rfl (by simp[Fm.upto];omega) (by simp[Fm.upto];omega) fun iw' h7 H=>?_
  simp -implicitDefEqProofs (disch:=first|omega|(simp only[LnZ];omega))[wrap64,setC,H.rep.cells,H.rep.one]
  refine hJ _ _ hlx ⟨iw',fw',m',by simp,?_,hm⟩
  rw[Fm.upto_succ]
  exact H.bk4
 obtain rfl:i=I.length:=by omega
 rw[List.take_length] at H hm
 simp -implicitDefEqProofs (disch:=omega)[wrap64]
 clear hJ J
 obtain⟨L0,hL0⟩:∃L0,L0=I.map lf2:=⟨_,rfl⟩
 have hLI:L0.length=I.length:=by rw[hL0];simp
 rw[← hL0] at hk
 have hQ0:∀x∈L0,∃p,P p∧x=lf2 p:=fun x hx=>by
  rw[hL0] at hx
  obtain⟨p,hp,rfl⟩:=List.mem_map.1 hx
  exact⟨p,hP0 p hp,rfl⟩
 have hQs:∀x,(∃p,P p∧x=lf2 p)→∀m∈mv x,∃p,P p∧m.to=lf2 p:=by
  rintro _ ⟨p,hp,rfl⟩ m hm
  rw[← (hMf p hp).1] at hm
  obtain⟨q,hq,rfl⟩:=List.mem_map.1 hm
  exact⟨q.2.2,(hMf p hp).2.2 q hq,rfl⟩
 have hQl:∀x,(∃p,P p∧x=lf2 p)→(mv x).length≤K:=by
  rintro _ ⟨p,hp,rfl⟩
  rw[← (hMf p hp).1,List.length_map]
  exact (hMf p hp).2.1
 have hbd:=Fm.exN_len (ac:=ac) hQ0 hQs hQl
 have hbad:∀{h':Heap},g.le h'→¬Fm.exOk mv ac L0→k (.tuple #[.agg #[.slice none 0 0,.slice none 0 0,.slice none 0 0],.bool false]) h':=fun hl hn=>hk _ _ ⟨_,by rw[decide_eq_false hn],by
  rw[Fm.exR,if_neg hn]
  exact HS.mkAut (a:=⟨[],[],[]⟩) (HS.nil_ow (Γ:=[]) hl).nil_ow.nil_ow⟩
 have hL0n:¬L0=[]:=fun e=>q0 (List.length_eq_zero_iff.1 (by rw[← hLI,e];rfl))
 refine wp_count 65 (fun i e h'=>∃(iw aw ew fw:Value) (m:List ((Int×Int)×Int)) (F:List (Int×Int)),e=[none,some fa,some fm,some (.agg #[.slice none 0 0,.slice none 0 0,.slice none 0 0]),none,some (.agg #[iw,aw,ew]),none,some (.pointer (some ⟨b7,0,none⟩)),some fv,none,some (.int .i64 i),none,none,none,none,none,none,none] ∧
  HS g (Tbs2 b6 b7 bm fw F m++[ow iw (Fm.upto I.length),ow aw (Fm.exN mv ac L0 i).2.1,ow ew (Fm.exN mv ac L0 i).2.2]) h'∧MI F m∧F.map lf2=(Fm.exN mv ac L0 i).1∧(∀x∈F,P x)∧i≤64∧∀m,m<i→m<(Fm.exN mv ac L0 m).1.length)
  ⟨iw,.slice none 0 0,.slice none 0 0,fw,m,I,by simp,?_,hm,hL0.symm,hP0,by omega,fun m hm=>absurd hm (Nat.not_lt_zero m)⟩ ?_
 ·exact ((H.nil_ow (α:=Tr)).bk5.nil_ow (α:=Bool)).bk5
 clear H hm m fw iw
 rintro J i _ h6 hJ hi1 ⟨iw,aw,ew,fw,m,F,rfl,H,hm,hF,hPF,hi64,hall⟩
 have hFl:F.length=(Fm.exN mv ac L0 i).1.length:=by rw[← hF];simp
 have hb1:=hbd i
 have hb2:i*K≤64*8388608:=Nat.mul_le_mul hi64 hK
 have hal:=Fm.exN_al (mv:=mv) (ac:=ac) (L0:=L0) i hall
 have H:HS g (bx b6 [.map (some bm)]::bx b7 [fw]::mpo pv2 vi bm m::ow fw F::[ow iw (Fm.upto I.length),ow aw (Fm.exN mv ac L0 i).2.1,ow ew (Fm.exN mv ac L0 i).2.2]) h6:=H
 have hew:=H.sw6.rep.lt
 by_cases q2:i<F.length
 case neg=>
  have hend:Fm.exN mv ac L0 64=Fm.exN mv ac L0 i:=Fm.exOk_end hi64 (by omega)
  have hA:Fm.exA mv ac L0=⟨Fm.upto I.length,(Fm.exN mv ac L0 i).2.1,(Fm.exN mv ac L0 i).2.2⟩:=by rw[Fm.exA,if_neg hL0n,hend,hLI]
  have hOk:(Fm.exA mv ac L0).Ok↔Fm.exOk mv ac L0:=by
   constructor
   ·intro h
    have:=h.2.1
    rw[hA] at this
    exact⟨by rw[hend];omega,by rw[hend];exact this⟩
   ·rintro⟨h1,h2⟩
    refine Fm.exA_ok h1 h2 fun x hx m hm=>?_
    obtain⟨p,hp,rfl⟩:=Fm.exN_all hQ0 hQs 64 x hx
    exact hmo p hp m hm
  have hexR:Fm.exOk mv ac L0→Fm.exR mv ac L0=Fm.exA mv ac L0:=fun h=>by rw[Fm.exR,if_pos h]
  have O1:=H.sw4.rep.one
  have O2:=H.sw5.rep.one
  have O3:=H.sw6.rep.one
  have hbf:=H.sw1.bxld0
  have hfl:=H.sw3.rep.len
  have H:=HS.mkAut (a:=⟨Fm.upto I.length,(Fm.exN mv ac L0 i).2.1,(Fm.exN mv ac L0 i).2.2⟩) H.drop.drop.drop.drop
  rw[← hA] at H
  have FA:=H.rep.aAut
  simp -implicitDefEqProofs (disch:=first|omega|(simp only[LnZ];omega))[wrap64,hbf,hfl,q2,O1,O2,O3,setC]
  refine (c_AutomatonValid H.rep).go ?_
  rintro _ h7 ⟨l7,rfl⟩
  have H:=H.le l7
  by_cases q5:Fm.exOk mv ac L0
  ·have q6:=hOk.2 q5
   have hOk3:=q6.2.1
   have hOk4:=q6.1
   simp -implicitDefEqProofs (disch:=first|omega|(simp only[LnZ];omega))[wrap64,q6,FA]
   refine (c_copyOf H.rep (by rw[hA];simp[Fm.upto];omega) (by omega) (by omega)).go ?_
   intro w h8 G
   have FW:=G.rep.aAut
   simp -implicitDefEqProofs (disch:=first|omega|(simp only[LnZ];omega))[wrap64,FW,setC]
   refine RetK.keep (hk _ _ ⟨w,by rw[decide_eq_true q5],?_⟩)
   rw[hexR q5]
   exact (G.app H).sw1.drop
  ·have q6:¬_:=fun hh=>q5 (hOk.1 hh)
   simp -implicitDefEqProofs (disch:=first|omega|(simp only[LnZ];omega))[wrap64,q6,setC]
   exact RetK.keep (hbad H.base q5)
 have hnn:(Fm.exN mv ac L0 i).1[i]? = some (lf2 F[i]):=by rw[← hF];simp[q2]
 have hsu:=Fm.exN_succ hnn
 have hPi:=hPF _ (List.getElem_mem q2)
 by_cases q3:i=64
 ·have hok:=Fm.exOk_big (mv:=mv) (ac:=ac) (L0:=L0) hi64 (.inl ⟨q3,by omega⟩)
  have q3i:(i:Int)=64:=by omega
  simp -implicitDefEqProofs (disch:=first|omega|(simp only[LnZ];omega))[wrap64,H.sw1.bxld0,H.sw3.rep.len,q2,q3i,show (64:Int)<F.length by omega,H.sw4.rep.one,H.sw5.rep.one,H.sw6.rep.one,setC]
  exact RetK.keep (hbad H.base hok)
 by_cases q4:2048<(Fm.exN mv ac L0 i).2.2.length
 ·have hok:=Fm.exOk_big (mv:=mv) (ac:=ac) (L0:=L0) hi64 (.inr q4)
  have q3i:¬(i:Int)=64:=by omega
  have q4i:(2048:Int)<(Fm.exN mv ac L0 i).2.2.length:=by omega
  simp -implicitDefEqProofs (disch:=first|omega|(simp only[LnZ];omega))[wrap64,H.sw1.bxld0,H.sw3.rep.len,q2,q3i,q4i,H.sw4.rep.one,H.sw5.rep.one,H.sw6.rep.one,H.sw6.rep.len,setC]
  exact RetK.keep (hbad H.base hok)
 have q3i:¬(i:Int)=64:=by omega
 have q4i:¬(2048:Int)<(Fm.exN mv ac L0 i).2.2.length:=by omega
 obtain⟨L,hL⟩:∃L,L=(Fm.exN mv ac L0 i).1:=⟨_,rfl⟩
 obtain⟨A,hAA⟩:∃A,A=(Fm.exN mv ac L0 i).2.1:=⟨_,rfl⟩
 obtain⟨E,hE⟩:∃E,E=(Fm.exN mv ac L0 i).2.2:=⟨_,rfl⟩
 rw[← hL] at hF hFl hb1 hsu hnn
 rw[← hAA] at H hal hsu
 rw[← hE] at H hew hsu q4 q4i
 obtain⟨p,hp⟩:∃p,p=F[i]:=⟨_,rfl⟩
 rw[← hp] at hPi hsu hnn
 have hu:hload h6 (some (elp 2 fw i)) (some 2)=some (pv2 p):=by rw[hp];exact H.sw3.rep.ldF q2
 simp -implicitDefEqProofs (disch:=first|omega|(simp only[LnZ];omega))[wrap64,H.sw1.bxld0,H.sw3.rep.len,q2,q3i,q4i,H.sw4.rep.one,H.sw5.rep.one,H.sw6.rep.one,H.sw6.rep.len,H.sw3.rep.X (n:=2) rfl,hu,hfa,setC]
 refine (hA p h6 hPi H.base).go ?_
 rintro _ h7 ⟨l7,rfl⟩
 have H:=H.le l7
 have hu:=hload_le l7 hu
 simp -implicitDefEqProofs (disch:=first|omega|(simp only[LnZ];omega))[wrap64,setC]
 refine HS.app1 (bytes:=1) H.sw5 (ac (lf2 p)) rfl rfl rfl trivial rfl rfl (by omega) (by omega) fun aw' h8 H=>?_
 have hu:hload h8 (some (elp 2 fw i)) (some 2)=some (pv2 p):=by rw[hp];exact H.sw4.rep.ldF q2
 simp -implicitDefEqProofs (disch:=first|omega|(simp only[LnZ];omega))[wrap64,setC,H.rep.cells,H.rep.one,H.sw2.bxld0,H.sw4.rep.X (n:=2) rfl,hu,hfm]
 refine (hM p h8 hPi H.base).go ?_
 intro mw h9 G
 have H:=(G.app H.bk5).bk6
 obtain⟨hM1,hM2,hM3⟩:=hMf p hPi
 obtain⟨M,hMd⟩:∃M,M=mv (lf2 p):=⟨_,rfl⟩
 rw[← hMd] at hsu hM1
 have hMl:M.length=(Mf p).length:=by rw[← hM1];simp
 have H:HS g (Tbs2 b6 b7 bm fw F m++[ow iw (Fm.upto I.length),ow aw' (A++[ac (lf2 p)]),ow mw (Mf p),ow ew E]) h9:=H
 simp -implicitDefEqProofs (disch:=first|omega|(simp only[LnZ];omega))[wrap64,G.rep.len]
 refine wp_count (Mf p).length (fun j e h'=>∃(ew fw:Value) (m:List ((Int×Int)×Int)) (F:List (Int×Int)),e=[none,some fa,some fm,some (.agg #[.slice none 0 0,.slice none 0 0,.slice none 0 0]),none,some (.agg #[iw,aw',ew]),none,some (.pointer (some ⟨b7,0,none⟩)),some fv,none,some (.int .i64 i),none,none,none,none,some mw,some (.int .i64 (Mf p).length),some (.int .i64 j)] ∧
  HS g (Tbs2 b6 b7 bm fw F m++[ow iw (Fm.upto I.length),ow aw' (A++[ac (lf2 p)]),ow mw (Mf p),ow ew (Fm.exRow i (M.take j) (L,E)).2]) h'∧MI F m∧F.map lf2=(Fm.exRow i (M.take j) (L,E)).1∧∀x∈F,P x)
  ⟨ew,fw,m,F,by simp,H,hm,hF,hPF⟩ ?_
 clear H hm hF hPF hu hFl hew G
 rintro J2 j _ h10 hJ2 hj ⟨ew,fw,m,F,rfl,H,hm,hF,hPF⟩
 simp -implicitDefEqProofs (disch:=omega)[wrap64]
 refine IteW.mk (fun hlt=>?_) (fun hge=>?_)
 ·have hjx:j<(Mf p).length:=by omega
  have hjM:j<M.length:=by omega
  have hst:=Fm.exRow_take (i:=i) (q:=(L,E)) hjM
  have hel:=(Fm.exRow_er (i:=i) (M.take j) (L,E)).el
  have hll:=Fm.exRow_len (i:=i) (M.take j) (L,E)
  simp only[List.length_take] at hel hll
  have hFl:F.length=(Fm.exRow i (M.take j) (L,E)).1.length:=by rw[← hF];simp
  have hPq:=hM3 _ (List.getElem_mem hjx)
  have hMj:M[j]=toMv2 (Mf p)[j]:=by simp only[← hM1,List.getElem_map]
  have H:HS g (bx b6 [.map (some bm)]::bx b7 [fw]::mpo pv2 vi bm m::ow fw F::[ow iw (Fm.upto I.length),ow aw' (A++[ac (lf2 p)]),ow mw (Mf p),ow ew (Fm.exRow i (M.take j) (L,E)).2]) h10:=H
  have hok:=H.sw6.rep.okF hjx
  have hu:=H.sw6.rep.ldF hjx
  have hX:=H.sw6.rep.X (n:=4) rfl
  rw[hMj] at hst
  obtain⟨q,hq⟩:∃q,q=(Mf p)[j]:=⟨_,rfl⟩
  rw[← hq] at hst hPq hok hu
  change hload _ (some (elp 4 mw j)) (some 4)=some (.agg #[.int .i64 q.1,.int .i64 q.2.1,.int .i64 q.2.2.1,.int .i64 q.2.2.2]) at hu
  have hok:I64 q.1∧I64 q.2.1∧I64 q.2.2.1∧I64 q.2.2.2:=hok
  have hat:=atK_map lf2_inj F q.2.2
  rw[hF] at hat
  have hbn:=atK_bnd (F:=F) (a:=q.2.2)
  generalize Fm.exRow i (M.take j) (L,E)=Q at *
  simp -implicitDefEqProofs (disch:=first|omega|(simp only[LnZ];omega))[wrap64,hX,hu,setC,hfn]
  refine (c_find2 (a:=q.2.2) (Γ:=[ow iw (Fm.upto I.length),ow aw' (A++[ac (lf2 p)]),ow mw (Mf p),ow ew Q.2]) H hm (by omega) (hPok _ hPq)).go ?_
  rintro _ h11 ⟨fw',m',rfl,H,hm⟩
  have H:HS g (bx b6 [.map (some bm)]::bx b7 [fw']::mpo pv2 vi bm m'::ow fw' (adK F q.2.2)::[ow iw (Fm.upto I.length),ow aw' (A++[ac (lf2 p)]),ow mw (Mf p),ow ew Q.2]) h11:=H
  simp -implicitDefEqProofs (disch:=first|omega|(simp only[LnZ];omega))[wrap64,setC]
  refine HS.app1 (bytes:=32) H.sw7 (⟨(i:Int),q.1,q.2.1,atK F q.2.2⟩:Tr) rfl rfl rfl (Tr.ok_iff.2 ⟨⟨by simp only;omega,by simp only;omega⟩,hok.1,hok.2.1,⟨by simp only;omega,by simp only;omega⟩⟩) rfl rfl (by omega) (by omega) fun ew' h12 H=>?_
  simp -implicitDefEqProofs (disch:=first|omega|(simp only[LnZ];omega))[wrap64,setC,H.rep.cells,H.rep.one]
  refine hJ2 _ _ hjx ⟨ew',fw',m',adK F q.2.2,by simp,?_,hm,by rw[hst,hat.2];rfl,adK_all hPF hPq⟩
  rw[hst]
  have:Q.2++[(⟨(i:Int),q.1,q.2.1,atK F q.2.2⟩:Tr)]=(Fm.adL Q.1 (toMv2 q).to,Q.2++[⟨(i:Int),(toMv2 q).care,(toMv2 q).value,Fm.atL Q.1 (toMv2 q).to⟩]).2:=by rw[hat.1];rfl
  rw[← this]
  exact H.sw7.sw7.sw7.sw7.sw7.sw7.sw7
 simp -implicitDefEqProofs (disch:=omega)[wrap64]
 have hsuL:(Fm.exN mv ac L0 (i+1)).2.1=A++[ac (lf2 p)]:=by rw[hsu]
 rw[List.take_of_length_le (by omega)] at H hF
 refine hJ _ _ (by omega) ⟨iw,aw',ew,fw,m,F,by simp,?_,hm,by rw[hF,hsu],hPF,by omega,fun n hn=>?_⟩
 ·rw[hsu]
  have H:HS g (bx b6 [.map (some bm)]::bx b7 [fw]::mpo pv2 vi bm m::ow fw F::[ow iw (Fm.upto I.length),ow aw' (A++[ac (lf2 p)]),ow mw (Mf p),ow ew (Fm.exRow i M (L,E)).2]) h10:=H
  exact H.under fun _ H=>H.under fun _ H=>H.under fun _ H=>H.under fun _ H=>H.under fun _ H=>H.under fun _ H=>H.drop
 ·by_cases e:n=i
  ·subst e
   have:=(List.getElem?_eq_some_iff.1 hnn).1
   rw[hL] at this
   exact this
  ·exact hall n (by omega)
namespace Fm
noncomputable def ini2 (B:List Exq) (g:Exq):Nat→List (Int×Int)
 | 0=>[]
 | n+1=>if val B n g then ini2 B g n++[((n:Int),0)] else ini2 B g n
theorem ini2_map {B:List Exq}{g:Exq}:∀n,(ini2 B g n).map lf2=ini0 B g n
 | 0=>rfl
 | n+1=>by
  have ih:=ini2_map (B:=B) (g:=g) n
  rw[ini2,ini0]
  split
  ·rw[List.map_append,ih];rfl
  ·exact ih
theorem ini2_len {B:List Exq}{g:Exq}(n:Nat):(ini2 B g n).length≤n:=by
 have:=ini0_len (B:=B) (g:=g) n
 rw[← ini2_map,List.length_map] at this
 exact this
theorem ini2_mem {B:List Exq}{g:Exq}{n:Nat}{p:Int×Int}(h:p∈ini2 B g n):∃s:Nat,s<n∧p=((s:Int),0):=by
 have h1:lf2 p∈ini0 B g n:=by rw[← ini2_map];exact List.mem_map.2 ⟨p,h,rfl⟩
 obtain⟨s,h2,h3,_⟩:=ini0_mem.1 h1
 exact⟨s,h2,lf2_inj _ _ h3⟩
theorem ini2_nodup {B:List Exq}{g:Exq}:∀n,(ini2 B g n).Nodup
 | 0=>by simp[ini2]
 | n+1=>by
  have ih:=ini2_nodup (B:=B) (g:=g) n
  rw[ini2]
  split
  ·rw[List.nodup_append]
   refine⟨ih,by simp,fun x hx y hy=>?_⟩
   rw[List.mem_singleton] at hy
   subst hy
   rintro rfl
   obtain⟨s,h1,h2⟩:=ini2_mem hx
   simp only[Prod.mk.injEq] at h2
   omega
  ·exact ih
theorem ltv_sub' {B:List Exq}{s:Nat}:ltv B s B.length&&&ltc B B.length=ltv B s B.length:=by
 refine Nat.eq_of_testBit_eq fun a=>?_
 rw[Nat.testBit_and]
 cases h:(ltv B s B.length).testBit a with
 | false=>rfl
 | true=>
  obtain⟨i,hi,h1,h2,_,h4⟩:=(ltv_bit _ (Nat.le_refl _)).1 h
  rw[(ltc_bit _ (Nat.le_refl _)).2 ⟨i,hi,h1,h2,h4⟩]
  rfl
theorem exOk_tr {x:Exq}:trOk x↔bOk x∧exOk (mvT (basics x) (unt (basics x) (basics x).length)) (acT (basics x) (unt (basics x) (basics x).length)) (ini0 (basics x) (push x false) (2^(basics x).length)):=by
 rw[trOk_ex]
 constructor
 ·rintro⟨h1,h2⟩
  refine⟨h1,h2,?_⟩
  have hp:2^(basics x).length≤2^5:=Nat.pow_le_pow_right (by omega) h1.2
  have:=exN_edges (mv:=mvT (basics x) (unt (basics x) (basics x).length)) (ac:=acT (basics x) (unt (basics x) (basics x).length)) (L0:=ini0 (basics x) (push x false) (2^(basics x).length)) (fun _=>mvT_len) 64
  omega
 ·rintro⟨h1,h2,_⟩
  exact⟨h1,h2⟩
end Fm
theorem c_accT {h:Heap}{w uv:Value}{B:List Exq}{bT bt s:Nat}{p:Int}(hB:Fm.Bc B) (hn5:B.length≤5) (hs:s<4611686018427387904) (hp:Fm.POk (Fm.unt B B.length) p) (R:Rep h w B) (RU:Rep h uv (Fm.unt B B.length))
  (hbT:hload h (some (.pointer (some ⟨bT,0,none⟩))) none=some (.pointer (some ⟨bt,0,none⟩)))
  (hbt:hload h (some (.pointer (some ⟨bt,0,none⟩))) none=some w) (hbu:hload h (some (.pointer (some ⟨bt,1,none⟩))) none=some uv) :
  CallE Tryz.prog fn_impl_TranslateFormula_1 [.agg #[.int .i64 s,.int .i64 p],.pointer (some ⟨bT,0,none⟩)] h (fun u h'=>h.le h'∧u=.bool (Fm.phs B (Fm.unt B B.length) s p).2):=by
 have hum:∀{u:Int},u∈Fm.unt B B.length→_:=fun h=>Fm.unt_mem h
 refine CallE.gen fun k hk=>EN_impl_TranslateFormula_1 rfl ?_
 unfold Fm.phs at hk
 generalize Fm.unt B B.length=U at *
 by_cases q0:U.length=0
 ·rw[if_pos q0] at hk
  have q0':U=[]:=List.length_eq_zero_iff.1 q0
  simp -implicitDefEqProofs (disch:=first|omega|(simp only[LnZ];omega))[wrap64,setC,hbT,hbu,RU.len,q0,q0']
  exact RetK.keep (hk _ _ ⟨Heap.le.refl _,rfl⟩)
 rw[if_neg q0] at hk
 have q0':¬U=[]:=fun e=>q0 (by rw[e];rfl)
 have q0i:¬(U.length:Int)=0:=by omega
 by_cases qp:p=0
 case neg=>
  simp -implicitDefEqProofs (disch:=first|omega|(simp only[LnZ];omega))[wrap64,setC,hbT,hbu,RU.len,q0,q0',q0i,qp]
  refine RetK.keep (hk _ _ ⟨Heap.le.refl _,?_⟩)
  split
  ·simp[qp]
  ·rfl
 subst qp
 have hnU:0<U.length:=by omega
 obtain⟨m,hm1,hm2,hm3⟩:=hum (List.getElem_mem hnU)
 have e1:U.getD (0:Int).toNat 0=(m:Int):=by rw[Int.toNat_zero,List.getD_eq_getElem?_getD,List.getElem?_eq_getElem hnU,← hm1];rfl
 have hm3':B[m].kind=7:=by rw[← hm3];simp[hm2]
 rw[e1] at hk
 simp -implicitDefEqProofs (disch:=first|omega|(simp only[LnZ];omega))[wrap64,setC,hbT,hbu,RU.len,q0,q0',q0i]
 refine (c_fulfils (p:=0) hB hn5 hs hnU hm1 hm2 hm3' R RU hbt hbu).go ?_
 rintro _ h2 ⟨l2,rfl⟩
 cases hf:Fm.ful B s m with
 | true=>
  rw[hf] at hk
  simp -implicitDefEqProofs (disch:=first|omega|(simp only[LnZ];omega))[wrap64,hf]
  exact RetK.keep (hk _ _ ⟨l2,by simp⟩)
 | false=>
  rw[hf] at hk
  simp -implicitDefEqProofs (disch:=first|omega|(simp only[LnZ];omega))[wrap64,hf]
  exact RetK.keep (hk _ _ ⟨l2,by simp⟩)
theorem c_TranslateFormula {h:Heap}{v:Value}{x:Exq}(R:Rep h v x):CallE Tryz.prog fn_impl_TranslateFormula [v] h (fun u h'=>∃w,u=.tuple #[w,.bool (decide (Fm.trOk x))]∧HS h [ow w (Fm.trR x)] h'):=by
 have FX:=R.aExq
 refine CallE.gen fun k hk=>EN_impl_TranslateFormula rfl ?_
 simp -implicitDefEqProofs (disch:=first|omega|(simp only[LnZ];omega))[wrap64,FX]
 refine (c_BasicFormulas R).go ?_
 rintro _ h1 ⟨w,rfl,l1,RB⟩
 by_cases q1:Fm.bOk x
 case neg=>
  simp -implicitDefEqProofs (disch:=first|omega|(simp only[LnZ];omega))[wrap64,q1,setC]
  refine RetK.keep (hk _ _ ⟨_,by rw[decide_eq_false (fun hh=>q1 hh.1)],?_⟩)
  rw[Fm.trR,if_neg (fun hh=>q1 hh.1)]
  exact HS.mkAut (a:=⟨[],[],[]⟩) (HS.nil_ow (Γ:=[]) l1).nil_ow.nil_ow
 rw[Fm.basR,if_pos q1] at RB
 simp -implicitDefEqProofs (disch:=first|omega|(simp only[LnZ];omega))[wrap64,q1,FX]
 refine (c_Formula_normalForm (R.le l1) q1.1.1).go ?_
 rintro _ h2 ⟨gu,rfl,l2,RG⟩
 rw[Fm.nfR,if_pos q1.1] at RG
 have FG:=RG.aExq
 have RB:=RB.le l2
 have hB:=Fm.basics_bc q1
 have hn5:=q1.2
 have hcl:=Fm.basics_cl q1.1
 have htO:=Fm.exOk_tr (x:=x)
 have htR:Fm.trOk x→Fm.trA x=_:=fun h=>Fm.trA_ex h
 have hl12:=l1.trans l2
 generalize Fm.basics x=B at *
 generalize Fm.push x false=G at *
 simp -implicitDefEqProofs (disch:=first|omega|(simp only[LnZ];omega))[wrap64,FG,setC,RB.one,RB.cells]
 refine (HS.init (h:=h2)).alloc rfl fun bt h3 H=>?_
 simp -implicitDefEqProofs (disch:=omega)[wrap64]
 refine H.alloc rfl fun bT h4 H=>?_
 simp -implicitDefEqProofs (disch:=omega)[wrap64]
 refine H.bxst (u:=.pointer (some ⟨bt,0,none⟩)) rfl rfl rfl rfl (by simp) fun h5 H=>?_
 have H:HS h2 [bx bT [.pointer (some ⟨bt,0,none⟩)],bx bt [w,.slice none 0 0]] h5:=by simpa[setC] using H
 simp -implicitDefEqProofs (disch:=first|omega|(simp only[LnZ];omega))[wrap64,RB.len]
 refine wp_count B.length (fun i e h'=>∃uv,e=[none,none,some (.agg #[.slice none 0 0,.slice none 0 0,.slice none 0 0]),none,some w,none,some gu,some (.pointer (some ⟨bT,0,none⟩)),none,none,none,none,none,some w,some (.int .i64 B.length),some (.int .i64 i),none,none] ∧
  HS h2 [bx bT [.pointer (some ⟨bt,0,none⟩)],bx bt [w,uv],ow uv (Fm.unt B i)] h') ⟨.slice none 0 0,by simp,by simpa[Fm.unt] using (H.nil_ow (α:=Int)).bk2⟩ ?_
 clear H
 rintro J i _ h6 hJ hi ⟨uv,rfl,H⟩
 simp -implicitDefEqProofs (disch:=omega)[wrap64]
 refine IteW.mk (fun hlt=>?_) (fun hge=>?_)
 ·have hlx:i<B.length:=by omega
  have e:B.getD i Exq.zero=B[i]:=by simp[hlx]
  have hu1:Fm.unt B (i+1)=if B[i].kind=7 then Fm.unt B i++[(i:Int)] else Fm.unt B i:=by rw[Fm.unt,e]
  have hul:=Fm.unt_len (B:=B) i
  obtain⟨u,hu,Ru⟩:=RB.ld hlx
  have hu':=hload_le H.base hu
  change hload _ (some (elp 3 w i)) (some 3)=some u at hu'
  obtain⟨wk,rfl,k1,k2,R1⟩:=Rep_Exq.1 Ru
  have hX:=RB.X (n:=3) rfl
  have kO:=R1.one
  have hbu:hload h6 (some (.pointer (some ⟨bt,1,none⟩))) none=some uv:=H.sw1.bxld (o:=1) rfl
  by_cases c7:B[i].kind=7
  ·rw[if_pos c7] at hu1
   simp -implicitDefEqProofs (disch:=first|omega|(simp only[LnZ];omega))[wrap64,hX,hu',setC,kO,c7,H.bxld0,hbu]
   refine HS.app1 (bytes:=8) H.sw2 (i:Int) rfl rfl rfl ⟨by omega,by omega⟩ rfl rfl (by omega) (by omega) fun uv' h7 H=>?_
   simp -implicitDefEqProofs (disch:=first|omega|(simp only[LnZ];omega))[wrap64,H.sw1.bxld0]
   refine H.sw2.bxst (o:=1) (u:=uv') rfl rfl (by rw[H.rep.cells];rfl) (by rw[H.rep.cells];simp[H.rep.one]) (by simp[H.rep.cells]) fun h8 H=>?_
   have H:HS h2 [bx bt [w,uv'],ow uv' (Fm.unt B i++[(i:Int)]),bx bT [.pointer (some ⟨bt,0,none⟩)]] h8:=by simpa[setC,H.sw1.rep.cells] using H
   simp -implicitDefEqProofs (disch:=omega)[wrap64]
   exact hJ _ _ hlx ⟨uv',by simp,by rw[hu1];exact H.sw2⟩
  ·rw[if_neg c7] at hu1
   simp -implicitDefEqProofs (disch:=first|omega|(simp only[LnZ];omega))[wrap64,hX,hu',setC,kO,c7]
   exact hJ _ _ hlx ⟨uv,by simp,by rw[hu1];exact H⟩
 obtain rfl:i=B.length:=by omega
 have hc32:2^B.length≤32:=Nat.pow_le_pow_right (n:=2) (by omega) hn5
 have hcnt:shlI .i64 1 (B.length:Int)=((2^B.length:Nat):Int):=by rw[i64_shl1 (by omega),Nat.shiftLeft_eq,Nat.one_mul]
 have hcw:IntKind.u64.wrap (B.length:Int)=B.length:=u64_pos (by omega) (by omega)
 have hcw0:¬(B.length:Int)<0:=by omega
 obtain⟨c,hc⟩:∃c,c=2^B.length:=⟨_,rfl⟩
 rw[← hc] at hcnt hc32 htO htR
 have hb0:=H.bxld0
 have hbt:hload h6 (some (.pointer (some ⟨bt,0,none⟩))) none=some w:=H.sw1.bxld (o:=0) rfl
 have hbu:hload h6 (some (.pointer (some ⟨bt,1,none⟩))) none=some uv:=H.sw1.bxld (o:=1) rfl
 have RU:=H.sw2.rep
 have lb:=H.base
 have RB:=RB.le lb
 have RG:=RG.le lb
 clear H hJ
 simp -implicitDefEqProofs (disch:=first|omega|(simp only[LnZ];omega))[wrap64,RB.len,hcnt,hcw,hcw0]
 clear J
 refine wp_count c (fun n e h'=>∃iv,e=[none,none,some (.agg #[.slice none 0 0,.slice none 0 0,.slice none 0 0]),none,none,none,some gu,some (.pointer (some ⟨bT,0,none⟩)),none,none,some iv,none,none,none,none,none,some (.int .i64 c),some (.int .i64 n)] ∧
  HS h6 [ow iv (Fm.ini2 B G n)] h') ⟨.slice none 0 0,by simp,HS.init.nil_ow⟩ ?_
 rintro J n _ h7 hJ hn ⟨iv,rfl,H⟩
 simp -implicitDefEqProofs (disch:=omega)[wrap64]
 refine IteW.mk (fun hlt=>?_) (fun hge=>?_)
 ·have hnc:n<c:=by omega
  have hin:Fm.ini2 B G (n+1)=if Fm.val B n G then Fm.ini2 B G n++[((n:Int),0)] else Fm.ini2 B G n:=rfl
  have hil:=Fm.ini2_len (B:=B) (g:=G) n
  simp -implicitDefEqProofs (disch:=first|omega|(simp only[LnZ];omega))[wrap64,hload_le H.base hb0,RG.aExq]
  refine (c_holds (s:=n) (Bc_bas hB) (by omega) G hcl (RG.on H) (RB.on H) (hload_le H.base hbt)).go ?_
  rintro _ h8 ⟨l8,rfl⟩
  have H:=H.le l8
  cases hv:Fm.val B n G with
  | false=>
   rw[hv,if_neg (by decide)] at hin
   simp -implicitDefEqProofs (disch:=first|omega|(simp only[LnZ];omega))[wrap64,hv]
   exact hJ _ _ hnc ⟨iv,by simp,by rw[hin];exact H⟩
  | true=>
   rw[hv,if_pos rfl] at hin
   have hok:I64 (n:Int)∧I64 0:=⟨⟨by omega,by omega⟩,⟨by omega,by omega⟩⟩
   simp -implicitDefEqProofs (disch:=first|omega|(simp only[LnZ];omega))[wrap64,hv,setC]
   refine HS.app1 (bytes:=16) H ((n:Int),(0:Int)) rfl rfl rfl hok rfl rfl (by omega) (by omega) fun iv' h9 H=>?_
   simp -implicitDefEqProofs (disch:=omega)[wrap64]
   exact hJ _ _ hnc ⟨iv',by simp,by rw[hin];exact H⟩
 obtain rfl:n=c:=by omega
 have lb2:=H.base
 have RI:=H.rep
 have RB:=RB.le lb2
 have RU:=RU.le lb2
 have hb0:=hload_le lb2 hb0
 have hbt:=hload_le lb2 hbt
 have hbu:=hload_le lb2 hbu
 have lf:=hl12.trans (lb.trans lb2)
 have hpo:∀{s:Nat}{q:Int},Fm.POk (Fm.unt B B.length) q→Fm.POk (Fm.unt B B.length) (Fm.phs B (Fm.unt B B.length) s q).1:=fun h=>Fm.phs_ok h
 have hul:=Fm.unt_len (B:=B) B.length
 have hsh:∀y∈B,Fm.Shp 6 y:=fun y hy=>(hB.2 y hy).1
 simp -implicitDefEqProofs (disch:=first|omega|(simp only[LnZ];omega))[wrap64,hb0]
 refine (c_explore2 (g:=h7) (I:=Fm.ini2 B G n) (mv:=Fm.mvT B (Fm.unt B B.length)) (ac:=Fm.acT B (Fm.unt B B.length)) (P:=fun p=>∃s:Nat,p.1=s∧s<n∧Fm.POk (Fm.unt B B.length) p.2) (K:=n) (Mf:=fun p=>Fm.tmv B p.1.toNat (Fm.phs B (Fm.unt B B.length) p.1.toNat p.2).1 n)
  (by omega) (Fm.ini2_nodup n) (by have:=Fm.ini2_len (B:=B) (g:=G) n;omega) ?_ ?_ ?_ ?_
  (fA:=fn_impl_TranslateFormula_1) (a1:=[]) (a2:=[.pointer (some ⟨bT,0,none⟩)]) (fM:=fn_impl_translator_moves) (m1:=[.pointer (some ⟨bt,0,none⟩)]) (m2:=[]) rfl rfl ?_ ?_ RI).go ?_
 ·intro p hp
  obtain⟨s,h1,rfl⟩:=Fm.ini2_mem hp
  exact⟨s,rfl,h1,by simp,.inr rfl⟩
 ·rintro⟨p1,p2⟩ ⟨s,rfl,h1,h2,h3⟩
  simp only at h2 h3
  exact⟨⟨by simp only;omega,by simp only;omega⟩,⟨by simp only;omega,by simp only;omega⟩⟩
 ·rintro⟨p1,p2⟩ ⟨s,rfl,h1,h2⟩
  refine⟨?_,Fm.tmv_len,fun m hm=>?_⟩
  ·have:=Fm.tmv_mvS (B:=B) (s:=s) (p:=(Fm.phs B (Fm.unt B B.length) s p2).1) (m:=n)
   rw[hc] at this ⊢
   exact this
  ·unfold Fm.tmv at hm
   obtain⟨t,ht,rfl⟩:=List.mem_map.1 hm
   have h3:=List.mem_range.1 (List.mem_filter.1 ht).1
   exact⟨t,rfl,h3,hpo h2⟩
 ·rintro⟨p1,p2⟩ ⟨s,rfl,h1,h2⟩ m hm
  unfold Fm.mvT Fm.mvS at hm
  obtain⟨t,_,rfl⟩:=List.mem_map.1 hm
  exact⟨_,_,rfl,rfl,Fm.ltc_lt hsh _ (Nat.le_refl _),Fm.ltv_sub'⟩
 ·rintro⟨p1,p2⟩ h8 ⟨s,rfl,h1,h2⟩ l8
  exact c_accT (s:=s) hB hn5 (by omega) h2 (RB.le l8) (RU.le l8) (hload_le l8 hb0) (hload_le l8 hbt) (hload_le l8 hbu)
 ·rintro⟨p1,p2⟩ h8 ⟨s,rfl,h1,h2⟩ l8
  have:=c_moves (s:=s) (p:=p2) hB hn5 (by omega) h2 (RB.le l8) (RU.le l8) (hload_le l8 hbt) (hload_le l8 hbu)
  rw[← hc] at this
  exact this
 rintro _ h8 ⟨w2,rfl,H⟩
 rw[Fm.ini2_map] at H ⊢
 simp -implicitDefEqProofs (disch:=first|omega|(simp only[LnZ];omega))[wrap64,H.rep.aAut,setC]
 have hiff:Fm.trOk x↔Fm.exOk (Fm.mvT B (Fm.unt B B.length)) (Fm.acT B (Fm.unt B B.length)) (Fm.ini0 B G n):=⟨fun h=>(htO.1 h).2,fun h=>htO.2 ⟨q1,h⟩⟩
 refine RetK.keep (hk _ _ ⟨w2,by rw[decide_eq_decide.2 hiff],?_⟩)
 have hR:Fm.trR x=Fm.exR (Fm.mvT B (Fm.unt B B.length)) (Fm.acT B (Fm.unt B B.length)) (Fm.ini0 B G n):=by
  by_cases q:Fm.trOk x
  ·rw[Fm.trR,if_pos q,htR q,Fm.exR,if_pos (hiff.1 q)]
  ·rw[Fm.trR,if_neg q,Fm.exR,if_neg (fun hh=>q (hiff.2 hh))]
 rw[hR]
 exact HS.app (Γ:=[]) H lf
namespace Fm
instance instDecTru {B:List Bool}{x:Nat}:Decidable (Go.Proofs.YtedbaenahnfhfaaGreat.tru B x):=by unfold Go.Proofs.YtedbaenahnfhfaaGreat.tru;infer_instance
end Fm
theorem Great.refl {a:Aut}{R:Rl}(h:Great a R) {i:Nat}(hi:i<a.acc.length):R i i=true:=by
 refine h.upper (fun x y=>decide (x=y)) ⟨?_,?_⟩ i i hi hi (by simp)
 ·intro x y _ _ hxy hx
  simp only[decide_eq_true_eq] at hxy
  subst hxy;exact hx
 ·intro x y _ _ hxy l _ e he hx ho
  simp only[decide_eq_true_eq] at hxy
  subst hxy
  exact⟨e,he,hx,ho,by simp⟩
theorem Great.trans {a:Aut}(ha:a.Ok) {R:Rl}(h:Great a R) {i j k:Nat}(hi:i<a.acc.length) (hj:j<a.acc.length) (hk:k<a.acc.length) (h1:R i j=true) (h2:R j k=true):R i k=true:=by
 refine h.upper (fun x z=>@decide (∃y,y<a.acc.length∧R x y=true∧R y z=true) (Classical.propDecidable _)) ⟨?_,?_⟩ i k hi hk (by simpa using⟨j,hj,h1,h2⟩)
 ·intro x z hx hz hxz h3
  simp only[decide_eq_true_eq] at hxz
  obtain⟨y,hy,h4,h5⟩:=hxz
  exact h.simu.1 y z hy hz h5 (h.simu.1 x y hx hy h4 h3)
 ·intro x z hx hz hxz l hl e he h6 ho
  simp only[decide_eq_true_eq] at hxz
  obtain⟨y,hy,h4,h5⟩:=hxz
  obtain⟨f,hf,g1,g2,g3⟩:=h.simu.2 x y hx hy h4 l hl e he h6 ho
  obtain⟨f',hf',k1,k2,k3⟩:=h.simu.2 y z hy hz h5 l hl f hf g1 g2
  obtain⟨_,q,_,h8,_,h10⟩:=ha.tr hf
  refine⟨f',hf',k1,k2,?_⟩
  simp only[decide_eq_true_eq]
  exact⟨f.to.toNat,by rw[h8];simpa using h10,g3,k3⟩
def Letters (w:Nat→Int):Prop:=∀t,0≤w t∧w t≤7
theorem Simu.run {a:Aut}(ha:a.Ok) {R:Rl}(hR:Simu a R) {w:Nat→Int}(hw:Letters w) {t i j:Nat}(hi:i<a.acc.length) (hj:j<a.acc.length) (h:R i j=true) (k:Run a.acc a.edges w t i):Run a.acc a.edges w t j:=by
 refine Run.sim (fun x y=>x<a.acc.length∧y<a.acc.length∧R x y=true) ?_ ?_ k ⟨hi,hj,h⟩
 ·rintro t p q p' ⟨h1,h2,h3⟩ ⟨e,he,h4,h5,h6⟩ _
  have h7:=hw t
  obtain⟨n,hn⟩:∃n:Nat,w t=n:=⟨(w t).toNat,by omega⟩
  rw[hn] at h6 h7
  obtain⟨f,hf,g1,g2,g3⟩:=hR.2 p p' h1 h2 h3 n (by omega) e he h4 h6
  obtain⟨x,y,k1,k2,k3,k4⟩:=ha.tr he
  obtain⟨x',y',k1',k2',k3',k4'⟩:=ha.tr hf
  refine⟨y',⟨f,hf,g1,k2',by rw[hn];exact g2⟩,by omega,k4',?_⟩
  rw[h5,k2'] at g3
  simpa using g3
 ·rintro p p' ⟨h1,h2,h3⟩ h4
  exact hR.1 p p' h1 h2 h3 h4
section
variable {a b:Aut}
end
section
variable {a:Aut}{K:Nat→Bool}
end
namespace Fm
theorem ltv_sub {B:List Exq}{s:Nat}:ltv B s B.length&&&ltc B B.length=ltv B s B.length:=by
 refine Nat.eq_of_testBit_eq fun a=>?_
 rw[Nat.testBit_and]
 cases h:(ltv B s B.length).testBit a with
 | false=>rfl
 | true=>
  obtain⟨i,hi,h1,h2,_,h4⟩:=(ltv_bit _ (Nat.le_refl _)).1 h
  rw[(ltc_bit _ (Nat.le_refl _)).2 ⟨i,hi,h1,h2,h4⟩]
  rfl
theorem trA_ok {x:Exq}(h:trOk x):(trA x).Ok:=by
 rw[trA_ex h]
 have h5:=h.1.2
 have hB:=fun y hy=>(basics_ok h.1 y hy).1
 have hp:2^(basics x).length≤2^5:=Nat.pow_le_pow_right (by omega) h5
 refine exA_ok (trOk_ex.1 h).2 ?_ fun s _ m hm=>?_
 ·have:=exN_edges (mv:=mvT (basics x) (unt (basics x) (basics x).length)) (ac:=acT (basics x) (unt (basics x) (basics x).length)) (L0:=ini0 (basics x) (push x false) (2^(basics x).length)) (fun _=>mvT_len) 64
  omega
 ·unfold mvT mvS at hm
  obtain⟨t,_,rfl⟩:=List.mem_map.1 hm
  exact⟨_,_,rfl,rfl,ltc_lt hB _ (Nat.le_refl _),ltv_sub⟩
end Fm
theorem Rep.tail {α:Type} [Ty α] {h:Heap}{v:Value}{l:List α}(R:Rep h v l) {n esz:Nat}{k:IntKind}(hn:n≤l.length) (he:esz=Ty.sz α):∃v',sliceVV esz v (some (some (.int k n))) none none=some v'∧Rep h v' (l.drop n):=by
 subst he
 obtain⟨p,cap,rfl,h1,h2,h3⟩:=Rep_list.1 R
 have hl:(l.drop n).length=l.length-n:=by simp
 have hv:sliceVV (Ty.sz α) (.slice p l.length cap) (some (some (.int k n))) none none=some (Value.slice (if cap=n then p else p.map fun a=>a.add (n*Ty.sz α)) (l.length-n) (cap-n)):=by
  simp[sliceVV,bndV,hn]
 refine⟨_,hv,?_⟩
 by_cases e:n=l.length
 ·have hd:l.drop n=[]:=by rw[e];simp
  rw[hd,show l.length-n=0 by omega]
  exact Rep_list.2 ⟨_,cap-n,rfl,by simp,trivial,fun i hi=>by simp at hi⟩
 ·obtain⟨b,off,vs,rfl,_⟩:=h3 0 (by omega)
  rw[if_neg (by omega)]
  refine Rep_list.2 ⟨_,cap-n,by rw[hl],by rw[hl];omega,trivial,fun i hi=>?_⟩
  rw[hl] at hi
  obtain⟨b',off',vs,e1,e2,e3⟩:=h3 (n+i) (by omega)
  simp only[Option.some.injEq,Addr.mk.injEq] at e1
  obtain⟨rfl,rfl,_⟩:=e1
  refine⟨b,off+n*Ty.sz α,vs,by simp[Addr.add],?_,by simpa using e3⟩
  rw[Nat.add_mul,← Nat.add_assoc] at e2
  exact e2
theorem c_negation {h:Heap}{v:Value}{x:Exq}(R:Rep h v x) (hx:Fm.Ok x):CallE Tryz.prog fn_impl_Formula_negation [v] h (fun u h'=>h.le h'∧Rep h' u (Fm.ngt x)):=by
 have FX:=R.aExq
 have hsz:=hx.sz
 obtain⟨w,rfl,k1,k2,R1⟩:=Rep_Exq.1 R
 refine CallE.gen fun k hk=>EN_impl_Formula_negation rfl ?_
 unfold Fm.ngt at hk
 by_cases c3:x.kind=3
 ·rw[if_pos c3] at hk
  have hl:=hx.1.one (.inl c3)
  obtain⟨u,hu,Ru⟩:=R1.ld (i:=0) (by omega)
  change hload _ (some (elp 3 w 0)) (some 3)=some u at hu
  simp -implicitDefEqProofs (disch:=first|omega|(simp only[LnZ];omega))[wrap64,FX,c3,R1.X (n:=3) rfl,hu,Ru.aExq]
  refine (c_Formula_copyOf _ Ru (by have:=sz_kid (x:=x) (i:=0) (by omega);omega)).go ?_
  intro y h1 H
  simp -implicitDefEqProofs (disch:=first|omega|(simp only[LnZ];omega))[wrap64,H.rep.aExq,setC]
  exact RetK.keep (hk _ _ ⟨H.base,by rw[getD_some (by omega)];exact H.rep⟩)
 ·rw[if_neg c3] at hk
  simp -implicitDefEqProofs (disch:=first|omega|(simp only[LnZ];omega))[wrap64,FX,c3]
  refine (c_Formula_copyOf _ R (by omega)).go ?_
  intro y h1 H
  obtain⟨yw,hyw,_,_,_⟩:=Rep_Exq.1 H.rep
  subst hyw
  simp -implicitDefEqProofs (disch:=omega)[wrap64]
  refine bls_one (α:=Exq) H.rep rfl fun sl h2 l2 Rs=>?_
  simp -implicitDefEqProofs (disch:=omega)[wrap64]
  refine (c_formula ⟨by decide,by decide⟩ Rs (by simp)).go ?_
  rintro r h3 ⟨l3,Rr⟩
  simp -implicitDefEqProofs (disch:=first|omega|(simp only[LnZ];omega))[wrap64,Rr.aExq,setC]
  exact RetK.keep (hk _ _ ⟨H.base.trans (l2.trans l3),Rr⟩)
theorem c_NegateFormula {h:Heap}{v:Value}{x:Exq}(R:Rep h v x):CallE Tryz.prog fn_impl_NegateFormula [v] h (fun u h'=>∃g,u=.tuple #[g,.bool (decide (Fm.Ok x∧Fm.Ok (Fm.ngt x)))]∧h.le h'∧Rep h' g (if Fm.Ok x∧Fm.Ok (Fm.ngt x) then Fm.ngt x else Exq.zero)):=by
 have FX:=R.aExq
 refine CallE.gen fun k hk=>EN_impl_NegateFormula rfl ?_
 simp -implicitDefEqProofs (disch:=first|omega|(simp only[LnZ];omega))[wrap64,FX]
 refine (c_FormulaValid R).go ?_
 rintro _ h1 ⟨l1,rfl⟩
 by_cases q:Fm.Ok x
 case neg=>
  simp -implicitDefEqProofs (disch:=first|omega|(simp only[LnZ];omega))[wrap64,q,setC]
  exact RetK.keep (hk _ _ ⟨_,by rw[decide_eq_false (fun hh=>q hh.1)],l1,by rw[if_neg (fun hh=>q hh.1)];exact rep_zero⟩)
 simp -implicitDefEqProofs (disch:=first|omega|(simp only[LnZ];omega))[wrap64,q,FX]
 refine (c_negation (R.le l1) q).go ?_
 rintro g h2 ⟨l2,Rg⟩
 simp -implicitDefEqProofs (disch:=omega)[wrap64]
 refine (c_FormulaValid Rg).go ?_
 rintro _ h3 ⟨l3,rfl⟩
 by_cases q2:Fm.Ok (Fm.ngt x)
 case neg=>
  simp -implicitDefEqProofs (disch:=first|omega|(simp only[LnZ];omega))[wrap64,q2,setC]
  exact RetK.keep (hk _ _ ⟨_,by rw[decide_eq_false (fun hh=>q2 hh.2)],l1.trans (l2.trans l3),by rw[if_neg (fun hh=>q2 hh.2)];exact rep_zero⟩)
 have l123:=l1.trans (l2.trans l3)
 simp -implicitDefEqProofs (disch:=first|omega|(simp only[LnZ];omega))[wrap64,q2,FX]
 refine (c_negation (R.le l123) q).go ?_
 rintro g2 h4 ⟨l4,Rg2⟩
 simp -implicitDefEqProofs (disch:=first|omega|(simp only[LnZ];omega))[wrap64,Rg2.aExq,setC]
 exact RetK.keep (hk _ _ ⟨_,by rw[decide_eq_true ⟨q,q2⟩],l123.trans l4,by rw[if_pos ⟨q,q2⟩];exact Rg2⟩)
namespace Fm
def LtW (W:List Int):Prop:=∀y∈W,0≤y∧y≤7
noncomputable def vdt (x y:Exq) (W:List Int):Int:=if (trA x).states W=[] then 2 else if (trA y).states W=[] then 1 else 0
structure Dual (x y:Exq):Prop where
 tx:trOk x
 ty:trOk y
 ax:(trA x).Ok
 ay:(trA y).Ok
 neg:∀w,sat w y 0↔¬sat w x 0
theorem Dual.symm {x y:Exq}(h:Dual x y):Dual y x:=⟨h.ty,h.tx,h.ay,h.ax,fun w=>by rw[h.neg];exact Classical.not_not.symm⟩
theorem Dual.not_both {x y:Exq}(h:Dual x y) {W:List Int}(hW:LtW W):¬((trA x).states W=[]∧(trA y).states W=[]):=Fm.not_both h.tx h.ty h.ax h.ay h.neg hW
theorem Dual.bad {x y:Exq}(h:Dual x y) {W:List Int}(hW:LtW W):(trA x).states W=[]↔∀w,Lts w→Pre W w→¬sat w x 0:=bad_iff h.tx h.ax hW
theorem Dual.good {x y:Exq}(h:Dual x y) {W:List Int}(hW:LtW W):(trA y).states W=[]↔∀w,Lts w→Pre W w→sat w x 0:=by
 rw[bad_iff h.ty h.ay hW]
 constructor
 ·exact fun h1 w h2 h3=>Classical.not_not.1 fun h4=>h1 w h2 h3 ((h.neg w).2 h4)
 ·exact fun h1 w h2 h3 h4=>(h.neg w).1 h4 (h1 w h2 h3)
theorem vdt_bad {x y:Exq}{W:List Int}:vdt x y W=2↔(trA x).states W=[]:=by
 unfold vdt
 split
 ·rename_i h;simp[h]
 ·rename_i h;split<;>simp[h]
theorem vdt_good {x y:Exq}(h:Dual x y) {W:List Int}(hW:LtW W):vdt x y W=1↔(trA y).states W=[]:=by
 unfold vdt
 split
 ·rename_i h1
  have:¬(trA y).states W=[]:=fun h2=>h.not_both hW ⟨h1,h2⟩
  simp[this]
 ·split
  ·rename_i h2;simp[h2]
  ·rename_i h2;simp[h2]
theorem vdt_rng {x y:Exq}{W:List Int}:vdt x y W=0∨vdt x y W=1∨vdt x y W=2:=by
 unfold vdt
 split
 ·simp
 ·split<;>simp
end Fm
end Go.Proofs.YtedbaenahnfhfaaGreat
