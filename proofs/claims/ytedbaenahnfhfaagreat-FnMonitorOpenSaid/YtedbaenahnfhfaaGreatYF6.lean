/-
  Texts of this proof, one behind the other.
-/
import Derived.Test.YtedbaenahnfhfaaGreatYF5
set_option linter.all false
set_option linter.unusedVariables false
set_option linter.unusedSimpArgs false
set_option linter.defProp false
set_option maxRecDepth 1000000
namespace Go.Proofs.YtedbaenahnfhfaaGreat
open Go
section
variable {l:Las}
theorem Las.pos_stem {t:Nat}(h:t<l.size):l.pos t=t:=by
 induction t with
 | zero=>rfl
 | succ t ih=>
  rw[Las.pos,ih (by omega),Las.nx,if_neg (by omega)]
theorem mod_succ {j L:Nat}(hL:0<L):(j+1)%L=if j%L+1=L then 0 else j%L+1:=by
 have h:=Nat.mod_lt j hL
 rw[← Nat.mod_add_mod]
 split
 ·rename_i e;rw[e,Nat.mod_self]
 ·exact Nat.mod_eq_of_lt (by omega)
theorem Las.pos_loop (hl:1≤l.loop.length):∀j:Nat,l.pos (l.stem.length+j)=l.stem.length+j%l.loop.length
 | 0=>by
  rw[Nat.zero_mod,Nat.add_zero]
  exact Las.pos_stem (by unfold Las.size;omega)
 | j+1=>by
  have ih:=Las.pos_loop hl j
  have h:=Nat.mod_lt j (show 0<l.loop.length by omega)
  rw[← Nat.add_assoc,Las.pos,ih,Las.nx,mod_succ (by omega)]
  unfold Las.size
  by_cases e:j%l.loop.length+1=l.loop.length
  ·rw[if_pos (by omega),if_pos e];rfl
  ·rw[if_neg (by omega),if_neg e];omega
theorem Las.word_stem {t:Nat}(h:t<l.stem.length):l.word t=l.stem[t]:=by
 unfold Las.word
 rw[Las.pos_stem (by unfold Las.size;omega)]
 unfold Las.all
 rw[List.getD_eq_getElem?_getD,List.getElem?_append_left h,List.getElem?_eq_getElem h]
 rfl
theorem Las.word_loop (hl:1≤l.loop.length) (j:Nat):l.word (l.stem.length+j)=l.loop[j%l.loop.length]'(Nat.mod_lt _ (by omega)):=by
 have h:=Nat.mod_lt j (show 0<l.loop.length by omega)
 unfold Las.word
 rw[Las.pos_loop hl]
 unfold Las.all
 rw[List.getD_eq_getElem?_getD,List.getElem?_append_right (by omega),Nat.add_sub_cancel_left,List.getElem?_eq_getElem h]
 rfl
end
inductive LP (E:List Tr):Nat→List Int→Nat→Prop
 | nil (p:Nat):LP E p [] p
 | cons {p q r:Nat}{x:Int}{xs:List Int}(h:∃e∈E,e.frm=p∧e.to=q∧e.on x=true) (k:LP E q xs r):LP E p (x::xs) r
section
variable {E:List Tr}
theorem LP.append {p q r:Nat}{xs ys:List Int}(h:LP E p xs q) (k:LP E q ys r):LP E p (xs++ys) r:=by
 induction h with
 | nil=>exact k
 | cons h _ ih=>exact .cons h (ih k)
theorem LP.fr {w:Nat→Int}{p q:Nat}{xs:List Int}(h:LP E p xs q):∀{t:Nat},(∀i (hi:i<xs.length),w (t+i)=xs[i])→FR E w t p (t+xs.length) q:=by
 induction h with
 | nil=>intro t _;exact .refl _ _
 | cons h k ih=>
  rename_i x xs
  intro t hw
  have h1:=ih (t:=t+1) (fun i hi=>by
   have:=hw (i+1) (by simpa using hi)
   rw[show t+(i+1)=t+1+i by omega] at this
   simpa using this)
  obtain⟨e,he,h2,h3,h4⟩:=h
  have h5:=hw 0 (by simp)
  simp only[Nat.add_zero,List.getElem_cons_zero] at h5
  rw[List.length_cons,show t+(xs.length+1)=t+1+xs.length by omega]
  exact .step ⟨e,he,h2,h3,by rw[h5];exact h4⟩ h1
end
theorem lasso_lang {a:Aut}{l:Las}(hl:1≤l.loop.length) {s x:Nat}(hs:(s:Int)∈a.init) (h1:LP a.edges s l.stem x) (h2:LP a.edges x l.loop x) (hx:tru a.acc x):a.Lang l.word:=by
 have f1:=h1.fr (w:=l.word) (t:=0) (fun i hi=>by rw[Nat.zero_add];exact Las.word_stem hi)
 rw[Nat.zero_add] at f1
 refine⟨s,hs,Run.before f1 ⟨fun t p=>p=x∧∃k,t=l.stem.length+k*l.loop.length,⟨rfl,0,by omega⟩,?_⟩⟩
 rintro t p ⟨rfl,k,rfl⟩
 refine⟨l.stem.length+k*l.loop.length+l.loop.length,p,by omega,h2.fr (fun i hi=>?_),hx,rfl,k+1,by rw[Nat.add_mul];omega⟩
 rw[Nat.add_assoc,Las.word_loop hl]
 congr 1
 rw[Nat.mul_add_mod',Nat.mod_eq_of_lt hi]
namespace Bf
def row (a:Aut) (q:Int) (k:Nat):List Int:=((a.edges.take k).filter fun e=>decide (e.frm=q)).map Tr.to
def NX (a:Aut) (k:Nat):List (List Int):=(List.range a.acc.length).map fun (q:Nat)=>row a q k
def nx (a:Aut):List (List Int):=NX a a.edges.length
section
variable {a:Aut}
theorem NX_len {k:Nat}:(NX a k).length=a.acc.length:=by simp[NX]
theorem nx_len:(nx a).length=a.acc.length:=NX_len
theorem NX_at {k q:Nat}(hq:q<a.acc.length):(NX a k)[q]'(by rw[NX_len];exact hq)=row a q k:=by simp[NX]
theorem nx_getD {q:Nat}(hq:q<a.acc.length):(nx a).getD q []=row a q a.edges.length:=by
 rw[List.getD_eq_getElem?_getD,List.getElem?_eq_getElem (by rw[nx_len];exact hq)]
 exact NX_at hq
theorem row_succ {q:Int}{k:Nat}(hk:k<a.edges.length):row a q (k+1)=if a.edges[k].frm=q then row a q k++[a.edges[k].to] else row a q k:=by
 unfold row
 rw[List.take_add_one,List.getElem?_eq_getElem hk,List.filter_append,List.map_append]
 by_cases e:a.edges[k].frm=q
 ·simp[e]
 ·simp[e]
theorem row_len {q:Int}{k:Nat}:(row a q k).length≤k:=by
 unfold row
 rw[List.length_map]
 have:=List.length_filter_le (fun e=>decide (e.frm=q)) (a.edges.take k)
 rw[List.length_take] at this
 omega
theorem NX_zero:NX a 0=List.replicate a.acc.length []:=by
 refine List.ext_getElem (by simp[NX]) fun i h1 h2=>?_
 simp[NX,row]
theorem NX_succ {k f:Nat}(hk:k<a.edges.length) (hf:a.edges[k].frm=f) (hfn:f<a.acc.length):NX a (k+1)=(NX a k).set f ((NX a k)[f]'(by rw[NX_len];exact hfn)++[a.edges[k].to]):=by
 refine List.ext_getElem (by simp[NX]) fun i h1 h2=>?_
 rw[NX_len] at h1
 have e1:(NX a (k+1))[i]'(by rw[NX_len];exact h1)=row a i (k+1):=NX_at h1
 have e2:(NX a k)[i]'(by rw[NX_len];exact h1)=row a i k:=NX_at h1
 have e3:(NX a k)[f]'(by rw[NX_len];exact hfn)=row a f k:=NX_at hfn
 refine e1.trans ?_
 rw[List.getElem_set,row_succ hk,hf]
 by_cases e:f=i
 ·subst e;rw[if_pos rfl,if_pos rfl,e3]
 ·rw[if_neg e,if_neg (by omega),e2]
theorem row_mem' {q x:Int}:x∈row a q a.edges.length↔∃e∈a.edges,e.frm=q∧e.to=x:=by
 unfold row
 rw[List.take_length,List.mem_map]
 constructor
 ·rintro⟨e,he,rfl⟩
  obtain⟨h1,h2⟩:=List.mem_filter.1 he
  exact⟨e,h1,by simpa using h2,rfl⟩
 ·rintro⟨e,he,h1,rfl⟩
  exact⟨e,List.mem_filter.2 ⟨he,by simpa using h1⟩,rfl⟩
theorem nx_E (ha:a.Ok) (x y:Nat):a.E x y↔x<(nx a).length∧(y:Int)∈(nx a).getD x []:=by
 rw[nx_len]
 constructor
 ·rintro⟨e,he,h1,h2⟩
  have:=(Aut.E_lt ha x y ⟨e,he,h1,h2⟩).1
  exact⟨this,by rw[nx_getD this,row_mem'];exact⟨e,he,h1,h2⟩⟩
 ·rintro⟨h1,h2⟩
  rw[nx_getD h1,row_mem'] at h2
  exact h2
theorem nx_ok (ha:a.Ok):NOk (nx a):=by
 refine⟨fun l hl x hx=>?_⟩
 obtain⟨q,hq,rfl⟩:=List.mem_iff_getElem.1 hl
 rw[nx_len] at hq ⊢
 have h1:x∈row a q a.edges.length:=by rw[← NX_at hq];exact hx
 obtain⟨e,he,_,rfl⟩:=row_mem'.1 h1
 obtain⟨f,g,_,h3,_,h4⟩:=ha.tr he
 omega
theorem nx_Ed (ha:a.Ok) {x y:Int}:Ed (nx a) x y↔∃e∈a.edges,e.frm=x∧e.to=y:=by
 unfold Ed
 rw[nx_len]
 constructor
 ·rintro⟨h1,h2,h3⟩
  rw[nx_getD (by omega),row_mem',Int.toNat_of_nonneg h1] at h3
  exact h3
 ·rintro⟨e,he,h1,h2⟩
  obtain⟨f,g,h3,h4,h5,h6⟩:=ha.tr he
  refine⟨by omega,by omega,?_⟩
  rw[nx_getD (by omega),row_mem',Int.toNat_of_nonneg (by omega)]
  exact⟨e,he,h1,h2⟩
end
def ev (a:Aut) (p q:Int):Int:=match a.edges.find? (fun e=>decide (e.frm=p∧e.to=q)) with
 | some e=>e.value
 | none=>0
def vals (a:Aut):List Int→List Int
 | p::q::l=>ev a p q::vals a (q::l)
 | _=>[]
theorem vals_snoc {a:Aut}:∀{l:List Int}{p q:Int},vals a (l++[p]++[q])=vals a (l++[p])++[ev a p q]
 | [],p,q=>by simp[vals]
 | [x],p,q=>by simp[vals]
 | x::y::l,p,q=>by
  have:=vals_snoc (a:=a) (l:=y::l) (p:=p) (q:=q)
  simp only[List.cons_append,vals] at this ⊢
  rw[this]
theorem vals_len {a:Aut}:∀{l:List Int},(vals a l).length=l.length-1
 | []=>rfl
 | [x]=>rfl
 | x::y::l=>by
  have:=vals_len (a:=a) (l:=y::l)
  simp only[vals,List.length_cons] at this ⊢
  omega
theorem andI_le {v c:Int}(h0:0≤c) (h1:c<4294967296):andI .i64 v c≤c:=by
 obtain⟨n,rfl⟩:∃n:Nat,c=n:=⟨c.toNat,by omega⟩
 unfold andI
 have h2:(BitVec.ofInt IntKind.i64.bits v&&&BitVec.ofInt IntKind.i64.bits (n:Int)).toNat≤n:=by
  rw[BitVec.toNat_and]
  refine Nat.le_trans Nat.and_le_right ?_
  have:(BitVec.ofInt IntKind.i64.bits (n:Int)).toNat=n%2^IntKind.i64.bits:=by simp
  rw[this]
  exact Nat.mod_le _ _
 generalize (BitVec.ofInt IntKind.i64.bits v&&&BitVec.ofInt IntKind.i64.bits (n:Int)).toNat=m at *
 have:IntKind.i64.wrap (m:Int)=m:=by
  have:IntKind.i64.wrap (m:Int)=if (m:Int)%18446744073709551616≥9223372036854775808 then (m:Int)%18446744073709551616-18446744073709551616 else (m:Int)%18446744073709551616:=by
   simp[IntKind.wrap,IntKind.signed,IntKind.bits]
  rw[this]
  split<;>omega
 rw[this]
 omega
theorem ev_ok {a:Aut}(ha:a.Ok) {p q:Int}(h:∃e∈a.edges,e.frm=p∧e.to=q):∃e∈a.edges,e.frm=p∧e.to=q∧ev a p q=e.value∧e.on (ev a p q)=true∧0≤ev a p q∧ev a p q≤7:=by
 obtain⟨e,he,h1,h2⟩:=h
 cases hf:a.edges.find? (fun e=>decide (e.frm=p∧e.to=q)) with
 | none=>
  rw[List.find?_eq_none] at hf
  have:=hf e he
  simp[h1,h2] at this
 | some f=>
  have h3:=List.find?_some hf
  have h4:=List.mem_of_find?_eq_some hf
  simp only[decide_eq_true_eq] at h3
  have h5:ev a p q=f.value:=by unfold ev;rw[hf]
  have h6:=ha.2.2.2 f h4
  unfold Tr.Ok at h6
  refine⟨f,h4,h3.1,h3.2,h5,?_,by omega,?_⟩
  ·rw[h5,Tr.on,decide_eq_true_eq]
   exact h6.2.2.2.2.2.2.2
  ·rw[h5,← h6.2.2.2.2.2.2.2]
   exact Int.le_trans (andI_le (by omega) (by omega)) (show f.care≤7 by omega)
end Bf
theorem c_Clone_int {h:Heap}{a:Value}{x:List Int}(Ra:Rep h a x) (hs:x.length≤1073741824):CallE Tryz.prog fn_slices_Clone_S_int_int [a] h (fun v h'=>HS h [ow v x] h'):=by
 refine CallE.gen fun k hk=>EN_slices_Clone_S_int_int rfl ?_
 obtain⟨b,hb,hb2⟩:=Ra.isNil
 simp -implicitDefEqProofs (disch:=first|omega|(simp only[LnZ];omega))[wrap64,hb]
 refine IteW.mk (fun h1=>?_) (fun h1=>?_)
 ·simp -implicitDefEqProofs (disch:=omega)[wrap64]
  have h2:x=[]:=hb2 h1
  subst h2
  exact RetK.keep (hk _ _ HS.init.nil_ow)
 ·simp -implicitDefEqProofs (disch:=omega)[wrap64]
  refine HS.init.appPL (α:=Int) (l2:=x) (u:=a) rfl rfl Ra rfl rfl (by omega) fun v h1 H=>?_
  simp -implicitDefEqProofs (disch:=omega)[wrap64]
  exact RetK.keep (hk _ _ H)
theorem c_Clip_int {g h:Heap}{Γ:List HP}{a:Value}{x:List Int}(H:HS g (ow a x::Γ) h):CallE Tryz.prog fn_slices_Clip_S_int_int [a] h (fun v h'=>HS g (ow v x::Γ) h'):=by
 refine CallE.gen fun k hk=>EN_slices_Clip_S_int_int rfl ?_
 obtain⟨v',h1,h2⟩:=H.clip (esz:=1) (k:=.i64)
 simp -implicitDefEqProofs (disch:=first|omega|(simp only[LnZ];omega))[wrap64,H.rep.I,h1]
 exact RetK.keep (hk _ _ h2)
theorem c_clone_int {h:Heap}{a:Value}{x:List Int}(Ra:Rep h a x) (hs:x.length≤1073741824):CallE Tryz.prog fn_impl_clone_int [a] h (fun v h'=>HS h [ow v x] h'):=by
 refine CallE.gen fun k hk=>EN_impl_clone_int rfl ?_
 simp -implicitDefEqProofs (disch:=omega)[wrap64]
 refine (c_Clone_int Ra hs).go ?_
 intro v h1 H
 simp -implicitDefEqProofs (disch:=omega)[wrap64]
 refine (c_Clip_int H).go ?_
 intro v' h2 H
 simp -implicitDefEqProofs (disch:=omega)[wrap64]
 exact RetK.keep (hk _ _ H)
theorem c_Clone_bool {h:Heap}{a:Value}{x:List Bool}(Ra:Rep h a x) (hs:x.length≤1073741824):CallE Tryz.prog fn_slices_Clone_S_bool_bool [a] h (fun v h'=>HS h [ow v x] h'):=by
 refine CallE.gen fun k hk=>EN_slices_Clone_S_bool_bool rfl ?_
 obtain⟨b,hb,hb2⟩:=Ra.isNil
 simp -implicitDefEqProofs (disch:=first|omega|(simp only[LnZ];omega))[wrap64,hb]
 refine IteW.mk (fun h1=>?_) (fun h1=>?_)
 ·simp -implicitDefEqProofs (disch:=omega)[wrap64]
  have h2:x=[]:=hb2 h1
  subst h2
  exact RetK.keep (hk _ _ HS.init.nil_ow)
 ·simp -implicitDefEqProofs (disch:=omega)[wrap64]
  refine HS.init.appPL (α:=Bool) (l2:=x) (u:=a) rfl rfl Ra rfl rfl (by omega) fun v h1 H=>?_
  simp -implicitDefEqProofs (disch:=omega)[wrap64]
  exact RetK.keep (hk _ _ H)
theorem c_Clip_bool {g h:Heap}{Γ:List HP}{a:Value}{x:List Bool}(H:HS g (ow a x::Γ) h):CallE Tryz.prog fn_slices_Clip_S_bool_bool [a] h (fun v h'=>HS g (ow v x::Γ) h'):=by
 refine CallE.gen fun k hk=>EN_slices_Clip_S_bool_bool rfl ?_
 obtain⟨v',h1,h2⟩:=H.clip (esz:=1) (k:=.i64)
 simp -implicitDefEqProofs (disch:=first|omega|(simp only[LnZ];omega))[wrap64,H.rep.B,h1]
 exact RetK.keep (hk _ _ h2)
theorem c_clone_bool {h:Heap}{a:Value}{x:List Bool}(Ra:Rep h a x) (hs:x.length≤1073741824):CallE Tryz.prog fn_impl_clone_bool [a] h (fun v h'=>HS h [ow v x] h'):=by
 refine CallE.gen fun k hk=>EN_impl_clone_bool rfl ?_
 simp -implicitDefEqProofs (disch:=omega)[wrap64]
 refine (c_Clone_bool Ra hs).go ?_
 intro v h1 H
 simp -implicitDefEqProofs (disch:=omega)[wrap64]
 refine (c_Clip_bool H).go ?_
 intro v' h2 H
 simp -implicitDefEqProofs (disch:=omega)[wrap64]
 exact RetK.keep (hk _ _ H)
theorem c_Clone_impl_Transition {h:Heap}{a:Value}{x:List Tr}(Ra:Rep h a x) (hs:x.length≤1073741824):CallE Tryz.prog fn_slices_Clone_S_impl_Transition_impl_Transition [a] h (fun v h'=>HS h [ow v x] h'):=by
 refine CallE.gen fun k hk=>EN_slices_Clone_S_impl_Transition_impl_Transition rfl ?_
 obtain⟨b,hb,hb2⟩:=Ra.isNil
 simp -implicitDefEqProofs (disch:=first|omega|(simp only[LnZ];omega))[wrap64,hb]
 refine IteW.mk (fun h1=>?_) (fun h1=>?_)
 ·simp -implicitDefEqProofs (disch:=omega)[wrap64]
  have h2:x=[]:=hb2 h1
  subst h2
  exact RetK.keep (hk _ _ HS.init.nil_ow)
 ·simp -implicitDefEqProofs (disch:=omega)[wrap64]
  refine HS.init.appPL (α:=Tr) (l2:=x) (u:=a) rfl rfl Ra rfl rfl (by omega) fun v h1 H=>?_
  simp -implicitDefEqProofs (disch:=omega)[wrap64]
  exact RetK.keep (hk _ _ H)
theorem c_Clip_impl_Transition {g h:Heap}{Γ:List HP}{a:Value}{x:List Tr}(H:HS g (ow a x::Γ) h):CallE Tryz.prog fn_slices_Clip_S_impl_Transition_impl_Transition [a] h (fun v h'=>HS g (ow v x::Γ) h'):=by
 refine CallE.gen fun k hk=>EN_slices_Clip_S_impl_Transition_impl_Transition rfl ?_
 obtain⟨v',h1,h2⟩:=H.clip (esz:=4) (k:=.i64)
 simp -implicitDefEqProofs (disch:=first|omega|(simp only[LnZ];omega))[wrap64,H.rep.xTr,h1]
 exact RetK.keep (hk _ _ h2)
theorem c_clone_impl_Transition {h:Heap}{a:Value}{x:List Tr}(Ra:Rep h a x) (hs:x.length≤1073741824):CallE Tryz.prog fn_impl_clone_impl_Transition [a] h (fun v h'=>HS h [ow v x] h'):=by
 refine CallE.gen fun k hk=>EN_impl_clone_impl_Transition rfl ?_
 simp -implicitDefEqProofs (disch:=omega)[wrap64]
 refine (c_Clone_impl_Transition Ra hs).go ?_
 intro v h1 H
 simp -implicitDefEqProofs (disch:=omega)[wrap64]
 refine (c_Clip_impl_Transition H).go ?_
 intro v' h2 H
 simp -implicitDefEqProofs (disch:=omega)[wrap64]
 exact RetK.keep (hk _ _ H)
theorem c_IndexFunc_impl_Transition {h:Heap}{a fv:Value}{x:List Tr}(Ra:Rep h a x) {f:FuncId}{c1 c2:List Value}(hf:fnOf fv=some (f,c1,c2)) (p:Tr→Bool)
  (hp:∀h1,h.le h1→∀(i:Nat) (hi:i<x.length) (u:Value),Rep h1 u x[i]→CallE Tryz.prog f (c1++u::c2) h1 (fun v h'=>h1.le h'∧v=.bool (p x[i]))) :
  CallE Tryz.prog fn_slices_IndexFunc_S_impl_Transition_impl_Transition [a,fv] h (fun v h'=>h.le h'∧v=.int .i64 (match x.findIdx? p with | some i=>(i:Int) | none=>-1)):=by
 refine CallE.gen fun k hk=>EN_slices_IndexFunc_S_impl_Transition_impl_Transition rfl ?_
 have hL:=Ra.lt
 simp -implicitDefEqProofs (disch:=first|omega|(simp only[LnZ];omega))[wrap64,Ra.len]
 refine wp_count x.length (fun i e h'=>e=[some a,some fv,none,none,some (.int .i64 x.length),some (.int .i64 i)]∧h.le h'∧∀(j:Nat) (hj:j<x.length),j<i→p x[j]=false) ⟨rfl,Heap.le.refl h,fun j _ hj=>absurd hj (Nat.not_lt_zero j)⟩ ?_
 rintro J i _ h1 hJ hi ⟨rfl,hl,hn⟩
 simp -implicitDefEqProofs (disch:=omega)[wrap64]
 refine IteW.mk (fun hlt=>?_) (fun hge=>?_)
 ·have hlx:i<x.length:=by omega
  obtain⟨u,hu,Ru⟩:=(Ra.le hl).ld hlx
  change hload _ (some (elp 4 a i)) (some 4)=some u at hu
  simp -implicitDefEqProofs (disch:=first|omega|(simp only[LnZ];omega))[wrap64,(Ra.le hl).X (n:=4) rfl,hu,hf]
  refine (hp h1 hl i hlx u Ru).go ?_
  rintro _ h2 ⟨hl2,rfl⟩
  simp -implicitDefEqProofs (disch:=omega)[wrap64]
  refine IteW.mk (fun hq=>?_) (fun hq=>?_)
  ·simp -implicitDefEqProofs (disch:=omega)[wrap64]
   refine RetK.keep (hk _ _ ⟨hl.trans hl2,?_⟩)
   have h3:x.findIdx? p=some i:=by
    rw[List.findIdx?_eq_some_iff_getElem]
    exact⟨hlx,hq,fun j hj=>by rw[hn j (by omega) hj];simp⟩
   rw[h3]
  ·simp -implicitDefEqProofs (disch:=omega)[wrap64]
   refine hJ _ _ hlx ⟨rfl,hl.trans hl2,fun j hj hji=>?_⟩
   by_cases hji2:j=i
   ·subst hji2;simpa using hq
   ·exact hn j hj (by omega)
 ·simp -implicitDefEqProofs (disch:=omega)[wrap64]
  refine RetK.keep (hk _ _ ⟨hl,?_⟩)
  have h3:x.findIdx? p=none:=by
   rw[List.findIdx?_eq_none_iff]
   intro y hy
   obtain⟨j,hj,rfl⟩:=List.mem_iff_getElem.1 hy
   exact hn j hj (by omega)
  rw[h3]
theorem c_ContainsFunc_impl_Transition {h:Heap}{a fv:Value}{x:List Tr}(Ra:Rep h a x) {f:FuncId}{c1 c2:List Value}(hf:fnOf fv=some (f,c1,c2)) (p:Tr→Bool)
  (hp:∀h1,h.le h1→∀(i:Nat) (hi:i<x.length) (u:Value),Rep h1 u x[i]→CallE Tryz.prog f (c1++u::c2) h1 (fun v h'=>h1.le h'∧v=.bool (p x[i]))) :
  CallE Tryz.prog fn_slices_ContainsFunc_S_impl_Transition_impl_Transition [a,fv] h (fun v h'=>h.le h'∧v=.bool (x.any p)):=by
 refine CallE.gen fun k hk=>EN_slices_ContainsFunc_S_impl_Transition_impl_Transition rfl ?_
 simp -implicitDefEqProofs (disch:=omega)[wrap64]
 refine (c_IndexFunc_impl_Transition Ra hf p hp).go ?_
 rintro _ h1 ⟨hl,rfl⟩
 simp -implicitDefEqProofs (disch:=omega)[wrap64]
 refine RetK.keep (hk _ _ ⟨hl,?_⟩)
 congr 1
 rw[← List.findIdx?_isSome]
 cases x.findIdx? p<;>simp
theorem empty_ow {g h:Heap}{Γ:List HP}(H:HS g Γ h):HS g (ow (.agg #[.slice none 0 0,.slice none 0 0,.slice none 0 0]) Aut.empty::Γ) h:=
 HS.mkAut (a:=Aut.empty) H.nil_ow.nil_ow.nil_ow
theorem c_copyOf {h:Heap}{v:Value}{a:Aut}(Ra:Rep h v a) (h1:a.init.length≤1073741824) (h2:a.acc.length≤1073741824) (h3:a.edges.length≤1073741824):CallE Tryz.prog fn_impl_Automaton_copyOf [v] h (fun v h'=>HS h [ow v a] h'):=by
 obtain⟨v1,v2,v3,rfl,R1,R2,R3⟩:=Rep_Aut.1 Ra
 refine CallE.gen fun k hk=>EN_impl_Automaton_copyOf rfl ?_
 simp -implicitDefEqProofs (disch:=omega)[wrap64]
 refine (c_clone_int R1 h1).go ?_
 intro u1 m1 H
 simp -implicitDefEqProofs (disch:=omega)[wrap64]
 refine (c_clone_bool (R2.on H) h2).go ?_
 intro u2 m2 H2
 have H:=H2.app H
 simp -implicitDefEqProofs (disch:=omega)[wrap64]
 refine (c_clone_impl_Transition (R3.on H) h3).go ?_
 intro u3 m3 H3
 have H:=H3.app H
 simp -implicitDefEqProofs (disch:=first|omega|(simp only[LnZ];omega))[wrap64,H.rep.cells,H.rep.one,H.sw1.rep.cells,H.sw1.rep.one,H.sw2.rep.cells,H.sw2.rep.one,setC]
 exact RetK.keep (hk _ _ (HS.mkAut H.sw1.sw2))
theorem c_in {h:Heap}{n lo hi:Int}:CallE Tryz.prog fn_impl_in [.int .i64 n,.int .i64 lo,.int .i64 hi] h (fun u h'=>h'=h∧u=.bool (decide (lo≤n∧n≤hi))):=by
 refine CallE.gen fun k hk=>EN_impl_in rfl ?_
 by_cases h1:lo≤n
 ·simp -implicitDefEqProofs (disch:=first|omega|(simp only[LnZ];omega))[wrap64,h1]
  exact RetK.keep (hk _ _ ⟨rfl,by simp[h1]⟩)
 ·simp -implicitDefEqProofs (disch:=first|omega|(simp only[LnZ];omega))[wrap64,h1]
  exact RetK.keep (hk _ _ ⟨rfl,by simp[h1]⟩)
theorem c_l7Edge {h:Heap}{v:Value}{t:Tr}(Rt:Rep h v t) {n:Int}:CallE Tryz.prog fn_spec_l7Edge [v,.int .i64 n] h (fun u h'=>h'=h∧u=.bool (decide (t.Ok n))):=by
 rw[(Rep_Tr.1 Rt).1]
 refine CallE.gen fun k hk=>EN_spec_l7Edge rfl ?_
 unfold Tr.Ok at hk
 by_cases h1:0≤t.frm
 case neg=>simp -implicitDefEqProofs (disch:=first|omega|(simp only[LnZ];omega))[wrap64,Tr.v,h1];exact RetK.keep (hk _ _ ⟨rfl,by simp[h1]⟩)
 by_cases h2:t.frm<n
 case neg=>simp -implicitDefEqProofs (disch:=first|omega|(simp only[LnZ];omega))[wrap64,Tr.v,h1,h2];exact RetK.keep (hk _ _ ⟨rfl,by simp[h2]⟩)
 by_cases h3:0≤t.to
 case neg=>simp -implicitDefEqProofs (disch:=first|omega|(simp only[LnZ];omega))[wrap64,Tr.v,h1,h2,h3];exact RetK.keep (hk _ _ ⟨rfl,by simp[h3]⟩)
 by_cases h4:t.to<n
 case neg=>simp -implicitDefEqProofs (disch:=first|omega|(simp only[LnZ];omega))[wrap64,Tr.v,h1,h2,h3,h4];exact RetK.keep (hk _ _ ⟨rfl,by simp[h4]⟩)
 by_cases h5:0≤t.care
 case neg=>simp -implicitDefEqProofs (disch:=first|omega|(simp only[LnZ];omega))[wrap64,Tr.v,h1,h2,h3,h4,h5];exact RetK.keep (hk _ _ ⟨rfl,by simp[h5]⟩)
 by_cases h6:t.care≤7
 case neg=>simp -implicitDefEqProofs (disch:=first|omega|(simp only[LnZ];omega))[wrap64,Tr.v,h1,h2,h3,h4,h5,h6];exact RetK.keep (hk _ _ ⟨rfl,by simp[h6]⟩)
 by_cases h7:0≤t.value
 case neg=>simp -implicitDefEqProofs (disch:=first|omega|(simp only[LnZ];omega))[wrap64,Tr.v,h1,h2,h3,h4,h5,h6,h7];exact RetK.keep (hk _ _ ⟨rfl,by simp[h7]⟩)
 simp -implicitDefEqProofs (disch:=first|omega|(simp only[LnZ];omega))[wrap64,Tr.v,h1,h2,h3,h4,h5,h6,h7]
 exact RetK.keep (hk _ _ ⟨rfl,by simp[h1,h2,h3,h4,h5,h6,h7]⟩)
theorem i64_toInt (x:BitVec 64):IntKind.i64.wrap (x.toNat:Int)=x.toInt:=by
 rw[IntKind.wrap_i64,BitVec.toInt_eq_toNat_bmod,Int.bmod_def]
 have:=x.isLt
 split<;>omega
theorem ofInt_toInt {v:Int}(h1:-9223372036854775808≤v) (h2:v<9223372036854775808):(BitVec.ofInt 64 v).toInt=v:=by
 rw[BitVec.toInt_ofInt,Int.bmod_def];split<;>omega
theorem bits_in {v c:Int}(h1:-9223372036854775808≤v) (h2:v<9223372036854775808):andNotI .i64 v c=0↔andI .i64 v c=v:=by
 show IntKind.i64.wrap ((BitVec.ofInt 64 v &&& ~~~ BitVec.ofInt 64 c).toNat:Int)=0↔IntKind.i64.wrap ((BitVec.ofInt 64 v&&&BitVec.ofInt 64 c).toNat:Int)=v
 have hv:=ofInt_toInt h1 h2
 rw[i64_toInt,i64_toInt]
 generalize BitVec.ofInt 64 v=x at *
 generalize BitVec.ofInt 64 c=y at *
 subst hv
 rw[BitVec.toInt_inj,show (0:Int)=(0#64).toInt from rfl,BitVec.toInt_inj]
 constructor
 ·intro h
  apply BitVec.eq_of_getLsbD_eq
  intro i hi
  have h3:=congrArg (fun z=>z.getLsbD i) h
  simp only[BitVec.getLsbD_and,BitVec.getLsbD_not,hi,decide_true,Bool.true_and,BitVec.getLsbD_zero] at h3
  rw[BitVec.getLsbD_and]
  cases h4:x.getLsbD i<;>cases h5:y.getLsbD i<;>simp_all
 ·intro h
  apply BitVec.eq_of_getLsbD_eq
  intro i hi
  have h3:=congrArg (fun z=>z.getLsbD i) h
  simp only[BitVec.getLsbD_and] at h3
  rw[BitVec.getLsbD_and,BitVec.getLsbD_not,BitVec.getLsbD_zero]
  cases h4:x.getLsbD i<;>cases h5:y.getLsbD i<;>simp_all
theorem c_AutomatonValid_1 {h:Heap}{v:Value}{t:Tr}(Rt:Rep h v t) {b:Nat}{n:Int}(hn:1≤n∧n<4611686018427387904) (hb:hload h (some (.pointer (some ⟨b,0,none⟩))) none=some (.int .i64 n)) :
  CallE Tryz.prog fn_impl_AutomatonValid_1 [v,.pointer (some ⟨b,0,none⟩)] h (fun u h'=>h'=h∧u=.bool (!decide (t.Ok n))):=by
 have ht:=(Rep_Tr.1 Rt).2
 rw[(Rep_Tr.1 Rt).1]
 have e0:=ht.value
 refine CallE.gen fun k hk=>EN_impl_AutomatonValid_1 rfl ?_
 simp -implicitDefEqProofs (disch:=first|omega|(simp only[LnZ];omega))[wrap64,Tr.v,hb]
 refine c_in.go ?_
 rintro _ _ ⟨rfl,rfl⟩
 by_cases h1:0≤t.frm∧t.frm≤n-1
 case neg=>
  simp -implicitDefEqProofs (disch:=first|omega|(simp only[LnZ];omega))[wrap64,h1]
  have hno:¬t.Ok n:=fun ho=>h1 (by unfold Tr.Ok at ho;omega)
  exact RetK.keep (hk _ _ ⟨rfl,by simp[hno]⟩)
 simp -implicitDefEqProofs (disch:=first|omega|(simp only[LnZ];omega))[wrap64,h1,hb]
 refine c_in.go ?_
 rintro _ _ ⟨rfl,rfl⟩
 by_cases h2:0≤t.to∧t.to≤n-1
 case neg=>
  simp -implicitDefEqProofs (disch:=first|omega|(simp only[LnZ];omega))[wrap64,h2]
  have hno:¬t.Ok n:=fun ho=>h2 (by unfold Tr.Ok at ho;omega)
  exact RetK.keep (hk _ _ ⟨rfl,by simp[hno]⟩)
 simp -implicitDefEqProofs (disch:=first|omega|(simp only[LnZ];omega))[wrap64,h2]
 refine c_in.go ?_
 rintro _ _ ⟨rfl,rfl⟩
 by_cases h3:0≤t.care∧t.care≤7
 case neg=>
  simp -implicitDefEqProofs (disch:=first|omega|(simp only[LnZ];omega))[wrap64,h3]
  have hno:¬t.Ok n:=fun ho=>h3 (by unfold Tr.Ok at ho;omega)
  exact RetK.keep (hk _ _ ⟨rfl,by simp[hno]⟩)
 by_cases h4:t.value<0
 case pos=>
  simp -implicitDefEqProofs (disch:=first|omega|(simp only[LnZ];omega))[wrap64,h3,h4]
  have hno:¬t.Ok n:=fun ho=>by unfold Tr.Ok at ho;omega
  exact RetK.keep (hk _ _ ⟨rfl,by simp[hno]⟩)
 simp -implicitDefEqProofs (disch:=first|omega|(simp only[LnZ];omega))[wrap64,h3,h4]
 refine RetK.keep (hk _ _ ⟨rfl,?_⟩)
 have h5:=bits_in (c:=t.care) e0.1 e0.2
 by_cases h6:andNotI .i64 t.value t.care=0
 ·have hyes:t.Ok n:=⟨by omega,by omega,by omega,by omega,by omega,by omega,by omega,h5.1 h6⟩
  simp[h6,hyes]
 ·have hno:¬t.Ok n:=fun h=>h6 (h5.2 h.2.2.2.2.2.2.2)
  simp[h6,hno]
theorem drop_cons {α:Type}{l:List α}{i:Nat}(hi:i<l.length):l.drop i=l[i]::l.drop (i+1):=List.drop_eq_getElem_cons hi
theorem incr_cons {n lo x:Int}{l:List Int}:incr n lo (x::l)↔lo<x∧x<n∧incr n x l:=Iff.rfl
theorem c_AutomatonValid {h:Heap}{v:Value}{a:Aut}(Ra:Rep h v a):CallE Tryz.prog fn_impl_AutomatonValid [v] h (fun u h'=>h.le h'∧u=.bool (decide a.Ok)):=by
 obtain⟨v1,v2,v3,rfl,R1,R2,R3⟩:=Rep_Aut.1 Ra
 refine CallE.gen fun k hk=>EN_impl_AutomatonValid rfl ?_
 have l1:=R1.lt
 have l2:=R2.lt
 simp -implicitDefEqProofs (disch:=first|omega|(simp only[LnZ];omega))[wrap64,R1.len,R2.len,R3.len]
 refine HS.init.alloc rfl fun b h1 H=>?_
 simp -implicitDefEqProofs (disch:=omega)[wrap64]
 refine H.bxst (u:=.int .i64 a.acc.length) rfl rfl rfl rfl (by simp) fun h2 H=>?_
 simp only[setC,cells_int,List.take_zero,List.nil_append] at H
 simp -implicitDefEqProofs (disch:=first|omega|(simp only[LnZ];omega))[wrap64,R1.len,R2.len,R3.len]
 have H:HS h [bx b [.int .i64 a.acc.length]] h2:=H
 refine wp_count a.init.length (fun i e h'=>h'=h2∧∃last:Int,e=[none,some (.agg #[v1,v2,v3]),none,some (.pointer (some ⟨b,0,none⟩)),some (.int .i64 last),none,some v1,some (.int .i64 a.init.length),some (.int .i64 i)] ∧
   -1≤last∧last<4611686018427387904∧(incr a.acc.length (-1) a.init↔incr a.acc.length last (a.init.drop i))) ⟨rfl,-1,rfl,by omega,by omega,by simp⟩ ?_
 rintro J i _ _ hJ hi ⟨rfl,last,rfl,hl1,hl2,hin⟩
 simp -implicitDefEqProofs (disch:=omega)[wrap64]
 refine IteW.mk (fun hlt=>?_) (fun hge=>?_)
 ·have hlx:i<a.init.length:=by omega
  simp -implicitDefEqProofs (disch:=first|omega|(simp only[LnZ];omega))[wrap64,(R1.on H).I,H.bxld0]
  refine c_in.go ?_
  rintro _ _ ⟨rfl,rfl⟩
  simp -implicitDefEqProofs (disch:=omega)[wrap64]
  rw[drop_cons hlx,incr_cons] at hin
  refine IteW.mk (fun hn=>?_) (fun hn=>?_)
  ·simp -implicitDefEqProofs (disch:=omega)[wrap64]
   refine RetK.keep (hk _ _ ⟨H.base,?_⟩)
   have:¬a.Ok:=by
    intro ho
    have:=hin.1 ho.i
    omega
   simp[this]
  ·simp -implicitDefEqProofs (disch:=omega)[wrap64]
   exact hJ _ _ hlx ⟨rfl,_,rfl,by omega,by omega,hin.trans ⟨fun h=>h.2.2,fun h=>⟨by omega,by omega,h⟩⟩⟩
 ·simp -implicitDefEqProofs (disch:=first|omega|(simp only[LnZ];omega))[wrap64,H.bxld0]
  have hin:incr a.acc.length (-1) a.init:=hin.2 (by rw[List.drop_eq_nil_of_le (by omega)];trivial)
  refine c_in.go ?_
  rintro _ _ ⟨rfl,rfl⟩
  by_cases hn:1≤(a.acc.length:Int)∧(a.acc.length:Int)≤64
  case neg=>
   simp -implicitDefEqProofs (disch:=first|omega|(simp only[LnZ];omega))[wrap64,hn]
   refine RetK.keep (hk _ _ ⟨H.base,?_⟩)
   have:¬a.Ok:=fun ho=>hn (by have:=ho.n;omega)
   simp[this]
  by_cases he:(a.edges.length:Int)≤2048
  case neg=>
   simp -implicitDefEqProofs (disch:=first|omega|(simp only[LnZ];omega))[wrap64,hn,he,R3.len]
   refine RetK.keep (hk _ _ ⟨H.base,?_⟩)
   have:¬a.Ok:=fun ho=>he (by have:=ho.e;omega)
   simp[this]
  simp -implicitDefEqProofs (disch:=first|omega|(simp only[LnZ];omega))[wrap64,hn,he,R3.len]
  refine (c_ContainsFunc_impl_Transition (R3.on H) (c1:=[]) (fnOf_func) (fun t=>!decide (t.Ok a.acc.length)) ?_).go ?_
  ·intro h3 hl j hj u Ru
   exact (c_AutomatonValid_1 Ru (by omega) (hload_le hl H.bxld0)).to fun _ _ ⟨h4,h5⟩=>⟨h4▸Heap.le.refl _,h5⟩
  ·rintro _ h3 ⟨hl,rfl⟩
   simp -implicitDefEqProofs (disch:=omega)[wrap64]
   refine RetK.keep (hk _ _ ⟨H.base.trans hl,?_⟩)
   congr 1
   have hnn:1≤a.acc.length∧a.acc.length≤64:=by omega
   have hee:a.edges.length≤2048:=by omega
   simp only[Aut.Ok,hnn,hee,hin,true_and]
   rw[Bool.eq_iff_iff]
   simp
theorem c_spec_AutomatonValid {h:Heap}{v:Value}{a:Aut}(Ra:Rep h v a):CallE Tryz.prog fn_spec_AutomatonValid [v] h (fun u h'=>h'=h∧u=.bool (decide a.Ok)):=by
 obtain⟨v1,v2,v3,rfl,R1,R2,R3⟩:=Rep_Aut.1 Ra
 refine CallE.gen fun k hk=>EN_spec_AutomatonValid rfl ?_
 have l1:=R1.lt
 have l2:=R2.lt
 have l3:=R3.lt
 simp -implicitDefEqProofs (disch:=first|omega|(simp only[LnZ];omega))[wrap64,R1.len,R2.len,R3.len]
 by_cases h1:(a.acc.length:Int)<1
 case pos=>
  simp -implicitDefEqProofs (disch:=first|omega|(simp only[LnZ];omega))[wrap64,h1]
  have hno:¬a.Ok:=fun ho=>by have:=ho.n;omega
  exact RetK.keep (hk _ _ ⟨rfl,by simp[hno]⟩)
 by_cases h2:64<(a.acc.length:Int)
 case pos=>
  simp -implicitDefEqProofs (disch:=first|omega|(simp only[LnZ];omega))[wrap64,h1,h2]
  have hno:¬a.Ok:=fun ho=>by have:=ho.n;omega
  exact RetK.keep (hk _ _ ⟨rfl,by simp[hno]⟩)
 by_cases h3:(a.acc.length:Int)<a.init.length
 case pos=>
  simp -implicitDefEqProofs (disch:=first|omega|(simp only[LnZ];omega))[wrap64,h1,h2,R1.len,h3]
  have hno:¬a.Ok:=fun ho=>by
   have h1:=incr_len ho.i (by have:=ho.n;omega)
   omega
  exact RetK.keep (hk _ _ ⟨rfl,by simp[hno]⟩)
 by_cases h4:2048<(a.edges.length:Int)
 case pos=>
  simp -implicitDefEqProofs (disch:=first|omega|(simp only[LnZ];omega))[wrap64,h1,h2,R1.len,h3,R3.len,h4]
  have hno:¬a.Ok:=fun ho=>by have:=ho.e;omega
  exact RetK.keep (hk _ _ ⟨rfl,by simp[hno]⟩)
 simp -implicitDefEqProofs (disch:=first|omega|(simp only[LnZ];omega))[wrap64,h1,h2,R1.len,h3,R3.len,h4]
 refine wp_count a.init.length (fun i e h'=>h'=h∧e=[none,some (.agg #[v1,v2,v3]),none,some (.int .i64 a.acc.length),some (.int .i64 i),none] ∧
   (incr a.acc.length (-1) a.init↔incr a.acc.length (if i=0 then -1 else a.init.getD (i-1) 0) (a.init.drop i))) ⟨rfl,rfl,by simp⟩ ?_
 rintro J i _ _ hJ hi ⟨rfl,rfl,hin⟩
 simp -implicitDefEqProofs (disch:=first|omega|(simp only[LnZ];omega))[wrap64,R1.len]
 refine IteW.mk (fun hlt=>?_) (fun hge=>?_)
 ·have hlx:i<a.init.length:=by omega
  rw[drop_cons hlx,incr_cons] at hin
  have hgd:a.init.getD (i+1-1) 0=a.init[i]:=by simp[hlx]
  by_cases h5:a.init[i]<0
  case pos=>
   simp -implicitDefEqProofs (disch:=first|omega|(simp only[LnZ];omega))[wrap64,R1.I,h5]
   have hno:¬a.Ok:=fun ho=>by have:=ho.im hlx;omega
   exact RetK.keep (hk _ _ ⟨rfl,by simp[hno]⟩)
  by_cases h6:(a.acc.length:Int)≤a.init[i]
  case pos=>
   simp -implicitDefEqProofs (disch:=first|omega|(simp only[LnZ];omega))[wrap64,R1.I,h5,h6]
   have hno:¬a.Ok:=fun ho=>by have:=ho.im hlx;omega
   exact RetK.keep (hk _ _ ⟨rfl,by simp[hno]⟩)
  by_cases h7:0<i
  ·have hj:i-1<a.init.length:=by omega
   have hii:(i:Int)-1=((i-1:Nat):Int):=by omega
   have hw:IntKind.i64.wrap ((i:Int)-1)=((i-1:Nat):Int):=by rw[wrap64 (by omega) (by omega),hii]
   have hgd2:a.init.getD (i-1) 0=a.init[i-1]:=by simp[hj]
   rw[if_neg (by omega),hgd2] at hin
   simp -implicitDefEqProofs (disch:=first|omega|(simp only[LnZ];omega))[wrap64,R1.I,h5,h6,h7,hw]
   refine IteW.mk (fun h8=>?_) (fun h8=>?_)
   ·simp -implicitDefEqProofs (disch:=omega)[wrap64]
    have hno:¬a.Ok:=fun ho=>by have:=(hin.1 ho.i).1;omega
    exact RetK.keep (hk _ _ ⟨rfl,by simp[hno]⟩)
   ·simp -implicitDefEqProofs (disch:=omega)[wrap64]
    exact hJ _ _ hlx ⟨rfl,rfl,by rw[if_neg (by omega),hgd];exact hin.trans ⟨fun h=>h.2.2,fun h=>⟨by omega,by omega,h⟩⟩⟩
  ·have h0:i=0:=by omega
   subst h0
   rw[if_pos rfl] at hin
   simp -implicitDefEqProofs (disch:=first|omega|(simp only[LnZ];omega))[wrap64,R1.I,h5,h6]
   exact hJ _ _ hlx ⟨rfl,rfl,by rw[if_neg (by omega),hgd];exact hin.trans ⟨fun h=>h.2.2,fun h=>⟨by omega,by omega,h⟩⟩⟩
 ·have hin:incr a.acc.length (-1) a.init:=hin.2 (by rw[List.drop_eq_nil_of_le (by omega)];trivial)
  simp -implicitDefEqProofs (disch:=omega)[wrap64]
  refine wp_count a.edges.length (fun i e h'=>h'=_∧e=[none,some (.agg #[v1,v2,v3]),none,some (.int .i64 a.acc.length),none,some (.int .i64 i)] ∧
   ∀(j:Nat) (hj:j<a.edges.length),j<i→a.edges[j].Ok a.acc.length) ⟨rfl,rfl,fun j _ hj=>absurd hj (Nat.not_lt_zero j)⟩ ?_
  rintro J i _ _ hJ hi ⟨rfl,rfl,hn⟩
  simp -implicitDefEqProofs (disch:=first|omega|(simp only[LnZ];omega))[wrap64,R3.len]
  refine IteW.mk (fun hlt=>?_) (fun hge=>?_)
  ·have hlx:i<a.edges.length:=by omega
   simp -implicitDefEqProofs (disch:=first|omega|(simp only[LnZ];omega))[wrap64,R3.xTr]
   refine (c_l7Edge (Rep_Tr.2 ⟨rfl,R3.okTr hlx⟩)).go ?_
   rintro _ _ ⟨rfl,rfl⟩
   simp -implicitDefEqProofs (disch:=omega)[wrap64]
   refine IteW.mkr (fun h8=>?_) (fun h8=>?_)
   ·simp -implicitDefEqProofs (disch:=omega)[wrap64]
    have hno:¬a.Ok:=fun ho=>h8 (ho.t hlx)
    exact RetK.keep (hk _ _ ⟨rfl,by simp[hno]⟩)
   ·simp -implicitDefEqProofs (disch:=omega)[wrap64]
    refine hJ _ _ hlx ⟨rfl,rfl,fun j hj hji=>?_⟩
    by_cases hji2:j=i
    ·subst hji2;exact h8
    ·exact hn j hj (by omega)
  ·simp -implicitDefEqProofs (disch:=omega)[wrap64]
   have hyes:a.Ok:=⟨by omega,by omega,hin,fun t ht=>by
    obtain⟨j,hj,rfl⟩:=List.mem_iff_getElem.1 ht
    exact hn j hj (by omega)⟩
   exact RetK.keep (hk _ _ ⟨rfl,by simp[hyes]⟩)
section
variable {α:Type} [Ty α] {g h:Heap}{Γ:List HP}{v u:Value}{l:List α}
theorem HS.cut (H:HS g (ow v l::Γ) h) {n esz:Nat}{k:IntKind}(hn:n≤l.length):∃v',sliceVV esz v none (some (some (.int k n))) none=some v'∧HS g (ow v' (l.take n)::Γ) h:=by
 obtain⟨g',r,rfl,d,O,H⟩:=H
 rcases Own_list.1 O with ⟨p,rfl,rfl,rfl,hp⟩ | ⟨b,off,cap,cells,el,r',rfl,⟨h1,hM⟩,h2,rfl,h4,h5⟩
 ·have hn0:n=0:=by simpa using hn
  subst hn0
  exact⟨.slice p 0 0,by simp[sliceVV,bndV],g',Heap.nil,rfl,d,Own_list.2 (.inl ⟨p,rfl,by simp,rfl,hp⟩),H⟩
 ·rw[← List.take_append_drop n l] at h5
  obtain⟨r1,r2,rfl,d2,h6,h7⟩:=ownL_split h5
  obtain⟨d3,d4⟩:=Dj_add.1 d
  obtain⟨d5,d6⟩:=Dj_add.1 d4
  obtain⟨n1,n2⟩:r1 b=none∧r2 b=none:=by simpa[Heap.add] using h4
  refine⟨.slice (some ⟨b,off,none⟩) n cap,?_,g'.add r2,(Heap.one b (.cells cells.toArray el (0,0))).add r1,by ac_rfl,?_,?_,H.le (le_add d6)⟩
  ·have:n≤cap:=by omega
   simp[sliceVV,bndV,add_none,this]
  ·exact Dj_add.2 ⟨add_Dj.2 ⟨d3,(Dj_one.2 n2)⟩,add_Dj.2 ⟨d5,d2.symm⟩⟩
  ·have hl:(l.take n).length=n:=by simp;omega
   exact Own_list.2 (.inr ⟨b,off,cap,cells,el,r1,by rw[hl],⟨by omega,by omega⟩,h2,rfl,n1,h6⟩)
end
theorem c_Index_int {h:Heap}{a:Value}{x:List Int}(Ra:Rep h a x) {n:Int}:CallE Tryz.prog fn_slices_Index_S_int_int [a,.int .i64 n] h (fun v h'=>h'=h∧∃r:Int,v=.int .i64 r∧(0≤r↔n∈x)):=by
 refine CallE.gen fun k hk=>EN_slices_Index_S_int_int rfl ?_
 have hL:=Ra.lt
 simp -implicitDefEqProofs (disch:=first|omega|(simp only[LnZ];omega))[wrap64,Ra.len]
 refine wp_count x.length (fun i e h'=>e=[some a,some (.int .i64 n),none,none,some (.int .i64 x.length),some (.int .i64 i)]∧h'=h∧∀(j:Nat) (hj:j<x.length),j<i→x[j]≠n) ⟨rfl,rfl,fun j _ hj=>absurd hj (Nat.not_lt_zero j)⟩ ?_
 rintro J i _ h1 hJ hi ⟨rfl,rfl,hn⟩
 simp -implicitDefEqProofs (disch:=omega)[wrap64]
 refine IteW.mk (fun hlt=>?_) (fun hge=>?_)
 ·have hlx:i<x.length:=by omega
  simp -implicitDefEqProofs (disch:=first|omega|(simp only[LnZ];omega))[wrap64,Ra.I]
  refine IteW.mk (fun hq=>?_) (fun hq=>?_)
  ·simp -implicitDefEqProofs (disch:=omega)[wrap64]
   exact RetK.keep (hk _ _ ⟨rfl,i,rfl,by simp only[Int.natCast_nonneg,true_iff];rw[hq];exact List.getElem_mem hlx⟩)
  ·simp -implicitDefEqProofs (disch:=omega)[wrap64]
   refine hJ _ _ hlx ⟨rfl,rfl,fun j hj hji=>?_⟩
   by_cases hji2:j=i
   ·subst hji2;exact fun e=>hq e.symm
   ·exact hn j hj (by omega)
 ·simp -implicitDefEqProofs (disch:=omega)[wrap64]
  refine RetK.keep (hk _ _ ⟨rfl,-1,rfl,?_⟩)
  simp only[show ¬(0:Int)≤-1 by decide,false_iff]
  intro hm
  obtain⟨j,hj,h1⟩:=List.mem_iff_getElem.1 hm
  exact hn j hj (by omega) h1
theorem c_Contains_int {h:Heap}{a:Value}{x:List Int}(Ra:Rep h a x) {n:Int}:CallE Tryz.prog fn_slices_Contains_S_int_int [a,.int .i64 n] h (fun v h'=>h'=h∧v=.bool (decide (n∈x))):=by
 refine CallE.gen fun k hk=>EN_slices_Contains_S_int_int rfl ?_
 simp -implicitDefEqProofs (disch:=omega)[wrap64]
 refine (c_Index_int Ra).go ?_
 rintro _ h1 ⟨rfl,r,rfl,hr⟩
 simp -implicitDefEqProofs (disch:=omega)[wrap64]
 exact RetK.keep (hk _ _ ⟨rfl,by congr 1;rw[Bool.eq_iff_iff];simp[hr]⟩)
theorem c_l4In {h:Heap}{a:Value}{x:List Int}(Ra:Rep h a x) {n:Int}:CallE Tryz.prog fn_spec_l4In [a,.int .i64 n] h (fun v h'=>h'=h∧v=.bool (decide (n∈x))):=by
 refine CallE.gen fun k hk=>EN_spec_l4In rfl ?_
 have hL:=Ra.lt
 simp -implicitDefEqProofs (disch:=omega)[wrap64]
 refine wp_count x.length (fun i e h'=>e=[some a,some (.int .i64 n),none,some (.int .i64 i)]∧h'=h∧∀(j:Nat) (hj:j<x.length),j<i→x[j]≠n) ⟨rfl,rfl,fun j _ hj=>absurd hj (Nat.not_lt_zero j)⟩ ?_
 rintro J i _ h1 hJ hi ⟨rfl,rfl,hn⟩
 simp -implicitDefEqProofs (disch:=first|omega|(simp only[LnZ];omega))[wrap64,Ra.len]
 refine IteW.mk (fun hlt=>?_) (fun hge=>?_)
 ·have hlx:i<x.length:=by omega
  simp -implicitDefEqProofs (disch:=first|omega|(simp only[LnZ];omega))[wrap64,Ra.I]
  refine IteW.mk (fun hq=>?_) (fun hq=>?_)
  ·simp -implicitDefEqProofs (disch:=omega)[wrap64]
   exact RetK.keep (hk _ _ ⟨rfl,by congr 1;rw[eq_comm,decide_eq_true_iff,← hq];exact List.getElem_mem hlx⟩)
  ·simp -implicitDefEqProofs (disch:=omega)[wrap64]
   refine hJ _ _ hlx ⟨rfl,rfl,fun j hj hji=>?_⟩
   by_cases hji2:j=i
   ·subst hji2;exact hq
   ·exact hn j hj (by omega)
 ·simp -implicitDefEqProofs (disch:=omega)[wrap64]
  refine RetK.keep (hk _ _ ⟨rfl,?_⟩)
  congr 1
  rw[eq_comm,decide_eq_false_iff_not]
  intro hm
  obtain⟨j,hj,h1⟩:=List.mem_iff_getElem.1 hm
  exact hn j hj (by omega) h1
theorem c_next {h:Heap}{v:Value}{a:Aut}(Ra:Rep h v a) (ha:a.Ok):CallE Tryz.prog fn_impl_Automaton_next [v] h (fun u h'=>∃G,HS h [ow u G] h'∧Adj a.E G∧G.length=a.acc.length):=by
 obtain⟨v1,v2,v3,rfl,R1,R2,R3⟩:=Rep_Aut.1 Ra
 refine CallE.gen fun k hk=>EN_impl_Automaton_next rfl ?_
 have hn:=ha.n
 have he:=ha.e
 simp -implicitDefEqProofs (disch:=first|omega|(simp only[LnZ];omega))[wrap64,R2.len]
 refine HS.init.mks (α:=List Int) (z:=[]) rfl rfl own_nils (Nat.le_refl _) (by omega) (by omega) fun w h1 H=>?_
 simp -implicitDefEqProofs (disch:=first|omega|(simp only[LnZ];omega))[wrap64,(R3.on H).len]
 refine wp_count a.edges.length (fun i e h'=>∃G,e=[none,none,none,some w,none,some v3,some (.int .i64 a.edges.length),some (.int .i64 i)]∧HS h [ow w G] h'∧NextI a i G) ⟨_,by simp,H,NextI.zero⟩ ?_
 rintro J i _ h2 hJ hi ⟨G,rfl,H,hG⟩
 simp -implicitDefEqProofs (disch:=omega)[wrap64]
 refine IteW.mk (fun hlt=>?_) (fun hge=>?_)
 ·have hlx:i<a.edges.length:=by omega
  have hx:=ha.t hlx
  unfold Tr.Ok at hx
  obtain⟨f,hf⟩:∃f:Nat,a.edges[i].frm=f:=⟨a.edges[i].frm.toNat,by omega⟩
  obtain⟨t,ht⟩:∃t:Nat,a.edges[i].to=t:=⟨a.edges[i].to.toNat,by omega⟩
  have hfG:f<G.length:=by rw[hG.len];omega
  have hle:=hG.le f hfG
  have R3':=R3.on H
  obtain⟨u,hu,H⟩:=H.take hfG
  change hload _ (some (elp 1 w f)) none=some u at hu
  simp -implicitDefEqProofs (disch:=first|omega|(simp only[LnZ];omega))[wrap64,R3'.xTr,Tr.v,setC,hf,ht,H.sw1.holeia (n:=1) rfl,hu]
  refine H.app1 (t:Int) rfl rfl rfl ⟨by omega,by omega⟩ rfl rfl (by omega) (by omega) fun u' h3 H=>?_
  simp -implicitDefEqProofs (disch:=first|omega|(simp only[LnZ];omega))[wrap64,H.sw1.holeia (n:=1) rfl]
  refine H.storeH rfl rfl rfl fun h4 H=>?_
  simp -implicitDefEqProofs (disch:=omega)[wrap64]
  exact hJ _ _ hlx ⟨_,rfl,H,hG.step hlx hf ht hfG⟩
 ·simp -implicitDefEqProofs (disch:=omega)[wrap64]
  exact RetK.keep (hk _ _ ⟨G,H,hG.done ha (by omega),hG.len⟩)
theorem c_l7Next {h:Heap}{v:Value}{a:Aut}(Ra:Rep h v a) (ha:a.Ok):CallE Tryz.prog fn_spec_l7Next [v] h (fun u h'=>∃G,HS h [ow u G] h'∧Adj a.E G∧G.length=a.acc.length∧∀x (hx:x<G.length),G[x].length≤2048):=by
 obtain⟨v1,v2,v3,rfl,R1,R2,R3⟩:=Rep_Aut.1 Ra
 refine CallE.gen fun k hk=>EN_spec_l7Next rfl ?_
 have hn:=ha.n
 have he:=ha.e
 simp -implicitDefEqProofs (disch:=first|omega|(simp only[LnZ];omega))[wrap64,R2.len]
 refine HS.init.mks (α:=List Int) (z:=[]) rfl rfl own_nils (Nat.le_refl _) (by omega) (by omega) fun w h1 H=>?_
 simp -implicitDefEqProofs (disch:=omega)[wrap64]
 refine wp_count a.edges.length (fun i e h'=>∃G,e=[none,some (.agg #[v1,v2,v3]),none,some w,some (.int .i64 i),none]∧HS h [ow w G] h'∧NextI a i G) ⟨_,by simp,H,NextI.zero⟩ ?_
 rintro J i _ h2 hJ hi ⟨G,rfl,H,hG⟩
 simp -implicitDefEqProofs (disch:=first|omega|(simp only[LnZ];omega))[wrap64,(R3.on H).len]
 refine IteW.mk (fun hlt=>?_) (fun hge=>?_)
 ·have hlx:i<a.edges.length:=by omega
  have hx:=ha.t hlx
  unfold Tr.Ok at hx
  obtain⟨f,hf⟩:∃f:Nat,a.edges[i].frm=f:=⟨a.edges[i].frm.toNat,by omega⟩
  obtain⟨t,ht⟩:∃t:Nat,a.edges[i].to=t:=⟨a.edges[i].to.toNat,by omega⟩
  have hfG:f<G.length:=by rw[hG.len];omega
  have hle:=hG.le f hfG
  have R3':=R3.on H
  obtain⟨u,hu,Ru⟩:=H.rep.ldL hfG
  simp -implicitDefEqProofs (disch:=first|omega|(simp only[LnZ];omega))[wrap64,R3'.xTr,Tr.v,setC,hf,ht,H.rep.X (n:=1) rfl,hu]
  refine (c_l4In Ru).go ?_
  rintro _ _ ⟨rfl,rfl⟩
  by_cases hm:(t:Int)∈G[f]
  ·simp -implicitDefEqProofs (disch:=first|omega|(simp only[LnZ];omega))[wrap64,hm]
   exact hJ _ _ hlx ⟨_,by simp,H,hG.skip hlx hf ht hfG hm⟩
  ·obtain⟨u,hu,H⟩:=H.take hfG
   change hload _ (some (elp 1 w f)) none=some u at hu
   simp -implicitDefEqProofs (disch:=first|omega|(simp only[LnZ];omega))[wrap64,hm,hf,ht,H.sw1.holeia (n:=1) rfl,hu]
   refine H.app1 (t:Int) rfl rfl rfl ⟨by omega,by omega⟩ rfl rfl (by omega) (by omega) fun u' h3 H=>?_
   simp -implicitDefEqProofs (disch:=first|omega|(simp only[LnZ];omega))[wrap64,H.sw1.holeia (n:=1) rfl]
   refine H.storeH rfl rfl rfl fun h4 H=>?_
   simp -implicitDefEqProofs (disch:=omega)[wrap64]
   exact hJ _ _ hlx ⟨_,by simp,H,hG.step hlx hf ht hfG⟩
 ·simp -implicitDefEqProofs (disch:=omega)[wrap64]
  exact RetK.keep (hk _ _ ⟨G,H,hG.done ha (by omega),hG.len,fun x hx=>by have:=hG.le x hx;omega⟩)
theorem take_mem_succ {α:Type}{l:List α}{i:Nat}(hi:i<l.length) {x:α}:x∈l.take (i+1)↔x∈l.take i∨x=l[i]:=by
 rw[List.take_add_one,List.getElem?_eq_getElem hi]
 simp only[Option.toList_some,List.mem_append,List.mem_singleton]
theorem snoc_of {α:Type}{l:List α}(h:0<l.length):∃l' x,l=l'++[x]:=by
 refine⟨l.dropLast,l.getLast (List.ne_nil_of_length_pos h),?_⟩
 exact (List.dropLast_concat_getLast _).symm
theorem c_reachable {h:Heap}{w s:Value}{G:List (List Int)}{S:List Int}{E:Nat→Nat→Prop}(Rw:Rep h w G) (Rs:Rep h s S) (hG:Adj E G) (hS:∀z∈S,0≤z∧z<G.length) (hSl:S.length≤1048576) (hGl:G.length≤1048576) :
  CallE Tryz.prog fn_impl_reachable [w,s] h (fun u h'=>∃B:List Bool,HS h [ow u B] h'∧B.length=G.length∧∀x,tru B x↔∃z:Nat,(z:Int)∈S∧Rch E z x):=by
 refine CallE.gen fun k hk=>EN_impl_reachable rfl ?_
 simp -implicitDefEqProofs (disch:=first|omega|(simp only[LnZ];omega))[wrap64,Rw.len]
 refine HS.init.mks (α:=Bool) (z:=false) rfl rfl own_false (Nat.le_refl _) (by omega) (by omega) fun b h1 H=>?_
 simp -implicitDefEqProofs (disch:=omega)[wrap64]
 refine (c_clone_int (Rs.on H) (by omega)).go ?_
 intro t0 h2 H2
 have H:=H2.app H
 simp -implicitDefEqProofs (disch:=first|omega|(simp only[LnZ];omega))[wrap64,(Rs.on H).len]
 refine wp_count S.length (fun i e h'=>∃B,e=[some w,none,none,some b,some t0,none,none,none,some s,some (.int .i64 S.length),some (.int .i64 i),none,none,none]∧HS h [ow t0 S,ow b B] h'∧B.length=G.length∧∀x,tru B x↔(x:Int)∈S.take i) ⟨_,by simp,H,by simp,fun x=>by simp[tru_replicate]⟩ ?_
 rintro J i _ h3 hJ hi ⟨B,rfl,H,hBl,hB⟩
 simp -implicitDefEqProofs (disch:=omega)[wrap64]
 refine IteW.mk (fun hlt=>?_) (fun hge=>?_)
 ·have hlx:i<S.length:=by omega
  have hz:=hS _ (List.getElem_mem hlx)
  obtain⟨z,hz2⟩:∃z:Nat,S[i]=z:=⟨S[i].toNat,by omega⟩
  have H:=H.sw1
  have hzB:z<B.length:=by omega
  simp -implicitDefEqProofs (disch:=first|omega|(simp only[LnZ];omega))[wrap64,(Rs.on H).I,hz2,H.rep.B]
  refine H.storeF true (i:=z) hzB rfl rfl trivial rfl fun h4 H=>?_
  simp -implicitDefEqProofs (disch:=omega)[wrap64]
  refine hJ _ _ hlx ⟨_,rfl,H.sw1,by simpa using hBl,fun x=>?_⟩
  rw[tru_set hzB,hB,take_mem_succ hlx,hz2]
  exact or_congr Iff.rfl (by omega)
 simp -implicitDefEqProofs (disch:=omega)[wrap64]
 rw[List.take_of_length_le (by omega)] at hB
 have hI:Srch E (fun z=>(z:Int)∈S) (tru B) (fun z=>(z:Int)∈S):=Srch.init hB fun _ h=>h
 have hcl:=List.count_le_length (a:=false) (l:=B)
 refine wp_while (σ:=List Bool×List Int) (fun s e h'=>∃t,e=[some w,none,none,some b,some t,none,none,none,none,none,none,none,none,none] ∧
   HS h [ow t s.2,ow b s.1] h'∧s.1.length=G.length∧Srch E (fun z=>(z:Int)∈S) (tru s.1) (fun z=>(z:Int)∈s.2)∧(∀z∈s.2,∃q:Nat,z=q∧tru s.1 q)∧s.2.length+s.1.count false≤S.length+G.length)
  (fun s=>s.2.length+s.1.count false) (B,S) ⟨t0,by simp,H,hBl,hI,fun z hz=>⟨z.toNat,by have:=hS z hz;omega,by rw[hB];have:=hS z hz;rwa [Int.toNat_of_nonneg this.1]⟩,by dsimp only;omega⟩ ?_
 rintro J ⟨B,T⟩ _ h4 hJ ⟨t,rfl,H,hBl,hI,hT,hm⟩
 dsimp only at H hBl hI hT hm
 simp -implicitDefEqProofs (disch:=first|omega|(simp only[LnZ];omega))[wrap64,H.rep.len]
 refine IteW.mkr (fun h0=>?_) (fun h0=>?_)
 ·simp -implicitDefEqProofs (disch:=omega)[wrap64]
  have hT0:T=[]:=List.eq_nil_of_length_eq_zero (by omega)
  subst hT0
  exact RetK.keep (hk _ _ ⟨B,H.drop,hBl,fun x=>hI.done (by simp)⟩)
 obtain⟨T,x,rfl⟩:=snoc_of (l:=T) (by omega)
 obtain⟨q,rfl,hq⟩:=hT x (by simp)
 have hqG:q<G.length:=by rw[← hBl];exact tru_lt hq
 obtain⟨t',ht',H'⟩:=H.cut (n:=T.length) (esz:=1) (k:=.i64) (by simp)
 have hTl:T.length<4611686018427387904:=by have:=H.rep.lt;simp at this;omega
 rw[List.take_left' rfl] at H'
 obtain⟨u,hu0,Ru⟩:=Rw.ldL hqG
 have hu:=hload_le H.base hu0
 have hul:=Ru.lt
 have hlen1:(T++[(q:Int)]).length=T.length+1:=by simp
 have hi1:IntKind.i64.wrap ((T.length:Int)+1-1)=T.length:=by rw[wrap64 (by omega) (by omega)];omega
 simp -implicitDefEqProofs (disch:=first|omega|(simp only[LnZ];omega))[wrap64,H.rep.I,hlen1,hi1,ht',(Rw.on H').X (n:=1) rfl,hu,Ru.len]
 have hlt0:=hm
 obtain⟨m,hmm⟩:∃m,m=T.length+1+B.count false:=⟨_,rfl⟩
 refine wp_count G[q].length (fun j e h'=>∃(t:Value) (B:List Bool) (T':List Int),e=[some w,none,none,some b,some t,none,none,none,none,none,none,some u,some (.int .i64 G[q].length),some (.int .i64 j)] ∧
   HS h [ow t T',ow b B] h'∧B.length=G.length∧Srch E (fun z=>(z:Int)∈S) (tru B) (fun z=>(z:Int)∈T'∨z=q)∧tru B q∧(∀z∈T',∃q:Nat,z=q∧tru B q)∧T'.length+1+B.count false=m ∧
   ∀j' (hj':j'<G[q].length),j'<j→∀y:Nat,G[q][j']=y→tru B y) ⟨t',B,T,by simp,H',hBl,hI.congr (fun _=>Iff.rfl) (fun z=>by simp[Int.ofNat_inj]),hq,fun z hz=>hT z (by simp[hz]),hmm.symm,fun j' _ hj'=>absurd hj' (Nat.not_lt_zero j')⟩ ?_
 rintro J2 j _ h5 hJ2 hj ⟨t2,B2,T2,rfl,H,hBl2,hI2,hq2,hT2,hm2,hpr⟩
 simp -implicitDefEqProofs (disch:=omega)[wrap64]
 refine IteW.mk (fun hlt2=>?_) (fun hge2=>?_)
 ·have hjl:j<G[q].length:=by omega
  obtain⟨y,hy,hxy,hyG⟩:=hG.get hqG hjl
  have H:=H.sw1
  have hyB:y<B2.length:=by omega
  have hpr2:∀B3,tru B3 y→(∀z,tru B2 z→tru B3 z)→∀j' (hj':j'<G[q].length),j'<j+1→∀y:Nat,G[q][j']=y→tru B3 y:=by
   intro B3 h1 h2 j' hj' hlt y' hy'
   by_cases e:j'=j
   ·subst e
    rw[hy] at hy'
    obtain rfl:y=y':=by omega
    exact h1
   ·exact h2 _ (hpr j' hj' (by omega) y' hy')
  by_cases hb:B2[y]=true
  ·simp -implicitDefEqProofs (disch:=first|omega|(simp only[LnZ];omega))[wrap64,(Ru.on H).I,hy,H.rep.B,hb]
   exact hJ2 _ _ hjl ⟨t2,B2,T2,rfl,H.sw1,hBl2,hI2,hq2,hT2,hm2,hpr2 _ ((tru_get hyB).2 hb) fun _ h=>h⟩
  ·have hb':B2[y]=false:=by simpa using hb
   simp -implicitDefEqProofs (disch:=first|omega|(simp only[LnZ];omega))[wrap64,(Ru.on H).I,hy,H.rep.B,hb']
   refine H.storeF true (i:=y) hyB rfl rfl trivial rfl fun h6 H=>?_
   have hcs:=count_set hyB hb'
   simp -implicitDefEqProofs (disch:=omega)[wrap64]
   refine H.sw1.app1 (y:Int) rfl rfl rfl ⟨by omega,by omega⟩ rfl rfl (by omega) (by omega) fun t3 h7 H=>?_
   simp -implicitDefEqProofs (disch:=omega)[wrap64]
   refine hJ2 _ _ hjl ⟨t3,_,_,rfl,H,by simpa using hBl2,hI2.add (x:=q) (y:=y) hq2 hxy (fun z=>tru_set hyB) (fun z=>?_),(tru_set hyB).2 (.inl hq2),?_,?_,hpr2 _ ((tru_set hyB).2 (.inr rfl)) fun z hz=>(tru_set hyB).2 (.inl hz)⟩
   ·simp only[List.mem_append,List.mem_singleton]
    constructor
    ·rintro ((h | h) | h)
     ·exact .inl (.inl h)
     ·exact .inr (by omega)
     ·exact .inl (.inr h)
    ·rintro ((h | h) | h)
     ·exact .inl (.inl h)
     ·exact .inr h
     ·exact .inl (.inr (by omega))
   ·intro z hz
    rcases List.mem_append.1 hz with hz | hz
    ·obtain⟨p,h1,h2⟩:=hT2 z hz
     exact⟨p,h1,(tru_set hyB).2 (.inl h2)⟩
    ·exact⟨y,by simpa using hz,(tru_set hyB).2 (.inr rfl)⟩
   ·simp;omega
 ·simp -implicitDefEqProofs (disch:=omega)[wrap64]
  refine hJ (B2,T2) _ _ ?_ ⟨t2,rfl,H,hBl2,hI2.drop (x:=q) (fun y hxy=>?_) (fun z hz=>hz),hT2,?_⟩
  ·dsimp only;rw[hlen1];omega
  ·exact hG.all hqG (C:=tru B2) (fun j' hj' y hy=>hpr j' hj' (by omega) y hy) hxy
  ·dsimp only at hm ⊢;rw[hlen1] at hm;omega
theorem c_l7Reach {h:Heap}{w s:Value}{G:List (List Int)}{S:List Int}{E:Nat→Nat→Prop}(Rw:Rep h w G) (Rs:Rep h s S) (hG:Adj E G) (hS:∀z∈S,0≤z∧z<G.length) (hGl:G.length≤1048576) :
  CallE Tryz.prog fn_spec_l7Reach [w,s] h (fun u h'=>∃Q:List Int,HS h [ow u Q] h'∧Q.length≤G.length∧(∀z∈Q,0≤z∧z<G.length)∧∀x:Nat,(x:Int)∈Q↔∃z:Nat,(z:Int)∈S∧Rch E z x):=by
 refine CallE.gen fun k hk=>EN_spec_l7Reach rfl ?_
 have hSl:=Rs.lt
 simp -implicitDefEqProofs (disch:=first|omega|(simp only[LnZ];omega))[wrap64,Rw.len]
 refine HS.init.mks (α:=Bool) (z:=false) rfl rfl own_false (Nat.le_refl _) (by omega) (by omega) fun b h1 H=>?_
 simp -implicitDefEqProofs (disch:=omega)[wrap64]
 refine H.bls0 Int fun t0 h2 H=>?_
 simp -implicitDefEqProofs (disch:=omega)[wrap64]
 refine wp_count S.length (fun i e h'=>∃(t:Value) (B:List Bool) (Q:List Int),e=[some w,some s,none,some b,some t,some (.int .i64 i),none,none,none]∧HS h [ow t Q,ow b B] h'∧B.length=G.length∧Q.length+B.count false=G.length∧(∀z∈Q,∃q:Nat,z=q∧q<G.length)∧(∀x,tru B x↔(x:Int)∈S.take i)∧∀x:Nat,tru B x↔(x:Int)∈Q) ⟨t0,_,[],by simp,H,by simp,by simp,by simp,fun x=>by simp[tru_replicate],fun x=>by simp[tru_replicate]⟩ ?_
 rintro J i _ h3 hJ hi ⟨t,B,Q,rfl,H,hBl,hQl,hQ,hB,hBQ⟩
 simp -implicitDefEqProofs (disch:=first|omega|(simp only[LnZ];omega))[wrap64,(Rs.on H).len]
 refine IteW.mk (fun hlt=>?_) (fun hge=>?_)
 ·have hlx:i<S.length:=by omega
  have hz:=hS _ (List.getElem_mem hlx)
  obtain⟨z,hz2⟩:∃z:Nat,S[i]=z:=⟨S[i].toNat,by omega⟩
  have H:=H.sw1
  have hzB:z<B.length:=by omega
  by_cases hb:B[z]=true
  ·simp -implicitDefEqProofs (disch:=first|omega|(simp only[LnZ];omega))[wrap64,(Rs.on H).I,hz2,H.rep.B,hb]
   refine hJ _ _ hlx ⟨t,B,Q,rfl,H.sw1,hBl,hQl,hQ,fun x=>?_,hBQ⟩
   rw[take_mem_succ hlx,hB,hz2]
   constructor
   ·exact .inl
   ·rintro (h | h)
    ·exact h
    ·obtain rfl:x=z:=by omega
     exact (hB x).1 ((tru_get hzB).2 hb)
  ·have hb':B[z]=false:=by simpa using hb
   have hcs:=count_set hzB hb'
   simp -implicitDefEqProofs (disch:=first|omega|(simp only[LnZ];omega))[wrap64,(Rs.on H).I,hz2,H.rep.B,hb']
   refine H.storeF true (i:=z) hzB rfl rfl trivial rfl fun h4 H=>?_
   simp -implicitDefEqProofs (disch:=first|omega|(simp only[LnZ];omega))[wrap64,(Rs.on H).I,hz2]
   refine H.sw1.app1 (z:Int) rfl rfl rfl ⟨by omega,by omega⟩ rfl rfl (by omega) (by omega) fun t3 h7 H=>?_
   simp -implicitDefEqProofs (disch:=omega)[wrap64]
   refine hJ _ _ hlx ⟨t3,_,_,rfl,H,by simpa using hBl,by simp;omega,?_,fun x=>?_,fun x=>?_⟩
   ·intro y hy
    rcases List.mem_append.1 hy with hy | hy
    ·exact hQ y hy
    ·exact⟨z,by simpa using hy,by omega⟩
   ·rw[tru_set hzB,hB,take_mem_succ hlx,hz2]
    exact or_congr Iff.rfl (by omega)
   ·rw[tru_set hzB,hBQ]
    simp[Int.ofNat_inj]
 simp -implicitDefEqProofs (disch:=omega)[wrap64]
 rw[List.take_of_length_le (by omega)] at hB
 have hI:Srch E (fun z=>(z:Int)∈S) (tru B) (fun z=>(z:Int)∈Q.drop 0):=Srch.init hB fun z hz=>by rw[List.drop_zero,← hBQ,hB];exact hz
 refine wp_while (σ:=List Bool×List Int×Nat) (fun s e h'=>∃t,e=[some w,none,none,some b,some t,none,some (.int .i64 s.2.2),none,none] ∧
   HS h [ow t s.2.1,ow b s.1] h'∧s.1.length=G.length∧s.2.1.length+s.1.count false=G.length∧s.2.2≤s.2.1.length∧(∀z∈s.2.1,∃q:Nat,z=q∧q<G.length)∧(∀x:Nat,tru s.1 x↔(x:Int)∈s.2.1)∧Srch E (fun z=>(z:Int)∈S) (tru s.1) (fun z=>(z:Int)∈s.2.1.drop s.2.2))
  (fun s=>G.length-s.2.2) (B,Q,0) ⟨t,by simp,H,hBl,hQl,by dsimp only;omega,hQ,hBQ,hI⟩ ?_
 rintro J ⟨B,Q,i⟩ _ h4 hJ ⟨t,rfl,H,hBl,hQl,hiQ,hQ,hBQ,hI⟩
 dsimp only at H hBl hQl hiQ hQ hBQ hI
 simp -implicitDefEqProofs (disch:=first|omega|(simp only[LnZ];omega))[wrap64,H.rep.len]
 refine IteW.mkr (fun h0=>?_) (fun h0=>?_)
 ·simp -implicitDefEqProofs (disch:=omega)[wrap64]
  have hd:Q.drop i=[]:=List.drop_eq_nil_of_le (by omega)
  rw[hd] at hI
  refine RetK.keep (hk _ _ ⟨Q,H.sw1.drop,by omega,fun z hz=>?_,fun x=>?_⟩)
  ·obtain⟨q,rfl,h2⟩:=hQ z hz;omega
  ·rw[← hBQ];exact hI.done (by simp)
 have hiQ2:i<Q.length:=by omega
 obtain⟨q,hq,hqG⟩:=hQ _ (List.getElem_mem hiQ2)
 obtain⟨u,hu0,Ru⟩:=Rw.ldL hqG
 have hul:=Ru.lt
 have hqB:tru B q:=by rw[hBQ,← hq];exact List.getElem_mem hiQ2
 simp -implicitDefEqProofs (disch:=omega)[wrap64]
 refine wp_count G[q].length (fun j e h'=>∃(t:Value) (B':List Bool) (W:List Int),e=[some w,none,none,some b,some t,none,some (.int .i64 i),some (.int .i64 j),none] ∧
   HS h [ow t (Q++W),ow b B'] h'∧B'.length=G.length∧(Q++W).length+B'.count false=G.length∧(∀z∈Q++W,∃q:Nat,z=q∧q<G.length)∧(∀x:Nat,tru B' x↔(x:Int)∈Q++W)∧Srch E (fun z=>(z:Int)∈S) (tru B') (fun z=>(z:Int)∈(Q++W).drop i) ∧
   ∀j' (hj':j'<G[q].length),j'<j→∀y:Nat,G[q][j']=y→tru B' y) ⟨t,B,[],by simp,by simpa using H,hBl,by simpa using hQl,by simpa using hQ,by simpa using hBQ,by simpa using hI,fun j' _ hj'=>absurd hj' (Nat.not_lt_zero j')⟩ ?_
 rintro J2 j _ h5 hJ2 hj ⟨t2,B2,W,rfl,H,hBl2,hQl2,hQ2,hBQ2,hI2,hpr⟩
 have hiW:i<(Q++W).length:=by simp;omega
 have hqi:(Q++W)[i]=(q:Int):=by rw[List.getElem_append_left hiQ2];exact hq
 have hu:=hload_le H.base hu0
 simp -implicitDefEqProofs (disch:=first|omega|(simp only[LnZ];omega))[wrap64,H.rep.I,hqi,(Rw.on H).X (n:=1) rfl,hu,(Ru.on H).len]
 refine IteW.mk (fun hlt2=>?_) (fun hge2=>?_)
 ·have hjl:j<G[q].length:=by omega
  obtain⟨y,hy,hxy,hyG⟩:=hG.get hqG hjl
  have H:=H.sw1
  have hyB:y<B2.length:=by omega
  have hpr2:∀B3,tru B3 y→(∀z,tru B2 z→tru B3 z)→∀j' (hj':j'<G[q].length),j'<j+1→∀y:Nat,G[q][j']=y→tru B3 y:=by
   intro B3 h1 h2 j' hj' hlt y' hy'
   by_cases e:j'=j
   ·subst e
    rw[hy] at hy'
    obtain rfl:y=y':=by omega
    exact h1
   ·exact h2 _ (hpr j' hj' (by omega) y' hy')
  have hqB2:tru B2 q:=by rw[hBQ2,← hqi];exact List.getElem_mem hiW
  by_cases hb:B2[y]=true
  ·simp -implicitDefEqProofs (disch:=first|omega|(simp only[LnZ];omega))[wrap64,H.sw1.rep.I,hqi,(Rw.on H).X (n:=1) rfl,hu,(Ru.on H).I,hy,H.rep.B,hb]
   exact hJ2 _ _ hjl ⟨t2,B2,W,rfl,H.sw1,hBl2,hQl2,hQ2,hBQ2,hI2,hpr2 _ ((tru_get hyB).2 hb) fun _ h=>h⟩
  ·have hb':B2[y]=false:=by simpa using hb
   simp -implicitDefEqProofs (disch:=first|omega|(simp only[LnZ];omega))[wrap64,H.sw1.rep.I,hqi,(Rw.on H).X (n:=1) rfl,hu,(Ru.on H).I,hy,H.rep.B,hb']
   refine H.storeF true (i:=y) hyB rfl rfl trivial rfl fun h6 H=>?_
   have hcs:=count_set hyB hb'
   simp -implicitDefEqProofs (disch:=omega)[wrap64]
   refine H.sw1.app1 (y:Int) rfl rfl rfl ⟨by omega,by omega⟩ rfl rfl (by omega) (by omega) fun t3 h7 H=>?_
   simp -implicitDefEqProofs (disch:=omega)[wrap64]
   have hassoc:Q++W++[(y:Int)]=Q++(W++[(y:Int)]):=List.append_assoc _ _ _
   rw[hassoc] at H
   refine hJ2 _ _ hjl ⟨t3,_,W++[(y:Int)],rfl,H,by simpa using hBl2,by simp at hQl2 ⊢;omega,?_,fun x=>?_,hI2.add (x:=q) (y:=y) hqB2 hxy (fun z=>tru_set hyB) (fun z=>?_),hpr2 _ ((tru_set hyB).2 (.inr rfl)) fun z hz=>(tru_set hyB).2 (.inl hz)⟩
   ·intro z hz
    rw[← hassoc] at hz
    rcases List.mem_append.1 hz with hz | hz
    ·exact hQ2 z hz
    ·exact⟨y,by simpa using hz,hyG⟩
   ·rw[tru_set hyB,hBQ2,← hassoc]
    simp[Int.ofNat_inj,or_assoc]
   ·rw[← hassoc,List.drop_append_of_le_length (by omega)]
    simp[Int.ofNat_inj]
 ·simp -implicitDefEqProofs (disch:=omega)[wrap64]
  refine hJ (B2,Q++W,i+1) _ _ ?_ ⟨t2,rfl,H,hBl2,hQl2,by dsimp only;omega,hQ2,hBQ2,hI2.drop (x:=q) (fun y hxy=>?_) (fun z hz=>?_)⟩
  ·dsimp only;omega
  ·exact hG.all hqG (C:=tru B2) (fun j' hj' y hy=>hpr j' hj' (by omega) y hy) hxy
  ·dsimp only
   rw[List.drop_eq_getElem_cons hiW,hqi] at hz
   rcases List.mem_cons.1 hz with hz | hz
   ·exact .inr (by omega)
   ·exact .inl hz
structure LpI (E:Nat→Nat→Prop) (n q:Nat) (B:List Bool) (Q:List Int) (i:Nat):Prop where
 len:B.length=n
 size:Q.length+2048*B.count false≤2048*(n+1)
 le:i≤Q.length
 snd:∀z∈Q,∃p:Nat,z=p∧p<n∧∃y,E q y∧Rch E y p
 start:∀y,E q y→(y:Int)∈Q
 seen:∀x,tru B x→∀y,E x y→(y:Int)∈Q
 past:∀j (hj:j<Q.length),j<i→Q[j]≠q∧tru B Q[j].toNat
theorem LpI.done {E:Nat→Nat→Prop}{n q:Nat}{B:List Bool}{Q:List Int}{i:Nat}(h:LpI E n q B Q i) (hi:Q.length≤i):¬Cyc E q:=by
 rintro⟨y,h1,h2⟩
 have hm:((q:Nat):Int)∈Q:=by
  refine h2.closed (C:=fun x=>(x:Int)∈Q) (fun u v hu huv=>?_) (h.start y h1)
  obtain⟨j,hj,h3⟩:=List.mem_iff_getElem.1 hu
  have h4:=(h.past j hj (by omega)).2
  rw[h3] at h4
  exact h.seen u h4 v huv
 obtain⟨j,hj,h3⟩:=List.mem_iff_getElem.1 hm
 exact (h.past j hj (by omega)).1 h3
theorem c_l7Loop {h:Heap}{w:Value}{G:List (List Int)}{E:Nat→Nat→Prop}(Rw:Rep h w G) (hG:Adj E G) (hrow:∀x (hx:x<G.length),G[x].length≤2048) (hGl:G.length≤1048576) {q:Nat}(hq:q<G.length) :
  CallE Tryz.prog fn_spec_l7Loop [w,.int .i64 q] h (fun u h'=>h.le h'∧∃r:Bool,u=.bool r∧(r=true↔Cyc E q)):=by
 refine CallE.gen fun k hk=>EN_spec_l7Loop rfl ?_
 obtain⟨u,hu0,Ru⟩:=Rw.ldL hq
 have hul:=hrow q hq
 simp -implicitDefEqProofs (disch:=omega)[wrap64]
 refine wp_count G[q].length (fun i e h'=>e=[some w,some (.int .i64 q),none,some (.int .i64 i),none,none,none,none]∧h'=h∧∀(j:Nat) (hj:j<G[q].length),j<i→G[q][j]≠q) ⟨rfl,rfl,fun j _ hj=>absurd hj (Nat.not_lt_zero j)⟩ ?_
 rintro J i _ h hJ hi ⟨rfl,rfl,hn⟩
 simp -implicitDefEqProofs (disch:=first|omega|(simp only[LnZ];omega))[wrap64,Rw.X (n:=1) rfl,hu0,Ru.I]
 refine IteW.mk (fun hlt=>?_) (fun hge=>?_)
 ·have hlx:i<G[q].length:=by omega
  simp -implicitDefEqProofs (disch:=first|omega|(simp only[LnZ];omega))[wrap64,Rw.X (n:=1) rfl,hu0,Ru.I]
  refine IteW.mk (fun he=>?_) (fun he=>?_)
  ·simp -implicitDefEqProofs (disch:=omega)[wrap64]
   refine RetK.keep (hk _ _ ⟨Heap.le.refl _,true,rfl,?_⟩)
   simp only[true_iff]
   obtain⟨y,h1,h2,_⟩:=hG.get hq hlx
   obtain rfl:y=q:=by rw[he] at h1;omega
   exact⟨y,h2,.refl _⟩
  ·simp -implicitDefEqProofs (disch:=omega)[wrap64]
   refine hJ _ _ hlx ⟨rfl,rfl,fun j hj hji=>?_⟩
   by_cases hji2:j=i
   ·subst hji2;exact he
   ·exact hn j hj (by omega)
 clear hn
 simp -implicitDefEqProofs (disch:=first|omega|(simp only[LnZ];omega))[wrap64,Rw.len]
 refine HS.init.mks (α:=Bool) (z:=false) rfl rfl own_false (Nat.le_refl _) (by omega) (by omega) fun b h1 H=>?_
 have hu:=hload_le H.base hu0
 simp -implicitDefEqProofs (disch:=first|omega|(simp only[LnZ];omega))[wrap64,(Rw.on H).X (n:=1) rfl,hu]
 refine H.appPL (α:=Int) (l2:=G[q]) rfl rfl (Ru.on H) rfl rfl (by omega) fun t h2 H=>?_
 simp -implicitDefEqProofs (disch:=omega)[wrap64]
 have hmem:=hG.mem q hq
 have hI:LpI E G.length q (List.replicate G.length false) G[q] 0:=by
  refine⟨by simp,by simp;omega,by omega,fun z hz=>?_,fun y hy=>(hmem y).2 ⟨y,rfl,hy⟩,fun x hx=>absurd hx tru_replicate,fun j _ hj=>absurd hj (Nat.not_lt_zero j)⟩
  obtain⟨y,rfl,h2⟩:=(hmem z).1 hz
  exact⟨y,rfl,(hG.lt _ _ h2).2,y,h2,.refl _⟩
 refine wp_while (σ:=List Bool×List Int×Nat) (fun s e h'=>∃t,e=[some w,some (.int .i64 q),none,none,some b,some t,some (.int .i64 s.2.2),none] ∧
   HS h [ow t s.2.1,ow b s.1] h'∧LpI E G.length q s.1 s.2.1 s.2.2) (fun s=>s.1.count false*2049+(s.2.1.length-s.2.2)) (List.replicate G.length false,G[q],0) ⟨t,by simp,H,hI⟩ ?_
 rintro J2 ⟨B,Q,i⟩ _ h3 hJ2 ⟨t,rfl,H,hI⟩
 dsimp only at H hI
 have hsz:=hI.size
 have hle:=hI.le
 have hBl:=hI.len
 simp -implicitDefEqProofs (disch:=first|omega|(simp only[LnZ];omega))[wrap64,H.rep.len]
 refine IteW.mkr (fun h0=>?_) (fun h0=>?_)
 ·simp -implicitDefEqProofs (disch:=omega)[wrap64]
  exact RetK.keep (hk _ _ ⟨H.base,false,rfl,by simpa using hI.done (by omega)⟩)
 have hiQ:i<Q.length:=by omega
 obtain⟨p,hp,hpn,y,hy1,hy2⟩:=hI.snd _ (List.getElem_mem hiQ)
 by_cases hpq:p=q
 ·have hp2:Q[i]=(q:Int):=by rw[hp,hpq]
  simp -implicitDefEqProofs (disch:=first|omega|(simp only[LnZ];omega))[wrap64,H.rep.I,hp2]
  refine RetK.keep (hk _ _ ⟨H.base,true,rfl,?_⟩)
  simp only[true_iff]
  exact⟨y,hy1,hpq▸hy2⟩
 have hpq2:¬((p:Int)=q):=by omega
 have H:=H.sw1
 have hpB:p<B.length:=by omega
 have hpast:∀(B':List Bool) (W:List Int),(∀x,tru B x→tru B' x)→tru B' p→∀j (hj:j<(Q++W).length),j<i+1→(Q++W)[j]≠q∧tru B' (Q++W)[j].toNat:=by
  intro B' W h1 h2 j hj hji
  have hjQ:j<Q.length:=by omega
  rw[List.getElem_append_left hjQ]
  by_cases e:j=i
  ·subst e
   rw[hp]
   exact⟨hpq2,by simpa using h2⟩
  ·have:=hI.past j hjQ (by omega)
   exact⟨this.1,h1 _ this.2⟩
 by_cases hb:B[p]=true
 ·simp -implicitDefEqProofs (disch:=first|omega|(simp only[LnZ];omega))[wrap64,H.sw1.rep.I,hp,hpq2,H.rep.B,hb]
  refine hJ2 (B,Q,i+1) _ _ ?_ ⟨t,rfl,H.sw1,hI.len,hsz,by dsimp only;omega,hI.snd,hI.start,hI.seen,?_⟩
  ·dsimp only;omega
  ·dsimp only
   have:=hpast B [] (fun _ h=>h) ((tru_get hpB).2 hb)
   simpa using this
 ·have hb':B[p]=false:=by simpa using hb
  obtain⟨v,hv0,Rv⟩:=Rw.ldL hpn
  have hrp:=hrow p hpn
  have hcs:=count_set hpB hb'
  simp -implicitDefEqProofs (disch:=first|omega|(simp only[LnZ];omega))[wrap64,H.sw1.rep.I,hp,hpq2,H.rep.B,hb']
  refine H.storeF true (i:=p) hpB rfl rfl trivial rfl fun h4 H=>?_
  have hv:=hload_le H.base hv0
  simp -implicitDefEqProofs (disch:=first|omega|(simp only[LnZ];omega))[wrap64,(Rw.on H).X (n:=1) rfl,hv]
  refine H.sw1.appL rfl rfl (Rv.on H) rfl rfl (by omega) (by omega) fun t3 h5 H=>?_
  simp -implicitDefEqProofs (disch:=omega)[wrap64]
  have hmp:=hG.mem p hpn
  refine hJ2 (B.set p true,Q++G[p],i+1) _ _ ?_ ⟨t3,rfl,H,by simpa using hI.len,by simp;omega,by simp;omega,?_,?_,?_,hpast _ _ (fun x hx=>(tru_set hpB).2 (.inl hx)) ((tru_set hpB).2 (.inr rfl))⟩
  ·simp;omega
  ·intro z hz
   rcases List.mem_append.1 hz with hz | hz
   ·exact hI.snd z hz
   ·obtain⟨y',rfl,h2⟩:=(hmp z).1 hz
    exact⟨y',rfl,(hG.lt _ _ h2).2,y,hy1,hy2.snoc h2⟩
  ·intro y' hy'
   exact List.mem_append_left _ (hI.start y' hy')
  ·intro x hx y' hxy
   rcases (tru_set hpB).1 hx with hx | rfl
   ·exact List.mem_append_left _ (hI.seen x hx y' hxy)
   ·exact List.mem_append_right _ ((hmp _).2 ⟨y',rfl,hxy⟩)
theorem ok_one {n:Int}(h:-9223372036854775808≤n∧n<9223372036854775808):∀x∈[n],Flat.ok x:=by
 intro x hx
 obtain rfl:x=n:=by simpa using hx
 exact h
theorem c_spec_LiveStates {h:Heap}{v:Value}{a:Aut}(Ra:Rep h v a) (ha:a.Ok):CallE Tryz.prog fn_spec_LiveStates [v] h (fun u h'=>∃L:List Bool,HS h [ow u L] h'∧L.length=a.acc.length∧∀q,tru L q↔q<a.acc.length∧a.Live q):=by
 obtain⟨v1,v2,v3,rfl,R1,R2,R3⟩:=Rep_Aut.1 Ra
 refine CallE.gen fun k hk=>EN_spec_LiveStates rfl ?_
 have hn:=ha.n
 simp -implicitDefEqProofs (disch:=omega)[wrap64]
 refine HS.init.bls0 Bool fun o h1 H=>?_
 simp -implicitDefEqProofs (disch:=omega)[wrap64]
 refine (c_spec_AutomatonValid (Ra.on H)).go ?_
 rintro _ h1 ⟨rfl,rfl⟩
 simp -implicitDefEqProofs (disch:=first|omega|(simp only[LnZ];omega))[wrap64,ha]
 refine (c_l7Next (Ra.on H) ha).go ?_
 rintro w h2 ⟨G,H2,hG,hGl,hrow⟩
 have H:=H2.app H
 have H:=H.sw1
 simp -implicitDefEqProofs (disch:=omega)[wrap64]
 refine wp_count a.acc.length (fun i e h'=>∃(o:Value) (L:List Bool),e=[none,some (.agg #[v1,v2,v3]),none,some o,some w,some (.int .i64 i),none,none,none]∧HS h [ow o L,ow w G] h'∧L.length=i∧∀q,tru L q↔q<i∧a.Live q) ⟨o,[],by simp,H,rfl,fun q=>by simp[tru]⟩ ?_
 rintro J i _ h3 hJ hi ⟨o,L,rfl,H,hLl,hL⟩
 simp -implicitDefEqProofs (disch:=first|omega|(simp only[LnZ];omega))[wrap64,(R2.on H).len]
 refine IteW.mk (fun hlt=>?_) (fun hge=>?_)
 ·have hin:i<a.acc.length:=by omega
  simp -implicitDefEqProofs (disch:=omega)[wrap64]
  refine H.bls (α:=Int) [(i:Int)] (by rfl) rfl (ok_one (by omega)) (by decide) fun s h4 H=>?_
  simp -implicitDefEqProofs (disch:=omega)[wrap64]
  have hS1:∀z∈[(i:Int)],0≤z∧z<(G.length:Int):=by
   intro z hz
   have hxi:z=i:=by simpa using hz
   omega
  refine (c_l7Reach (S:=[(i:Int)]) H.sw2.rep H.rep hG hS1 (by omega)).go ?_
  rintro qv h5 ⟨Q,H5,hQl,hQn,hQ⟩
  have H:=H5.app H.drop
  simp -implicitDefEqProofs (disch:=omega)[wrap64]
  refine wp_count Q.length (fun k e h'=>∃(r:Bool),e=[none,some (.agg #[v1,v2,v3]),none,some o,some w,some (.int .i64 i),some qv,some (.bool r),some (.int .i64 k)]∧HS h [ow qv Q,ow o L,ow w G] h'∧(r=true→a.Live i)∧∀j (hj:j<Q.length),j<k→r=false→¬(tru a.acc Q[j].toNat∧Cyc a.E Q[j].toNat)) ⟨false,by simp,H,by simp,fun j _ hj=>absurd hj (Nat.not_lt_zero j)⟩ ?_
  rintro J2 k _ h6 hJ2 hk2 ⟨r,rfl,H,hr1,hr2⟩
  simp -implicitDefEqProofs (disch:=first|omega|(simp only[LnZ];omega))[wrap64,H.rep.len]
  by_cases hx:k<Q.length∧r=false
  ·obtain⟨hkl,rfl⟩:=hx
   obtain⟨hz0,hz1⟩:=hQn _ (List.getElem_mem hkl)
   obtain⟨z,hz⟩:∃z:Nat,Q[k]=z:=⟨Q[k].toNat,by omega⟩
   have hzG:z<G.length:=by omega
   have hzr:Rch a.E i z:=by
    have h1:((z:Nat):Int)∈Q:=by rw[← hz];exact List.getElem_mem hkl
    obtain⟨i',h2,h3⟩:=(hQ z).1 h1
    obtain rfl:i'=i:=by simpa[Int.ofNat_inj] using h2
    exact h3
   have hnext:∀r':Bool,(r'=true↔tru a.acc z∧Cyc a.E z)→(r'=true→a.Live i)∧∀j (hj:j<Q.length),j<k+1→r'=false→¬(tru a.acc Q[j].toNat∧Cyc a.E Q[j].toNat):=by
    intro r' hr'
    refine⟨fun h=>⟨z,hzr,(hr'.1 h).2,(hr'.1 h).1⟩,fun j hj hjk hf=>?_⟩
    by_cases e:j=k
    ·subst e
     rw[hz]
     intro hh
     have:=hr'.2 (by simpa using hh)
     rw[hf] at this;simp at this
    ·exact hr2 j hj (by omega) rfl
   by_cases hac:tru a.acc z
   ·have hac2:=(tru_get (by omega:z<a.acc.length)).1 hac
    simp -implicitDefEqProofs (disch:=first|omega|(simp only[LnZ];omega))[wrap64,hkl,H.rep.I,hz,(R2.on H).B,hac2]
    refine (c_l7Loop H.sw2.rep hG hrow (by omega) hzG).go ?_
    rintro _ h7 ⟨l7,r',rfl,hr'⟩
    have H:=H.le l7
    simp -implicitDefEqProofs (disch:=omega)[wrap64]
    have h8:=hnext r' (by rw[hr'];simp[hac])
    exact hJ2 _ _ hkl ⟨r',by simp,H,h8.1,h8.2⟩
   ·have hac2:a.acc[z]'(by omega)=false:=by
     have:=mt (tru_get (by omega:z<a.acc.length)).2 hac
     simpa using this
    simp -implicitDefEqProofs (disch:=first|omega|(simp only[LnZ];omega))[wrap64,hkl,H.rep.I,hz,(R2.on H).B,hac2]
    have h8:=hnext false (by simp[hac])
    exact hJ2 _ _ hkl ⟨false,by simp,H,h8.1,h8.2⟩
  ·have hfin:r=true↔a.Live i:=by
    refine⟨hr1,fun ⟨t,h1,h2,h3⟩=>?_⟩
    cases r with
    | true=>rfl
    | false=>
     exfalso
     have hkl:¬k<Q.length:=fun h=>hx ⟨h,rfl⟩
     have hm:((t:Nat):Int)∈Q:=(hQ t).2 ⟨i,by simp,h1⟩
     obtain⟨j,hj,h4⟩:=List.mem_iff_getElem.1 hm
     refine hr2 j hj (by omega) rfl ?_
     rw[h4]
     exact⟨by simpa using h3,by simpa using h2⟩
   have hstep:∀q,tru (L++[r]) q↔q<i+1∧a.Live q:=by
    intro q
    by_cases e:q=i
    ·subst e
     rw[← hfin]
     simp[tru,← hLl]
    ·have h1:tru (L++[r]) q↔tru L q:=by
      simp only[tru,List.getD_eq_getElem?_getD]
      by_cases h2:q<L.length
      ·rw[List.getElem?_append_left h2]
      ·rw[List.getElem?_eq_none (by simp;omega),List.getElem?_eq_none (by omega)]
     rw[h1,hL]
     constructor
     ·rintro⟨h2,h3⟩;exact⟨by omega,h3⟩
     ·rintro⟨h2,h3⟩;exact⟨by omega,h3⟩
   have hcase:(¬k<Q.length)∨(k<Q.length∧r=true):=by
    by_cases hkl:k<Q.length
    ·exact .inr ⟨hkl,by cases r with | true=>rfl | false=>exact absurd ⟨hkl,rfl⟩ hx⟩
    ·exact .inl hkl
   have H:=H.drop
   rcases hcase with hkl | ⟨hkl,rfl⟩
   ·simp -implicitDefEqProofs (disch:=first|omega|(simp only[LnZ];omega))[wrap64,hkl]
    refine H.app1 r rfl rfl rfl trivial rfl rfl (by omega) (by omega) fun o' h7 H=>?_
    simp -implicitDefEqProofs (disch:=omega)[wrap64]
    exact hJ _ _ hin ⟨o',_,by simp,H,by simp[hLl],hstep⟩
   ·simp -implicitDefEqProofs (disch:=first|omega|(simp only[LnZ];omega))[wrap64,hkl]
    refine H.app1 true rfl rfl rfl trivial rfl rfl (by omega) (by omega) fun o' h7 H=>?_
    simp -implicitDefEqProofs (disch:=omega)[wrap64]
    exact hJ _ _ hin ⟨o',_,by simp,H,by simp[hLl],hstep⟩
 ·simp -implicitDefEqProofs (disch:=omega)[wrap64]
  have hia:i=a.acc.length:=by omega
  exact RetK.keep (hk _ _ ⟨L,H.sw1.drop,by omega,fun q=>by rw[hL,hia]⟩)
def gd (l:List Int):Nat→Int:=fun x=>l.getD x 0
theorem gd_get {l:List Int}{i:Nat}(hi:i<l.length):gd l i=l[i]:=by simp[gd,hi]
theorem gd_set {l:List Int}{i:Nat}{v:Int}(hi:i<l.length):gd (l.set i v)=fput (gd l) i v:=by
 funext x
 simp only[gd,fput,List.getD_eq_getElem?_getD,List.getElem?_set]
 by_cases h:i=x
 ·subst h;simp[hi]
 ·simp[h,Ne.symm h]
theorem ite_min {a b:Int}:(if b<a then b else a)=min a b:=by
 split<;>omega
def unv (n:Nat) (f:Nat→Int):Nat:=((List.range n).filter fun x=>decide (x<n∧f x=0)).length
theorem unv_lt {n:Nat}{f f':Nat→Int}{a:Nat}(ha:a<n) (h0:f a=0) (h1:f' a≠0) (h:∀x,x<n→f x≠0→f' x≠0):unv n f'<unv n f:=by
 refine filter_lt_of ?_ ⟨a,by simpa using ha,by simp[h1],by simp[h0,ha]⟩
 intro x hx2
 simp at hx2 ⊢
 exact⟨hx2.1,Classical.byContradiction fun hn=>h x hx2.1 hn hx2.2⟩
@[reducible] def FB (bN bL bQ bG bV:Nat) (vn vl vq w fv:Value) (h:Heap):Prop:=hload h (some (.pointer (some ⟨bN,0,none⟩))) none=some vn∧hload h (some (.pointer (some ⟨bL,0,none⟩))) none=some vl∧hload h (some (.pointer (some ⟨bQ,0,none⟩))) none=some vq ∧
 hload h (some (.pointer (some ⟨bG,0,none⟩))) none=some w∧hload h (some (.pointer (some ⟨bV,0,none⟩))) none=some fv
theorem FB.on {bN bL bQ bG bV:Nat}{vn vl vq w fv:Value}{g h:Heap}{Γ:List HP}(F:FB bN bL bQ bG bV vn vl vq w fv g) (H:HS g Γ h):FB bN bL bQ bG bV vn vl vq w fv h:=
 ⟨hload_le H.base F.1,hload_le H.base F.2.1,hload_le H.base F.2.2.1,hload_le H.base F.2.2.2.1,hload_le H.base F.2.2.2.2⟩
@[reducible] def CHs (vn vl vq:Value) (bS bC bP:Nat) (vs:Value) (N L Q:List Int) (s:TS):List HP:=
 [ow vn N,ow vl L,ow vq Q,ow vs (s.stk.map Int.ofNat),bx bS [vs],bx bC [.int .i64 s.cnt],bx bP [.int .i64 s.prt]]
structure CHl (n:Nat) (N L Q:List Int) (s:TS):Prop where
 hN:N.length=n
 hL:L.length=n
 hQ:Q.length=n
 num:s.num=gd N
 low:s.low=gd L
 part:s.part=gd Q
 cnt:s.cnt+unv n s.num≤n
def CH (g:Heap) (vn vl vq:Value) (bS bC bP n:Nat) (s:TS) (h:Heap):Prop:=∃(N L Q:List Int) (vs:Value),CHl n N L Q s∧HS g (CHs vn vl vq bS bC bP vs N L Q s) h
theorem TL.mono {n:Nat}{E:Nat→Nat→Prop}{gr sc sc':Nat→Prop}{s s1:TS}{a:Nat}(h:TL n E gr s a sc s1) (hs:∀y,sc' y→sc y):TL n E gr s a sc' s1:=
 ⟨h.inv,h.num,h.part,h.stk,h.na,h.cnt,h.fresh,h.black,h.lowa,h.low,h.min,fun y hy=>h.proc y (hs y hy)⟩
def topv (C:List Nat) (m:Nat):Int:=if h:m<C.length then (C[m]:Int) else -1
set_option maxHeartbeats 4000000 in
theorem c_visit {g:Heap}{bN bL bQ bG bV bS bC bP n:Nat}{vn vl vq w fv:Value}{G:List (List Int)}{E:Nat→Nat→Prop}(F:FB bN bL bQ bG bV vn vl vq w fv g) (Rw:Rep g w G) (hG:Adj E G) (hn:G.length=n) (hnl:n≤1048576)
  (hfv:fnOf fv=some (fn_impl_components_1,[],[.pointer (some ⟨bC,0,none⟩),.pointer (some ⟨bN,0,none⟩),.pointer (some ⟨bL,0,none⟩),.pointer (some ⟨bS,0,none⟩),.pointer (some ⟨bG,0,none⟩),.pointer (some ⟨bV,0,none⟩),.pointer (some ⟨bQ,0,none⟩),.pointer (some ⟨bP,0,none⟩)])) :
  ∀(m:Nat) (gr:Nat→Prop) (s:TS) (a:Nat) (h:Heap),unv n s.num=m→CH g vn vl vq bS bC bP n s h→TI n E gr s→a<n→s.num a=0→(∀g,gr g→g∈s.stk→Rch E g a)→(∀g,gr g→g<n∧s.num g≠0) →
  CallE Tryz.prog fn_impl_components_1 [.int .i64 a,.pointer (some ⟨bC,0,none⟩),.pointer (some ⟨bN,0,none⟩),.pointer (some ⟨bL,0,none⟩),.pointer (some ⟨bS,0,none⟩),.pointer (some ⟨bG,0,none⟩),.pointer (some ⟨bV,0,none⟩),.pointer (some ⟨bQ,0,none⟩),.pointer (some ⟨bP,0,none⟩)] h
   (fun u h'=>∃s',CH g vn vl vq bS bC bP n s' h'∧TV n E gr s a s'):=by
 intro m
 induction m using Nat.strongRecOn with
 | ind m ih=>
 rintro gr s a h hm ⟨N,L,Q,vs,hl,H⟩ hI han ha0 hg1 hg2
 have hE:∀x y,E x y→x<n∧y<n:=fun x y hxy=>hn▸hG.lt x y hxy
 have hc:=hI.cnt
 have hcn:=hl.cnt
 have hNl:=hl.hN
 have hLl:=hl.hL
 have hQl:=hl.hQ
 have haG:a<G.length:=by omega
 obtain⟨u,hu0,Ru⟩:=Rw.ldL haG
 have hul:=Ru.lt
 refine CallE.gen fun k hk=>EN_impl_components_1 rfl ?_
 simp -implicitDefEqProofs (disch:=first|omega|(simp only[LnZ];omega))[wrap64,H.sw5.bxld0]
 refine H.sw5.bxst (u:=.int .i64 (s.cnt+1)) rfl rfl rfl rfl (by simp) fun h1 H=>?_
 simp only[setC,cells_int,List.take_zero,List.nil_append] at H
 have H:HS g (bx bC [.int .i64 (s.cnt+1)]::ow vn N::ow vl L::ow vq Q::ow vs (s.stk.map Int.ofNat)::bx bS [vs]::[bx bP [.int .i64 s.prt]]) h1:=H
 have H:=H.bk5
 simp -implicitDefEqProofs (disch:=first|omega|(simp only[LnZ];omega))[wrap64,F.on H,H.sw5.bxld0,H.rep.I]
 refine H.storeF (s.cnt+1) (i:=a) (by omega) rfl rfl ⟨by omega,by omega⟩ rfl fun h2 H=>?_
 have H:=H.sw1
 simp -implicitDefEqProofs (disch:=first|omega|(simp only[LnZ];omega))[wrap64,F.on H,H.sw5.bxld0,H.rep.I]
 refine H.storeF (s.cnt+1) (i:=a) (by omega) rfl rfl ⟨by omega,by omega⟩ rfl fun h3 H=>?_
 have H:=H.sw1
 simp -implicitDefEqProofs (disch:=first|omega|(simp only[LnZ];omega))[wrap64,F.on H,H.sw4.bxld0]
 refine H.sw3.app1 (a:Int) rfl rfl rfl ⟨by omega,by omega⟩ rfl rfl (by simp;omega) (by simp;omega) fun vs1 h4 H=>?_
 have H:=H.bk3
 simp -implicitDefEqProofs (disch:=first|omega|(simp only[LnZ];omega))[wrap64,F.on H]
 refine H.sw4.bxst (u:=vs1) rfl rfl (by rw[H.sw3.rep.cells];rfl) (by rw[H.sw3.rep.cells];simp[H.sw3.rep.one]) (by simp[H.sw3.rep.cells]) fun h5 H=>?_
 have H:HS g [ow vn (N.set a (s.cnt+1)),ow vl (L.set a (s.cnt+1)),ow vq Q,ow vs1 ((s.push a).stk.map Int.ofNat),bx bS [vs1],bx bC [.int .i64 (s.cnt+1)],bx bP [.int .i64 s.prt]] h5:=by
  simpa[setC,H.sw4.rep.cells,TS.push] using H.bk4
 have hl1:CHl n (N.set a (s.cnt+1)) (L.set a (s.cnt+1)) Q (s.push a):=by
  refine⟨by simpa using hNl,by simpa using hLl,hQl,by rw[gd_set (by omega),← hl.num];rfl,by rw[gd_set (by omega),← hl.low];rfl,hl.part,?_⟩
  have h1:unv n (s.push a).num<unv n s.num:=by
   refine unv_lt han ha0 (by simp[TS.push];omega) fun x hx hx0=>?_
   by_cases e:x=a
   ·exact absurd ha0 (e▸hx0)
   ·simp only[TS.push,fput_ne e];exact hx0
  show s.cnt+1+(unv n (s.push a).num:Int)≤n
  omega
 have hT:=TL.start hE hI han ha0 hg1
 simp -implicitDefEqProofs (disch:=first|omega|(simp only[LnZ];omega))[wrap64,F.on H,(Rw.on H).X (n:=1) rfl,hload_le H.base hu0,Ru.len]
 refine wp_count G[a].length (fun j e h'=>e=[some (.int .i64 a),none,some (.pointer (some ⟨bN,0,none⟩)),some (.pointer (some ⟨bL,0,none⟩)),some (.pointer (some ⟨bS,0,none⟩)),none,some (.pointer (some ⟨bV,0,none⟩)),some (.pointer (some ⟨bQ,0,none⟩)),some (.pointer (some ⟨bP,0,none⟩)),none,none,some u,some (.int .i64 G[a].length),some (.int .i64 j)] ∧
  ∃s1,CH g vn vl vq bS bC bP n s1 h'∧TL n E gr s a (fun y=>∃(j':Nat) (hj':j'<G[a].length),j'<j∧G[a][j']=y) s1) ⟨by simp,_,⟨_,_,_,_,hl1,H⟩,hT.mono fun y ⟨_,_,h0,_⟩=>absurd h0 (Nat.not_lt_zero _)⟩ ?_
 clear hl1 hT H hl
 rintro J j _ h6 hJ hj ⟨rfl,s1,⟨N,L,Q,vs,hl,H⟩,hT⟩
 have hNl:=hl.hN
 have hLl:=hl.hL
 have hQl:=hl.hQ
 simp -implicitDefEqProofs (disch:=omega)[wrap64]
 refine IteW.mk (fun hlt=>?_) (fun hge=>?_)
 ·have hjl:j<G[a].length:=by omega
  obtain⟨y,hy,hxy,hyG⟩:=hG.get haG hjl
  have hyn:y<n:=by omega
  have hsc:∀z:Nat,(∃(j':Nat) (hj':j'<G[a].length),j'<j+1∧G[a][j']=z)→(∃(j':Nat) (hj':j'<G[a].length),j'<j∧G[a][j']=z)∨z=y:=by
   rintro z ⟨j',hj',h1,h2⟩
   by_cases e:j'=j
   ·subst e;exact .inr (by omega)
   ·exact .inl ⟨j',hj',by omega,h2⟩
  have hNy:s1.num y=N[y]'(by omega):=by rw[hl.num,gd_get]
  have hQy:s1.part y=Q[y]'(by omega):=by rw[hl.part,gd_get]
  have hLa:s1.low a=L[a]'(by omega):=by rw[hl.low,gd_get]
  by_cases hy0:N[y]'(by omega)=0
  ·have hy0':s1.num y=0:=by rw[hNy,hy0]
   have hgray:=hT.gray hxy hI hg2 han
   have hlt2:unv n s1.num<m:=by
    rw[← hm]
    refine unv_lt han ha0 (by rw[hT.na];omega) fun x hx hx0=>?_
    rw[(hT.num x hx hx0).1];exact hx0
   simp -implicitDefEqProofs (disch:=first|omega|(simp only[LnZ];omega))[wrap64,(Ru.on H).I,hy,F.on H,H.rep.I,hy0,hfv]
   refine (ih (unv n s1.num) hlt2 _ s1 y _ rfl ⟨N,L,Q,vs,hl,H⟩ hT.inv hyn hy0' hgray.1 hgray.2.1).go ?_
   clear H hl hNy hQy hLa
   rintro u' h7 ⟨s2,⟨N2,L2,Q2,vs2,hl,H⟩,hV⟩
   have hLl2:=hl.hL
   have hLa:L2[a]'(by omega)=s2.low a:=by rw[hl.low,gd_get]
   have hLy:L2[y]'(by omega)=s2.low y:=by rw[hl.low,gd_get]
   have H:=H.sw1
   have hla:=H.rep.okI (i:=a) (by omega)
   have hly:=H.rep.okI (i:=y) (by omega)
   simp -implicitDefEqProofs (disch:=first|omega|(simp only[LnZ];omega))[wrap64,F.on H,H.rep.I,ite_min]
   refine H.storeF (min (L2[a]'(by omega)) (L2[y]'(by omega))) (i:=a) (by omega) rfl rfl ⟨by omega,by omega⟩ rfl fun h8 H=>?_
   simp -implicitDefEqProofs (disch:=omega)[wrap64]
   refine hJ _ _ hjl ⟨rfl,s2.lower a (s2.low y),⟨N2,L2.set a (min (L2[a]'(by omega)) (L2[y]'(by omega))),Q2,vs2,⟨hl.hN,by simpa using hLl2,hl.hQ,hl.num,?_,hl.part,hl.cnt⟩,H.sw1⟩,(hT.visit hxy hE ha0 hI hy0' hV).mono hsc⟩
   rw[gd_set (by omega),← hl.low,hLa,hLy]
   rfl
  ·have hy0':s1.num y≠0:=by rw[hNy];exact hy0
   by_cases hp:Q[y]'(by omega)<0
   ·have hl2:(L[a]'(by omega))=s1.low a:=hLa.symm
    have H1:=H.sw1
    have hla:=H1.rep.okI (i:=a) (by omega)
    have hny:=H.rep.okI (i:=y) (by omega)
    simp -implicitDefEqProofs (disch:=first|omega|(simp only[LnZ];omega))[wrap64,(Ru.on H).I,hy,F.on H,H.rep.I,hy0,H.sw2.rep.I,hp,H.sw1.rep.I,ite_min]
    refine H1.storeF (min (L[a]'(by omega)) (N[y]'(by omega))) (i:=a) (by omega) rfl rfl ⟨by omega,by omega⟩ rfl fun h8 H=>?_
    simp -implicitDefEqProofs (disch:=omega)[wrap64]
    refine hJ _ _ hjl ⟨rfl,s1.lower a (s1.num y),⟨N,L.set a (min (L[a]'(by omega)) (N[y]'(by omega))),Q,vs,⟨hl.hN,by simpa using hLl,hl.hQ,hl.num,?_,hl.part,hl.cnt⟩,H.sw1⟩,(hT.seen hxy hE ha0 hI hy0' (by rw[hQy];exact hp)).mono hsc⟩
    rw[gd_set (by omega),← hl.low,hl2,← hNy]
    rfl
   ·simp -implicitDefEqProofs (disch:=first|omega|(simp only[LnZ];omega))[wrap64,(Ru.on H).I,hy,F.on H,H.rep.I,hy0,H.sw2.rep.I,hp]
    exact hJ _ _ hjl ⟨rfl,s1,⟨N,L,Q,vs,hl,H⟩,(hT.skip hI hyn hy0' (by rw[hQy];omega)).mono hsc⟩
 have hall:∀y,E a y→∃(j':Nat) (hj':j'<G[a].length),j'<j∧G[a][j']=y:=by
  intro y hxy
  obtain⟨_,j',hj',h1⟩:=hG.of hxy
  exact⟨j',hj',by omega,h1⟩
 have hLa:s1.low a=L[a]'(by omega):=by rw[hl.low,gd_get]
 have hNa:s1.num a=N[a]'(by omega):=by rw[hl.num,gd_get]
 have hc1:=hT.inv.cnt
 by_cases he:L[a]'(by omega)=N[a]'(by omega)
 case neg=>
  simp -implicitDefEqProofs (disch:=first|omega|(simp only[LnZ];omega))[wrap64,F.on H,H.rep.I,H.sw1.rep.I,he]
  exact RetK.keep (hk _ _ ⟨s1,⟨N,L,Q,vs,hl,H⟩,hT.end1 hall han ha0 hI (by rw[hLa,hNa];exact he)⟩)
 obtain⟨wl,hw,hw2⟩:=hT.stk
 have hlen:s1.stk.length=s.stk.length+(a::wl).length:=by rw[hw];simp
 have hcl:s1.cnt≤n:=by have:=hl.cnt;omega
 have hpr:∀x∈a::wl,x<n:=fun x hx=>hT.inv.stk_lt (by rw[hw];exact List.mem_append_right _ hx)
 simp -implicitDefEqProofs (disch:=first|omega|(simp only[LnZ];omega))[wrap64,F.on H,H.rep.I,H.sw1.rep.I,he]
 refine wp_while (σ:=Nat) (fun m e h'=>m≤(a::wl).length∧e=[some (.int .i64 a),none,none,none,some (.pointer (some ⟨bS,0,none⟩)),none,none,some (.pointer (some ⟨bQ,0,none⟩)),some (.pointer (some ⟨bP,0,none⟩)),none,some (.int .i64 (topv (a::wl) m)),none,none,none] ∧
   ∃Q' vs',Q'.length=n∧gd Q'=(fun x=>if x∈(a::wl).drop m then s1.prt else s1.part x)∧HS g [ow vn N,ow vl L,ow vq Q',ow vs' ((s.stk++(a::wl).take m).map Int.ofNat),bx bS [vs'],bx bC [.int .i64 s1.cnt],bx bP [.int .i64 s1.prt]] h')
  (fun m=>m) (a::wl).length ⟨Nat.le_refl _,by simp[topv],Q,vs,hQl,by rw[List.drop_length];simp[hl.part],by rw[List.take_length,← hw];exact H⟩ ?_
 rintro J2 m _ h7 hJ2 ⟨hml,rfl,Q',vs',hQl',hQ',H⟩
 cases m with
 | zero=>
  have ht:topv (a::wl) 0=a:=by simp[topv]
  simp -implicitDefEqProofs (disch:=first|omega|(simp only[LnZ];omega))[wrap64,ht,H.sw6.bxld0]
  refine H.sw6.bxst (u:=.int .i64 (s1.prt+1)) rfl rfl rfl rfl (by simp) fun h8 H=>?_
  have H:HS g (bx bP [.int .i64 (s1.prt+1)]::ow vn N::ow vl L::ow vq Q'::ow vs' (s.stk.map Int.ofNat)::bx bS [vs']::[bx bC [.int .i64 s1.cnt]]) h8:=by
   simpa[setC] using H
  have H:=H.bk6
  simp -implicitDefEqProofs (disch:=omega)[wrap64]
  exact RetK.keep (hk _ _ ⟨s1.pop s.stk (a::wl),⟨N,L,Q',vs',⟨hl.hN,hl.hL,hQl',hl.num,hl.low,by rw[hQ'];rfl,hl.cnt⟩,H⟩,hT.end2 hE hall han ha0 hI hg2 (by rw[hLa,hNa];exact he) hw⟩)
 | succ m=>
  have hmC:m<(a::wl).length:=by omega
  obtain⟨c,hc'⟩:∃c,(a::wl)[m]=c:=⟨_,rfl⟩
  have hcn:c<n:=hpr c (hc' ▸ List.getElem_mem hmC)
  have ht:¬(topv (a::wl) (m+1)=a):=by
   unfold topv
   split
   ·rename_i hlt2
    simp only[List.getElem_cons_succ]
    have hm2:m<wl.length:=by simpa using hlt2
    have:=(hw2 _ (List.getElem_mem hm2)).2
    omega
   ·omega
  have htm:topv (a::wl) m=c:=by simp only[topv,hmC,dif_pos,hc']
  obtain⟨W,hW⟩:∃W,W=(s.stk++(a::wl).take m).map Int.ofNat:=⟨_,rfl⟩
  have hst:(s.stk++(a::wl).take (m+1)).map Int.ofNat=W++[(c:Int)]:=by
   rw[hW,List.take_add_one,List.getElem?_eq_getElem hmC,hc']
   simp
  have hWl:W.length=s.stk.length+m:=by
   rw[hW]
   simp at hml ⊢
   omega
  rw[hst] at H
  obtain⟨v',hv',H'⟩:=H.sw3.cut (n:=W.length) (esz:=1) (k:=.i64) (by simp)
  rw[List.take_left' rfl] at H'
  have hlen1:(W++[(c:Int)]).length=W.length+1:=by simp
  have hi1:IntKind.i64.wrap ((W.length:Int)+1-1)=W.length:=by rw[wrap64 (by omega) (by omega)];omega
  have H':=H'.bk3
  simp -implicitDefEqProofs (disch:=first|omega|(simp only[LnZ];omega))[wrap64,ht,H.sw4.bxld0,H.sw3.rep.I,hlen1,hi1,hv']
  refine H'.sw4.bxst (u:=v') rfl rfl (by rw[H'.sw3.rep.cells];rfl) (by rw[H'.sw3.rep.cells];simp[H'.sw3.rep.one]) (by simp[H'.sw3.rep.cells]) fun h8 H=>?_
  have H:HS g [ow vn N,ow vl L,ow vq Q',ow v' W,bx bS [v'],bx bC [.int .i64 s1.cnt],bx bP [.int .i64 s1.prt]] h8:=by
   simpa[setC,H'.sw3.rep.cells] using H.bk4
  have hQb:=hT.inv.bnd a han
  simp -implicitDefEqProofs (disch:=first|omega|(simp only[LnZ];omega))[wrap64,F.on H,H.sw6.bxld0,H.sw2.rep.I]
  refine H.sw2.storeF s1.prt (i:=c) (by omega) rfl rfl ⟨by omega,by omega⟩ rfl fun h9 H=>?_
  have H:=H.bk2
  simp -implicitDefEqProofs (disch:=omega)[wrap64]
  refine hJ2 m _ _ (by omega) ⟨by omega,by rw[htm],Q'.set c s1.prt,v',by simpa using hQl',?_,by rw[← hW];exact H⟩
  rw[gd_set (by omega),hQ']
  funext x
  rw[List.drop_eq_getElem_cons hmC,hc']
  by_cases e:x=c
  ·subst e;simp
  ·simp only[fput_ne e,List.mem_cons,e,false_or]
theorem HS.only {g h:Heap}{Γ:List HP}{p:HP}(H:HS g (p::Γ) h):HS g [p] h:=by
 obtain⟨g',r,e,d,hp,H⟩:=H
 exact⟨g',r,e,d,hp,H.base⟩
structure NmI (n:Nat) (f:Nat→Int) (i:Nat) (l:List (Int×Int)) (Q:List Int):Prop where
 len:Q.length=n
 le:l.length≤i
 done:∀x,x<i→mlk l (f x)=some (gd Q x)
 rest:∀x,i≤x→x<n→gd Q x=f x
 bnd:∀a y,mlk l a=some y→0≤y∧y<l.length
 inj:∀a b y,mlk l a=some y→mlk l b=some y→a=b
theorem NmI.old {n:Nat}{f:Nat→Int}{i:Nat}{l:List (Int×Int)}{Q:List Int}{y:Int}(h:NmI n f i l Q) (hi:i<n) (hy:mlk l (f i)=some y):NmI n f (i+1) l (Q.set i y):=by
 have hl:=h.len
 refine⟨by simpa using hl,by have:=h.le;omega,?_,?_,h.bnd,h.inj⟩
 ·intro x hx
  rw[gd_set (by omega)]
  by_cases e:x=i
  ·subst e;simp[hy]
  ·rw[fput_ne e];exact h.done x (by omega)
 ·intro x hx hxn
  rw[gd_set (by omega),fput_ne (by omega)]
  exact h.rest x (by omega) hxn
theorem NmI.new {n:Nat}{f:Nat→Int}{i:Nat}{l:List (Int×Int)}{Q:List Int}(h:NmI n f i l Q) (hi:i<n) (hy:mlk l (f i)=none):NmI n f (i+1) (l++[(f i,(l.length:Int))]) (Q.set i (l.length:Int))∧mlk (l++[(f i,(l.length:Int))]) (f i)=some (l.length:Int):=by
 have hl:=h.len
 have hs:=fun b=>mlk_snoc (y:=(l.length:Int)) (b:=b) hy
 refine⟨⟨by simpa using hl,by have:=h.le;simp;omega,?_,?_,?_,?_⟩,by rw[hs,if_pos rfl]⟩
 ·intro x hx
  rw[gd_set (by omega),hs]
  by_cases e:x=i
  ·subst e;simp
  ·rw[fput_ne e]
   have h1:=h.done x (by omega)
   rw[if_neg]
   ·exact h1
   ·intro e2;rw[← e2,hy] at h1;simp at h1
 ·intro x hx hxn
  rw[gd_set (by omega),fput_ne (by omega)]
  exact h.rest x (by omega) hxn
 ·intro a y ha
  rw[hs] at ha
  split at ha
  ·simp at ha;subst ha;simp;omega
  ·have:=h.bnd a y ha;simp;omega
 ·intro a b y ha hb
  rw[hs] at ha hb
  split at ha
  ·simp at ha
   split at hb
   ·rename_i e1 e2;rw[← e1,← e2]
   ·have:=h.bnd b y hb;omega
  ·split at hb
   ·simp at hb
    have:=h.bnd a y ha;omega
   ·exact h.inj a b y ha hb
theorem NmI.result {n:Nat}{f:Nat→Int}{l:List (Int×Int)}{Q:List Int}(h:NmI n f n l Q):(∀x,x<n→0≤gd Q x∧gd Q x<n)∧∀x y,x<n→y<n→(gd Q x=gd Q y↔f x=f y):=by
 refine⟨fun x hx=>?_,fun x y hx hy=>⟨fun e=>?_,fun e=>?_⟩⟩
 ·have:=h.bnd _ _ (h.done x hx)
  have:=h.le
  omega
 ·have h1:=h.done x hx
  have h2:=h.done y hy
  rw[e] at h1
  exact h.inj _ _ _ h1 h2
 ·have h1:=h.done x hx
  have h2:=h.done y hy
  rw[e,h2] at h1
  simpa using h1.symm
set_option maxHeartbeats 4000000 in
theorem c_components {h:Heap}{w:Value}{G:List (List Int)}{E:Nat→Nat→Prop}(Rw:Rep h w G) (hG:Adj E G) (hnl:G.length≤1048576) :
  CallE Tryz.prog fn_impl_components [w] h (fun u h'=>∃Q:List Int,HS h [ow u Q] h'∧Q.length=G.length∧(∀x,x<G.length→0≤gd Q x∧gd Q x<G.length)∧∀x y,x<G.length→y<G.length→(gd Q x=gd Q y↔Scc E x y)):=by
 refine CallE.gen fun k hk=>EN_impl_components rfl ?_
 simp -implicitDefEqProofs (disch:=omega)[wrap64]
 refine HS.init.alloc rfl fun bG h1 H=>?_
 have H:HS h [bx bG [w]] h1:=by simpa[Rw.cells] using H
 simp -implicitDefEqProofs (disch:=first|omega|(simp only[LnZ];omega))[wrap64,H.bxld0,Rw.len]
 refine H.mks (α:=Int) (z:=0) rfl rfl (own_zero (by decide) (by decide)) (Nat.le_refl _) (by omega) (by omega) fun vn h2 H=>?_
 simp -implicitDefEqProofs (disch:=omega)[wrap64]
 refine H.mks (α:=Int) (z:=0) rfl rfl (own_zero (by decide) (by decide)) (Nat.le_refl _) (by omega) (by omega) fun vl h3 H=>?_
 simp -implicitDefEqProofs (disch:=omega)[wrap64]
 refine H.mks (α:=Int) (z:=0) rfl rfl (own_zero (by decide) (by decide)) (Nat.le_refl _) (by omega) (by omega) fun vq h4 H=>?_
 simp -implicitDefEqProofs (disch:=omega)[wrap64]
 refine H.alloc rfl fun bN h5 H=>?_
 simp -implicitDefEqProofs (disch:=omega)[wrap64]
 refine H.alloc rfl fun bL h6 H=>?_
 simp -implicitDefEqProofs (disch:=omega)[wrap64]
 refine H.alloc rfl fun bQ h7 H=>?_
 simp -implicitDefEqProofs (disch:=omega)[wrap64]
 have R0:=H.sw3.rep
 have R1:=H.sw4.rep
 have R2:=H.sw5.rep
 refine H.sw2.bxst (u:=vn) rfl rfl (by rw[R2.cells];rfl) (by rw[R2.cells];simp[R2.one]) (by simp[R2.cells]) fun h8 H=>?_
 simp -implicitDefEqProofs (disch:=omega)[wrap64]
 refine H.sw2.bxst (u:=vl) rfl rfl (by rw[R1.cells];rfl) (by rw[R1.cells];simp[R1.one]) (by simp[R1.cells]) fun h9 H=>?_
 simp -implicitDefEqProofs (disch:=omega)[wrap64]
 refine H.sw2.bxst (u:=vq) rfl rfl (by rw[R0.cells];rfl) (by rw[R0.cells];simp[R0.one]) (by simp[R0.cells]) fun h10 H=>?_
 have H:HS h [bx bQ [vq],bx bL [vl],bx bN [vn],ow vq (List.replicate G.length (0:Int)),ow vl (List.replicate G.length (0:Int)),ow vn (List.replicate G.length (0:Int)),bx bG [w]] h10:=by
  simpa[setC,R0.cells,R1.cells,R2.cells] using H
 have H:=H.sw3
 simp -implicitDefEqProofs (disch:=first|omega|(simp only[LnZ];omega))[wrap64,H.sw1.bxld0,H.rep.len]
 refine wp_count G.length (fun i e h'=>e=[none,some (.pointer (some ⟨bG,0,none⟩)),none,some (.int .i64 G.length),some (.pointer (some ⟨bN,0,none⟩)),some (.pointer (some ⟨bL,0,none⟩)),some (.pointer (some ⟨bQ,0,none⟩)),none,none,none,none,none,none,none,none,none,none,some (.int .i64 G.length),some (.int .i64 i),none,none,none,none,none] ∧
  ∃Q:List Int,HS h [ow vq Q,bx bQ [vq],bx bL [vl],bx bN [vn],ow vl (List.replicate G.length (0:Int)),ow vn (List.replicate G.length (0:Int)),bx bG [w]] h'∧Q.length=G.length∧∀x,x<i→gd Q x = -1) ⟨by simp,_,H,by simp,fun x hx=>absurd hx (Nat.not_lt_zero x)⟩ ?_
 clear H
 rintro J i _ h11 hJ hi ⟨rfl,Q,H,hQl,hQ⟩
 simp -implicitDefEqProofs (disch:=omega)[wrap64]
 refine IteW.mk (fun hlt=>?_) (fun hge=>?_)
 ·have hin:i<G.length:=by omega
  simp -implicitDefEqProofs (disch:=first|omega|(simp only[LnZ];omega))[wrap64,H.sw1.bxld0,H.rep.I]
  refine H.storeF (-1) (i:=i) (by omega) rfl rfl ⟨by decide,by decide⟩ rfl fun h12 H=>?_
  simp -implicitDefEqProofs (disch:=omega)[wrap64]
  refine hJ _ _ hin ⟨rfl,_,H,by simpa using hQl,fun x hx=>?_⟩
  rw[gd_set (by omega)]
  by_cases e:x=i
  ·subst e;simp
  ·rw[fput_ne e];exact hQ x (by omega)
 have hin:i=G.length:=by omega
 subst hin
 simp -implicitDefEqProofs (disch:=omega)[wrap64]
 refine H.alloc rfl fun bS h12 H=>?_
 simp -implicitDefEqProofs (disch:=omega)[wrap64]
 refine H.alloc rfl fun bC h13 H=>?_
 simp -implicitDefEqProofs (disch:=omega)[wrap64]
 refine H.alloc rfl fun bP h14 H=>?_
 simp -implicitDefEqProofs (disch:=omega)[wrap64]
 refine H.sw1.bxst (u:=.int .i64 0) rfl rfl rfl rfl (by simp) fun h15 H=>?_
 simp -implicitDefEqProofs (disch:=omega)[wrap64]
 refine H.sw1.bxst (u:=.int .i64 0) rfl rfl rfl rfl (by simp) fun h16 H=>?_
 simp -implicitDefEqProofs (disch:=omega)[wrap64]
 refine H.alloc rfl fun bV h17 H=>?_
 simp -implicitDefEqProofs (disch:=omega)[wrap64]
 obtain⟨fv,hfv⟩:∃fv,fv=Value.func (.func fn_impl_components_1) #[] #[.pointer (some ⟨bC,0,none⟩),.pointer (some ⟨bN,0,none⟩),.pointer (some ⟨bL,0,none⟩),.pointer (some ⟨bS,0,none⟩),.pointer (some ⟨bG,0,none⟩),.pointer (some ⟨bV,0,none⟩),.pointer (some ⟨bQ,0,none⟩),.pointer (some ⟨bP,0,none⟩)]:=⟨_,rfl⟩
 have hfn:fnOf fv=some (fn_impl_components_1,[],[.pointer (some ⟨bC,0,none⟩),.pointer (some ⟨bN,0,none⟩),.pointer (some ⟨bL,0,none⟩),.pointer (some ⟨bS,0,none⟩),.pointer (some ⟨bG,0,none⟩),.pointer (some ⟨bV,0,none⟩),.pointer (some ⟨bQ,0,none⟩),.pointer (some ⟨bP,0,none⟩)]):=by subst hfv;rfl
 have hfc:fv.cells = #[fv]:=by subst hfv;rfl
 have hf1:fv.oneCell'=true:=by subst hfv;rfl
 rw[← hfv]
 refine H.bxst (u:=fv) rfl rfl (by rw[hfc];rfl) (by rw[hfc];simp[hf1]) (by simp) fun h18 H=>?_
 have H:HS h [bx bV [fv],bx bP [.int .i64 0],bx bC [.int .i64 0],bx bS [.slice none 0 0],ow vq Q,bx bQ [vq],bx bL [vl],bx bN [vn],ow vl (List.replicate G.length (0:Int)),ow vn (List.replicate G.length (0:Int)),bx bG [w]] h18:=by
  simpa[setC,hfc] using H
 have H:=H.nil_ow (α:=Int)
 have H:=H.sw1.sw11.sw7.sw8.sw9.sw6.sw7.sw8.sw8.sw9.sw10.sw11
 obtain⟨g1,H0,H⟩:=HS.rebase (Δ:=[ow vn (List.replicate G.length (0:Int)),ow vl (List.replicate G.length (0:Int)),ow vq Q,ow (.slice none 0 0) ([]:List Int),bx bS [.slice none 0 0],bx bC [.int .i64 0],bx bP [.int .i64 0]]) (Γ:=[bx bN [vn],bx bL [vl],bx bQ [vq],bx bG [w],bx bV [fv]]) H
 have F:FB bN bL bQ bG bV vn vl vq w fv g1:=⟨H0.bxld0,H0.sw1.bxld0,H0.sw2.bxld0,H0.sw3.bxld0,H0.sw4.bxld0⟩
 have Rw1:=Rw.on H0
 have hg0:∀x,gd (List.replicate G.length (0:Int)) x=0:=by
  intro x
  simp only[gd,List.getD_eq_getElem?_getD,List.getElem?_replicate]
  split<;>rfl
 have hE:=hG.lt
 have hC0:∃s,CH g1 vn vl vq bS bC bP G.length s h18∧TI G.length E (fun _=>False) s∧∀x,x<0→s.num x≠0:=by
  refine⟨⟨gd (List.replicate G.length (0:Int)),gd (List.replicate G.length (0:Int)),gd Q,[],0,0⟩,⟨_,_,Q,.slice none 0 0,⟨by simp,by simp,hQl,rfl,rfl,rfl,?_⟩,H⟩,TI.start (fun x _=>hg0 x) (fun x hx=>hQ x hx) rfl rfl rfl,fun x hx=>absurd hx (Nat.not_lt_zero x)⟩
  have:=List.length_filter_le (fun x=>decide (x<G.length∧gd (List.replicate G.length (0:Int)) x=0)) (List.range G.length)
  simp only[List.length_range] at this
  show (0:Int)+((unv G.length (gd (List.replicate G.length (0:Int))):Nat):Int)≤_
  unfold unv
  omega
 simp -implicitDefEqProofs (disch:=omega)[wrap64]
 refine wp_count G.length (fun i e h'=>e=[none,none,none,none,some (.pointer (some ⟨bN,0,none⟩)),none,some (.pointer (some ⟨bQ,0,none⟩)),none,none,none,none,some (.pointer (some ⟨bV,0,none⟩)),none,none,none,none,none,none,none,some (.int .i64 G.length),some (.int .i64 i),none,none,none] ∧
  ∃s,CH g1 vn vl vq bS bC bP G.length s h'∧TI G.length E (fun _=>False) s∧∀x,x<i→s.num x≠0) ⟨by simp,hC0⟩ ?_
 clear H hC0 hQ hQl hJ
 rintro J2 i _ h19 hJ2 hi2 ⟨rfl,s,⟨N,L,Q,vs,hl,H⟩,hI,hv⟩
 have hNl:=hl.hN
 simp -implicitDefEqProofs (disch:=omega)[wrap64]
 refine IteW.mk (fun hlt2=>?_) (fun hge2=>?_)
 ·have hin:i<G.length:=by omega
  have hNi:s.num i=N[i]'(by omega):=by rw[hl.num,gd_get]
  by_cases h0:N[i]'(by omega)=0
  ·simp -implicitDefEqProofs (disch:=first|omega|(simp only[LnZ];omega))[wrap64,F.on H,H.rep.I,h0,hfn]
   refine (c_visit F Rw1 hG rfl hnl hfn _ (fun _=>False) s i _ rfl ⟨N,L,Q,vs,hl,H⟩ hI hin (by rw[hNi,h0]) (fun _ h=>h.elim) (fun _ h=>h.elim)).go ?_
   rintro u h20 ⟨s2,hC2,hV⟩
   simp -implicitDefEqProofs (disch:=omega)[wrap64]
   refine hJ2 _ _ hin ⟨rfl,s2,hC2,hV.inv,fun x hx=>?_⟩
   by_cases e:x=i
   ·subst e;exact hV.vis
   ·have h1:=hv x (by omega)
    rw[(hV.num x (by omega) h1).1];exact h1
  ·simp -implicitDefEqProofs (disch:=first|omega|(simp only[LnZ];omega))[wrap64,F.on H,H.rep.I,h0]
   refine hJ2 _ _ hin ⟨rfl,s,⟨N,L,Q,vs,hl,H⟩,hI,fun x hx=>?_⟩
   by_cases e:x=i
   ·subst e;rw[hNi];exact h0
   ·exact hv x (by omega)
 have hin:i=G.length:=by omega
 subst hin
 obtain⟨hr1,hr2⟩:=hI.result hv
 have hQl:=hl.hQ
 have H:=H.sw2.only
 simp -implicitDefEqProofs (disch:=omega)[wrap64]
 refine H.mkm (fun n:Int=>.int .i64 n) (fun n:Int=>.int .i64 n) fun bm h20 H=>?_
 have H:=H.sw1
 simp -implicitDefEqProofs (disch:=first|omega|(simp only[LnZ];omega))[wrap64,F.on H,H.rep.len]
 refine wp_count G.length (fun i e h'=>e=[none,none,none,none,none,none,some (.pointer (some ⟨bQ,0,none⟩)),none,none,none,none,none,none,some (.map (some bm)),none,none,none,none,none,none,none,some vq,some (.int .i64 G.length),some (.int .i64 i)] ∧
  ∃(l:List (Int×Int)) (Q:List Int),HS g1 [ow vq Q,mpo (fun n:Int=>.int .i64 n) (fun n:Int=>.int .i64 n) bm l] h'∧NmI G.length s.part i l Q) ⟨by simp[hQl],[],Q,H,hQl,by simp,fun x hx=>absurd hx (Nat.not_lt_zero x),fun x _ _=>by rw[hl.part],fun a y h=>by simp[mlk_nil] at h,fun a b y h=>by simp[mlk_nil] at h⟩ ?_
 clear H hQl hl
 rintro J3 i _ h21 hJ3 hi3 ⟨rfl,l,Q,H,hM⟩
 have hQl:=hM.len
 have hle:=hM.le
 simp -implicitDefEqProofs (disch:=omega)[wrap64]
 refine IteW.mk (fun hlt3=>?_) (fun hge3=>?_)
 ·have hin:i<G.length:=by omega
  have hQi:Q[i]'(by omega)=s.part i:=by rw[← gd_get,hM.rest i (Nat.le_refl _) hin]
  simp -implicitDefEqProofs (disch:=first|omega|(simp only[LnZ];omega))[wrap64,H.rep.I,hQi]
  refine H.sw1.mget (a:=s.part i) rfl rfl keyEq_int ?_
  cases hlk:mlk l (s.part i) with
  | some y=>
   have hyb:=hM.bnd _ _ hlk
   simp -implicitDefEqProofs (disch:=first|omega|(simp only[LnZ];omega))[wrap64,F.on H]
   refine H.sw1.mget (a:=s.part i) rfl rfl keyEq_int ?_
   rw[hlk]
   simp -implicitDefEqProofs (disch:=first|omega|(simp only[LnZ];omega))[wrap64,F.on H,H.rep.I]
   refine H.storeF y (i:=i) (by omega) rfl rfl ⟨by omega,by omega⟩ rfl fun h22 H=>?_
   simp -implicitDefEqProofs (disch:=omega)[wrap64]
   exact hJ3 _ _ hin ⟨rfl,l,_,H,hM.old hin hlk⟩
  | none=>
   obtain⟨hn1,hn2⟩:=hM.new hin hlk
   simp -implicitDefEqProofs (disch:=omega)[wrap64]
   refine H.sw1.mlen rfl ?_
   simp -implicitDefEqProofs (disch:=omega)[wrap64]
   refine H.sw1.mput (a:=s.part i) (v:=(l.length:Int)) rfl rfl rfl keyEq_int hlk fun h22 H=>?_
   simp -implicitDefEqProofs (disch:=first|omega|(simp only[LnZ];omega))[wrap64,F.on H]
   refine H.mget (a:=s.part i) rfl rfl keyEq_int ?_
   rw[hn2]
   have H:=H.sw1
   simp -implicitDefEqProofs (disch:=first|omega|(simp only[LnZ];omega))[wrap64,F.on H,H.rep.I]
   refine H.storeF (l.length:Int) (i:=i) (by omega) rfl rfl ⟨by omega,by omega⟩ rfl fun h23 H=>?_
   simp -implicitDefEqProofs (disch:=omega)[wrap64]
   exact hJ3 _ _ hin ⟨rfl,_,_,H,hn1⟩
 have hin:i=G.length:=by omega
 subst hin
 simp -implicitDefEqProofs (disch:=first|omega|(simp only[LnZ];omega))[wrap64,F.on H]
 obtain⟨hb,hc⟩:=hM.result
 have Hf:=(H.app H0).only
 exact RetK.keep (hk _ _ ⟨Q,Hf,hQl,hb,fun x y hx hy=>by rw[hc x y hx hy,hr2 x y hx hy]⟩)
def cntP (Q:List Int) (i:Nat) (p:Int):Nat:=((List.range i).filter fun y=>decide (gd Q y=p)).length
theorem cntP_succ {Q:List Int}{i:Nat}{p:Int}:cntP Q (i+1) p=cntP Q i p+if gd Q i=p then 1 else 0:=by
 simp only[cntP,List.range_succ,List.filter_append,List.length_append,List.filter_cons,List.filter_nil]
 by_cases h:gd Q i=p<;>simp[h]
theorem cntP_le {Q:List Int}{i:Nat}{p:Int}:cntP Q i p≤i:=by
 have:=List.length_filter_le (fun y=>decide (gd Q y=p)) (List.range i)
 simpa[cntP] using this
theorem c_cyclic {h:Heap}{w:Value}{G:List (List Int)}{E:Nat→Nat→Prop}(Rw:Rep h w G) (hG:Adj E G) (hnl:G.length≤1048576) :
  CallE Tryz.prog fn_impl_cyclic [w] h (fun u h'=>∃C:List Bool,HS h [ow u C] h'∧C.length=G.length∧∀x,x<G.length→(tru C x↔Cyc E x)):=by
 refine CallE.gen fun k hk=>EN_impl_cyclic rfl ?_
 simp -implicitDefEqProofs (disch:=omega)[wrap64]
 refine (c_components Rw hG hnl).go ?_
 rintro p h1 ⟨Q,H,hQl,hQb,hQ⟩
 simp -implicitDefEqProofs (disch:=first|omega|(simp only[LnZ];omega))[wrap64,(Rw.on H).len]
 refine H.mks (α:=Int) (z:=0) rfl rfl (own_zero (by decide) (by decide)) (Nat.le_refl _) (by omega) (by omega) fun z h2 H=>?_
 simp -implicitDefEqProofs (disch:=first|omega|(simp only[LnZ];omega))[wrap64,H.sw1.rep.len]
 refine wp_count G.length (fun i e h'=>e=[some w,none,some p,some z,none,none,none,some p,some (.int .i64 G.length),some (.int .i64 i),none,none]∧∃Z:List Int,HS h [ow z Z,ow p Q] h'∧Z.length=G.length∧∀x,x<G.length→gd Z x=cntP Q i x) ⟨by simp[hQl],_,H,by simp,fun x hx=>by rw[gd_get (by simpa using hx)];simp[cntP]⟩ ?_
 clear H
 rintro J i _ h3 hJ hi ⟨rfl,Z,H,hZl,hZ⟩
 simp -implicitDefEqProofs (disch:=omega)[wrap64]
 refine IteW.mk (fun hlt=>?_) (fun hge=>?_)
 ·have hin:i<G.length:=by omega
  have hq:=hQb i hin
  obtain⟨q,hqi⟩:∃q:Nat,Q[i]'(by omega)=q:=⟨(Q[i]'(by omega)).toNat,by rw[← gd_get];omega⟩
  have hqn:q<G.length:=by rw[gd_get (by omega),hqi] at hq;omega
  have hzq:Z[q]'(by omega)=cntP Q i q:=by rw[← gd_get,hZ q hqn]
  have hcl:=cntP_le (Q:=Q) (i:=i) (p:=q)
  simp -implicitDefEqProofs (disch:=first|omega|(simp only[LnZ];omega))[wrap64,H.sw1.rep.I,hqi,H.rep.I,hzq]
  refine H.storeF ((cntP Q i q:Int)+1) (i:=q) (by omega) rfl rfl ⟨by omega,by omega⟩ rfl fun h4 H=>?_
  simp -implicitDefEqProofs (disch:=omega)[wrap64]
  refine hJ _ _ hin ⟨rfl,_,H,by simpa using hZl,fun x hx=>?_⟩
  rw[gd_set (by omega),cntP_succ,gd_get (by omega),hqi]
  by_cases e:x=q
  ·subst e;simp
  ·rw[fput_ne e,hZ x hx,if_neg (by omega)];simp
 have hin:i=G.length:=by omega
 subst hin
 simp -implicitDefEqProofs (disch:=first|omega|(simp only[LnZ];omega))[wrap64,(Rw.on H).len]
 refine H.mks (α:=Bool) (z:=false) rfl rfl own_false (Nat.le_refl _) (by omega) (by omega) fun c h4 H=>?_
 simp -implicitDefEqProofs (disch:=first|omega|(simp only[LnZ];omega))[wrap64,(Rw.on H).len]
 refine wp_count G.length (fun i e h'=>e=[some w,none,some p,some z,none,some c,none,none,none,none,some (.int .i64 G.length),some (.int .i64 i)]∧∃C:List Bool,HS h [ow c C,ow z Z,ow p Q] h'∧C.length=G.length∧∀x,x<i→(tru C x↔Cyc E x)) ⟨by simp,_,H,by simp,fun x hx=>absurd hx (Nat.not_lt_zero x)⟩ ?_
 clear H hJ
 rintro J i _ h5 hJ hi ⟨rfl,C,H,hCl,hC⟩
 simp -implicitDefEqProofs (disch:=omega)[wrap64]
 refine IteW.mk (fun hlt2=>?_) (fun hge2=>?_)
 ·have hin:i<G.length:=by omega
  have hq:=hQb i hin
  obtain⟨q,hqi⟩:∃q:Nat,Q[i]'(by omega)=q:=⟨(Q[i]'(by omega)).toNat,by rw[← gd_get];omega⟩
  have hqn:q<G.length:=by rw[gd_get (by omega),hqi] at hq;omega
  have hzq:Z[q]'(by omega)=cntP Q G.length q:=by rw[← gd_get,hZ q hqn]
  have hpc:=part_cycle hQ hG.lt hin
  have hcnt:((List.range G.length).filter fun y=>decide (gd Q y=gd Q i)).length=cntP Q G.length q:=by
   rw[gd_get (by omega),hqi];rfl
  rw[hcnt] at hpc
  have hstep:∀b:Bool,(b=true↔Cyc E i)→∀x,x<i+1→(tru (C.set i b) x↔Cyc E x):=by
   intro b hb x hx
   have h1:tru (C.set i b) x↔if x=i then b=true else tru C x:=by
    simp only[tru,List.getD_eq_getElem?_getD,List.getElem?_set]
    by_cases e:i=x
    ·subst e;simp[show i<C.length by omega]
    ·simp[e,Ne.symm e]
   rw[h1]
   split
   ·rename_i e;subst e;exact hb
   ·exact hC x (by omega)
  by_cases h1:(1:Int)<cntP Q G.length q
  ·simp -implicitDefEqProofs (disch:=first|omega|(simp only[LnZ];omega))[wrap64,H.sw2.rep.I,hqi,H.sw1.rep.I,hzq,h1,H.rep.B]
   refine H.storeF true (i:=i) (by omega) rfl rfl trivial rfl fun h6 H=>?_
   simp -implicitDefEqProofs (disch:=omega)[wrap64]
   exact hJ _ _ hin ⟨rfl,_,H,by simpa using hCl,hstep true (by rw[hpc];simp;omega)⟩
  ·obtain⟨u,hu0,Ru⟩:=Rw.ldL hin
   simp -implicitDefEqProofs (disch:=first|omega|(simp only[LnZ];omega))[wrap64,H.sw2.rep.I,hqi,H.sw1.rep.I,hzq,h1,H.rep.B,(Rw.on H).X (n:=1) rfl,hload_le H.base hu0]
   refine (c_Contains_int (Ru.on H)).go ?_
   rintro _ _ ⟨rfl,rfl⟩
   simp -implicitDefEqProofs (disch:=first|omega|(simp only[LnZ];omega))[wrap64,H.rep.B]
   refine H.storeF (decide ((i:Int)∈G[i])) (i:=i) (by omega) rfl rfl trivial rfl fun h6 H=>?_
   simp -implicitDefEqProofs (disch:=omega)[wrap64]
   refine hJ _ _ hin ⟨rfl,_,H,by simpa using hCl,hstep _ ?_⟩
   rw[hpc,decide_eq_true_iff,hG.mem i hin]
   constructor
   ·rintro⟨y,h2,h3⟩
    obtain rfl:i=y:=by omega
    exact .inr h3
   ·rintro (h2 | h2)
    ·omega
    ·exact⟨i,rfl,h2⟩
 have hin:i=G.length:=by omega
 subst hin
 simp -implicitDefEqProofs (disch:=omega)[wrap64]
 exact RetK.keep (hk _ _ ⟨C,H.only,hCl,hC⟩)
theorem c_live {h:Heap}{v:Value}{a:Aut}(Ra:Rep h v a) (ha:a.Ok):CallE Tryz.prog fn_impl_Automaton_live [v] h (fun u h'=>∃L:List Bool,HS h [ow u L] h'∧L.length=a.acc.length∧∀q,tru L q↔q<a.acc.length∧a.Live q):=by
 obtain⟨v1,v2,v3,rfl,R1,R2,R3⟩:=Rep_Aut.1 Ra
 have hn:=ha.n
 refine CallE.gen fun k hk=>EN_impl_Automaton_live rfl ?_
 simp -implicitDefEqProofs (disch:=omega)[wrap64]
 refine (c_next Ra ha).go ?_
 rintro w h1 ⟨G,H,hG,hGl⟩
 simp -implicitDefEqProofs (disch:=omega)[wrap64]
 refine (c_cyclic H.rep hG (by omega)).go ?_
 rintro c h2 ⟨C,H2,hCl,hC⟩
 have H:=H2.app H
 simp -implicitDefEqProofs (disch:=first|omega|(simp only[LnZ];omega))[wrap64,H.sw1.rep.len]
 refine H.mks (α:=Bool) (z:=false) rfl rfl own_false (Nat.le_refl _) (by omega) (by omega) fun o h3 H=>?_
 simp -implicitDefEqProofs (disch:=first|omega|(simp only[LnZ];omega))[wrap64,H.sw2.rep.len]
 refine wp_count G.length (fun i e h'=>e=[none,some (.agg #[v1,v2,v3]),none,some w,some c,some o,none,none,none,some (.int .i64 G.length),some (.int .i64 i),none,none,none]∧∃L:List Bool,HS h [ow o L,ow c C,ow w G] h'∧L.length=G.length∧∀q,tru L q↔q<i∧a.Live q) ⟨by simp,_,H,by simp,fun q=>by simp[tru_replicate]⟩ ?_
 clear H
 rintro J i _ h4 hJ hi ⟨rfl,L,H,hLl,hL⟩
 simp -implicitDefEqProofs (disch:=omega)[wrap64]
 refine IteW.mk (fun hlt=>?_) (fun hge=>?_)
 ·have hin:i<G.length:=by omega
  simp -implicitDefEqProofs (disch:=omega)[wrap64]
  refine H.bls (α:=Int) [(i:Int)] (by rfl) rfl (ok_one (by omega)) (by decide) fun s h4 H=>?_
  simp -implicitDefEqProofs (disch:=omega)[wrap64]
  have hS1:∀z∈[(i:Int)],0≤z∧z<(G.length:Int):=by
   intro z hz
   have hxi:z=i:=by simpa using hz
   omega
  refine (c_reachable (S:=[(i:Int)]) H.sw3.rep H.rep hG hS1 (by simp) (by omega)).go ?_
  rintro r h5 ⟨B,H5,hBl,hB⟩
  have H:=H5.app H.drop
  simp -implicitDefEqProofs (disch:=first|omega|(simp only[LnZ];omega))[wrap64,H.rep.len]
  refine wp_count G.length (fun k e h'=>e=[none,some (.agg #[v1,v2,v3]),none,some w,some c,some o,some (.int .i64 i),none,none,some (.int .i64 G.length),some (.int .i64 i),some r,some (.int .i64 G.length),some (.int .i64 k)]∧∃(L':List Bool),HS h [ow r B,ow o L',ow c C,ow w G] h'∧L'.length=G.length∧(∀q,q≠i→(tru L' q↔q<i∧a.Live q))∧(tru L' i↔∃t,t<k∧tru B t∧tru C t∧tru a.acc t)) ⟨by simp[hBl],L,H,hLl,fun q _=>hL q,by rw[hL];simp⟩ ?_
  rintro J2 k _ h6 hJ2 hk2 ⟨rfl,L',H,hLl',hL1,hL2⟩
  simp -implicitDefEqProofs (disch:=omega)[wrap64]
  refine IteW.mk (fun hlt2=>?_) (fun hge2=>?_)
  ·have hkn:k<G.length:=by omega
   have H:=H.sw1
   have hold:tru L' i↔L'[i]'(by omega)=true:=tru_get (by omega)
   have hstep:∀b:Bool,(b=true↔tru L' i∨(tru B k∧tru C k∧tru a.acc k))→(∀q,q≠i→(tru (L'.set i b) q↔q<i∧a.Live q))∧(tru (L'.set i b) i↔∃t,t<k+1∧tru B t∧tru C t∧tru a.acc t):=by
    intro b hb
    have h1:∀x,tru (L'.set i b) x↔if x=i then b=true else tru L' x:=by
     intro x
     simp only[tru,List.getD_eq_getElem?_getD,List.getElem?_set]
     by_cases e:i=x
     ·subst e;simp[show i<L'.length by omega]
     ·simp[e,Ne.symm e]
    refine⟨fun q hq=>by rw[h1,if_neg hq];exact hL1 q hq,?_⟩
    rw[h1,if_pos rfl,hb,hL2]
    constructor
    ·rintro (⟨t,h2,h3⟩ | h3)
     ·exact⟨t,by omega,h3⟩
     ·exact⟨k,by omega,h3⟩
    ·rintro⟨t,h2,h3⟩
     by_cases e:t=k
     ·subst e;exact .inr h3
     ·exact .inl ⟨t,by omega,h3⟩
   have hgB:=tru_get (B:=B) (i:=k) (by omega)
   have hgC:=tru_get (B:=C) (i:=k) (by omega)
   have hgA:=tru_get (B:=a.acc) (i:=k) (by omega)
   have hfin:∀b:Bool,(b=true↔tru L' i∨(tru B k∧tru C k∧tru a.acc k))→∀h8,HS h [ow o (L'.set i b),ow r B,ow c C,ow w G] h8→J2 [none,some (.agg #[v1,v2,v3]),none,some w,some c,some o,some (.int .i64 i),none,none,some (.int .i64 G.length),some (.int .i64 i),some r,some (.int .i64 G.length),some (.int .i64 ((k+1:Nat):Int))] h8:=
    fun b hb h8 H=>hJ2 _ _ hkn ⟨rfl,_,H.sw1,by simpa using hLl',hstep b hb⟩
   by_cases e0:L'[i]'(by omega)=true
   ·simp -implicitDefEqProofs (disch:=first|omega|(simp only[LnZ];omega))[wrap64,H.sw1.rep.B,H.rep.B,e0]
    refine H.storeF true (i:=i) (by omega) rfl rfl trivial rfl fun h7 H=>?_
    simp -implicitDefEqProofs (disch:=omega)[wrap64]
    exact hfin true (by simp[hold,e0]) _ H
   by_cases e1:B[k]'(by omega)=true
   case neg=>
    simp -implicitDefEqProofs (disch:=first|omega|(simp only[LnZ];omega))[wrap64,H.sw1.rep.B,H.rep.B,e0,e1]
    refine H.storeF false (i:=i) (by omega) rfl rfl trivial rfl fun h7 H=>?_
    simp -implicitDefEqProofs (disch:=omega)[wrap64]
    exact hfin false (by simp[hold,e0,hgB,e1]) _ H
   by_cases e2:C[k]'(by omega)=true
   case neg=>
    simp -implicitDefEqProofs (disch:=first|omega|(simp only[LnZ];omega))[wrap64,H.sw1.rep.B,H.sw2.rep.B,H.rep.B,e0,e1,e2]
    refine H.storeF false (i:=i) (by omega) rfl rfl trivial rfl fun h7 H=>?_
    simp -implicitDefEqProofs (disch:=omega)[wrap64]
    exact hfin false (by simp[hold,e0,hgC,e2]) _ H
   by_cases e3:a.acc[k]'(by omega)=true
   ·simp -implicitDefEqProofs (disch:=first|omega|(simp only[LnZ];omega))[wrap64,H.sw1.rep.B,H.sw2.rep.B,H.rep.B,(R2.on H).B,e0,e1,e2,e3]
    refine H.storeF true (i:=i) (by omega) rfl rfl trivial rfl fun h7 H=>?_
    simp -implicitDefEqProofs (disch:=omega)[wrap64]
    exact hfin true (by simp[hgB,hgC,hgA,e1,e2,e3]) _ H
   ·simp -implicitDefEqProofs (disch:=first|omega|(simp only[LnZ];omega))[wrap64,H.sw1.rep.B,H.sw2.rep.B,H.rep.B,(R2.on H).B,e0,e1,e2,e3]
    refine H.storeF false (i:=i) (by omega) rfl rfl trivial rfl fun h7 H=>?_
    simp -implicitDefEqProofs (disch:=omega)[wrap64]
    exact hfin false (by simp[hold,e0,hgA,e3]) _ H
  ·simp -implicitDefEqProofs (disch:=omega)[wrap64]
   refine hJ _ _ hin ⟨rfl,L',H.drop,hLl',fun q=>?_⟩
   by_cases e:q=i
   ·subst e
    rw[hL2]
    constructor
    ·rintro⟨t,h1,h2,h3,h4⟩
     obtain⟨z,h5,h6⟩:=(hB t).1 h2
     obtain rfl:z=q:=by simpa[Int.ofNat_inj] using h5
     exact⟨by omega,t,h6,(hC t (by rw[← hBl];exact tru_lt h2)).1 h3,h4⟩
    ·rintro⟨_,t,h1,h2,h3⟩
     have htn:t<G.length:=by rw[hGl];exact tru_lt h3
     exact⟨t,by omega,(hB t).2 ⟨q,by simp,h1⟩,(hC t htn).2 h2,h3⟩
   ·rw[hL1 q e]
    constructor
    ·rintro⟨h1,h2⟩;exact⟨by omega,h2⟩
    ·rintro⟨h1,h2⟩;exact⟨by omega,h2⟩
 have hin:i=G.length:=by omega
 subst hin
 simp -implicitDefEqProofs (disch:=omega)[wrap64]
 exact RetK.keep (hk _ _ ⟨L,H.only,by omega,by rw[← hGl];exact hL⟩)
theorem c_nextX {h:Heap}{v:Value}{a:Aut}(Ra:Rep h v a) (ha:a.Ok):CallE Tryz.prog fn_impl_Automaton_next [v] h (fun u h'=>HS h [ow u (Bf.nx a)] h'):=by
 obtain⟨v1,v2,v3,rfl,R1,R2,R3⟩:=Rep_Aut.1 Ra
 refine CallE.gen fun k hk=>EN_impl_Automaton_next rfl ?_
 have hn:=ha.n
 have he:=ha.e
 simp -implicitDefEqProofs (disch:=first|omega|(simp only[LnZ];omega))[wrap64,R2.len]
 refine HS.init.mks (α:=List Int) (z:=[]) rfl rfl own_nils (Nat.le_refl _) (by omega) (by omega) fun w h1 H=>?_
 simp -implicitDefEqProofs (disch:=first|omega|(simp only[LnZ];omega))[wrap64,(R3.on H).len]
 refine wp_count a.edges.length (fun i e h'=>e=[none,none,none,some w,none,some v3,some (.int .i64 a.edges.length),some (.int .i64 i)]∧HS h [ow w (Bf.NX a i)] h') ⟨by simp,by rw[Bf.NX_zero];exact H⟩ ?_
 clear H
 rintro J i _ h2 hJ hi ⟨rfl,H⟩
 simp -implicitDefEqProofs (disch:=omega)[wrap64]
 refine IteW.mk (fun hlt=>?_) (fun hge=>?_)
 ·have hlx:i<a.edges.length:=by omega
  obtain⟨f,t,hf,ht,hfn,htn⟩:=ha.tr (List.getElem_mem hlx)
  have hfG:f<(Bf.NX a i).length:=by rw[Bf.NX_len];exact hfn
  have hle:(Bf.NX a i)[f].length≤i:=by rw[Bf.NX_at hfn];exact Bf.row_len
  have hsu:=Bf.NX_succ hlx hf hfn
  rw[ht] at hsu
  have R3':=R3.on H
  obtain⟨G,hG⟩:∃G,G=Bf.NX a i:=⟨_,rfl⟩
  rw[← hG] at H
  have hfG:f<G.length:=by rw[hG];exact hfG
  have hle:G[f].length≤i:=by subst hG;exact hle
  have hsu:Bf.NX a (i+1)=G.set f (G[f]++[(t:Int)]):=by subst hG;exact hsu
  obtain⟨u,hu,H⟩:=H.take hfG
  change hload _ (some (elp 1 w f)) none=some u at hu
  simp -implicitDefEqProofs (disch:=first|omega|(simp only[LnZ];omega))[wrap64,R3'.xTr,Tr.v,setC,hf,ht,H.sw1.holeia (n:=1) rfl,hu]
  refine H.app1 (t:Int) rfl rfl rfl ⟨by omega,by omega⟩ rfl rfl (by omega) (by omega) fun u' h3 H=>?_
  simp -implicitDefEqProofs (disch:=first|omega|(simp only[LnZ];omega))[wrap64,H.sw1.holeia (n:=1) rfl]
  refine H.storeH rfl rfl rfl fun h4 H=>?_
  simp -implicitDefEqProofs (disch:=omega)[wrap64]
  exact hJ _ _ hlx ⟨rfl,by rw[hsu];exact H⟩
 ·obtain rfl:i=a.edges.length:=by omega
  simp -implicitDefEqProofs (disch:=omega)[wrap64]
  exact RetK.keep (hk _ _ H)
namespace Bf
def sen (f:List Int):List Bool:=f.map fun x=>decide (x≠-2)
theorem sen_len {f:List Int}:(sen f).length=f.length:=by simp[sen]
theorem sen_at {f:List Int}{x:Nat}(hx:x<f.length):(sen f)[x]'(by rw[sen_len];exact hx)=decide (f[x]≠-2):=by simp[sen]
theorem sen_set {f:List Int}{x:Nat}{a:Int}(ha:a≠-2):sen (f.set x a)=(sen f).set x true:=by
 unfold sen
 rw[List.map_set]
 simp[ha]
theorem s0_take {n:Nat}{S:List Int}(hS:incr n (-1) S):∀k,k≤S.length→sF (S.take k) (-1) (List.replicate n (-2),[])=((S.take k).foldl (fun f s=>f.set s.toNat (-1)) (List.replicate n (-2)),S.take k)
 | 0,_=>by simp[sF]
 | k+1,hk=>by
  have ih:=s0_take hS k (by omega)
  have hkl:k<S.length:=by omega
  rw[sF_take hkl,ih,List.take_add_one,List.getElem?_eq_getElem hkl]
  have hx:=incr_mem hS _ (List.getElem_mem hkl)
  have hp:=(incr_iff.1 hS).1
  have key:∀(T:List Int) (f:List Int),f.length=n→(∀y∈T,0≤y∧y≠S[k])→(T.foldl (fun f s=>f.set s.toNat (-1)) f).getD S[k].toNat 0=f.getD S[k].toNat 0:=by
   intro T
   induction T with
   | nil=>intro f _ _;rfl
   | cons y T ih2=>
    intro f hf hT
    have hy:=hT y (by simp)
    show (T.foldl _ (f.set y.toNat (-1))).getD _ _=_
    rw[ih2 _ (by simpa using hf) (fun z hz=>hT z (by simp[hz]))]
    by_cases hyl:y.toNat<f.length
    ·rw[set_getD hyl,if_neg (by omega)]
    ·rw[List.set_eq_of_length_le (by omega)]
  have h2:=key (S.take k) (List.replicate n (-2)) (by simp) (fun y hy=>by
   have h3:=incr_mem hS y (List.mem_of_mem_take hy)
   obtain⟨j,hj,rfl⟩:=List.mem_iff_getElem.1 hy
   rw[List.length_take] at hj
   have:=List.pairwise_iff_getElem.1 hp j k (by omega) hkl (by omega)
   rw[List.getElem_take]
   rw[List.getElem_take] at h3
   omega)
  unfold s1
  simp only
  rw[h2,if_pos (by simp[show S[k].toNat<n by omega]),List.foldl_append]
  rfl
theorem s0_sF {n:Nat}{S:List Int}(hS:incr n (-1) S):sF S (-1) (List.replicate n (-2),[])=s0 n S:=by
 have:=s0_take hS S.length (Nat.le_refl _)
 rw[List.take_length] at this
 exact this
end Bf
theorem c_find {g h:Heap}{Γ:List HP}{b3 b4:Nat}{vm vo:Value}{p:Bf.SP}{x:Nat}{a:Int}(H:HS g (bx b3 [vm]::ow vm (Bf.sen p.1)::bx b4 [vo]::ow vo p.2::Γ) h) (hx:x<p.1.length) (hlen:p.2.length≤1048576) (ha:a≠-2) :
  CallE Tryz.prog fn_impl_order_1 [.int .i64 x,.pointer (some ⟨b3,0,none⟩),.pointer (some ⟨b4,0,none⟩)] h (fun u h'=>∃vo',HS g (bx b3 [vm]::ow vm (Bf.sen (Bf.s1 a p x).1)::bx b4 [vo']::ow vo' (Bf.s1 a p x).2::Γ) h'):=by
 have hsl:x<(Bf.sen p.1).length:=by rw[Bf.sen_len];exact hx
 have hxd:p.1.getD x 0=p.1[x]:=by simp[hx]
 have hat:=Bf.sen_at hx
 refine CallE.gen fun k hk=>EN_impl_order_1 rfl ?_
 rw[Bf.s1,Int.toNat_natCast,hxd] at hk
 by_cases q:p.1[x] = -2
 ·rw[if_pos q] at hk
  have hat2:(Bf.sen p.1)[x]=false:=by rw[hat];simp[q]
  have hset:Bf.sen (p.1.set x a)=(Bf.sen p.1).set x true:=Bf.sen_set ha
  rw[hset] at hk
  have hxl:=H.sw1.rep.lt
  simp -implicitDefEqProofs (disch:=first|omega|(simp only[LnZ];omega))[wrap64,H.bxld0,H.sw1.rep.B,hat2]
  refine H.sw1.storeF true (i:=x) hsl rfl rfl trivial rfl fun h1 H=>?_
  have H:=H.sw1
  simp -implicitDefEqProofs (disch:=first|omega|(simp only[LnZ];omega))[wrap64,H.sw2.bxld0]
  refine H.sw3.app1 (x:Int) rfl rfl rfl ⟨by omega,by omega⟩ rfl rfl (by omega) (by omega) fun vo' h2 H=>?_
  have o:=H.rep.one
  have c:=H.rep.cells
  simp -implicitDefEqProofs (disch:=omega)[wrap64]
  refine H.sw3.bxst (u:=vo') rfl rfl (by rw[c];rfl) (by rw[c];simp[o]) (by simp[c]) fun h3 H=>?_
  simp -implicitDefEqProofs (disch:=omega)[wrap64]
  have H:HS g (bx b4 [vo']::ow vo' (p.2++[(x:Int)])::bx b3 [vm]::ow vm ((Bf.sen p.1).set x true)::Γ) h3:=by simpa[setC,c] using H
  exact RetK.keep (hk _ _ ⟨vo',H.sw2.under fun _ H=>H.sw2⟩)
 ·rw[if_neg q] at hk
  have hat2:(Bf.sen p.1)[x]=true:=by rw[hat];simp[q]
  simp -implicitDefEqProofs (disch:=first|omega|(simp only[LnZ];omega))[wrap64,H.bxld0,H.sw1.rep.B,hat2]
  exact RetK.keep (hk _ _ ⟨vo,H⟩)
set_option maxHeartbeats 1000000 in
theorem c_order {h:Heap}{v w:Value}{G:List (List Int)}{S:List Int}(Rv:Rep h v G) (Rs:Rep h w S) (hn:Bf.NOk G) (hS:incr G.length (-1) S) (hGl:G.length≤65536):CallE Tryz.prog fn_impl_order [v,w] h (fun u h'=>HS h [ow u (Bf.fin G S).2] h'):=by
 have hSl:=incr_len hS
 refine CallE.gen fun k hk=>EN_impl_order rfl ?_
 simp -implicitDefEqProofs (disch:=first|omega|(simp only[LnZ];omega))[wrap64,Rv.len]
 refine HS.init.mks (α:=Bool) (z:=false) rfl rfl own_false (Nat.le_refl _) (by omega) (by omega) fun vm h1 H=>?_
 have o:=H.rep.one
 have c:=H.rep.cells
 simp -implicitDefEqProofs (disch:=omega)[wrap64]
 refine H.alloc rfl fun b3 h2 H=>?_
 simp -implicitDefEqProofs (disch:=omega)[wrap64]
 refine H.bxst (u:=vm) rfl rfl (by rw[c];rfl) (by rw[c];simp[o]) (by simp[c]) fun h3 H=>?_
 have H:HS h [bx b3 [vm],ow vm (List.replicate G.length false)] h3:=by simpa[setC,c] using H
 simp -implicitDefEqProofs (disch:=omega)[wrap64]
 refine H.alloc rfl fun b4 h4 H=>?_
 have H:HS h [bx b4 [.slice none 0 0],bx b3 [vm],ow vm (List.replicate G.length false)] h4:=H
 have hs0:List.replicate G.length false=Bf.sen (List.replicate G.length (-2)):=by simp[Bf.sen]
 rw[hs0] at H
 have H:HS h [bx b3 [vm],ow vm (Bf.sen (List.replicate G.length (-2))),bx b4 [.slice none 0 0],ow (.slice none 0 0) ([]:List Int)] h4:=(H.nil_ow (α:=Int)).sw2.under fun _ H=>H.sw2.under fun _ H=>H.sw1
 simp -implicitDefEqProofs (disch:=omega)[wrap64]
 obtain⟨fv,hfv⟩:∃fv,fv=Value.func (.func fn_impl_order_1) #[] #[.pointer (some ⟨b3,0,none⟩),.pointer (some ⟨b4,0,none⟩)]:=⟨_,rfl⟩
 have hfn:fnOf fv=some (fn_impl_order_1,[],[.pointer (some ⟨b3,0,none⟩),.pointer (some ⟨b4,0,none⟩)]):=by subst hfv;rfl
 rw[← hfv]
 simp -implicitDefEqProofs (disch:=first|omega|(simp only[LnZ];omega))[wrap64,(Rs.on H).len]
 refine wp_count S.length (fun i e h'=>e=[some v,none,none,none,some (.pointer (some ⟨b4,0,none⟩)),some fv,none,none,none,some w,some (.int .i64 S.length),some (.int .i64 i),none,none,none]∧∃vo,HS h [bx b3 [vm],ow vm (Bf.sen (Bf.sF (S.take i) (-1) (List.replicate G.length (-2),[])).1),bx b4 [vo],ow vo (Bf.sF (S.take i) (-1) (List.replicate G.length (-2),[])).2] h') ⟨by simp,.slice none 0 0,by simpa[Bf.sF] using H⟩ ?_
 clear H
 rintro J i _ h5 hJ hi ⟨rfl,vo,H⟩
 simp -implicitDefEqProofs (disch:=omega)[wrap64]
 refine IteW.mk (fun hlt=>?_) (fun hge=>?_)
 ·have hix:i<S.length:=by omega
  have hst:=Bf.s0_take hS i (by omega)
  have hsx:=incr_mem hS _ (List.getElem_mem hix)
  have hsu:=Bf.sF_take (a:=(-1:Int)) (p:=(List.replicate G.length (-2),[])) hix
  have hfl:(Bf.sF (S.take i) (-1) (List.replicate G.length (-2),[])).1.length=G.length∧(Bf.sF (S.take i) (-1) (List.replicate G.length (-2),[])).2.length=i:=by
   rw[hst]
   refine⟨?_,by simp;omega⟩
   have:∀(T:List Int) (f:List Int),(T.foldl (fun f s=>f.set s.toNat (-1)) f).length=f.length:=by
    intro T
    induction T with
    | nil=>intro f;rfl
    | cons y T ih=>intro f;show (T.foldl _ (f.set y.toNat (-1))).length=_;rw[ih];simp
   rw[this];simp
  generalize Bf.sF (S.take i) (-1) (List.replicate G.length (-2),[])=p at *
  obtain⟨x,hx⟩:∃x:Nat,S[i]=x:=⟨S[i].toNat,by omega⟩
  rw[hx] at hsu
  simp -implicitDefEqProofs (disch:=first|omega|(simp only[LnZ];omega))[wrap64,(Rs.on H).I,hx,hfn]
  refine (c_find (a:=-1) H (x:=x) (by omega) (by omega) (by decide)).go ?_
  rintro _ h6 ⟨vo',H⟩
  simp -implicitDefEqProofs (disch:=omega)[wrap64]
  exact hJ _ _ hix ⟨by simp,vo',by rw[hsu];exact H⟩
 have hiS:i=S.length:=by omega
 subst hiS
 rw[List.take_length,Bf.s0_sF hS] at H
 simp -implicitDefEqProofs (disch:=omega)[wrap64]
 refine wp_while (σ:=Nat) (fun i e h'=>e=[some v,none,none,none,some (.pointer (some ⟨b4,0,none⟩)),some fv,none,some (.int .i64 i),none,none,none,none,none,none,none]∧i≤(Bf.sN G S i).2.length∧∃vo,HS h [bx b3 [vm],ow vm (Bf.sen (Bf.sN G S i).1),bx b4 [vo],ow vo (Bf.sN G S i).2] h') (fun i=>G.length+1-i) 0 ⟨by simp,by omega,vo,H⟩ ?_
 clear H
 rintro J i _ h6 hJ ⟨rfl,hil,vo,H⟩
 obtain⟨bi,bd⟩:=Bf.sN_inv hn hS i
 have hle:=bi.le
 have hst:=Bf.sN_stop (next:=G) (S:=S) (n:=i)
 have hsu:=Bf.sN_succ (next:=G) (S:=S) (n:=i)
 have hfe:=Bf.fin_eq hn hS (n:=i)
 have hnl:=Bf.sN_le hn hS (show i≤i+1 by omega)
 simp -implicitDefEqProofs (disch:=first|omega|(simp only[LnZ];omega))[wrap64,H.sw2.bxld0,H.sw3.rep.len]
 refine IteW.mk (fun hlt=>?_) (fun hge=>?_)
 ·have hlt:i<(Bf.sN G S i).2.length:=by omega
  have hsu:=hsu hlt
  have hat:=bi.at hlt
  have hrow:=hn.row bi hlt
  obtain⟨a,ha⟩:∃a:Nat,(Bf.sN G S i).2.getD i 0=a:=⟨_,(Int.toNat_of_nonneg hat.1).symm⟩
  have ha':(Bf.sN G S i).2[i]=a:=by rw[← ha];simp[hlt]
  rw[ha,Int.toNat_natCast] at hat hsu hrow
  have haN:a<G.length:=by omega
  obtain⟨u,hu,Ru⟩:=Rv.ldL haN
  have hgd:G.getD a []=G[a]:=by simp[haN]
  rw[hgd] at hsu hrow
  have hu:=hload_le H.base hu
  have RuH:=Ru.on H
  have hul:=Ru.lt
  simp -implicitDefEqProofs (disch:=first|omega|(simp only[LnZ];omega))[wrap64,H.sw2.bxld0,H.sw3.rep.I,ha',(Rv.on H).X (n:=1) rfl,hu,RuH.len]
  refine wp_count G[a].length (fun m e h'=>e=[some v,none,none,none,some (.pointer (some ⟨b4,0,none⟩)),some fv,none,some (.int .i64 i),none,none,none,none,some u,some (.int .i64 G[a].length),some (.int .i64 m)]∧∃vo,HS h [bx b3 [vm],ow vm (Bf.sen (Bf.sF (G[a].take m) a (Bf.sN G S i)).1),bx b4 [vo],ow vo (Bf.sF (G[a].take m) a (Bf.sN G S i)).2] h') ⟨by simp,vo,by simpa[Bf.sF] using H⟩ ?_
  clear H RuH
  rintro J2 m _ h7 hJ2 hm ⟨rfl,vo,H⟩
  simp -implicitDefEqProofs (disch:=omega)[wrap64]
  refine IteW.mk (fun hlt2=>?_) (fun hge2=>?_)
  ·have hmx:m<G[a].length:=by omega
   have hx:=hrow _ (List.getElem_mem hmx)
   obtain⟨x,hxx⟩:∃x:Nat,G[a][m]=x:=⟨G[a][m].toNat,by omega⟩
   have hs1:=Bf.sF_take (a:=(a:Int)) (p:=Bf.sN G S i) hmx
   have hfo:=bi.fold (i:=i) hlt (l:=G[a].take m) (fun y hy=>by rw[ha];exact hrow y (List.mem_of_mem_take hy))
   rw[ha] at hfo
   have hfl:=hfo.1.fl
   have hfle:=hfo.1.le
   rw[hxx] at hs1 hx
   generalize Bf.sF (G[a].take m) a (Bf.sN G S i)=p at *
   simp -implicitDefEqProofs (disch:=first|omega|(simp only[LnZ];omega))[wrap64,(Ru.on H).I,hxx,hfn]
   refine (c_find (a:=(a:Int)) H (x:=x) (by omega) (by omega) (by omega)).go ?_
   rintro _ h8 ⟨vo',H⟩
   simp -implicitDefEqProofs (disch:=omega)[wrap64]
   exact hJ2 _ _ hmx ⟨by simp,vo',by rw[hs1];exact H⟩
  have hmG:m=G[a].length:=by omega
  subst hmG
  rw[List.take_length,← hsu] at H
  have hlen:=hnl.len
  simp -implicitDefEqProofs (disch:=omega)[wrap64]
  exact hJ (i+1) _ _ (by omega) ⟨by simp,by omega,vo,H⟩
 ·rw[hfe (by omega)] at H
  simp -implicitDefEqProofs (disch:=first|omega|(simp only[LnZ];omega))[wrap64,H.sw2.bxld0]
  exact RetK.keep (hk _ _ (H.sw3.only1))
namespace Bf
section
variable {S:List Int}{D:Int→Int→Prop}
theorem Pth.last {x:Int}{l:List Int}(h:Pth S D x l):∃l0,l=l0++[x]:=by
 cases h with
 | one h=>exact⟨[],rfl⟩
 | snoc h e=>exact⟨_,rfl⟩
theorem Pth.head {x:Int}{l:List Int}(h:Pth S D x l):∃s∈S,∃t,l=s::t:=by
 induction h with
 | one h=>exact⟨_,h,[],rfl⟩
 | snoc h e ih=>
  obtain⟨s,hs,t,rfl⟩:=ih
  exact⟨s,hs,t++[_],rfl⟩
def Joined (D:Int→Int→Prop):List Int→Prop
 | x::y::l=>D x y∧Joined D (y::l)
 | _=>True
theorem Joined.snoc {x y:Int}:∀{l:List Int},Joined D (l++[x])→D x y→Joined D (l++[x]++[y])
 | [],_,h=>⟨h,trivial⟩
 | [z],h,h'=>⟨h.1,h',trivial⟩
 | z::z2::l,h,h'=>⟨h.1,Joined.snoc (l:=z2::l) h.2 h'⟩
theorem Pth.joined {x:Int}{l:List Int}(h:Pth S D x l):Joined D l:=by
 induction h with
 | one h=>trivial
 | snoc h e ih=>
  obtain⟨l0,rfl⟩:=h.last
  exact ih.snoc e
theorem Joined.at {D:Int→Int→Prop}:∀{l:List Int},Joined D l→∀(i:Nat) (hi:i+1<l.length),D l[i] l[i+1]
 | [],_,i,hi=>absurd hi (by simp)
 | [x],_,i,hi=>absurd hi (by simp)
 | x::y::l,h,0,_=>h.1
 | x::y::l,h,i+1,hi=>Joined.at (l:=y::l) h.2 i (by simpa using hi)
end
noncomputable def hitL (G:List (List Int)) (S:List Int) (g:Int→Bool):List Int:=match (fin G S).2.find? g with
 | some t=>path G S t
 | none=>[]
def back (G:List (List Int)) (t:Int):Int→Bool:=fun m=>decide (m≠t)&&decide (t∈G.getD m.toNat [])
noncomputable def arn (G:List (List Int)) (t:Int):List Int:=if t∈G.getD t.toNat [] then [t] else hitL G [t] (back G t)
theorem Rch.last {E:Nat→Nat→Prop}{x y z:Nat}(h:E x y) (k:Rch E y z):∃m,Rch E x m∧E m z:=by
 induction k generalizing x with
 | refl=>exact⟨x,.refl _,h⟩
 | step e _ ih=>
  obtain⟨m,h1,h2⟩:=ih e
  exact⟨m,.step h h1,h2⟩
theorem incr_one {n:Int}{t:Int}(h0:0≤t) (h1:t<n):incr n (-1) [t]:=⟨by omega,h1,trivial⟩
theorem arn_ok {G:List (List Int)}(hn:NOk G) {E:Nat→Nat→Prop}(hE:∀x y:Nat,E x y↔x<G.length∧(y:Int)∈G.getD x []) {t:Nat}(ht:t<G.length) (hc:Cyc E t) :
  ∃m:Int,Pth [(t:Int)] (Ed G) m (arn G t)∧Ed G m t∧(arn G t).length≤G.length:=by
 unfold arn
 by_cases hs:(t:Int)∈G.getD (t:Int).toNat []
 ·rw[if_pos hs]
  exact⟨t,.one (by simp),⟨by omega,by omega,hs⟩,by simp;omega⟩
 ·rw[if_neg hs]
  have hS:incr G.length (-1) [(t:Int)]:=incr_one (by omega) (by omega)
  obtain⟨y,h1,h2⟩:=hc
  obtain⟨m,h3,h4⟩:=Rch.last h1 h2
  have hm:(m:Int)∈(fin G [(t:Int)]).2:=(fin_mem hn hS hE).2 ⟨t,by simp,h3⟩
  have hmE:=(hE m t).1 h4
  have hb:back G t m=true:=by
   unfold back
   simp only[Int.toNat_natCast,Bool.and_eq_true,decide_eq_true_eq]
   refine⟨fun e=>hs ?_,hmE.2⟩
   have:m=t:=by omega
   subst this
   rw[Int.toNat_natCast]
   exact hmE.2
  cases hf:(fin G [(t:Int)]).2.find? (back G t) with
  | none=>
   rw[List.find?_eq_none] at hf
   exact absurd hb (by simpa using hf m hm)
  | some q=>
   have hq:=List.mem_of_find?_eq_some hf
   have hqb:=List.find?_some hf
   have hp:=path_ok hn hS hq
   have hin:=(sN_inv hn hS G.length).1.inq q hq
   unfold back at hqb
   simp only[Bool.and_eq_true,decide_eq_true_eq] at hqb
   refine⟨q,?_,⟨hin.1,hin.2.1,hqb.2⟩,?_⟩
   ·unfold hitL;rw[hf];exact hp.2.2
   ·unfold hitL;rw[hf];exact hp.2.1
noncomputable def gA (a:Aut):Int→Bool:=fun t=>a.acc.getD t.toNat false && @decide (Cyc a.E t.toNat) (Classical.propDecidable _)
theorem gA_iff {a:Aut}{t:Int}:gA a t=true↔tru a.acc t.toNat∧Cyc a.E t.toNat:=by simp[gA,tru]
noncomputable def fw (a:Aut):Option Las:=match (fin (nx a) a.init).2.find? (gA a) with
 | some t=>some ⟨vals a (path (nx a) a.init t),vals a (arn (nx a) t++[t])⟩
 | none=>none
section
variable {a:Aut}
theorem LP_of (ha:a.Ok) {S:List Int}{x:Int}{l:List Int}(h:Pth S (Ed (nx a)) x l) (hS:∀s∈S,0≤s):∃s∈S,0≤x∧LP a.edges s.toNat (vals a l) x.toNat∧∀y∈vals a l,0≤y∧y≤7:=by
 induction h with
 | one h=>exact⟨_,h,hS _ h,.nil _,by simp[vals]⟩
 | snoc h e ih=>
  rename_i x y l
  obtain⟨s,hs,h0,h1,h2⟩:=ih
  obtain⟨l0,rfl⟩:=h.last
  rw[vals_snoc]
  obtain⟨f,hf,k1,k2,k3,k4,k5,k6⟩:=ev_ok ha ((nx_Ed ha).1 e)
  obtain⟨p,q,m1,m2,_,_⟩:=ha.tr hf
  refine⟨s,hs,by omega,h1.append (.cons ⟨f,hf,by omega,by omega,k4⟩ (.nil _)),fun z hz=>?_⟩
  rcases List.mem_append.1 hz with hz | hz
  ·exact h2 z hz
  ·obtain rfl:z=ev a x y:=by simpa using hz
   exact⟨k5,k6⟩
theorem fw_some (ha:a.Ok) {l:Las}(h:fw a=some l):(∃(s x:Nat),(s:Int)∈a.init∧LP a.edges s l.stem x∧LP a.edges x l.loop x∧tru a.acc x)∧(∀y∈l.stem,0≤y∧y≤7)∧(∀y∈l.loop,0≤y∧y≤7)∧l.stem.length≤63∧1≤l.loop.length∧l.loop.length≤64:=by
 have hn:=nx_ok ha
 have hlen:=nx_len (a:=a)
 have hS:incr (nx a).length (-1) a.init:=by rw[hlen];exact ha.i
 have h64:=ha.n.2
 unfold fw at h
 split at h
 ·rename_i t hf
  simp only[Option.some.injEq] at h
  subst h
  have ht:=List.mem_of_find?_eq_some hf
  have htg:=gA_iff.1 (List.find?_some hf)
  have hp:=path_ok hn hS ht
  have hin:=(sN_inv hn hS (nx a).length).1.inq t ht
  obtain⟨q,rfl⟩:∃q:Nat,t=q:=⟨t.toNat,by omega⟩
  rw[Int.toNat_natCast] at htg
  obtain⟨m,c1,c2,c3⟩:=arn_ok hn (nx_E ha) (t:=q) (by omega) htg.2
  have c4:=c1.snoc c2
  obtain⟨s,hs,_,p1,p2⟩:=LP_of ha hp.2.2 (fun s hs=>by have:=incr_mem ha.i s hs;omega)
  obtain⟨s',hs',_,p3,p4⟩:=LP_of ha c4 (fun s hs=>by have:s=q:=by simpa using hs
                                                    omega)
  obtain rfl:s'=q:=by simpa using hs'
  rw[Int.toNat_natCast] at p1 p3
  have hs0:=incr_mem ha.i s hs
  have l1:=vals_len (a:=a) (l:=path (nx a) a.init q)
  have l2:=vals_len (a:=a) (l:=arn (nx a) q++[(q:Int)])
  have hne:1≤(arn (nx a) q).length:=by
   obtain⟨_,_,t,e⟩:=c1.head
   rw[e];simp
  rw[List.length_append,List.length_singleton] at l2
  have l3:=hp.2.1
  refine⟨⟨s.toNat,q,by rw[Int.toNat_of_nonneg (by omega)];exact hs,p1,p3,htg.1⟩,p2,p4,?_,?_,?_⟩
  ·simp only;omega
  ·simp only;omega
  ·simp only;omega
 ·simp at h
theorem fw_none (ha:a.Ok) (h:fw a=none) {s:Nat}(hs:(s:Int)∈a.init):¬a.Live s:=by
 have hn:=nx_ok ha
 have hS:incr (nx a).length (-1) a.init:=by rw[nx_len];exact ha.i
 unfold fw at h
 split at h
 ·simp at h
 ·rename_i hf
  rintro⟨t,h1,h2,h3⟩
  rw[List.find?_eq_none] at hf
  have hm:(t:Int)∈(fin (nx a) a.init).2:=(fin_mem hn hS (nx_E ha)).2 ⟨s,hs,h1⟩
  exact hf t hm (gA_iff.2 ⟨by rw[Int.toNat_natCast];exact h3,by rw[Int.toNat_natCast];exact h2⟩)
end
end Bf
theorem c_Reverse_int {g h:Heap}{Γ:List HP}{v:Value}{x:List Int}(H:HS g (ow v x::Γ) h):CallE Tryz.prog fn_slices_Reverse_S_int_int [v] h (fun _ h'=>HS g (ow v x.reverse::Γ) h'):=by
 have hL:=H.rep.lt
 have hok:=fun {i:Nat}(hi:i<x.length)=>H.rep.okI hi
 refine CallE.gen fun k hk=>EN_slices_Reverse_S_int_int rfl ?_
 simp -implicitDefEqProofs (disch:=first|omega|(simp only[LnZ];omega))[wrap64,H.rep.len]
 refine wp_while (σ:=Nat) (fun i e h'=>e=[some v,some (.int .i64 i),some (.int .i64 ((x.length:Int)-1-i))]∧i≤x.length∧∃y,HS g (ow v y::Γ) h'∧y.length=x.length∧(i=0∨2*i≤x.length)∧∀(k:Nat),k<x.length→y.getD k 0=if k<i∨x.length-1-i<k then x.getD (x.length-1-k) 0 else x.getD k 0) (fun i=>x.length-i) 0 ⟨by simp,by omega,x,H,rfl,.inl rfl,fun k hk=>by rw[if_neg (by omega)]⟩ ?_
 clear H
 rintro J i _ h1 hJ ⟨rfl,hi,y,H,hl,h0,hy⟩
 simp -implicitDefEqProofs (disch:=omega)[wrap64]
 refine IteW.mk (fun hlt=>?_) (fun hge=>?_)
 ·have hin:2*i+1<x.length:=by omega
  have hiy:i<y.length:=by omega
  have hjy:x.length-1-i<y.length:=by omega
  have hcast:(x.length:Int)-1-i=((x.length-1-i:Nat):Int):=by omega
  have o1:=H.rep.okI hiy
  have o2:=H.rep.okI hjy
  rw[hcast]
  simp -implicitDefEqProofs (disch:=first|omega|(simp only[LnZ];omega))[wrap64,H.rep.I]
  refine H.storeF y[x.length-1-i] (i:=i) hiy rfl rfl ⟨o2.1,o2.2⟩ rfl fun h2 H=>?_
  simp -implicitDefEqProofs (disch:=first|omega|(simp only[LnZ];omega))[wrap64,H.rep.I]
  refine H.storeF y[i] (i:=x.length-1-i) (by simpa using hjy) rfl rfl ⟨o1.1,o1.2⟩ rfl fun h3 H=>?_
  simp -implicitDefEqProofs (disch:=omega)[wrap64]
  refine hJ (i+1) _ _ (by omega) ⟨by simp;omega,by omega,_,H,by simp[hl],.inr (by omega),fun k hk=>?_⟩
  have e1:y[i]=x.getD i 0:=by
   have:=hy i (by omega)
   rw[if_neg (by omega)] at this
   rw[← this];simp[hiy]
  have e2:y[x.length-1-i]=x.getD (x.length-1-i) 0:=by
   have:=hy (x.length-1-i) (by omega)
   rw[if_neg (by omega)] at this
   rw[← this];simp[hjy]
  rw[Bf.set_getD (by simpa using hjy),Bf.set_getD hiy,e1,e2,hy k hk]
  by_cases c1:x.length-1-i=k
  ·rw[if_pos c1,if_pos (by omega)]
   congr 1;omega
  ·rw[if_neg c1]
   by_cases c2:i=k
   ·rw[if_pos c2,if_pos (by omega)]
    congr 1;omega
   ·rw[if_neg c2]
    by_cases c3:k<i∨x.length-1-i<k
    ·rw[if_pos c3,if_pos (by omega)]
    ·rw[if_neg c3,if_neg (by omega)]
 ·simp -implicitDefEqProofs (disch:=omega)[wrap64]
  have he:y=x.reverse:=by
   refine List.ext_getElem (by simp[hl]) fun k h1 h2=>?_
   have hk:k<x.length:=by omega
   have:=hy k hk
   rw[List.getElem_reverse]
   have e1:y.getD k 0=y[k]:=by simp[h1]
   rw[← e1,this]
   split
   ·simp[show x.length-1-k<x.length by omega]
   ·have e2:k=x.length-1-k:=by omega
    have e3:x[x.length-1-k]'(by omega)=x.getD (x.length-1-k) 0:=by simp[show x.length-1-k<x.length by omega]
    rw[e3,← e2]
  exact RetK.keep (hk _ _ (he▸H))
set_option maxHeartbeats 1000000 in
theorem c_shortestG {h:Heap}{v w fv:Value}{G:List (List Int)}{S:List Int}(hn:Bf.NOk G) (hS:incr G.length (-1) S) (hGl:G.length≤65536) (R:Rep h v G) (Rs:Rep h w S) (g:Int→Bool) {f:FuncId}{c1 c2:List Value}(hf:fnOf fv=some (f,c1,c2))
  (hp:∀h1,h.le h1→∀a:Nat,a<G.length→CallE Tryz.prog f (c1++.int .i64 a::c2) h1 (fun u h'=>h1.le h'∧u=.bool (g a))) :
  CallE Tryz.prog fn_impl_shortest [v,w,fv] h (fun u h'=>HS h [ow u (Bf.hitL G S g)] h'):=by
 have hL:=R.lt
 have hSl:=incr_len hS
 refine CallE.gen fun k hk=>EN_impl_shortest rfl ?_
 simp -implicitDefEqProofs (disch:=first|omega|(simp only[LnZ];omega))[wrap64,R.len]
 refine HS.init.mks (α:=Int) (z:=(0:Int)) rfl rfl (own_zero (by decide) (by decide)) (Nat.le_refl _) (by omega) (by omega) fun o h1 H=>?_
 simp -implicitDefEqProofs (disch:=first|omega|(simp only[LnZ];omega))[wrap64,H.rep.len]
 refine wp_count G.length (fun i e h'=>e=[some v,some w,some fv,none,some o,none,none,none,none,none,none,none,some (.int .i64 G.length),some (.int .i64 i),none,none,none,none,none,none]∧∃y,HS h [ow o y] h'∧y.length=G.length∧y.take i=(List.replicate G.length (-2)).take i) ⟨by simp,_,H,by simp,by simp⟩ ?_
 clear H
 rintro J i _ h1 hJ hi ⟨rfl,y,H,hl,hy⟩
 simp -implicitDefEqProofs (disch:=omega)[wrap64]
 refine IteW.mk (fun hlt=>?_) (fun hge=>?_)
 ·have hlx:i<G.length:=by omega
  simp -implicitDefEqProofs (disch:=first|omega|(simp only[LnZ];omega))[wrap64,H.rep.I]
  refine H.storeF (-2) (i:=i) (by omega) rfl rfl ⟨by omega,by omega⟩ rfl fun h2 H=>?_
  simp -implicitDefEqProofs (disch:=omega)[wrap64]
  refine hJ _ _ hlx ⟨by simp,_,H,by simp[hl],?_⟩
  have:=take_set_succ (x:=List.replicate G.length (-2:Int)) hy (by simpa using hlx) (by simpa using hl)
  simpa using this
 have he:y=List.replicate G.length (-2):=eq_of_take hy (by simp;omega) (by simpa using hl)
 subst he
 simp -implicitDefEqProofs (disch:=first|omega|(simp only[LnZ];omega))[wrap64,(Rs.on H).len]
 refine wp_count S.length (fun i e h'=>∃q,e=[some v,none,some fv,none,some o,none,some q,none,none,none,none,none,none,none,some w,some (.int .i64 S.length),some (.int .i64 i),none,none,none]∧∃y,HS h [ow o y,ow q (S.take i)] h'∧y.length=G.length∧y=(S.take i).foldl (fun f s=>f.set s.toNat (-1)) (List.replicate G.length (-2))) ⟨.slice none 0 0,by simp,_,(H.nil_ow (α:=Int)).sw1,by simp,by simp⟩ ?_
 clear H hy hl
 rintro J1 i1 _ h1 hJ1 hi1 ⟨q,rfl,y,H,hyl,hy⟩
 simp -implicitDefEqProofs (disch:=omega)[wrap64]
 refine IteW.mk (fun hlt1=>?_) (fun hge1=>?_)
 ·have hix:i1<S.length:=by omega
  have hsx:=incr_mem hS _ (List.getElem_mem hix)
  obtain⟨x,hx⟩:∃x:Nat,S[i1]=x:=⟨S[i1].toNat,by omega⟩
  simp -implicitDefEqProofs (disch:=first|omega|(simp only[LnZ];omega))[wrap64,(Rs.on H).I,hx,H.rep.I]
  refine H.storeF (-1) (i:=x) (by omega) rfl rfl ⟨by omega,by omega⟩ rfl fun h2 H=>?_
  simp -implicitDefEqProofs (disch:=first|omega|(simp only[LnZ];omega))[wrap64,setC]
  refine HS.app1 (bytes:=8) H.sw1 (x:Int) rfl rfl rfl ⟨by omega,by omega⟩ rfl rfl (by simp;omega) (by simp;omega) fun q' h3 H=>?_
  simp -implicitDefEqProofs (disch:=omega)[wrap64]
  refine hJ1 _ _ hix ⟨q',by simp,y.set x (-1),?_,by simpa using hyl,?_⟩
  ·rw[List.take_add_one,List.getElem?_eq_getElem hix,hx]
   have H2:=H.sw1
   have he2:S.take i1++[(x:Int)]=S.take i1++(some (x:Int)).toList:=rfl
   rw[he2] at H2
   exact H2
  ·rw[List.take_add_one,List.getElem?_eq_getElem hix,List.foldl_append,← hy,hx]
   show y.set x (-1)=y.set (x:Int).toNat (-1)
   rw[Int.toNat_natCast]
 obtain rfl:i1=S.length:=by omega
 rw[List.take_length] at H hy
 have H:HS h [ow o (Bf.sN G S 0).1,ow q (Bf.sN G S 0).2] h1:=by subst hy;exact H
 clear hy hyl
 simp -implicitDefEqProofs (disch:=omega)[wrap64]
 refine wp_while (σ:=Nat) (fun i e h'=>∃q,e=[some v,none,some fv,none,some o,none,some q,none,some (.int .i64 i),none,none,none,none,none,none,none,none,none,none,none]∧HS h [ow o (Bf.sN G S i).1,ow q (Bf.sN G S i).2] h'∧i≤(Bf.sN G S i).2.length∧∀j:Nat,j<i→g ((Bf.sN G S i).2.getD j 0)=false) (fun i=>G.length+1-i) 0 ⟨q,by simp,H,by omega,fun j hj=>absurd hj (Nat.not_lt_zero j)⟩ ?_
 clear H
 rintro J2 i _ h1 hJ2 ⟨q,rfl,H,hi,hnot⟩
 obtain⟨bi,bd⟩:=Bf.sN_inv hn hS i
 have hle:=bi.le
 have hql:=H.sw1.rep.lt
 have hsu:=Bf.sN_succ (next:=G) (S:=S) (n:=i)
 have hnl:=Bf.sN_le hn hS (show i≤i+1 by omega)
 have hnoh:=Bf.no_hit hn hS (g:=g) (i:=i)
 have hyes:=Bf.fst_hit hn hS (g:=g) (i:=i)
 have hpe:=fun {l}=>Bf.path_eq hn hS (n:=i) (a:=(Bf.sN G S i).2.getD i 0) (l:=l)
 simp -implicitDefEqProofs (disch:=first|omega|(simp only[LnZ];omega))[wrap64,H.sw1.rep.len]
 refine IteW.mk (fun hlt=>?_) (fun hge=>?_)
 ·have hlt:i<(Bf.sN G S i).2.length:=by omega
  have hsu:=hsu hlt
  have hat:=bi.at hlt
  have hrow:=hn.row bi hlt
  obtain⟨l,c1',c2',_⟩:=bi.chn i hlt
  have hyes:=hyes hlt
  have hpe:=hpe c1'
  obtain⟨a,ha⟩:∃a:Nat,(Bf.sN G S i).2.getD i 0=a:=⟨_,(Int.toNat_of_nonneg hat.1).symm⟩
  have ha':(Bf.sN G S i).2[i]=a:=by rw[← ha];simp[hlt]
  rw[ha,Int.toNat_natCast] at hat hsu hrow
  rw[ha] at hyes hpe c1'
  have haN:a<G.length:=by omega
  have hgd:G.getD a []=G[a]:=by simp[haN]
  rw[hgd] at hsu hrow
  simp -implicitDefEqProofs (disch:=first|omega|(simp only[LnZ];omega))[wrap64,H.sw1.rep.I,ha',hf]
  refine (hp h1 H.base a haN).go ?_
  rintro _ h2 ⟨l2,rfl⟩
  have H:=H.le l2
  cases q1:g a with
  | true=>
   have hfnd:Bf.hitL G S g=l:=by rw[Bf.hitL,hyes q1 hnot];exact hpe
   rw[hfnd] at hk
   have hca:=c1'.all
   simp -implicitDefEqProofs (disch:=first|omega|(simp only[LnZ];omega))[wrap64,q1]
   refine wp_while (σ:=List Int×List Int×Int) (fun t e h'=>∃u,e=[none,none,none,none,some o,none,none,none,none,some (.int .i64 t.2.2),some u,none,none,none,none,none,none,none,none,none]∧HS h [ow u t.2.1,ow o (Bf.sN G S i).1,ow q (Bf.sN G S i).2] h'∧Bf.Chn (Bf.sN G S i).1 t.2.2 t.1∧t.1++t.2.1.reverse=l) (fun t=>t.1.length) (l,[],(a:Int)) ⟨.slice none 0 0,by simp,H.nil_ow,c1',by simp⟩ ?_
   clear H
   rintro J3 ⟨l1,l2',b⟩ _ h3 hJ3 ⟨u,rfl,H,c3,c4⟩
   simp only at c3 c4 H ⊢
   by_cases hb:0≤b
   ·obtain⟨l1',rfl,hbl,c5⟩:=c3.un hb
    obtain⟨b',rfl⟩:∃b':Nat,b=b':=⟨b.toNat,(Int.toNat_of_nonneg hb).symm⟩
    have hlen:l2'.length≤65537:=by
     have:=congrArg List.length c4
     simp at this
     omega
    have hbl':b'<(Bf.sN G S i).1.length:=by omega
    have hge2:=c5.ge
    have hbd:(Bf.sN G S i).1.getD b' 0=(Bf.sN G S i).1[b']:=by simp[hbl']
    rw[Int.toNat_natCast,hbd] at c5
    have hok:=H.sw1.rep.okI hbl'
    have hfl0:=bi.fl
    simp -implicitDefEqProofs (disch:=first|omega|(simp only[LnZ];omega))[wrap64,setC]
    refine HS.app1 (bytes:=8) H (b':Int) rfl rfl rfl ⟨by omega,by omega⟩ rfl rfl (by omega) (by omega) fun u' h4 H=>?_
    simp -implicitDefEqProofs (disch:=first|omega|(simp only[LnZ];omega))[wrap64,H.sw1.rep.I]
    exact hJ3 (l1',l2'++[(b':Int)],(Bf.sN G S i).1[b']) _ _ (by simp) ⟨u',by simp,H,c5,by rw[← c4];simp⟩
   ·have hb1:b = -1:=by have:=c3.ge;omega
    subst hb1
    have hl1:=c3.neg
    subst hl1
    simp -implicitDefEqProofs (disch:=omega)[wrap64]
    refine (c_Reverse_int H).go ?_
    intro _ h4 H
    simp -implicitDefEqProofs (disch:=omega)[wrap64]
    refine (c_Clip_int H).go ?_
    intro u' h5 H
    simp -implicitDefEqProofs (disch:=omega)[wrap64]
    refine RetK.keep (hk _ _ ?_)
    have hfin:l=l2'.reverse:=by rw[← c4];simp
    rw[hfin]
    exact H.only1
  | false=>
   obtain⟨u,hu,Ru⟩:=R.ldL haN
   have hu:=hload_le H.base hu
   have hul:=Ru.len
   have hull:=Ru.lt
   simp -implicitDefEqProofs (disch:=first|omega|(simp only[LnZ];omega))[wrap64,q1,H.sw1.rep.I,ha',R.X (n:=1) rfl,hu,hul]
   refine wp_count G[a].length (fun m e h'=>∃q,e=[some v,none,some fv,none,some o,none,some q,none,some (.int .i64 i),none,none,none,none,none,none,none,none,some u,some (.int .i64 G[a].length),some (.int .i64 m)]∧HS h [ow o (Bf.sF (G[a].take m) a (Bf.sN G S i)).1,ow q (Bf.sF (G[a].take m) a (Bf.sN G S i)).2] h') ⟨q,by simp,by simpa[Bf.sF] using H⟩ ?_
   clear H
   rintro J4 m _ h3 hJ4 hm ⟨q,rfl,H⟩
   simp -implicitDefEqProofs (disch:=omega)[wrap64]
   refine IteW.mk (fun hlt4=>?_) (fun hge4=>?_)
   ·have hm:m<G[a].length:=by omega
    have hxr:=hrow _ (List.getElem_mem hm)
    have hfo:=bi.fold (i:=i) hlt (l:=G[a].take m) (fun y hy=>by rw[ha];exact hrow y (List.mem_of_mem_take hy))
    rw[ha] at hfo
    obtain⟨f1,f2,_⟩:=hfo
    have hfs:=Bf.sF_take (a:=(a:Int)) (p:=Bf.sN G S i) hm
    have hqi:(Bf.sF (G[a].take m) a (Bf.sN G S i)).2.getD i 0=a:=by rw[f2.at hlt,ha]
    have hil:i<(Bf.sF (G[a].take m) a (Bf.sN G S i)).2.length:=by have:=f2.len;omega
    have hfl:=f1.fl
    have hfle:=f1.le
    generalize Bf.sF (G[a].take m) a (Bf.sN G S i)=p at *
    obtain⟨x,hx⟩:∃x:Nat,G[a][m]=x:=⟨_,(Int.toNat_of_nonneg hxr.1).symm⟩
    rw[hx] at hxr
    have hxl:x<p.1.length:=by omega
    have hqi':p.2[i]=a:=by rw[← hqi];simp[hil]
    have hxd:p.1.getD x 0=p.1[x]:=by simp[hxl]
    rw[Bf.s1,hx,Int.toNat_natCast,hxd] at hfs
    have RuI:=(Ru.on H).I
    by_cases q2:p.1[x] = -2
    ·rw[if_pos q2] at hfs
     simp -implicitDefEqProofs (disch:=first|omega|(simp only[LnZ];omega))[wrap64,RuI,hx,H.rep.I,q2,H.sw1.rep.I,hqi']
     refine H.storeF (a:Int) (i:=x) hxl rfl rfl ⟨by omega,by omega⟩ rfl fun h4 H=>?_
     simp -implicitDefEqProofs (disch:=first|omega|(simp only[LnZ];omega))[wrap64,setC]
     refine HS.app1 (bytes:=8) H.sw1 (x:Int) rfl rfl rfl ⟨by omega,by omega⟩ rfl rfl (by omega) (by omega) fun q' h5 H=>?_
     simp -implicitDefEqProofs (disch:=omega)[wrap64]
     exact hJ4 _ _ hm ⟨q',by simp,by rw[hfs];exact H.sw1⟩
    ·rw[if_neg q2] at hfs
     simp -implicitDefEqProofs (disch:=first|omega|(simp only[LnZ];omega))[wrap64,RuI,hx,H.rep.I,q2]
     exact hJ4 _ _ hm ⟨q,by simp,by rw[hfs];exact H⟩
   simp -implicitDefEqProofs (disch:=omega)[wrap64]
   have hmG:m=G[a].length:=by omega
   subst hmG
   rw[List.take_length,← hsu] at H
   have hlen:=hnl.len
   refine hJ2 (i+1) _ _ (by omega) ⟨q,by simp,H,by omega,fun j hj=>?_⟩
   rw[hnl.at (by omega)]
   by_cases hji:j=i
   ·subst hji;rw[ha];exact q1
   ·exact hnot j (by omega)
 ·have hno:Bf.hitL G S g=[]:=by rw[Bf.hitL,hnoh (by omega) (fun j hj hj2=>hnot j hj)]
  rw[hno] at hk
  simp -implicitDefEqProofs (disch:=omega)[wrap64]
  exact RetK.keep (hk _ _ (HS.nil_ow (Γ:=[]) H.base))
def okR (f:Aut→Aut) (h:Heap) (a:Aut) (u:Value) (h':Heap):Prop:=∃v,u=.tuple #[v,.bool (decide a.Ok)]∧HS h [ow v (if a.Ok then f a else Aut.empty)] h'
theorem okR.no {f:Aut→Aut}{h h':Heap}{a:Aut}(hn:¬a.Ok) (H:HS h [] h'):okR f h a (.tuple #[.agg #[.slice none 0 0,.slice none 0 0,.slice none 0 0],.bool false]) h':=
 ⟨_,by rw[decide_eq_false hn],by rw[if_neg hn];exact empty_ow H⟩
theorem okR.yes {f:Aut→Aut}{h h':Heap}{a:Aut}{v:Value}(hn:a.Ok) (H:HS h [ow v (f a)] h'):okR f h a (.tuple #[v,.bool true]) h':=
 ⟨_,by rw[decide_eq_true hn],by rw[if_pos hn];exact H⟩
theorem c_IndexFunc_int {h:Heap}{a fv:Value}{x:List Int}(Ra:Rep h a x) {f:FuncId}{c1 c2:List Value}(hf:fnOf fv=some (f,c1,c2)) (p:Int→Bool)
  (hp:∀h1,h.le h1→∀(i:Nat) (hi:i<x.length) (u:Value),Rep h1 u x[i]→CallE Tryz.prog f (c1++u::c2) h1 (fun v h'=>h1.le h'∧v=.bool (p x[i]))) :
  CallE Tryz.prog fn_slices_IndexFunc_S_int_int [a,fv] h (fun v h'=>h.le h'∧v=.int .i64 (match x.findIdx? p with | some i=>(i:Int) | none=>-1)):=by
 refine CallE.gen fun k hk=>EN_slices_IndexFunc_S_int_int rfl ?_
 have hL:=Ra.lt
 simp -implicitDefEqProofs (disch:=first|omega|(simp only[LnZ];omega))[wrap64,Ra.len]
 refine wp_count x.length (fun i e h'=>e=[some a,some fv,none,none,some (.int .i64 x.length),some (.int .i64 i)]∧h.le h'∧∀(j:Nat) (hj:j<x.length),j<i→p x[j]=false) ⟨rfl,Heap.le.refl h,fun j _ hj=>absurd hj (Nat.not_lt_zero j)⟩ ?_
 rintro J i _ h1 hJ hi ⟨rfl,hl,hn⟩
 simp -implicitDefEqProofs (disch:=omega)[wrap64]
 refine IteW.mk (fun hlt=>?_) (fun hge=>?_)
 ·have hlx:i<x.length:=by omega
  obtain⟨u,hu,Ru⟩:=(Ra.le hl).ld hlx
  change hload _ (some (elp 1 a i)) none=some u at hu
  simp -implicitDefEqProofs (disch:=first|omega|(simp only[LnZ];omega))[wrap64,(Ra.le hl).X (n:=1) rfl,hu,hf]
  refine (hp h1 hl i hlx u Ru).go ?_
  rintro _ h2 ⟨hl2,rfl⟩
  simp -implicitDefEqProofs (disch:=omega)[wrap64]
  refine IteW.mk (fun hq=>?_) (fun hq=>?_)
  ·simp -implicitDefEqProofs (disch:=omega)[wrap64]
   refine RetK.keep (hk _ _ ⟨hl.trans hl2,?_⟩)
   have h3:x.findIdx? p=some i:=by
    rw[List.findIdx?_eq_some_iff_getElem]
    exact⟨hlx,hq,fun j hj=>by rw[hn j (by omega) hj];simp⟩
   rw[h3]
  ·simp -implicitDefEqProofs (disch:=omega)[wrap64]
   refine hJ _ _ hlx ⟨rfl,hl.trans hl2,fun j hj hji=>?_⟩
   by_cases hji2:j=i
   ·subst hji2;simpa using hq
   ·exact hn j hj (by omega)
 ·simp -implicitDefEqProofs (disch:=omega)[wrap64]
  refine RetK.keep (hk _ _ ⟨hl,?_⟩)
  have h3:x.findIdx? p=none:=by
   rw[List.findIdx?_eq_none_iff]
   intro y hy
   obtain⟨j,hj,rfl⟩:=List.mem_iff_getElem.1 hy
   exact hn j hj (by omega)
  rw[h3]
theorem c_ContainsFunc_int {h:Heap}{a fv:Value}{x:List Int}(Ra:Rep h a x) {f:FuncId}{c1 c2:List Value}(hf:fnOf fv=some (f,c1,c2)) (p:Int→Bool)
  (hp:∀h1,h.le h1→∀(i:Nat) (hi:i<x.length) (u:Value),Rep h1 u x[i]→CallE Tryz.prog f (c1++u::c2) h1 (fun v h'=>h1.le h'∧v=.bool (p x[i]))) :
  CallE Tryz.prog fn_slices_ContainsFunc_S_int_int [a,fv] h (fun v h'=>h.le h'∧v=.bool (x.any p)):=by
 refine CallE.gen fun k hk=>EN_slices_ContainsFunc_S_int_int rfl ?_
 simp -implicitDefEqProofs (disch:=omega)[wrap64]
 refine (c_IndexFunc_int Ra hf p hp).go ?_
 rintro _ h1 ⟨hl,rfl⟩
 simp -implicitDefEqProofs (disch:=omega)[wrap64]
 refine RetK.keep (hk _ _ ⟨hl,?_⟩)
 congr 1
 rw[← List.findIdx?_isSome]
 cases x.findIdx? p<;>simp
theorem c_takes {h:Heap}{v:Value}{t:Tr}(Rt:Rep h v t) {n:Int}:CallE Tryz.prog fn_impl_Transition_takes [v,.int .i64 n] h (fun u h'=>h'=h∧u=.bool (t.on n)):=by
 rw[(Rep_Tr.1 Rt).1]
 refine CallE.gen fun k hk=>EN_impl_Transition_takes rfl ?_
 simp -implicitDefEqProofs (disch:=first|omega|(simp only[LnZ];omega))[wrap64,Tr.v]
 exact RetK.keep (hk _ _ ⟨rfl,rfl⟩)
theorem c_l7On {h:Heap}{v:Value}{t:Tr}(Rt:Rep h v t) {n:Int}:CallE Tryz.prog fn_spec_l7On [v,.int .i64 n] h (fun u h'=>h'=h∧u=.bool (t.on n)):=by
 rw[(Rep_Tr.1 Rt).1]
 refine CallE.gen fun k hk=>EN_spec_l7On rfl ?_
 simp -implicitDefEqProofs (disch:=first|omega|(simp only[LnZ];omega))[wrap64,Tr.v]
 exact RetK.keep (hk _ _ ⟨rfl,rfl⟩)
theorem tru_set2 {B:List Bool}{i:Nat}(hi:i<B.length) {b:Bool}{x:Nat}:tru (B.set i b) x↔if x=i then b=true else tru B x:=by
 simp only[tru,List.getD_eq_getElem?_getD,List.getElem?_set]
 by_cases e:i=x
 ·subst e;simp[hi]
 ·simp[e,Ne.symm e]
theorem c_begin {h:Heap}{v l:Value}{a:Aut}{L:List Bool}(Ra:Rep h v a) (Rl:Rep h l L) (ha:a.Ok) (hLl:L.length=a.acc.length) (hL:∀q,tru L q↔q<a.acc.length∧a.Live q) :
  CallE Tryz.prog fn_impl_Automaton_begin [v,l] h (fun u h'=>∃B:List Bool,HS h [ow u B] h'∧B.length=a.acc.length∧∀q,tru B q↔a.beg q):=by
 obtain⟨v1,v2,v3,rfl,R1,R2,R3⟩:=Rep_Aut.1 Ra
 have hn:=ha.n
 have hil:=ha.il
 refine CallE.gen fun k hk=>EN_impl_Automaton_begin rfl ?_
 simp -implicitDefEqProofs (disch:=first|omega|(simp only[LnZ];omega))[wrap64,Rl.len]
 refine HS.init.mks (α:=Bool) (z:=false) rfl rfl own_false (Nat.le_refl _) (by omega) (by omega) fun b h1 H=>?_
 simp -implicitDefEqProofs (disch:=first|omega|(simp only[LnZ];omega))[wrap64,(R1.on H).len]
 refine wp_count a.init.length (fun i e h'=>e=[none,some l,none,none,some b,none,some v1,some (.int .i64 a.init.length),some (.int .i64 i)]∧∃B:List Bool,HS h [ow b B] h'∧B.length=a.acc.length∧∀q:Nat,tru B q↔(q:Int)∈a.init.take i∧a.Live q) ⟨by simp,_,H,by simp[hLl],fun q=>by simp[tru_replicate]⟩ ?_
 clear H
 rintro J i _ h2 hJ hi ⟨rfl,B,H,hBl,hB⟩
 simp -implicitDefEqProofs (disch:=omega)[wrap64]
 refine IteW.mk (fun hlt=>?_) (fun hge=>?_)
 ·have hix:i<a.init.length:=by omega
  have hx:=ha.im hix
  obtain⟨q,hq⟩:∃q:Nat,a.init[i]=q:=⟨a.init[i].toNat,by omega⟩
  have hqn:q<a.acc.length:=by omega
  simp -implicitDefEqProofs (disch:=first|omega|(simp only[LnZ];omega))[wrap64,(R1.on H).I,hq,(Rl.on H).B,H.rep.B]
  refine H.storeF (L[q]'(by omega)) (i:=q) (by omega) rfl rfl trivial rfl fun h3 H=>?_
  simp -implicitDefEqProofs (disch:=omega)[wrap64]
  refine hJ _ _ hix ⟨rfl,_,H,by simpa using hBl,fun x=>?_⟩
  rw[tru_set2 (by omega),take_mem_succ hix,hq]
  have hLq:=hL q
  rw[tru_get (by omega)] at hLq
  split
  ·rename_i e
   subst e
   rw[hLq]
   simp[hqn]
  ·rename_i e
   rw[hB]
   have e2:¬((x:Int)=q):=by omega
   simp[e2]
 simp -implicitDefEqProofs (disch:=omega)[wrap64]
 rw[List.take_of_length_le (by omega)] at hB
 exact RetK.keep (hk _ _ ⟨B,H,hBl,hB⟩)
theorem c_after {h:Heap}{v l s:Value}{a:Aut}{L S:List Bool}{letter:Int}(Ra:Rep h v a) (Rl:Rep h l L) (Rs:Rep h s S) (ha:a.Ok) (hLl:L.length=a.acc.length) (hSl:S.length=a.acc.length) (hL:∀q,tru L q↔q<a.acc.length∧a.Live q) :
  CallE Tryz.prog fn_impl_Automaton_after [v,l,s,.int .i64 letter] h (fun u h'=>∃B:List Bool,HS h [ow u B] h'∧B.length=a.acc.length∧∀q,tru B q↔a.aft (tru S) letter q):=by
 obtain⟨v1,v2,v3,rfl,R1,R2,R3⟩:=Rep_Aut.1 Ra
 have hn:=ha.n
 have he:=ha.e
 refine CallE.gen fun k hk=>EN_impl_Automaton_after rfl ?_
 simp -implicitDefEqProofs (disch:=first|omega|(simp only[LnZ];omega))[wrap64,Rl.len]
 refine HS.init.mks (α:=Bool) (z:=false) rfl rfl own_false (Nat.le_refl _) (by omega) (by omega) fun b h1 H=>?_
 simp -implicitDefEqProofs (disch:=first|omega|(simp only[LnZ];omega))[wrap64,(R3.on H).len]
 refine wp_count a.edges.length (fun i e h'=>e=[none,some l,some s,some (.int .i64 letter),none,none,some b,none,some v3,some (.int .i64 a.edges.length),some (.int .i64 i)]∧∃B:List Bool,HS h [ow b B] h'∧B.length=a.acc.length∧∀q:Nat,tru B q↔a.Live q∧∃e∈a.edges.take i,tru S e.frm.toNat∧e.to=q∧e.on letter=true) ⟨by simp,_,H,by simp[hLl],fun q=>by simp[tru_replicate]⟩ ?_
 clear H
 rintro J i _ h2 hJ hi ⟨rfl,B,H,hBl,hB⟩
 simp -implicitDefEqProofs (disch:=omega)[wrap64]
 refine IteW.mk (fun hlt=>?_) (fun hge=>?_)
 ·have hix:i<a.edges.length:=by omega
  have hx:=ha.t hix
  have hv:=R3.okTr hix
  unfold Tr.Ok at hx
  obtain⟨f,hf⟩:∃f:Nat,a.edges[i].frm=f:=⟨a.edges[i].frm.toNat,by omega⟩
  obtain⟨t,ht⟩:∃t:Nat,a.edges[i].to=t:=⟨a.edges[i].to.toNat,by omega⟩
  have hLt:=hL t
  rw[tru_get (by omega)] at hLt
  have hSf:=tru_get (B:=S) (i:=f) (by omega)
  have hstep:∀B':List Bool,(∀q:Nat,tru B' q↔tru B q∨(q=t∧a.Live q∧tru S f∧a.edges[i].on letter=true))→∀q:Nat,tru B' q↔a.Live q∧∃e∈a.edges.take (i+1),tru S e.frm.toNat∧e.to=q∧e.on letter=true:=by
   intro B' hB' q
   rw[hB',hB]
   constructor
   ·rintro (⟨h1,e,h2,h3⟩ | ⟨rfl,h1,h2,h3⟩)
    ·exact⟨h1,e,(take_mem_succ hix).2 (.inl h2),h3⟩
    ·exact⟨h1,_,(take_mem_succ hix).2 (.inr rfl),by rw[hf];simpa using h2,ht,h3⟩
   ·rintro⟨h1,e,h2,h3,h4,h5⟩
    rcases (take_mem_succ hix).1 h2 with h2 | rfl
    ·exact .inl ⟨h1,e,h2,h3,h4,h5⟩
    ·rw[hf] at h3
     exact .inr ⟨by omega,h1,by simpa using h3,h5⟩
  have hkeep:¬(a.Live t∧tru S f∧a.edges[i].on letter=true)→∀h3,HS h [ow b B] h3→J [none,some l,some s,some (.int .i64 letter),none,none,some b,none,some v3,some (.int .i64 a.edges.length),some (.int .i64 ((i+1:Nat):Int))] h3:=
   fun hno h3 H=>hJ _ _ hix ⟨by simp,B,H,hBl,hstep B fun q=>⟨.inl,fun hh=>hh.elim id fun ⟨e,h1,h2⟩=>absurd (e▸⟨h1,h2⟩) hno⟩⟩
  by_cases e1:S[f]'(by omega)=true
  case neg=>
   simp -implicitDefEqProofs (disch:=first|omega|(simp only[LnZ];omega))[wrap64,(R3.on H).xTr,Tr.v,setC,hf,(Rs.on H).B,e1]
   exact hkeep (fun hh=>e1 (hSf.1 hh.2.1)) _ H
  by_cases e2:L[t]'(by omega)=true
  case neg=>
   simp -implicitDefEqProofs (disch:=first|omega|(simp only[LnZ];omega))[wrap64,(R3.on H).xTr,Tr.v,setC,hf,ht,(Rs.on H).B,(Rl.on H).B,e1,e2]
   exact hkeep (fun hh=>e2 (hLt.2 ⟨by omega,hh.1⟩)) _ H
  simp -implicitDefEqProofs (disch:=first|omega|(simp only[LnZ];omega))[wrap64,(R3.on H).xTr,Tr.v,setC,hf,ht,(Rs.on H).B,(Rl.on H).B,e1,e2]
  refine (c_takes (t:=a.edges[i]) (Rep_Tr.2 ⟨by simp[Tr.v,hf,ht],hv⟩)).go ?_
  rintro _ _ ⟨rfl,rfl⟩
  by_cases e3:a.edges[i].on letter=true
  case neg=>
   simp -implicitDefEqProofs (disch:=first|omega|(simp only[LnZ];omega))[wrap64,e3]
   exact hkeep (fun hh=>e3 hh.2.2) _ H
  simp -implicitDefEqProofs (disch:=first|omega|(simp only[LnZ];omega))[wrap64,e3,H.rep.B]
  refine H.storeF true (i:=t) (by omega) rfl rfl trivial rfl fun h3 H=>?_
  simp -implicitDefEqProofs (disch:=omega)[wrap64]
  refine hJ _ _ hix ⟨by simp,_,H,by simpa using hBl,hstep _ fun q=>?_⟩
  rw[tru_set (by omega)]
  constructor
  ·rintro (h1 | rfl)
   ·exact .inl h1
   ·exact .inr ⟨rfl,(hLt.1 e2).2,hSf.2 e1,e3⟩
  ·rintro (h1 | h1)
   ·exact .inl h1
   ·exact .inr h1.1
 simp -implicitDefEqProofs (disch:=omega)[wrap64]
 rw[List.take_of_length_le (by omega)] at hB
 exact RetK.keep (hk _ _ ⟨B,H,hBl,hB⟩)
theorem c_members {h:Heap}{s:Value}{S:List Bool}(Rs:Rep h s S) (hl:S.length≤1048576):CallE Tryz.prog fn_impl_members [s] h (fun u h'=>HS h [ow u (memL (fun q=>S.getD q false) S.length)] h'):=by
 refine CallE.gen fun k hk=>EN_impl_members rfl ?_
 simp -implicitDefEqProofs (disch:=first|omega|(simp only[LnZ];omega))[wrap64,Rs.len]
 have H:=(HS.init (h:=h)).nil_ow (α:=Int)
 refine wp_count S.length (fun i e h'=>∃o,e=[none,none,some o,none,none,some s,some (.int .i64 S.length),some (.int .i64 i)]∧HS h [ow o (memL (fun q=>S.getD q false) i)] h') ⟨.slice none 0 0,by simp,by simpa[memL] using H⟩ ?_
 clear H
 rintro J i _ h2 hJ hi ⟨o,rfl,H⟩
 simp -implicitDefEqProofs (disch:=omega)[wrap64]
 refine IteW.mk (fun hlt=>?_) (fun hge=>?_)
 ·have hix:i<S.length:=by omega
  have hml:=memL_length (K:=fun q=>S.getD q false) (i:=i)
  have hgd:S.getD i false=S[i]:=by simp[hix]
  cases hb:S[i] with
  | true=>
   simp -implicitDefEqProofs (disch:=first|omega|(simp only[LnZ];omega))[wrap64,(Rs.on H).B,hb]
   refine H.app1 (i:Int) rfl rfl rfl ⟨by omega,by omega⟩ rfl rfl (by omega) (by omega) fun o' h3 H=>?_
   simp -implicitDefEqProofs (disch:=omega)[wrap64]
   refine hJ _ _ hix ⟨o',rfl,?_⟩
   rw[memL_succ,hgd,hb];exact H
  | false=>
   simp -implicitDefEqProofs (disch:=first|omega|(simp only[LnZ];omega))[wrap64,(Rs.on H).B,hb]
   refine hJ _ _ hix ⟨o,rfl,?_⟩
   rw[memL_succ,hgd,hb];simpa using H
 have hii:i=S.length:=by omega
 subst hii
 simp -implicitDefEqProofs (disch:=omega)[wrap64]
 refine (c_Clip_int H).go ?_
 intro o' h3 H
 simp -implicitDefEqProofs (disch:=omega)[wrap64]
 exact RetK.keep (hk _ _ H)
theorem c_letters_1 {h:Heap}{n:Int}:CallE Tryz.prog fn_impl_letters_1 [.int .i64 n] h (fun u h'=>h'=h∧u=.bool (!decide (0≤n∧n≤7))):=by
 refine CallE.gen fun k hk=>EN_impl_letters_1 rfl ?_
 simp -implicitDefEqProofs (disch:=omega)[wrap64]
 refine c_in.go ?_
 rintro _ _ ⟨rfl,rfl⟩
 simp -implicitDefEqProofs (disch:=omega)[wrap64]
 exact RetK.keep (hk _ _ ⟨rfl,by simp⟩)
theorem c_letters {h:Heap}{w:Value}{W:List Int}(Rw:Rep h w W):CallE Tryz.prog fn_impl_letters [w] h (fun u h'=>h.le h'∧u=.bool (decide (∀x∈W,0≤x∧x≤7))):=by
 refine CallE.gen fun k hk=>EN_impl_letters rfl ?_
 simp -implicitDefEqProofs (disch:=omega)[wrap64]
 refine (c_ContainsFunc_int Rw (c1:=[]) (c2:=[]) (f:=fn_impl_letters_1) rfl (fun n=>!decide (0≤n∧n≤7)) ?_).go ?_
 ·intro h3 hl j hj u Ru
  obtain⟨rfl,_⟩:=Rep_int.1 Ru
  exact (c_letters_1 (n:=W[j])).to fun _ _ ⟨h4,h5⟩=>⟨h4▸Heap.le.refl _,h5⟩
 ·rintro _ h3 ⟨hl,rfl⟩
  simp -implicitDefEqProofs (disch:=omega)[wrap64]
  refine RetK.keep (hk _ _ ⟨hl,?_⟩)
  congr 1
  rw[Bool.eq_iff_iff]
  simp
theorem c_wordOk {h:Heap}{w:Value}{W:List Int}(Rw:Rep h w W):CallE Tryz.prog fn_impl_wordOk [w] h (fun u h'=>h.le h'∧u=.bool (decide (Wok W))):=by
 have hL:=Rw.lt
 refine CallE.gen fun k hk=>EN_impl_wordOk rfl ?_
 simp -implicitDefEqProofs (disch:=first|omega|(simp only[LnZ];omega))[wrap64,Rw.len]
 by_cases h1:(W.length:Int)≤200
 ·simp -implicitDefEqProofs (disch:=first|omega|(simp only[LnZ];omega))[wrap64,h1]
  refine (c_letters Rw).go ?_
  rintro _ h2 ⟨hl,rfl⟩
  simp -implicitDefEqProofs (disch:=omega)[wrap64]
  refine RetK.keep (hk _ _ ⟨hl,?_⟩)
  congr 1
  rw[Bool.eq_iff_iff]
  have:W.length≤200:=by omega
  simp[Wok,this]
 ·simp -implicitDefEqProofs (disch:=first|omega|(simp only[LnZ];omega))[wrap64,h1]
  refine RetK.keep (hk _ _ ⟨Heap.le.refl _,?_⟩)
  congr 1
  rw[eq_comm,decide_eq_false_iff_not]
  intro hh
  have:=hh.1
  omega
theorem c_prefix {h:Heap}{v w:Value}{a:Aut}{W:List Int}(Ra:Rep h v a) (Rw:Rep h w W) (ha:a.Ok):CallE Tryz.prog fn_impl_Automaton_prefix [v,w] h (fun u h'=>HS h [ow u (a.states W)] h'):=by
 have hn:=ha.n
 have hwl:=Rw.lt
 have Fa:=Ra.aAut
 refine CallE.gen fun k hk=>EN_impl_Automaton_prefix rfl ?_
 simp -implicitDefEqProofs (disch:=first|omega|(simp only[LnZ];omega))[wrap64,Fa]
 refine (c_live Ra ha).go ?_
 rintro l h1 ⟨L,H,hLl,hL⟩
 simp -implicitDefEqProofs (disch:=first|omega|(simp only[LnZ];omega))[wrap64,Fa]
 refine (c_begin (Ra.on H) H.rep ha hLl hL).go ?_
 rintro b h2 ⟨B,H2,hBl,hB⟩
 have H:=H2.app H
 simp -implicitDefEqProofs (disch:=first|omega|(simp only[LnZ];omega))[wrap64,Fa,(Rw.on H).len]
 refine wp_count W.length (fun i e h'=>∃b,e=[none,none,some v,none,some l,some b,none,some w,some (.int .i64 W.length),some (.int .i64 i)]∧∃B:List Bool,HS h [ow b B,ow l L] h'∧B.length=a.acc.length∧∀q:Nat,tru B q↔a.behind (W.take i) q) ⟨b,by simp,B,H,hBl,hB⟩ ?_
 clear H hB hBl
 rintro J i _ h3 hJ hi ⟨b,rfl,B,H,hBl,hB⟩
 simp -implicitDefEqProofs (disch:=omega)[wrap64]
 refine IteW.mk (fun hlt=>?_) (fun hge=>?_)
 ·have hix:i<W.length:=by omega
  simp -implicitDefEqProofs (disch:=first|omega|(simp only[LnZ];omega))[wrap64,Fa,(Rw.on H).I]
  refine (c_after (Ra.on H) H.sw1.rep H.rep ha hLl hBl hL).go ?_
  rintro b' h4 ⟨B',H4,hBl',hB'⟩
  have H:=(H4.app H).sw1.drop
  simp -implicitDefEqProofs (disch:=first|omega|(simp only[LnZ];omega))[wrap64,Fa]
  refine hJ _ _ hix ⟨b',rfl,B',H,hBl',fun q=>?_⟩
  rw[hB',Aut.behind,foldl_take hix,funext fun q=>propext (hB q)]
  exact Iff.rfl
 simp -implicitDefEqProofs (disch:=omega)[wrap64]
 rw[List.take_of_length_le (by omega)] at hB
 refine (c_members H.rep (by omega)).go ?_
 intro o h4 H4
 have H:=(H4.app H).only
 simp -implicitDefEqProofs (disch:=omega)[wrap64]
 have he:memL (fun q=>B.getD q false) B.length=a.states W:=by
  refine Aut.states_eq (by rw[hBl];exact memL_incr (Nat.le_refl _)) fun q=>?_
  rw[memL_mem,← hB,← hBl]
  constructor
  ·rintro⟨q',e,h5,h6⟩
   obtain rfl:q=q':=by omega
   exact⟨h5,h6⟩
  ·rintro⟨h5,h6⟩;exact⟨q,rfl,h5,h6⟩
 rw[he] at H
 exact RetK.keep (hk _ _ H)
section
variable {P:Program}{k:Env→Heap→Prop}{e:Env}{g h:Heap}{Γ:List HP}{v:Value}{α:Type}
theorem HS.appZ [Ty α] [Flat α] {l:List α}(H:HS g (ow v l::Γ) h) {z:α}{n:Nat}{bytes esz:Nat}{zero zero':List Value}{a x:O}{dst:Nat}{kd:IntKind}(ha:a.get e=some v) (hx:x.get e=some (.int kd (n:Int))) (hzz:zero'=Flat.enc z) (hok:Flat.ok z) (hsz:esz=Ty.sz α) (hz:zero.length=Ty.sz α)
  (hb:(l.length+n)*bytes≤140737488355328) (hn:l.length+n<2^62)
  (K:∀v' h',HS g (ow v' (l++List.replicate n z)::Γ) h'→k (eset e dst (some v')) h'):(A.ex (some dst) (.app bytes esz zero (.o a) (.z x bytes zero'))).wp P k e h:=by
 obtain⟨g',r,rfl,d,O,H⟩:=H
 subst hsz hzz
 have hall:∀x∈List.replicate n z,Flat.ok x:=fun x hx=>by rw[List.eq_of_mem_replicate hx];exact hok
 have henc:∀m,reps m (Flat.enc z)=encL (List.replicate m z):=fun m=>by
  simp[reps,encL]
 have hle:n*bytes≤(l.length+n)*bytes:=Nat.mul_le_mul_right _ (by omega)
 refine a_app (rs:=Heap.nil) (l2:=List.replicate n z) O ha ?_ (encL_len hall) (ownL_enc hall) d Dj_nil (by simp) rfl hz (by simpa using hb) (by simpa using hn) fun v' r' d' O'=>K _ _ ⟨g',r',rfl,d',O',H⟩
 simp only[AO.src,hx]
 rw[if_pos ⟨by omega,by omega,by simp;omega,flat_len hok⟩]
 simp[henc]
theorem bls_two [Ty α] {u1 u2:Value}{y1 y2:α}(R1:Rep h u1 y1) (R2:Rep h u2 y2) {esz:Nat}{zero:List Value}{parts:List (Nat×Nat×O)}{dst:Nat}(hf:fillP e (reps 2 zero) parts=some (u1.cells.toList++u2.cells.toList))
  (K:∀v' h',h.le h'→Rep h' v' [y1,y2]→k (eset e dst (some v')) h'):(A.ex (some dst) (.bls esz 2 zero parts)).wp P k e h:=by
 obtain⟨c1,rfl,r1⟩:=R1
 obtain⟨c2,rfl,r2⟩:=R2
 rw[rep_cells r1,rep_cells r2] at hf
 have l1:=Ty.len r1
 have l2:=Ty.len r2
 refine⟨_,hf,fun b el hb=>Fgt.keep ?_⟩
 rw[set_new hb]
 have hd:Dj h (Heap.one b (.cells (c1++c2).toArray el (0,0))):=Dj_one.2 hb
 have hbb:(h.add (Heap.one b (.cells (c1++c2).toArray el (0,0)))) b=some (.cells (c1++c2).toArray el (0,0)):=by simp[Heap.add,Heap.one,hb]
 refine K _ _ (le_add hd) (Rep_list.2 ⟨some ⟨b,0,none⟩,2,rfl,⟨Nat.le_refl _,by simp⟩,trivial,fun i hi=>?_⟩)
 refine⟨b,0,((c1++c2).drop (0+i*Ty.sz α)).take (Ty.sz α),rfl,?_,?_⟩
 ·rw[hcells_mk hbb (by simp at hi ⊢;rcases (by omega:i=0∨i=1) with rfl | rfl<;>simp<;>omega)]
 ·simp only[List.length_cons,List.length_nil] at hi
  rcases (by omega:i=0∨i=1) with rfl | rfl
  ·have e1:((c1++c2).drop (0+0*Ty.sz α)).take (Ty.sz α)=c1:=by simp[← l1]
   rw[e1]
   exact Ty.mono (le_add hd) r1
  ·have e1:((c1++c2).drop (0+1*Ty.sz α)).take (Ty.sz α)=c2:=by
    rw[show 0+1*Ty.sz α=c1.length by omega,List.drop_left,List.take_of_length_le (by omega)]
   rw[e1]
   exact Ty.mono (le_add hd) r2
end
theorem c_Grow_int {h:Heap}{m:Int}(hm:0≤m) (hn:m≤1048576):CallE Tryz.prog fn_slices_Grow_S_int_int [.slice none 0 0,.int .i64 m] h (fun u h'=>HS h [ow u ([]:List Int)] h'):=by
 obtain⟨n,rfl⟩:∃n:Nat,m=n:=⟨m.toNat,(Int.toNat_of_nonneg hm).symm⟩
 have H:HS h [ow (.slice none 0 0) ([]:List Int)] h:=HS.init.nil_ow
 refine CallE.gen fun k hk=>EN_slices_Grow_S_int_int rfl ?_
 have hng:¬((n:Int)<0):=by omega
 have hcap:capVV (.slice none 0 0)=some (.int .i64 0):=rfl
 have hln:lenVV (.slice none 0 0)=some (.int .i64 0):=rfl
 have hsl:sliceVV 1 (.slice none 0 0) none (some (some (.int .i64 0))) none=some (.slice none 0 0):=rfl
 by_cases h0:(0:Int)<n
 ·have h0':0<n:=by omega
  simp -implicitDefEqProofs (disch:=first|omega|(simp only[LnZ];omega))[wrap64,h0,h0',hng,hcap,hln,hsl]
  refine HS.appZ (bytes:=8) (α:=Int) (z:=0) (n:=n) H rfl rfl rfl ⟨by decide,by decide⟩ rfl rfl (by simp;omega) (by simp;omega) fun v' h1 H=>?_
  obtain⟨v2,hv2,H⟩:=H.cut (n:=0) (esz:=1) (k:=.i64) (by simp)
  simp only[List.take_zero] at H
  have hv2':sliceVV 1 v' none (some (some (.int .i64 0))) none=some v2:=hv2
  simp -implicitDefEqProofs (disch:=first|omega|(simp only[LnZ];omega))[wrap64,hln,hv2']
  exact RetK.keep (hk _ _ H)
 ·have h0':¬0<n:=by omega
  simp -implicitDefEqProofs (disch:=first|omega|(simp only[LnZ];omega))[wrap64,h0,h0',hng,hcap,hln,hsl]
  exact RetK.keep (hk _ _ H)
theorem c_Concat_int {h:Heap}{v:Value}{x y:List Int}(R:Rep h v [x,y]) (hx:x.length≤65536) (hy:y.length≤65536):CallE Tryz.prog fn_slices_Concat_S_int_int [v] h (fun u h'=>HS h [ow u (x++y)] h'):=by
 have hL:([x,y]:List (List Int)).length=2:=rfl
 obtain⟨u0,hu0,R0⟩:=R.ldL (i:=0) (by simp)
 obtain⟨u1,hu1,R1⟩:=R.ldL (i:=1) (by simp)
 simp only[List.getElem_cons_zero,List.getElem_cons_succ] at R0 R1
 have hX:=R.X (n:=1) rfl
 have hn1:¬(x.length:Int)<0:=by omega
 have hn2:¬(x.length:Int)+y.length<0:=by omega
 refine CallE.gen fun k hk=>EN_slices_Concat_S_int_int rfl ?_
 simp -implicitDefEqProofs (disch:=first|omega|(simp only[LnZ];omega))[wrap64,R.len]
 refine wp_count 2 (fun i e h'=>e=[some v,none,some (.int .i64 (if i=0 then 0 else if i=1 then x.length else x.length+y.length)),none,none,none,some v,some (.int .i64 2),some (.int .i64 i),none,none,none]∧h'=h) ⟨by simp,rfl⟩ ?_
 rintro J i _ h1 hJ hi ⟨rfl,rfl⟩
 simp -implicitDefEqProofs (disch:=omega)[wrap64]
 refine IteW.mk (fun hlt=>?_) (fun hge=>?_)
 ·obtain rfl | rfl:i=0∨i=1:=by omega
  ·simp -implicitDefEqProofs (disch:=first|omega|(simp only[LnZ];omega))[wrap64,hX,hu0,R0.len,hn1]
   exact hJ _ _ (by omega) ⟨by simp,rfl⟩
  ·simp -implicitDefEqProofs (disch:=first|omega|(simp only[LnZ];omega))[wrap64,hX,hu1,R1.len,hn1,hn2]
   exact hJ _ _ (by omega) ⟨by simp,rfl⟩
 obtain rfl:i=2:=by omega
 simp -implicitDefEqProofs (disch:=omega)[wrap64]
 refine (c_Grow_int (m:=(x.length:Int)+y.length) (by omega) (by omega)).go ?_
 intro o h2 H
 simp -implicitDefEqProofs (disch:=first|omega|(simp only[LnZ];omega))[wrap64,(R.on H).len]
 refine wp_count 2 (fun i e h'=>∃o,e=[none,none,none,none,some o,none,none,none,none,some v,some (.int .i64 2),some (.int .i64 i)]∧HS h1 [ow o (if i=0 then [] else if i=1 then x else x++y)] h') ⟨o,by simp,by simpa using H⟩ ?_
 clear H
 rintro J2 i _ h3 hJ2 hi ⟨o,rfl,H⟩
 simp -implicitDefEqProofs (disch:=omega)[wrap64]
 refine IteW.mk (fun hlt2=>?_) (fun hge2=>?_)
 ·obtain rfl | rfl:i=0∨i=1:=by omega
  ·simp only[if_true] at H
   simp -implicitDefEqProofs (disch:=first|omega|(simp only[LnZ];omega))[wrap64,hX,hload_le H.base hu0]
   refine HS.appL (bytes:=8) (l2:=x) H rfl rfl (R0.on H) rfl rfl (by simp;omega) (by simp;omega) fun o' h4 H=>?_
   simp -implicitDefEqProofs (disch:=omega)[wrap64]
   exact hJ2 _ _ (by omega) ⟨o',by simp,by simpa using H⟩
  ·simp only[Nat.one_ne_zero,if_true,if_false] at H
   simp -implicitDefEqProofs (disch:=first|omega|(simp only[LnZ];omega))[wrap64,hX,hload_le H.base hu1]
   refine HS.appL (bytes:=8) (l2:=y) H rfl rfl (R1.on H) rfl rfl (by omega) (by omega) fun o' h4 H=>?_
   simp -implicitDefEqProofs (disch:=omega)[wrap64]
   exact hJ2 _ _ (by omega) ⟨o',by simp,by simpa using H⟩
 obtain rfl:i=2:=by omega
 simp -implicitDefEqProofs (disch:=omega)[wrap64]
 exact RetK.keep (hk _ _ (by simpa using H))
theorem c_all {h:Heap}{v:Value}{l:Las}(R:Rep h v l) (hs:l.stem.length≤65536) (hl:l.loop.length≤65536):CallE Tryz.prog fn_impl_Lasso_all [v] h (fun u h'=>HS h [ow u l.all] h'):=by
 obtain⟨v1,v2,rfl,R1,R2⟩:=Rep_Las.1 R
 refine CallE.gen fun k hk=>EN_impl_Lasso_all rfl ?_
 simp -implicitDefEqProofs (disch:=omega)[wrap64]
 refine bls_two R1 R2 (by simp[fillP,R1.cells,R2.cells,R1.one,R2.one,reps,setC]) fun w h1 l1 RW=>?_
 simp -implicitDefEqProofs (disch:=omega)[wrap64]
 refine (c_Concat_int RW hs hl).go ?_
 intro u h2 H
 simp -implicitDefEqProofs (disch:=omega)[wrap64]
 exact RetK.keep (hk _ _ (H.app (show HS h [] h1 from l1)))
theorem c_nextL {h:Heap}{v:Value}{l:Las}(R:Rep h v l) (hs:l.stem.length≤65536) (hl:l.loop.length≤65536) {i:Nat}(hi:i<l.size):CallE Tryz.prog fn_impl_Lasso_next [v,.int .i64 i] h (fun u h'=>h'=h∧u=.int .i64 (l.nx i:Nat)):=by
 obtain⟨v1,v2,rfl,R1,R2⟩:=Rep_Las.1 R
 have hsz:l.size=l.stem.length+l.loop.length:=rfl
 refine CallE.gen fun k hk=>EN_impl_Lasso_next rfl ?_
 unfold Las.nx at hk
 by_cases e:i+1=l.size
 ·rw[if_pos e] at hk
  have e':(i:Int)+1=(l.stem.length:Int)+l.loop.length:=by omega
  simp -implicitDefEqProofs (disch:=first|omega|(simp only[LnZ];omega))[wrap64,R1.len,R2.len,e']
  exact RetK.keep (hk _ _ ⟨rfl,rfl⟩)
 ·rw[if_neg e] at hk
  have e':¬(i:Int)+1=(l.stem.length:Int)+l.loop.length:=by omega
  simp -implicitDefEqProofs (disch:=first|omega|(simp only[LnZ];omega))[wrap64,R1.len,R2.len,e']
  exact RetK.keep (hk _ _ ⟨rfl,by simp⟩)
theorem c_LassoValid {h:Heap}{v:Value}{l:Las}(R:Rep h v l):CallE Tryz.prog fn_impl_LassoValid [v] h (fun u h'=>h.le h'∧u=.bool (decide l.Ok)):=by
 obtain⟨v1,v2,rfl,R1,R2⟩:=Rep_Las.1 R
 have hL1:=R1.lt
 have hL2:=R2.lt
 refine CallE.gen fun k hk=>EN_impl_LassoValid rfl ?_
 simp -implicitDefEqProofs (disch:=omega)[wrap64]
 refine (c_letters R1).go ?_
 rintro _ h1 ⟨l1,rfl⟩
 by_cases q1:∀x∈l.stem,0≤x∧x≤7
 case neg=>
  have d1:decide (∀x∈l.stem,0≤x∧x≤7)=false:=decide_eq_false q1
  simp -implicitDefEqProofs (disch:=first|omega|(simp only[LnZ];omega))[wrap64,d1]
  exact RetK.keep (hk _ _ ⟨l1,by rw[decide_eq_false (fun hh:l.Ok=>q1 hh.1.1)]⟩)
 have d1:decide (∀x∈l.stem,0≤x∧x≤7)=true:=decide_eq_true q1
 simp -implicitDefEqProofs (disch:=first|omega|(simp only[LnZ];omega))[wrap64,d1]
 refine (c_letters (R2.le l1)).go ?_
 rintro _ h2 ⟨l2,rfl⟩
 by_cases q2:∀x∈l.loop,0≤x∧x≤7
 case neg=>
  have d2:decide (∀x∈l.loop,0≤x∧x≤7)=false:=decide_eq_false q2
  simp -implicitDefEqProofs (disch:=first|omega|(simp only[LnZ];omega))[wrap64,d2]
  exact RetK.keep (hk _ _ ⟨l1.trans l2,by rw[decide_eq_false (fun hh:l.Ok=>q2 hh.1.2)]⟩)
 have d2:decide (∀x∈l.loop,0≤x∧x≤7)=true:=decide_eq_true q2
 by_cases q3:(l.stem.length:Int)≤80
 case neg=>
  simp -implicitDefEqProofs (disch:=first|omega|(simp only[LnZ];omega))[wrap64,d2,R1.len,q3]
  exact RetK.keep (hk _ _ ⟨l1.trans l2,by rw[decide_eq_false (fun hh:l.Ok=>q3 (by have:=hh.2.1;omega))]⟩)
 simp -implicitDefEqProofs (disch:=first|omega|(simp only[LnZ];omega))[wrap64,d2,R1.len,q3,R2.len]
 refine c_in.go ?_
 rintro _ h2 ⟨rfl,rfl⟩
 simp -implicitDefEqProofs (disch:=omega)[wrap64]
 refine RetK.keep (hk _ _ ⟨l1.trans l2,?_⟩)
 congr 1
 rw[← Bool.decide_and]
 refine decide_eq_decide.2 ⟨fun hh=>⟨⟨q1,q2⟩,by omega,by omega,by omega⟩,fun hh=>⟨by have:=hh.2.2.1;omega,by have:=hh.2.2.2;omega⟩⟩
structure GI (N B:Nat) (E:Nat→Nat→Prop) (G:List (List Int)):Prop where
 len:G.length=N
 mem:∀x (hx:x<G.length) z,z∈G[x]↔∃y:Nat,z=y∧E x y
 row:∀x (hx:x<G.length),G[x].length≤B
theorem GI.zero {N:Nat}:GI N 0 (fun _ _=>False) (List.replicate N []):=⟨by simp,by simp,by simp⟩
theorem GI.add {N B:Nat}{E:Nat→Nat→Prop}{G:List (List Int)}(h:GI N B E G) {f t:Nat}(hf:f<G.length):GI N (B+1) (fun x y=>E x y∨(x=f∧y=t)) (G.set f (G[f]++[(t:Int)])):=by
 refine⟨by simp[h.len],fun x hx z=>?_,fun x hx=>?_⟩
 ·simp only[List.length_set] at hx
  rw[List.getElem_set]
  split
  ·rename_i e
   subst e
   rw[List.mem_append,h.mem f hf z,List.mem_singleton]
   constructor
   ·rintro (⟨y,h1,h2⟩ | h1)
    ·exact⟨y,h1,.inl h2⟩
    ·exact⟨t,h1,.inr ⟨rfl,rfl⟩⟩
   ·rintro⟨y,h1,h2 | ⟨_,h2⟩⟩
    ·exact .inl ⟨y,h1,h2⟩
    ·subst h2;exact .inr h1
  ·rename_i e
   rw[h.mem x hx z]
   constructor
   ·rintro⟨y,h1,h2⟩;exact⟨y,h1,.inl h2⟩
   ·rintro⟨y,h1,h2 | ⟨h2,_⟩⟩
    ·exact⟨y,h1,h2⟩
    ·exact absurd h2.symm e
 ·simp only[List.length_set] at hx
  rw[List.getElem_set]
  have h1:=h.row f hf
  have h2:=h.row x hx
  split
  ·simp;omega
  ·omega
theorem GI.congr {N B B':Nat}{E E':Nat→Nat→Prop}{G:List (List Int)}(h:GI N B E G) (hB:B≤B') (he:∀x y,E x y↔E' x y):GI N B' E' G:=
 ⟨h.len,fun x hx z=>by rw[h.mem x hx z];exact⟨fun ⟨y,h1,h2⟩=>⟨y,h1,(he x y).1 h2⟩,fun ⟨y,h1,h2⟩=>⟨y,h1,(he x y).2 h2⟩⟩,fun x hx=>Nat.le_trans (h.row x hx) hB⟩
theorem c_around {h:Heap}{v:Value}{G:List (List Int)}{t:Nat}(R:Rep h v G) (hn:Bf.NOk G) (hGl:G.length≤65536) (ht:t<G.length):CallE Tryz.prog fn_impl_around [v,.int .i64 t] h (fun u h'=>HS h [ow u (Bf.arn G t)] h'):=by
 obtain⟨u0,hu0,Ru⟩:=R.ldL ht
 have hg:G.getD (t:Int).toNat []=G[t]:=by simp[ht]
 refine CallE.gen fun k hk=>EN_impl_around rfl ?_
 unfold Bf.arn at hk
 rw[hg] at hk
 simp -implicitDefEqProofs (disch:=omega)[wrap64]
 refine HS.init.alloc rfl fun b2 h1 H=>?_
 have H:HS h [bx b2 [v]] h1:=by simpa[R.cells] using H
 simp -implicitDefEqProofs (disch:=omega)[wrap64]
 refine H.alloc rfl fun b3 h2 H=>?_
 have H:HS h [bx b3 [.int .i64 t],bx b2 [v]] h2:=H
 have hX:=(R.on H).X (n:=1) rfl
 simp -implicitDefEqProofs (disch:=first|omega|(simp only[LnZ];omega))[wrap64,H.sw1.bxld0,H.bxld0,hX,hload_le H.base hu0]
 refine (c_Contains_int (Ru.on H) (n:=(t:Int))).go ?_
 rintro _ _ ⟨rfl,rfl⟩
 by_cases q:(t:Int)∈G[t]
 ·rw[if_pos q] at hk
  simp -implicitDefEqProofs (disch:=first|omega|(simp only[LnZ];omega))[wrap64,q,H.bxld0]
  refine H.bls (α:=Int) [(t:Int)] rfl rfl (ok_one (by omega)) (by decide) fun u h3 H=>?_
  simp -implicitDefEqProofs (disch:=omega)[wrap64]
  exact RetK.keep (hk _ _ H.only1)
 rw[if_neg q] at hk
 simp -implicitDefEqProofs (disch:=first|omega|(simp only[LnZ];omega))[wrap64,q,H.bxld0,H.sw1.bxld0]
 refine H.bls (α:=Int) [(t:Int)] rfl rfl (ok_one (by omega)) (by decide) fun u h3 H=>?_
 simp -implicitDefEqProofs (disch:=omega)[wrap64]
 refine (c_shortestG hn (Bf.incr_one (by omega) (by omega)) hGl (R.on H) H.rep (Bf.back G t) (f:=fn_impl_around_1) (c1:=[]) (c2:=[.pointer (some ⟨b3,0,none⟩),.pointer (some ⟨b2,0,none⟩)]) rfl ?_).go ?_
 ·intro h4 l4 a haN
  obtain⟨ua,hua,Rua⟩:=R.ldL haN
  have hga:G.getD (a:Int).toNat []=G[a]:=by simp[haN]
  have l04:=H.base.trans l4
  have e2:=hload_le l4 H.sw2.bxld0
  have e3:=hload_le l4 H.sw1.bxld0
  have hXa:=(R.le l04).X (n:=1) rfl
  have hL:=R.lt
  refine CallE.gen fun k2 hk2=>EN_impl_around_1 rfl ?_
  unfold Bf.back at hk2
  rw[hga] at hk2
  by_cases q1:(a:Int)=t
  ·have q1':a=t:=by omega
   rw[decide_eq_false (fun hh:(a:Int)≠t=>hh q1)] at hk2
   simp -implicitDefEqProofs (disch:=first|omega|(simp only[LnZ];omega))[wrap64,e2,e3,q1,q1']
   exact RetK.keep (hk2 _ _ ⟨Heap.le.refl _,by simp⟩)
  ·have q1':¬a=t:=by omega
   rw[decide_eq_true (show (a:Int)≠t from q1)] at hk2
   simp -implicitDefEqProofs (disch:=first|omega|(simp only[LnZ];omega))[wrap64,e2,e3,q1,q1',hXa,hload_le l04 hua]
   refine (c_Contains_int (Rua.le l04) (n:=(t:Int))).go ?_
   rintro _ _ ⟨rfl,rfl⟩
   simp -implicitDefEqProofs (disch:=omega)[wrap64]
   exact RetK.keep (hk2 _ _ ⟨Heap.le.refl _,by simp⟩)
 ·intro u2 h5 H5
  have H:=H5.app H
  simp -implicitDefEqProofs (disch:=omega)[wrap64]
  exact RetK.keep (hk _ _ H.only1)
noncomputable def Bf.lasS (G:List (List Int)) (S:List Int) (g:Int→Bool):List Int:=match (fin G S).2.find? g with
 | some t=>(path G S t).dropLast
 | none=>[]
noncomputable def Bf.lasL (G:List (List Int)) (S:List Int) (g:Int→Bool):List Int:=match (fin G S).2.find? g with
 | some t=>arn G t
 | none=>[]
theorem find_take {α:Type}{p:α→Bool}{l:List α}{i:Nat}(hi:i<l.length) (h:p l[i]=true) (hno:∀j (hj:j<i),p (l[j]'(by omega))=false):l.find? p=some l[i]:=by
 rw[List.find?_eq_some_iff_getElem]
 exact⟨h,i,hi,rfl,fun j hj=>by rw[hno j hj];rfl⟩
set_option maxHeartbeats 1000000 in
theorem c_lasso {h:Heap}{v w fv:Value}{G:List (List Int)}{S:List Int}{E:Nat→Nat→Prop}(hn:Bf.NOk G) (hE:∀x y:Nat,E x y↔x<G.length∧(y:Int)∈G.getD x []) (hS:incr G.length (-1) S) (hGl:G.length≤65536) (R:Rep h v G) (Rs:Rep h w S) (ac:Int→Bool) {f:FuncId}{c1 c2:List Value}(hf:fnOf fv=some (f,c1,c2))
  (hp:∀h1,h.le h1→∀a:Nat,a<G.length→CallE Tryz.prog f (c1++.int .i64 a::c2) h1 (fun u h'=>h1.le h'∧u=.bool (ac a))) (g:Int→Bool) (hg:∀a:Nat,a<G.length→(g a=true↔ac a=true∧Cyc E a)) :
  CallE Tryz.prog fn_impl_lasso [v,w,fv] h (fun u h'=>∃u1 u2,u=.tuple #[u1,u2,.bool ((Bf.fin G S).2.find? g).isSome]∧HS h [ow u1 (Bf.lasS G S g),ow u2 (Bf.lasL G S g)] h'):=by
 have hadj:Adj E G:=by
  refine⟨fun x y hxy=>?_,fun x hx z=>?_⟩
  ·have h1:=(hE x y).1 hxy
   have h2:=hn.ent _ (Bf.row_mem h1.1) _ h1.2
   exact⟨h1.1,by omega⟩
  ·have e:G.getD x []=G[x]:=by simp[hx]
   constructor
   ·intro hz
    have h2:=hn.ent _ (List.getElem_mem hx) z hz
    obtain⟨y,rfl⟩:∃y:Nat,z=y:=⟨z.toNat,by omega⟩
    exact⟨y,rfl,(hE x y).2 ⟨hx,by rw[e];exact hz⟩⟩
   ·rintro⟨y,rfl,hy⟩
    have:=((hE x y).1 hy).2
    rw[e] at this
    exact this
 have finv:=(Bf.sN_inv hn hS G.length).1
 have hfin:Bf.sN G S G.length=Bf.fin G S:=rfl
 rw[hfin] at finv
 refine CallE.gen fun k hk=>EN_impl_lasso rfl ?_
 unfold Bf.lasS Bf.lasL at hk
 simp -implicitDefEqProofs (disch:=omega)[wrap64]
 refine (c_cyclic R hadj (by omega)).go ?_
 rintro vc h1 ⟨C,H,hCl,hC⟩
 simp -implicitDefEqProofs (disch:=omega)[wrap64]
 refine (c_order (R.on H) (Rs.on H) hn hS hGl).go ?_
 intro vo h2 H2
 have H:=H2.app H
 clear H2
 have hple:=finv.le
 have hord:=H.rep.lt
 simp -implicitDefEqProofs (disch:=first|omega|(simp only[LnZ];omega))[wrap64,H.rep.len]
 have path_some:=fun (t:Int) (ht:t∈(Bf.fin G S).2)=>Bf.path_ok hn hS ht
 generalize hF:(Bf.fin G S).2=F at *
 refine wp_count F.length (fun i e h'=>e=[some v,some w,some fv,none,none,none,some vc,none,none,some vo,some (.int .i64 F.length),some (.int .i64 i)]∧HS h [ow vo F,ow vc C] h'∧∀(j:Nat) (hj:j<F.length),j<i→g F[j]=false) ⟨by simp,H,fun j _ hj=>absurd hj (Nat.not_lt_zero j)⟩ ?_
 clear H
 rintro J i _ h3 hJ hi ⟨rfl,H,hno⟩
 simp -implicitDefEqProofs (disch:=omega)[wrap64]
 refine IteW.mk (fun hlt=>?_) (fun hge=>?_)
 ·have hix:i<F.length:=by omega
  have hat:=finv.inq F[i] (by rw[hF];exact List.getElem_mem hix)
  obtain⟨t,ht⟩:∃t:Nat,F[i]=t:=⟨F[i].toNat,by omega⟩
  rw[ht] at hat
  have htN:t<G.length:=by omega
  have hgt:=hg t htN
  have hCt:=hC t htN
  have tC:tru C t↔C[t]'(by omega)=true:=tru_get (by omega)
  have next:g (t:Int)=false→∀(j:Nat) (hj:j<F.length),j<i+1→g F[j]=false:=fun hh j hj hji=>by
   by_cases e:j=i
   ·subst e;rw[ht];exact hh
   ·exact hno j hj (by omega)
  simp -implicitDefEqProofs (disch:=first|omega|(simp only[LnZ];omega))[wrap64,H.rep.I,ht]
  refine H.alloc rfl fun b7 h4 H=>?_
  simp -implicitDefEqProofs (disch:=omega)[wrap64]
  refine H.bxst (u:=.int .i64 t) rfl rfl rfl rfl (by simp) fun h5 H=>?_
  have H:HS h [bx b7 [.int .i64 t],ow vo F,ow vc C] h5:=H
  simp -implicitDefEqProofs (disch:=first|omega|(simp only[LnZ];omega))[wrap64,H.bxld0,hf]
  refine (hp h5 H.base t htN).go ?_
  rintro _ h6 ⟨l6,rfl⟩
  have H:=H.le l6
  cases q1:ac t with
  | false=>
   simp -implicitDefEqProofs (disch:=first|omega|(simp only[LnZ];omega))[wrap64,q1]
   exact hJ _ _ hix ⟨by simp,H.drop,next (by
    cases q:g t with
    | false=>rfl
    | true=>have:=(hgt.1 q).1;rw[q1] at this;exact absurd this (by decide))⟩
  | true=>
  cases q2:C[t]'(by omega) with
  | false=>
   simp -implicitDefEqProofs (disch:=first|omega|(simp only[LnZ];omega))[wrap64,q1,H.bxld0,H.sw2.rep.B,q2]
   exact hJ _ _ hix ⟨by simp,H.drop,next (by
    cases q:g t with
    | false=>rfl
    | true=>have:=tC.1 (hCt.2 (hgt.1 q).2);rw[q2] at this;exact absurd this (by decide))⟩
  | true=>
   have hcyc:Cyc E t:=hCt.1 (tC.2 q2)
   have hgtt:g t=true:=hgt.2 ⟨q1,hcyc⟩
   have hfd:F.find? g=some (t:Int):=by
    have:=find_take (p:=g) hix (by rw[ht];exact hgtt) (fun j hj=>hno j (by omega) hj)
    rw[this,ht]
   have hmem:(t:Int)∈F:=by rw[← ht];exact List.getElem_mem hix
   have hft:F.find? (fun n=>decide (n=(t:Int)))=some (t:Int):=by
    cases hq:F.find? (fun n=>decide (n=(t:Int))) with
    | none=>
     rw[List.find?_eq_none] at hq
     have:=hq t hmem
     simp at this
    | some y=>
     have:=List.find?_some hq
     simp only[decide_eq_true_eq] at this
     rw[this]
   have hpo:=path_some t hmem
   have hhit:Bf.hitL G S (fun n=>decide (n=(t:Int)))=Bf.path G S t:=by
    unfold Bf.hitL
    rw[hF,hft]
   rw[hfd] at hk
   simp only[Option.isSome_some] at hk
   simp -implicitDefEqProofs (disch:=first|omega|(simp only[LnZ];omega))[wrap64,q1,H.bxld0,H.sw2.rep.B,q2]
   refine (c_shortestG hn hS hGl (R.on H) (Rs.on H) (fun n=>decide (n=(t:Int))) (f:=fn_impl_lasso_1) (c1:=[]) (c2:=[.pointer (some ⟨b7,0,none⟩)]) rfl ?_).go ?_
   ·intro h8 l8 a haN
    have e7:=hload_le l8 H.bxld0
    refine CallE.gen fun k2 hk2=>EN_impl_lasso_1 rfl ?_
    by_cases q3:(a:Int)=t
    ·have q3':a=t:=by omega
     simp -implicitDefEqProofs (disch:=first|omega|(simp only[LnZ];omega))[wrap64,e7,q3,q3']
     exact RetK.keep (hk2 _ _ ⟨Heap.le.refl _,by simp[q3]⟩)
    ·have q3':¬a=t:=by omega
     simp -implicitDefEqProofs (disch:=first|omega|(simp only[LnZ];omega))[wrap64,e7,q3,q3']
     exact RetK.keep (hk2 _ _ ⟨Heap.le.refl _,by rw[decide_eq_false q3]⟩)
   ·intro up h9 H9
    rw[hhit] at H9
    have H:=H9.app H
    obtain⟨l0,hl0⟩:=hpo.2.2.last
    have hpl:=hpo.2.1
    rw[hl0] at H hk hpl
    simp only[List.dropLast_concat] at hk
    simp only[List.length_append,List.length_singleton] at hpl
    obtain⟨v',hv',H'⟩:=H.cut (n:=l0.length) (esz:=1) (k:=.i64) (by simp)
    rw[List.take_left' rfl] at H'
    have hlen:=H.rep.len
    simp only[List.length_append,List.length_singleton] at hlen
    push_cast at hlen
    have hsub:(l0.length:Int)+1-1=l0.length:=by omega
    simp -implicitDefEqProofs (disch:=first|omega|(simp only[LnZ];omega))[wrap64,hlen,hsub,hv',H.sw1.bxld0]
    refine (c_around (R.on H') hn hGl htN).go ?_
    intro ua h10 H10
    have H:=H10.app H'
    simp -implicitDefEqProofs (disch:=omega)[wrap64]
    exact RetK.keep (hk _ _ ⟨v',ua,rfl,(H.sw1.under fun _ H=>H.only1)⟩)
 ·have hfd:F.find? g=none:=by
   rw[List.find?_eq_none]
   intro x hx
   obtain⟨j,hj,rfl⟩:=List.mem_iff_getElem.1 hx
   rw[hno j hj (by omega)];simp
  rw[hfd] at hk
  simp only[Option.isSome_none] at hk
  simp -implicitDefEqProofs (disch:=omega)[wrap64]
  exact RetK.keep (hk _ _ ⟨_,_,rfl,(HS.nil_ow (Γ:=[]) H.base).nil_ow⟩)
theorem vals_take {a:Aut}{l:List Int}{i:Nat}(h1:1≤i) (hi:i<l.length):Bf.vals a (l.take (i+1))=Bf.vals a (l.take i)++[Bf.ev a (l[i-1]'(by omega)) l[i]]:=by
 obtain⟨j,rfl⟩:∃j,i=j+1:=⟨i-1,by omega⟩
 have e1:l.take (j+1)=l.take j++[l[j]'(by omega)]:=by
  rw[List.take_add_one,List.getElem?_eq_getElem (by omega)];rfl
 have e2:l.take (j+1+1)=l.take j++[l[j]'(by omega)]++[l[j+1]]:=by
  rw[List.take_add_one,List.getElem?_eq_getElem hi,e1];rfl
 rw[e2,Bf.vals_snoc,e1]
 rfl
theorem c_values {h:Heap}{v w:Value}{a:Aut}{l:List Int}(Ra:Rep h v a) (Rl:Rep h w l) (ha:a.Ok) (hl:l.length≤1048576) (hj:Bf.Joined (Bf.Ed (Bf.nx a)) l):CallE Tryz.prog fn_impl_Automaton_values [v,w] h (fun u h'=>HS h [ow u (Bf.vals a l)] h'):=by
 obtain⟨v1,v2,v3,rfl,R1,R2,R3⟩:=Rep_Aut.1 Ra
 have he:=ha.e
 refine CallE.gen fun k hk=>EN_impl_Automaton_values rfl ?_
 simp -implicitDefEqProofs (disch:=omega)[wrap64]
 refine HS.init.alloc rfl fun b3 h1 H=>?_
 have H:HS h [bx b3 [w]] h1:=by simpa[Rl.cells] using H
 simp -implicitDefEqProofs (disch:=omega)[wrap64]
 refine H.alloc rfl fun b6 h2 H=>?_
 simp -implicitDefEqProofs (disch:=omega)[wrap64]
 refine H.bxst (u:=.int .i64 1) rfl rfl rfl rfl (by simp) fun h3 H=>?_
 have H:HS h [bx b6 [.int .i64 1],bx b3 [w]] h3:=H
 simp -implicitDefEqProofs (disch:=omega)[wrap64]
 refine wp_while (σ:=Nat) (fun i e h'=>∃(b6:Nat) (o:Value),e=[none,none,some (.agg #[v1,v2,v3]),some (.pointer (some ⟨b3,0,none⟩)),none,some o,some (.pointer (some ⟨b6,0,none⟩)),none,none]∧1≤i∧i≤l.length+1∧HS h [bx b6 [.int .i64 i],ow o (Bf.vals a (l.take i)),bx b3 [w]] h') (fun i=>l.length+1-i) 1 ⟨b6,.slice none 0 0,by simp,by omega,by omega,by
  have e:Bf.vals a (l.take 1)=[]:=by
   cases l with
   | nil=>rfl
   | cons x l=>rfl
  rw[e]
  exact (H.nil_ow (α:=Int)).sw1⟩ ?_
 clear H
 rintro J i _ h4 hJ ⟨b6,o,rfl,hi1,hi2,H⟩
 have HP:=H.sw2
 have hlw:=(Rl.on H).len
 simp -implicitDefEqProofs (disch:=first|omega|(simp only[LnZ];omega))[wrap64,H.bxld0,HP.bxld0,hlw]
 refine IteW.mk (fun hlt=>?_) (fun hge=>?_)
 ·have hil:i<l.length:=by omega
  have hed:=(Bf.nx_Ed ha).1 (hj.at (i-1) (by omega))
  have hi':i-1+1=i:=by omega
  have hed:∃e∈a.edges,e.frm=l[i-1]'(by omega)∧e.to=l[i]:=by
   obtain⟨e,he1,he2,he3⟩:=hed
   refine⟨e,he1,he2,?_⟩
   rw[he3]
   congr 1
  have hvt:=vals_take (a:=a) hi1 hil
  obtain⟨P,hP⟩:∃P:Tr→Bool,P=fun e=>decide (e.frm=l[i-1]'(by omega)∧e.to=l[i]):=⟨_,rfl⟩
  have hlen2:=Bf.vals_len (a:=a) (l:=l.take i)
  rw[List.length_take] at hlen2
  simp -implicitDefEqProofs (disch:=omega)[wrap64]
  refine (c_IndexFunc_impl_Transition (R3.on H) (f:=fn_impl_Automaton_values_1) (c1:=[]) (c2:=[.pointer (some ⟨b3,0,none⟩),.pointer (some ⟨b6,0,none⟩)]) rfl P ?_).go ?_
  ·intro h5 l5 k hk2 u Ru
   have e6:=hload_le l5 H.bxld0
   have e3:=hload_le l5 HP.bxld0
   have RI:=((Rl.on H).le l5).I
   obtain⟨hu,hok⟩:=Rep_Tr.1 Ru
   obtain⟨j,hj2⟩:∃j,i=j+1:=⟨i-1,by omega⟩
   subst hj2
   have hsub:((j+1:Nat):Int)-1=(j:Int):=by omega
   have hw:l[j+1-1]'(by omega)=l[j]'(by omega):=rfl
   rw[hP]
   simp only
   rw[hw]
   subst hu
   refine CallE.gen fun k2 hk3=>EN_impl_Automaton_values_1 rfl ?_
   have hlt63:=Rl.lt
   by_cases q1:a.edges[k].frm=l[j]'(by omega)
   ·by_cases q2:a.edges[k].to=l[j+1]
    ·simp -implicitDefEqProofs (disch:=first|omega|(simp only[LnZ];omega))[wrap64,Tr.v,e6,e3,hsub,RI,q1,q2]
     exact RetK.keep (hk3 _ _ ⟨Heap.le.refl _,by rw[decide_eq_true ⟨q1,q2⟩]⟩)
    ·simp -implicitDefEqProofs (disch:=first|omega|(simp only[LnZ];omega))[wrap64,Tr.v,e6,e3,hsub,RI,q1,q2]
     exact RetK.keep (hk3 _ _ ⟨Heap.le.refl _,by rw[decide_eq_false (fun hh:_∧_=>q2 hh.2)]⟩)
   ·simp -implicitDefEqProofs (disch:=first|omega|(simp only[LnZ];omega))[wrap64,Tr.v,e6,e3,hsub,RI,q1]
    exact RetK.keep (hk3 _ _ ⟨Heap.le.refl _,by rw[decide_eq_false (fun hh:_∧_=>q1 hh.1)]⟩)
  ·rintro _ h6 ⟨l6,rfl⟩
   have H:=H.le l6
   cases hq:a.edges.findIdx? P with
   | none=>
    rw[List.findIdx?_eq_none_iff] at hq
    obtain⟨e,he1,he2⟩:=hed
    have:=hq e he1
    rw[hP] at this
    simp[he2] at this
   | some k=>
    obtain⟨hkl,hk1,hk2⟩:=List.findIdx?_eq_some_iff_getElem.1 hq
    have hev:Bf.ev a (l[i-1]'(by omega)) l[i]=a.edges[k].value:=by
     unfold Bf.ev
     have:a.edges.find? (fun e=>decide (e.frm=l[i-1]'(by omega)∧e.to=l[i]))=some a.edges[k]:=by
      rw[← hP]
      exact find_take hkl hk1 (fun j hj=>by simpa using hk2 j hj)
     rw[this]
    have hok:=(R3.okTr hkl)
    rw[hev] at hvt
    simp -implicitDefEqProofs (disch:=first|omega|(simp only[LnZ];omega))[wrap64,(R3.on H).xTr,(R3.on H).fTr]
    refine HS.app1 (bytes:=8) H.sw1 a.edges[k].value rfl rfl rfl hok.value rfl rfl (by omega) (by omega) fun o' h7 H=>?_
    simp -implicitDefEqProofs (disch:=first|omega|(simp only[LnZ];omega))[wrap64,H.sw1.bxld0]
    refine H.alloc rfl fun b6' h8 H=>?_
    simp -implicitDefEqProofs (disch:=omega)[wrap64]
    refine H.bxst (u:=.int .i64 i) rfl rfl rfl rfl (by simp) fun h9 H=>?_
    have H:HS h [bx b6' [.int .i64 i],ow o' (Bf.vals a (l.take i)++[a.edges[k].value]),bx b6 [.int .i64 i],bx b3 [w]] h9:=H
    simp -implicitDefEqProofs (disch:=first|omega|(simp only[LnZ];omega))[wrap64,H.bxld0]
    refine H.bxst (u:=.int .i64 ((i:Int)+1)) rfl rfl rfl rfl (by simp) fun h10 H=>?_
    have H:HS h [bx b6' [.int .i64 ((i:Int)+1)],ow o' (Bf.vals a (l.take i)++[a.edges[k].value]),bx b6 [.int .i64 i],bx b3 [w]] h10:=H
    simp -implicitDefEqProofs (disch:=omega)[wrap64]
    refine hJ (i+1) _ _ (by omega) ⟨b6',o',by simp,by omega,by omega,?_⟩
    rw[hvt]
    exact H.under fun _ H=>H.under fun _ H=>H.drop
 ·have hall:l.take i=l:=List.take_of_length_le (by omega)
  rw[hall] at H
  simp -implicitDefEqProofs (disch:=omega)[wrap64]
  refine (c_Clip_int H.sw1).go ?_
  intro o' h5 H
  simp -implicitDefEqProofs (disch:=omega)[wrap64]
  exact RetK.keep (hk _ _ H.only1)
theorem c_l10Sorted {g h:Heap}{Γ:List HP}{v:Value}{l:List Int}{n y:Int}(H:HS g (ow v l::Γ) h) (hl:incr n (-1) l) (hy:-1<y∧y<n) (hn:n≤1048576):CallE Tryz.prog fn_spec_l10Sorted [v,.int .i64 y] h (fun u h'=>∃l',HS g (ow u l'::Γ) h'∧incr n (-1) l'∧∀x,x∈l'↔x∈l∨x=y):=by
 have hll:=incr_len hl (by omega)
 have hp:=(incr_iff.1 hl).1
 refine CallE.gen fun k hk=>EN_spec_l10Sorted rfl ?_
 simp -implicitDefEqProofs (disch:=omega)[wrap64]
 refine H.bls0 Int fun o h1 H=>?_
 simp -implicitDefEqProofs (disch:=omega)[wrap64]
 refine wp_count l.length (fun i e h'=>∃o dn,e=[some v,some (.int .i64 y),none,some o,some (.bool dn),some (.int .i64 i)]∧∃O:List Int,HS g (ow o O::ow v l::Γ) h'∧InsI l y i dn O) ⟨o,false,by simp,[],H,InsI.zero⟩ ?_
 clear H
 rintro J i _ h2 hJ hi ⟨o,dn,rfl,O,H,hI⟩
 have hol:=hI.len
 simp -implicitDefEqProofs (disch:=first|omega|(simp only[LnZ];omega))[wrap64,H.sw1.rep.len]
 refine IteW.mk (fun hlt=>?_) (fun hge=>?_)
 ·have hix:i<l.length:=by omega
  have hxb:=H.sw1.rep.okI hix
  by_cases h1:l[i]=y
  ·simp -implicitDefEqProofs (disch:=first|omega|(simp only[LnZ];omega))[wrap64,H.sw1.rep.I,h1]
   refine RetK.keep (hk _ _ ⟨l,H.drop,hl,fun x=>⟨.inl,fun hh=>hh.elim id fun e=>?_⟩⟩)
   rw[e,← h1];exact List.getElem_mem hix
  by_cases h2:y<l[i]
  ·cases dn with
   | false=>
    simp -implicitDefEqProofs (disch:=first|omega|(simp only[LnZ];omega))[wrap64,H.sw1.rep.I,h1,h2]
    refine H.app1 y rfl rfl rfl ⟨by omega,by omega⟩ rfl rfl (by omega) (by omega) fun o1 h3 H=>?_
    simp -implicitDefEqProofs (disch:=first|omega|(simp only[LnZ];omega))[wrap64,H.sw1.rep.I]
    refine H.app1 l[i] rfl rfl rfl hxb rfl rfl (by simp;omega) (by simp;omega) fun o2 h4 H=>?_
    simp -implicitDefEqProofs (disch:=omega)[wrap64]
    exact hJ _ _ hix ⟨o2,true,rfl,_,H,hI.big hp hix h2⟩
   | true=>
    simp -implicitDefEqProofs (disch:=first|omega|(simp only[LnZ];omega))[wrap64,H.sw1.rep.I,h1,h2]
    refine H.app1 l[i] rfl rfl rfl hxb rfl rfl (by omega) (by omega) fun o2 h4 H=>?_
    simp -implicitDefEqProofs (disch:=omega)[wrap64]
    exact hJ _ _ hix ⟨o2,true,rfl,_,H,hI.more hix h1⟩
  ·simp -implicitDefEqProofs (disch:=first|omega|(simp only[LnZ];omega))[wrap64,H.sw1.rep.I,h1,h2]
   refine H.app1 l[i] rfl rfl rfl hxb rfl rfl (by omega) (by omega) fun o2 h4 H=>?_
   simp -implicitDefEqProofs (disch:=omega)[wrap64]
   refine hJ _ _ hix ⟨o2,dn,rfl,_,H,?_⟩
   cases dn with
   | false=>exact hI.small hix (by omega)
   | true=>exact hI.more hix h1
 ·obtain⟨r1,r2⟩:=hI.result hl hy (by omega)
  cases dn with
  | false=>
   simp -implicitDefEqProofs (disch:=omega)[wrap64]
   refine H.app1 y rfl rfl rfl ⟨by omega,by omega⟩ rfl rfl (by omega) (by omega) fun o1 h3 H=>?_
   simp -implicitDefEqProofs (disch:=omega)[wrap64]
   exact RetK.keep (hk _ _ ⟨_,H.sw1.drop,r1,r2⟩)
  | true=>
   simp -implicitDefEqProofs (disch:=omega)[wrap64]
   exact RetK.keep (hk _ _ ⟨_,H.sw1.drop,r1,r2⟩)
def R2 {α:Type} [Ty α] (b:Bool) (y:α) (h:Heap) (u:Value) (h':Heap):Prop:=∃v,u=.tuple #[v,.bool b]∧HS h [ow v y] h'
theorem c_l6Letters {h:Heap}{w:Value}{W:List Int}(Rw:Rep h w W):CallE Tryz.prog fn_spec_l6Letters [w] h (fun u h'=>h'=h∧u=.bool (decide (∀x∈W,0≤x∧x≤7))):=by
 have hL:=Rw.lt
 refine CallE.gen fun k hk=>EN_spec_l6Letters rfl ?_
 simp -implicitDefEqProofs (disch:=omega)[wrap64]
 refine wp_count W.length (fun i e h'=>e=[some w,none,some (.int .i64 i)]∧h'=h∧∀(j:Nat) (hj:j<W.length),j<i→0≤W[j]∧W[j]≤7) ⟨rfl,rfl,fun j _ hj=>absurd hj (Nat.not_lt_zero j)⟩ ?_
 rintro J i _ h1 hJ hi ⟨rfl,rfl,hn⟩
 simp -implicitDefEqProofs (disch:=first|omega|(simp only[LnZ];omega))[wrap64,Rw.len]
 refine IteW.mk (fun hlt=>?_) (fun hge=>?_)
 ·have hlx:i<W.length:=by omega
  have hno:¬(0≤W[i]∧W[i]≤7)→k (.bool false) h1:=fun hx=>hk _ _ ⟨rfl,by congr 1;rw[eq_comm,decide_eq_false_iff_not];exact fun hh=>hx (hh _ (List.getElem_mem hlx))⟩
  by_cases h1:W[i]<0
  ·simp -implicitDefEqProofs (disch:=first|omega|(simp only[LnZ];omega))[wrap64,Rw.I,h1]
   exact RetK.keep (hno (by omega))
  by_cases h2:7<W[i]
  ·simp -implicitDefEqProofs (disch:=first|omega|(simp only[LnZ];omega))[wrap64,Rw.I,h1,h2]
   exact RetK.keep (hno (by omega))
  simp -implicitDefEqProofs (disch:=first|omega|(simp only[LnZ];omega))[wrap64,Rw.I,h1,h2]
  refine hJ _ _ hlx ⟨rfl,rfl,fun j hj hji=>?_⟩
  by_cases hji2:j=i
  ·subst hji2;omega
  ·exact hn j hj (by omega)
 ·simp -implicitDefEqProofs (disch:=omega)[wrap64]
  refine RetK.keep (hk _ _ ⟨rfl,?_⟩)
  congr 1
  rw[eq_comm,decide_eq_true_iff]
  intro x hx
  obtain⟨j,hj,rfl⟩:=List.mem_iff_getElem.1 hx
  exact hn j hj (by omega)
theorem c_l12Word {h:Heap}{w:Value}{W:List Int}(Rw:Rep h w W):CallE Tryz.prog fn_spec_l12Word [w] h (fun u h'=>h'=h∧u=.bool (decide (Wok W))):=by
 have hL:=Rw.lt
 refine CallE.gen fun k hk=>EN_spec_l12Word rfl ?_
 simp -implicitDefEqProofs (disch:=omega)[wrap64]
 refine (c_l6Letters Rw).go ?_
 rintro _ _ ⟨rfl,rfl⟩
 by_cases h1:∀x∈W,0≤x∧x≤7
 ·rw[decide_eq_true h1]
  simp -implicitDefEqProofs (disch:=first|omega|(simp only[LnZ];omega))[wrap64,Rw.len]
  refine RetK.keep (hk _ _ ⟨rfl,?_⟩)
  congr 1
  rw[Bool.eq_iff_iff,decide_eq_true_iff,decide_eq_true_iff]
  exact⟨fun h=>⟨by omega,h1⟩,fun h=>by have:=h.1;omega⟩
 ·rw[decide_eq_false h1]
  simp -implicitDefEqProofs (disch:=omega)[wrap64]
  refine RetK.keep (hk _ _ ⟨rfl,?_⟩)
  congr 1
  rw[eq_comm,decide_eq_false_iff_not]
  exact fun hh=>h1 hh.2
theorem c_l12Only {h:Heap}{s l:Value}{S:List Int}{L:List Bool}(Rs:Rep h s S) (Rl:Rep h l L) (hS:∀x∈S,0≤x∧x<L.length) (hSl:S.length≤1048576):CallE Tryz.prog fn_spec_l12Only [s,l] h (fun u h'=>HS h [ow u (S.filter fun x=>L.getD x.toNat false)] h'):=by
 have hll:=Rl.lt
 refine CallE.gen fun k hk=>EN_spec_l12Only rfl ?_
 simp -implicitDefEqProofs (disch:=omega)[wrap64]
 refine HS.init.bls0 Int fun o h1 H=>?_
 simp -implicitDefEqProofs (disch:=omega)[wrap64]
 refine wp_count S.length (fun i e h'=>∃o,e=[some s,some l,none,some o,some (.int .i64 i)]∧HS h [ow o ((S.take i).filter fun x=>L.getD x.toNat false)] h') ⟨o,by simp,by simpa using H⟩ ?_
 clear H
 rintro J i _ h2 hJ hi ⟨o,rfl,H⟩
 have hfl:=List.length_filter_le (fun x:Int=>L.getD x.toNat false) (S.take i)
 simp only[List.length_take] at hfl
 simp -implicitDefEqProofs (disch:=first|omega|(simp only[LnZ];omega))[wrap64,(Rs.on H).len]
 refine IteW.mk (fun hlt=>?_) (fun hge=>?_)
 ·have hix:i<S.length:=by omega
  have hx:=hS _ (List.getElem_mem hix)
  obtain⟨q,hq⟩:∃q:Nat,S[i]=q:=⟨S[i].toNat,by omega⟩
  have hqn:q<L.length:=by omega
  have hgd:L.getD q false=L[q]:=by simp[hqn]
  have hfm:(S.take (i+1)).filter (fun x=>L.getD x.toNat false)=(S.take i).filter (fun x=>L.getD x.toNat false)++if L[q] then [(q:Int)] else []:=by
   rw[List.take_add_one,List.getElem?_eq_getElem hix,List.filter_append]
   congr 1
   simp only[Option.toList_some,List.filter_cons,List.filter_nil,hq,Int.toNat_natCast,hgd]
  cases hb:L[q] with
  | true=>
   simp -implicitDefEqProofs (disch:=first|omega|(simp only[LnZ];omega))[wrap64,(Rs.on H).I,hq,(Rl.on H).B,hb]
   refine H.app1 (q:Int) rfl rfl rfl ⟨by omega,by omega⟩ rfl rfl (by omega) (by omega) fun o' h3 H=>?_
   simp -implicitDefEqProofs (disch:=omega)[wrap64]
   refine hJ _ _ hix ⟨o',rfl,?_⟩
   rw[hfm,hb];exact H
  | false=>
   simp -implicitDefEqProofs (disch:=first|omega|(simp only[LnZ];omega))[wrap64,(Rs.on H).I,hq,(Rl.on H).B,hb]
   refine hJ _ _ hix ⟨o,rfl,?_⟩
   rw[hfm,hb];simpa using H
 simp -implicitDefEqProofs (disch:=omega)[wrap64]
 rw[List.take_of_length_le (by omega)] at H
 exact RetK.keep (hk _ _ H)
theorem c_l12Step {h:Heap}{v s:Value}{a:Aut}{S:List Int}{letter:Int}(Ra:Rep h v a) (Rs:Rep h s S) (ha:a.Ok):CallE Tryz.prog fn_spec_l12Step [v,s,.int .i64 letter] h (fun u h'=>∃T,HS h [ow u T] h'∧incr a.acc.length (-1) T∧∀x,x∈T↔∃e∈a.edges,e.frm∈S∧e.on letter=true∧e.to=x):=by
 obtain⟨v1,v2,v3,rfl,R1,R2,R3⟩:=Rep_Aut.1 Ra
 have hn:=ha.n
 have he:=ha.e
 refine CallE.gen fun k hk=>EN_spec_l12Step rfl ?_
 simp -implicitDefEqProofs (disch:=omega)[wrap64]
 refine HS.init.bls0 Int fun o h1 H=>?_
 simp -implicitDefEqProofs (disch:=omega)[wrap64]
 refine wp_count a.edges.length (fun i e h'=>∃o,e=[none,some s,some (.int .i64 letter),some (.agg #[v1,v2,v3]),none,some o,some (.int .i64 i)]∧∃T:List Int,HS h [ow o T] h'∧incr a.acc.length (-1) T∧∀x,x∈T↔∃e∈a.edges.take i,e.frm∈S∧e.on letter=true∧e.to=x) ⟨o,by simp,[],H,trivial,by simp⟩ ?_
 clear H
 rintro J i _ h2 hJ hi ⟨o,rfl,T,H,hT,hTm⟩
 simp -implicitDefEqProofs (disch:=first|omega|(simp only[LnZ];omega))[wrap64,(R3.on H).len]
 refine IteW.mk (fun hlt=>?_) (fun hge=>?_)
 ·have hix:i<a.edges.length:=by omega
  have hx:=ha.t hix
  have hv:=R3.okTr hix
  unfold Tr.Ok at hx
  have hstep:∀T':List Int,(∀x,x∈T'↔x∈T∨(a.edges[i].frm∈S∧a.edges[i].on letter=true∧a.edges[i].to=x))→∀x,x∈T'↔∃e∈a.edges.take (i+1),e.frm∈S∧e.on letter=true∧e.to=x:=by
   intro T' hT' x
   rw[hT',hTm]
   constructor
   ·rintro (⟨e,h1,h2⟩ | h1)
    ·exact⟨e,(take_mem_succ hix).2 (.inl h1),h2⟩
    ·exact⟨_,(take_mem_succ hix).2 (.inr rfl),h1⟩
   ·rintro⟨e,h1,h2⟩
    rcases (take_mem_succ hix).1 h1 with h1 | rfl
    ·exact .inl ⟨e,h1,h2⟩
    ·exact .inr h2
  simp -implicitDefEqProofs (disch:=first|omega|(simp only[LnZ];omega))[wrap64,(R3.on H).xTr,(R3.on H).fTr,Tr.v]
  refine (c_l4In (Rs.on H)).go ?_
  rintro _ _ ⟨rfl,rfl⟩
  by_cases h1:a.edges[i].frm∈S
  case neg=>
   simp -implicitDefEqProofs (disch:=first|omega|(simp only[LnZ];omega))[wrap64,h1]
   exact hJ _ _ hix ⟨o,by simp,T,H,hT,hstep T fun x=>⟨.inl,fun hh=>hh.elim id fun hh=>absurd hh.1 h1⟩⟩
  simp -implicitDefEqProofs (disch:=first|omega|(simp only[LnZ];omega))[wrap64,h1,(R3.on H).xTr,Tr.v]
  refine (c_l7On (t:=a.edges[i]) (Rep_Tr.2 ⟨by simp[Tr.v],hv⟩)).go ?_
  rintro _ _ ⟨rfl,rfl⟩
  by_cases h3:a.edges[i].on letter=true
  case neg=>
   simp -implicitDefEqProofs (disch:=first|omega|(simp only[LnZ];omega))[wrap64,h3]
   exact hJ _ _ hix ⟨o,by simp,T,H,hT,hstep T fun x=>⟨.inl,fun hh=>hh.elim id fun hh=>absurd hh.2.1 h3⟩⟩
  simp -implicitDefEqProofs (disch:=first|omega|(simp only[LnZ];omega))[wrap64,h3,(R3.on H).xTr,(R3.on H).fTr,Tr.v]
  refine (c_l10Sorted H hT (by omega) (by omega)).go ?_
  rintro o' h4 ⟨T',H,hT',hTm'⟩
  simp -implicitDefEqProofs (disch:=omega)[wrap64]
  refine hJ _ _ hix ⟨o',by simp,T',H,hT',hstep T' fun x=>?_⟩
  rw[hTm']
  constructor
  ·rintro (h5 | h5)
   ·exact .inl h5
   ·exact .inr ⟨h1,h3,h5.symm⟩
  ·rintro (h5 | h5)
   ·exact .inl h5
   ·exact .inr h5.2.2.symm
 simp -implicitDefEqProofs (disch:=omega)[wrap64]
 rw[List.take_of_length_le (by omega)] at hTm
 exact RetK.keep (hk _ _ ⟨T,H,hT,hTm⟩)
theorem c_l12States {h:Heap}{v w:Value}{a:Aut}{W:List Int}(Ra:Rep h v a) (Rw:Rep h w W) (ha:a.Ok):CallE Tryz.prog fn_spec_l12States [v,w] h (fun u h'=>HS h [ow u (a.states W)] h'):=by
 obtain⟨v1,v2,v3,rfl,R1,R2,R3⟩:=Rep_Aut.1 Ra
 have hn:=ha.n
 have hil:=ha.il
 have hwl:=Rw.lt
 have hfil:∀{L:List Bool}{S:List Int},L.length=a.acc.length→(∀q,tru L q↔q<a.acc.length∧a.Live q)→incr a.acc.length (-1) S→incr a.acc.length (-1) (S.filter fun x=>L.getD x.toNat false)∧∀q:Nat,(q:Int)∈(S.filter fun x=>L.getD x.toNat false)↔(q:Int)∈S∧a.Live q:=by
  intro L S hLl hL hS
  refine⟨incr_filter hS,fun q=>?_⟩
  rw[List.mem_filter]
  have:=hL q
  simp only[tru] at this
  simp only[Int.toNat_natCast]
  rw[this]
  constructor
  ·rintro⟨h1,h2⟩;exact⟨h1,h2.2⟩
  ·rintro⟨h1,h2⟩
   have:=incr_mem hS _ h1
   exact⟨h1,by omega,h2⟩
 refine CallE.gen fun k hk=>EN_spec_l12States rfl ?_
 simp -implicitDefEqProofs (disch:=omega)[wrap64]
 refine (c_spec_LiveStates Ra ha).go ?_
 rintro l h1 ⟨L,H,hLl,hL⟩
 simp -implicitDefEqProofs (disch:=omega)[wrap64]
 refine (c_l12Only (R1.on H) H.rep (fun x hx=>by have:=incr_mem ha.i x hx;omega) (by omega)).go ?_
 intro s h2 H2
 have H:=H2.app H
 obtain⟨f1,f2⟩:=hfil hLl hL ha.i
 simp -implicitDefEqProofs (disch:=omega)[wrap64]
 refine wp_count W.length (fun i e h'=>∃s,e=[none,some w,some (.agg #[v1,v2,v3]),none,some l,some s,some (.int .i64 i)]∧∃S:List Int,HS h [ow s S,ow l L] h'∧incr a.acc.length (-1) S∧∀q:Nat,(q:Int)∈S↔a.behind (W.take i) q) ⟨s,by simp,_,H,f1,f2⟩ ?_
 clear H f1 f2
 rintro J i _ h3 hJ hi ⟨s,rfl,S,H,hS,hSm⟩
 have hSl:=incr_len hS (by omega)
 simp -implicitDefEqProofs (disch:=first|omega|(simp only[LnZ];omega))[wrap64,(Rw.on H).len]
 refine IteW.mk (fun hlt=>?_) (fun hge=>?_)
 ·have hix:i<W.length:=by omega
  simp -implicitDefEqProofs (disch:=first|omega|(simp only[LnZ];omega))[wrap64,(Rw.on H).I]
  refine (c_l12Step (Ra.on H) H.rep ha).go ?_
  rintro t h4 ⟨T,H4,hT,hTm⟩
  have H:=H4.app H
  have hTl:=incr_len hT (by omega)
  simp -implicitDefEqProofs (disch:=omega)[wrap64]
  refine (c_l12Only H.rep H.sw2.rep (fun x hx=>by have:=incr_mem hT x hx;omega) (by omega)).go ?_
  intro s' h5 H5
  have H:=((H5.app H).sw1.drop).sw1.drop
  obtain⟨f1,f2⟩:=hfil hLl hL hT
  simp -implicitDefEqProofs (disch:=omega)[wrap64]
  refine hJ _ _ hix ⟨s',by simp,_,H,f1,fun q=>?_⟩
  rw[f2,hTm,Aut.behind,foldl_take hix]
  constructor
  ·rintro⟨⟨e,h6,h7,h8,h9⟩,h10⟩
   have hx:=ha.2.2.2 e h6
   unfold Tr.Ok at hx
   refine⟨h10,e,h6,?_,h9,h8⟩
   show a.behind (W.take i) _
   rw[← hSm,Int.toNat_of_nonneg hx.1]
   exact h7
  ·rintro⟨h10,e,h6,h7,h9,h8⟩
   have hx:=ha.2.2.2 e h6
   unfold Tr.Ok at hx
   have h7:a.behind (W.take i) _:=h7
   rw[← hSm,Int.toNat_of_nonneg hx.1] at h7
   exact⟨⟨e,h6,h7,h8,h9⟩,h10⟩
 simp -implicitDefEqProofs (disch:=omega)[wrap64]
 rw[List.take_of_length_le (by omega)] at hSm
 refine H.appPL (α:=Int) (l2:=S) rfl rfl H.rep rfl rfl (by omega) fun o h4 H=>?_
 simp -implicitDefEqProofs (disch:=omega)[wrap64]
 have he:S=a.states W:=by
  refine Aut.states_eq hS fun q=>?_
  rw[hSm]
  constructor
  ·intro h5
   have:=incr_mem hS q ((hSm q).2 h5)
   exact⟨by omega,h5⟩
  ·exact fun h5=>h5.2
 rw[he] at H
 exact RetK.keep (hk _ _ H.only)
noncomputable def preV (a:Aut) (w:List Int):List Int:=if a.Ok∧Wok w then a.states w else []
theorem c_PrefixStates {h:Heap}{v w:Value}{a:Aut}{W:List Int}(Ra:Rep h v a) (Rw:Rep h w W):CallE Tryz.prog fn_impl_PrefixStates [v,w] h (R2 (decide (a.Ok∧Wok W)) (preV a W) h):=by
 have Fa:=Ra.aAut
 refine CallE.gen fun k hk=>EN_impl_PrefixStates rfl ?_
 have hno:¬(a.Ok∧Wok W)→∀h',h.le h'→k (.tuple #[.slice none 0 0,.bool false]) h':=fun hn h' hl=>hk _ _ ⟨_,by rw[decide_eq_false hn],by rw[preV,if_neg hn];exact HS.nil_ow (Γ:=[]) hl⟩
 simp -implicitDefEqProofs (disch:=first|omega|(simp only[LnZ];omega))[wrap64,Fa]
 refine (c_AutomatonValid Ra).go ?_
 rintro _ h1 ⟨l1,rfl⟩
 by_cases ha:a.Ok
 case neg=>
  simp -implicitDefEqProofs (disch:=first|omega|(simp only[LnZ];omega))[wrap64,ha]
  exact RetK.keep (hno (fun hh=>ha hh.1) _ l1)
 simp -implicitDefEqProofs (disch:=first|omega|(simp only[LnZ];omega))[wrap64,ha]
 refine (c_wordOk (Rw.le l1)).go ?_
 rintro _ h2 ⟨l2,rfl⟩
 have l2:=l1.trans l2
 by_cases hw:Wok W
 case neg=>
  simp -implicitDefEqProofs (disch:=first|omega|(simp only[LnZ];omega))[wrap64,hw]
  exact RetK.keep (hno (fun hh=>hw hh.2) _ l2)
 simp -implicitDefEqProofs (disch:=first|omega|(simp only[LnZ];omega))[wrap64,hw,Fa]
 refine (c_prefix (Ra.le l2) (Rw.le l2) ha).go ?_
 intro u h3 H
 simp -implicitDefEqProofs (disch:=omega)[wrap64]
 exact RetK.keep (hk _ _ ⟨_,by rw[decide_eq_true ⟨ha,hw⟩],by rw[preV,if_pos ⟨ha,hw⟩];exact HS.app (Γ:=[]) H l2⟩)
noncomputable def fwL (a:Aut):Las:=if a.Ok then (Bf.fw a).getD ⟨[],[]⟩ else ⟨[],[]⟩
noncomputable def fwO (a:Aut):Bool:=if a.Ok then (Bf.fw a).isSome else false
theorem zero_Las {g h:Heap}{Γ:List HP}(H:HS g Γ h):HS g (ow (.agg #[.slice none 0 0,.slice none 0 0]) (⟨[],[]⟩:Las)::Γ) h:=HS.mkLas (a:=⟨[],[]⟩) H.nil_ow.nil_ow
set_option maxHeartbeats 1000000 in
theorem c_FindWord {h:Heap}{v:Value}{a:Aut}(Ra:Rep h v a):CallE Tryz.prog fn_impl_FindWord [v] h (fun u h'=>∃w,u=.tuple #[w,.bool (fwO a)]∧HS h [ow w (fwL a)] h'):=by
 obtain⟨v1,v2,v3,rfl,R1,R2,R3⟩:=Rep_Aut.1 Ra
 have o1:=R1.one
 have o2:=R2.one
 have o3:=R3.one
 refine CallE.gen fun k hk=>EN_impl_FindWord rfl ?_
 simp -implicitDefEqProofs (disch:=omega)[wrap64]
 refine HS.init.alloc rfl fun b1 h1 H=>?_
 have H:HS h [bx b1 [v1,v2,v3]] h1:=H
 have hld:=H.bxlds (o:=0) (n:=3) (by simp)
 simp -implicitDefEqProofs (disch:=first|omega|(simp only[LnZ];omega))[wrap64,hld]
 refine (c_AutomatonValid (Ra.on H)).go ?_
 rintro _ h2 ⟨l2,rfl⟩
 have H:=H.le l2
 by_cases ha:a.Ok
 case neg=>
  have e1:fwL a=⟨[],[]⟩:=if_neg ha
  have e2:fwO a=false:=if_neg ha
  simp -implicitDefEqProofs (disch:=first|omega|(simp only[LnZ];omega))[wrap64,ha,setC]
  exact RetK.keep (hk _ _ ⟨_,by rw[e2],by rw[e1];exact zero_Las (Γ:=[]) H.base⟩)
 have e1:fwL a=(Bf.fw a).getD ⟨[],[]⟩:=if_pos ha
 have e2:fwO a=(Bf.fw a).isSome:=if_pos ha
 have hn:=ha.n
 have hlen:=Bf.nx_len (a:=a)
 have hNO:=Bf.nx_ok ha
 have hS:incr (Bf.nx a).length (-1) a.init:=by rw[hlen];exact ha.i
 have hld:=H.bxlds (o:=0) (n:=3) (by simp)
 have hf0:=H.bxld (o:=0) (u:=v1) rfl
 simp -implicitDefEqProofs (disch:=first|omega|(simp only[LnZ];omega))[wrap64,ha,hld,hf0]
 refine (c_nextX (Ra.on H) ha).go ?_
 intro vn h3 H3
 have H:=H3.app H
 clear H3
 have hf0:=H.sw1.bxld (o:=0) (u:=v1) rfl
 simp -implicitDefEqProofs (disch:=first|omega|(simp only[LnZ];omega))[wrap64,hf0]
 refine (c_lasso hNO (Bf.nx_E ha) hS (by omega) H.rep (R1.on H) (fun t=>a.acc.getD t.toNat false) (f:=fn_impl_FindWord_1) (c1:=[]) (c2:=[.pointer (some ⟨b1,0,none⟩)]) rfl ?_ (Bf.gA a) (fun t ht=>by rw[Bf.gA_iff];simp[tru])).go ?_
 ·intro h4 l4 t ht
  have htn:t<a.acc.length:=by omega
  have hf1:=hload_le l4 (H.sw1.bxld (o:=1) (u:=v2) rfl)
  have RB:=((R2.on H).le l4).B
  have hgd:a.acc.getD (t:Int).toNat false=a.acc[t]:=by simp[htn]
  refine CallE.gen fun k2 hk3=>EN_impl_FindWord_1 rfl ?_
  rw[hgd] at hk3
  simp -implicitDefEqProofs (disch:=first|omega|(simp only[LnZ];omega))[wrap64,hf1,RB]
  exact RetK.keep (hk3 _ _ ⟨Heap.le.refl _,rfl⟩)
 rintro _ h4 ⟨u1,u2,rfl,H4⟩
 have H:=H4.app H
 clear H4
 unfold Bf.fw at e1 e2
 have hmem:=fun t (hf:(Bf.fin (Bf.nx a) a.init).2.find? (Bf.gA a)=some t)=>List.mem_of_find?_eq_some hf
 have hsat:=fun t (hf:(Bf.fin (Bf.nx a) a.init).2.find? (Bf.gA a)=some t)=>Bf.gA_iff.1 (List.find?_some hf)
 have hinq:=(Bf.sN_inv hNO hS (Bf.nx a).length).1.inq
 have hfin:Bf.sN (Bf.nx a) a.init (Bf.nx a).length=Bf.fin (Bf.nx a) a.init:=rfl
 rw[hfin] at hinq
 unfold Bf.lasS Bf.lasL at H
 cases hq:(Bf.fin (Bf.nx a) a.init).2.find? (Bf.gA a) with
 | none=>
  rw[hq] at e1 e2
  simp -implicitDefEqProofs (disch:=first|omega|(simp only[LnZ];omega))[wrap64,hq,setC]
  exact RetK.keep (hk _ _ ⟨_,by rw[e2];rfl,by rw[e1];exact zero_Las (Γ:=[]) H.base⟩)
 | some t0=>
  rw[hq] at e1 e2 H
  simp only at e1 e2 H
  have hm:=hmem t0 hq
  have hs:=hsat t0 hq
  have hr:=hinq t0 hm
  obtain⟨t,rfl⟩:∃t:Nat,t0=t:=⟨t0.toNat,by omega⟩
  rw[Int.toNat_natCast] at hs
  obtain⟨hp1,hp2,hp3⟩:=Bf.path_ok hNO hS hm
  obtain⟨m,q1,q2,q3⟩:=Bf.arn_ok hNO (Bf.nx_E ha) (t:=t) (by omega) hs.2
  obtain⟨l0,hl0⟩:=hp3.last
  obtain⟨s',hs',tl,htl⟩:=q1.head
  obtain rfl:s'=t:=by simpa using hs'
  have hjp:=hp3.joined
  have hjq:=(q1.snoc q2).joined
  rw[hl0] at H hp2 hjp e1
  simp only[List.dropLast_concat] at H
  simp only[List.length_append,List.length_singleton] at hp2
  have hg0:(Bf.arn (Bf.nx a) t)[0]'(by rw[htl];simp)=(t:Int):=by simp[htl]
  have hq0:0<(Bf.arn (Bf.nx a) t).length:=by rw[htl];simp
  have hld:=H.sw3.bxlds (o:=0) (n:=3) (by simp)
  simp -implicitDefEqProofs (disch:=first|omega|(simp only[LnZ];omega))[wrap64,hq,hld,H.sw1.rep.I,hg0]
  refine (c_clone_int H.rep (by omega)).go ?_
  intro x1 h5 H5
  have H:=H5.app H
  clear H5
  have hld:=H.sw4.bxlds (o:=0) (n:=3) (by simp)
  simp -implicitDefEqProofs (disch:=first|omega|(simp only[LnZ];omega))[wrap64,H.sw2.rep.I,hg0,hld,setC]
  refine HS.app1 (bytes:=8) H (t:Int) rfl rfl rfl ⟨by omega,by omega⟩ rfl rfl (by omega) (by omega) fun x2 h6 H=>?_
  have hld:=H.sw4.bxlds (o:=0) (n:=3) (by simp)
  simp -implicitDefEqProofs (disch:=first|omega|(simp only[LnZ];omega))[wrap64,H.sw2.rep.I,hg0,hld]
  refine (c_values (Ra.on H) H.rep ha (by simp;omega) hjp).go ?_
  intro x3 h7 H7
  have H:=H7.app H
  clear H7
  have hld:=H.sw5.bxlds (o:=0) (n:=3) (by simp)
  simp -implicitDefEqProofs (disch:=first|omega|(simp only[LnZ];omega))[wrap64,H.sw3.rep.I,hg0,hld]
  refine (c_clone_int H.sw3.rep (by omega)).go ?_
  intro x4 h8 H8
  have H:=H8.app H
  clear H8
  have hld:=H.sw6.bxlds (o:=0) (n:=3) (by simp)
  simp -implicitDefEqProofs (disch:=first|omega|(simp only[LnZ];omega))[wrap64,H.sw4.rep.I,hg0,hld,setC]
  refine HS.app1 (bytes:=8) H (t:Int) rfl rfl rfl ⟨by omega,by omega⟩ rfl rfl (by omega) (by omega) fun x5 h9 H=>?_
  have hld:=H.sw6.bxlds (o:=0) (n:=3) (by simp)
  simp -implicitDefEqProofs (disch:=first|omega|(simp only[LnZ];omega))[wrap64,hld]
  refine (c_values (Ra.on H) H.rep ha (by simp;omega) hjq).go ?_
  intro x6 h10 H10
  have H:=H10.app H
  clear H10
  have k1:=H.rep.one
  have k2:=H.sw2.rep.one
  simp -implicitDefEqProofs (disch:=first|omega|(simp only[LnZ];omega))[wrap64,setC,k1,k2,H.rep.cells,H.sw2.rep.cells]
  refine RetK.keep (hk _ _ ⟨_,by rw[e2];rfl,?_⟩)
  rw[e1]
  simp only[Option.getD_some]
  exact HS.mkLas (a:=⟨_,_⟩) (H.sw2.under fun _ H=>H.only1)
noncomputable def stA (a:Aut) (w:List Int):Aut:=⟨a.states w,a.acc,a.edges⟩
theorem stA_ok {a:Aut}{w:List Int}(ha:a.Ok):(stA a w).Ok:=⟨ha.1,ha.2.1,(Aut.states_incr:incr a.acc.length (-1) (a.states w)),ha.2.2.2⟩
noncomputable def ext (a:Aut) (w:List Int):Option Las:=
 if a.Ok∧Wok w∧a.states w≠[] then
  match Bf.fw (stA a w) with
  | some l=>if (⟨w++l.stem,l.loop⟩:Las).Ok then some ⟨w++l.stem,l.loop⟩ else none
  | none=>none
 else none
set_option maxHeartbeats 1000000 in
theorem c_ExtendWord {h:Heap}{v w:Value}{a:Aut}{W:List Int}(Ra:Rep h v a) (Rw:Rep h w W):CallE Tryz.prog fn_impl_ExtendWord [v,w] h (fun u h'=>∃z,u=.tuple #[z,.bool (ext a W).isSome]∧HS h [ow z ((ext a W).getD ⟨[],[]⟩)] h'):=by
 have FA:=Ra.aAut
 obtain⟨v1,v2,v3,rfl,R1,R2',R3⟩:=Rep_Aut.1 Ra
 have o1:=R1.one
 have o2:=R2'.one
 have o3:=R3.one
 have c2:=R2'.cells
 have c3:=R3.cells
 refine CallE.gen fun k hk=>EN_impl_ExtendWord rfl ?_
 simp -implicitDefEqProofs (disch:=first|omega|(simp only[LnZ];omega))[wrap64,FA]
 refine (c_PrefixStates Ra Rw).go ?_
 rintro _ h1 ⟨vs,rfl,H⟩
 have none_:∀{h'},h.le h'→ext a W=none→k (.tuple #[.agg #[.slice none 0 0,.slice none 0 0],.bool false]) h':=fun hl he=>hk _ _ ⟨_,by rw[he];rfl,by rw[he];exact zero_Las (Γ:=[]) hl⟩
 by_cases q1:a.Ok∧Wok W
 case neg=>
  have he:ext a W=none:=if_neg fun hh=>q1 ⟨hh.1,hh.2.1⟩
  simp -implicitDefEqProofs (disch:=first|omega|(simp only[LnZ];omega))[wrap64,q1,setC]
  exact RetK.keep (none_ H.base he)
 have hpv:preV a W=a.states W:=if_pos q1
 rw[hpv] at H
 have ha:=q1.1
 have hW:=q1.2
 by_cases q2:(a.states W).length=0
 ·have q2':a.states W=[]:=List.length_eq_zero_iff.1 q2
  have he:ext a W=none:=if_neg fun hh=>hh.2.2 q2'
  simp -implicitDefEqProofs (disch:=first|omega|(simp only[LnZ];omega))[wrap64,q1,H.rep.len,q2,q2',setC]
  exact RetK.keep (none_ H.base he)
 have q2':¬a.states W=[]:=fun e=>q2 (by rw[e];rfl)
 have q2i:¬((a.states W).length:Int)=0:=by omega
 have he:ext a W=match Bf.fw (stA a W) with
  | some l=>if (⟨W++l.stem,l.loop⟩:Las).Ok then some ⟨W++l.stem,l.loop⟩ else none
  | none=>none:=if_pos ⟨ha,hW,q2'⟩
 have RS:Rep h1 (.agg #[vs,v2,v3]) (stA a W):=Rep_Aut.2 ⟨vs,v2,v3,rfl,H.rep,R2'.on H,R3.on H⟩
 have os:=H.rep.one
 have cs:=H.rep.cells
 simp -implicitDefEqProofs (disch:=first|omega|(simp only[LnZ];omega))[wrap64,q1,H.rep.len,q2,q2',q2i,setC,o1,o2,o3,c2,c3,os,cs]
 refine (c_FindWord RS).go ?_
 rintro _ h2 ⟨vf,rfl,H2⟩
 have H:=H2.app H
 clear H2
 have hst:=stA_ok (w:=W) ha
 have e1:fwL (stA a W)=(Bf.fw (stA a W)).getD ⟨[],[]⟩:=if_pos hst
 have e2:fwO (stA a W)=(Bf.fw (stA a W)).isSome:=if_pos hst
 have hbd:(fwL (stA a W)).stem.length≤63∧(fwL (stA a W)).loop.length≤64:=by
  rw[e1]
  cases hq:Bf.fw (stA a W) with
  | none=>simp
  | some l=>
   obtain⟨_,_,_,g1,_,g2⟩:=Bf.fw_some hst hq
   exact⟨g1,g2⟩
 obtain⟨f1,f2,rfl,HF⟩:=H.unLas
 have RF1:=HF.rep
 have RF2:=HF.sw1.rep
 have p1:=RF1.one
 have p2:=RF2.one
 have d1:=RF1.cells
 have d2:=RF2.cells
 have lb:=HF.base
 have Rw2:=Rw.on HF
 clear H
 rw[e2]
 obtain⟨L,hL⟩:∃L,L=fwL (stA a W):=⟨_,rfl⟩
 rw[← hL] at RF1 RF2 hbd e1 HF
 have hW1:=hW.1
 simp -implicitDefEqProofs (disch:=first|omega|(simp only[LnZ];omega))[wrap64,setC,p1,p2]
 refine bls_two Rw2 RF1 (by simp[fillP,Rw2.cells,d1,Rw2.one,p1,reps,setC]) fun vb h3 l3 RB=>?_
 simp -implicitDefEqProofs (disch:=omega)[wrap64]
 refine (c_Concat_int RB (by omega) (by omega)).go ?_
 intro vc h4 H4
 have H:=H4.app (HF.le l3)
 clear H4 HF
 simp -implicitDefEqProofs (disch:=omega)[wrap64]
 refine (c_Clip_int H).go ?_
 intro vd h5 H
 have lb5:=H.base
 have R5:Rep h5 (.agg #[vd,f2]) (⟨W++L.stem,L.loop⟩:Las):=Rep_Las.2 ⟨vd,f2,rfl,H.rep,H.sw2.rep⟩
 have oo:=H.rep.one
 have cc:=H.rep.cells
 cases hq:Bf.fw (stA a W) with
 | none=>
  rw[hq] at he
  simp -implicitDefEqProofs (disch:=first|omega|(simp only[LnZ];omega))[wrap64,setC,oo,cc,p2,d2,hq]
  exact RetK.keep (none_ lb5 he)
 | some l=>
  rw[hq] at he e1
  simp only[Option.getD_some] at e1
  subst e1
  simp only at he
  simp -implicitDefEqProofs (disch:=first|omega|(simp only[LnZ];omega))[wrap64,setC,oo,cc,p2,d2,hq]
  refine (c_LassoValid R5).go ?_
  rintro _ h6 ⟨l6,rfl⟩
  by_cases q3:(⟨W++L.stem,L.loop⟩:Las).Ok
  ·rw[if_pos q3] at he
   simp -implicitDefEqProofs (disch:=first|omega|(simp only[LnZ];omega))[wrap64,q3,setC,oo,cc,p2,d2]
   refine RetK.keep (hk _ _ ⟨_,by rw[he];rfl,?_⟩)
   rw[he]
   have H:=H.le l6
   exact HS.mkLas (a:=⟨W++L.stem,L.loop⟩) (H.under fun _ H=>H.sw1.only1)
  ·rw[if_neg q3] at he
   simp -implicitDefEqProofs (disch:=first|omega|(simp only[LnZ];omega))[wrap64,q3,setC]
   exact RetK.keep (none_ (lb5.trans l6) he)
theorem fold_LP {a:Aut}(ha:a.Ok):∀{W:List Int}{P:Nat→Prop}{q:Nat},W.foldl a.aft P q→∃s,P s∧LP a.edges s W q
 | [],P,q,h=>⟨q,h,.nil q⟩
 | x::W,P,q,h=>by
  obtain⟨s,⟨_,e,he,h1,h2,h3⟩,h4⟩:=fold_LP ha (W:=W) (P:=a.aft P x) h
  obtain⟨f,g,k1,k2,_,_⟩:=ha.tr he
  rw[k1,Int.toNat_natCast] at h1
  exact⟨f,h1,.cons ⟨e,he,k1,h2,h3⟩ h4⟩
theorem fold_live {a:Aut}:∀{W:List Int}{P:Nat→Prop}{q:Nat},(∀s,P s→a.Live s)→W.foldl a.aft P q→a.Live q
 | [],P,q,hP,h=>hP q h
 | x::W,P,q,hP,h=>fold_live (W:=W) (P:=a.aft P x) (fun s hs=>hs.1) h
theorem states_mem {a:Aut}{W:List Int}{x:Int}:x∈a.states W↔∃q:Nat,x=q∧q<a.acc.length∧a.behind W q:=by
 unfold Aut.states
 rw[memL_mem]
 simp
theorem states_live {a:Aut}{W:List Int}{q:Nat}(h:(q:Int)∈a.states W):q<a.acc.length∧a.Live q∧a.behind W q:=by
 obtain⟨p,h1,h2,h3⟩:=states_mem.1 h
 obtain rfl:q=p:=by omega
 exact⟨h2,fold_live (fun s hs=>hs.2) h3,h3⟩
theorem ext_some {a:Aut}{W:List Int}{l:Las}(h:ext a W=some l):a.Ok∧Wok W∧a.states W≠[]∧l.Ok∧a.Lang l.word∧∃r,l.stem=W++r:=by
 unfold ext at h
 split at h
 case isFalse=>simp at h
 rename_i hc
 obtain⟨ha,hW,hne⟩:=hc
 split at h
 case h_2=>simp at h
 rename_i l0 hf
 split at h
 case isFalse=>simp at h
 rename_i hok
 simp only[Option.some.injEq] at h
 subst h
 have hst:=stA_ok (w:=W) ha
 obtain⟨⟨s,x,h1,h2,h3,h4⟩,_⟩:=Bf.fw_some hst hf
 obtain⟨_,_,hb⟩:=states_live (a:=a) (W:=W) h1
 obtain⟨s0,h5,h6⟩:=fold_LP ha (P:=a.beg) hb
 refine⟨ha,hW,hne,hok,lasso_lang hok.2.2.1 h5.1 (h6.append h2) h3 h4,l0.stem,rfl⟩
def Lts (w:Nat→Int):Prop:=∀t,0≤w t∧w t≤7
def Pre (W:List Int) (w:Nat→Int):Prop:=∀i (hi:i<W.length),w i=W[i]
theorem Run.next {A:List Bool}{E:List Tr}{w:Nat→Int}{t p:Nat}(h:Run A E w t p):∃q,StE E w t p q∧Run A E w (t+1) q:=by
 obtain⟨C,hC,hG⟩:=h
 obtain⟨u,q,h1,h2,h3,h4⟩:=hG t p hC
 cases h2 with
 | refl=>omega
 | step h k=>exact⟨_,h,Run.before k ⟨C,h4,hG⟩⟩
theorem states_of_lang {a:Aut}(ha:a.Ok) {W:List Int}{w:Nat→Int}(hw:Pre W w) (h:a.Lang w):a.states W≠[]:=by
 obtain⟨s,hs,hr⟩:=h
 have hs':=ha.ini hs
 have key:∀n,n≤W.length→∃p,p<a.acc.length∧Run a.acc a.edges w n p∧a.behind (W.take n) p:=by
  intro n
  induction n with
  | zero=>intro _;exact⟨s,hs',hr,hs,hr.live ha hs'⟩
  | succ n ih=>
   intro hn
   obtain⟨p,h1,h2,h3⟩:=ih (by omega)
   obtain⟨q,h4,h5⟩:=h2.next
   obtain⟨_,hq⟩:=ha.st h4
   obtain⟨e,he,e1,e2,e3⟩:=h4
   refine⟨q,hq,h5,?_⟩
   unfold Aut.behind
   rw[foldl_take (show n<W.length by omega)]
   refine⟨h5.live ha hq,e,he,?_,e2,?_⟩
   ·rw[e1,Int.toNat_natCast];exact h3
   ·rw[← hw n (by omega)];exact e3
 obtain⟨p,h1,_,h3⟩:=key W.length (Nat.le_refl _)
 rw[List.take_length] at h3
 intro hno
 have:(p:Int)∈a.states W:=states_mem.2 ⟨p,rfl,h1,h3⟩
 rw[hno] at this
 simp at this
theorem lang_of_states {a:Aut}(ha:a.Ok) {W:List Int}(hW:∀x∈W,0≤x∧x≤7) (h:a.states W≠[]):∃l:Las,1≤l.loop.length∧Lts l.word∧Pre W l.word∧a.Lang l.word:=by
 have hst:=stA_ok (w:=W) ha
 cases hf:Bf.fw (stA a W) with
 | none=>
  exfalso
  cases hs:a.states W with
  | nil=>exact h hs
  | cons x t=>
   have hx:x∈a.states W:=by rw[hs];simp
   obtain⟨q,rfl,_,_⟩:=states_mem.1 hx
   exact Bf.fw_none hst hf hx (states_live hx).2.1
 | some l0=>
  obtain⟨⟨s,x,h1,h2,h3,h4⟩,k1,k2,_,k4,_⟩:=Bf.fw_some hst hf
  obtain⟨_,_,hb⟩:=states_live (a:=a) (W:=W) h1
  obtain⟨s0,h5,h6⟩:=fold_LP ha (P:=a.beg) hb
  have hl:∀y∈(⟨W++l0.stem,l0.loop⟩:Las).all,0≤y∧y≤7:=by
   intro y hy
   simp only[Las.all,List.mem_append] at hy
   rcases hy with (hy | hy) | hy
   ·exact hW y hy
   ·exact k1 y hy
   ·exact k2 y hy
  refine⟨⟨W++l0.stem,l0.loop⟩,k4,fun t=>?_,fun i hi=>?_,lasso_lang k4 h5.1 (h6.append h2) h3 h4⟩
  ·have h1:=Las.pos_lt (l:=⟨W++l0.stem,l0.loop⟩) k4 t
   unfold Las.word
   rw[List.getD_eq_getElem?_getD,List.getElem?_eq_getElem (by rw[Las.all_len];exact h1)]
   exact hl _ (List.getElem_mem _)
  ·rw[Las.word_stem (l:=⟨W++l0.stem,l0.loop⟩) (by simp only[List.length_append];omega)]
   simp only
   rw[List.getElem_append_left hi]
namespace Fm
def ngt (x:Exq):Exq:=if x.kind=3 then x.kids.getD 0 Exq.zero else neg x
theorem sat_ngt {w:Nat→Int}{x:Exq}(h:Ok x) {t:Nat}:sat w (ngt x) t↔¬sat w x t:=by
 unfold ngt
 split
 ·rename_i c
  have h1:=h.1.one (.inl c)
  have hl:0<x.kids.length:=by omega
  rw[sat3 c,sk_at hl,List.getD_eq_getElem?_getD,List.getElem?_eq_getElem hl]
  simp
 ·exact sat_neg
theorem bad_iff {x:Exq}(h:trOk x) (ha:(trA x).Ok) {W:List Int}(hW:∀y∈W,0≤y∧y≤7):(trA x).states W=[]↔∀w,Lts w→Pre W w→¬sat w x 0:=by
 constructor
 ·intro h1 w h2 h3 h4
  exact states_of_lang ha h3 ((trA_lang h h2).2 h4) h1
 ·intro h1
  apply Classical.byContradiction
  intro h2
  obtain⟨l,_,h3,h4,h5⟩:=lang_of_states ha hW h2
  exact h1 _ h3 h4 ((trA_lang h h3).1 h5)
end Fm
theorem Las.pos_pos {l:Las}(hl:1≤l.loop.length) (t:Nat):l.pos (l.pos t)=l.pos t:=Las.pos_stem (Las.pos_lt hl t)
theorem Las.pos_add {l:Las}{s t:Nat}(h:l.pos s=l.pos t):∀k,l.pos (s+k)=l.pos (t+k)
 | 0=>h
 | k+1=>by rw[← Nat.add_assoc,← Nat.add_assoc,Las.pos,Las.pos,Las.pos_add h k]
theorem Las.word_add {l:Las}{s t:Nat}(h:l.pos s=l.pos t) (k:Nat):l.word (k+s)=l.word (k+t):=by
 unfold Las.word
 rw[Nat.add_comm k s,Nat.add_comm k t,Las.pos_add h]
namespace Fm
section
variable {l:Las}
theorem sat_pos_eq {s t:Nat}(h:l.pos s=l.pos t) (x:Exq):sat l.word x s↔sat l.word x t:=by
 have h1:=sat_shift (w:=l.word) s x 0
 have h2:=sat_shift (w:=l.word) t x 0
 rw[Nat.zero_add] at h1 h2
 rw[← h1,← h2]
 exact sat_congr (fun k=>Las.word_add h k) x 0
theorem sat_pos (hl:1≤l.loop.length) (x:Exq) (t:Nat):sat l.word x (l.pos t)↔sat l.word x t:=sat_pos_eq (Las.pos_pos hl t) x
theorem sk_pos (hl:1≤l.loop.length) (x:Exq) (j t:Nat):sk l.word x j (l.pos t)↔sk l.word x j t:=by
 by_cases hj:j<x.kids.length
 ·rw[sk_at hj];exact sat_pos hl _ t
 ·simp[sk,hj]
theorem pos_succ {i:Nat}(hi:i<l.size):l.pos (i+1)=l.nx i:=by rw[Las.pos,Las.pos_stem hi]
theorem sat_nx (hl:1≤l.loop.length) {i:Nat}(hi:i<l.size) (x:Exq):sat l.word x (l.nx i)↔sat l.word x (i+1):=by
 rw[← pos_succ hi];exact sat_pos hl x (i+1)
def stp (k:Int) (a b c:Prop):Prop:=if k=7 then b∨(a∧c) else if k=8 then b∧(a∨c) else if k=9 then a∨c else a∧c
theorem sat_stp {w:Nat→Int}{x:Exq}(hk:x.kind=7∨x.kind=8∨x.kind=9∨x.kind=10) (t:Nat):sat w x t↔stp x.kind (sk w x 0 t) (sk w x 1 t) (sat w x (t+1)):=by
 unfold stp
 rcases hk with c | c | c | c
 ·rw[if_pos c,sat7 c,sat7 c,until_step]
 ·rw[if_neg (by omega),if_pos c,sat8 c,sat8 c,release_step]
 ·rw[if_neg (by omega),if_neg (by omega),if_pos c,sat9 c,sat9 c,ev_step]
 ·rw[if_neg (by omega),if_neg (by omega),if_neg (by omega),sat10 c,sat10 c,al_step]
theorem stp_mono {k:Int}{a b c c':Prop}(h:c→c') (h1:stp k a b c):stp k a b c':=by
 unfold stp at *
 split
 ·rename_i e;rw[if_pos e] at h1;exact h1.imp id fun hh=>⟨hh.1,h hh.2⟩
 ·rename_i e
  rw[if_neg e] at h1
  split
  ·rename_i e;rw[if_pos e] at h1;exact⟨h1.1,h1.2.imp id h⟩
  ·rename_i e
   rw[if_neg e] at h1
   split
   ·rename_i e;rw[if_pos e] at h1;exact h1.imp id h
   ·rename_i e;rw[if_neg e] at h1;exact⟨h1.1,h h1.2⟩
theorem fix_least {x:Exq}(hl:1≤l.loop.length) (hk:x.kind=7∨x.kind=9) {o:Nat→Prop}(hf:∀i,i<l.size→(o i↔stp x.kind (sk l.word x 0 i) (sk l.word x 1 i) (o (l.nx i)))) (t:Nat) (h:sat l.word x t):o (l.pos t):=by
 have hf':∀t,o (l.pos t)↔stp x.kind (sk l.word x 0 t) (sk l.word x 1 t) (o (l.pos (t+1))):=fun t=>by
  rw[hf _ (Las.pos_lt hl t),propext (sk_pos hl x 0 t),propext (sk_pos hl x 1 t)];rfl
 rcases hk with c | c
 ·rw[sat7 c] at h
  obtain⟨u,h1,h2,h3⟩:=h
  have key:∀d t,t+d=u→(∀v,t≤v→v<u→sk l.word x 0 v)→o (l.pos t):=by
   intro d
   induction d with
   | zero=>
    intro t ht _
    obtain rfl:t=u:=by omega
    rw[hf'];unfold stp;rw[if_pos c];exact .inl h2
   | succ d ih=>
    intro t ht hv
    rw[hf'];unfold stp;rw[if_pos c]
    exact .inr ⟨hv t (Nat.le_refl _) (by omega),ih (t+1) (by omega) fun v hv1 hv2=>hv v (by omega) hv2⟩
  exact key (u-t) t (by omega) h3
 ·rw[sat9 c] at h
  obtain⟨u,h1,h2⟩:=h
  have key:∀d t,t+d=u→o (l.pos t):=by
   intro d
   induction d with
   | zero=>
    intro t ht
    obtain rfl:t=u:=by omega
    rw[hf'];unfold stp;rw[if_neg (by omega),if_neg (by omega),if_pos c];exact .inl h2
   | succ d ih=>
    intro t ht
    rw[hf'];unfold stp;rw[if_neg (by omega),if_neg (by omega),if_pos c]
    exact .inr (ih (t+1) (by omega))
  exact key (u-t) t (by omega)
theorem fix_great {x:Exq}(hl:1≤l.loop.length) (hk:x.kind=8∨x.kind=10) {o:Nat→Prop}(hf:∀i,i<l.size→(o i↔stp x.kind (sk l.word x 0 i) (sk l.word x 1 i) (o (l.nx i)))) (t:Nat) (h:o (l.pos t)):sat l.word x t:=by
 have hf':∀t,o (l.pos t)↔stp x.kind (sk l.word x 0 t) (sk l.word x 1 t) (o (l.pos (t+1))):=fun t=>by
  rw[hf _ (Las.pos_lt hl t),propext (sk_pos hl x 0 t),propext (sk_pos hl x 1 t)];rfl
 rcases hk with c | c
 ·have hs:∀t,o (l.pos t)↔sk l.word x 1 t∧(sk l.word x 0 t∨o (l.pos (t+1))):=fun t=>by
   rw[hf'];unfold stp;rw[if_neg (by omega),if_pos c]
  rw[sat8 c]
  have key:∀d,(∃v,t≤v∧v<t+d∧sk l.word x 0 v)∨o (l.pos (t+d)):=by
   intro d
   induction d with
   | zero=>exact .inr h
   | succ d ih=>
    rcases ih with ⟨v,h1,h2,h3⟩ | h1
    ·exact .inl ⟨v,h1,by omega,h3⟩
    ·rcases ((hs _).1 h1).2 with h2 | h2
     ·exact .inl ⟨t+d,by omega,by omega,h2⟩
     ·exact .inr h2
  intro u hu
  rcases key (u-t) with ⟨v,h1,h2,h3⟩ | h1
  ·exact .inr ⟨v,h1,by omega,h3⟩
  ·rw[show t+(u-t)=u by omega] at h1
   exact .inl ((hs _).1 h1).1
 ·have hs:∀t,o (l.pos t)↔sk l.word x 0 t∧o (l.pos (t+1)):=fun t=>by
   rw[hf'];unfold stp;rw[if_neg (by omega),if_neg (by omega),if_neg (by omega)]
  rw[sat10 c]
  have key:∀d,o (l.pos (t+d)):=by
   intro d
   induction d with
   | zero=>exact h
   | succ d ih=>exact ((hs _).1 ih).2
  intro u hu
  have:=key (u-t)
  rw[show t+(u-t)=u by omega] at this
  exact ((hs _).1 this).1
end
end Fm
end Go.Proofs.YtedbaenahnfhfaaGreat
