/-
  Texts of this proof, one behind the other.
-/
import Derived.WalkKit
import Derived.ProofKit
import Derived.OpenShut
import Derived.Carry
import Derived.Deep.Slices
import Derived.SizedLaws
import Derived.Test.YtjbjnicobdpdhaaYF4
set_option linter.all false
set_option linter.unusedVariables false
set_option linter.unusedSimpArgs false
set_option linter.defProp false
set_option maxRecDepth 1000000
namespace Go.Proofs.Ytjbjnicobdpdhaa
open Go
universe u
section
variable {P:Program}{Q:Ex→Env→Heap→Prop}{e:Env}{h:Heap}
end
section
variable {a b c h h' r r':Heap}
end
section
variable {α:Type} [Ty α] {h h' r:Heap}{v:Value}{x:α}
end
section
variable {α:Type} [Ty α]
end
section
variable {α:Type} [Ty α]
end
section
variable {α:Type} [Ty α] {h h' g r:Heap}{v:Value}{l:List α}
end
section
variable {α:Type} [Ty α] {h h' g r r2 ru:Heap}{v u:Value}{l:List α}{i:Nat}
end
section
variable {α:Type} [Ty α] {P:Program}{k:Env→Heap→Prop}{e:Env}{h h' g r r2 ru rs:Heap}{v u:Value}{l l2:List α}{i:Nat}
theorem a_appP {bytes esz:Nat}{zero:List Value}{j:Nat}{b:AO}{dst:Nat}{cs:List Value}{c0:Array Value}(hp:eget e j=some (.agg c0)) (hs:b.src h e esz=some (l2.length,cs)) (hcs:cs.length=l2.length*Ty.sz α) (Os:ownL l2 cs rs)
  (d:Dj g rs) (hh:h=g.add rs) (hz:zero.length=Ty.sz α) (hb:l2.length*bytes≤140737488355328) (hn:l2.length<2^62)
  (K:∀v' r',Dj g r'→Own r' v' l2→k (eset e dst (some v')) (g.add r')):(A.ex (some dst) (.app bytes esz zero (.p 0 j) b)).wp P k e h:=by
 refine⟨l2.length,cs,hs,rfl,⟨c0,hp⟩,?_,?_⟩
 ·intro hl2 b'
  have hl2:l2=[]:=by simpa using hl2
  subst hl2
  have hrs:rs=Heap.nil:=Os
  subst hrs
  subst hh
  refine Fgt.keep ?_
  simpa using K _ Heap.nil Dj_nil (Own_list.2 (.inl ⟨some ⟨b',0,none⟩,rfl,rfl,rfl,.inr ⟨b',0,rfl⟩⟩))
 ·intro hpos
  refine⟨growslice_fits hpos (by simpa using hb),hn,?_⟩
  intro b' el c hb' hc
  subst hh
  rw[set_new hb']
  have n1:g b'=none∧rs b'=none:=by simpa[Heap.add] using hb'
  refine Fgt.keep ?_
  rw[add_assoc]
  refine K _ _ (Dj_add.2 ⟨d,Dj_one.2 n1.1⟩) ?_
  rw[(Dj_one.2 n1.2).comm]
  refine Own_list.2 (.inr ⟨b',0,c,_,el,rs,rfl,⟨hc,by omega⟩,?_,rfl,n1.2,?_⟩)
  ·simp[reps,hz,hcs]
   rw[← Nat.add_mul]
   exact Nat.mul_le_mul_right _ (by omega)
  ·refine ownL_congr Os ?_
   simp only[List.drop_zero]
   exact (List.take_append_of_le_length (by rw[hcs];exact Nat.le_refl _)).symm
theorem Rep.okL [Flat α] {h:Heap}{v:Value}{l:List α}(hr:Rep h v l):∀x∈l,Flat.ok x:=by
 intro x hx
 obtain⟨i,hi,rfl⟩:=List.mem_iff_getElem.1 hx
 exact hr.okF hi
theorem a_appPL [Flat α] {bytes esz:Nat}{zero:List Value}{j:Nat}{x:O}{dst:Nat}{c0:Array Value}{u:Value}(hp:eget e j=some (.agg c0)) (hx:x.get e=some u) (hr:Rep h u l2) (hsz:esz=Ty.sz α) (hz:zero.length=Ty.sz α) (hb:l2.length*bytes≤140737488355328)
  (K:∀v' r',Dj h r'→Own r' v' l2→k (eset e dst (some v')) (h.add r')):(A.ex (some dst) (.app bytes esz zero (.p 0 j) (.o x))).wp P k e h:=by
 subst hsz
 refine a_appP (rs:=Heap.nil) (l2:=l2) hp ?_ (encL_len hr.okL) (ownL_enc hr.okL) Dj_nil (by simp) hz hb (by have:=hr.lt;omega) K
 simp only[AO.src,hx]
 exact hr.src
theorem a_appL [Flat α] {bytes esz:Nat}{zero:List Value}{a x:O}{dst:Nat}{u:Value}(O:Own r v l) (ha:a.get e=some v) (hx:x.get e=some u) (hr:Rep h u l2) (d:Dj g r) (hh:h=g.add r) (hsz:esz=Ty.sz α) (hz:zero.length=Ty.sz α)
  (hb:(l.length+l2.length)*bytes≤140737488355328) (hn:l.length+l2.length<2^62)
  (K:∀v' r',Dj g r'→Own r' v' (l++l2)→k (eset e dst (some v')) (g.add r')):(A.ex (some dst) (.app bytes esz zero (.o a) (.o x))).wp P k e h:=by
 subst hsz
 refine a_app (rs:=Heap.nil) (l2:=l2) O ha ?_ (encL_len hr.okL) (ownL_enc hr.okL) d Dj_nil (by simp[hh]) rfl hz hb hn K
 simp only[AO.src,hx]
 exact hr.src
end
section
variable {α:Type} [Ty α] {P:Program}{k:Env→Heap→Prop}{e:Env}{h g r:Heap}{v:Value}{l:List α}{i:Nat}
end
section
variable {P:Program}{e e':Env}{h:Heap}{Q:Ex→Env→Heap→Prop}{k:Env→Heap→Prop}
end
section
variable {g h h' r:Heap}
theorem HS.sw5 {a b c d f f':HP}{Γ:List HP}(H:HS g (a::b::c::d::f::f'::Γ) h):HS g (f'::a::b::c::d::f::Γ) h:=(H.under fun _=>HS.sw4).sw1
theorem HS.sw6 {a b c d f f' f2:HP}{Γ:List HP}(H:HS g (a::b::c::d::f::f'::f2::Γ) h):HS g (f2::a::b::c::d::f::f'::Γ) h:=(H.under fun _=>HS.sw5).sw1
theorem HS.bk2 {a b c:HP}{Γ:List HP}(H:HS g (c::a::b::Γ) h):HS g (a::b::c::Γ) h:=H.sw2.sw2
end
section
variable {α:Type} [Ty α] {P:Program}{k:Env→Heap→Prop}{e:Env}{g h:Heap}{Γ:List HP}{v u:Value}{l l2:List α}{i:Nat}
theorem HS.appL [Flat α] (H:HS g (ow v l::Γ) h) {bytes esz:Nat}{zero:List Value}{a x:O}{dst:Nat}(ha:a.get e=some v) (hx:x.get e=some u) (hr:Rep h u l2) (hsz:esz=Ty.sz α) (hz:zero.length=Ty.sz α)
  (hb:(l.length+l2.length)*bytes≤140737488355328) (hn:l.length+l2.length<2^62)
  (K:∀v' h',HS g (ow v' (l++l2)::Γ) h'→k (eset e dst (some v')) h'):(A.ex (some dst) (.app bytes esz zero (.o a) (.o x))).wp P k e h:=by
 obtain⟨g',r,rfl,d,O,H⟩:=H
 exact a_appL O ha hx hr d rfl hsz hz hb hn fun v' r' d' O'=>K _ _ ⟨g',r',rfl,d',O',H⟩
theorem HS.appPL [Flat α] (H:HS g Γ h) {bytes esz:Nat}{zero:List Value}{j:Nat}{x:O}{dst:Nat}{c0:Array Value}(hp:eget e j=some (.agg c0)) (hx:x.get e=some u) (hr:Rep h u l2) (hsz:esz=Ty.sz α) (hz:zero.length=Ty.sz α) (hb:l2.length*bytes≤140737488355328)
  (K:∀v' h',HS g (ow v' l2::Γ) h'→k (eset e dst (some v')) h'):(A.ex (some dst) (.app bytes esz zero (.p 0 j) (.o x))).wp P k e h:=
 a_appPL hp hx hr hsz hz hb fun v' r' d' O'=>K _ _ ⟨h,r',rfl,d',O',H⟩
end
section
variable {P:Program}{k:Env→Heap→Prop}{e:Env}{g h:Heap}{Γ:List HP}
end
def H_impl_StateSame:Hint:=⟨[(0,false),(1,false),(2,true),(3,true),(4,false)],[]⟩
abbrev K19_1:Pl:=.x 16 (.pick (.v 10) (.v 15) (.c (.bool false))) <|
 .m 4 16 .done
abbrev K19_2:Pl:=.m 10 9 <|
 .y 10 (.als 11 none 2) <|
 .y 10 (.pget (some 12) (some 11) 2 1 none) <|
 .y 10 (.als 13 none 3) <|
 .y 10 (.pget (some 14) (some 13) 3 1 none) <|
 .st (.act (some (.v 10,true)) (.ex (some 15) (.call fn_slices_Equal_S_int_int [.v 12,.v 14]))) K19_1
abbrev K19_3:C:=.seq (.pl <| .e 5 12 <|
 .a 5 2 <|
 .g 6 5 2 0 <|
 .a 7 3 <|
 .g 8 7 3 0 <|
 .c 9 (.call fn_slices_Equal_S_int_int [.v 6,.v 8]) K19_2) (.ret)
abbrev B_impl_StateSame:C:=.seq (.pl <| .e 5 0 <|
 .o (.pnew 2 (.v 0) []) <|
 .o (.pnew 3 (.v 1) []) <|
 .x 4 (.mv (.c (.bool false))) .done) K19_3
def R_impl_StateSame:FIR:=⟨B_impl_StateSame,5,[(4,none)]⟩
theorem IR_impl_StateSame:cfun Try.prog H_impl_StateSame Try.f19=some R_impl_StateSame:=by kernel_rfl
theorem EN_impl_StateSame:ENT Try.prog B_impl_StateSame [(4,none)] 2 5 fn_impl_StateSame:=fun hargs hw=>enter Try.func19 rfl IR_impl_StateSame hargs hw
def H_laws_FnStateText:Hint:=⟨[(0,false),(1,false),(4,false),(5,true),(6,true),(7,false),(8,true),(9,false),(10,true),(11,false),(12,true),(13,false),(14,true),(15,false)],[]⟩
abbrev K4_1:Pl:=.n 25 (.px (some 28) (.mv (.v 9))) <|
 .n 25 (.px (some 29) (.bin .eql (.v 27) (.v 28))) <|
 .y 22 (.px (some 30) (.pick (.v 25) (.c (.bool true)) (.v 29))) <|
 .x 31 (.pick (.v 22) (.v 30) (.c (.bool false))) <|
 .m 2 31 .done
abbrev K4_2:Pl:=.x 21 (.pick (.v 17) (.v 20) (.c (.bool false))) <|
 .m 22 21 <|
 .y 22 (.px (some 23) (.mv (.v 11))) <|
 .y 22 (.px (some 24) (.un .not (.v 23))) <|
 .y 22 (.px (some 25) (.mv (.v 24))) <|
 .n 25 (.pget (some 26) none 10 0 (some 2)) <|
 .st (.act (some (.v 25,false)) (.ex (some 27) (.call fn_impl_FormatState [.v 26]))) K4_1
abbrev K4_3:C:=.seq (.pl <| .e 14 18 <|
 .m 14 11 <|
 .m 15 13 <|
 .x 16 (.eqb false (.v 14) (.v 15)) <|
 .m 17 16 <|
 .y 17 (.pget (some 18) none 10 0 (some 2)) <|
 .y 17 (.pget (some 19) none 12 0 (some 2)) <|
 .st (.act (some (.v 17,true)) (.ex (some 20) (.call fn_impl_StateSame [.v 18,.v 19]))) K4_2) (.ret)
abbrev K4_4:Pl:=.m 17 16 <|
 .x 18 (.extract 0 (.v 17)) <|
 .x 19 (.extract 1 (.v 17)) <|
 .o (.pnew 12 (.c (.agg #[.slice none 0 0,.slice none 0 0])) []) <|
 .o (.pset none 12 0 2 (.v 18)) <|
 .m 13 19 .done
abbrev K4_5:C:=.seq (.pl <| .e 14 6 <|
 .o (.pget (some 14) none 8 0 (some 2)) <|
 .m 15 9 <|
 .c 16 (.call fn_spec_ParseState [.v 14,.v 15]) K4_4) K4_3
abbrev K4_6:Pl:=.m 17 16 <|
 .x 18 (.extract 0 (.v 17)) <|
 .x 19 (.extract 1 (.v 17)) <|
 .o (.pnew 10 (.c (.agg #[.slice none 0 0,.slice none 0 0])) []) <|
 .o (.pset none 10 0 2 (.v 18)) <|
 .m 11 19 .done
abbrev K4_7:C:=.seq (.pl <| .e 14 6 <|
 .o (.pget (some 14) none 8 0 (some 2)) <|
 .m 15 9 <|
 .c 16 (.call fn_impl_ParseState [.v 14,.v 15]) K4_6) K4_5
abbrev K4_8:Pl:=.m 16 15 <|
 .x 17 (.extract 0 (.v 16)) <|
 .x 18 (.extract 1 (.v 16)) <|
 .o (.pnew 8 (.c (.agg #[.slice none 0 0,.slice none 0 0])) []) <|
 .o (.pset none 8 0 2 (.v 17)) <|
 .m 9 18 .done
abbrev K4_9:C:=.seq (.pl <| .e 14 5 <|
 .m 14 1 <|
 .c 15 (.call fn_spec_DrawParseState [.v 14]) K4_8) K4_7
abbrev K4_10:C:=.seq (.pl <| .e 14 0 <|
 .x 2 (.mv (.c (.bool false))) .done) (.ret)
abbrev K4_11:C:=.cond 14 (.v 42) K4_10 (.skip)
abbrev K4_12:Pl:=.y 36 (.px (some 40) (.un .not (.v 39))) <|
 .n 34 (.px (some 41) (.pick (.v 36) (.v 40) (.c (.bool false)))) <|
 .x 42 (.pick (.v 34) (.c (.bool true)) (.v 41)) .done
abbrev K4_13:Pl:=.n 27 (.px (some 32) (.eqb true (.v 28) (.v 31))) <|
 .x 33 (.pick (.v 27) (.c (.bool true)) (.v 32)) <|
 .m 34 33 <|
 .n 34 (.px (some 35) (.mv (.v 7))) <|
 .n 34 (.px (some 36) (.mv (.v 35))) <|
 .y 36 (.pget (some 37) none 6 0 (some 2)) <|
 .y 36 (.pget (some 38) none 4 0 (some 2)) <|
 .st (.act (some (.v 36,true)) (.ex (some 39) (.call fn_impl_StateSame [.v 37,.v 38]))) K4_12
abbrev K4_14:Pl:=.n 18 (.px (some 25) (.eqb true (.v 21) (.v 24))) <|
 .x 26 (.pick (.v 18) (.c (.bool true)) (.v 25)) <|
 .m 27 26 <|
 .n 27 (.px (some 28) (.mv (.v 7))) <|
 .n 27 (.pget (some 29) none 3 0 (some 2)) <|
 .n 27 (.pget (some 30) none 4 0 (some 2)) <|
 .st (.act (some (.v 27,false)) (.ex (some 31) (.call fn_spec_StateValid [.v 29,.v 30]))) K4_13
abbrev K4_15:Pl:=.st (.act (some (.v 18,false)) (.ex (some 24) (.call fn_spec_StateValid [.v 22,.v 23]))) K4_14
abbrev K4_16:Pl:=.x 17 (.bin .neq (.v 14) (.v 16)) <|
 .m 18 17 <|
 .n 18 (.pget (some 19) none 3 0 (some 2)) <|
 .n 18 (.pget (some 20) none 4 0 (some 2)) <|
 .n 18 (.pget (some 22) none 3 0 (some 2)) <|
 .n 18 (.pget (some 23) none 4 0 (some 2)) <|
 .st (.act (some (.v 18,false)) (.ex (some 21) (.call fn_impl_StateValid [.v 19,.v 20]))) K4_15
abbrev K4_17:C:=.seq (.seq (.pl <| .e 14 29 <|
 .m 14 5 <|
 .o (.pget (some 15) none 4 0 (some 2)) <|
 .c 16 (.call fn_spec_FormatState [.v 15]) K4_16) K4_11) K4_9
abbrev K4_18:Pl:=.m 17 16 <|
 .x 18 (.extract 0 (.v 17)) <|
 .x 19 (.extract 1 (.v 17)) <|
 .o (.pnew 6 (.c (.agg #[.slice none 0 0,.slice none 0 0])) []) <|
 .o (.pset none 6 0 2 (.v 18)) <|
 .m 7 19 .done
abbrev K4_19:C:=.seq (.pl <| .e 14 6 <|
 .o (.pget (some 14) none 3 0 (some 2)) <|
 .m 15 5 <|
 .c 16 (.call fn_impl_ParseState [.v 14,.v 15]) K4_18) K4_17
abbrev K4_20:Pl:=.m 5 15 .done
abbrev K4_21:C:=.seq (.pl <| .e 14 2 <|
 .o (.pget (some 14) none 4 0 (some 2)) <|
 .c 15 (.call fn_impl_FormatState [.v 14]) K4_20) K4_19
abbrev K4_22:Pl:=.m 16 15 <|
 .x 17 (.extract 0 (.v 16)) <|
 .x 18 (.extract 1 (.v 16)) <|
 .o (.pnew 3 (.c (.agg #[.slice none 0 0,.slice none 0 0])) []) <|
 .o (.pnew 4 (.c (.agg #[.slice none 0 0,.slice none 0 0])) []) <|
 .o (.pset none 3 0 2 (.v 17)) <|
 .o (.pset none 4 0 2 (.v 18)) .done
abbrev K4_23:C:=.seq (.pl <| .e 14 5 <|
 .m 14 0 <|
 .c 15 (.call fn_spec_DrawStateValid [.v 14]) K4_22) K4_21
abbrev K4_24:C:=.seq (.pl <| .e 14 0 <|
 .x 2 (.mv (.c (.bool true))) .done) (.ret)
abbrev K4_25:C:=.cond 14 (.v 21) K4_24 (.skip)
abbrev K4_26:C:=.seq (.seq (.pl <| .e 14 8 <|
 .m 14 0 <|
 .x 15 (.lenV (.v 14)) <|
 .x 16 (.bin .gtr (.v 15) (.c (.int .i64 1048576))) <|
 .m 17 16 <|
 .n 17 (.px (some 18) (.mv (.v 1))) <|
 .n 17 (.px (some 19) (.lenV (.v 18))) <|
 .n 17 (.px (some 20) (.bin .gtr (.v 19) (.c (.int .i64 1048576)))) <|
 .x 21 (.pick (.v 17) (.c (.bool true)) (.v 20)) .done) K4_25) K4_23
abbrev B_laws_FnStateText:C:=.seq (.pl <| .e 14 0 <|
 .x 2 (.mv (.c (.bool false))) .done) K4_26
def R_laws_FnStateText:FIR:=⟨B_laws_FnStateText,14,[(2,none)]⟩
theorem IR_laws_FnStateText:cfun Try.prog H_laws_FnStateText Try.f4=some R_laws_FnStateText:=by kernel_rfl
theorem EN_laws_FnStateText:ENT Try.prog B_laws_FnStateText [(2,none)] 2 14 fn_laws_FnStateText:=fun hargs hw=>enter Try.func4 rfl IR_laws_FnStateText hargs hw
def H_slices_Equal_S_int_int:Hint:=⟨[(0,false),(1,false),(4,false),(5,false),(12,false),(13,false)],[[2,3]]⟩
abbrev K45_1:C:=.seq (.pl <| .e 6 0 <|
 .x 2 (.mv (.c (.bool true))) .done) (.ret)
abbrev K45_2:C:=.pl <| .e 6 1 <|
 .x 6 (.bin .add (.v 5) (.c (.int .i64 1))) <|
 .m 5 6 .done
abbrev K45_3:C:=.seq (.pl <| .e 6 0 <|
 .x 2 (.mv (.c (.bool false))) .done) (.ret)
abbrev K45_4:C:=.cond 6 (.v 14) K45_3 (.skip)
abbrev K45_5:C:=.seq (.pl <| .e 6 9 <|
 .m 6 0 <|
 .m 7 3 <|
 .x 8 (.ia 1 (.v 6) (.v 7)) <|
 .l 9 8 <|
 .m 10 1 <|
 .m 11 3 <|
 .x 12 (.ia 1 (.v 10) (.v 11)) <|
 .l 13 12 <|
 .x 14 (.bin .neq (.v 9) (.v 13)) .done) K45_4
abbrev K45_6:C:=.seq (.block 1 (.seq (.pl <| .e 6 1 <|
 .m 6 5 <|
 .m 3 6 .done) K45_5)) K45_2
abbrev K45_7:C:=.seq (.cond 6 (.v 6) (.skip) (.exit 0)) K45_6
abbrev K45_8:C:=.seq (.pl <| .e 6 1 <|
 .x 6 (.bin .lss (.v 5) (.v 4)) .done) K45_7
abbrev K45_9:C:=.block 0 (.loop 6 [2,3] K45_8)
abbrev K45_10:C:=.seq (.seq (.pl <| .e 6 1 <|
 .m 6 0 <|
 .x 4 (.lenV (.v 6)) <|
 .x 5 (.mv (.c (.int .i64 0))) .done) K45_9) K45_1
abbrev K45_11:C:=.seq (.pl <| .e 6 0 <|
 .x 2 (.mv (.c (.bool false))) .done) (.ret)
abbrev K45_12:C:=.cond 6 (.v 10) K45_11 (.skip)
abbrev K45_13:C:=.seq (.seq (.pl <| .e 6 5 <|
 .m 6 0 <|
 .x 7 (.lenV (.v 6)) <|
 .m 8 1 <|
 .x 9 (.lenV (.v 8)) <|
 .x 10 (.bin .neq (.v 7) (.v 9)) .done) K45_12) K45_10
abbrev B_slices_Equal_S_int_int:C:=.seq (.pl <| .e 6 0 <|
 .x 2 (.mv (.c (.bool false))) .done) K45_13
def R_slices_Equal_S_int_int:FIR:=⟨B_slices_Equal_S_int_int,6,[(2,none)]⟩
theorem IR_slices_Equal_S_int_int:cfun Try.prog H_slices_Equal_S_int_int Try.f45=some R_slices_Equal_S_int_int:=by kernel_rfl
theorem EN_slices_Equal_S_int_int:ENT Try.prog B_slices_Equal_S_int_int [(2,none)] 2 6 fn_slices_Equal_S_int_int:=fun hargs hw=>enter Try.func45 rfl IR_slices_Equal_S_int_int hargs hw
def H_spec_DrawParseState:Hint:=⟨[(0,false),(2,true),(3,false),(4,false),(5,true),(6,false)],[]⟩
abbrev K20_1:Pl:=.m 9 5 <|
 .o (.pset none 1 0 2 (.v 8)) <|
 .m 2 9 .done
abbrev K20_2:C:=.seq (.pl <| .e 6 4 <|
 .m 6 3 <|
 .o (.pget (some 7) none 4 0 (some 2)) <|
 .c 8 (.call fn_spec_l2Mutate [.v 6,.v 7]) K20_1) (.ret)
abbrev K20_3:Pl:=.m 5 12 .done
abbrev K20_4:Pl:=.c 12 (.call fn_spec_l1Bend [.v 6,.v 10,.v 11]) K20_3
abbrev K20_5:Pl:=.c 11 (.bls 1 8 [.string ⟨#[]⟩] [(0,1,.c (.string ⟨#[]⟩)),(1,1,.c (.string ⟨#[47]⟩)),(2,1,.c (.string ⟨#[48]⟩)),(3,1,.c (.string ⟨#[51]⟩)),(4,1,.c (.string ⟨#[52]⟩)),(5,1,.c (.string ⟨#[57]⟩)),(6,1,.c (.string ⟨#[97]⟩)),(7,1,.c (.string ⟨#[32]⟩))]) K20_4
abbrev K20_6:Pl:=.c 10 (.call fn_spec_FormatState [.v 9]) K20_5
abbrev K20_7:C:=.seq (.pl <| .e 6 7 <|
 .m 6 3 <|
 .m 7 3 <|
 .o (.pget (some 8) none 4 0 (some 2)) <|
 .c 9 (.call fn_spec_l3State [.v 7,.v 8]) K20_6) K20_2
abbrev K20_8:Pl:=.o (.pnew 4 (.c (.agg #[.slice none 0 0,.slice none 0 0])) []) <|
 .o (.pset none 4 0 2 (.v 7)) .done
abbrev K20_9:C:=.seq (.pl <| .e 6 2 <|
 .m 6 3 <|
 .c 7 (.call fn_spec_l2System [.v 6]) K20_8) K20_7
abbrev K20_10:Pl:=.m 3 7 .done
abbrev K20_11:C:=.seq (.pl <| .e 6 2 <|
 .m 6 0 <|
 .c 7 (.call fn_spec_l16Open [.v 6]) K20_10) K20_9
abbrev B_spec_DrawParseState:C:=.seq (.pl <| .e 6 0 <|
 .o (.pnew 1 (.c (.agg #[.slice none 0 0,.slice none 0 0])) []) <|
 .x 2 (.mv (.c (.string ⟨#[]⟩))) .done) K20_11
def R_spec_DrawParseState:FIR:=⟨B_spec_DrawParseState,6,[(1,some (some 2)),(2,none)]⟩
theorem IR_spec_DrawParseState:cfun Try.prog H_spec_DrawParseState Try.f20=some R_spec_DrawParseState:=by kernel_rfl
theorem EN_spec_DrawParseState:ENT Try.prog B_spec_DrawParseState [(1,some (some 2)),(2,none)] 1 6 fn_spec_DrawParseState:=fun hargs hw=>enter Try.func20 rfl IR_spec_DrawParseState hargs hw
def H_spec_DrawStateValid:Hint:=⟨[(0,false),(2,true),(3,true),(4,false),(5,true),(6,true)],[]⟩
abbrev K14_1:Pl:=.o (.pset none 1 0 2 (.v 8)) <|
 .o (.pset none 2 0 2 (.v 9)) .done
abbrev K14_2:C:=.seq (.pl <| .e 6 4 <|
 .m 6 3 <|
 .o (.pget (some 7) none 4 0 (some 2)) <|
 .o (.pget (some 9) none 5 0 (some 2)) <|
 .c 8 (.call fn_spec_l2Mutate [.v 6,.v 7]) K14_1) (.ret)
abbrev K14_3:Pl:=.o (.pnew 5 (.c (.agg #[.slice none 0 0,.slice none 0 0])) []) <|
 .o (.pset none 5 0 2 (.v 10)) .done
abbrev K14_4:Pl:=.c 10 (.call fn_spec_l3Mutate [.v 6,.v 9]) K14_3
abbrev K14_5:C:=.seq (.pl <| .e 6 5 <|
 .m 6 3 <|
 .m 7 3 <|
 .o (.pget (some 8) none 4 0 (some 2)) <|
 .c 9 (.call fn_spec_l3State [.v 7,.v 8]) K14_4) K14_2
abbrev K14_6:Pl:=.o (.pnew 4 (.c (.agg #[.slice none 0 0,.slice none 0 0])) []) <|
 .o (.pset none 4 0 2 (.v 7)) .done
abbrev K14_7:C:=.seq (.pl <| .e 6 2 <|
 .m 6 3 <|
 .c 7 (.call fn_spec_l2System [.v 6]) K14_6) K14_5
abbrev K14_8:Pl:=.m 3 7 .done
abbrev K14_9:C:=.seq (.pl <| .e 6 2 <|
 .m 6 0 <|
 .c 7 (.call fn_spec_l16Open [.v 6]) K14_8) K14_7
abbrev B_spec_DrawStateValid:C:=.seq (.pl <| .e 6 0 <|
 .o (.pnew 1 (.c (.agg #[.slice none 0 0,.slice none 0 0])) []) <|
 .o (.pnew 2 (.c (.agg #[.slice none 0 0,.slice none 0 0])) []) .done) K14_9
def R_spec_DrawStateValid:FIR:=⟨B_spec_DrawStateValid,6,[(1,some (some 2)),(2,some (some 2))]⟩
theorem IR_spec_DrawStateValid:cfun Try.prog H_spec_DrawStateValid Try.f14=some R_spec_DrawStateValid:=by kernel_rfl
theorem EN_spec_DrawStateValid:ENT Try.prog B_spec_DrawStateValid [(1,some (some 2)),(2,some (some 2))] 1 6 fn_spec_DrawStateValid:=fun hargs hw=>enter Try.func14 rfl IR_spec_DrawStateValid hargs hw
def H_spec_FormatState:Hint:=⟨[(0,false),(1,true),(2,false),(3,false),(4,false),(5,false),(6,false)],[]⟩
abbrev K16_1:C:=.seq (.pl <| .e 7 4 <|
 .m 7 3 <|
 .x 8 (.bin .add (.v 7) (.c (.string ⟨#[47]⟩))) <|
 .m 9 5 <|
 .x 10 (.bin .add (.v 8) (.v 9)) <|
 .m 2 10 .done) (.ret)
abbrev K16_2:C:=.seq (.pl <| .e 7 0 <|
 .x 2 (.mv (.c (.string ⟨#[]⟩))) .done) (.ret)
abbrev K16_3:C:=.cond 7 (.v 12) K16_2 (.skip)
abbrev K16_4:C:=.seq (.seq (.pl <| .e 7 6 <|
 .m 7 4 <|
 .x 8 (.un .not (.v 7)) <|
 .m 9 8 <|
 .n 9 (.px (some 10) (.mv (.v 6))) <|
 .n 9 (.px (some 11) (.un .not (.v 10))) <|
 .x 12 (.pick (.v 9) (.c (.bool true)) (.v 11)) .done) K16_3) K16_1
abbrev K16_5:Pl:=.m 10 9 <|
 .x 11 (.extract 0 (.v 10)) <|
 .x 12 (.extract 1 (.v 10)) <|
 .m 5 11 <|
 .m 6 12 .done
abbrev K16_6:C:=.seq (.pl <| .e 7 6 <|
 .a 7 1 <|
 .g 8 7 1 1 <|
 .c 9 (.call fn_spec_l3Digits [.v 8]) K16_5) K16_4
abbrev K16_7:Pl:=.m 10 9 <|
 .x 11 (.extract 0 (.v 10)) <|
 .x 12 (.extract 1 (.v 10)) <|
 .m 3 11 <|
 .m 4 12 .done
abbrev K16_8:C:=.seq (.pl <| .e 7 6 <|
 .a 7 1 <|
 .g 8 7 1 0 <|
 .c 9 (.call fn_spec_l3Digits [.v 8]) K16_7) K16_6
abbrev B_spec_FormatState:C:=.seq (.pl <| .e 7 0 <|
 .o (.pnew 1 (.v 0) []) <|
 .x 2 (.mv (.c (.string ⟨#[]⟩))) .done) K16_8
def R_spec_FormatState:FIR:=⟨B_spec_FormatState,7,[(2,none)]⟩
theorem IR_spec_FormatState:cfun Try.prog H_spec_FormatState Try.f16=some R_spec_FormatState:=by kernel_rfl
theorem EN_spec_FormatState:ENT Try.prog B_spec_FormatState [(2,none)] 1 7 fn_spec_FormatState:=fun hargs hw=>enter Try.func16 rfl IR_spec_FormatState hargs hw
def H_spec_InitialState:Hint:=⟨[(0,false),(1,true),(2,true),(3,false)],[]⟩
abbrev K56_1:Pl:=.x 12 (.build [.slice none 0 0,.slice none 0 0] [(0,1,.v 7),(1,1,.v 11)]) <|
 .o (.pset none 2 0 2 (.v 12)) <|
 .x 3 (.mv (.c (.bool true))) .done
abbrev K56_2:Pl:=.c 11 (.app 8 1 [.int .i64 0] (.p 0 8) (.o (.v 10))) K56_1
abbrev K56_3:Pl:=.c 7 (.mks 8 1 [.int .i64 0] (.v 6) (.v 6)) K56_2
abbrev K56_4:Pl:=.x 12 (.build [.slice none 0 0,.slice none 0 0] [(0,1,.v 7),(1,1,.v 11)]) <|
 .o (.pset none 2 0 2 (.v 12)) <|
 .x 3 (.mv (.c (.bool true))) .done
abbrev K56_5:Pl:=.c 7 (.mks 8 1 [.int .i64 0] (.v 6) (.v 6)) K56_4
abbrev K56_6:Pl:=.c 11 (.app 8 1 [.int .i64 0] (.p 0 8) (.o (.v 10))) K56_5
abbrev K56_7:C:=.seq (.pl <| .e 4 9 <|
 .a 4 1 <|
 .g 5 4 1 1 <|
 .x 6 (.lenV (.v 5)) <|
 .o (.psl 8 [] []) <|
 .a 9 1 <|
 .g 10 9 1 0 <|
 .both K56_3 K56_6) (.ret)
abbrev K56_8:C:=.seq (.pl <| .e 4 1 <|
 .x 4 (.build [.slice none 0 0,.slice none 0 0] []) <|
 .o (.pset none 2 0 2 (.v 4)) <|
 .x 3 (.mv (.c (.bool false))) .done) (.ret)
abbrev K56_9:C:=.cond 4 (.v 6) K56_8 (.skip)
abbrev K56_10:Pl:=.x 6 (.un .not (.v 5)) .done
abbrev K56_11:C:=.seq (.seq (.pl <| .e 4 3 <|
 .o (.pget (some 4) none 1 0 (some 2)) <|
 .c 5 (.call fn_spec_SystemValid [.v 4]) K56_10) K56_9) K56_7
abbrev B_spec_InitialState:C:=.seq (.pl <| .e 4 0 <|
 .o (.pnew 1 (.v 0) []) <|
 .o (.pnew 2 (.c (.agg #[.slice none 0 0,.slice none 0 0])) []) <|
 .x 3 (.mv (.c (.bool false))) .done) K56_11
def R_spec_InitialState:FIR:=⟨B_spec_InitialState,4,[(2,some (some 2)),(3,none)]⟩
theorem IR_spec_InitialState:cfun Try.prog H_spec_InitialState Try.f56=some R_spec_InitialState:=by kernel_rfl
theorem EN_spec_InitialState:ENT Try.prog B_spec_InitialState [(2,some (some 2)),(3,none)] 1 4 fn_spec_InitialState:=fun hargs hw=>enter Try.func56 rfl IR_spec_InitialState hargs hw
def H_spec_l16Dec:Hint:=⟨[(0,false),(2,false),(3,false)],[[1]]⟩
abbrev K65_1:Pl:=.m 8 2 <|
 .x 9 (.bin .add (.v 7) (.v 8)) <|
 .m 1 9 .done
abbrev K65_2:Pl:=.c 7 (.bstr (.v 6)) K65_1
abbrev K65_3:C:=.seq (.pl <| .e 3 7 <|
 .m 3 0 <|
 .x 4 (.bin .add (.c (.int .i64 48)) (.v 3)) <|
 .x 5 (.conv .u8 (.v 4)) <|
 .c 6 (.bls 1 1 [.int .u8 0] [(0,1,.v 5)]) K65_2) (.ret)
abbrev K65_4:C:=.pl <| .e 3 2 <|
 .m 3 0 <|
 .x 4 (.bin .quo (.v 3) (.c (.int .i64 10))) <|
 .m 0 4 .done
abbrev K65_5:Pl:=.m 9 2 <|
 .x 10 (.bin .add (.v 8) (.v 9)) <|
 .m 2 10 .done
abbrev K65_6:Pl:=.c 8 (.bstr (.v 7)) K65_5
abbrev K65_7:C:=.block 1 (.seq (.pl <| .e 3 8 <|
 .m 3 0 <|
 .x 4 (.bin .rem (.v 3) (.c (.int .i64 10))) <|
 .x 5 (.bin .add (.c (.int .i64 48)) (.v 4)) <|
 .x 6 (.conv .u8 (.v 5)) <|
 .c 7 (.bls 1 1 [.int .u8 0] [(0,1,.v 6)]) K65_6) K65_4)
abbrev K65_8:C:=.cond 3 (.v 4) (.skip) (.exit 0)
abbrev K65_9:C:=.seq (.seq (.pl <| .e 3 2 <|
 .m 3 0 <|
 .x 4 (.bin .gtr (.v 3) (.c (.int .i64 9))) .done) K65_8) K65_7
abbrev K65_10:C:=.seq (.block 0 (.loop 3 [1] K65_9)) K65_3
abbrev K65_11:C:=.seq (.pl <| .e 3 0 <|
 .x 2 (.mv (.c (.string ⟨#[]⟩))) .done) K65_10
abbrev K65_12:Pl:=.x 6 (.bin .add (.c (.string ⟨#[45]⟩)) (.v 5)) <|
 .m 1 6 .done
abbrev K65_13:C:=.seq (.pl <| .e 3 4 <|
 .m 3 0 <|
 .x 4 (.un .neg (.v 3)) <|
 .c 5 (.call fn_spec_l16Dec [.v 4]) K65_12) (.ret)
abbrev K65_14:C:=.cond 3 (.v 4) K65_13 (.skip)
abbrev K65_15:C:=.seq (.seq (.pl <| .e 3 2 <|
 .m 3 0 <|
 .x 4 (.bin .lss (.v 3) (.c (.int .i64 0))) .done) K65_14) K65_11
abbrev K65_16:C:=.seq (.pl <| .e 3 0 <|
 .x 1 (.mv (.c (.string ⟨#[45,57,50,50,51,51,55,50,48,51,54,56,53,52,55,55,53,56,48,56]⟩))) .done) (.ret)
abbrev K65_17:C:=.cond 3 (.v 4) K65_16 (.skip)
abbrev K65_18:C:=.seq (.seq (.pl <| .e 3 2 <|
 .m 3 0 <|
 .x 4 (.bin .lss (.v 3) (.c (.int .i64 (-9223372036854775807)))) .done) K65_17) K65_15
abbrev B_spec_l16Dec:C:=.seq (.pl <| .e 3 0 <|
 .x 1 (.mv (.c (.string ⟨#[]⟩))) .done) K65_18
def R_spec_l16Dec:FIR:=⟨B_spec_l16Dec,3,[(1,none)]⟩
theorem IR_spec_l16Dec:cfun Try.prog H_spec_l16Dec Try.f65=some R_spec_l16Dec:=by kernel_rfl
theorem EN_spec_l16Dec:ENT Try.prog B_spec_l16Dec [(1,none)] 1 3 fn_spec_l16Dec:=fun hargs hw=>enter Try.func65 rfl IR_spec_l16Dec hargs hw
def H_spec_l16Open:Hint:=⟨[(0,false),(2,false)],[]⟩
abbrev K34_1:Pl:=.m 1 4 .done
abbrev K34_2:C:=.seq (.pl <| .e 2 3 <|
 .m 2 0 <|
 .x 3 (.build [.slice none 0 0,.int .i64 0] [(0,1,.v 2)]) <|
 .c 4 (.alloc (.v 3)) K34_1) (.ret)
abbrev K34_3:C:=.pl <| .e 2 2 <|
 .m 2 0 <|
 .x 3 (.sliceV 1 (.v 2) none (some (.c (.int .i64 2000))) none) <|
 .m 0 3 .done
abbrev K34_4:C:=.cond 2 (.v 4) K34_3 (.skip)
abbrev K34_5:C:=.seq (.seq (.pl <| .e 2 3 <|
 .m 2 0 <|
 .x 3 (.lenV (.v 2)) <|
 .x 4 (.bin .gtr (.v 3) (.c (.int .i64 2000))) .done) K34_4) K34_2
abbrev B_spec_l16Open:C:=.seq (.pl <| .e 2 0 <|
 .x 1 (.mv (.c (.pointer none))) .done) K34_5
def R_spec_l16Open:FIR:=⟨B_spec_l16Open,2,[(1,none)]⟩
theorem IR_spec_l16Open:cfun Try.prog H_spec_l16Open Try.f34=some R_spec_l16Open:=by kernel_rfl
theorem EN_spec_l16Open:ENT Try.prog B_spec_l16Open [(1,none)] 1 2 fn_spec_l16Open:=fun hargs hw=>enter Try.func34 rfl IR_spec_l16Open hargs hw
def H_spec_l16Rd_num:Hint:=⟨[(0,false),(1,false),(4,false)],[]⟩
abbrev K54_1:Pl:=.x 8 (.ia 1 (.v 3) (.v 7)) <|
 .l 9 8 <|
 .m 2 9 .done
abbrev K54_2:C:=.seq (.pl <| .e 3 7 <|
 .m 3 1 <|
 .m 4 0 <|
 .m 5 1 <|
 .x 6 (.lenV (.v 5)) <|
 .c 7 (.call fn_spec_l16Rd_pick [.v 4,.v 6]) K54_1) (.ret)
abbrev B_spec_l16Rd_num:C:=.seq (.pl <| .e 3 0 <|
 .x 2 (.mv (.c (.int .i64 0))) .done) K54_2
def R_spec_l16Rd_num:FIR:=⟨B_spec_l16Rd_num,3,[(2,none)]⟩
theorem IR_spec_l16Rd_num:cfun Try.prog H_spec_l16Rd_num Try.f54=some R_spec_l16Rd_num:=by kernel_rfl
theorem EN_spec_l16Rd_num:ENT Try.prog B_spec_l16Rd_num [(2,none)] 2 3 fn_spec_l16Rd_num:=fun hargs hw=>enter Try.func54 rfl IR_spec_l16Rd_num hargs hw
def H_spec_l16Rd_of:Hint:=⟨[(0,false),(1,false),(4,false)],[]⟩
abbrev K71_1:Pl:=.x 8 (.ia 1 (.v 3) (.v 7)) <|
 .l 9 8 <|
 .m 2 9 .done
abbrev K71_2:C:=.seq (.pl <| .e 3 7 <|
 .m 3 1 <|
 .m 4 0 <|
 .m 5 1 <|
 .x 6 (.lenV (.v 5)) <|
 .c 7 (.call fn_spec_l16Rd_pick [.v 4,.v 6]) K71_1) (.ret)
abbrev B_spec_l16Rd_of:C:=.seq (.pl <| .e 3 0 <|
 .x 2 (.mv (.c (.string ⟨#[]⟩))) .done) K71_2
def R_spec_l16Rd_of:FIR:=⟨B_spec_l16Rd_of,3,[(2,none)]⟩
theorem IR_spec_l16Rd_of:cfun Try.prog H_spec_l16Rd_of Try.f71=some R_spec_l16Rd_of:=by kernel_rfl
theorem EN_spec_l16Rd_of:ENT Try.prog B_spec_l16Rd_of [(2,none)] 2 3 fn_spec_l16Rd_of:=fun hargs hw=>enter Try.func71 rfl IR_spec_l16Rd_of hargs hw
def H_spec_l16Rd_pick:Hint:=⟨[(0,false),(1,false),(4,false),(5,false),(6,false)],[]⟩
abbrev K53_1:C:=.seq (.pl <| .e 5 3 <|
 .m 5 4 <|
 .m 6 1 <|
 .x 7 (.bin .rem (.v 5) (.v 6)) <|
 .m 2 7 .done) (.ret)
abbrev K53_2:C:=.seq (.pl <| .e 5 4 <|
 .m 5 4 <|
 .m 6 4 <|
 .x 7 (.bin .quo (.v 6) (.c (.int .i64 64))) <|
 .x 8 (.bin .xor (.v 5) (.v 7)) <|
 .m 4 8 .done) K53_1
abbrev K53_3:C:=.seq (.pl <| .e 5 45 <|
 .m 5 0 <|
 .x 6 (.nilc (.v 5)) <|
 .x 7 (.fa 0 (.v 6)) <|
 .l 8 7 <|
 .m 9 3 <|
 .m 10 0 <|
 .x 11 (.nilc (.v 10)) <|
 .x 12 (.fa 0 (.v 11)) <|
 .l 13 12 <|
 .x 14 (.lenV (.v 13)) <|
 .x 15 (.bin .rem (.v 9) (.v 14)) <|
 .x 16 (.ia 1 (.v 8) (.v 15)) <|
 .l 17 16 <|
 .x 18 (.conv .i64 (.v 17)) <|
 .x 19 (.bin .mul (.v 18) (.c (.int .i64 131))) <|
 .m 20 0 <|
 .x 21 (.nilc (.v 20)) <|
 .x 22 (.fa 0 (.v 21)) <|
 .l 23 22 <|
 .m 24 3 <|
 .x 25 (.bin .mul (.v 24) (.c (.int .i64 7))) <|
 .x 26 (.bin .add (.v 25) (.c (.int .i64 3))) <|
 .m 27 0 <|
 .x 28 (.nilc (.v 27)) <|
 .x 29 (.fa 0 (.v 28)) <|
 .l 30 29 <|
 .x 31 (.lenV (.v 30)) <|
 .x 32 (.bin .rem (.v 26) (.v 31)) <|
 .x 33 (.ia 1 (.v 23) (.v 32)) <|
 .l 34 33 <|
 .x 35 (.conv .i64 (.v 34)) <|
 .x 36 (.bin .mul (.v 35) (.c (.int .i64 1117))) <|
 .x 37 (.bin .add (.v 19) (.v 36)) <|
 .m 38 3 <|
 .x 39 (.bin .mul (.v 38) (.c (.int .i64 29))) <|
 .x 40 (.bin .add (.v 37) (.v 39)) <|
 .m 41 3 <|
 .m 42 0 <|
 .x 43 (.nilc (.v 42)) <|
 .x 44 (.fa 0 (.v 43)) <|
 .l 45 44 <|
 .x 46 (.lenV (.v 45)) <|
 .x 47 (.bin .quo (.v 41) (.v 46)) <|
 .x 48 (.bin .mul (.v 47) (.c (.int .i64 53))) <|
 .x 49 (.bin .add (.v 40) (.v 48)) <|
 .m 4 49 .done) K53_2
abbrev K53_4:C:=.seq (.pl <| .e 5 10 <|
 .m 5 0 <|
 .x 6 (.nilc (.v 5)) <|
 .x 7 (.fa 0 (.v 6)) <|
 .l 8 7 <|
 .m 9 3 <|
 .x 10 (.ia 1 (.v 8) (.v 9)) <|
 .l 11 10 <|
 .x 12 (.conv .i64 (.v 11)) <|
 .m 13 1 <|
 .x 14 (.bin .rem (.v 12) (.v 13)) <|
 .m 2 14 .done) (.ret)
abbrev K53_5:C:=.cond 5 (.v 11) K53_4 (.skip)
abbrev K53_6:C:=.seq (.seq (.pl <| .e 5 7 <|
 .m 5 3 <|
 .m 6 0 <|
 .x 7 (.nilc (.v 6)) <|
 .x 8 (.fa 0 (.v 7)) <|
 .l 9 8 <|
 .x 10 (.lenV (.v 9)) <|
 .x 11 (.bin .lss (.v 5) (.v 10)) .done) K53_5) K53_3
abbrev K53_7:C:=.seq (.pl <| .e 5 5 <|
 .m 5 0 <|
 .x 6 (.nilc (.v 5)) <|
 .x 7 (.fa 1 (.v 6)) <|
 .l 8 7 <|
 .x 9 (.bin .sub (.v 8) (.c (.int .i64 1))) <|
 .m 3 9 .done) K53_6
abbrev K53_8:C:=.seq (.pl <| .e 5 0 <|
 .x 2 (.mv (.c (.int .i64 0))) .done) (.ret)
abbrev K53_9:C:=.cond 5 (.v 14) K53_8 (.skip)
abbrev K53_10:C:=.seq (.seq (.pl <| .e 5 10 <|
 .m 5 1 <|
 .x 6 (.bin .lss (.v 5) (.c (.int .i64 1))) <|
 .m 7 6 <|
 .n 7 (.px (some 8) (.mv (.v 0))) <|
 .n 7 (.px (some 9) (.nilc (.v 8))) <|
 .n 7 (.px (some 10) (.fa 0 (.v 9))) <|
 .n 7 (.ld (some 11) (.v 10) none) <|
 .n 7 (.px (some 12) (.lenV (.v 11))) <|
 .n 7 (.px (some 13) (.bin .eql (.v 12) (.c (.int .i64 0)))) <|
 .x 14 (.pick (.v 7) (.c (.bool true)) (.v 13)) .done) K53_9) K53_7
abbrev K53_11:C:=.seq (.pl <| .e 5 8 <|
 .m 5 0 <|
 .m 6 0 <|
 .x 7 (.nilc (.v 6)) <|
 .x 8 (.fa 1 (.v 7)) <|
 .l 9 8 <|
 .x 10 (.bin .add (.v 9) (.c (.int .i64 1))) <|
 .x 11 (.nilc (.v 5)) <|
 .x 12 (.fa 1 (.v 11)) <|
 .o (.ex none (.store 1 (.v 12) (.v 10))) .done) K53_10
abbrev B_spec_l16Rd_pick:C:=.seq (.pl <| .e 5 0 <|
 .x 2 (.mv (.c (.int .i64 0))) .done) K53_11
def R_spec_l16Rd_pick:FIR:=⟨B_spec_l16Rd_pick,5,[(2,none)]⟩
theorem IR_spec_l16Rd_pick:cfun Try.prog H_spec_l16Rd_pick Try.f53=some R_spec_l16Rd_pick:=by kernel_rfl
theorem EN_spec_l16Rd_pick:ENT Try.prog B_spec_l16Rd_pick [(2,none)] 2 5 fn_spec_l16Rd_pick:=fun hargs hw=>enter Try.func53 rfl IR_spec_l16Rd_pick hargs hw
def H_spec_l1Bend:Hint:=⟨[(0,false),(1,false),(2,false),(6,false),(7,false)],[]⟩
abbrev K46_1:Pl:=.x 16 (.bin .add (.v 13) (.v 15)) <|
 .x 17 (.sliceS (.v 12) (some (.v 16)) none) <|
 .x 18 (.bin .add (.v 11) (.v 17)) <|
 .m 3 18 .done
abbrev K46_2:Pl:=.x 11 (.bin .add (.v 7) (.v 10)) <|
 .c 15 (.call fn_spec_l16Rd_pick [.v 14,.c (.int .i64 2)]) K46_1
abbrev K46_3:C:=.seq (.pl <| .e 5 14 <|
 .m 5 1 <|
 .m 6 4 <|
 .x 7 (.sliceS (.v 5) none (some (.v 6))) <|
 .m 8 0 <|
 .m 9 2 <|
 .m 12 1 <|
 .m 13 4 <|
 .m 14 0 <|
 .c 10 (.call fn_spec_l16Rd_of [.v 8,.v 9]) K46_2) (.ret)
abbrev K46_4:Pl:=.m 4 8 .done
abbrev K46_5:C:=.seq (.pl <| .e 5 4 <|
 .m 5 0 <|
 .m 6 1 <|
 .x 7 (.lenS (.v 6)) <|
 .c 8 (.call fn_spec_l16Rd_pick [.v 5,.v 7]) K46_4) K46_3
abbrev K46_6:C:=.seq (.pl <| .e 5 1 <|
 .m 5 1 <|
 .m 3 5 .done) (.ret)
abbrev K46_7:C:=.cond 5 (.v 12) K46_6 (.skip)
abbrev K46_8:Pl:=.n 8 (.px (some 11) (.bin .eql (.v 10) (.c (.int .i64 0)))) <|
 .x 12 (.pick (.v 8) (.c (.bool true)) (.v 11)) .done
abbrev K46_9:C:=.seq (.seq (.pl <| .e 5 8 <|
 .m 5 1 <|
 .x 6 (.lenS (.v 5)) <|
 .x 7 (.bin .eql (.v 6) (.c (.int .i64 0))) <|
 .m 8 7 <|
 .n 8 (.px (some 9) (.mv (.v 0))) <|
 .st (.act (some (.v 8,false)) (.ex (some 10) (.call fn_spec_l16Rd_pick [.v 9,.c (.int .i64 2)]))) K46_8) K46_7) K46_5
abbrev B_spec_l1Bend:C:=.seq (.pl <| .e 5 0 <|
 .x 3 (.mv (.c (.string ⟨#[]⟩))) .done) K46_9
def R_spec_l1Bend:FIR:=⟨B_spec_l1Bend,5,[(3,none)]⟩
theorem IR_spec_l1Bend:cfun Try.prog H_spec_l1Bend Try.f46=some R_spec_l1Bend:=by kernel_rfl
theorem EN_spec_l1Bend:ENT Try.prog B_spec_l1Bend [(3,none)] 3 5 fn_spec_l1Bend:=fun hargs hw=>enter Try.func46 rfl IR_spec_l1Bend hargs hw
def H_spec_l1Bool:Hint:=⟨[(0,false),(2,false)],[]⟩
abbrev K112_1:C:=.seq (.pl <| .e 2 0 <|
 .x 1 (.mv (.c (.int .i64 0))) .done) (.ret)
abbrev K112_2:C:=.seq (.pl <| .e 2 0 <|
 .x 1 (.mv (.c (.int .i64 1))) .done) (.ret)
abbrev K112_3:C:=.cond 2 (.v 2) K112_2 (.skip)
abbrev K112_4:C:=.seq (.seq (.pl <| .e 2 1 <|
 .m 2 0 .done) K112_3) K112_1
abbrev B_spec_l1Bool:C:=.seq (.pl <| .e 2 0 <|
 .x 1 (.mv (.c (.int .i64 0))) .done) K112_4
def R_spec_l1Bool:FIR:=⟨B_spec_l1Bool,2,[(1,none)]⟩
theorem IR_spec_l1Bool:cfun Try.prog H_spec_l1Bool Try.f112=some R_spec_l1Bool:=by kernel_rfl
theorem EN_spec_l1Bool:ENT Try.prog B_spec_l1Bool [(1,none)] 1 2 fn_spec_l1Bool:=fun hargs hw=>enter Try.func112 rfl IR_spec_l1Bool hargs hw
def H_spec_l1Eval:Hint:=⟨[(0,false),(1,false),(2,true),(4,false),(5,false),(6,false),(8,false),(43,false)],[]⟩
abbrev K98_1:C:=.seq (.pl <| .e 8 6 <|
 .m 8 4 <|
 .m 9 5 <|
 .x 10 (.bin .sub (.v 8) (.v 9)) <|
 .x 11 (.bin .add (.v 10) (.c (.int .i64 3))) <|
 .x 12 (.bin .add (.v 11) (.c (.int .i64 1))) <|
 .x 13 (.bin .rem (.v 12) (.c (.int .i64 4))) <|
 .m 3 13 .done) (.ret)
abbrev K98_2:Pl:=.m 3 14 .done
abbrev K98_3:C:=.seq (.pl <| .e 8 7 <|
 .m 8 4 <|
 .x 9 (.bin .neq (.v 8) (.c (.int .i64 0))) <|
 .m 10 9 <|
 .y 10 (.px (some 11) (.mv (.v 5))) <|
 .y 10 (.px (some 12) (.bin .neq (.v 11) (.c (.int .i64 0)))) <|
 .x 13 (.pick (.v 10) (.v 12) (.c (.bool false))) <|
 .c 14 (.call fn_spec_l1Bool [.v 13]) K98_2) (.ret)
abbrev K98_4:Pl:=.m 3 14 .done
abbrev K98_5:C:=.seq (.pl <| .e 8 7 <|
 .m 8 4 <|
 .x 9 (.bin .neq (.v 8) (.c (.int .i64 0))) <|
 .m 10 9 <|
 .n 10 (.px (some 11) (.mv (.v 5))) <|
 .n 10 (.px (some 12) (.bin .neq (.v 11) (.c (.int .i64 0)))) <|
 .x 13 (.pick (.v 10) (.c (.bool true)) (.v 12)) <|
 .c 14 (.call fn_spec_l1Bool [.v 13]) K98_4) (.ret)
abbrev K98_6:Pl:=.m 3 11 .done
abbrev K98_7:C:=.seq (.pl <| .e 8 4 <|
 .m 8 4 <|
 .m 9 5 <|
 .x 10 (.bin .eql (.v 8) (.v 9)) <|
 .c 11 (.call fn_spec_l1Bool [.v 10]) K98_6) (.ret)
abbrev K98_8:Pl:=.m 3 11 .done
abbrev K98_9:C:=.seq (.pl <| .e 8 4 <|
 .m 8 4 <|
 .m 9 5 <|
 .x 10 (.bin .lss (.v 8) (.v 9)) <|
 .c 11 (.call fn_spec_l1Bool [.v 10]) K98_8) (.ret)
abbrev K98_10:C:=.seq (.pl <| .e 8 4 <|
 .m 8 4 <|
 .m 9 5 <|
 .x 10 (.bin .add (.v 8) (.v 9)) <|
 .x 11 (.bin .rem (.v 10) (.c (.int .i64 4))) <|
 .m 3 11 .done) (.ret)
abbrev K98_11:C:=.cond 8 (.v 9) K98_10 (.skip)
abbrev K98_12:C:=.seq (.pl <| .e 8 2 <|
 .x 8 (.bin .eql (.v 7) (.c (.int .i64 8))) <|
 .m 9 8 .done) K98_11
abbrev K98_13:C:=.cond 8 (.v 9) K98_9 K98_12
abbrev K98_14:C:=.seq (.pl <| .e 8 2 <|
 .x 8 (.bin .eql (.v 7) (.c (.int .i64 7))) <|
 .m 9 8 .done) K98_13
abbrev K98_15:C:=.cond 8 (.v 9) K98_7 K98_14
abbrev K98_16:C:=.seq (.pl <| .e 8 2 <|
 .x 8 (.bin .eql (.v 7) (.c (.int .i64 6))) <|
 .m 9 8 .done) K98_15
abbrev K98_17:C:=.cond 8 (.v 9) K98_5 K98_16
abbrev K98_18:C:=.seq (.pl <| .e 8 2 <|
 .x 8 (.bin .eql (.v 7) (.c (.int .i64 5))) <|
 .m 9 8 .done) K98_17
abbrev K98_19:C:=.cond 8 (.v 9) K98_3 K98_18
abbrev K98_20:C:=.block 1 (.seq (.pl <| .e 8 2 <|
 .x 8 (.bin .eql (.v 7) (.c (.int .i64 4))) <|
 .m 9 8 .done) K98_19)
abbrev K98_21:C:=.seq (.seq (.pl <| .e 8 1 <|
 .a 8 2 <|
 .g 7 8 2 0 .done) K98_20) K98_1
abbrev K98_22:Pl:=.m 5 13 .done
abbrev K98_23:C:=.seq (.pl <| .e 8 6 <|
 .a 8 2 <|
 .g 9 8 2 2 <|
 .x 10 (.ia 3 (.v 9) (.c (.int .i64 1))) <|
 .o (.ld (some 11) (.v 10) (some 3)) <|
 .m 12 1 <|
 .c 13 (.call fn_spec_l1Eval [.v 11,.v 12]) K98_22) K98_21
abbrev K98_24:Pl:=.m 4 13 .done
abbrev K98_25:C:=.seq (.pl <| .e 8 6 <|
 .a 8 2 <|
 .g 9 8 2 2 <|
 .x 10 (.ia 3 (.v 9) (.c (.int .i64 0))) <|
 .o (.ld (some 11) (.v 10) (some 3)) <|
 .m 12 1 <|
 .c 13 (.call fn_spec_l1Eval [.v 11,.v 12]) K98_24) K98_23
abbrev K98_26:C:=.seq (.pl <| .e 8 2 <|
 .a 8 2 <|
 .g 9 8 2 1 <|
 .m 3 9 .done) (.ret)
abbrev K98_27:C:=.seq (.pl <| .e 8 5 <|
 .m 8 1 <|
 .a 9 2 <|
 .g 10 9 2 1 <|
 .x 11 (.ia 1 (.v 8) (.v 10)) <|
 .l 12 11 <|
 .m 3 12 .done) (.ret)
abbrev K98_28:Pl:=.m 3 15 .done
abbrev K98_29:Pl:=.x 14 (.bin .eql (.v 13) (.c (.int .i64 0))) <|
 .c 15 (.call fn_spec_l1Bool [.v 14]) K98_28
abbrev K98_30:C:=.seq (.pl <| .e 8 8 <|
 .a 8 2 <|
 .g 9 8 2 2 <|
 .x 10 (.ia 3 (.v 9) (.c (.int .i64 0))) <|
 .o (.ld (some 11) (.v 10) (some 3)) <|
 .m 12 1 <|
 .c 13 (.call fn_spec_l1Eval [.v 11,.v 12]) K98_29) (.ret)
abbrev K98_31:C:=.cond 8 (.v 9) K98_30 (.skip)
abbrev K98_32:C:=.seq (.pl <| .e 8 2 <|
 .x 8 (.bin .eql (.v 6) (.c (.int .i64 3))) <|
 .m 9 8 .done) K98_31
abbrev K98_33:C:=.cond 8 (.v 9) K98_27 K98_32
abbrev K98_34:C:=.seq (.pl <| .e 8 2 <|
 .x 8 (.bin .eql (.v 6) (.c (.int .i64 2))) <|
 .m 9 8 .done) K98_33
abbrev K98_35:C:=.cond 8 (.v 9) K98_26 K98_34
abbrev K98_36:C:=.block 0 (.seq (.pl <| .e 8 2 <|
 .x 8 (.bin .eql (.v 6) (.c (.int .i64 1))) <|
 .m 9 8 .done) K98_35)
abbrev K98_37:C:=.seq (.seq (.pl <| .e 8 1 <|
 .a 8 2 <|
 .g 6 8 2 0 .done) K98_36) K98_25
abbrev B_spec_l1Eval:C:=.seq (.pl <| .e 8 0 <|
 .o (.pnew 2 (.v 0) []) <|
 .x 3 (.mv (.c (.int .i64 0))) .done) K98_37
def R_spec_l1Eval:FIR:=⟨B_spec_l1Eval,8,[(3,none)]⟩
theorem IR_spec_l1Eval:cfun Try.prog H_spec_l1Eval Try.f98=some R_spec_l1Eval:=by kernel_rfl
theorem EN_spec_l1Eval:ENT Try.prog B_spec_l1Eval [(3,none)] 2 8 fn_spec_l1Eval:=fun hargs hw=>enter Try.func98 rfl IR_spec_l1Eval hargs hw
def H_spec_l1Expr:Hint:=⟨[(0,false),(2,true),(3,true)],[]⟩
abbrev K61_1:Pl:=.x 5 (.build [.int .i64 0,.int .i64 0,.slice none 0 0] [(0,1,.c (.int .i64 2)),(1,1,.v 4)]) <|
 .o (.pset none 1 0 3 (.v 5)) .done
abbrev K61_2:C:=.seq (.pl <| .e 3 3 <|
 .m 3 0 <|
 .c 4 (.call fn_spec_l16Rd_pick [.v 3,.c (.int .i64 3)]) K61_1) (.ret)
abbrev K61_3:C:=.seq (.pl <| .e 3 1 <|
 .o (.pget (some 3) none 2 0 (some 3)) <|
 .o (.pset none 1 0 3 (.v 3)) .done) (.ret)
abbrev K61_4:C:=.cond 3 (.v 4) K61_3 (.skip)
abbrev K61_5:C:=.seq (.seq (.pl <| .e 3 2 <|
 .o (.pget (some 3) none 2 0 (some 3)) <|
 .c 4 (.call fn_spec_ExprValid [.v 3]) .done) K61_4) K61_2
abbrev K61_6:Pl:=.o (.pnew 2 (.c (.agg #[.int .i64 0,.int .i64 0,.slice none 0 0])) []) <|
 .o (.pset none 2 0 3 (.v 7)) .done
abbrev K61_7:Pl:=.c 7 (.call fn_spec_l1Random [.v 3,.v 6]) K61_6
abbrev K61_8:Pl:=.c 6 (.call fn_spec_l16Rd_num [.v 4,.v 5]) K61_7
abbrev K61_9:C:=.seq (.pl <| .e 3 5 <|
 .m 3 0 <|
 .m 4 0 <|
 .c 5 (.bls 1 4 [.int .i64 0] [(0,1,.c (.int .i64 3)),(1,1,.c (.int .i64 2)),(2,1,.c (.int .i64 3)),(3,1,.c (.int .i64 4))]) K61_8) K61_5
abbrev B_spec_l1Expr:C:=.seq (.pl <| .e 3 0 <|
 .o (.pnew 1 (.c (.agg #[.int .i64 0,.int .i64 0,.slice none 0 0])) []) .done) K61_9
def R_spec_l1Expr:FIR:=⟨B_spec_l1Expr,3,[(1,some (some 3))]⟩
theorem IR_spec_l1Expr:cfun Try.prog H_spec_l1Expr Try.f61=some R_spec_l1Expr:=by kernel_rfl
theorem EN_spec_l1Expr:ENT Try.prog B_spec_l1Expr [(1,some (some 3))] 1 3 fn_spec_l1Expr:=fun hargs hw=>enter Try.func61 rfl IR_spec_l1Expr hargs hw
def H_spec_l1Mutate:Hint:=⟨[(0,false),(1,false),(3,true),(4,true),(5,true),(10,false)],[]⟩
abbrev K60_1:C:=.seq (.pl <| .e 6 1 <|
 .o (.pget (some 6) none 4 0 (some 3)) <|
 .o (.pset none 3 0 3 (.v 6)) .done) (.ret)
abbrev K60_2:Pl:=.a 9 4 <|
 .o (.pset (some 9) 4 0 1 (.v 8)) .done
abbrev K60_3:Pl:=.c 8 (.call fn_spec_l16Rd_num [.v 6,.v 7]) K60_2
abbrev K60_4:C:=.pl <| .e 6 4 <|
 .m 6 0 <|
 .c 7 (.bls 1 7 [.int .i64 0] [(0,1,.c (.int .i64 0)),(1,1,.c (.int .i64 10)),(2,1,.c (.int .i64 (-1))),(3,1,.c (.int .i64 1)),(4,1,.c (.int .i64 2)),(5,1,.c (.int .i64 3)),(6,1,.c (.int .i64 4))]) K60_3
abbrev K60_5:Pl:=.a 9 4 <|
 .o (.pset (some 9) 4 1 1 (.v 8)) .done
abbrev K60_6:Pl:=.c 8 (.call fn_spec_l16Rd_num [.v 6,.v 7]) K60_5
abbrev K60_7:C:=.pl <| .e 6 4 <|
 .m 6 0 <|
 .c 7 (.bls 1 4 [.int .i64 0] [(0,1,.c (.int .i64 (-1))),(1,1,.c (.int .i64 4)),(2,1,.c (.int .i64 3)),(3,1,.c (.int .i64 9223372036854775807))]) K60_6
abbrev K60_8:Pl:=.a 11 4 <|
 .o (.pset (some 11) 4 2 1 (.v 10)) .done
abbrev K60_9:C:=.pl <| .e 6 6 <|
 .a 6 4 <|
 .g 7 6 4 2 <|
 .x 8 (.build [.int .i64 0,.int .i64 0,.slice none 0 0] [(0,1,.c (.int .i64 1))]) <|
 .o (.psl 9 [.int .i64 0,.int .i64 0,.slice none 0 0] [(0,3,.v 8)]) <|
 .c 10 (.app 40 3 [.int .i64 0,.int .i64 0,.slice none 0 0] (.o (.v 7)) (.p 1 9)) K60_8
abbrev K60_10:C:=.seq (.pl <| .e 6 1 <|
 .x 6 (.build [.int .i64 0,.int .i64 0,.slice none 0 0] []) <|
 .o (.pset none 3 0 3 (.v 6)) .done) (.ret)
abbrev K60_11:C:=.cond 6 (.v 7) K60_10 (.skip)
abbrev K60_12:C:=.seq (.pl <| .e 6 2 <|
 .x 6 (.bin .eql (.v 5) (.c (.int .i64 3))) <|
 .m 7 6 .done) K60_11
abbrev K60_13:C:=.cond 6 (.v 7) K60_9 K60_12
abbrev K60_14:C:=.seq (.pl <| .e 6 2 <|
 .x 6 (.bin .eql (.v 5) (.c (.int .i64 2))) <|
 .m 7 6 .done) K60_13
abbrev K60_15:C:=.cond 6 (.v 7) K60_7 K60_14
abbrev K60_16:C:=.seq (.pl <| .e 6 2 <|
 .x 6 (.bin .eql (.v 5) (.c (.int .i64 1))) <|
 .m 7 6 .done) K60_15
abbrev K60_17:C:=.cond 6 (.v 7) K60_4 K60_16
abbrev K60_18:C:=.block 0 (.seq (.pl <| .e 6 2 <|
 .x 6 (.bin .eql (.v 5) (.c (.int .i64 0))) <|
 .m 7 6 .done) K60_17)
abbrev K60_19:C:=.seq (.seq (.pl <| .e 6 1 <|
 .m 6 0 <|
 .c 5 (.call fn_spec_l16Rd_pick [.v 6,.c (.int .i64 40)]) .done) K60_18) K60_1
abbrev K60_20:Pl:=.o (.pnew 4 (.c (.agg #[.int .i64 0,.int .i64 0,.slice none 0 0])) []) <|
 .o (.pset none 4 0 3 (.v 8)) .done
abbrev K60_21:C:=.seq (.pl <| .e 6 3 <|
 .o (.pget (some 6) none 2 0 (some 3)) <|
 .x 7 (.build [.int .i64 0,.int .i64 0,.slice none 0 0] []) <|
 .c 8 (.call fn_spec_l1Subst [.v 6,.c (.int .i64 (-1)),.v 7]) K60_20) K60_19
abbrev B_spec_l1Mutate:C:=.seq (.pl <| .e 6 0 <|
 .o (.pnew 2 (.v 1) []) <|
 .o (.pnew 3 (.c (.agg #[.int .i64 0,.int .i64 0,.slice none 0 0])) []) .done) K60_21
def R_spec_l1Mutate:FIR:=⟨B_spec_l1Mutate,6,[(3,some (some 3))]⟩
theorem IR_spec_l1Mutate:cfun Try.prog H_spec_l1Mutate Try.f60=some R_spec_l1Mutate:=by kernel_rfl
theorem EN_spec_l1Mutate:ENT Try.prog B_spec_l1Mutate [(3,some (some 3))] 2 6 fn_spec_l1Mutate:=fun hargs hw=>enter Try.func60 rfl IR_spec_l1Mutate hargs hw
def H_spec_l1Random:Hint:=⟨[(0,false),(1,false),(4,true),(5,false),(6,true),(7,false)],[[3]]⟩
abbrev K82_1:C:=.seq (.pl <| .e 6 1 <|
 .o (.pget (some 6) none 4 0 (some 3)) <|
 .o (.pset none 2 0 3 (.v 6)) .done) (.ret)
abbrev K82_2:C:=.pl <| .e 6 2 <|
 .m 6 5 <|
 .x 7 (.bin .sub (.v 6) (.c (.int .i64 1))) <|
 .m 5 7 .done
abbrev K82_3:Pl:=.a 14 4 <|
 .o (.pset (some 14) 4 2 1 (.v 13)) .done
abbrev K82_4:Pl:=.o (.psl 12 [.int .i64 0,.int .i64 0,.slice none 0 0] [(0,3,.v 11)]) <|
 .c 13 (.app 40 3 [.int .i64 0,.int .i64 0,.slice none 0 0] (.o (.v 7)) (.p 1 12)) K82_3
abbrev K82_5:C:=.seq (.block 1 (.pl <| .e 6 9 <|
 .a 6 4 <|
 .g 7 6 4 2 <|
 .m 8 0 <|
 .m 9 1 <|
 .x 10 (.bin .sub (.v 9) (.c (.int .i64 1))) <|
 .c 11 (.call fn_spec_l1Random [.v 8,.v 10]) K82_4)) K82_2
abbrev K82_6:C:=.cond 6 (.v 7) (.skip) (.exit 0)
abbrev K82_7:C:=.seq (.seq (.pl <| .e 6 2 <|
 .m 6 5 <|
 .x 7 (.bin .gtr (.v 6) (.c (.int .i64 0))) .done) K82_6) K82_5
abbrev K82_8:C:=.block 0 (.loop 6 [3] K82_7)
abbrev K82_9:Pl:=.m 5 7 .done
abbrev K82_10:C:=.seq (.seq (.pl <| .e 6 2 <|
 .m 6 3 <|
 .c 7 (.call fn_spec_l1Arity [.v 6]) K82_9) K82_8) K82_1
abbrev K82_11:C:=.seq (.pl <| .e 6 2 <|
 .m 6 3 <|
 .x 7 (.build [.int .i64 0,.int .i64 0,.slice none 0 0] [(0,1,.v 6)]) <|
 .o (.pnew 4 (.c (.agg #[.int .i64 0,.int .i64 0,.slice none 0 0])) []) <|
 .o (.pset none 4 0 3 (.v 7)) .done) K82_10
abbrev K82_12:Pl:=.m 3 8 .done
abbrev K82_13:Pl:=.c 8 (.call fn_spec_l16Rd_num [.v 6,.v 7]) K82_12
abbrev K82_14:C:=.seq (.pl <| .e 6 3 <|
 .m 6 0 <|
 .c 7 (.bls 1 7 [.int .i64 0] [(0,1,.c (.int .i64 6)),(1,1,.c (.int .i64 8)),(2,1,.c (.int .i64 7)),(3,1,.c (.int .i64 4)),(4,1,.c (.int .i64 3)),(5,1,.c (.int .i64 5)),(6,1,.c (.int .i64 9))]) K82_13) K82_11
abbrev K82_15:Pl:=.x 9 (.build [.int .i64 0,.int .i64 0,.slice none 0 0] [(0,1,.c (.int .i64 2)),(1,1,.v 8)]) <|
 .o (.pset none 2 0 3 (.v 9)) .done
abbrev K82_16:Pl:=.c 8 (.call fn_spec_l16Rd_num [.v 6,.v 7]) K82_15
abbrev K82_17:C:=.seq (.pl <| .e 6 4 <|
 .m 6 0 <|
 .c 7 (.bls 1 4 [.int .i64 0] [(0,1,.c (.int .i64 0)),(1,1,.c (.int .i64 1)),(2,1,.c (.int .i64 0)),(3,1,.c (.int .i64 2))]) K82_16) (.ret)
abbrev K82_18:Pl:=.x 8 (.build [.int .i64 0,.int .i64 0,.slice none 0 0] [(0,1,.c (.int .i64 1)),(1,1,.v 7)]) <|
 .o (.pset none 2 0 3 (.v 8)) .done
abbrev K82_19:C:=.seq (.pl <| .e 6 3 <|
 .m 6 0 <|
 .c 7 (.call fn_spec_l16Rd_pick [.v 6,.c (.int .i64 4)]) K82_18) (.ret)
abbrev K82_20:C:=.cond 6 (.v 8) K82_19 (.skip)
abbrev K82_21:Pl:=.x 8 (.bin .eql (.v 7) (.c (.int .i64 0))) .done
abbrev K82_22:C:=.seq (.seq (.pl <| .e 6 3 <|
 .m 6 0 <|
 .c 7 (.call fn_spec_l16Rd_pick [.v 6,.c (.int .i64 3)]) K82_21) K82_20) K82_17
abbrev K82_23:C:=.cond 6 (.v 12) K82_22 (.skip)
abbrev K82_24:Pl:=.n 8 (.px (some 11) (.bin .eql (.v 10) (.c (.int .i64 0)))) <|
 .x 12 (.pick (.v 8) (.c (.bool true)) (.v 11)) .done
abbrev K82_25:C:=.seq (.seq (.pl <| .e 6 7 <|
 .m 6 1 <|
 .x 7 (.bin .lss (.v 6) (.c (.int .i64 2))) <|
 .m 8 7 <|
 .n 8 (.px (some 9) (.mv (.v 0))) <|
 .st (.act (some (.v 8,false)) (.ex (some 10) (.call fn_spec_l16Rd_pick [.v 9,.c (.int .i64 5)]))) K82_24) K82_23) K82_14
abbrev B_spec_l1Random:C:=.seq (.pl <| .e 6 0 <|
 .o (.pnew 2 (.c (.agg #[.int .i64 0,.int .i64 0,.slice none 0 0])) []) .done) K82_25
def R_spec_l1Random:FIR:=⟨B_spec_l1Random,6,[(2,some (some 3))]⟩
theorem IR_spec_l1Random:cfun Try.prog H_spec_l1Random Try.f82=some R_spec_l1Random:=by kernel_rfl
theorem EN_spec_l1Random:ENT Try.prog B_spec_l1Random [(2,some (some 3))] 2 6 fn_spec_l1Random:=fun hargs hw=>enter Try.func82 rfl IR_spec_l1Random hargs hw
def H_spec_l1Subst:Hint:=⟨[(0,false),(1,false),(2,false),(3,true),(5,true),(6,true),(7,true),(8,false)],[[0,2]]⟩
abbrev K81_1:C:=.seq (.pl <| .e 8 1 <|
 .o (.pget (some 8) none 6 0 (some 3)) <|
 .o (.pset none 5 0 3 (.v 8)) .done) (.ret)
abbrev K81_2:C:=.pl <| .e 8 2 <|
 .m 8 7 <|
 .x 9 (.bin .add (.v 8) (.c (.int .i64 1))) <|
 .m 7 9 .done
abbrev K81_3:Pl:=.a 20 6 <|
 .o (.pset (some 20) 6 2 1 (.v 19)) .done
abbrev K81_4:Pl:=.o (.psl 18 [.int .i64 0,.int .i64 0,.slice none 0 0] [(0,3,.v 17)]) <|
 .c 19 (.app 40 3 [.int .i64 0,.int .i64 0,.slice none 0 0] (.o (.v 9)) (.p 1 18)) K81_3
abbrev K81_5:C:=.seq (.block 1 (.pl <| .e 8 13 <|
 .a 8 6 <|
 .g 9 8 6 2 <|
 .a 10 3 <|
 .g 11 10 3 2 <|
 .m 12 7 <|
 .x 13 (.ia 3 (.v 11) (.v 12)) <|
 .o (.ld (some 14) (.v 13) (some 3)) <|
 .m 15 1 <|
 .o (.pget (some 16) none 4 0 (some 3)) <|
 .c 17 (.call fn_spec_l1Subst [.v 14,.v 15,.v 16]) K81_4)) K81_2
abbrev K81_6:C:=.cond 8 (.v 12) (.skip) (.exit 0)
abbrev K81_7:C:=.seq (.seq (.pl <| .e 8 5 <|
 .m 8 7 <|
 .a 9 3 <|
 .g 10 9 3 2 <|
 .x 11 (.lenV (.v 10)) <|
 .x 12 (.bin .lss (.v 8) (.v 11)) .done) K81_6) K81_5
abbrev K81_8:C:=.block 0 (.loop 8 [0,2] K81_7)
abbrev K81_9:C:=.seq (.seq (.pl <| .e 8 0 <|
 .x 7 (.mv (.c (.int .i64 0))) .done) K81_8) K81_1
abbrev K81_10:C:=.seq (.pl <| .e 8 5 <|
 .a 8 3 <|
 .g 9 8 3 0 <|
 .a 10 3 <|
 .g 11 10 3 1 <|
 .x 12 (.build [.int .i64 0,.int .i64 0,.slice none 0 0] [(0,1,.v 9),(1,1,.v 11)]) <|
 .o (.pnew 6 (.c (.agg #[.int .i64 0,.int .i64 0,.slice none 0 0])) []) <|
 .o (.pset none 6 0 3 (.v 12)) .done) K81_9
abbrev K81_11:Pl:=.o (.pset none 5 0 3 (.v 10)) .done
abbrev K81_12:C:=.seq (.pl <| .e 8 3 <|
 .o (.pget (some 8) none 4 0 (some 3)) <|
 .x 9 (.build [.int .i64 0,.int .i64 0,.slice none 0 0] []) <|
 .c 10 (.call fn_spec_l1Subst [.v 8,.c (.int .i64 (-1)),.v 9]) K81_11) (.ret)
abbrev K81_13:C:=.cond 8 (.v 16) K81_12 (.skip)
abbrev K81_14:C:=.seq (.seq (.pl <| .e 8 9 <|
 .a 8 3 <|
 .g 9 8 3 0 <|
 .x 10 (.bin .eql (.v 9) (.c (.int .i64 2))) <|
 .m 11 10 <|
 .y 11 (.als 12 none 3) <|
 .y 11 (.pget (some 13) (some 12) 3 1 none) <|
 .y 11 (.px (some 14) (.mv (.v 1))) <|
 .y 11 (.px (some 15) (.bin .eql (.v 13) (.v 14))) <|
 .x 16 (.pick (.v 11) (.v 15) (.c (.bool false))) .done) K81_13) K81_10
abbrev B_spec_l1Subst:C:=.seq (.pl <| .e 8 0 <|
 .o (.pnew 3 (.v 0) []) <|
 .o (.pnew 4 (.v 2) []) <|
 .o (.pnew 5 (.c (.agg #[.int .i64 0,.int .i64 0,.slice none 0 0])) []) .done) K81_14
def R_spec_l1Subst:FIR:=⟨B_spec_l1Subst,8,[(5,some (some 3))]⟩
theorem IR_spec_l1Subst:cfun Try.prog H_spec_l1Subst Try.f81=some R_spec_l1Subst:=by kernel_rfl
theorem EN_spec_l1Subst:ENT Try.prog B_spec_l1Subst [(5,some (some 3))] 3 8 fn_spec_l1Subst:=fun hargs hw=>enter Try.func81 rfl IR_spec_l1Subst hargs hw
def H_spec_l2Copy:Hint:=⟨[(0,false),(1,true),(2,true),(3,true),(4,false),(5,true),(6,false),(7,true)],[[0,5,6,7],[0,7]]⟩
abbrev K59_1:C:=.seq (.pl <| .e 8 1 <|
 .o (.pget (some 8) none 3 0 (some 2)) <|
 .o (.pset none 2 0 2 (.v 8)) .done) (.ret)
abbrev K59_2:C:=.pl <| .e 8 2 <|
 .m 8 4 <|
 .x 9 (.bin .add (.v 8) (.c (.int .i64 1))) <|
 .m 4 9 .done
abbrev K59_3:Pl:=.a 13 3 <|
 .o (.pset (some 13) 3 1 1 (.v 12)) .done
abbrev K59_4:C:=.pl <| .e 8 6 <|
 .a 8 3 <|
 .g 9 8 3 1 <|
 .o (.pget (some 10) none 5 0 (some 2)) <|
 .o (.psl 11 [.int .i64 0,.slice none 0 0] [(0,2,.v 10)]) <|
 .c 12 (.app 32 2 [.int .i64 0,.slice none 0 0] (.o (.v 9)) (.p 1 11)) K59_3
abbrev K59_5:C:=.pl <| .e 8 2 <|
 .m 8 6 <|
 .x 9 (.bin .add (.v 8) (.c (.int .i64 1))) <|
 .m 6 9 .done
abbrev K59_6:Pl:=.a 13 5 <|
 .o (.pset (some 13) 5 1 1 (.v 12)) .done
abbrev K59_7:C:=.pl <| .e 8 6 <|
 .a 8 5 <|
 .g 9 8 5 1 <|
 .o (.pget (some 10) none 7 0 (some 10)) <|
 .o (.psl 11 [.int .i64 0,.int .i64 0,.int .i64 0,.int .i64 0,.slice none 0 0,.int .i64 0,.int .i64 0,.int .i64 0,.slice none 0 0,.int .i64 0] [(0,10,.v 10)]) <|
 .c 12 (.app 112 10 [.int .i64 0,.int .i64 0,.int .i64 0,.int .i64 0,.slice none 0 0,.int .i64 0,.int .i64 0,.int .i64 0,.slice none 0 0,.int .i64 0] (.o (.v 9)) (.p 1 11)) K59_6
abbrev K59_8:Pl:=.a 12 7 <|
 .o (.pset (some 12) 7 6 3 (.v 11)) .done
abbrev K59_9:C:=.seq (.pl <| .e 8 5 <|
 .a 8 7 <|
 .o (.pget (some 9) (some 8) 7 6 (some 3)) <|
 .x 10 (.build [.int .i64 0,.int .i64 0,.slice none 0 0] []) <|
 .c 11 (.call fn_spec_l1Subst [.v 9,.c (.int .i64 (-1)),.v 10]) K59_8) K59_7
abbrev K59_10:Pl:=.a 12 7 <|
 .o (.pset (some 12) 7 2 3 (.v 11)) .done
abbrev K59_11:C:=.seq (.pl <| .e 8 5 <|
 .a 8 7 <|
 .o (.pget (some 9) (some 8) 7 2 (some 3)) <|
 .x 10 (.build [.int .i64 0,.int .i64 0,.slice none 0 0] []) <|
 .c 11 (.call fn_spec_l1Subst [.v 9,.c (.int .i64 (-1)),.v 10]) K59_10) K59_9
abbrev K59_12:C:=.seq (.block 3 (.seq (.pl <| .e 8 9 <|
 .a 8 1 <|
 .g 9 8 1 1 <|
 .m 10 4 <|
 .x 11 (.ia 2 (.v 9) (.v 10)) <|
 .x 12 (.fa 1 (.v 11)) <|
 .l 13 12 <|
 .m 14 6 <|
 .x 15 (.ia 10 (.v 13) (.v 14)) <|
 .o (.ld (some 16) (.v 15) (some 10)) <|
 .o (.pnew 7 (.c (.agg #[.int .i64 0,.int .i64 0,.int .i64 0,.int .i64 0,.slice none 0 0,.int .i64 0,.int .i64 0,.int .i64 0,.slice none 0 0,.int .i64 0])) []) <|
 .o (.pset none 7 0 10 (.v 16)) .done) K59_11)) K59_5
abbrev K59_13:C:=.cond 8 (.v 16) (.skip) (.exit 2)
abbrev K59_14:C:=.seq (.seq (.pl <| .e 8 9 <|
 .m 8 6 <|
 .a 9 1 <|
 .g 10 9 1 1 <|
 .m 11 4 <|
 .x 12 (.ia 2 (.v 10) (.v 11)) <|
 .x 13 (.fa 1 (.v 12)) <|
 .l 14 13 <|
 .x 15 (.lenV (.v 14)) <|
 .x 16 (.bin .lss (.v 8) (.v 15)) .done) K59_13) K59_12
abbrev K59_15:C:=.block 2 (.loop 8 [0,7] K59_14)
abbrev K59_16:C:=.seq (.seq (.pl <| .e 8 0 <|
 .x 6 (.mv (.c (.int .i64 0))) .done) K59_15) K59_4
abbrev K59_17:C:=.seq (.block 1 (.seq (.pl <| .e 8 7 <|
 .a 8 1 <|
 .g 9 8 1 1 <|
 .m 10 4 <|
 .x 11 (.ia 2 (.v 9) (.v 10)) <|
 .x 12 (.fa 0 (.v 11)) <|
 .l 13 12 <|
 .x 14 (.build [.int .i64 0,.slice none 0 0] [(0,1,.v 13)]) <|
 .o (.pnew 5 (.c (.agg #[.int .i64 0,.slice none 0 0])) []) <|
 .o (.pset none 5 0 2 (.v 14)) .done) K59_16)) K59_2
abbrev K59_18:C:=.cond 8 (.v 12) (.skip) (.exit 0)
abbrev K59_19:C:=.seq (.seq (.pl <| .e 8 5 <|
 .m 8 4 <|
 .a 9 1 <|
 .g 10 9 1 1 <|
 .x 11 (.lenV (.v 10)) <|
 .x 12 (.bin .lss (.v 8) (.v 11)) .done) K59_18) K59_17
abbrev K59_20:C:=.block 0 (.loop 8 [0,5,6,7] K59_19)
abbrev K59_21:C:=.seq (.seq (.pl <| .e 8 0 <|
 .x 4 (.mv (.c (.int .i64 0))) .done) K59_20) K59_1
abbrev K59_22:Pl:=.x 12 (.build [.slice none 0 0,.slice none 0 0] [(0,1,.v 11)]) <|
 .o (.pnew 3 (.c (.agg #[.slice none 0 0,.slice none 0 0])) []) <|
 .o (.pset none 3 0 2 (.v 12)) .done
abbrev K59_23:C:=.seq (.pl <| .e 8 5 <|
 .o (.psl 8 [] []) <|
 .a 9 1 <|
 .g 10 9 1 0 <|
 .c 11 (.app 8 1 [.int .i64 0] (.p 0 8) (.o (.v 10))) K59_22) K59_21
abbrev B_spec_l2Copy:C:=.seq (.pl <| .e 8 0 <|
 .o (.pnew 1 (.v 0) []) <|
 .o (.pnew 2 (.c (.agg #[.slice none 0 0,.slice none 0 0])) []) .done) K59_23
def R_spec_l2Copy:FIR:=⟨B_spec_l2Copy,8,[(2,some (some 2))]⟩
theorem IR_spec_l2Copy:cfun Try.prog H_spec_l2Copy Try.f59=some R_spec_l2Copy:=by kernel_rfl
theorem EN_spec_l2Copy:ENT Try.prog B_spec_l2Copy [(2,some (some 2))] 1 8 fn_spec_l2Copy:=fun hargs hw=>enter Try.func59 rfl IR_spec_l2Copy hargs hw
def H_spec_l2DrawEdge:Hint:=⟨[(0,false),(1,false),(4,true),(5,true),(6,true),(7,true),(29,false)],[]⟩
abbrev K55_1:C:=.seq (.pl <| .e 7 1 <|
 .o (.pget (some 7) none 3 0 (some 10)) <|
 .o (.pset none 2 0 10 (.v 7)) .done) (.ret)
abbrev K55_2:Pl:=.a 10 3 <|
 .o (.pset (some 10) 3 9 1 (.v 9)) .done
abbrev K55_3:Pl:=.c 9 (.call fn_spec_l16Rd_num [.v 7,.v 8]) K55_2
abbrev K55_4:C:=.pl <| .e 7 4 <|
 .m 7 0 <|
 .c 8 (.bls 1 6 [.int .i64 0] [(0,1,.c (.int .i64 1)),(1,1,.c (.int .i64 (-1))),(2,1,.c (.int .i64 1)),(3,1,.c (.int .i64 (-1))),(4,1,.c (.int .i64 2)),(5,1,.c (.int .i64 (-2)))]) K55_3
abbrev K55_5:C:=.cond 7 (.v 9) K55_4 (.skip)
abbrev K55_6:Pl:=.x 9 (.bin .eql (.v 8) (.c (.int .i64 0))) .done
abbrev K55_7:C:=.seq (.seq (.pl <| .e 7 3 <|
 .m 7 0 <|
 .c 8 (.call fn_spec_l16Rd_pick [.v 7,.c (.int .i64 4)]) K55_6) K55_5) K55_1
abbrev K55_8:Pl:=.x 9 (.build [.int .i64 0,.int .i64 0,.slice none 0 0] [(0,1,.c (.int .i64 1)),(1,1,.v 8)]) <|
 .a 10 3 <|
 .o (.pset (some 10) 3 6 3 (.v 9)) .done
abbrev K55_9:C:=.pl <| .e 7 4 <|
 .m 7 0 <|
 .c 8 (.call fn_spec_l16Rd_pick [.v 7,.c (.int .i64 3)]) K55_8
abbrev K55_10:Pl:=.x 10 (.build [.int .i64 0,.int .i64 0,.slice none 0 0] [(0,1,.c (.int .i64 8)),(2,1,.v 9)]) <|
 .a 11 3 <|
 .o (.pset (some 11) 3 6 3 (.v 10)) .done
abbrev K55_11:C:=.pl <| .e 7 5 <|
 .o (.pget (some 7) none 4 0 (some 3)) <|
 .o (.pget (some 8) none 5 0 (some 3)) <|
 .c 9 (.bls 3 2 [.int .i64 0,.int .i64 0,.slice none 0 0] [(0,3,.v 7),(3,3,.v 8)]) K55_10
abbrev K55_12:Pl:=.x 10 (.build [.int .i64 0,.int .i64 0,.slice none 0 0] [(0,1,.c (.int .i64 9)),(2,1,.v 9)]) <|
 .a 11 3 <|
 .o (.pset (some 11) 3 6 3 (.v 10)) .done
abbrev K55_13:C:=.pl <| .e 7 5 <|
 .o (.pget (some 7) none 5 0 (some 3)) <|
 .o (.pget (some 8) none 4 0 (some 3)) <|
 .c 9 (.bls 3 2 [.int .i64 0,.int .i64 0,.slice none 0 0] [(0,3,.v 7),(3,3,.v 8)]) K55_12
abbrev K55_14:Pl:=.a 9 3 <|
 .o (.pset (some 9) 3 6 3 (.v 8)) .done
abbrev K55_15:C:=.pl <| .e 7 3 <|
 .m 7 0 <|
 .c 8 (.call fn_spec_l1Expr [.v 7]) K55_14
abbrev K55_16:C:=.cond 7 (.v 8) K55_13 K55_15
abbrev K55_17:C:=.seq (.pl <| .e 7 2 <|
 .x 7 (.bin .eql (.v 6) (.c (.int .i64 2))) <|
 .m 8 7 .done) K55_16
abbrev K55_18:C:=.cond 7 (.v 8) K55_11 K55_17
abbrev K55_19:C:=.seq (.pl <| .e 7 2 <|
 .x 7 (.bin .eql (.v 6) (.c (.int .i64 1))) <|
 .m 8 7 .done) K55_18
abbrev K55_20:C:=.cond 7 (.v 8) K55_9 K55_19
abbrev K55_21:C:=.block 0 (.seq (.pl <| .e 7 2 <|
 .x 7 (.bin .eql (.v 6) (.c (.int .i64 0))) <|
 .m 8 7 .done) K55_20)
abbrev K55_22:C:=.seq (.pl <| .e 7 1 <|
 .m 7 0 <|
 .c 6 (.call fn_spec_l16Rd_pick [.v 7,.c (.int .i64 4)]) .done) K55_21
abbrev K55_23:C:=.seq (.pl <| .e 7 1 <|
 .x 7 (.build [.int .i64 0,.int .i64 0,.slice none 0 0] [(0,1,.c (.int .i64 1)),(1,1,.c (.int .i64 1))]) <|
 .o (.pnew 5 (.c (.agg #[.int .i64 0,.int .i64 0,.slice none 0 0])) []) <|
 .o (.pset none 5 0 3 (.v 7)) .done) K55_22
abbrev K55_24:C:=.seq (.pl <| .e 7 3 <|
 .a 7 3 <|
 .g 8 7 3 5 <|
 .x 9 (.build [.int .i64 0,.int .i64 0,.slice none 0 0] [(0,1,.c (.int .i64 2)),(1,1,.v 8)]) <|
 .o (.pnew 4 (.c (.agg #[.int .i64 0,.int .i64 0,.slice none 0 0])) []) <|
 .o (.pset none 4 0 3 (.v 9)) .done) K55_23
abbrev K55_25:Pl:=.a 10 3 <|
 .o (.pset (some 10) 3 5 1 (.v 9)) .done
abbrev K55_26:Pl:=.c 9 (.call fn_spec_l16Rd_num [.v 7,.v 8]) K55_25
abbrev K55_27:C:=.seq (.pl <| .e 7 4 <|
 .m 7 0 <|
 .c 8 (.bls 1 4 [.int .i64 0] [(0,1,.c (.int .i64 0)),(1,1,.c (.int .i64 1)),(2,1,.c (.int .i64 0)),(3,1,.c (.int .i64 2))]) K55_26) K55_24
abbrev K55_28:C:=.cond 7 (.v 9) K55_27 (.skip)
abbrev K55_29:Pl:=.x 9 (.bin .gtr (.v 8) (.c (.int .i64 0))) .done
abbrev K55_30:C:=.seq (.seq (.pl <| .e 7 3 <|
 .m 7 0 <|
 .c 8 (.call fn_spec_l16Rd_pick [.v 7,.c (.int .i64 3)]) K55_29) K55_28) K55_7
abbrev K55_31:Pl:=.x 15 (.build [.int .i64 0,.int .i64 0,.int .i64 0,.int .i64 0,.slice none 0 0,.int .i64 0,.int .i64 0,.int .i64 0,.slice none 0 0,.int .i64 0] [(0,1,.v 9),(1,1,.v 12),(2,3,.v 14),(5,1,.c (.int .i64 (-1)))]) <|
 .o (.pnew 3 (.c (.agg #[.int .i64 0,.int .i64 0,.int .i64 0,.int .i64 0,.slice none 0 0,.int .i64 0,.int .i64 0,.int .i64 0,.slice none 0 0,.int .i64 0])) []) <|
 .o (.pset none 3 0 10 (.v 15)) .done
abbrev K55_32:Pl:=.m 13 0 <|
 .c 14 (.call fn_spec_l2Guard [.v 13]) K55_31
abbrev K55_33:Pl:=.m 10 0 <|
 .m 11 1 <|
 .c 12 (.call fn_spec_l16Rd_pick [.v 10,.v 11]) K55_32
abbrev K55_34:C:=.seq (.pl <| .e 7 9 <|
 .m 7 0 <|
 .m 8 1 <|
 .c 9 (.call fn_spec_l16Rd_pick [.v 7,.v 8]) K55_33) K55_30
abbrev B_spec_l2DrawEdge:C:=.seq (.pl <| .e 7 0 <|
 .o (.pnew 2 (.c (.agg #[.int .i64 0,.int .i64 0,.int .i64 0,.int .i64 0,.slice none 0 0,.int .i64 0,.int .i64 0,.int .i64 0,.slice none 0 0,.int .i64 0])) []) .done) K55_34
def R_spec_l2DrawEdge:FIR:=⟨B_spec_l2DrawEdge,7,[(2,some (some 10))]⟩
theorem IR_spec_l2DrawEdge:cfun Try.prog H_spec_l2DrawEdge Try.f55=some R_spec_l2DrawEdge:=by kernel_rfl
theorem EN_spec_l2DrawEdge:ENT Try.prog B_spec_l2DrawEdge [(2,some (some 10))] 2 7 fn_spec_l2DrawEdge:=fun hargs hw=>enter Try.func55 rfl IR_spec_l2DrawEdge hargs hw
section
variable {α:Type} [Ty α] {h:Heap}{v:Value}
end
section
variable {h:Heap}{v:Value}
end
theorem wp_while {P:Program}{Q:Ex→Env→Heap→Prop}{e:Env}{h:Heap}{n:Nat}{fg:List Nat}{a:C}{σ:Type}(Enc:σ→Env→Heap→Prop) (m:σ→Nat) (s0:σ) (h0:Enc s0 (efgt (e.take n) fg) h)
  (hs:∀(J:Env→Heap→Prop) s e h,(∀s' e h,m s'<m s→Enc s' e h→J e h)→Enc s e h→a.wp P (loopQ n fg J Q) e h):(C.loop n fg a).wp P Q e h:=by
 refine wp_loop (fun k e h=>∃s,m s=k∧Enc s e h) ⟨_,s0,rfl,h0⟩ ?_
 rintro I' k e h hI ⟨s,rfl,hE⟩
 exact hs I' s e h (fun s' e h hlt hE=>hI (m s') e h hlt ⟨s',rfl,hE⟩) hE
section
variable {α:Type} [Ty α] {h:Heap}{v:Value}{l:List α}{i:Nat}
end
section
variable {g h:Heap}{Γ:List HP}
end
section
variable {α:Type} [Mk α]
end
section
variable {α:Type} [Mk α] {k:Int}{x y:List α}{i:Nat}
end
section
variable {α:Type} [Ty α] {h:Heap}{v:Value}{l:List α}{i:Nat}
end
section
variable {g h:Heap}{Γ:List HP}
theorem HS.rebase:∀{Δ Γ:List HP}{h:Heap},HS g (Δ++Γ) h→∃g1,HS g Γ g1∧HS g1 Δ h
 | [],_,h,H=>⟨h,H,HS.init⟩
 | _::_,_,_,⟨g',r,e,d,hp,H⟩=>by
  obtain⟨g1,h1,h2⟩:=H.rebase
  exact⟨g1,h1,g',r,e,d,hp,h2⟩
end
section
variable {P:Program}{k:Env→Heap→Prop}{e:Env}{g h:Heap}{Γ:List HP}{κ ν:Type} [DecidableEq κ] {kf:κ→Value}{vf:ν→Value}{b:Nat}{l:List (κ×ν)}{kt:KT}
end
namespace Exq
theorem evs_eq {vs:List Int}:∀l,evs vs l=l.map (ev vs)
 | []=>rfl
 | x::l=>by simp only[evs,List.map_cons,evs_eq l]
theorem ev_eq {vs:List Int}(x:Exq):x.ev vs=evk vs x.kind x.val (x.kev vs 0) (x.kev vs 1):=by
 cases x with
 | mk k v l=>simp only[ev,evs_eq];rfl
theorem kev_at {vs:List Int}{x:Exq}{j:Nat}(hj:j<x.kids.length):x.kev vs j=x.kids[j].ev vs:=by
 simp[kev,hj]
theorem tr01 {p:Prop} [Decidable p]:0≤tr p∧tr p≤1:=by unfold tr;split<;>omega
theorem ev_bnd {vs:List Int}(hv:VOk vs):∀{n:Nat}{x:Exq},x.Shp n→0≤x.ev vs∧x.ev vs≤3
 | 0,_,h=>h.elim
 | n+1,x,h=>by
  have hn:=h.1
  rw[ev_eq]
  unfold evk
  have h1:=hn.lo
  have h2:=hn.hi
  have h3:=hn.ar
  have hk:=hn.kind
  split
  ·rename_i h4;rw[h4] at h2;simp[most] at h2;omega
  split
  ·rename_i _ h4
   rw[h4] at h2;simp[most] at h2
   have h5:x.val.toNat<vs.length:=by rw[hv.len];omega
   rw[List.getD_eq_getElem?_getD,List.getElem?_eq_getElem h5]
   exact hv.at h5
  split
  ·have:=tr01 (p:=x.kev vs 0=0);omega
  have ha:(x.kids.length:Int)=2:=by
   rw[h3];unfold arity;rw[if_neg (by omega),if_neg (by assumption),if_pos (by omega)]
  have hl:x.kids.length=2:=by omega
  have g0:=ev_bnd hv (h.kid (i:=0) (by omega))
  have g1:=ev_bnd hv (h.kid (i:=1) (by omega))
  rw[kev_at (by omega),kev_at (by omega)]
  split
  ·have:=tr01 (p:=x.kids[0].ev vs≠0∧x.kids[1].ev vs≠0);omega
  split
  ·have:=tr01 (p:=x.kids[0].ev vs≠0∨x.kids[1].ev vs≠0);omega
  split
  ·have:=tr01 (p:=x.kids[0].ev vs=x.kids[1].ev vs);omega
  split
  ·have:=tr01 (p:=x.kids[0].ev vs<x.kids[1].ev vs);omega
  split
  ·rw[Int.tmod_eq_emod_of_nonneg (by omega)];omega
  ·rw[Int.tmod_eq_emod_of_nonneg (by omega)];omega
end Exq
theorem c_l1Bool {h:Heap}{b:Bool}:CallE Try.prog fn_spec_l1Bool [.bool b] h (fun u h'=>h'=h∧u=.int .i64 (if b then 1 else 0)):=by
 refine CallE.gen fun k hk=>EN_spec_l1Bool rfl ?_
 cases b
 ·simp -implicitDefEqProofs (disch:=omega)[wrap64]
  exact RetK.keep (hk _ _ ⟨rfl,rfl⟩)
 ·simp -implicitDefEqProofs (disch:=omega)[wrap64]
  exact RetK.keep (hk _ _ ⟨rfl,rfl⟩)
theorem c_l1Eval:∀(n:Nat) {x:Exq}{h:Heap}{v w:Value}{vs:List Int},VOk vs→x.Shp n→Rep h v x→Rep h w vs→CallE Try.prog fn_spec_l1Eval [v,w] h (fun u h'=>h'=h∧u=.int .i64 (x.ev vs)):=by
 intro n
 induction n with
 | zero=>intro x h v w vs _ hs;exact hs.elim
 | succ n ih0=>
 intro x h v w vs hv hs R Rw
 have ih:∀{y:Exq}{h:Heap}{u:Value},y.Shp n→Rep h u y→Rep h w vs→CallE Try.prog fn_spec_l1Eval [u,w] h (fun u h'=>h'=h∧u=.int .i64 (y.ev vs)):=fun a b c=>ih0 hv a b c
 obtain⟨wk,rfl,k1,k2,R1⟩:=Rep_Exq.1 R
 have hL:=R1.lt
 have hev:=x.ev_eq (vs:=vs)
 have har:=hs.1.ar
 have hlo:=hs.1.lo
 have hhi:=hs.1.hi
 have hkd:=hs.1.kind
 have hvl:=hv.len
 refine CallE.gen fun k hk=>EN_spec_l1Eval rfl ?_
 by_cases c1:x.kind=1
 ·simp -implicitDefEqProofs (disch:=first|omega|(simp only[LnZ];omega))[wrap64,c1]
  exact RetK.keep (hk _ _ ⟨rfl,by rw[hev];simp[Exq.evk,c1]⟩)
 by_cases c2:x.kind=2
 ·rw[c2] at hhi
  simp[Exq.most] at hhi
  obtain⟨q,hq⟩:∃q:Nat,x.val=q:=⟨x.val.toNat,by omega⟩
  simp -implicitDefEqProofs (disch:=first|omega|(simp only[LnZ];omega))[wrap64,c2,hq,Rw.I]
  refine RetK.keep (hk _ _ ⟨rfl,?_⟩)
  have hg:vs.getD q 0=vs[q]'(by omega):=by rw[List.getD_eq_getElem?_getD,List.getElem?_eq_getElem (by omega)];rfl
  rw[hev,← hg]
  simp[Exq.evk,c2,hq]
 by_cases c3:x.kind=3
 ·have hl:x.kids.length=1:=by
   rw[c3] at har;simp[Exq.arity] at har;omega
  obtain⟨u0,hu0,Ru0⟩:=R1.ld (i:=0) (by omega)
  change hload _ (some (elp 3 wk 0)) (some 3)=some u0 at hu0
  simp -implicitDefEqProofs (disch:=first|omega|(simp only[LnZ];omega))[wrap64,c1,c2,c3,R1.X (n:=3) rfl,hu0]
  refine (ih (hs.kid (i:=0) (by omega)) Ru0 Rw).go ?_
  rintro _ h ⟨rfl,rfl⟩
  simp -implicitDefEqProofs (disch:=first|omega|(simp only[LnZ];omega))[wrap64,c3]
  refine c_l1Bool.go ?_
  rintro _ h ⟨rfl,rfl⟩
  simp -implicitDefEqProofs (disch:=omega)[wrap64]
  refine RetK.keep (hk _ _ ⟨rfl,?_⟩)
  rw[hev,Exq.kev_at (by omega)]
  simp[Exq.evk,c3,Exq.tr]
 have hl:x.kids.length=2:=by
  unfold Exq.arity at har
  rw[if_neg (by omega),if_neg c3,if_pos (by omega)] at har;omega
 obtain⟨u0,hu0,Ru0⟩:=R1.ld (i:=0) (by omega)
 change hload _ (some (elp 3 wk 0)) (some 3)=some u0 at hu0
 obtain⟨u1,hu1,Ru1⟩:=R1.ld (i:=1) (by omega)
 change hload _ (some (elp 3 wk 1)) (some 3)=some u1 at hu1
 have b0:=Exq.ev_bnd hv (hs.kid (i:=0) (by omega))
 have b1:=Exq.ev_bnd hv (hs.kid (i:=1) (by omega))
 rw[Exq.kev_at (by omega),Exq.kev_at (by omega)] at hev
 simp -implicitDefEqProofs (disch:=first|omega|(simp only[LnZ];omega))[wrap64,c1,c2,c3,R1.X (n:=3) rfl,hu0]
 refine (ih (hs.kid (i:=0) (by omega)) Ru0 Rw).go ?_
 rintro _ h ⟨rfl,rfl⟩
 simp -implicitDefEqProofs (disch:=first|omega|(simp only[LnZ];omega))[wrap64,c3,R1.X (n:=3) rfl,hu1]
 refine (ih (hs.kid (i:=1) (by omega)) Ru1 Rw).go ?_
 rintro _ h ⟨rfl,rfl⟩
 obtain⟨a,ha⟩:∃a,a=x.kids[0].ev vs:=⟨_,rfl⟩
 obtain⟨b,hb⟩:∃b,b=x.kids[1].ev vs:=⟨_,rfl⟩
 rw[← ha] at b0 hev ⊢
 rw[← hb] at b1 hev ⊢
 by_cases c4:x.kind=4
 ·by_cases d1:a=0
  all_goals
   simp -implicitDefEqProofs (disch:=first|omega|(simp only[LnZ];omega))[wrap64,c4,d1]
   refine c_l1Bool.go ?_
   rintro _ h ⟨rfl,rfl⟩
   simp -implicitDefEqProofs (disch:=omega)[wrap64]
   exact RetK.keep (hk _ _ ⟨rfl,by rw[hev];simp[Exq.evk,c4,d1,Exq.tr]⟩)
 by_cases c5:x.kind=5
 ·by_cases d1:a=0
  all_goals
   simp -implicitDefEqProofs (disch:=first|omega|(simp only[LnZ];omega))[wrap64,c5,d1]
   refine c_l1Bool.go ?_
   rintro _ h ⟨rfl,rfl⟩
   simp -implicitDefEqProofs (disch:=omega)[wrap64]
   exact RetK.keep (hk _ _ ⟨rfl,by rw[hev];simp[Exq.evk,c5,d1,Exq.tr]⟩)
 by_cases c6:x.kind=6
 ·simp -implicitDefEqProofs (disch:=first|omega|(simp only[LnZ];omega))[wrap64,c6]
  refine c_l1Bool.go ?_
  rintro _ h ⟨rfl,rfl⟩
  simp -implicitDefEqProofs (disch:=omega)[wrap64]
  exact RetK.keep (hk _ _ ⟨rfl,by rw[hev];simp[Exq.evk,c6,Exq.tr]⟩)
 by_cases c7:x.kind=7
 ·simp -implicitDefEqProofs (disch:=first|omega|(simp only[LnZ];omega))[wrap64,c7]
  refine c_l1Bool.go ?_
  rintro _ h ⟨rfl,rfl⟩
  simp -implicitDefEqProofs (disch:=omega)[wrap64]
  exact RetK.keep (hk _ _ ⟨rfl,by rw[hev];simp[Exq.evk,c7,Exq.tr]⟩)
 by_cases c8:x.kind=8
 ·simp -implicitDefEqProofs (disch:=first|omega|(simp only[LnZ];omega))[wrap64,c8]
  exact RetK.keep (hk _ _ ⟨rfl,by rw[hev];simp[Exq.evk,c8]⟩)
 simp -implicitDefEqProofs (disch:=first|omega|(simp only[LnZ];omega))[wrap64,c4,c5,c6,c7,c8]
 refine RetK.keep (hk _ _ ⟨rfl,?_⟩)
 rw[hev]
 simp only[Exq.evk,c1,c2,c3,c4,c5,c6,c7,c8,if_false]
 congr 2
 omega
theorem Rep.ldStp {h:Heap}{v:Value}{l:List Stp}(hr:Rep h v l) {i:Nat}(hi:i<l.length):hload h (some (elp 4 v i)) (some 4)=some l[i].v:=hr.ldF hi
theorem Rep.xStp {h:Heap}{v:Value}{l:List Stp}(hr:Rep h v l):((∀(kd:IntKind) (i:Nat),i<l.length→iaV 4 v (.int kd i)=some (elp 4 v i))∧(∀(kd:IntKind) (i:Int),0≤i→i<l.length→iaV 4 v (.int kd i)=some (elp 4 v i.toNat))∧lenVV v=some (.int .i64 l.length)) ∧
  ∀(i:Nat) (hi:i<l.length),hload h (some (elp 4 v i)) (some 4)=some l[i].v:=⟨hr.X rfl,fun _ hi=>hr.ldStp hi⟩
theorem Rep.Y {h:Heap}{v:Value}{l:List (BitVec 8)}(hr:Rep h v l):((∀(kd:IntKind) (i:Nat),i<l.length→iaV 1 v (.int kd i)=some (elp 1 v i))∧(∀(kd:IntKind) (i:Int),0≤i→i<l.length→iaV 1 v (.int kd i)=some (elp 1 v i.toNat))∧lenVV v=some (.int .i64 l.length)) ∧
  ∀(i:Nat) (hi:i<l.length),hload h (some (elp 1 v i)) none=some (.int .u8 l[i].toNat):=⟨hr.X rfl,fun _ hi=>hr.ldF hi⟩
theorem xor_nn {a b:Int}(ha:0≤a) (ha2:a<9223372036854775808) (hb:0≤b) (hb2:b<9223372036854775808):0≤xorI .i64 a b∧xorI .i64 a b<9223372036854775808:=by
 have e1:(BitVec.ofInt 64 a).toNat=a.toNat:=by rw[BitVec.toNat_ofInt];congr 1;exact Int.emod_eq_of_lt ha (by omega)
 have e2:(BitVec.ofInt 64 b).toNat=b.toNat:=by rw[BitVec.toNat_ofInt];congr 1;exact Int.emod_eq_of_lt hb (by omega)
 have h:a.toNat^^^b.toNat<2^63:=Nat.xor_lt_two_pow (by omega) (by omega)
 have e3:xorI .i64 a b=((a.toNat^^^b.toNat:Nat):Int):=by
  unfold xorI
  rw[show IntKind.i64.bits=64 from rfl,BitVec.toNat_xor,e1,e2]
  exact wrap64 (by omega) (by omega)
 rw[e3]
 omega
theorem tmod_rng {a b:Int}(ha:0≤a) (hb:0<b):0≤a.tmod b∧a.tmod b<b:=by
 rw[Int.tmod_eq_emod_of_nonneg ha]
 exact⟨Int.emod_nonneg _ (by omega),Int.emod_lt_of_pos _ hb⟩
theorem tdiv_rng {a b:Int}(ha:0≤a) (hb:0<b):0≤a.tdiv b∧a.tdiv b≤a:=by
 rw[Int.tdiv_eq_ediv_of_nonneg ha]
 exact⟨Int.ediv_nonneg ha (by omega),Int.ediv_le_self _ ha⟩
theorem c_pick {g h:Heap}{Γ:List HP}{b:Nat}{sl:Value}{l:List (BitVec 8)}{p n:Int}(R:Rep g sl l) (H:HS g (rb b sl p::Γ) h) (hp:0≤p) (hp2:p<1099511627776) (hn:I64 n) :
  CallE Try.prog fn_spec_l16Rd_pick [.pointer (some ⟨b,0,none⟩),.int .i64 n] h (fun u h'=>∃r,u=.int .i64 r∧I64 r∧0≤r∧(1≤n→r<n)∧HS g (rb b sl (p+1)::Γ) h'):=by
 have hL:=R.lt
 have hn1:=hn.1
 have hn2:=hn.2
 refine CallE.gen fun k hk=>EN_spec_l16Rd_pick rfl ?_
 have hb0:hload h (some (.pointer (some ⟨b,0,none⟩))) none=some sl:=H.bxld rfl
 have hb1:hload h (some (.pointer (some ⟨b,1,none⟩))) none=some (.int .i64 p):=H.bxld rfl
 simp -implicitDefEqProofs (disch:=first|omega|(simp only[LnZ];omega))[wrap64,hb0,hb1]
 refine HS.bxst (o:=1) (sz:=1) (u:=.int .i64 (p+1)) H rfl rfl rfl rfl (by simp) fun h2 H=>?_
 replace H:HS g (rb b sl (p+1)::Γ) h2:=H
 have hb0:hload h2 (some (.pointer (some ⟨b,0,none⟩))) none=some sl:=H.bxld rfl
 have hb1:hload h2 (some (.pointer (some ⟨b,1,none⟩))) none=some (.int .i64 (p+1)):=H.bxld rfl
 by_cases a1:n<1
 ·simp -implicitDefEqProofs (disch:=first|omega|(simp only[LnZ];omega))[wrap64,hb0,hb1,a1]
  exact RetK.keep (hk _ _ ⟨0,rfl,⟨by omega,by omega⟩,by omega,fun h=>absurd h (by omega),H⟩)
 obtain⟨ln,hln⟩:∃ln:Int,ln=l.length:=⟨_,rfl⟩
 have hlen:=(R.on H).len
 rw[← hln] at hlen
 by_cases a2:ln=0
 ·simp -implicitDefEqProofs (disch:=first|omega|(simp only[LnZ];omega))[wrap64,hb0,hb1,a1,hlen,a2]
  exact RetK.keep (hk _ _ ⟨0,rfl,⟨by omega,by omega⟩,by omega,fun h=>by omega,H⟩)
 obtain⟨m,rfl⟩:∃m:Nat,p=m:=⟨p.toNat,(Int.toNat_of_nonneg hp).symm⟩
 have hn0:¬n=0:=by omega
 by_cases a3:(m:Int)<ln
 ·have hk3:m<l.length:=by omega
  obtain⟨c,hc⟩:∃c:Int,c=l[m].toNat:=⟨_,rfl⟩
  have hc2:c<256:=by have:=l[m].isLt;omega
  have hc0:0≤c:=by omega
  have hld:=(R.on H).Y.2 m hk3
  rw[← hc] at hld
  obtain⟨r1,r2⟩:=tmod_rng hc0 (show 0<n by omega)
  simp -implicitDefEqProofs (disch:=first|omega|(simp only[LnZ];omega))[wrap64,hb0,hb1,a1,hlen,a2,a3,(R.on H).Y.1.1,hld,hn0]
  exact RetK.keep (hk _ _ ⟨c.tmod n,rfl,⟨by omega,by omega⟩,r1,fun _=>r2,H⟩)
 ·obtain⟨s1,s2⟩:=tmod_rng (a:=(m:Int)) (b:=ln) (by omega) (by omega)
  obtain⟨i1,hi1⟩:∃i1:Nat,(m:Int).tmod ln=i1:=⟨_,(Int.toNat_of_nonneg s1).symm⟩
  obtain⟨t1,t2⟩:=tmod_rng (a:=(m:Int)*7+3) (b:=ln) (by omega) (by omega)
  obtain⟨i2,hi2⟩:∃i2:Nat,((m:Int)*7+3).tmod ln=i2:=⟨_,(Int.toNat_of_nonneg t1).symm⟩
  obtain⟨q1,q2⟩:=tdiv_rng (a:=(m:Int)) (b:=ln) (by omega) (by omega)
  obtain⟨q,hq⟩:∃q:Int,(m:Int).tdiv ln=q:=⟨_,rfl⟩
  rw[hi1] at s1 s2
  rw[hi2] at t1 t2
  rw[hq] at q1 q2
  have hl1:i1<l.length:=by omega
  have hl2:i2<l.length:=by omega
  obtain⟨c,hc⟩:∃c:Int,c=l[i1].toNat:=⟨_,rfl⟩
  have hc2:c<256:=by have:=l[i1].isLt;omega
  have hc0:0≤c:=by omega
  have hld:=(R.on H).Y.2 i1 hl1
  rw[← hc] at hld
  obtain⟨d,hd⟩:∃d:Int,d=l[i2].toNat:=⟨_,rfl⟩
  have hd2:d<256:=by have:=l[i2].isLt;omega
  have hd0:0≤d:=by omega
  have hld2:=(R.on H).Y.2 i2 hl2
  rw[← hd] at hld2
  obtain⟨x,hx⟩:∃x:Int,x=c*131+d*1117+(m:Int)*29+q*53:=⟨_,rfl⟩
  have hx0:0≤x:=by omega
  have hx1:x<9223372036854775808:=by omega
  obtain⟨y1,y2⟩:=tdiv_rng (a:=x) (b:=64) hx0 (by omega)
  obtain⟨z1,z2⟩:=xor_nn hx0 hx1 y1 (by omega)
  obtain⟨w1,w2⟩:=tmod_rng z1 (show 0<n by omega)
  simp -implicitDefEqProofs (disch:=first|omega|(simp only[LnZ];omega))[wrap64,hb0,hb1,a1,hlen,a2,a3,(R.on H).Y.1.1,hi1,hi2,hq,hld,hld2,hn0,← hx]
  exact RetK.keep (hk _ _ ⟨_,rfl,⟨by omega,by omega⟩,w1,fun _=>w2,H⟩)
theorem c_num {g h:Heap}{Γ:List HP}{b:Nat}{sl v:Value}{l:List (BitVec 8)}{p:Int}{xs:List Int}(R:Rep g sl l) (H:HS g (ow v xs::rb b sl p::Γ) h) (hp:0≤p) (hp2:p<1099511627776) (hx:xs≠[]) :
  CallE Try.prog fn_spec_l16Rd_num [.pointer (some ⟨b,0,none⟩),v] h (fun u h'=>∃r,u=.int .i64 r∧I64 r∧r∈xs∧HS g (rb b sl (p+1)::Γ) h'):=by
 have hL:=H.rep.lt
 have hpos:0<xs.length:=List.length_pos_iff.2 hx
 refine CallE.gen fun k hk=>EN_spec_l16Rd_num rfl ?_
 simp -implicitDefEqProofs (disch:=first|omega|(simp only[LnZ];omega))[wrap64,H.rep.len]
 refine (c_pick R H.sw1 hp hp2 ⟨by omega,by omega⟩).go ?_
 rintro _ h1 ⟨r,rfl,hr,hr0,hr1,H⟩
 obtain⟨i,rfl⟩:∃i:Nat,r=i:=⟨r.toNat,(Int.toNat_of_nonneg hr0).symm⟩
 have hi:i<xs.length:=by have:=hr1 (by omega);omega
 have hok:=H.sw1.rep.okI hi
 simp -implicitDefEqProofs (disch:=first|omega|(simp only[LnZ];omega))[wrap64,H.sw1.rep.I]
 exact RetK.keep (hk _ _ ⟨xs[i],rfl,⟨hok.1,hok.2⟩,List.getElem_mem hi,H.sw1.drop⟩)
theorem c_l16Open {h:Heap}{v:Value}{l:List (BitVec 8)}(R:Rep h v l):CallE Try.prog fn_spec_l16Open [v] h (fun u h'=>∃b sl,∃l':List (BitVec 8),u=.pointer (some ⟨b,0,none⟩)∧Rep h sl l'∧HS h [rb b sl 0] h'):=by
 have hL:=R.lt
 refine CallE.gen fun k hk=>EN_spec_l16Open rfl ?_
 by_cases a1:(2000:Int)<l.length
 ·obtain⟨v',e1,R'⟩:=R.cut (n:=2000) (esz:=1) (k:=.i64) (by omega)
  have hO:=R'.one
  have e2:sliceVV 1 v none (some (some (.int .i64 2000))) none=some v':=e1
  simp -implicitDefEqProofs (disch:=first|omega|(simp only[LnZ];omega))[wrap64,R.len,a1,e2,setC,hO,R'.cells]
  refine HS.init.alloc rfl fun b h1 H=>?_
  simp -implicitDefEqProofs (disch:=omega)[wrap64]
  exact RetK.keep (hk _ _ ⟨b,v',_,rfl,R',H⟩)
 ·have hO:=R.one
  simp -implicitDefEqProofs (disch:=first|omega|(simp only[LnZ];omega))[wrap64,R.len,a1,setC,hO,R.cells]
  refine HS.init.alloc rfl fun b h1 H=>?_
  simp -implicitDefEqProofs (disch:=omega)[wrap64]
  exact RetK.keep (hk _ _ ⟨b,v,_,rfl,R,H⟩)
end Go.Proofs.Ytjbjnicobdpdhaa

namespace Go.Proofs.Ytjbjnicobdpdhaa
open Go Go.RowKit
section
variable {H:Type}{enc:TypeId×Value→H}{P:Program}
end
section
variable {P:Program}{t:TypeId}
end
section
variable {P:Program}{W:World}{r:Reach}{base:Nat}{t e:TypeId}{v:Value}
theorem okWide_slice (ht:P.underlying t=some (.slice e)) (h:Value.okWide P W r base t v):∃a n c,v=.slice a n c:=by
 unfold Value.okWide at h
 rw[ht] at h
 simp only[Cell.okWide,ht] at h
 cases v<;>simp[Cell.ok,ht] at h ⊢
end
theorem rd_u8 {P:Program}{t:TypeId}(ht:P.underlying t=some (.int .u8)):RdT P t (BitVec 8):=by
 intro H enc W sp fuel cs x h hwt
 cases fuel with
 | zero=>simp[DataW.trod] at h
 | succ n=>
  unfold DataW.trod at h
  rw[ht] at h
  split at h
  case h_2 k k' m h1=>
   simp only[Option.some.injEq,TypeDesc.int.injEq] at h1
   subst h1
   split at h
   case isTrue hc=>
    obtain⟨rfl,hw⟩:=hc
    have:=bounds_u8 hw
    refine⟨BitVec.ofNat 8 m.toNat,?_⟩
    show _=[Value.int .u8 ((BitVec.ofNat 8 m.toNat).toNat:Int)]
    have e:((BitVec.ofNat 8 m.toNat).toNat:Int)=m:=by
     rw[BitVec.toNat_ofNat,Nat.mod_eq_of_lt (by omega)];omega
    rw[e]
   case isFalse=>simp at h
  all_goals simp_all
def H_spec_l2Guard:Hint:=⟨[(0,false),(2,true),(3,true),(4,true),(5,true)],[]⟩
abbrev K77_1:C:=.seq (.pl <| .e 5 1 <|
 .o (.pget (some 5) none 4 0 (some 3)) <|
 .o (.pset none 1 0 3 (.v 5)) .done) (.ret)
abbrev K77_2:Pl:=.x 7 (.build [.int .i64 0,.int .i64 0,.slice none 0 0] [(0,1,.c (.int .i64 3)),(2,1,.v 6)]) <|
 .o (.pset none 1 0 3 (.v 7)) .done
abbrev K77_3:C:=.seq (.pl <| .e 5 3 <|
 .o (.pget (some 5) none 4 0 (some 3)) <|
 .c 6 (.bls 3 1 [.int .i64 0,.int .i64 0,.slice none 0 0] [(0,3,.v 5)]) K77_2) (.ret)
abbrev K77_4:C:=.cond 5 (.v 7) K77_3 (.skip)
abbrev K77_5:Pl:=.x 7 (.bin .eql (.v 6) (.c (.int .i64 0))) .done
abbrev K77_6:C:=.seq (.seq (.pl <| .e 5 3 <|
 .m 5 0 <|
 .c 6 (.call fn_spec_l16Rd_pick [.v 5,.c (.int .i64 5)]) K77_5) K77_4) K77_1
abbrev K77_7:Pl:=.x 11 (.build [.int .i64 0,.int .i64 0,.slice none 0 0] [(0,1,.v 7),(2,1,.v 10)]) <|
 .o (.pset none 4 0 3 (.v 11)) .done
abbrev K77_8:Pl:=.c 10 (.bls 3 2 [.int .i64 0,.int .i64 0,.slice none 0 0] [(0,3,.v 8),(3,3,.v 9)]) K77_7
abbrev K77_9:Pl:=.c 7 (.call fn_spec_l16Rd_num [.v 5,.v 6]) K77_8
abbrev K77_10:Pl:=.x 11 (.build [.int .i64 0,.int .i64 0,.slice none 0 0] [(0,1,.v 7),(2,1,.v 10)]) <|
 .o (.pset none 4 0 3 (.v 11)) .done
abbrev K77_11:Pl:=.c 7 (.call fn_spec_l16Rd_num [.v 5,.v 6]) K77_10
abbrev K77_12:Pl:=.c 10 (.bls 3 2 [.int .i64 0,.int .i64 0,.slice none 0 0] [(0,3,.v 8),(3,3,.v 9)]) K77_11
abbrev K77_13:Pl:=.both K77_9 K77_12
abbrev K77_14:Pl:=.c 6 (.bls 1 3 [.int .i64 0] [(0,1,.c (.int .i64 6)),(1,1,.c (.int .i64 7)),(2,1,.c (.int .i64 6))]) K77_13
abbrev K77_15:Pl:=.x 11 (.build [.int .i64 0,.int .i64 0,.slice none 0 0] [(0,1,.v 7),(2,1,.v 10)]) <|
 .o (.pset none 4 0 3 (.v 11)) .done
abbrev K77_16:Pl:=.c 7 (.call fn_spec_l16Rd_num [.v 5,.v 6]) K77_15
abbrev K77_17:Pl:=.c 6 (.bls 1 3 [.int .i64 0] [(0,1,.c (.int .i64 6)),(1,1,.c (.int .i64 7)),(2,1,.c (.int .i64 6))]) K77_16
abbrev K77_18:Pl:=.c 10 (.bls 3 2 [.int .i64 0,.int .i64 0,.slice none 0 0] [(0,3,.v 8),(3,3,.v 9)]) K77_17
abbrev K77_19:C:=.seq (.pl <| .e 5 7 <|
 .m 5 0 <|
 .o (.pget (some 8) none 2 0 (some 3)) <|
 .o (.pget (some 9) none 3 0 (some 3)) <|
 .o (.pnew 4 (.c (.agg #[.int .i64 0,.int .i64 0,.slice none 0 0])) []) <|
 .both K77_14 K77_18) K77_6
abbrev K77_20:Pl:=.x 7 (.build [.int .i64 0,.int .i64 0,.slice none 0 0] [(0,1,.c (.int .i64 1)),(1,1,.v 6)]) <|
 .o (.pnew 3 (.c (.agg #[.int .i64 0,.int .i64 0,.slice none 0 0])) []) <|
 .o (.pset none 3 0 3 (.v 7)) .done
abbrev K77_21:C:=.seq (.pl <| .e 5 3 <|
 .m 5 0 <|
 .c 6 (.call fn_spec_l16Rd_pick [.v 5,.c (.int .i64 3)]) K77_20) K77_19
abbrev K77_22:Pl:=.x 8 (.build [.int .i64 0,.int .i64 0,.slice none 0 0] [(0,1,.c (.int .i64 2)),(1,1,.v 7)]) <|
 .o (.pnew 2 (.c (.agg #[.int .i64 0,.int .i64 0,.slice none 0 0])) []) <|
 .o (.pset none 2 0 3 (.v 8)) .done
abbrev K77_23:Pl:=.c 7 (.call fn_spec_l16Rd_num [.v 5,.v 6]) K77_22
abbrev K77_24:C:=.seq (.pl <| .e 5 4 <|
 .m 5 0 <|
 .c 6 (.bls 1 4 [.int .i64 0] [(0,1,.c (.int .i64 0)),(1,1,.c (.int .i64 1)),(2,1,.c (.int .i64 0)),(3,1,.c (.int .i64 2))]) K77_23) K77_21
abbrev K77_25:C:=.seq (.pl <| .e 5 1 <|
 .x 5 (.build [.int .i64 0,.int .i64 0,.slice none 0 0] [(0,1,.c (.int .i64 1)),(1,1,.c (.int .i64 1))]) <|
 .o (.pset none 1 0 3 (.v 5)) .done) (.ret)
abbrev K77_26:C:=.cond 5 (.v 7) K77_25 (.skip)
abbrev K77_27:Pl:=.x 7 (.bin .eql (.v 6) (.c (.int .i64 0))) .done
abbrev K77_28:C:=.seq (.seq (.pl <| .e 5 3 <|
 .m 5 0 <|
 .c 6 (.call fn_spec_l16Rd_pick [.v 5,.c (.int .i64 3)]) K77_27) K77_26) K77_24
abbrev B_spec_l2Guard:C:=.seq (.pl <| .e 5 0 <|
 .o (.pnew 1 (.c (.agg #[.int .i64 0,.int .i64 0,.slice none 0 0])) []) .done) K77_28
def R_spec_l2Guard:FIR:=⟨B_spec_l2Guard,5,[(1,some (some 3))]⟩
theorem IR_spec_l2Guard:cfun Try.prog H_spec_l2Guard Try.f77=some R_spec_l2Guard:=by kernel_rfl
theorem EN_spec_l2Guard:ENT Try.prog B_spec_l2Guard [(1,some (some 3))] 1 5 fn_spec_l2Guard:=fun hargs hw=>enter Try.func77 rfl IR_spec_l2Guard hargs hw
def H_spec_l2Mutate:Hint:=⟨[(0,false),(1,false),(3,true),(4,true),(5,true),(6,false),(31,false)],[]⟩
abbrev K38_1:C:=.seq (.pl <| .e 7 1 <|
 .o (.pget (some 7) none 4 0 (some 2)) <|
 .o (.pset none 3 0 2 (.v 7)) .done) (.ret)
abbrev K38_2:Pl:=.a 11 4 <|
 .o (.pset (some 11) 4 0 1 (.v 10)) .done
abbrev K38_3:C:=.pl <| .e 7 5 <|
 .a 7 4 <|
 .g 8 7 4 0 <|
 .o (.psl 9 [.int .i64 0] [(0,1,.c (.int .i64 0))]) <|
 .c 10 (.app 8 1 [.int .i64 0] (.o (.v 8)) (.p 1 9)) K38_2
abbrev K38_4:Pl:=.a 15 4 <|
 .o (.pset (some 15) 4 1 1 (.v 14)) .done
abbrev K38_5:Pl:=.x 12 (.build [.int .i64 0,.slice none 0 0] [(0,1,.v 11)]) <|
 .o (.psl 13 [.int .i64 0,.slice none 0 0] [(0,2,.v 12)]) <|
 .c 14 (.app 32 2 [.int .i64 0,.slice none 0 0] (.o (.v 8)) (.p 1 13)) K38_4
abbrev K38_6:Pl:=.c 11 (.call fn_spec_l16Rd_num [.v 9,.v 10]) K38_5
abbrev K38_7:C:=.pl <| .e 7 9 <|
 .a 7 4 <|
 .g 8 7 4 1 <|
 .m 9 0 <|
 .c 10 (.bls 1 4 [.int .i64 0] [(0,1,.c (.int .i64 0)),(1,1,.c (.int .i64 1)),(2,1,.c (.int .i64 4)),(3,1,.c (.int .i64 5))]) K38_6
abbrev K38_8:Pl:=.st (.re 12 (.v 11) none none) <|
 .x 17 (.ia 10 (.v 12) (.c (.int .i64 0))) <|
 .x 18 (.fa 2 (.v 17)) <|
 .o (.ex none (.store 3 (.v 18) (.v 16))) .done
abbrev K38_9:Pl:=.st (.re 12 (.v 11) none none) <|
 .c 16 (.call fn_spec_l1Mutate [.v 13,.v 15]) K38_8
abbrev K38_10:C:=.pl <| .e 7 12 <|
 .a 7 4 <|
 .g 8 7 4 1 <|
 .m 9 5 <|
 .x 10 (.ia 2 (.v 8) (.v 9)) <|
 .x 11 (.fa 1 (.v 10)) <|
 .l 12 11 <|
 .m 13 0 <|
 .m 14 0 <|
 .c 15 (.call fn_spec_l1Expr [.v 14]) K38_9
abbrev K38_11:C:=.cond 7 (.v 8) K38_10 (.skip)
abbrev K38_12:C:=.seq (.pl <| .e 7 2 <|
 .m 7 5 <|
 .x 8 (.bin .geq (.v 7) (.c (.int .i64 0))) .done) K38_11
abbrev K38_13:Pl:=.st (.re 12 (.v 11) none none) <|
 .x 16 (.ia 10 (.v 12) (.c (.int .i64 0))) <|
 .x 17 (.fa 5 (.v 16)) <|
 .o (.ex none (.store 1 (.v 17) (.v 15))) .done
abbrev K38_14:Pl:=.st (.re 12 (.v 11) none none) <|
 .c 15 (.call fn_spec_l16Rd_num [.v 13,.v 14]) K38_13
abbrev K38_15:C:=.pl <| .e 7 11 <|
 .a 7 4 <|
 .g 8 7 4 1 <|
 .m 9 5 <|
 .x 10 (.ia 2 (.v 8) (.v 9)) <|
 .x 11 (.fa 1 (.v 10)) <|
 .l 12 11 <|
 .m 13 0 <|
 .c 14 (.bls 1 4 [.int .i64 0] [(0,1,.c (.int .i64 (-1))),(1,1,.c (.int .i64 3)),(2,1,.c (.int .i64 0)),(3,1,.c (.int .i64 (-2)))]) K38_14
abbrev K38_16:C:=.cond 7 (.v 8) K38_15 (.skip)
abbrev K38_17:C:=.seq (.pl <| .e 7 2 <|
 .m 7 5 <|
 .x 8 (.bin .geq (.v 7) (.c (.int .i64 0))) .done) K38_16
abbrev K38_18:Pl:=.st (.re 12 (.v 11) none none) <|
 .x 16 (.ia 10 (.v 12) (.c (.int .i64 0))) <|
 .x 17 (.fa 9 (.v 16)) <|
 .o (.ex none (.store 1 (.v 17) (.v 15))) .done
abbrev K38_19:Pl:=.st (.re 12 (.v 11) none none) <|
 .c 15 (.call fn_spec_l16Rd_num [.v 13,.v 14]) K38_18
abbrev K38_20:C:=.pl <| .e 7 11 <|
 .a 7 4 <|
 .g 8 7 4 1 <|
 .m 9 5 <|
 .x 10 (.ia 2 (.v 8) (.v 9)) <|
 .x 11 (.fa 1 (.v 10)) <|
 .l 12 11 <|
 .m 13 0 <|
 .c 14 (.bls 1 4 [.int .i64 0] [(0,1,.c (.int .i64 3)),(1,1,.c (.int .i64 (-3))),(2,1,.c (.int .i64 2)),(3,1,.c (.int .i64 (-9223372036854775808)))]) K38_19
abbrev K38_21:C:=.cond 7 (.v 8) K38_20 (.skip)
abbrev K38_22:C:=.seq (.pl <| .e 7 2 <|
 .m 7 5 <|
 .x 8 (.bin .geq (.v 7) (.c (.int .i64 0))) .done) K38_21
abbrev K38_23:Pl:=.st (.re 12 (.v 11) none none) <|
 .x 16 (.ia 10 (.v 12) (.c (.int .i64 0))) <|
 .x 17 (.fa 1 (.v 16)) <|
 .o (.ex none (.store 1 (.v 17) (.v 15))) .done
abbrev K38_24:Pl:=.st (.re 12 (.v 11) none none) <|
 .c 15 (.call fn_spec_l16Rd_num [.v 13,.v 14]) K38_23
abbrev K38_25:C:=.pl <| .e 7 11 <|
 .a 7 4 <|
 .g 8 7 4 1 <|
 .m 9 5 <|
 .x 10 (.ia 2 (.v 8) (.v 9)) <|
 .x 11 (.fa 1 (.v 10)) <|
 .l 12 11 <|
 .m 13 0 <|
 .c 14 (.bls 1 4 [.int .i64 0] [(0,1,.c (.int .i64 (-1))),(1,1,.c (.int .i64 4)),(2,1,.c (.int .i64 0)),(3,1,.c (.int .i64 9223372036854775807))]) K38_24
abbrev K38_26:C:=.cond 7 (.v 8) K38_25 (.skip)
abbrev K38_27:C:=.seq (.pl <| .e 7 2 <|
 .m 7 5 <|
 .x 8 (.bin .geq (.v 7) (.c (.int .i64 0))) .done) K38_26
abbrev K38_28:C:=.seq (.pl <| .e 7 1 <|
 .x 7 (.build [.slice none 0 0,.slice none 0 0] []) <|
 .o (.pset none 3 0 2 (.v 7)) .done) (.ret)
abbrev K38_29:C:=.cond 7 (.v 8) K38_28 (.skip)
abbrev K38_30:C:=.seq (.pl <| .e 7 2 <|
 .x 7 (.bin .eql (.v 6) (.c (.int .i64 6))) <|
 .m 8 7 .done) K38_29
abbrev K38_31:C:=.cond 7 (.v 8) K38_27 K38_30
abbrev K38_32:C:=.seq (.pl <| .e 7 2 <|
 .x 7 (.bin .eql (.v 6) (.c (.int .i64 5))) <|
 .m 8 7 .done) K38_31
abbrev K38_33:C:=.cond 7 (.v 8) K38_22 K38_32
abbrev K38_34:C:=.seq (.pl <| .e 7 2 <|
 .x 7 (.bin .eql (.v 6) (.c (.int .i64 4))) <|
 .m 8 7 .done) K38_33
abbrev K38_35:C:=.cond 7 (.v 8) K38_17 K38_34
abbrev K38_36:C:=.seq (.pl <| .e 7 2 <|
 .x 7 (.bin .eql (.v 6) (.c (.int .i64 3))) <|
 .m 8 7 .done) K38_35
abbrev K38_37:C:=.cond 7 (.v 8) K38_12 K38_36
abbrev K38_38:C:=.seq (.pl <| .e 7 2 <|
 .x 7 (.bin .eql (.v 6) (.c (.int .i64 2))) <|
 .m 8 7 .done) K38_37
abbrev K38_39:C:=.cond 7 (.v 8) K38_7 K38_38
abbrev K38_40:C:=.seq (.pl <| .e 7 2 <|
 .x 7 (.bin .eql (.v 6) (.c (.int .i64 1))) <|
 .m 8 7 .done) K38_39
abbrev K38_41:C:=.cond 7 (.v 8) K38_3 K38_40
abbrev K38_42:C:=.block 0 (.seq (.pl <| .e 7 2 <|
 .x 7 (.bin .eql (.v 6) (.c (.int .i64 0))) <|
 .m 8 7 .done) K38_41)
abbrev K38_43:C:=.seq (.seq (.pl <| .e 7 1 <|
 .m 7 0 <|
 .c 6 (.call fn_spec_l16Rd_pick [.v 7,.c (.int .i64 50)]) .done) K38_42) K38_1
abbrev K38_44:C:=.pl <| .e 7 0 <|
 .x 5 (.mv (.c (.int .i64 (-1)))) .done
abbrev K38_45:C:=.cond 7 (.v 21) K38_44 (.skip)
abbrev K38_46:C:=.seq (.seq (.pl <| .e 7 15 <|
 .m 7 5 <|
 .a 8 2 <|
 .g 9 8 2 1 <|
 .x 10 (.lenV (.v 9)) <|
 .x 11 (.bin .eql (.v 7) (.v 10)) <|
 .m 12 11 <|
 .n 12 (.als 13 none 4) <|
 .n 12 (.pget (some 14) (some 13) 4 1 none) <|
 .n 12 (.px (some 15) (.mv (.v 5))) <|
 .n 12 (.px (some 16) (.ia 2 (.v 14) (.v 15))) <|
 .n 12 (.px (some 17) (.fa 1 (.v 16))) <|
 .n 12 (.ld (some 18) (.v 17) none) <|
 .n 12 (.px (some 19) (.lenV (.v 18))) <|
 .n 12 (.px (some 20) (.bin .eql (.v 19) (.c (.int .i64 0)))) <|
 .x 21 (.pick (.v 12) (.c (.bool true)) (.v 20)) .done) K38_45) K38_43
abbrev K38_47:Pl:=.m 5 12 .done
abbrev K38_48:C:=.seq (.pl <| .e 7 6 <|
 .m 7 0 <|
 .a 8 2 <|
 .g 9 8 2 1 <|
 .x 10 (.lenV (.v 9)) <|
 .x 11 (.bin .add (.v 10) (.c (.int .i64 1))) <|
 .c 12 (.call fn_spec_l16Rd_pick [.v 7,.v 11]) K38_47) K38_46
abbrev K38_49:Pl:=.o (.pnew 4 (.c (.agg #[.slice none 0 0,.slice none 0 0])) []) <|
 .o (.pset none 4 0 2 (.v 8)) .done
abbrev K38_50:C:=.seq (.pl <| .e 7 2 <|
 .o (.pget (some 7) none 2 0 (some 2)) <|
 .c 8 (.call fn_spec_l2Copy [.v 7]) K38_49) K38_48
abbrev B_spec_l2Mutate:C:=.seq (.pl <| .e 7 0 <|
 .o (.pnew 2 (.v 1) []) <|
 .o (.pnew 3 (.c (.agg #[.slice none 0 0,.slice none 0 0])) []) .done) K38_50
def R_spec_l2Mutate:FIR:=⟨B_spec_l2Mutate,7,[(3,some (some 2))]⟩
theorem IR_spec_l2Mutate:cfun Try.prog H_spec_l2Mutate Try.f38=some R_spec_l2Mutate:=by kernel_rfl
theorem EN_spec_l2Mutate:ENT Try.prog B_spec_l2Mutate [(3,some (some 2))] 2 7 fn_spec_l2Mutate:=fun hargs hw=>enter Try.func38 rfl IR_spec_l2Mutate hargs hw
def H_spec_l2System:Hint:=⟨[(0,false),(2,true),(3,true),(4,false),(5,true),(6,false)],[[4,5],[]]⟩
abbrev K35_1:C:=.seq (.pl <| .e 6 1 <|
 .o (.pget (some 6) none 2 0 (some 2)) <|
 .o (.pset none 1 0 2 (.v 6)) .done) (.ret)
abbrev K35_2:C:=.pl <| .e 6 2 <|
 .m 6 3 <|
 .x 7 (.bin .sub (.v 6) (.c (.int .i64 1))) <|
 .m 3 7 .done
abbrev K35_3:Pl:=.a 11 2 <|
 .o (.pset (some 11) 2 1 1 (.v 10)) .done
abbrev K35_4:C:=.pl <| .e 6 6 <|
 .a 6 2 <|
 .g 7 6 2 1 <|
 .o (.pget (some 8) none 4 0 (some 2)) <|
 .o (.psl 9 [.int .i64 0,.slice none 0 0] [(0,2,.v 8)]) <|
 .c 10 (.app 32 2 [.int .i64 0,.slice none 0 0] (.o (.v 7)) (.p 1 9)) K35_3
abbrev K35_5:C:=.pl <| .e 6 2 <|
 .m 6 5 <|
 .x 7 (.bin .sub (.v 6) (.c (.int .i64 1))) <|
 .m 5 7 .done
abbrev K35_6:Pl:=.a 14 4 <|
 .o (.pset (some 14) 4 1 1 (.v 13)) .done
abbrev K35_7:Pl:=.o (.psl 12 [.int .i64 0,.int .i64 0,.int .i64 0,.int .i64 0,.slice none 0 0,.int .i64 0,.int .i64 0,.int .i64 0,.slice none 0 0,.int .i64 0] [(0,10,.v 11)]) <|
 .c 13 (.app 112 10 [.int .i64 0,.int .i64 0,.int .i64 0,.int .i64 0,.slice none 0 0,.int .i64 0,.int .i64 0,.int .i64 0,.slice none 0 0,.int .i64 0] (.o (.v 7)) (.p 1 12)) K35_6
abbrev K35_8:C:=.seq (.block 3 (.pl <| .e 6 9 <|
 .a 6 4 <|
 .g 7 6 4 1 <|
 .m 8 0 <|
 .a 9 4 <|
 .g 10 9 4 0 <|
 .c 11 (.call fn_spec_l2DrawEdge [.v 8,.v 10]) K35_7)) K35_5
abbrev K35_9:C:=.cond 6 (.v 7) (.skip) (.exit 2)
abbrev K35_10:C:=.seq (.seq (.pl <| .e 6 2 <|
 .m 6 5 <|
 .x 7 (.bin .gtr (.v 6) (.c (.int .i64 0))) .done) K35_9) K35_8
abbrev K35_11:C:=.block 2 (.loop 6 [] K35_10)
abbrev K35_12:Pl:=.m 5 8 .done
abbrev K35_13:Pl:=.c 8 (.call fn_spec_l16Rd_num [.v 6,.v 7]) K35_12
abbrev K35_14:C:=.seq (.seq (.pl <| .e 6 3 <|
 .m 6 0 <|
 .c 7 (.bls 1 5 [.int .i64 0] [(0,1,.c (.int .i64 3)),(1,1,.c (.int .i64 4)),(2,1,.c (.int .i64 2)),(3,1,.c (.int .i64 5)),(4,1,.c (.int .i64 1))]) K35_13) K35_11) K35_4
abbrev K35_15:Pl:=.x 9 (.build [.int .i64 0,.slice none 0 0] [(0,1,.v 8)]) <|
 .o (.pnew 4 (.c (.agg #[.int .i64 0,.slice none 0 0])) []) <|
 .o (.pset none 4 0 2 (.v 9)) .done
abbrev K35_16:Pl:=.c 8 (.call fn_spec_l16Rd_num [.v 6,.v 7]) K35_15
abbrev K35_17:C:=.seq (.block 1 (.seq (.pl <| .e 6 4 <|
 .m 6 0 <|
 .c 7 (.bls 1 4 [.int .i64 0] [(0,1,.c (.int .i64 2)),(1,1,.c (.int .i64 3)),(2,1,.c (.int .i64 1)),(3,1,.c (.int .i64 2))]) K35_16) K35_14)) K35_2
abbrev K35_18:C:=.cond 6 (.v 7) (.skip) (.exit 0)
abbrev K35_19:C:=.seq (.seq (.pl <| .e 6 2 <|
 .m 6 3 <|
 .x 7 (.bin .gtr (.v 6) (.c (.int .i64 0))) .done) K35_18) K35_17
abbrev K35_20:C:=.block 0 (.loop 6 [4,5] K35_19)
abbrev K35_21:Pl:=.m 3 8 .done
abbrev K35_22:Pl:=.c 8 (.call fn_spec_l16Rd_num [.v 6,.v 7]) K35_21
abbrev K35_23:C:=.seq (.seq (.pl <| .e 6 3 <|
 .m 6 0 <|
 .c 7 (.bls 1 4 [.int .i64 0] [(0,1,.c (.int .i64 2)),(1,1,.c (.int .i64 1)),(2,1,.c (.int .i64 2)),(3,1,.c (.int .i64 3))]) K35_22) K35_20) K35_1
abbrev K35_24:Pl:=.x 12 (.build [.slice none 0 0,.slice none 0 0] [(0,1,.v 11)]) <|
 .o (.pnew 2 (.c (.agg #[.slice none 0 0,.slice none 0 0])) []) <|
 .o (.pset none 2 0 2 (.v 12)) .done
abbrev K35_25:Pl:=.c 11 (.bls 1 3 [.int .i64 0] [(0,1,.v 7),(1,1,.v 10),(2,1,.c (.int .i64 0))]) K35_24
abbrev K35_26:Pl:=.c 10 (.call fn_spec_l16Rd_num [.v 8,.v 9]) K35_25
abbrev K35_27:Pl:=.m 8 0 <|
 .c 9 (.bls 1 4 [.int .i64 0] [(0,1,.c (.int .i64 0)),(1,1,.c (.int .i64 0)),(2,1,.c (.int .i64 1)),(3,1,.c (.int .i64 3))]) K35_26
abbrev K35_28:C:=.seq (.pl <| .e 6 7 <|
 .m 6 0 <|
 .c 7 (.call fn_spec_l16Rd_pick [.v 6,.c (.int .i64 2)]) K35_27) K35_23
abbrev B_spec_l2System:C:=.seq (.pl <| .e 6 0 <|
 .o (.pnew 1 (.c (.agg #[.slice none 0 0,.slice none 0 0])) []) .done) K35_28
def R_spec_l2System:FIR:=⟨B_spec_l2System,6,[(1,some (some 2))]⟩
theorem IR_spec_l2System:cfun Try.prog H_spec_l2System Try.f35=some R_spec_l2System:=by kernel_rfl
theorem EN_spec_l2System:ENT Try.prog B_spec_l2System [(1,some (some 2))] 1 6 fn_spec_l2System:=fun hargs hw=>enter Try.func35 rfl IR_spec_l2System hargs hw
def H_spec_l3Apply:Hint:=⟨[(0,false),(1,false),(2,false),(3,true),(4,true),(5,true),(6,true),(7,true)],[]⟩
abbrev K58_1:C:=.seq (.pl <| .e 8 1 <|
 .o (.pget (some 8) none 7 0 (some 2)) <|
 .o (.pset none 6 0 2 (.v 8)) .done) (.ret)
abbrev K58_2:Pl:=.o (.pset none 7 0 2 (.v 22)) .done
abbrev K58_3:C:=.pl <| .e 8 15 <|
 .o (.pget (some 8) none 7 0 (some 2)) <|
 .a 9 5 <|
 .g 10 9 5 2 <|
 .a 11 3 <|
 .g 12 11 3 1 <|
 .a 13 5 <|
 .g 14 13 5 2 <|
 .x 15 (.ia 2 (.v 12) (.v 14)) <|
 .x 16 (.fa 1 (.v 15)) <|
 .l 17 16 <|
 .a 18 5 <|
 .g 19 18 5 3 <|
 .x 20 (.ia 10 (.v 17) (.v 19)) <|
 .o (.ld (some 21) (.v 20) (some 10)) <|
 .c 22 (.call fn_spec_l3Take [.v 8,.v 10,.v 21]) K58_2
abbrev K58_4:C:=.cond 8 (.v 10) K58_3 (.skip)
abbrev K58_5:C:=.seq (.seq (.pl <| .e 8 3 <|
 .a 8 5 <|
 .g 9 8 5 2 <|
 .x 10 (.bin .geq (.v 9) (.c (.int .i64 0))) .done) K58_4) K58_1
abbrev K58_6:Pl:=.o (.pset none 7 0 2 (.v 22)) .done
abbrev K58_7:C:=.seq (.pl <| .e 8 15 <|
 .o (.pget (some 8) none 7 0 (some 2)) <|
 .a 9 5 <|
 .g 10 9 5 0 <|
 .a 11 3 <|
 .g 12 11 3 1 <|
 .a 13 5 <|
 .g 14 13 5 0 <|
 .x 15 (.ia 2 (.v 12) (.v 14)) <|
 .x 16 (.fa 1 (.v 15)) <|
 .l 17 16 <|
 .a 18 5 <|
 .g 19 18 5 1 <|
 .x 20 (.ia 10 (.v 17) (.v 19)) <|
 .o (.ld (some 21) (.v 20) (some 10)) <|
 .c 22 (.call fn_spec_l3Take [.v 8,.v 10,.v 21]) K58_6) K58_5
abbrev K58_8:Pl:=.x 16 (.build [.slice none 0 0,.slice none 0 0] [(0,1,.v 11),(1,1,.v 15)]) <|
 .o (.pset none 7 0 2 (.v 16)) .done
abbrev K58_9:Pl:=.c 15 (.app 8 1 [.int .i64 0] (.p 0 12) (.o (.v 14))) K58_8
abbrev K58_10:C:=.seq (.pl <| .e 8 9 <|
 .o (.psl 8 [] []) <|
 .a 9 4 <|
 .g 10 9 4 0 <|
 .o (.psl 12 [] []) <|
 .a 13 4 <|
 .g 14 13 4 1 <|
 .o (.pnew 7 (.c (.agg #[.slice none 0 0,.slice none 0 0])) []) <|
 .c 11 (.app 8 1 [.int .i64 0] (.p 0 8) (.o (.v 10))) K58_9) K58_7
abbrev B_spec_l3Apply:C:=.seq (.pl <| .e 8 0 <|
 .o (.pnew 3 (.v 0) []) <|
 .o (.pnew 4 (.v 1) []) <|
 .o (.pnew 5 (.v 2) []) <|
 .o (.pnew 6 (.c (.agg #[.slice none 0 0,.slice none 0 0])) []) .done) K58_10
def R_spec_l3Apply:FIR:=⟨B_spec_l3Apply,8,[(6,some (some 2))]⟩
theorem IR_spec_l3Apply:cfun Try.prog H_spec_l3Apply Try.f58=some R_spec_l3Apply:=by kernel_rfl
theorem EN_spec_l3Apply:ENT Try.prog B_spec_l3Apply [(6,some (some 2))] 3 8 fn_spec_l3Apply:=fun hargs hw=>enter Try.func58 rfl IR_spec_l3Apply hargs hw
def H_spec_l3Digits:Hint:=⟨[(0,false),(2,false),(3,false),(4,false),(5,false)],[[1,2]]⟩
abbrev K40_1:C:=.seq (.pl <| .e 5 1 <|
 .m 5 3 <|
 .m 1 5 <|
 .x 2 (.mv (.c (.bool true))) .done) (.ret)
abbrev K40_2:C:=.pl <| .e 5 2 <|
 .m 5 4 <|
 .x 6 (.bin .add (.v 5) (.c (.int .i64 1))) <|
 .m 4 6 .done
abbrev K40_3:Pl:=.x 11 (.bin .add (.v 5) (.v 10)) <|
 .m 3 11 .done
abbrev K40_4:C:=.pl <| .e 5 7 <|
 .m 5 3 <|
 .m 6 0 <|
 .m 7 4 <|
 .x 8 (.ia 1 (.v 6) (.v 7)) <|
 .l 9 8 <|
 .c 10 (.call fn_spec_l16Dec [.v 9]) K40_3
abbrev K40_5:C:=.seq (.pl <| .e 5 0 <|
 .x 1 (.mv (.c (.string ⟨#[]⟩))) <|
 .x 2 (.mv (.c (.bool false))) .done) (.ret)
abbrev K40_6:C:=.cond 5 (.v 16) K40_5 (.skip)
abbrev K40_7:C:=.seq (.block 1 (.seq (.seq (.pl <| .e 5 12 <|
 .m 5 0 <|
 .m 6 4 <|
 .x 7 (.ia 1 (.v 5) (.v 6)) <|
 .l 8 7 <|
 .x 9 (.bin .lss (.v 8) (.c (.int .i64 0))) <|
 .m 10 9 <|
 .n 10 (.px (some 11) (.mv (.v 0))) <|
 .n 10 (.px (some 12) (.mv (.v 4))) <|
 .n 10 (.px (some 13) (.ia 1 (.v 11) (.v 12))) <|
 .n 10 (.ld (some 14) (.v 13) none) <|
 .n 10 (.px (some 15) (.bin .gtr (.v 14) (.c (.int .i64 9)))) <|
 .x 16 (.pick (.v 10) (.c (.bool true)) (.v 15)) .done) K40_6) K40_4)) K40_2
abbrev K40_8:C:=.cond 5 (.v 8) (.skip) (.exit 0)
abbrev K40_9:C:=.seq (.seq (.pl <| .e 5 4 <|
 .m 5 4 <|
 .m 6 0 <|
 .x 7 (.lenV (.v 6)) <|
 .x 8 (.bin .lss (.v 5) (.v 7)) .done) K40_8) K40_7
abbrev K40_10:C:=.block 0 (.loop 5 [1,2] K40_9)
abbrev K40_11:C:=.seq (.seq (.pl <| .e 5 0 <|
 .x 4 (.mv (.c (.int .i64 0))) .done) K40_10) K40_1
abbrev K40_12:C:=.seq (.pl <| .e 5 0 <|
 .x 3 (.mv (.c (.string ⟨#[]⟩))) .done) K40_11
abbrev B_spec_l3Digits:C:=.seq (.pl <| .e 5 0 <|
 .x 1 (.mv (.c (.string ⟨#[]⟩))) <|
 .x 2 (.mv (.c (.bool false))) .done) K40_12
def R_spec_l3Digits:FIR:=⟨B_spec_l3Digits,5,[(1,none),(2,none)]⟩
theorem IR_spec_l3Digits:cfun Try.prog H_spec_l3Digits Try.f40=some R_spec_l3Digits:=by kernel_rfl
theorem EN_spec_l3Digits:ENT Try.prog B_spec_l3Digits [(1,none),(2,none)] 1 5 fn_spec_l3Digits:=fun hargs hw=>enter Try.func40 rfl IR_spec_l3Digits hargs hw
def H_spec_l3Mutate:Hint:=⟨[(0,false),(1,false),(3,true),(4,true),(5,true),(16,false)],[]⟩
abbrev K36_1:C:=.seq (.pl <| .e 6 1 <|
 .o (.pget (some 6) none 4 0 (some 2)) <|
 .o (.pset none 3 0 2 (.v 6)) .done) (.ret)
abbrev K36_2:Pl:=.a 10 4 <|
 .o (.pset (some 10) 4 0 1 (.v 9)) .done
abbrev K36_3:C:=.pl <| .e 6 5 <|
 .a 6 4 <|
 .g 7 6 4 0 <|
 .o (.psl 8 [.int .i64 0] [(0,1,.c (.int .i64 0))]) <|
 .c 9 (.app 8 1 [.int .i64 0] (.o (.v 7)) (.p 1 8)) K36_2
abbrev K36_4:Pl:=.x 11 (.ia 1 (.v 7) (.c (.int .i64 0))) <|
 .o (.ex none (.store 1 (.v 11) (.v 10))) .done
abbrev K36_5:Pl:=.c 10 (.call fn_spec_l16Rd_num [.v 8,.v 9]) K36_4
abbrev K36_6:C:=.pl <| .e 6 6 <|
 .a 6 4 <|
 .g 7 6 4 0 <|
 .m 8 0 <|
 .c 9 (.bls 1 5 [.int .i64 0] [(0,1,.c (.int .i64 (-1))),(1,1,.c (.int .i64 4)),(2,1,.c (.int .i64 3)),(3,1,.c (.int .i64 9223372036854775807)),(4,1,.c (.int .i64 10))]) K36_5
abbrev K36_7:C:=.cond 6 (.v 9) K36_6 (.skip)
abbrev K36_8:C:=.seq (.pl <| .e 6 4 <|
 .a 6 4 <|
 .g 7 6 4 0 <|
 .x 8 (.lenV (.v 7)) <|
 .x 9 (.bin .gtr (.v 8) (.c (.int .i64 0))) .done) K36_7
abbrev K36_9:Pl:=.x 16 (.ia 1 (.v 7) (.v 12)) <|
 .o (.ex none (.store 1 (.v 16) (.v 15))) .done
abbrev K36_10:Pl:=.c 15 (.call fn_spec_l16Rd_num [.v 13,.v 14]) K36_9
abbrev K36_11:Pl:=.c 14 (.bls 1 4 [.int .i64 0] [(0,1,.c (.int .i64 (-1))),(1,1,.c (.int .i64 4)),(2,1,.c (.int .i64 3)),(3,1,.c (.int .i64 12))]) K36_10
abbrev K36_12:Pl:=.c 12 (.call fn_spec_l16Rd_pick [.v 8,.v 11]) K36_11
abbrev K36_13:Pl:=.x 16 (.ia 1 (.v 7) (.v 12)) <|
 .o (.ex none (.store 1 (.v 16) (.v 15))) .done
abbrev K36_14:Pl:=.c 15 (.call fn_spec_l16Rd_num [.v 13,.v 14]) K36_13
abbrev K36_15:Pl:=.c 12 (.call fn_spec_l16Rd_pick [.v 8,.v 11]) K36_14
abbrev K36_16:Pl:=.c 14 (.bls 1 4 [.int .i64 0] [(0,1,.c (.int .i64 (-1))),(1,1,.c (.int .i64 4)),(2,1,.c (.int .i64 3)),(3,1,.c (.int .i64 12))]) K36_15
abbrev K36_17:C:=.pl <| .e 6 11 <|
 .a 6 4 <|
 .g 7 6 4 1 <|
 .m 8 0 <|
 .a 9 4 <|
 .g 10 9 4 1 <|
 .x 11 (.lenV (.v 10)) <|
 .m 13 0 <|
 .both K36_12 K36_16
abbrev K36_18:C:=.cond 6 (.v 9) K36_17 (.skip)
abbrev K36_19:C:=.seq (.pl <| .e 6 4 <|
 .a 6 4 <|
 .g 7 6 4 1 <|
 .x 8 (.lenV (.v 7)) <|
 .x 9 (.bin .gtr (.v 8) (.c (.int .i64 0))) .done) K36_18
abbrev K36_20:C:=.seq (.pl <| .e 6 1 <|
 .x 6 (.build [.slice none 0 0,.slice none 0 0] []) <|
 .o (.pset none 3 0 2 (.v 6)) .done) (.ret)
abbrev K36_21:C:=.cond 6 (.v 7) K36_20 (.skip)
abbrev K36_22:C:=.seq (.pl <| .e 6 2 <|
 .x 6 (.bin .eql (.v 5) (.c (.int .i64 3))) <|
 .m 7 6 .done) K36_21
abbrev K36_23:C:=.cond 6 (.v 7) K36_19 K36_22
abbrev K36_24:C:=.seq (.pl <| .e 6 2 <|
 .x 6 (.bin .eql (.v 5) (.c (.int .i64 2))) <|
 .m 7 6 .done) K36_23
abbrev K36_25:C:=.cond 6 (.v 7) K36_8 K36_24
abbrev K36_26:C:=.seq (.pl <| .e 6 2 <|
 .x 6 (.bin .eql (.v 5) (.c (.int .i64 1))) <|
 .m 7 6 .done) K36_25
abbrev K36_27:C:=.cond 6 (.v 7) K36_3 K36_26
abbrev K36_28:C:=.block 0 (.seq (.pl <| .e 6 2 <|
 .x 6 (.bin .eql (.v 5) (.c (.int .i64 0))) <|
 .m 7 6 .done) K36_27)
abbrev K36_29:C:=.seq (.seq (.pl <| .e 6 1 <|
 .m 6 0 <|
 .c 5 (.call fn_spec_l16Rd_pick [.v 6,.c (.int .i64 40)]) .done) K36_28) K36_1
abbrev K36_30:Pl:=.x 14 (.build [.slice none 0 0,.slice none 0 0] [(0,1,.v 9),(1,1,.v 13)]) <|
 .o (.pset none 4 0 2 (.v 14)) .done
abbrev K36_31:Pl:=.c 13 (.app 8 1 [.int .i64 0] (.p 0 10) (.o (.v 12))) K36_30
abbrev K36_32:C:=.seq (.pl <| .e 6 9 <|
 .o (.psl 6 [] []) <|
 .a 7 2 <|
 .g 8 7 2 0 <|
 .o (.psl 10 [] []) <|
 .a 11 2 <|
 .g 12 11 2 1 <|
 .o (.pnew 4 (.c (.agg #[.slice none 0 0,.slice none 0 0])) []) <|
 .c 9 (.app 8 1 [.int .i64 0] (.p 0 6) (.o (.v 8))) K36_31) K36_29
abbrev B_spec_l3Mutate:C:=.seq (.pl <| .e 6 0 <|
 .o (.pnew 2 (.v 1) []) <|
 .o (.pnew 3 (.c (.agg #[.slice none 0 0,.slice none 0 0])) []) .done) K36_32
def R_spec_l3Mutate:FIR:=⟨B_spec_l3Mutate,6,[(3,some (some 2))]⟩
theorem IR_spec_l3Mutate:cfun Try.prog H_spec_l3Mutate Try.f36=some R_spec_l3Mutate:=by kernel_rfl
theorem EN_spec_l3Mutate:ENT Try.prog B_spec_l3Mutate [(3,some (some 2))] 2 6 fn_spec_l3Mutate:=fun hargs hw=>enter Try.func36 rfl IR_spec_l3Mutate hargs hw
def H_spec_l3Partners:Hint:=⟨[(0,false),(1,false),(2,false),(3,false),(4,true),(5,true),(8,false),(9,false),(10,false),(11,false),(12,false)],[[0,1,6,10],[0,1,6]]⟩
abbrev K79_1:C:=.seq (.pl <| .e 11 1 <|
 .m 11 7 <|
 .m 6 11 .done) (.ret)
abbrev K79_2:C:=.pl <| .e 11 2 <|
 .m 11 9 <|
 .x 12 (.bin .add (.v 11) (.c (.int .i64 1))) <|
 .m 9 12 .done
abbrev K79_3:C:=.pl <| .e 11 2 <|
 .m 11 10 <|
 .x 12 (.bin .add (.v 11) (.c (.int .i64 1))) <|
 .m 10 12 .done
abbrev K79_4:Pl:=.m 7 18 .done
abbrev K79_5:C:=.pl <| .e 11 8 <|
 .m 11 7 <|
 .m 12 2 <|
 .m 13 3 <|
 .m 14 9 <|
 .m 15 10 <|
 .x 16 (.build [.int .i64 0,.int .i64 0,.int .i64 0,.int .i64 0] [(0,1,.v 12),(1,1,.v 13),(2,1,.v 14),(3,1,.v 15)]) <|
 .o (.psl 17 [.int .i64 0,.int .i64 0,.int .i64 0,.int .i64 0] [(0,4,.v 16)]) <|
 .c 18 (.app 32 4 [.int .i64 0,.int .i64 0,.int .i64 0,.int .i64 0] (.o (.v 11)) (.p 1 17)) K79_4
abbrev K79_6:C:=.cond 11 (.v 35) K79_5 (.skip)
abbrev K79_7:Pl:=.x 35 (.pick (.v 29) (.v 34) (.c (.bool false))) .done
abbrev K79_8:C:=.seq (.block 3 (.seq (.pl <| .e 11 25 <|
 .m 11 9 <|
 .m 12 2 <|
 .x 13 (.bin .neq (.v 11) (.v 12)) <|
 .m 14 13 <|
 .y 14 (.als 15 none 4) <|
 .y 14 (.pget (some 16) (some 15) 4 1 none) <|
 .y 14 (.px (some 17) (.mv (.v 9))) <|
 .y 14 (.px (some 18) (.ia 2 (.v 16) (.v 17))) <|
 .y 14 (.px (some 19) (.fa 1 (.v 18))) <|
 .y 14 (.ld (some 20) (.v 19) none) <|
 .y 14 (.px (some 21) (.mv (.v 10))) <|
 .y 14 (.px (some 22) (.ia 10 (.v 20) (.v 21))) <|
 .y 14 (.px (some 23) (.fa 9 (.v 22))) <|
 .y 14 (.ld (some 24) (.v 23) none) <|
 .y 14 (.px (some 25) (.mv (.v 8))) <|
 .y 14 (.px (some 26) (.un .neg (.v 25))) <|
 .y 14 (.px (some 27) (.bin .eql (.v 24) (.v 26))) <|
 .x 28 (.pick (.v 14) (.v 27) (.c (.bool false))) <|
 .m 29 28 <|
 .y 29 (.pget (some 30) none 4 0 (some 2)) <|
 .y 29 (.pget (some 31) none 5 0 (some 2)) <|
 .y 29 (.px (some 32) (.mv (.v 9))) <|
 .y 29 (.px (some 33) (.mv (.v 10))) <|
 .st (.act (some (.v 29,true)) (.ex (some 34) (.call fn_spec_l3Ready [.v 30,.v 31,.v 32,.v 33]))) K79_7) K79_6)) K79_3
abbrev K79_9:C:=.cond 11 (.v 19) (.skip) (.exit 2)
abbrev K79_10:C:=.seq (.seq (.pl <| .e 11 9 <|
 .m 11 10 <|
 .a 12 4 <|
 .g 13 12 4 1 <|
 .m 14 9 <|
 .x 15 (.ia 2 (.v 13) (.v 14)) <|
 .x 16 (.fa 1 (.v 15)) <|
 .l 17 16 <|
 .x 18 (.lenV (.v 17)) <|
 .x 19 (.bin .lss (.v 11) (.v 18)) .done) K79_9) K79_8
abbrev K79_11:C:=.block 2 (.loop 11 [0,1,6] K79_10)
abbrev K79_12:C:=.seq (.block 1 (.seq (.pl <| .e 11 0 <|
 .x 10 (.mv (.c (.int .i64 0))) .done) K79_11)) K79_2
abbrev K79_13:C:=.cond 11 (.v 15) (.skip) (.exit 0)
abbrev K79_14:C:=.seq (.seq (.pl <| .e 11 5 <|
 .m 11 9 <|
 .a 12 4 <|
 .g 13 12 4 1 <|
 .x 14 (.lenV (.v 13)) <|
 .x 15 (.bin .lss (.v 11) (.v 14)) .done) K79_13) K79_12
abbrev K79_15:C:=.block 0 (.loop 11 [0,1,6,10] K79_14)
abbrev K79_16:C:=.seq (.seq (.pl <| .e 11 0 <|
 .x 9 (.mv (.c (.int .i64 0))) .done) K79_15) K79_1
abbrev K79_17:C:=.seq (.pl <| .e 11 10 <|
 .a 11 4 <|
 .g 12 11 4 1 <|
 .m 13 2 <|
 .x 14 (.ia 2 (.v 12) (.v 13)) <|
 .x 15 (.fa 1 (.v 14)) <|
 .l 16 15 <|
 .m 17 3 <|
 .x 18 (.ia 10 (.v 16) (.v 17)) <|
 .x 19 (.fa 9 (.v 18)) <|
 .l 20 19 <|
 .m 8 20 .done) K79_16
abbrev K79_18:Pl:=.m 7 11 .done
abbrev K79_19:C:=.seq (.pl <| .e 11 1 <|
 .c 11 (.bls 4 0 [.int .i64 0,.int .i64 0,.int .i64 0,.int .i64 0] []) K79_18) K79_17
abbrev B_spec_l3Partners:C:=.seq (.pl <| .e 11 0 <|
 .o (.pnew 4 (.v 0) []) <|
 .o (.pnew 5 (.v 1) []) <|
 .x 6 (.mv (.c (.slice none 0 0))) .done) K79_19
def R_spec_l3Partners:FIR:=⟨B_spec_l3Partners,11,[(6,none)]⟩
theorem IR_spec_l3Partners:cfun Try.prog H_spec_l3Partners Try.f79=some R_spec_l3Partners:=by kernel_rfl
theorem EN_spec_l3Partners:ENT Try.prog B_spec_l3Partners [(6,none)] 4 11 fn_spec_l3Partners:=fun hargs hw=>enter Try.func79 rfl IR_spec_l3Partners hargs hw
def H_spec_l3Ready:Hint:=⟨[(0,false),(1,false),(2,false),(3,false),(4,true),(5,true),(8,false),(9,true)],[]⟩
abbrev K78_1:Pl:=.y 16 (.px (some 22) (.bin .neq (.v 21) (.c (.int .i64 0)))) <|
 .x 23 (.pick (.v 16) (.v 22) (.c (.bool false))) <|
 .m 6 23 .done
abbrev K78_2:C:=.seq (.pl <| .e 8 16 <|
 .a 8 7 <|
 .g 9 8 7 0 <|
 .a 10 5 <|
 .g 11 10 5 0 <|
 .m 12 2 <|
 .x 13 (.ia 1 (.v 11) (.v 12)) <|
 .l 14 13 <|
 .x 15 (.bin .eql (.v 9) (.v 14)) <|
 .m 16 15 <|
 .y 16 (.als 17 none 7) <|
 .y 16 (.pget (some 18) (some 17) 7 2 (some 3)) <|
 .y 16 (.als 19 none 5) <|
 .y 16 (.pget (some 20) (some 19) 5 1 none) <|
 .st (.act (some (.v 16,true)) (.ex (some 21) (.call fn_spec_l1Eval [.v 18,.v 20]))) K78_1) (.ret)
abbrev K78_3:C:=.seq (.pl <| .e 8 9 <|
 .a 8 4 <|
 .g 9 8 4 1 <|
 .m 10 2 <|
 .x 11 (.ia 2 (.v 9) (.v 10)) <|
 .x 12 (.fa 1 (.v 11)) <|
 .l 13 12 <|
 .m 14 3 <|
 .x 15 (.ia 10 (.v 13) (.v 14)) <|
 .o (.ld (some 16) (.v 15) (some 10)) <|
 .o (.pnew 7 (.c (.agg #[.int .i64 0,.int .i64 0,.int .i64 0,.int .i64 0,.slice none 0 0,.int .i64 0,.int .i64 0,.int .i64 0,.slice none 0 0,.int .i64 0])) []) <|
 .o (.pset none 7 0 10 (.v 16)) .done) K78_2
abbrev B_spec_l3Ready:C:=.seq (.pl <| .e 8 0 <|
 .o (.pnew 4 (.v 0) []) <|
 .o (.pnew 5 (.v 1) []) <|
 .x 6 (.mv (.c (.bool false))) .done) K78_3
def R_spec_l3Ready:FIR:=⟨B_spec_l3Ready,8,[(6,none)]⟩
theorem IR_spec_l3Ready:cfun Try.prog H_spec_l3Ready Try.f78=some R_spec_l3Ready:=by kernel_rfl
theorem EN_spec_l3Ready:ENT Try.prog B_spec_l3Ready [(6,none)] 4 8 fn_spec_l3Ready:=fun hargs hw=>enter Try.func78 rfl IR_spec_l3Ready hargs hw
def H_spec_l3State:Hint:=⟨[(0,false),(1,false),(3,true),(4,true),(5,true),(6,false),(7,false),(8,false),(9,false)],[[1,5,7,8],[1,5,6,8]]⟩
abbrev K37_1:C:=.seq (.pl <| .e 9 1 <|
 .o (.pget (some 9) none 4 0 (some 2)) <|
 .o (.pset none 3 0 2 (.v 9)) .done) (.ret)
abbrev K37_2:C:=.pl <| .e 9 2 <|
 .m 9 7 <|
 .x 10 (.bin .sub (.v 9) (.c (.int .i64 1))) <|
 .m 7 10 .done
abbrev K37_3:Pl:=.o (.pset none 4 0 2 (.v 18)) .done
abbrev K37_4:Pl:=.x 16 (.ia 4 (.v 11) (.v 15)) <|
 .o (.ld (some 17) (.v 16) (some 4)) <|
 .c 18 (.call fn_spec_l3Apply [.v 9,.v 10,.v 17]) K37_3
abbrev K37_5:C:=.pl <| .e 9 10 <|
 .o (.pget (some 9) none 2 0 (some 2)) <|
 .o (.pget (some 10) none 4 0 (some 2)) <|
 .m 11 8 <|
 .m 12 0 <|
 .m 13 8 <|
 .x 14 (.lenV (.v 13)) <|
 .c 15 (.call fn_spec_l16Rd_pick [.v 12,.v 14]) K37_4
abbrev K37_6:C:=.cond 9 (.v 11) (.exit 2) (.skip)
abbrev K37_7:C:=.seq (.seq (.pl <| .e 9 3 <|
 .m 9 8 <|
 .x 10 (.lenV (.v 9)) <|
 .x 11 (.bin .eql (.v 10) (.c (.int .i64 0))) .done) K37_6) K37_5
abbrev K37_8:Pl:=.m 8 11 .done
abbrev K37_9:C:=.seq (.block 3 (.seq (.pl <| .e 9 3 <|
 .o (.pget (some 9) none 2 0 (some 2)) <|
 .o (.pget (some 10) none 4 0 (some 2)) <|
 .c 11 (.call fn_spec_l3Steps [.v 9,.v 10]) K37_8) K37_7)) K37_2
abbrev K37_10:C:=.cond 9 (.v 10) (.skip) (.exit 2)
abbrev K37_11:C:=.seq (.seq (.pl <| .e 9 2 <|
 .m 9 7 <|
 .x 10 (.bin .gtr (.v 9) (.c (.int .i64 0))) .done) K37_10) K37_9
abbrev K37_12:C:=.block 2 (.loop 9 [1,5,6,8] K37_11)
abbrev K37_13:Pl:=.m 7 11 .done
abbrev K37_14:Pl:=.c 11 (.call fn_spec_l16Rd_num [.v 9,.v 10]) K37_13
abbrev K37_15:C:=.seq (.seq (.pl <| .e 9 3 <|
 .m 9 0 <|
 .c 10 (.bls 1 5 [.int .i64 0] [(0,1,.c (.int .i64 2)),(1,1,.c (.int .i64 4)),(2,1,.c (.int .i64 1)),(3,1,.c (.int .i64 0)),(4,1,.c (.int .i64 6))]) K37_14) K37_12) K37_1
abbrev K37_16:C:=.seq (.pl <| .e 9 1 <|
 .o (.pget (some 9) none 4 0 (some 2)) <|
 .o (.pset none 3 0 2 (.v 9)) .done) (.ret)
abbrev K37_17:Pl:=.a 16 4 <|
 .o (.pset (some 16) 4 1 1 (.v 15)) .done
abbrev K37_18:Pl:=.c 15 (.bls 1 3 [.int .i64 0] [(0,1,.v 10),(1,1,.v 12),(2,1,.v 14)]) K37_17
abbrev K37_19:Pl:=.m 13 0 <|
 .c 14 (.call fn_spec_l16Rd_pick [.v 13,.c (.int .i64 4)]) K37_18
abbrev K37_20:Pl:=.m 11 0 <|
 .c 12 (.call fn_spec_l16Rd_pick [.v 11,.c (.int .i64 4)]) K37_19
abbrev K37_21:C:=.seq (.pl <| .e 9 8 <|
 .m 9 0 <|
 .c 10 (.call fn_spec_l16Rd_pick [.v 9,.c (.int .i64 4)]) K37_20) K37_16
abbrev K37_22:C:=.pl <| .e 9 2 <|
 .m 9 6 <|
 .x 10 (.bin .add (.v 9) (.c (.int .i64 1))) <|
 .m 6 10 .done
abbrev K37_23:Pl:=.x 20 (.ia 1 (.v 10) (.v 11)) <|
 .o (.ex none (.store 1 (.v 20) (.v 19))) .done
abbrev K37_24:C:=.seq (.block 1 (.pl <| .e 9 12 <|
 .a 9 4 <|
 .g 10 9 4 0 <|
 .m 11 6 <|
 .m 12 0 <|
 .a 13 2 <|
 .g 14 13 2 1 <|
 .m 15 6 <|
 .x 16 (.ia 2 (.v 14) (.v 15)) <|
 .x 17 (.fa 0 (.v 16)) <|
 .l 18 17 <|
 .c 19 (.call fn_spec_l16Rd_pick [.v 12,.v 18]) K37_23)) K37_22
abbrev K37_25:C:=.cond 9 (.v 13) (.skip) (.exit 0)
abbrev K37_26:C:=.seq (.seq (.pl <| .e 9 5 <|
 .m 9 6 <|
 .a 10 4 <|
 .g 11 10 4 0 <|
 .x 12 (.lenV (.v 11)) <|
 .x 13 (.bin .lss (.v 9) (.v 12)) .done) K37_25) K37_24
abbrev K37_27:C:=.block 0 (.loop 9 [1,5,7,8] K37_26)
abbrev K37_28:C:=.seq (.seq (.pl <| .e 9 0 <|
 .x 6 (.mv (.c (.int .i64 0))) .done) K37_27) K37_21
abbrev K37_29:C:=.cond 9 (.v 11) K37_28 (.skip)
abbrev K37_30:Pl:=.x 11 (.bin .eql (.v 10) (.c (.int .i64 0))) .done
abbrev K37_31:C:=.seq (.seq (.pl <| .e 9 3 <|
 .m 9 0 <|
 .c 10 (.call fn_spec_l16Rd_pick [.v 9,.c (.int .i64 4)]) K37_30) K37_29) K37_15
abbrev K37_32:Pl:=.x 11 (.build [.slice none 0 0,.slice none 0 0] [(0,1,.v 9),(1,1,.v 10)]) <|
 .o (.pset none 3 0 2 (.v 11)) .done
abbrev K37_33:Pl:=.c 10 (.bls 1 3 [.int .i64 0] [(0,1,.c (.int .i64 0)),(1,1,.c (.int .i64 0)),(2,1,.c (.int .i64 0))]) K37_32
abbrev K37_34:C:=.seq (.pl <| .e 9 3 <|
 .c 9 (.bls 1 1 [.int .i64 0] [(0,1,.c (.int .i64 0))]) K37_33) (.ret)
abbrev K37_35:C:=.cond 9 (.v 10) K37_34 (.skip)
abbrev K37_36:C:=.seq (.seq (.pl <| .e 9 2 <|
 .m 9 5 <|
 .x 10 (.un .not (.v 9)) .done) K37_35) K37_31
abbrev K37_37:Pl:=.m 11 10 <|
 .x 12 (.extract 0 (.v 11)) <|
 .x 13 (.extract 1 (.v 11)) <|
 .o (.pnew 4 (.c (.agg #[.slice none 0 0,.slice none 0 0])) []) <|
 .o (.pset none 4 0 2 (.v 12)) <|
 .m 5 13 .done
abbrev K37_38:C:=.seq (.pl <| .e 9 5 <|
 .o (.pget (some 9) none 2 0 (some 2)) <|
 .c 10 (.call fn_spec_InitialState [.v 9]) K37_37) K37_36
abbrev B_spec_l3State:C:=.seq (.pl <| .e 9 0 <|
 .o (.pnew 2 (.v 1) []) <|
 .o (.pnew 3 (.c (.agg #[.slice none 0 0,.slice none 0 0])) []) .done) K37_38
def R_spec_l3State:FIR:=⟨B_spec_l3State,9,[(3,some (some 2))]⟩
theorem IR_spec_l3State:cfun Try.prog H_spec_l3State Try.f37=some R_spec_l3State:=by kernel_rfl
theorem EN_spec_l3State:ENT Try.prog B_spec_l3State [(3,some (some 2))] 2 9 fn_spec_l3State:=fun hargs hw=>enter Try.func37 rfl IR_spec_l3State hargs hw
def H_spec_l3Steps:Hint:=⟨[(0,false),(1,false),(2,true),(3,true),(4,false),(5,false),(6,false),(7,false),(8,false)],[[0,1,4,7,8],[0,1,4,8]]⟩
abbrev K57_1:C:=.seq (.pl <| .e 9 1 <|
 .m 9 5 <|
 .m 4 9 .done) (.ret)
abbrev K57_2:C:=.pl <| .e 9 2 <|
 .m 9 6 <|
 .x 10 (.bin .add (.v 9) (.c (.int .i64 1))) <|
 .m 6 10 .done
abbrev K57_3:C:=.pl <| .e 9 2 <|
 .m 9 7 <|
 .x 10 (.bin .add (.v 9) (.c (.int .i64 1))) <|
 .m 7 10 .done
abbrev K57_4:Pl:=.m 5 14 .done
abbrev K57_5:C:=.pl <| .e 9 6 <|
 .m 9 5 <|
 .m 10 6 <|
 .m 11 7 <|
 .x 12 (.build [.int .i64 0,.int .i64 0,.int .i64 0,.int .i64 0] [(0,1,.v 10),(1,1,.v 11),(2,1,.c (.int .i64 (-1))),(3,1,.c (.int .i64 (-1)))]) <|
 .o (.psl 13 [.int .i64 0,.int .i64 0,.int .i64 0,.int .i64 0] [(0,4,.v 12)]) <|
 .c 14 (.app 32 4 [.int .i64 0,.int .i64 0,.int .i64 0,.int .i64 0] (.o (.v 9)) (.p 1 13)) K57_4
abbrev K57_6:Pl:=.m 5 15 .done
abbrev K57_7:Pl:=.c 15 (.app 32 4 [.int .i64 0,.int .i64 0,.int .i64 0,.int .i64 0] (.o (.v 9)) (.o (.v 14))) K57_6
abbrev K57_8:C:=.pl <| .e 9 7 <|
 .m 9 5 <|
 .o (.pget (some 10) none 2 0 (some 2)) <|
 .o (.pget (some 11) none 3 0 (some 2)) <|
 .m 12 6 <|
 .m 13 7 <|
 .c 14 (.call fn_spec_l3Partners [.v 10,.v 11,.v 12,.v 13]) K57_7
abbrev K57_9:C:=.cond 9 (.v 10) K57_5 K57_8
abbrev K57_10:C:=.seq (.pl <| .e 9 2 <|
 .m 9 8 <|
 .x 10 (.bin .eql (.v 9) (.c (.int .i64 0))) .done) K57_9
abbrev K57_11:C:=.cond 9 (.v 18) (.exit 3) (.skip)
abbrev K57_12:Pl:=.n 11 (.px (some 17) (.un .not (.v 16))) <|
 .x 18 (.pick (.v 11) (.c (.bool true)) (.v 17)) .done
abbrev K57_13:C:=.seq (.seq (.pl <| .e 9 10 <|
 .m 9 8 <|
 .x 10 (.bin .lss (.v 9) (.c (.int .i64 0))) <|
 .m 11 10 <|
 .n 11 (.pget (some 12) none 2 0 (some 2)) <|
 .n 11 (.pget (some 13) none 3 0 (some 2)) <|
 .n 11 (.px (some 14) (.mv (.v 6))) <|
 .n 11 (.px (some 15) (.mv (.v 7))) <|
 .st (.act (some (.v 11,false)) (.ex (some 16) (.call fn_spec_l3Ready [.v 12,.v 13,.v 14,.v 15]))) K57_12) K57_11) K57_10
abbrev K57_14:C:=.seq (.block 3 (.seq (.pl <| .e 9 10 <|
 .a 9 2 <|
 .g 10 9 2 1 <|
 .m 11 6 <|
 .x 12 (.ia 2 (.v 10) (.v 11)) <|
 .x 13 (.fa 1 (.v 12)) <|
 .l 14 13 <|
 .m 15 7 <|
 .x 16 (.ia 10 (.v 14) (.v 15)) <|
 .x 17 (.fa 9 (.v 16)) <|
 .l 18 17 <|
 .m 8 18 .done) K57_13)) K57_3
abbrev K57_15:C:=.cond 9 (.v 17) (.skip) (.exit 2)
abbrev K57_16:C:=.seq (.seq (.pl <| .e 9 9 <|
 .m 9 7 <|
 .a 10 2 <|
 .g 11 10 2 1 <|
 .m 12 6 <|
 .x 13 (.ia 2 (.v 11) (.v 12)) <|
 .x 14 (.fa 1 (.v 13)) <|
 .l 15 14 <|
 .x 16 (.lenV (.v 15)) <|
 .x 17 (.bin .lss (.v 9) (.v 16)) .done) K57_15) K57_14
abbrev K57_17:C:=.block 2 (.loop 9 [0,1,4,8] K57_16)
abbrev K57_18:C:=.seq (.block 1 (.seq (.pl <| .e 9 0 <|
 .x 7 (.mv (.c (.int .i64 0))) .done) K57_17)) K57_2
abbrev K57_19:C:=.cond 9 (.v 13) (.skip) (.exit 0)
abbrev K57_20:C:=.seq (.seq (.pl <| .e 9 5 <|
 .m 9 6 <|
 .a 10 2 <|
 .g 11 10 2 1 <|
 .x 12 (.lenV (.v 11)) <|
 .x 13 (.bin .lss (.v 9) (.v 12)) .done) K57_19) K57_18
abbrev K57_21:C:=.block 0 (.loop 9 [0,1,4,7,8] K57_20)
abbrev K57_22:C:=.seq (.seq (.pl <| .e 9 0 <|
 .x 6 (.mv (.c (.int .i64 0))) .done) K57_21) K57_1
abbrev K57_23:Pl:=.m 5 9 .done
abbrev K57_24:C:=.seq (.pl <| .e 9 1 <|
 .c 9 (.bls 4 0 [.int .i64 0,.int .i64 0,.int .i64 0,.int .i64 0] []) K57_23) K57_22
abbrev B_spec_l3Steps:C:=.seq (.pl <| .e 9 0 <|
 .o (.pnew 2 (.v 0) []) <|
 .o (.pnew 3 (.v 1) []) <|
 .x 4 (.mv (.c (.slice none 0 0))) .done) K57_24
def R_spec_l3Steps:FIR:=⟨B_spec_l3Steps,9,[(4,none)]⟩
theorem IR_spec_l3Steps:cfun Try.prog H_spec_l3Steps Try.f57=some R_spec_l3Steps:=by kernel_rfl
theorem EN_spec_l3Steps:ENT Try.prog B_spec_l3Steps [(4,none)] 2 9 fn_spec_l3Steps:=fun hargs hw=>enter Try.func57 rfl IR_spec_l3Steps hargs hw
def H_spec_l3Take:Hint:=⟨[(0,false),(1,false),(2,false),(3,true),(5,true),(6,true)],[]⟩
abbrev K80_1:C:=.seq (.pl <| .e 6 1 <|
 .o (.pget (some 6) none 3 0 (some 2)) <|
 .o (.pset none 5 0 2 (.v 6)) .done) (.ret)
abbrev K80_2:Pl:=.x 15 (.ia 1 (.v 7) (.v 9)) <|
 .o (.ex none (.store 1 (.v 15) (.v 14))) .done
abbrev K80_3:C:=.pl <| .e 6 10 <|
 .a 6 3 <|
 .g 7 6 3 1 <|
 .a 8 4 <|
 .g 9 8 4 5 <|
 .a 10 4 <|
 .o (.pget (some 11) (some 10) 4 6 (some 3)) <|
 .a 12 3 <|
 .g 13 12 3 1 <|
 .c 14 (.call fn_spec_l1Eval [.v 11,.v 13]) K80_2
abbrev K80_4:C:=.cond 6 (.v 8) K80_3 (.skip)
abbrev K80_5:C:=.seq (.seq (.pl <| .e 6 3 <|
 .a 6 4 <|
 .g 7 6 4 5 <|
 .x 8 (.bin .geq (.v 7) (.c (.int .i64 0))) .done) K80_4) K80_1
abbrev K80_6:C:=.seq (.pl <| .e 6 6 <|
 .a 6 3 <|
 .g 7 6 3 0 <|
 .m 8 1 <|
 .a 9 4 <|
 .g 10 9 4 1 <|
 .x 11 (.ia 1 (.v 7) (.v 8)) <|
 .o (.ex none (.store 1 (.v 11) (.v 10))) .done) K80_5
abbrev B_spec_l3Take:C:=.seq (.pl <| .e 6 0 <|
 .o (.pnew 3 (.v 0) []) <|
 .o (.pnew 4 (.v 2) []) <|
 .o (.pnew 5 (.c (.agg #[.slice none 0 0,.slice none 0 0])) []) .done) K80_6
def R_spec_l3Take:FIR:=⟨B_spec_l3Take,6,[(5,some (some 2))]⟩
theorem IR_spec_l3Take:cfun Try.prog H_spec_l3Take Try.f80=some R_spec_l3Take:=by kernel_rfl
theorem EN_spec_l3Take:ENT Try.prog B_spec_l3Take [(5,some (some 2))] 3 6 fn_spec_l3Take:=fun hargs hw=>enter Try.func80 rfl IR_spec_l3Take hargs hw
theorem okL {xs:List Int}(h:∀x∈xs,-9223372036854775808≤x∧x<9223372036854775808):∀x∈xs,Flat.ok x:=h
theorem Exq.nods_append:∀{l l2:List Exq},Exq.nods (l++l2)=Exq.nods l+Exq.nods l2
 | [],_=>by simp[Exq.nods]
 | x::l,l2=>by simp[Exq.nods,Exq.nods_append (l:=l) (l2:=l2)];omega
theorem Exq.arity_le {k:Int}:Exq.arity k≤2:=by
 unfold Exq.arity;repeat' split
 all_goals omega
theorem Exq.arity_ge {k:Int}:-1≤Exq.arity k:=by
 unfold Exq.arity;repeat' split
 all_goals omega
theorem c_l1Random {b:Nat}{sl:Value}{l:List (BitVec 8)}:∀(d:Nat),d≤4→∀{g h:Heap}{Γ:List HP}{p:Int},Rep g sl l→HS g (rb b sl p::Γ) h→0≤p→p+4*(2^d:Nat)≤1000000000000 →
  CallE Try.prog fn_spec_l1Random [.pointer (some ⟨b,0,none⟩),.int .i64 d] h (fun u h'=>∃(y:Exq) (p':Int),HS g (ow u y::rb b sl p'::Γ) h'∧y.nod<2^(d+1)∧p≤p'∧p'≤p+(4*(2^d:Nat)-2)):=by
 intro d
 induction d with
 | zero=>
  intro _ g h Γ p R H hp hp2
  refine CallE.gen fun k hk=>EN_spec_l1Random rfl ?_
  simp -implicitDefEqProofs (disch:=omega)[wrap64]
  refine (c_pick R H (by omega) (by omega) ⟨by decide,by decide⟩).go ?_
  rintro _ hL1 ⟨r1,rfl,o1,z1,y1,H⟩
  by_cases c1:r1=0
  ·simp -implicitDefEqProofs (disch:=first|omega|(simp only[LnZ];omega))[wrap64,c1]
   refine (c_pick R H (by omega) (by omega) ⟨by decide,by decide⟩).go ?_
   rintro _ hL2 ⟨r2,rfl,o2,z2,y2,H⟩
   simp -implicitDefEqProofs (disch:=first|omega|(simp only[LnZ];omega))[wrap64,setC]
   exact RetK.keep (hk _ _ ⟨Exq.mk 1 r2 [],_,HS.mkExq' H.nil_ow ⟨by decide,by decide⟩ o2,by simp[Exq.nod,Exq.nods]<;>omega,by omega,by omega⟩)
  ·simp -implicitDefEqProofs (disch:=first|omega|(simp only[LnZ];omega))[wrap64,c1]
   refine H.bls [(0:Int),1,0,2] rfl rfl (okL (by decide)) (by decide) fun v hL2 H=>?_
   simp -implicitDefEqProofs (disch:=omega)[wrap64]
   refine (c_num R H (by omega) (by omega) (by simp)).go ?_
   rintro _ hL3 ⟨r2,rfl,o2,_,H⟩
   simp -implicitDefEqProofs (disch:=first|omega|(simp only[LnZ];omega))[wrap64,setC]
   exact RetK.keep (hk _ _ ⟨Exq.mk 2 r2 [],_,HS.mkExq' H.nil_ow ⟨by decide,by decide⟩ o2,by simp[Exq.nod,Exq.nods]<;>omega,by omega,by omega⟩)
 | succ d ih=>
  intro hd g h Γ p R H hp hp2
  have hq0:2^(d+1)=2*2^d:=by rw[Nat.pow_succ];omega
  have hq1:2^(d+1+1)=4*2^d:=by rw[Nat.pow_succ,Nat.pow_succ];omega
  have hqp:0<2^d:=Nat.two_pow_pos d
  refine CallE.gen fun k hk=>EN_spec_l1Random rfl ?_
  rw[hq0,hq1] at hk
  rw[hq0] at ih
  generalize hQ:2^d=q at *
  by_cases h2:d=0
  ·simp -implicitDefEqProofs (disch:=first|omega|(simp only[LnZ];omega))[wrap64,h2]
   refine (c_pick R H (by omega) (by omega) ⟨by decide,by decide⟩).go ?_
   rintro _ hL1 ⟨r1,rfl,o1,z1,y1,H⟩
   by_cases c1:r1=0
   ·simp -implicitDefEqProofs (disch:=first|omega|(simp only[LnZ];omega))[wrap64,c1]
    refine (c_pick R H (by omega) (by omega) ⟨by decide,by decide⟩).go ?_
    rintro _ hL2 ⟨r2,rfl,o2,z2,y2,H⟩
    simp -implicitDefEqProofs (disch:=first|omega|(simp only[LnZ];omega))[wrap64,setC]
    exact RetK.keep (hk _ _ ⟨Exq.mk 1 r2 [],_,HS.mkExq' H.nil_ow ⟨by decide,by decide⟩ o2,by simp[Exq.nod,Exq.nods]<;>omega,by omega,by omega⟩)
   ·simp -implicitDefEqProofs (disch:=first|omega|(simp only[LnZ];omega))[wrap64,c1]
    refine H.bls [(0:Int),1,0,2] rfl rfl (okL (by decide)) (by decide) fun v hL2 H=>?_
    simp -implicitDefEqProofs (disch:=omega)[wrap64]
    refine (c_num R H (by omega) (by omega) (by simp)).go ?_
    rintro _ hL3 ⟨r2,rfl,o2,_,H⟩
    simp -implicitDefEqProofs (disch:=first|omega|(simp only[LnZ];omega))[wrap64,setC]
    exact RetK.keep (hk _ _ ⟨Exq.mk 2 r2 [],_,HS.mkExq' H.nil_ow ⟨by decide,by decide⟩ o2,by simp[Exq.nod,Exq.nods]<;>omega,by omega,by omega⟩)
  ·have h3:¬((d:Int)+1<2):=by omega
   simp -implicitDefEqProofs (disch:=first|omega|(simp only[LnZ];omega))[wrap64,h3]
   refine (c_pick R H (by omega) (by omega) ⟨by decide,by decide⟩).go ?_
   rintro _ h1 ⟨r0,rfl,o0,z0,y0,H⟩
   by_cases c0:r0=0
   ·simp -implicitDefEqProofs (disch:=first|omega|(simp only[LnZ];omega))[wrap64,c0]
    refine (c_pick R H (by omega) (by omega) ⟨by decide,by decide⟩).go ?_
    rintro _ hL1 ⟨r1,rfl,o1,z1,y1,H⟩
    by_cases c1:r1=0
    ·simp -implicitDefEqProofs (disch:=first|omega|(simp only[LnZ];omega))[wrap64,c1]
     refine (c_pick R H (by omega) (by omega) ⟨by decide,by decide⟩).go ?_
     rintro _ hL2 ⟨r2,rfl,o2,z2,y2,H⟩
     simp -implicitDefEqProofs (disch:=first|omega|(simp only[LnZ];omega))[wrap64,setC]
     exact RetK.keep (hk _ _ ⟨Exq.mk 1 r2 [],_,HS.mkExq' H.nil_ow ⟨by decide,by decide⟩ o2,by simp[Exq.nod,Exq.nods]<;>omega,by omega,by omega⟩)
    ·simp -implicitDefEqProofs (disch:=first|omega|(simp only[LnZ];omega))[wrap64,c1]
     refine H.bls [(0:Int),1,0,2] rfl rfl (okL (by decide)) (by decide) fun v hL2 H=>?_
     simp -implicitDefEqProofs (disch:=omega)[wrap64]
     refine (c_num R H (by omega) (by omega) (by simp)).go ?_
     rintro _ hL3 ⟨r2,rfl,o2,_,H⟩
     simp -implicitDefEqProofs (disch:=first|omega|(simp only[LnZ];omega))[wrap64,setC]
     exact RetK.keep (hk _ _ ⟨Exq.mk 2 r2 [],_,HS.mkExq' H.nil_ow ⟨by decide,by decide⟩ o2,by simp[Exq.nod,Exq.nods]<;>omega,by omega,by omega⟩)
   ·simp -implicitDefEqProofs (disch:=first|omega|(simp only[LnZ];omega))[wrap64,c0]
    refine H.bls [(6:Int),8,7,4,3,5,9] rfl rfl (okL (by decide)) (by decide) fun v h2 H=>?_
    simp -implicitDefEqProofs (disch:=omega)[wrap64]
    refine (c_num R H (by omega) (by omega) (by simp)).go ?_
    rintro _ h4 ⟨kd,rfl,okd,_,H⟩
    have ha:=Exq.arity_le (k:=kd)
    have ha2:=Exq.arity_ge (k:=kd)
    simp -implicitDefEqProofs (disch:=first|omega|(simp only[LnZ];omega))[wrap64,setC]
    refine c_l1Arity.go ?_
    rintro _ h4 ⟨rfl,rfl⟩
    obtain⟨ar,har⟩:∃ar,ar=Exq.arity kd:=⟨_,rfl⟩
    rw[← har] at ha ha2
    simp -implicitDefEqProofs (disch:=first|omega|(simp only[LnZ];omega))[wrap64,← har]
    refine wp_while (σ:=Nat) (fun j e h'=>∃(ks:List Exq) (w:Value) (p':Int),e=[some (.pointer (some ⟨b,0,none⟩)),some (.int .i64 ((d:Int)+1)),some (.agg #[.int .i64 0,.int .i64 0,.slice none 0 0]),none,some (.agg #[.int .i64 kd,.int .i64 0,w]),some (.int .i64 (ar-j))]∧HS g (ow w ks::rb b sl p'::Γ) h'∧ks.length=j∧Exq.nods ks≤j*(2*q-1)∧j≤2∧p≤p'∧p'≤p+2+j*(4*q-2)) (fun j=>3-j) 0 ⟨[],.slice none 0 0,_,by simp,H.nil_ow,rfl,by simp[Exq.nods],by omega,by omega,by omega⟩ ?_
    clear H
    rintro J j _ h5 hJ ⟨ks,w,p',rfl,H,hkl,hkn,hj,hp3,hp4⟩
    by_cases c2:(j:Int)<ar
    ·have hj2:j=0∨j=1:=by omega
     simp -implicitDefEqProofs (disch:=first|omega|(simp only[LnZ];omega))[wrap64,c2]
     refine (ih (by omega) R H.sw1 (by omega) (by rcases hj2 with rfl | rfl<;>omega)).go ?_
     rintro _ h6 ⟨y,p2,H,hy,hp5,hp6⟩
     obtain⟨wy,rfl,k1,k2,H'⟩:=H.unExq
     have hO':=H'.rep.one
     have hC':=H'.rep.cells
     simp -implicitDefEqProofs (disch:=first|omega|(simp only[LnZ];omega))[wrap64,setC,hO',hC']
     refine HS.appO (bytes:=40) H.sw2.sw1 rfl rfl rfl rfl rfl (by omega) (by omega) fun w' h7 H=>?_
     have hO:=H.rep.one
     have hC:=H.rep.cells
     simp -implicitDefEqProofs (disch:=first|omega|(simp only[LnZ];omega))[wrap64,setC,hO,hC]
     refine hJ (j+1) _ _ (by omega) ⟨ks++[y],w',p2,by simp;omega,H,by simp[hkl],?_,by omega,by omega,?_⟩
     ·rw[Exq.nods_append,show Exq.nods [y]=y.nod by simp[Exq.nods]]
      rcases hj2 with rfl | rfl<;>omega
     ·rcases hj2 with rfl | rfl<;>omega
    ·have hO:=H.rep.one
     have hC:=H.rep.cells
     simp -implicitDefEqProofs (disch:=first|omega|(simp only[LnZ];omega))[wrap64,c2,setC,hO,hC]
     refine RetK.keep (hk _ _ ⟨Exq.mk kd 0 ks,p',HS.mkExq' H okd ⟨by decide,by decide⟩,?_,by omega,?_⟩)
     ·rw[Exq.nod_eq,Exq.kids_mk]
      obtain rfl | rfl | rfl:j=0∨j=1∨j=2:=by omega
      all_goals omega
     ·obtain rfl | rfl | rfl:j=0∨j=1∨j=2:=by omega
      all_goals omega
theorem HS.blsO1 {α:Type} [Ty α] {P:Program}{k:Env→Heap→Prop}{e:Env}{g h:Heap}{Γ:List HP}{u:Value}{y:α}(H:HS g (ow u y::Γ) h) {esz:Nat}{zero:List Value}{parts:List (Nat×Nat×O)}{dst:Nat}(hf:fillP e (reps 1 zero) parts=some u.cells.toList)
  (K:∀v' h',HS g (ow v' [y]::Γ) h'→k (eset e dst (some v')) h'):(A.ex (some dst) (.bls esz 1 zero parts)).wp P k e h:=by
 obtain⟨g1,ru,rfl,d2,⟨cs,rfl,ho⟩,H⟩:=H
 have h1:=Ty.len (Ty.own_rep ho)
 rw[rep_cells (Ty.own_rep ho)] at hf
 refine⟨_,hf,fun b el hb=>Fgt.keep ?_⟩
 rw[set_new hb]
 have n1:g1 b=none∧ru b=none:=by simpa[Heap.add] using hb
 rw[add_assoc]
 refine K _ _ ⟨g1,_,rfl,Dj_add.2 ⟨d2,Dj_one.2 n1.1⟩,?_,H⟩
 rw[(Dj_one.2 n1.2).comm]
 refine Own_list.2 (.inr ⟨b,0,1,cs,el,ru,rfl,⟨Nat.le_refl _,by simp⟩,by simp[h1],rfl,n1.2,?_⟩)
 exact⟨ru,Heap.nil,by simp,by simp,by simpa[← h1] using ho,rfl⟩
theorem HS.blsO2 {α:Type} [Ty α] {P:Program}{k:Env→Heap→Prop}{e:Env}{g h:Heap}{Γ:List HP}{u u2:Value}{y y2:α}(H:HS g (ow u y::ow u2 y2::Γ) h) {esz:Nat}{zero:List Value}{parts:List (Nat×Nat×O)}{dst:Nat}(hf:fillP e (reps 2 zero) parts=some (u.cells.toList++u2.cells.toList))
  (K:∀v' h',HS g (ow v' [y,y2]::Γ) h'→k (eset e dst (some v')) h'):(A.ex (some dst) (.bls esz 2 zero parts)).wp P k e h:=by
 obtain⟨g0,ru,rfl,d2,⟨cs,rfl,ho⟩,g1,ru2,rfl,d3,⟨cs2,rfl,ho2⟩,H⟩:=H
 have h1:=Ty.len (Ty.own_rep ho)
 have h2:=Ty.len (Ty.own_rep ho2)
 rw[rep_cells (Ty.own_rep ho),rep_cells (Ty.own_rep ho2)] at hf
 obtain⟨d4,d5⟩:=add_Dj.1 d2
 refine⟨_,hf,fun b el hb=>Fgt.keep ?_⟩
 rw[set_new hb]
 have n1:(g1 b=none∧ru2 b=none)∧ru b=none:=by simpa[Heap.add] using hb
 rw[add_assoc,add_assoc]
 refine K _ _ ⟨g1,_,rfl,Dj_add.2 ⟨d3,Dj_add.2 ⟨d4,Dj_one.2 n1.1.1⟩⟩,?_,H⟩
 rw[← add_assoc,(Dj_one.2 (show (ru2.add ru) b=none by simp[Heap.add,n1])).comm]
 refine Own_list.2 (.inr ⟨b,0,2,cs++cs2,el,ru2.add ru,rfl,⟨Nat.le_refl _,by simp⟩,by simp[h1,h2];omega,rfl,by simp[Heap.add,n1],?_⟩)
 rw[d5.comm]
 refine⟨ru,ru2,rfl,d5.symm,by simpa[← h1] using ho,ru2,Heap.nil,by simp,by simp,?_,rfl⟩
 have e1:List.drop (Ty.sz α) (cs++cs2)=cs2:=by rw[← h1,List.drop_left]
 simp only[List.drop_zero]
 rw[e1,List.take_of_length_le (by omega)]
 exact ho2
theorem pl_cut {P:Program}{k:Env→Heap→Prop}{p:Pl}{e:Env}{h:Heap}(M:Env→Heap→Prop) (ha:∀J:Env→Heap→Prop,(∀e h,M e h→J e h)→p.wp P J e h) (hb:∀e h,M e h→k e h):p.wp P k e h:=ha k hb
theorem Exq.len_nods:∀{l:List Exq},l.length≤Exq.nods l
 | []=>by simp
 | x::l=>by
  have:=Exq.len_nods (l:=l)
  have:=x.nod_pos
  simp only[List.length_cons,Exq.nods];omega
theorem HS.mkE0 {g h:Heap}{Γ:List HP}{kd vl:Int}(H:HS g Γ h) (h1:I64 kd) (h2:I64 vl):HS g (ow (.agg #[.int .i64 kd,.int .i64 vl,.slice none 0 0]) (Exq.mk kd vl [])::Γ) h:=HS.mkExq' H.nil_ow h1 h2
theorem Exq.nod_mk0 {k v:Int}:(Exq.mk k v []).nod=1:=rfl
theorem c_l1Expr {g h:Heap}{Γ:List HP}{b:Nat}{sl:Value}{l:List (BitVec 8)}{p:Int}(R:Rep g sl l) (H:HS g (rb b sl p::Γ) h) (hp:0≤p) (hp2:p+100≤1000000000000) :
  CallE Try.prog fn_spec_l1Expr [.pointer (some ⟨b,0,none⟩)] h (fun u h'=>∃(y:Exq) (p':Int),HS g (ow u y::rb b sl p'::Γ) h'∧y.nod≤31∧p≤p'∧p'≤p+70):=by
 refine CallE.gen fun k hk=>EN_spec_l1Expr rfl ?_
 simp -implicitDefEqProofs (disch:=omega)[wrap64]
 refine H.bls [(3:Int),2,3,4] rfl rfl (okL (by decide)) (by decide) fun v h1 H=>?_
 simp -implicitDefEqProofs (disch:=omega)[wrap64]
 refine (c_num R H (by omega) (by omega) (by simp)).go ?_
 rintro _ h2 ⟨r,rfl,_,hr,H⟩
 obtain⟨d,rfl,hd,hpw⟩:∃d:Nat,r=d∧d≤4∧2^d≤16:=by
  simp at hr
  rcases hr with rfl | rfl | rfl | rfl
  ·exact⟨3,rfl,by decide,by decide⟩
  ·exact⟨2,rfl,by decide,by decide⟩
  ·exact⟨3,rfl,by decide,by decide⟩
  ·exact⟨4,rfl,by decide,by decide⟩
 simp -implicitDefEqProofs (disch:=omega)[wrap64]
 refine (c_l1Random d hd R H (by omega) (by omega)).go ?_
 rintro _ h3 ⟨y,p1,H,hy,hp3,hp4⟩
 have hy2:y.nod≤31:=by rw[Nat.pow_succ] at hy;omega
 have FA:=H.rep.aExq
 simp -implicitDefEqProofs (disch:=first|omega|(simp only[LnZ];omega))[wrap64,FA]
 refine (c_spec_ExprValid H.rep).go ?_
 rintro _ h3 ⟨rfl,rfl⟩
 by_cases q:y.Ok
 ·simp -implicitDefEqProofs (disch:=first|omega|(simp only[LnZ];omega))[wrap64,q,FA,setC]
  exact RetK.keep (hk _ _ ⟨y,p1,H,hy2,by omega,by omega⟩)
 ·simp -implicitDefEqProofs (disch:=first|omega|(simp only[LnZ];omega))[wrap64,q]
  refine (c_pick (n:=3) R H.sw1 (by omega) (by omega) ⟨by decide,by decide⟩).go ?_
  rintro _ h4 ⟨r1,rfl,o1,z1,y1,H⟩
  simp -implicitDefEqProofs (disch:=first|omega|(simp only[LnZ];omega))[wrap64,setC]
  exact RetK.keep (hk _ _ ⟨Exq.mk 2 r1 [],_,(H.sw1.drop).mkE0 ⟨by decide,by decide⟩ o1,by rw[Exq.nod_mk0];omega,by omega,by omega⟩)
def ez:Value:=.agg #[.int .i64 0,.int .i64 0,.slice none 0 0]
theorem c_l1SubstB0 {h:Heap}:CallE Try.prog fn_spec_l1Subst [ez,.int .i64 (-1),ez] h (fun u h'=>HS h [ow u Exq.zero] h'):=by
 refine CallE.gen fun k hk=>EN_spec_l1Subst rfl ?_
 simp -implicitDefEqProofs (disch:=first|omega|(simp only[LnZ];omega))[wrap64,ez,setC]
 refine wp_count 0 (fun i e h'=>e=[none,some (.int .i64 (-1)),none,some ez,some ez,some ez,some ez,some (.int .i64 i)]∧h'=h) ⟨by simp[ez],rfl⟩ ?_
 rintro J i _ h1 hJ hi ⟨rfl,rfl⟩
 obtain rfl:i=0:=by omega
 have hL0:lenVV (.slice none 0 0)=some (.int .i64 0):=rfl
 simp -implicitDefEqProofs (disch:=first|omega|(simp only[LnZ];omega))[wrap64,ez,setC,hL0]
 exact RetK.keep (hk _ _ (HS.mkE0 HS.init ⟨by decide,by decide⟩ ⟨by decide,by decide⟩))
theorem c_l1SubstB:∀(x:Exq) {h:Heap}{v:Value},Rep h v x→x.nod≤1000→CallE Try.prog fn_spec_l1Subst [v,.int .i64 (-1),ez] h (fun u h'=>∃y:Exq,HS h [ow u y] h'∧y.nod≤x.nod):=by
 refine Exq.ind fun x ih=>?_
 intro h v R hn
 have hne:=Exq.nod_eq x
 obtain⟨w,rfl,k1,k2,Rw⟩:=Rep_Exq.1 R
 have hR1:=Rw.one
 have hkl:x.kids.length≤Exq.nods x.kids:=Exq.len_nods
 refine CallE.gen fun k hk=>EN_spec_l1Subst rfl ?_
 by_cases c1:x.kind=2∧x.val = -1
 ·simp -implicitDefEqProofs (disch:=first|omega|(simp only[LnZ];omega))[wrap64,ez,setC,hR1,c1]
  refine c_l1SubstB0.go ?_
  intro u h1 H
  have hA:=H.rep.aExq
  simp -implicitDefEqProofs (disch:=first|omega|(simp only[LnZ];omega))[wrap64,setC,hA]
  exact RetK.keep (hk _ _ ⟨_,H,by rw[show Exq.zero.nod=1 from rfl];omega⟩)
 ·have c1':x.kind=2→¬x.val = -1:=fun e e2=>c1 ⟨e,e2⟩
  by_cases c2:x.kind=2
  ·have c3:=c1' c2
   simp -implicitDefEqProofs (disch:=first|omega|(simp only[LnZ];omega))[wrap64,ez,setC,hR1,c2,c3]
   refine wp_count x.kids.length (fun i e h'=>∃(ks:List Exq) (w':Value),e=[none,some (.int .i64 (-1)),none,some (.agg #[.int .i64 2,.int .i64 x.val,w]),some ez,some ez,some (.agg #[.int .i64 2,.int .i64 x.val,w']),some (.int .i64 i)]∧HS h [ow w' ks] h'∧ks.length=i∧Exq.nods ks≤Exq.nods (x.kids.take i)) ⟨[],.slice none 0 0,by simp[ez],HS.init.nil_ow,rfl,by simp[Exq.nods]⟩ ?_
   rintro J i _ h1 hJ hi ⟨ks,w',rfl,H,hkl2,hkn⟩
   have hO:=H.rep.one
   have hC:=H.rep.cells
   simp -implicitDefEqProofs (disch:=first|omega|(simp only[LnZ];omega))[wrap64,Rw.len]
   refine IteW.mk (fun hlt=>?_) (fun hge=>?_)
   ·have hlx:i<x.kids.length:=by omega
    obtain⟨u,hu,Ru⟩:=(Rw.on H).ld hlx
    change hload _ (some (elp 3 w i)) (some 3)=some u at hu
    have hnt:=Exq.nods_take hlx
    have hnl:=Exq.nods_le x.kids (i+1)
    simp -implicitDefEqProofs (disch:=first|omega|(simp only[LnZ];omega))[wrap64,ez,setC,(Rw.on H).X (n:=3) rfl,hu,Ru.aExq]
    refine (ih _ (List.getElem_mem hlx) Ru (by omega)).go ?_
    rintro o h2 ⟨y,G,hy⟩
    obtain⟨wy,rfl,ky1,ky2,G'⟩:=G.unExq
    have hO':=G'.rep.one
    have hC':=G'.rep.cells
    have H:=G.app H
    simp -implicitDefEqProofs (disch:=first|omega|(simp only[LnZ];omega))[wrap64,ez,setC,hO',hC']
    refine HS.appO (bytes:=40) H rfl rfl rfl rfl rfl (by omega) (by omega) fun w2 h3 H=>?_
    have hO2:=H.rep.one
    have hC2:=H.rep.cells
    simp -implicitDefEqProofs (disch:=first|omega|(simp only[LnZ];omega))[wrap64,ez,setC,hO2,hC2]
    refine hJ _ _ hlx ⟨ks++[y],w2,by simp[ez],H,by simp[hkl2],?_⟩
    rw[Exq.nods_append,show Exq.nods [y]=y.nod by simp[Exq.nods]]
    omega
   ·simp -implicitDefEqProofs (disch:=first|omega|(simp only[LnZ];omega))[wrap64,ez,setC,hO,hC]
    rw[List.take_of_length_le (by omega)] at hkn
    refine RetK.keep (hk _ _ ⟨Exq.mk 2 x.val ks,HS.mkExq' H ⟨by decide,by decide⟩ k2,?_⟩)
    rw[Exq.nod_eq,Exq.kids_mk];omega
  ·simp -implicitDefEqProofs (disch:=first|omega|(simp only[LnZ];omega))[wrap64,ez,setC,hR1,c2]
   refine wp_count x.kids.length (fun i e h'=>∃(ks:List Exq) (w':Value),e=[none,some (.int .i64 (-1)),none,some (.agg #[.int .i64 x.kind,.int .i64 x.val,w]),some ez,some ez,some (.agg #[.int .i64 x.kind,.int .i64 x.val,w']),some (.int .i64 i)]∧HS h [ow w' ks] h'∧ks.length=i∧Exq.nods ks≤Exq.nods (x.kids.take i)) ⟨[],.slice none 0 0,by simp[ez],HS.init.nil_ow,rfl,by simp[Exq.nods]⟩ ?_
   rintro J i _ h1 hJ hi ⟨ks,w',rfl,H,hkl2,hkn⟩
   have hO:=H.rep.one
   have hC:=H.rep.cells
   simp -implicitDefEqProofs (disch:=first|omega|(simp only[LnZ];omega))[wrap64,Rw.len]
   refine IteW.mk (fun hlt=>?_) (fun hge=>?_)
   ·have hlx:i<x.kids.length:=by omega
    obtain⟨u,hu,Ru⟩:=(Rw.on H).ld hlx
    change hload _ (some (elp 3 w i)) (some 3)=some u at hu
    have hnt:=Exq.nods_take hlx
    have hnl:=Exq.nods_le x.kids (i+1)
    simp -implicitDefEqProofs (disch:=first|omega|(simp only[LnZ];omega))[wrap64,ez,setC,(Rw.on H).X (n:=3) rfl,hu,Ru.aExq]
    refine (ih _ (List.getElem_mem hlx) Ru (by omega)).go ?_
    rintro o h2 ⟨y,G,hy⟩
    obtain⟨wy,rfl,ky1,ky2,G'⟩:=G.unExq
    have hO':=G'.rep.one
    have hC':=G'.rep.cells
    have H:=G.app H
    simp -implicitDefEqProofs (disch:=first|omega|(simp only[LnZ];omega))[wrap64,ez,setC,hO',hC']
    refine HS.appO (bytes:=40) H rfl rfl rfl rfl rfl (by omega) (by omega) fun w2 h3 H=>?_
    have hO2:=H.rep.one
    have hC2:=H.rep.cells
    simp -implicitDefEqProofs (disch:=first|omega|(simp only[LnZ];omega))[wrap64,ez,setC,hO2,hC2]
    refine hJ _ _ hlx ⟨ks++[y],w2,by simp[ez],H,by simp[hkl2],?_⟩
    rw[Exq.nods_append,show Exq.nods [y]=y.nod by simp[Exq.nods]]
    omega
   ·simp -implicitDefEqProofs (disch:=first|omega|(simp only[LnZ];omega))[wrap64,ez,setC,hO,hC]
    rw[List.take_of_length_le (by omega)] at hkn
    refine RetK.keep (hk _ _ ⟨Exq.mk x.kind x.val ks,HS.mkExq' H k1 k2,?_⟩)
    rw[Exq.nod_eq,Exq.kids_mk];omega
theorem c_l1Mutate {g h:Heap}{Γ:List HP}{b:Nat}{sl v:Value}{l:List (BitVec 8)}{p:Int}{x:Exq}(R:Rep g sl l) (Rx:Rep g v x) (hx:x.nod≤1000) (H:HS g (rb b sl p::Γ) h) (hp:0≤p) (hp2:p+100≤1000000000000) :
  CallE Try.prog fn_spec_l1Mutate [.pointer (some ⟨b,0,none⟩),v] h (fun u h'=>∃(y:Exq) (p':Int),HS g (ow u y::rb b sl p'::Γ) h'∧y.nod≤x.nod+1∧p≤p'∧p'≤p+2):=by
 have FX:=Rx.aExq
 have hnp:=x.nod_pos
 refine CallE.gen fun k hk=>EN_spec_l1Mutate rfl ?_
 simp -implicitDefEqProofs (disch:=first|omega|(simp only[LnZ];omega))[wrap64,FX]
 refine (c_l1SubstB x (Rx.on H) hx).go ?_
 rintro o h1 ⟨y,G,hy⟩
 obtain⟨w,rfl,k1,k2,G'⟩:=G.unExq
 have hO:=G'.rep.one
 have hC:=G'.rep.cells
 have H:=G'.app H
 have hyn:=Exq.nod_eq y
 have hyl:=Exq.len_nods (l:=y.kids)
 simp -implicitDefEqProofs (disch:=first|omega|(simp only[LnZ];omega))[wrap64,setC,hO,hC]
 refine (c_pick (n:=40) R H.sw1 (by omega) (by omega) ⟨by decide,by decide⟩).go ?_
 rintro _ h2 ⟨r,rfl,o1,z1,y1,H⟩
 by_cases c0:r=0
 ·simp -implicitDefEqProofs (disch:=first|omega|(simp only[LnZ];omega))[wrap64,c0]
  refine H.bls [(0:Int),10,-1,1,2,3,4] rfl rfl (okL (by decide)) (by decide) fun q h3 H=>?_
  simp -implicitDefEqProofs (disch:=omega)[wrap64]
  refine (c_num R H (by omega) (by omega) (by simp)).go ?_
  rintro _ h4 ⟨r2,rfl,o2,_,H⟩
  simp -implicitDefEqProofs (disch:=first|omega|(simp only[LnZ];omega))[wrap64,setC,hO,hC]
  exact RetK.keep (hk _ _ ⟨Exq.mk r2 y.val y.kids,_,HS.mkExq' H.sw1 o2 k2,by rw[Exq.nod_eq,Exq.kids_mk];omega,by omega,by omega⟩)
 by_cases c1:r=1
 ·simp -implicitDefEqProofs (disch:=first|omega|(simp only[LnZ];omega))[wrap64,c0,c1]
  refine H.bls [(-1:Int),4,3,9223372036854775807] rfl rfl (okL (by decide)) (by decide) fun q h3 H=>?_
  simp -implicitDefEqProofs (disch:=omega)[wrap64]
  refine (c_num R H (by omega) (by omega) (by simp)).go ?_
  rintro _ h4 ⟨r2,rfl,o2,_,H⟩
  simp -implicitDefEqProofs (disch:=first|omega|(simp only[LnZ];omega))[wrap64,setC,hO,hC]
  exact RetK.keep (hk _ _ ⟨Exq.mk y.kind r2 y.kids,_,HS.mkExq' H.sw1 k1 o2,by rw[Exq.nod_eq,Exq.kids_mk];omega,by omega,by omega⟩)
 by_cases c2:r=2
 ·simp -implicitDefEqProofs (disch:=first|omega|(simp only[LnZ];omega))[wrap64,c0,c1,c2,setC]
  refine HS.appO (bytes:=40) (H.sw1.mkE0 (kd:=1) (vl:=0) ⟨by decide,by decide⟩ ⟨by decide,by decide⟩) rfl rfl rfl rfl rfl (by omega) (by omega) fun w2 h3 H=>?_
  have hO2:=H.rep.one
  have hC2:=H.rep.cells
  simp -implicitDefEqProofs (disch:=first|omega|(simp only[LnZ];omega))[wrap64,setC,hO2,hC2]
  refine RetK.keep (hk _ _ ⟨Exq.mk y.kind y.val _,_,HS.mkExq' H k1 k2,?_,by omega,by omega⟩)
  rw[Exq.nod_eq,Exq.kids_mk,Exq.nods_append,show Exq.nods [Exq.mk 1 0 []]=1 from rfl];omega
 by_cases c3:r=3
 ·simp -implicitDefEqProofs (disch:=first|omega|(simp only[LnZ];omega))[wrap64,c0,c1,c2,c3,setC]
  exact RetK.keep (hk _ _ ⟨Exq.mk 0 0 [],_,(H.sw1.drop).mkE0 ⟨by decide,by decide⟩ ⟨by decide,by decide⟩,by rw[Exq.nod_mk0];omega,by omega,by omega⟩)
 ·simp -implicitDefEqProofs (disch:=first|omega|(simp only[LnZ];omega))[wrap64,c0,c1,c2,c3,setC,hO,hC]
  exact RetK.keep (hk _ _ ⟨y,_,HS.mkExq H.sw1 k1 k2,by omega,by omega,by omega⟩)
theorem c_l2Guard {g h:Heap}{Γ:List HP}{b:Nat}{sl:Value}{l:List (BitVec 8)}{p:Int}(R:Rep g sl l) (H:HS g (rb b sl p::Γ) h) (hp:0≤p) (hp2:p+100≤1000000000000) :
  CallE Try.prog fn_spec_l2Guard [.pointer (some ⟨b,0,none⟩)] h (fun u h'=>∃(y:Exq) (p':Int),HS g (ow u y::rb b sl p'::Γ) h'∧y.nod≤4∧p≤p'∧p'≤p+5):=by
 refine CallE.gen fun k hk=>EN_spec_l2Guard rfl ?_
 simp -implicitDefEqProofs (disch:=omega)[wrap64]
 refine (c_pick (n:=3) R H (by omega) (by omega) ⟨by decide,by decide⟩).go ?_
 rintro _ h1 ⟨r1,rfl,o1,z1,y1,H⟩
 by_cases c1:r1=0
 ·simp -implicitDefEqProofs (disch:=first|omega|(simp only[LnZ];omega))[wrap64,c1,setC]
  exact RetK.keep (hk _ _ ⟨Exq.mk 1 1 [],_,H.mkE0 ⟨by decide,by decide⟩ ⟨by decide,by decide⟩,by rw[Exq.nod_mk0];omega,by omega,by omega⟩)
 simp -implicitDefEqProofs (disch:=first|omega|(simp only[LnZ];omega))[wrap64,c1]
 refine H.bls [(0:Int),1,0,2] rfl rfl (okL (by decide)) (by decide) fun q h3 H=>?_
 simp -implicitDefEqProofs (disch:=omega)[wrap64]
 refine (c_num R H (by omega) (by omega) (by simp)).go ?_
 rintro _ h4 ⟨r2,rfl,o2,_,H⟩
 simp -implicitDefEqProofs (disch:=first|omega|(simp only[LnZ];omega))[wrap64,setC]
 refine (c_pick (n:=3) R H (by omega) (by omega) ⟨by decide,by decide⟩).go ?_
 rintro _ h1 ⟨r3,rfl,o3,z3,y3,H⟩
 simp -implicitDefEqProofs (disch:=first|omega|(simp only[LnZ];omega))[wrap64,setC]
 refine pl_cut (fun e' h'=>∃kd w r,e'=some (.pointer (some ⟨b,0,none⟩))::some ez::some (.agg #[.int .i64 2,.int .i64 r2,.slice none 0 0])::some (.agg #[.int .i64 1,.int .i64 r3,.slice none 0 0])::some (.agg #[.int .i64 kd,.int .i64 0,w])::r∧I64 kd∧HS g (ow w [Exq.mk 2 r2 [],Exq.mk 1 r3 []]::rb b sl (p+1+1+1+1)::Γ) h') (fun K hK=>?_) ?_
 ·refine⟨?_,?_⟩
  ·simp -implicitDefEqProofs (disch:=omega)[wrap64]
   refine H.bls [(6:Int),7,6] rfl rfl (okL (by decide)) (by decide) fun q h6 H=>?_
   refine⟨?_,?_⟩
   ·simp -implicitDefEqProofs (disch:=omega)[wrap64]
    refine (c_num R H (by omega) (by omega) (by simp)).go ?_
    rintro _ h7 ⟨kd,rfl,okd,_,H⟩
    simp -implicitDefEqProofs (disch:=omega)[wrap64]
    refine HS.blsO2 ((H.mkE0 (kd:=1) (vl:=r3) ⟨by decide,by decide⟩ o3).mkE0 (kd:=2) (vl:=r2) ⟨by decide,by decide⟩ o2) rfl fun w h8 H=>?_
    simp -implicitDefEqProofs (disch:=first|omega|(simp only[LnZ];omega))[wrap64,setC,H.rep.one,H.rep.cells]
    exact hK _ _ ⟨kd,w,_,rfl,okd,H⟩
   ·simp -implicitDefEqProofs (disch:=omega)[wrap64]
    refine HS.blsO2 ((H.mkE0 (kd:=1) (vl:=r3) ⟨by decide,by decide⟩ o3).mkE0 (kd:=2) (vl:=r2) ⟨by decide,by decide⟩ o2) rfl fun w h8 H=>?_
    simp -implicitDefEqProofs (disch:=omega)[wrap64]
    refine (c_num R H.bk2 (by omega) (by omega) (by simp)).go ?_
    rintro _ h7 ⟨kd,rfl,okd,_,H⟩
    simp -implicitDefEqProofs (disch:=first|omega|(simp only[LnZ];omega))[wrap64,setC,H.sw1.rep.one,H.sw1.rep.cells]
    exact hK _ _ ⟨kd,w,_,rfl,okd,H.sw1⟩
  ·simp -implicitDefEqProofs (disch:=omega)[wrap64]
   refine HS.blsO2 ((H.mkE0 (kd:=1) (vl:=r3) ⟨by decide,by decide⟩ o3).mkE0 (kd:=2) (vl:=r2) ⟨by decide,by decide⟩ o2) rfl fun w h8 H=>?_
   simp -implicitDefEqProofs (disch:=omega)[wrap64]
   refine H.bls [(6:Int),7,6] rfl rfl (okL (by decide)) (by decide) fun q h6 H=>?_
   simp -implicitDefEqProofs (disch:=omega)[wrap64]
   refine (c_num R H.sw1.bk2 (by omega) (by omega) (by simp)).go ?_
   rintro _ h7 ⟨kd,rfl,okd,_,H⟩
   simp -implicitDefEqProofs (disch:=first|omega|(simp only[LnZ];omega))[wrap64,setC,H.sw1.rep.one,H.sw1.rep.cells]
   exact hK _ _ ⟨kd,w,_,rfl,okd,H.sw1⟩
 rintro _ h5 ⟨kd,w,r,rfl,okd,H⟩
 have hO:=H.rep.one
 have hC:=H.rep.cells
 simp -implicitDefEqProofs (disch:=omega)[wrap64]
 refine (c_pick (n:=5) R H.sw1 (by omega) (by omega) ⟨by decide,by decide⟩).go ?_
 rintro _ h6 ⟨r4,rfl,o4,z4,y4,H⟩
 by_cases c2:r4=0
 ·simp -implicitDefEqProofs (disch:=first|omega|(simp only[LnZ];omega))[wrap64,c2,setC,hO,hC]
  refine HS.blsO1 (HS.mkExq' (kd:=kd) (vl:=0) H.sw1 okd ⟨by decide,by decide⟩) rfl fun w2 h7 H=>?_
  have hO2:=H.rep.one
  have hC2:=H.rep.cells
  simp -implicitDefEqProofs (disch:=first|omega|(simp only[LnZ];omega))[wrap64,setC,hO2,hC2,ez]
  exact RetK.keep (hk _ _ ⟨Exq.mk 3 0 _,_,HS.mkExq' H ⟨by decide,by decide⟩ ⟨by decide,by decide⟩,by simp[Exq.nods,Exq.nod],by omega,by omega⟩)
 ·simp -implicitDefEqProofs (disch:=first|omega|(simp only[LnZ];omega))[wrap64,c2,setC,hO,hC,ez]
  exact RetK.keep (hk _ _ ⟨_,_,HS.mkExq' H.sw1 okd ⟨by decide,by decide⟩,by rw[Exq.nod_eq,Exq.kids_mk];simp[Exq.nods,Exq.nod],by omega,by omega⟩)
structure Ed.Sm (n:Nat) (e:Ed):Prop where
 g:e.guard.nod≤n
 v:e.value.nod≤n
structure Pr.Sm (n:Nat) (p:Pr):Prop where
 el:p.edges.length≤n
 ee:∀e∈p.edges,e.Sm n
structure Sy.Sm (n:Nat) (s:Sy):Prop where
 il:s.init.length≤n
 pl:s.procs.length≤n
 pp:∀p∈s.procs,p.Sm n
theorem c_l2DrawEdge {g h:Heap}{Γ:List HP}{b:Nat}{sl:Value}{l:List (BitVec 8)}{p n:Int}(R:Rep g sl l) (H:HS g (rb b sl p::Γ) h) (hp:0≤p) (hp2:p+200≤1000000000000) (hn:I64 n) :
  CallE Try.prog fn_spec_l2DrawEdge [.pointer (some ⟨b,0,none⟩),.int .i64 n] h (fun u h'=>∃(y:Ed) (p':Int),HS g (ow u y::rb b sl p'::Γ) h'∧y.Sm 40∧p≤p'∧p'≤p+90):=by
 have i0:I64 0:=⟨by decide,by decide⟩
 have i1:I64 1:=⟨by decide,by decide⟩
 have im:I64 (-1):=⟨by decide,by decide⟩
 have i8:I64 8:=⟨by decide,by decide⟩
 have i9:I64 9:=⟨by decide,by decide⟩
 refine CallE.gen fun k hk=>EN_spec_l2DrawEdge rfl ?_
 simp -implicitDefEqProofs (disch:=omega)[wrap64]
 refine (c_pick R H (by omega) (by omega) hn).go ?_
 rintro _ h1 ⟨r1,rfl,o1,z1,y1,H⟩
 simp -implicitDefEqProofs (disch:=omega)[wrap64]
 refine (c_pick R H (by omega) (by omega) hn).go ?_
 rintro _ h1 ⟨r2,rfl,o2,z2,y2,H⟩
 simp -implicitDefEqProofs (disch:=omega)[wrap64]
 refine (c_l2Guard R H (by omega) (by omega)).go ?_
 rintro _ h1 ⟨gu,p1,H,hgn,hp3,hp4⟩
 obtain⟨wg,rfl,k1,k2,H⟩:=H.unExq
 have hOg:=H.rep.one
 have hCg:=H.rep.cells
 simp -implicitDefEqProofs (disch:=first|omega|(simp only[LnZ];omega))[wrap64,setC,hOg,hCg]
 refine (c_pick (n:=3) R H.sw1 (by omega) (by omega) ⟨by decide,by decide⟩).go ?_
 rintro _ h1 ⟨r3,rfl,o3,z3,y3,H⟩
 by_cases c3:0<r3
 case neg=>
  simp -implicitDefEqProofs (disch:=first|omega|(simp only[LnZ];omega))[wrap64,c3]
  have H:=(H.sw1.nil_ow (α:=Exq)).sw2
  refine (c_pick (n:=4) R H (by omega) (by omega) ⟨by decide,by decide⟩).go ?_
  rintro _ ht ⟨r9,rfl,o9,z9,y9,H⟩
  by_cases c9:r9=0
  ·simp -implicitDefEqProofs (disch:=first|omega|(simp only[LnZ];omega))[wrap64,c9]
   refine H.bls [(1:Int),-1,1,-1,2,-2] rfl rfl (okL (by decide)) (by decide) fun q hq H=>?_
   simp -implicitDefEqProofs (disch:=omega)[wrap64]
   refine (c_num R H (by omega) (by omega) (by simp)).go ?_
   rintro _ ht2 ⟨sy,rfl,osy,_,H⟩
   simp -implicitDefEqProofs (disch:=first|omega|(simp only[LnZ];omega))[wrap64,setC,hOg,hCg]
   exact RetK.keep (hk _ _ ⟨⟨r1,r2,gu,-1,(Exq.mk 0 0 []),sy⟩,_,HS.mkEd (e:=⟨r1,r2,gu,-1,(Exq.mk 0 0 []),sy⟩) (H.bk2.sw1) ⟨o1,o2,k1,k2,im,i0,i0,osy⟩,⟨by dsimp only;omega,by simp[Exq.nod,Exq.nods]⟩,by omega,by omega⟩)
  ·simp -implicitDefEqProofs (disch:=first|omega|(simp only[LnZ];omega))[wrap64,c9,setC,hOg,hCg]
   exact RetK.keep (hk _ _ ⟨⟨r1,r2,gu,-1,(Exq.mk 0 0 []),0⟩,_,HS.mkEd (e:=⟨r1,r2,gu,-1,(Exq.mk 0 0 []),0⟩) (H.bk2.sw1) ⟨o1,o2,k1,k2,im,i0,i0,i0⟩,⟨by dsimp only;omega,by simp[Exq.nod,Exq.nods]⟩,by omega,by omega⟩)
 simp -implicitDefEqProofs (disch:=first|omega|(simp only[LnZ];omega))[wrap64,c3]
 refine H.bls [(0:Int),1,0,2] rfl rfl (okL (by decide)) (by decide) fun q hq H=>?_
 simp -implicitDefEqProofs (disch:=omega)[wrap64]
 refine (c_num R H (by omega) (by omega) (by simp)).go ?_
 rintro _ ht2 ⟨vr,rfl,ovr,_,H⟩
 simp -implicitDefEqProofs (disch:=first|omega|(simp only[LnZ];omega))[wrap64,setC,hOg,hCg]
 refine (c_pick (n:=4) R H (by omega) (by omega) ⟨by decide,by decide⟩).go ?_
 rintro _ h1 ⟨r5,rfl,o5,z5,y5,H⟩
 by_cases d0:r5=0
 ·simp -implicitDefEqProofs (disch:=first|omega|(simp only[LnZ];omega))[wrap64,d0]
  refine (c_pick (n:=3) R H (by omega) (by omega) ⟨by decide,by decide⟩).go ?_
  rintro _ h1 ⟨r6,rfl,o6,z6,y6,H⟩
  simp -implicitDefEqProofs (disch:=first|omega|(simp only[LnZ];omega))[wrap64,setC,hOg,hCg]
  have H:=(H.sw1.nil_ow (α:=Exq)).sw2
  refine (c_pick (n:=4) R H (by omega) (by omega) ⟨by decide,by decide⟩).go ?_
  rintro _ ht ⟨r9,rfl,o9,z9,y9,H⟩
  by_cases c9:r9=0
  ·simp -implicitDefEqProofs (disch:=first|omega|(simp only[LnZ];omega))[wrap64,c9]
   refine H.bls [(1:Int),-1,1,-1,2,-2] rfl rfl (okL (by decide)) (by decide) fun q hq H=>?_
   simp -implicitDefEqProofs (disch:=omega)[wrap64]
   refine (c_num R H (by omega) (by omega) (by simp)).go ?_
   rintro _ ht2 ⟨sy,rfl,osy,_,H⟩
   simp -implicitDefEqProofs (disch:=first|omega|(simp only[LnZ];omega))[wrap64,setC,hOg,hCg]
   exact RetK.keep (hk _ _ ⟨⟨r1,r2,gu,vr,(Exq.mk 1 r6 []),sy⟩,_,HS.mkEd (e:=⟨r1,r2,gu,vr,(Exq.mk 1 r6 []),sy⟩) (H.bk2.sw1) ⟨o1,o2,k1,k2,ovr,i1,o6,osy⟩,⟨by dsimp only;omega,by simp[Exq.nod,Exq.nods]⟩,by omega,by omega⟩)
  ·simp -implicitDefEqProofs (disch:=first|omega|(simp only[LnZ];omega))[wrap64,c9,setC,hOg,hCg]
   exact RetK.keep (hk _ _ ⟨⟨r1,r2,gu,vr,(Exq.mk 1 r6 []),0⟩,_,HS.mkEd (e:=⟨r1,r2,gu,vr,(Exq.mk 1 r6 []),0⟩) (H.bk2.sw1) ⟨o1,o2,k1,k2,ovr,i1,o6,i0⟩,⟨by dsimp only;omega,by simp[Exq.nod,Exq.nods]⟩,by omega,by omega⟩)
 by_cases d1:r5=1
 ·simp -implicitDefEqProofs (disch:=first|omega|(simp only[LnZ];omega))[wrap64,d0,d1,setC]
  refine HS.blsO2 ((H.mkE0 (kd:=1) (vl:=1) ⟨by decide,by decide⟩ ⟨by decide,by decide⟩).mkE0 (kd:=2) (vl:=vr) ⟨by decide,by decide⟩ ovr) rfl fun w h8 H=>?_
  have hOv:=H.rep.one
  have hCv:=H.rep.cells
  simp -implicitDefEqProofs (disch:=first|omega|(simp only[LnZ];omega))[wrap64,setC,hOg,hCg,hOv,hCv]
  have H:=H.sw1
  refine (c_pick (n:=4) R H (by omega) (by omega) ⟨by decide,by decide⟩).go ?_
  rintro _ ht ⟨r9,rfl,o9,z9,y9,H⟩
  by_cases c9:r9=0
  ·simp -implicitDefEqProofs (disch:=first|omega|(simp only[LnZ];omega))[wrap64,c9]
   refine H.bls [(1:Int),-1,1,-1,2,-2] rfl rfl (okL (by decide)) (by decide) fun q hq H=>?_
   simp -implicitDefEqProofs (disch:=omega)[wrap64]
   refine (c_num R H (by omega) (by omega) (by simp)).go ?_
   rintro _ ht2 ⟨sy,rfl,osy,_,H⟩
   simp -implicitDefEqProofs (disch:=first|omega|(simp only[LnZ];omega))[wrap64,setC,hOg,hCg,hOv,hCv]
   exact RetK.keep (hk _ _ ⟨⟨r1,r2,gu,vr,(Exq.mk 8 0 [Exq.mk 2 vr [],Exq.mk 1 1 []]),sy⟩,_,HS.mkEd (e:=⟨r1,r2,gu,vr,(Exq.mk 8 0 [Exq.mk 2 vr [],Exq.mk 1 1 []]),sy⟩) (H.bk2.sw1) ⟨o1,o2,k1,k2,ovr,i8,i0,osy⟩,⟨by dsimp only;omega,by simp[Exq.nod,Exq.nods]⟩,by omega,by omega⟩)
  ·simp -implicitDefEqProofs (disch:=first|omega|(simp only[LnZ];omega))[wrap64,c9,setC,hOg,hCg,hOv,hCv]
   exact RetK.keep (hk _ _ ⟨⟨r1,r2,gu,vr,(Exq.mk 8 0 [Exq.mk 2 vr [],Exq.mk 1 1 []]),0⟩,_,HS.mkEd (e:=⟨r1,r2,gu,vr,(Exq.mk 8 0 [Exq.mk 2 vr [],Exq.mk 1 1 []]),0⟩) (H.bk2.sw1) ⟨o1,o2,k1,k2,ovr,i8,i0,i0⟩,⟨by dsimp only;omega,by simp[Exq.nod,Exq.nods]⟩,by omega,by omega⟩)
 by_cases d2:r5=2
 ·simp -implicitDefEqProofs (disch:=first|omega|(simp only[LnZ];omega))[wrap64,d0,d1,d2,setC]
  refine HS.blsO2 ((H.mkE0 (kd:=2) (vl:=vr) ⟨by decide,by decide⟩ ovr).mkE0 (kd:=1) (vl:=1) ⟨by decide,by decide⟩ ⟨by decide,by decide⟩) rfl fun w h8 H=>?_
  have hOv:=H.rep.one
  have hCv:=H.rep.cells
  simp -implicitDefEqProofs (disch:=first|omega|(simp only[LnZ];omega))[wrap64,setC,hOg,hCg,hOv,hCv]
  have H:=H.sw1
  refine (c_pick (n:=4) R H (by omega) (by omega) ⟨by decide,by decide⟩).go ?_
  rintro _ ht ⟨r9,rfl,o9,z9,y9,H⟩
  by_cases c9:r9=0
  ·simp -implicitDefEqProofs (disch:=first|omega|(simp only[LnZ];omega))[wrap64,c9]
   refine H.bls [(1:Int),-1,1,-1,2,-2] rfl rfl (okL (by decide)) (by decide) fun q hq H=>?_
   simp -implicitDefEqProofs (disch:=omega)[wrap64]
   refine (c_num R H (by omega) (by omega) (by simp)).go ?_
   rintro _ ht2 ⟨sy,rfl,osy,_,H⟩
   simp -implicitDefEqProofs (disch:=first|omega|(simp only[LnZ];omega))[wrap64,setC,hOg,hCg,hOv,hCv]
   exact RetK.keep (hk _ _ ⟨⟨r1,r2,gu,vr,(Exq.mk 9 0 [Exq.mk 1 1 [],Exq.mk 2 vr []]),sy⟩,_,HS.mkEd (e:=⟨r1,r2,gu,vr,(Exq.mk 9 0 [Exq.mk 1 1 [],Exq.mk 2 vr []]),sy⟩) (H.bk2.sw1) ⟨o1,o2,k1,k2,ovr,i9,i0,osy⟩,⟨by dsimp only;omega,by simp[Exq.nod,Exq.nods]⟩,by omega,by omega⟩)
  ·simp -implicitDefEqProofs (disch:=first|omega|(simp only[LnZ];omega))[wrap64,c9,setC,hOg,hCg,hOv,hCv]
   exact RetK.keep (hk _ _ ⟨⟨r1,r2,gu,vr,(Exq.mk 9 0 [Exq.mk 1 1 [],Exq.mk 2 vr []]),0⟩,_,HS.mkEd (e:=⟨r1,r2,gu,vr,(Exq.mk 9 0 [Exq.mk 1 1 [],Exq.mk 2 vr []]),0⟩) (H.bk2.sw1) ⟨o1,o2,k1,k2,ovr,i9,i0,i0⟩,⟨by dsimp only;omega,by simp[Exq.nod,Exq.nods]⟩,by omega,by omega⟩)
 ·simp -implicitDefEqProofs (disch:=first|omega|(simp only[LnZ];omega))[wrap64,d0,d1,d2]
  refine (c_l1Expr R H (by omega) (by omega)).go ?_
  rintro _ h1 ⟨va,p5,H,hvn,hp5,hp6⟩
  obtain⟨wv,rfl,k3,k4,H⟩:=H.unExq
  have hOv:=H.rep.one
  have hCv:=H.rep.cells
  simp -implicitDefEqProofs (disch:=first|omega|(simp only[LnZ];omega))[wrap64,setC,hOg,hCg,hOv,hCv]
  have H:=H.sw1
  refine (c_pick (n:=4) R H (by omega) (by omega) ⟨by decide,by decide⟩).go ?_
  rintro _ ht ⟨r9,rfl,o9,z9,y9,H⟩
  by_cases c9:r9=0
  ·simp -implicitDefEqProofs (disch:=first|omega|(simp only[LnZ];omega))[wrap64,c9]
   refine H.bls [(1:Int),-1,1,-1,2,-2] rfl rfl (okL (by decide)) (by decide) fun q hq H=>?_
   simp -implicitDefEqProofs (disch:=omega)[wrap64]
   refine (c_num R H (by omega) (by omega) (by simp)).go ?_
   rintro _ ht2 ⟨sy,rfl,osy,_,H⟩
   simp -implicitDefEqProofs (disch:=first|omega|(simp only[LnZ];omega))[wrap64,setC,hOg,hCg,hOv,hCv]
   exact RetK.keep (hk _ _ ⟨⟨r1,r2,gu,vr,va,sy⟩,_,HS.mkEd (e:=⟨r1,r2,gu,vr,va,sy⟩) (H.bk2.sw1) ⟨o1,o2,k1,k2,ovr,k3,k4,osy⟩,⟨by dsimp only;omega,by dsimp only;omega⟩,by omega,by omega⟩)
  ·simp -implicitDefEqProofs (disch:=first|omega|(simp only[LnZ];omega))[wrap64,c9,setC,hOg,hCg,hOv,hCv]
   exact RetK.keep (hk _ _ ⟨⟨r1,r2,gu,vr,va,0⟩,_,HS.mkEd (e:=⟨r1,r2,gu,vr,va,0⟩) (H.bk2.sw1) ⟨o1,o2,k1,k2,ovr,k3,k4,i0⟩,⟨by dsimp only;omega,by dsimp only;omega⟩,by omega,by omega⟩)
theorem c_l2System {g h:Heap}{Γ:List HP}{b:Nat}{sl:Value}{l:List (BitVec 8)}{p:Int}(R:Rep g sl l) (H:HS g (rb b sl p::Γ) h) (hp:0≤p) (hp2:p+2000≤1000000000000) :
  CallE Try.prog fn_spec_l2System [.pointer (some ⟨b,0,none⟩)] h (fun u h'=>∃(y:Sy) (p':Int),HS g (ow u y::rb b sl p'::Γ) h'∧y.Sm 40∧p≤p'∧p'≤p+1400):=by
 have i0:I64 0:=⟨by decide,by decide⟩
 refine CallE.gen fun k hk=>EN_spec_l2System rfl ?_
 simp -implicitDefEqProofs (disch:=omega)[wrap64]
 refine (c_pick (n:=2) R H (by omega) (by omega) ⟨by decide,by decide⟩).go ?_
 rintro _ h1 ⟨r1,rfl,o1,z1,y1,H⟩
 simp -implicitDefEqProofs (disch:=omega)[wrap64]
 refine H.bls [(0:Int),0,1,3] rfl rfl (okL (by decide)) (by decide) fun q hq H=>?_
 simp -implicitDefEqProofs (disch:=omega)[wrap64]
 refine (c_num R H (by omega) (by omega) (by simp)).go ?_
 rintro _ h1 ⟨r2,rfl,o2,_,H⟩
 simp -implicitDefEqProofs (disch:=omega)[wrap64]
 refine H.bls [r1,r2,0] rfl rfl (by intro x hx;simp at hx;rcases hx with rfl | rfl | rfl<;>first | exact o1 | exact o2 | exact i0) (by decide) fun wi hq H=>?_
 have hOi:=H.rep.one
 have hCi:=H.rep.cells
 simp -implicitDefEqProofs (disch:=first|omega|(simp only[LnZ];omega))[wrap64,setC,hOi,hCi]
 refine H.bls [(2:Int),1,2,3] rfl rfl (okL (by decide)) (by decide) fun q hq H=>?_
 simp -implicitDefEqProofs (disch:=omega)[wrap64]
 refine (c_num R H.sw1.bk2 (by omega) (by omega) (by simp)).go ?_
 rintro _ h1 ⟨r3,rfl,o3,hr3,H⟩
 obtain⟨n,rfl,hn⟩:∃n:Nat,r3=n∧n≤3:=by
  simp at hr3
  rcases hr3 with rfl | rfl | rfl | rfl<;>first | exact⟨2,rfl,by decide⟩ | exact⟨1,rfl,by decide⟩ | exact⟨3,rfl,by decide⟩
 simp -implicitDefEqProofs (disch:=omega)[wrap64]
 refine wp_while (σ:=Nat) (fun i e h'=>∃(ps:List Pr) (w:Value) (p':Int),e=[some (.pointer (some ⟨b,0,none⟩)),some (.agg #[.slice none 0 0,.slice none 0 0]),some (.agg #[wi,w]),some (.int .i64 i),none,none]∧HS g (ow w ps::ow wi [r1,r2,0]::rb b sl p'::Γ) h'∧ps.length+i≤3∧(∀x∈ps,x.Sm 40)∧p≤p'∧p'+452*i≤p+3+3*452) (fun i=>i) n ⟨[],.slice none 0 0,_,by simp,H.sw1.nil_ow,by simpa using hn,by simp,by omega,by omega⟩ ?_
 clear H hOi hCi
 rintro J i _ h3 hJ ⟨ps,w,p1,rfl,H,hpl,hps,hp3,hp4⟩
 have hOi:=H.sw1.rep.one
 have hCi:=H.sw1.rep.cells
 have hOw:=H.rep.one
 have hCw:=H.rep.cells
 by_cases c0:0<i
 ·have c0':(0:Int)<i:=by omega
  simp -implicitDefEqProofs (disch:=first|omega|(simp only[LnZ];omega))[wrap64,c0,c0']
  refine H.bls [(2:Int),3,1,2] rfl rfl (okL (by decide)) (by decide) fun q hq H=>?_
  simp -implicitDefEqProofs (disch:=omega)[wrap64]
  refine (c_num R (H.under fun _ H=>H.sw2) (by omega) (by omega) (by simp)).go ?_
  rintro _ h4 ⟨lo,rfl,olo,_,H⟩
  simp -implicitDefEqProofs (disch:=first|omega|(simp only[LnZ];omega))[wrap64,setC]
  refine H.bls [(3:Int),4,2,5,1] rfl rfl (okL (by decide)) (by decide) fun q hq H=>?_
  simp -implicitDefEqProofs (disch:=omega)[wrap64]
  refine (c_num R H (by omega) (by omega) (by simp)).go ?_
  rintro _ h4 ⟨r5,rfl,o5,hr5,H⟩
  obtain⟨n5,rfl,hn5⟩:∃n:Nat,r5=n∧n≤5:=by
   simp at hr5
   rcases hr5 with rfl | rfl | rfl | rfl | rfl<;>first | exact⟨3,rfl,by decide⟩ | exact⟨4,rfl,by decide⟩ | exact⟨2,rfl,by decide⟩ | exact⟨5,rfl,by decide⟩ | exact⟨1,rfl,by decide⟩
  simp -implicitDefEqProofs (disch:=omega)[wrap64]
  refine wp_while (σ:=Nat) (fun k e h'=>∃(es:List Ed) (we:Value) (p':Int),e=[some (.pointer (some ⟨b,0,none⟩)),some (.agg #[.slice none 0 0,.slice none 0 0]),some (.agg #[wi,w]),some (.int .i64 i),some (.agg #[.int .i64 lo,we]),some (.int .i64 k)]∧HS g (ow we es::rb b sl p'::ow w ps::ow wi [r1,r2,0]::Γ) h'∧es.length+k≤5∧(∀x∈es,x.Sm 40)∧p1≤p'∧p'+90*k≤p1+2+450) (fun i=>i) n5 ⟨[],.slice none 0 0,_,by simp,H.nil_ow,by simpa using hn5,by simp,by omega,by omega⟩ ?_
  clear H
  rintro J2 k2 _ h5 hJ2 ⟨es,we,p2,rfl,H,hel,hes,hp5,hp6⟩
  by_cases c1:0<k2
  ·have c1':(0:Int)<k2:=by omega
   simp -implicitDefEqProofs (disch:=first|omega|(simp only[LnZ];omega))[wrap64,c1,c1',setC]
   refine (c_l2DrawEdge R H.sw1 (by omega) (by omega) olo).go ?_
   rintro _ h6 ⟨y,p3,H,hy,hp7,hp8⟩
   obtain⟨w1,w2,rfl,ok,H'⟩:=H.unEd
   have hO1:=H'.rep.one
   have hC1:=H'.rep.cells
   have hO2:=H'.sw1.rep.one
   have hC2:=H'.sw1.rep.cells
   simp -implicitDefEqProofs (disch:=first|omega|(simp only[LnZ];omega))[wrap64,setC,Ed.cs,hO1,hC1,hO2,hC2]
   refine HS.appO (bytes:=112) H.sw2.sw1 rfl rfl rfl rfl rfl (by omega) (by omega) fun we' h7 H=>?_
   simp -implicitDefEqProofs (disch:=first|omega|(simp only[LnZ];omega))[wrap64,setC,H.rep.one,H.rep.cells]
   refine hJ2 (k2-1) _ _ (by omega) ⟨es++[y],we',p3,by simp;omega,H,by simp;omega,?_,by omega,by omega⟩
   intro x hx
   simp only[List.mem_append,List.mem_singleton] at hx
   rcases hx with hx | rfl
   ·exact hes x hx
   ·exact hy
  ·have c1':¬((0:Int)<k2):=by omega
   have hOe:=H.rep.one
   have hCe:=H.rep.cells
   simp -implicitDefEqProofs (disch:=first|omega|(simp only[LnZ];omega))[wrap64,c1,c1',setC,hOe,hCe]
   refine HS.appO (bytes:=32) (HS.mkPr (p:=⟨lo,es⟩) H olo |>.sw2.sw1) rfl rfl rfl rfl rfl (by omega) (by omega) fun w' h7 H=>?_
   simp -implicitDefEqProofs (disch:=first|omega|(simp only[LnZ];omega))[wrap64,setC,H.rep.one,H.rep.cells]
   refine hJ (i-1) _ _ (by omega) ⟨ps++[⟨lo,es⟩],w',p2,by simp;omega,H.under fun _ H=>H.sw1,by simp;omega,?_,by omega,by omega⟩
   intro x hx
   simp only[List.mem_append,List.mem_singleton] at hx
   rcases hx with hx | rfl
   ·exact hps x hx
   ·exact⟨by dsimp only;omega,hes⟩
 ·have c0':¬((0:Int)<i):=by omega
  simp -implicitDefEqProofs (disch:=first|omega|(simp only[LnZ];omega))[wrap64,c0,c0',setC,hOi,hCi,hOw,hCw]
  exact RetK.keep (hk _ _ ⟨⟨[r1,r2,0],ps⟩,p1,HS.mkSy (s:=⟨[r1,r2,0],ps⟩) H.sw1,⟨by simp,by dsimp only;omega,hps⟩,by omega,by omega⟩)
theorem c_l2CopyB {h:Heap}{v:Value}{s:Sy}{n:Nat}(R:Rep h v s) (hs:s.Sm n) (hn:n≤1000):CallE Try.prog fn_spec_l2Copy [v] h (fun u h'=>∃y:Sy,HS h [ow u y] h'∧y.Sm n∧y.procs.length=s.procs.length):=by
 obtain⟨v1,v2,rfl,R1,R2'⟩:=Rep_Sy.1 R
 have hil:=hs.il
 have hpl:=hs.pl
 have hO1:=R1.one
 have hO2:=R2'.one
 refine CallE.gen fun k hk=>EN_spec_l2Copy rfl ?_
 simp -implicitDefEqProofs (disch:=omega)[wrap64]
 refine HS.appPL (α:=Int) (l2:=s.init) HS.init rfl rfl R1 rfl rfl (by omega) fun wi h1 H=>?_
 simp -implicitDefEqProofs (disch:=first|omega|(simp only[LnZ];omega))[wrap64,setC,H.rep.one,H.rep.cells]
 refine wp_count s.procs.length (fun i e h'=>∃(ps:List Pr) (w:Value),e=[none,some (.agg #[v1,v2]),some (.agg #[.slice none 0 0,.slice none 0 0]),some (.agg #[wi,w]),some (.int .i64 i),none,none,none]∧HS h [ow w ps,ow wi s.init] h'∧ps.length=i∧∀x∈ps,x.Sm n) ⟨[],.slice none 0 0,by simp,H.nil_ow,rfl,by simp⟩ ?_
 clear H
 rintro J i _ h2 hJ hi ⟨ps,w,rfl,H,hpsl,hps⟩
 have hOi:=H.sw1.rep.one
 have hCi:=H.sw1.rep.cells
 have hOw:=H.rep.one
 have hCw:=H.rep.cells
 simp -implicitDefEqProofs (disch:=first|omega|(simp only[LnZ];omega))[wrap64,(R2'.on H).len]
 refine IteW.mk (fun hlt=>?_) (fun hge=>?_)
 ·have hi:i<s.procs.length:=by omega
  have hpi:=hs.pp _ (List.getElem_mem hi)
  have hel:=hpi.el
  obtain⟨u,hu,Ru⟩:=R2'.ld hi
  change hload _ (some (elp 2 v2 i)) (some 2)=some u at hu
  obtain⟨we,rfl,k1,R3⟩:=Rep_Pr.1 Ru
  have hP:∀{h'},h.le h'→_:=fun {h'}(hl:h.le h')=>hld_parts (hload_le hl hu)
  have hP1:=(hP H.base).1
  have hP2:=(hP H.base).2.2.1
  simp -implicitDefEqProofs (disch:=first|omega|(simp only[LnZ];omega))[wrap64,R2'.X (n:=2) rfl,hP1,hP2,setC]
  refine wp_count s.procs[i].edges.length (fun k e h'=>∃(es:List Ed) (wp:Value),e=[none,some (.agg #[v1,v2]),some (.agg #[.slice none 0 0,.slice none 0 0]),some (.agg #[wi,w]),some (.int .i64 i),some (.agg #[.int .i64 s.procs[i].locs,wp]),some (.int .i64 k),none]∧HS h [ow wp es,ow w ps,ow wi s.init] h'∧es.length=k∧∀x∈es,x.Sm n) ⟨[],.slice none 0 0,by simp,H.nil_ow,rfl,by simp⟩ ?_
  clear H hP1 hP2
  rintro J2 k2 _ h3 hJ2 hk2 ⟨es,wp,rfl,H,hesl,hes⟩
  have hP1:=(hP H.base).1
  have hP2:=(hP H.base).2.2.1
  simp -implicitDefEqProofs (disch:=first|omega|(simp only[LnZ];omega))[wrap64,R2'.X (n:=2) rfl,hP1,hP2,R3.len]
  refine IteW.mk (fun hlt2=>?_) (fun hge2=>?_)
  ·have hk2:k2<s.procs[i].edges.length:=by omega
   have hek:=hpi.ee _ (List.getElem_mem hk2)
   obtain⟨u2,hu2,Ru2⟩:=R3.ld hk2
   have hu2:=hload_le H.base hu2
   change hload _ (some (elp 10 we k2)) (some 10)=some u2 at hu2
   obtain⟨w1,w2,rfl,ok,G1,G2⟩:=Rep_Ed.1 Ru2
   have hF1:=G1.one
   have hF2:=G2.one
   have hF3:=G1.cells
   have hF4:=G2.cells
   simp -implicitDefEqProofs (disch:=first|omega|(simp only[LnZ];omega))[wrap64,R2'.X (n:=2) rfl,hP1,hP2,R3.X (n:=10) rfl,hu2,Ed.cs,setC,hF1,hF2]
   refine (c_l1SubstB _ ((Rep.gd (w2:=w2) ok G1).on H) (by have:=hek.g;omega)).go ?_
   rintro _ h4 ⟨gu,G,hgn⟩
   obtain⟨wg,rfl,kg1,kg2,G'⟩:=G.unExq
   have hOg:=G'.rep.one
   have hCg:=G'.rep.cells
   have H:=G'.app H
   simp -implicitDefEqProofs (disch:=first|omega|(simp only[LnZ];omega))[wrap64,setC,hF1,hF2,hOg,hCg]
   refine (c_l1SubstB _ ((Rep.vl ok G2).on H) (by have:=hek.v;omega)).go ?_
   rintro _ h4 ⟨va,G,hvn⟩
   obtain⟨wv,rfl,kv1,kv2,G'⟩:=G.unExq
   have hOv:=G'.rep.one
   have hCv:=G'.rep.cells
   have H:=G'.app H
   simp -implicitDefEqProofs (disch:=first|omega|(simp only[LnZ];omega))[wrap64,setC,hF1,hF2,hOg,hCg,hOv,hCv]
   have H:=HS.mkEd (e:=⟨s.procs[i].edges[k2].frm,s.procs[i].edges[k2].to,gu,s.procs[i].edges[k2].var,va,s.procs[i].edges[k2].sync⟩) H.sw1 ⟨ok.frm,ok.to,kg1,kg2,ok.var,kv1,kv2,ok.sync⟩
   refine HS.appO (bytes:=112) H rfl rfl rfl rfl rfl (by omega) (by omega) fun we' h7 H=>?_
   simp -implicitDefEqProofs (disch:=first|omega|(simp only[LnZ];omega))[wrap64,setC,H.rep.one,H.rep.cells]
   refine hJ2 _ _ hk2 ⟨_,we',by simp,H,by simp[hesl],?_⟩
   intro x hx
   simp only[List.mem_append,List.mem_singleton] at hx
   rcases hx with hx | rfl
   ·exact hes x hx
   ·exact⟨by have:=hek.g;dsimp only;omega,by have:=hek.v;dsimp only;omega⟩
  ·have hOe:=H.rep.one
   have hCe:=H.rep.cells
   simp -implicitDefEqProofs (disch:=first|omega|(simp only[LnZ];omega))[wrap64,setC,hOe,hCe,hOw,hCw,hOi,hCi]
   refine HS.appO (bytes:=32) (HS.mkPr (p:=⟨s.procs[i].locs,es⟩) H k1) rfl rfl rfl rfl rfl (by omega) (by omega) fun w' h7 H=>?_
   simp -implicitDefEqProofs (disch:=first|omega|(simp only[LnZ];omega))[wrap64,setC,H.rep.one,H.rep.cells,hOi,hCi]
   refine hJ _ _ hi ⟨_,w',by simp,H,by simp[hpsl],?_⟩
   intro x hx
   simp only[List.mem_append,List.mem_singleton] at hx
   rcases hx with hx | rfl
   ·exact hps x hx
   ·exact⟨by dsimp only;omega,hes⟩
 ·simp -implicitDefEqProofs (disch:=first|omega|(simp only[LnZ];omega))[wrap64,setC,hOi,hCi,hOw,hCw]
  exact RetK.keep (hk _ _ ⟨⟨s.init,ps⟩,HS.mkSy (s:=⟨s.init,ps⟩) H.sw1,⟨hs.il,by dsimp only;omega,hps⟩,by dsimp only;omega⟩)
theorem Ed.Sm.le {n m:Nat}{e:Ed}(h:e.Sm n) (hn:n≤m):e.Sm m:=⟨by have:=h.g;omega,by have:=h.v;omega⟩
theorem Pr.Sm.le {n m:Nat}{p:Pr}(h:p.Sm n) (hn:n≤m):p.Sm m:=⟨by have:=h.el;omega,fun e he=>(h.ee e he).le hn⟩
theorem Sy.Sm.le {n m:Nat}{s:Sy}(h:s.Sm n) (hn:n≤m):s.Sm m:=⟨by have:=h.il;omega,by have:=h.pl;omega,fun p hp=>(h.pp p hp).le hn⟩
theorem Sy.Sm.set {n:Nat}{s:Sy}(h:s.Sm n) {i:Nat}(hi:i<s.procs.length) (he:0<s.procs[i].edges.length) {e:Ed}(hs:e.Sm n):Sy.Sm n ⟨s.init,s.procs.set i ⟨s.procs[i].locs,s.procs[i].edges.set 0 e⟩⟩:=by
 refine⟨h.il,by simpa using h.pl,fun p hp=>?_⟩
 rcases List.mem_or_eq_of_mem_set hp with h1 | rfl
 ·exact h.pp p h1
 ·have h2:=h.pp _ (List.getElem_mem hi)
  refine⟨by simpa using h2.el,fun x hx=>?_⟩
  rcases List.mem_or_eq_of_mem_set hx with h3 | rfl
  ·exact h2.ee x h3
  ·exact hs
set_option maxHeartbeats 2000000 in
theorem c_l2Mutate {g h:Heap}{Γ:List HP}{b n:Nat}{sl v:Value}{l:List (BitVec 8)}{p:Int}{s:Sy}(R:Rep g sl l) (Rs:Rep g v s) (hs:s.Sm n) (hn:40≤n) (hn2:n≤900) (H:HS g (rb b sl p::Γ) h) (hp:0≤p) (hp2:p+200≤1000000000000) :
  CallE Try.prog fn_spec_l2Mutate [.pointer (some ⟨b,0,none⟩),v] h (fun u h'=>∃(y:Sy) (p':Int),HS g (ow u y::rb b sl p'::Γ) h'∧y.Sm (n+1)∧p≤p'∧p'≤p+100):=by
 have FS:=Rs.aSy
 have Rs0:=Rs
 obtain⟨v1,v2,rfl,R1,R2'⟩:=Rep_Sy.1 Rs
 have hspl:=hs.pl
 refine CallE.gen fun k hk=>EN_spec_l2Mutate rfl ?_
 simp -implicitDefEqProofs (disch:=first|omega|(simp only[LnZ];omega))[wrap64,FS]
 refine (c_l2CopyB (Rs0.on H) hs (by omega)).go ?_
 rintro _ h1 ⟨y,G,hyn,hypl⟩
 obtain⟨wi,w,rfl,G'⟩:=G.unSy
 have H:=G'.app H
 have hy:=hyn.le (show n≤n+1 by omega)
 have hyil:=hyn.il
 have hOi:=H.rep.one
 have hCi:=H.rep.cells
 have hOw:=H.sw1.rep.one
 have hCw:=H.sw1.rep.cells
 have hL2:=(R2'.on H).len
 simp -implicitDefEqProofs (disch:=first|omega|(simp only[LnZ];omega))[wrap64,setC,hOi,hCi,hOw,hCw,hL2]
 have H:=H.sw2
 refine (c_pick R H (by omega) (by omega) ⟨by omega,by omega⟩).go ?_
 rintro _ h2 ⟨r,rfl,o0,z0,y0,H⟩
 have y0:=y0 (by omega)
 obtain⟨p1,hp1⟩:∃p1,p1=p+1:=⟨_,rfl⟩
 rw[← hp1] at H
 have hL2:=(R2'.on H).len
 by_cases q0:r=s.procs.length
 ·simp -implicitDefEqProofs (disch:=first|omega|(simp only[LnZ];omega))[wrap64,hL2,q0]
  refine (c_pick (n:=50) R H (by omega) (by omega) ⟨by decide,by decide⟩).go ?_
  rintro _ h3 ⟨r6,rfl,o6,z6,y6,H⟩
  by_cases c0:r6=0
  ·simp -implicitDefEqProofs (disch:=first|omega|(simp only[LnZ];omega))[wrap64,c0,setC]
   refine HS.app1 (bytes:=8) H.sw1 (0:Int) rfl rfl rfl ⟨by decide,by decide⟩ rfl rfl (by omega) (by omega) fun wi' h5 H=>?_
   simp -implicitDefEqProofs (disch:=first|omega|(simp only[LnZ];omega))[wrap64,setC,H.rep.one,H.rep.cells,hOw,hCw]
   exact RetK.keep (hk _ _ ⟨⟨y.init++[0],y.procs⟩,_,HS.mkSy (s:=⟨y.init++[0],y.procs⟩) (H.under fun _ H=>H.sw1),⟨by have:=hyn.il;simp;omega,hy.pl,hy.pp⟩,by omega,by omega⟩)
  by_cases c1:r6=1
  ·simp -implicitDefEqProofs (disch:=first|omega|(simp only[LnZ];omega))[wrap64,c0,c1]
   refine H.bls [(0:Int),1,4,5] rfl rfl (okL (by decide)) (by decide) fun q hq H=>?_
   simp -implicitDefEqProofs (disch:=omega)[wrap64]
   refine (c_num R H (by omega) (by omega) (by simp)).go ?_
   rintro _ h4 ⟨r7,rfl,o7,_,H⟩
   simp -implicitDefEqProofs (disch:=first|omega|(simp only[LnZ];omega))[wrap64,setC]
   have H:=HS.mkPr (p:=⟨r7,[]⟩) (H.nil_ow (α:=Ed)) o7
   refine HS.appO (bytes:=32) (H.sw3.sw1) rfl rfl rfl rfl rfl (by omega) (by omega) fun w' h7 H=>?_
   simp -implicitDefEqProofs (disch:=first|omega|(simp only[LnZ];omega))[wrap64,setC,hOi,hCi,H.rep.one,H.rep.cells]
   refine RetK.keep (hk _ _ ⟨_,_,HS.mkSy (s:=⟨y.init,y.procs++[⟨r7,[]⟩]⟩) H.sw2,⟨hy.il,by have:=hyn.pl;simp;omega,?_⟩,by omega,by omega⟩)
   intro x hx
   simp only[List.mem_append,List.mem_singleton] at hx
   rcases hx with hx | rfl
   ·exact hy.pp x hx
   ·exact⟨by simp,by simp⟩
  by_cases c2:r6=2
  ·simp -implicitDefEqProofs (disch:=first|omega|(simp only[LnZ];omega))[wrap64,c0,c1,c2,setC,hOi,hCi,hOw,hCw]
   exact RetK.keep (hk _ _ ⟨y,_,HS.mkSy H.sw2.sw2,hy,by omega,by omega⟩)
  by_cases c3:r6=3
  ·simp -implicitDefEqProofs (disch:=first|omega|(simp only[LnZ];omega))[wrap64,c0,c1,c2,c3,setC,hOi,hCi,hOw,hCw]
   exact RetK.keep (hk _ _ ⟨y,_,HS.mkSy H.sw2.sw2,hy,by omega,by omega⟩)
  by_cases c4:r6=4
  ·simp -implicitDefEqProofs (disch:=first|omega|(simp only[LnZ];omega))[wrap64,c0,c1,c2,c3,c4,setC,hOi,hCi,hOw,hCw]
   exact RetK.keep (hk _ _ ⟨y,_,HS.mkSy H.sw2.sw2,hy,by omega,by omega⟩)
  by_cases c5:r6=5
  ·simp -implicitDefEqProofs (disch:=first|omega|(simp only[LnZ];omega))[wrap64,c0,c1,c2,c3,c4,c5,setC,hOi,hCi,hOw,hCw]
   exact RetK.keep (hk _ _ ⟨y,_,HS.mkSy H.sw2.sw2,hy,by omega,by omega⟩)
  by_cases c6:r6=6
  ·simp -implicitDefEqProofs (disch:=first|omega|(simp only[LnZ];omega))[wrap64,c0,c1,c2,c3,c4,c5,c6,setC]
   exact RetK.keep (hk _ _ ⟨⟨[],[]⟩,p1+1,HS.mkSy (s:=⟨[],[]⟩) (H.sw2.drop.sw1.drop.nil_ow.nil_ow),⟨by simp,by simp,by simp⟩,by omega,by omega⟩)
  ·simp -implicitDefEqProofs (disch:=first|omega|(simp only[LnZ];omega))[wrap64,c0,c1,c2,c3,c4,c5,c6,setC,hOi,hCi,hOw,hCw]
   exact RetK.keep (hk _ _ ⟨y,_,HS.mkSy H.sw2.sw2,hy,by omega,by omega⟩)
 obtain⟨i,rfl⟩:∃i:Nat,r=i:=⟨r.toNat,(Int.toNat_of_nonneg z0).symm⟩
 have hi:i<y.procs.length:=by omega
 have hpi:=hyn.pp _ (List.getElem_mem hi)
 obtain⟨u,hu,Ru⟩:=H.sw2.rep.ld hi
 change hload _ (some (elp 2 w i)) (some 2)=some u at hu
 obtain⟨we,rfl,kl,R3⟩:=Rep_Pr.1 Ru
 have hP:=hld_parts (cs:=[.int .i64 y.procs[i].locs,we]) hu
 obtain⟨ln,hln⟩:∃ln:Int,ln=y.procs[i].edges.length:=⟨_,rfl⟩
 have hlen:=R3.len
 rw[← hln] at hlen
 have hX:=H.sw2.rep.X (n:=2) rfl
 by_cases q1:ln=0
 ·simp -implicitDefEqProofs (disch:=first|omega|(simp only[LnZ];omega))[wrap64,hL2,q0,hX,hP.1,hP.2.2.1,hlen,q1]
  refine (c_pick (n:=50) R H (by omega) (by omega) ⟨by decide,by decide⟩).go ?_
  rintro _ h3 ⟨r6,rfl,o6,z6,y6,H⟩
  by_cases c0:r6=0
  ·simp -implicitDefEqProofs (disch:=first|omega|(simp only[LnZ];omega))[wrap64,c0,setC]
   refine HS.app1 (bytes:=8) H.sw1 (0:Int) rfl rfl rfl ⟨by decide,by decide⟩ rfl rfl (by omega) (by omega) fun wi' h5 H=>?_
   simp -implicitDefEqProofs (disch:=first|omega|(simp only[LnZ];omega))[wrap64,setC,H.rep.one,H.rep.cells,hOw,hCw]
   exact RetK.keep (hk _ _ ⟨⟨y.init++[0],y.procs⟩,_,HS.mkSy (s:=⟨y.init++[0],y.procs⟩) (H.under fun _ H=>H.sw1),⟨by have:=hyn.il;simp;omega,hy.pl,hy.pp⟩,by omega,by omega⟩)
  by_cases c1:r6=1
  ·simp -implicitDefEqProofs (disch:=first|omega|(simp only[LnZ];omega))[wrap64,c0,c1]
   refine H.bls [(0:Int),1,4,5] rfl rfl (okL (by decide)) (by decide) fun q hq H=>?_
   simp -implicitDefEqProofs (disch:=omega)[wrap64]
   refine (c_num R H (by omega) (by omega) (by simp)).go ?_
   rintro _ h4 ⟨r7,rfl,o7,_,H⟩
   simp -implicitDefEqProofs (disch:=first|omega|(simp only[LnZ];omega))[wrap64,setC]
   have H:=HS.mkPr (p:=⟨r7,[]⟩) (H.nil_ow (α:=Ed)) o7
   refine HS.appO (bytes:=32) (H.sw3.sw1) rfl rfl rfl rfl rfl (by omega) (by omega) fun w' h7 H=>?_
   simp -implicitDefEqProofs (disch:=first|omega|(simp only[LnZ];omega))[wrap64,setC,hOi,hCi,H.rep.one,H.rep.cells]
   refine RetK.keep (hk _ _ ⟨_,_,HS.mkSy (s:=⟨y.init,y.procs++[⟨r7,[]⟩]⟩) H.sw2,⟨hy.il,by have:=hyn.pl;simp;omega,?_⟩,by omega,by omega⟩)
   intro x hx
   simp only[List.mem_append,List.mem_singleton] at hx
   rcases hx with hx | rfl
   ·exact hy.pp x hx
   ·exact⟨by simp,by simp⟩
  by_cases c2:r6=2
  ·simp -implicitDefEqProofs (disch:=first|omega|(simp only[LnZ];omega))[wrap64,c0,c1,c2,setC,hOi,hCi,hOw,hCw]
   exact RetK.keep (hk _ _ ⟨y,_,HS.mkSy H.sw2.sw2,hy,by omega,by omega⟩)
  by_cases c3:r6=3
  ·simp -implicitDefEqProofs (disch:=first|omega|(simp only[LnZ];omega))[wrap64,c0,c1,c2,c3,setC,hOi,hCi,hOw,hCw]
   exact RetK.keep (hk _ _ ⟨y,_,HS.mkSy H.sw2.sw2,hy,by omega,by omega⟩)
  by_cases c4:r6=4
  ·simp -implicitDefEqProofs (disch:=first|omega|(simp only[LnZ];omega))[wrap64,c0,c1,c2,c3,c4,setC,hOi,hCi,hOw,hCw]
   exact RetK.keep (hk _ _ ⟨y,_,HS.mkSy H.sw2.sw2,hy,by omega,by omega⟩)
  by_cases c5:r6=5
  ·simp -implicitDefEqProofs (disch:=first|omega|(simp only[LnZ];omega))[wrap64,c0,c1,c2,c3,c4,c5,setC,hOi,hCi,hOw,hCw]
   exact RetK.keep (hk _ _ ⟨y,_,HS.mkSy H.sw2.sw2,hy,by omega,by omega⟩)
  by_cases c6:r6=6
  ·simp -implicitDefEqProofs (disch:=first|omega|(simp only[LnZ];omega))[wrap64,c0,c1,c2,c3,c4,c5,c6,setC]
   exact RetK.keep (hk _ _ ⟨⟨[],[]⟩,p1+1,HS.mkSy (s:=⟨[],[]⟩) (H.sw2.drop.sw1.drop.nil_ow.nil_ow),⟨by simp,by simp,by simp⟩,by omega,by omega⟩)
  ·simp -implicitDefEqProofs (disch:=first|omega|(simp only[LnZ];omega))[wrap64,c0,c1,c2,c3,c4,c5,c6,setC,hOi,hCi,hOw,hCw]
   exact RetK.keep (hk _ _ ⟨y,_,HS.mkSy H.sw2.sw2,hy,by omega,by omega⟩)
 have he:0<y.procs[i].edges.length:=by omega
 have hek:=hpi.ee _ (List.getElem_mem he)
 have heg:y.procs[i].edges[0].guard.nod≤n+1:=by have:=hek.g;omega
 have hev:y.procs[i].edges[0].value.nod≤n+1:=by have:=hek.v;omega
 simp -implicitDefEqProofs (disch:=first|omega|(simp only[LnZ];omega))[wrap64,hL2,q0,hX,hP.1,hP.2.2.1,hlen,q1]
 refine (c_pick (n:=50) R H (by omega) (by omega) ⟨by decide,by decide⟩).go ?_
 rintro _ h3 ⟨r6,rfl,o6,z6,y6,H⟩
 by_cases c0:r6=0
 ·simp -implicitDefEqProofs (disch:=first|omega|(simp only[LnZ];omega))[wrap64,c0,setC]
  refine HS.app1 (bytes:=8) H.sw1 (0:Int) rfl rfl rfl ⟨by decide,by decide⟩ rfl rfl (by omega) (by omega) fun wi' h5 H=>?_
  simp -implicitDefEqProofs (disch:=first|omega|(simp only[LnZ];omega))[wrap64,setC,H.rep.one,H.rep.cells,hOw,hCw]
  exact RetK.keep (hk _ _ ⟨⟨y.init++[0],y.procs⟩,_,HS.mkSy (s:=⟨y.init++[0],y.procs⟩) (H.under fun _ H=>H.sw1),⟨by have:=hyn.il;simp;omega,hy.pl,hy.pp⟩,by omega,by omega⟩)
 by_cases c1:r6=1
 ·simp -implicitDefEqProofs (disch:=first|omega|(simp only[LnZ];omega))[wrap64,c0,c1]
  refine H.bls [(0:Int),1,4,5] rfl rfl (okL (by decide)) (by decide) fun q hq H=>?_
  simp -implicitDefEqProofs (disch:=omega)[wrap64]
  refine (c_num R H (by omega) (by omega) (by simp)).go ?_
  rintro _ h4 ⟨r7,rfl,o7,_,H⟩
  simp -implicitDefEqProofs (disch:=first|omega|(simp only[LnZ];omega))[wrap64,setC]
  have H:=HS.mkPr (p:=⟨r7,[]⟩) (H.nil_ow (α:=Ed)) o7
  refine HS.appO (bytes:=32) (H.sw3.sw1) rfl rfl rfl rfl rfl (by omega) (by omega) fun w' h7 H=>?_
  simp -implicitDefEqProofs (disch:=first|omega|(simp only[LnZ];omega))[wrap64,setC,hOi,hCi,H.rep.one,H.rep.cells]
  refine RetK.keep (hk _ _ ⟨_,_,HS.mkSy (s:=⟨y.init,y.procs++[⟨r7,[]⟩]⟩) H.sw2,⟨hy.il,by have:=hyn.pl;simp;omega,?_⟩,by omega,by omega⟩)
  intro x hx
  simp only[List.mem_append,List.mem_singleton] at hx
  rcases hx with hx | rfl
  ·exact hy.pp x hx
  ·exact⟨by simp,by simp⟩
 by_cases c2:r6=2
 ·have H:=H.sw2
  obtain⟨uP,huP,H⟩:=HS.take H hi
  obtain⟨we,rfl,kl,H⟩:=H.unPr
  obtain⟨uE,huE,H⟩:=HS.take H he
  obtain⟨x1,x2,rfl,ok,H⟩:=H.unEd
  have hiaP:=HS.holeia H.sw3 (n:=2) (kd:=.i64) rfl hi
  have hPP:=hld_parts (cs:=[.int .i64 y.procs[i].locs,we]) (HS.holeP H.sw3 (n:=2) rfl rfl)
  have hiaE:iaV 10 we (.int .i64 0)=some (elp 10 we 0):=HS.holeia H.sw2 (n:=10) (kd:=.i64) rfl he
  have H:=H.sw4
  simp -implicitDefEqProofs (disch:=first|omega|(simp only[LnZ];omega))[wrap64,c0,c1,c2,hiaP,hPP.1,hPP.2.2.1,hiaE]
  refine (c_l1Expr R H (by omega) (by omega)).go ?_
  rintro _ h4 ⟨e1,p3,H,hen,hp5,hp6⟩
  have FA:=H.rep.aExq
  have hPP:=hld_parts (cs:=[.int .i64 y.procs[i].locs,we]) (HS.holeP H.sw5 (n:=2) rfl rfl)
  simp -implicitDefEqProofs (disch:=first|omega|(simp only[LnZ];omega))[wrap64,hiaP,hPP.1,hPP.2.2.1,hiaE,FA]
  obtain⟨g1,H1,H2⟩:=HS.rebase (Δ:=[rb b sl p3]) H.sw1
  refine (c_l1Mutate (R.on H1) H1.rep (by omega) H2 (by omega) (by omega)).go ?_
  rintro _ h5 ⟨y2,p4,H3,hyn,hp7,hp8⟩
  have H:=H3.app H1
  obtain⟨w2,rfl,k3,k4,H⟩:=H.unExq
  have hO2:=H.rep.one
  have hPP:=hld_parts (cs:=[.int .i64 y.procs[i].locs,we]) (HS.holeP H.sw6 (n:=2) rfl rfl)
  have hPE:=hld_parts (HS.holeP H.sw5 (n:=10) rfl rfl)
  simp -implicitDefEqProofs (disch:=first|omega|(simp only[LnZ];omega))[wrap64,hiaP,hPP.1,hPP.2.2.1,hiaE,hPE.1]
  refine HS.holest H.sw5 rfl (n:=10) rfl rfl rfl rfl (by simp[hO2]) (by decide) fun h5 H=>?_
  have H:HS g (hole we y.procs[i].edges 0 (.agg (Ed.cs ⟨y.procs[i].edges[0].frm,y.procs[i].edges[0].to,y2,y.procs[i].edges[0].var,y.procs[i].edges[0].value,y.procs[i].edges[0].sync⟩ w2 x2).toArray)::ow w2 y2.kids::rb b sl p4::ow _ e1::ow x1 y.procs[i].edges[0].guard.kids::ow x2 y.procs[i].edges[0].value.kids::hole w y.procs i (.agg #[.int .i64 y.procs[i].locs,we])::ow wi y.init::Γ) h5:=H
  have H:=HS.put (HS.mkEd (e:=⟨y.procs[i].edges[0].frm,y.procs[i].edges[0].to,y2,y.procs[i].edges[0].var,y.procs[i].edges[0].value,y.procs[i].edges[0].sync⟩) H.sw5.sw2 ⟨ok.frm,ok.to,k3,k4,ok.var,ok.vk,ok.vv,ok.sync⟩)
  have H:=HS.put ((HS.mkPr (p:=⟨y.procs[i].locs,y.procs[i].edges.set 0 ⟨y.procs[i].edges[0].frm,y.procs[i].edges[0].to,y2,y.procs[i].edges[0].var,y.procs[i].edges[0].value,y.procs[i].edges[0].sync⟩⟩) H kl).under fun _ H=>H.sw3)
  have hOi:=H.sw4.rep.one
  have hCi:=H.sw4.rep.cells
  have hOw:=H.rep.one
  have hCw:=H.rep.cells
  simp -implicitDefEqProofs (disch:=first|omega|(simp only[LnZ];omega))[wrap64,setC,hOi,hCi,hOw,hCw]
  exact RetK.keep (hk _ _ ⟨_,_,(HS.mkSy (s:=⟨y.init,y.procs.set i ⟨y.procs[i].locs,y.procs[i].edges.set 0 ⟨y.procs[i].edges[0].frm,y.procs[i].edges[0].to,y2,y.procs[i].edges[0].var,y.procs[i].edges[0].value,y.procs[i].edges[0].sync⟩⟩⟩) H.sw4).sw3.drop.sw2.drop,Sy.Sm.set hy hi he ⟨by first | omega | (dsimp only;omega),hev⟩,by omega,by omega⟩)
 by_cases c3:r6=3
 ·have H:=H.sw2
  obtain⟨uP,huP,H⟩:=HS.take H hi
  obtain⟨we,rfl,kl,H⟩:=H.unPr
  obtain⟨uE,huE,H⟩:=HS.take H he
  obtain⟨x1,x2,rfl,ok,H⟩:=H.unEd
  have hiaP:=HS.holeia H.sw3 (n:=2) (kd:=.i64) rfl hi
  have hPP:=hld_parts (cs:=[.int .i64 y.procs[i].locs,we]) (HS.holeP H.sw3 (n:=2) rfl rfl)
  have hiaE:iaV 10 we (.int .i64 0)=some (elp 10 we 0):=HS.holeia H.sw2 (n:=10) (kd:=.i64) rfl he
  simp -implicitDefEqProofs (disch:=first|omega|(simp only[LnZ];omega))[wrap64,c0,c1,c2,c3,hiaP,hPP.1,hPP.2.2.1,hiaE]
  refine H.bls [(-1:Int),3,0,-2] rfl rfl (okL (by decide)) (by decide) fun q hq H=>?_
  have H:=H.sw5.sw1
  have hPP:=hld_parts (cs:=[.int .i64 y.procs[i].locs,we]) (HS.holeP H.sw5 (n:=2) rfl rfl)
  simp -implicitDefEqProofs (disch:=first|omega|(simp only[LnZ];omega))[wrap64,hiaP,hPP.1,hPP.2.2.1,hiaE]
  refine (c_num R H (by omega) (by omega) (by simp)).go ?_
  rintro _ h4 ⟨r7,rfl,o7,_,H⟩
  have hPP:=hld_parts (cs:=[.int .i64 y.procs[i].locs,we]) (HS.holeP H.sw4 (n:=2) rfl rfl)
  have hPE:=hld_parts (HS.holeP H.sw3 (n:=10) rfl rfl)
  simp -implicitDefEqProofs (disch:=first|omega|(simp only[LnZ];omega))[wrap64,hiaP,hPP.1,hPP.2.2.1,hiaE,hPE.1]
  refine HS.holest H.sw3 rfl (n:=10) rfl rfl rfl rfl rfl (by decide) fun h5 H=>?_
  have H:HS g (hole we y.procs[i].edges 0 (.agg (Ed.cs ⟨y.procs[i].edges[0].frm,y.procs[i].edges[0].to,y.procs[i].edges[0].guard,r7,y.procs[i].edges[0].value,y.procs[i].edges[0].sync⟩ x1 x2).toArray)::rb b sl (p1+1+1)::ow x1 y.procs[i].edges[0].guard.kids::ow x2 y.procs[i].edges[0].value.kids::hole w y.procs i (.agg #[.int .i64 y.procs[i].locs,we])::ow wi y.init::Γ) h5:=H
  have H:=HS.put (HS.mkEd (e:=⟨y.procs[i].edges[0].frm,y.procs[i].edges[0].to,y.procs[i].edges[0].guard,r7,y.procs[i].edges[0].value,y.procs[i].edges[0].sync⟩) H.sw3.sw3 ⟨ok.frm,ok.to,ok.gk,ok.gv,o7,ok.vk,ok.vv,ok.sync⟩)
  have H:=HS.put ((HS.mkPr (p:=⟨y.procs[i].locs,y.procs[i].edges.set 0 ⟨y.procs[i].edges[0].frm,y.procs[i].edges[0].to,y.procs[i].edges[0].guard,r7,y.procs[i].edges[0].value,y.procs[i].edges[0].sync⟩⟩) H kl).under fun _ H=>H.sw1)
  have hOi:=H.sw2.rep.one
  have hCi:=H.sw2.rep.cells
  have hOw:=H.rep.one
  have hCw:=H.rep.cells
  simp -implicitDefEqProofs (disch:=first|omega|(simp only[LnZ];omega))[wrap64,setC,hOi,hCi,hOw,hCw]
  exact RetK.keep (hk _ _ ⟨_,_,HS.mkSy (s:=⟨y.init,y.procs.set i ⟨y.procs[i].locs,y.procs[i].edges.set 0 ⟨y.procs[i].edges[0].frm,y.procs[i].edges[0].to,y.procs[i].edges[0].guard,r7,y.procs[i].edges[0].value,y.procs[i].edges[0].sync⟩⟩⟩) H.sw2,Sy.Sm.set hy hi he ⟨heg,hev⟩,by omega,by omega⟩)
 by_cases c4:r6=4
 ·have H:=H.sw2
  obtain⟨uP,huP,H⟩:=HS.take H hi
  obtain⟨we,rfl,kl,H⟩:=H.unPr
  obtain⟨uE,huE,H⟩:=HS.take H he
  obtain⟨x1,x2,rfl,ok,H⟩:=H.unEd
  have hiaP:=HS.holeia H.sw3 (n:=2) (kd:=.i64) rfl hi
  have hPP:=hld_parts (cs:=[.int .i64 y.procs[i].locs,we]) (HS.holeP H.sw3 (n:=2) rfl rfl)
  have hiaE:iaV 10 we (.int .i64 0)=some (elp 10 we 0):=HS.holeia H.sw2 (n:=10) (kd:=.i64) rfl he
  simp -implicitDefEqProofs (disch:=first|omega|(simp only[LnZ];omega))[wrap64,c0,c1,c2,c3,c4,hiaP,hPP.1,hPP.2.2.1,hiaE]
  refine H.bls [(3:Int),-3,2,-9223372036854775808] rfl rfl (okL (by decide)) (by decide) fun q hq H=>?_
  have H:=H.sw5.sw1
  have hPP:=hld_parts (cs:=[.int .i64 y.procs[i].locs,we]) (HS.holeP H.sw5 (n:=2) rfl rfl)
  simp -implicitDefEqProofs (disch:=first|omega|(simp only[LnZ];omega))[wrap64,hiaP,hPP.1,hPP.2.2.1,hiaE]
  refine (c_num R H (by omega) (by omega) (by simp)).go ?_
  rintro _ h4 ⟨r7,rfl,o7,_,H⟩
  have hPP:=hld_parts (cs:=[.int .i64 y.procs[i].locs,we]) (HS.holeP H.sw4 (n:=2) rfl rfl)
  have hPE:=hld_parts (HS.holeP H.sw3 (n:=10) rfl rfl)
  simp -implicitDefEqProofs (disch:=first|omega|(simp only[LnZ];omega))[wrap64,hiaP,hPP.1,hPP.2.2.1,hiaE,hPE.1]
  refine HS.holest H.sw3 rfl (n:=10) rfl rfl rfl rfl rfl (by decide) fun h5 H=>?_
  have H:HS g (hole we y.procs[i].edges 0 (.agg (Ed.cs ⟨y.procs[i].edges[0].frm,y.procs[i].edges[0].to,y.procs[i].edges[0].guard,y.procs[i].edges[0].var,y.procs[i].edges[0].value,r7⟩ x1 x2).toArray)::rb b sl (p1+1+1)::ow x1 y.procs[i].edges[0].guard.kids::ow x2 y.procs[i].edges[0].value.kids::hole w y.procs i (.agg #[.int .i64 y.procs[i].locs,we])::ow wi y.init::Γ) h5:=H
  have H:=HS.put (HS.mkEd (e:=⟨y.procs[i].edges[0].frm,y.procs[i].edges[0].to,y.procs[i].edges[0].guard,y.procs[i].edges[0].var,y.procs[i].edges[0].value,r7⟩) H.sw3.sw3 ⟨ok.frm,ok.to,ok.gk,ok.gv,ok.var,ok.vk,ok.vv,o7⟩)
  have H:=HS.put ((HS.mkPr (p:=⟨y.procs[i].locs,y.procs[i].edges.set 0 ⟨y.procs[i].edges[0].frm,y.procs[i].edges[0].to,y.procs[i].edges[0].guard,y.procs[i].edges[0].var,y.procs[i].edges[0].value,r7⟩⟩) H kl).under fun _ H=>H.sw1)
  have hOi:=H.sw2.rep.one
  have hCi:=H.sw2.rep.cells
  have hOw:=H.rep.one
  have hCw:=H.rep.cells
  simp -implicitDefEqProofs (disch:=first|omega|(simp only[LnZ];omega))[wrap64,setC,hOi,hCi,hOw,hCw]
  exact RetK.keep (hk _ _ ⟨_,_,HS.mkSy (s:=⟨y.init,y.procs.set i ⟨y.procs[i].locs,y.procs[i].edges.set 0 ⟨y.procs[i].edges[0].frm,y.procs[i].edges[0].to,y.procs[i].edges[0].guard,y.procs[i].edges[0].var,y.procs[i].edges[0].value,r7⟩⟩⟩) H.sw2,Sy.Sm.set hy hi he ⟨heg,hev⟩,by omega,by omega⟩)
 by_cases c5:r6=5
 ·have H:=H.sw2
  obtain⟨uP,huP,H⟩:=HS.take H hi
  obtain⟨we,rfl,kl,H⟩:=H.unPr
  obtain⟨uE,huE,H⟩:=HS.take H he
  obtain⟨x1,x2,rfl,ok,H⟩:=H.unEd
  have hiaP:=HS.holeia H.sw3 (n:=2) (kd:=.i64) rfl hi
  have hPP:=hld_parts (cs:=[.int .i64 y.procs[i].locs,we]) (HS.holeP H.sw3 (n:=2) rfl rfl)
  have hiaE:iaV 10 we (.int .i64 0)=some (elp 10 we 0):=HS.holeia H.sw2 (n:=10) (kd:=.i64) rfl he
  simp -implicitDefEqProofs (disch:=first|omega|(simp only[LnZ];omega))[wrap64,c0,c1,c2,c3,c4,c5,hiaP,hPP.1,hPP.2.2.1,hiaE]
  refine H.bls [(-1:Int),4,0,9223372036854775807] rfl rfl (okL (by decide)) (by decide) fun q hq H=>?_
  have H:=H.sw5.sw1
  have hPP:=hld_parts (cs:=[.int .i64 y.procs[i].locs,we]) (HS.holeP H.sw5 (n:=2) rfl rfl)
  simp -implicitDefEqProofs (disch:=first|omega|(simp only[LnZ];omega))[wrap64,hiaP,hPP.1,hPP.2.2.1,hiaE]
  refine (c_num R H (by omega) (by omega) (by simp)).go ?_
  rintro _ h4 ⟨r7,rfl,o7,_,H⟩
  have hPP:=hld_parts (cs:=[.int .i64 y.procs[i].locs,we]) (HS.holeP H.sw4 (n:=2) rfl rfl)
  have hPE:=hld_parts (HS.holeP H.sw3 (n:=10) rfl rfl)
  simp -implicitDefEqProofs (disch:=first|omega|(simp only[LnZ];omega))[wrap64,hiaP,hPP.1,hPP.2.2.1,hiaE,hPE.1]
  refine HS.holest H.sw3 rfl (n:=10) rfl rfl rfl rfl rfl (by decide) fun h5 H=>?_
  have H:HS g (hole we y.procs[i].edges 0 (.agg (Ed.cs ⟨y.procs[i].edges[0].frm,r7,y.procs[i].edges[0].guard,y.procs[i].edges[0].var,y.procs[i].edges[0].value,y.procs[i].edges[0].sync⟩ x1 x2).toArray)::rb b sl (p1+1+1)::ow x1 y.procs[i].edges[0].guard.kids::ow x2 y.procs[i].edges[0].value.kids::hole w y.procs i (.agg #[.int .i64 y.procs[i].locs,we])::ow wi y.init::Γ) h5:=H
  have H:=HS.put (HS.mkEd (e:=⟨y.procs[i].edges[0].frm,r7,y.procs[i].edges[0].guard,y.procs[i].edges[0].var,y.procs[i].edges[0].value,y.procs[i].edges[0].sync⟩) H.sw3.sw3 ⟨ok.frm,o7,ok.gk,ok.gv,ok.var,ok.vk,ok.vv,ok.sync⟩)
  have H:=HS.put ((HS.mkPr (p:=⟨y.procs[i].locs,y.procs[i].edges.set 0 ⟨y.procs[i].edges[0].frm,r7,y.procs[i].edges[0].guard,y.procs[i].edges[0].var,y.procs[i].edges[0].value,y.procs[i].edges[0].sync⟩⟩) H kl).under fun _ H=>H.sw1)
  have hOi:=H.sw2.rep.one
  have hCi:=H.sw2.rep.cells
  have hOw:=H.rep.one
  have hCw:=H.rep.cells
  simp -implicitDefEqProofs (disch:=first|omega|(simp only[LnZ];omega))[wrap64,setC,hOi,hCi,hOw,hCw]
  exact RetK.keep (hk _ _ ⟨_,_,HS.mkSy (s:=⟨y.init,y.procs.set i ⟨y.procs[i].locs,y.procs[i].edges.set 0 ⟨y.procs[i].edges[0].frm,r7,y.procs[i].edges[0].guard,y.procs[i].edges[0].var,y.procs[i].edges[0].value,y.procs[i].edges[0].sync⟩⟩⟩) H.sw2,Sy.Sm.set hy hi he ⟨heg,hev⟩,by omega,by omega⟩)
 by_cases c6:r6=6
 ·simp -implicitDefEqProofs (disch:=first|omega|(simp only[LnZ];omega))[wrap64,c0,c1,c2,c3,c4,c5,c6,setC]
  exact RetK.keep (hk _ _ ⟨⟨[],[]⟩,p1+1,HS.mkSy (s:=⟨[],[]⟩) (H.sw2.drop.sw1.drop.nil_ow.nil_ow),⟨by simp,by simp,by simp⟩,by omega,by omega⟩)
 ·simp -implicitDefEqProofs (disch:=first|omega|(simp only[LnZ];omega))[wrap64,c0,c1,c2,c3,c4,c5,c6,setC,hOi,hCi,hOw,hCw]
  exact RetK.keep (hk _ _ ⟨y,_,HS.mkSy H.sw2.sw2,hy,by omega,by omega⟩)
theorem fm_tk {α β:Type}{f:α×Nat→List β}{l:List α}{i:Nat}(hi:i<l.length):(l.zipIdx.take (i+1)).flatMap f=(l.zipIdx.take i).flatMap f++f (l[i],i):=by
 rw[List.take_add_one,List.getElem?_eq_getElem (by simpa using hi),List.flatMap_append]
 simp
theorem fm_all {α β:Type}{f:α×Nat→List β}{l:List α}{i:Nat}(hi:l.length≤i):(l.zipIdx.take i).flatMap f=l.zipIdx.flatMap f:=by
 rw[List.take_of_length_le (by simpa using hi)]
theorem len_fm {α β:Type}{f:α→List β}{c:Nat}:∀{l:List α},(∀x∈l,(f x).length≤c)→(l.flatMap f).length≤l.length*c
 | [],_=>by simp
 | x::l,h=>by
  have h1:=len_fm (l:=l) fun y hy=>h y (by simp[hy])
  have h2:=h x (by simp)
  rw[List.flatMap_cons,List.length_append,List.length_cons,Nat.add_mul]
  omega
theorem len_fmz {α β:Type}{f:α×Nat→List β}{c:Nat}{l:List α}(h:∀(i:Nat) (hi:i<l.length),(f (l[i],i)).length≤c) (n:Nat):((l.zipIdx.take n).flatMap f).length≤l.length*c:=by
 have h1:((l.zipIdx.take n).flatMap f).length≤(l.zipIdx.take n).length*c:=len_fm fun x hx=>by
  have h2:=List.mem_of_mem_take hx
  rw[List.mem_zipIdx_iff_getElem?,List.getElem?_eq_some_iff] at h2
  obtain⟨h3,h4⟩:=h2
  have:=h x.2 h3
  rw[h4] at this
  exact this
 have h2:(l.zipIdx.take n).length*c≤l.length*c:=Nat.mul_le_mul_right _ (by simp;omega)
 omega
theorem mem_fmz {α β:Type}{f:α×Nat→List β}{l:List α}{t:β}:t∈l.zipIdx.flatMap f↔∃(i:Nat) (hi:i<l.length),t∈f (l[i],i):=by
 rw[List.mem_flatMap]
 constructor
 ·rintro⟨x,hx,ht⟩
  rw[List.mem_zipIdx_iff_getElem?,List.getElem?_eq_some_iff] at hx
  obtain⟨h3,h4⟩:=hx
  exact⟨x.2,h3,by rw[h4];exact ht⟩
 ·rintro⟨i,hi,ht⟩
  exact⟨(l[i],i),by rw[List.mem_zipIdx_iff_getElem?];simp[hi],ht⟩
def Ed.rdy (e:Ed) (st:Sta) (i:Nat):Bool:=decide (st.locs.getD i 0=e.frm∧e.guard.ev st.vals≠0)
def prt2 (st:Sta) (i k:Nat) (c:Int) (j:Nat) (x:Ed×Nat):List Stp:=if j≠i∧x.1.sync = -c∧x.1.rdy st j=true then [⟨i,k,j,x.2⟩] else []
def prt1 (st:Sta) (i k:Nat) (c:Int) (x:Pr×Nat):List Stp:=x.1.edges.zipIdx.flatMap (prt2 st i k c x.2)
def prt (s:Sy) (st:Sta) (i k:Nat) (c:Int):List Stp:=s.procs.zipIdx.flatMap (prt1 st i k c)
def enb2 (s:Sy) (st:Sta) (i:Nat) (x:Ed×Nat):List Stp:=if x.1.sync<0∨x.1.rdy st i=false then [] else if x.1.sync=0 then [⟨i,x.2,-1,-1⟩] else prt s st i x.2 x.1.sync
def enb1 (s:Sy) (st:Sta) (x:Pr×Nat):List Stp:=x.1.edges.zipIdx.flatMap (enb2 s st x.2)
def enb (s:Sy) (st:Sta):List Stp:=s.procs.zipIdx.flatMap (enb1 s st)
theorem prt1_len {st:Sta}{i k:Nat}{c:Int}{p:Pr}{j n:Nat}(hp:p.Ok):((p.edges.zipIdx.take n).flatMap (prt2 st i k c j)).length≤6:=by
 have h1:=len_fmz (f:=prt2 st i k c j) (c:=1) (l:=p.edges) (fun m hm=>by unfold prt2;split<;>simp) n
 have:=hp.el
 omega
theorem prt_len {s:Sy}{st:Sta}{i k n:Nat}{c:Int}(hs:s.Ok):((s.procs.zipIdx.take n).flatMap (prt1 st i k c)).length≤18:=by
 have h1:=len_fmz (f:=prt1 st i k c) (c:=6) (l:=s.procs) (fun m hm=>by
  have:=prt1_len (st:=st) (i:=i) (k:=k) (c:=c) (j:=m) (n:=s.procs[m].edges.length) (hs.at hm)
  rw[fm_all (Nat.le_refl _)] at this
  exact this) n
 have:=hs.p3
 omega
theorem prt_len' {s:Sy}{st:Sta}{i k:Nat}{c:Int}(hs:s.Ok):(prt s st i k c).length≤18:=by
 have:=prt_len (st:=st) (i:=i) (k:=k) (c:=c) (n:=s.procs.length) hs
 rwa [fm_all (Nat.le_refl _)] at this
theorem enb2_len {s:Sy}{st:Sta}{i:Nat}{x:Ed×Nat}(hs:s.Ok):(enb2 s st i x).length≤18:=by
 unfold enb2
 split
 ·simp
 ·split
  ·simp
  ·exact prt_len' hs
theorem enb1_len {s:Sy}{st:Sta}{i n:Nat}{p:Pr}(hs:s.Ok) (hp:p.Ok):((p.edges.zipIdx.take n).flatMap (enb2 s st i)).length≤108:=by
 have h1:=len_fmz (f:=enb2 s st i) (c:=18) (l:=p.edges) (fun m hm=>enb2_len hs) n
 have:=hp.el
 omega
theorem enb_len {s:Sy}{st:Sta}{n:Nat}(hs:s.Ok):((s.procs.zipIdx.take n).flatMap (enb1 s st)).length≤324:=by
 have h1:=len_fmz (f:=enb1 s st) (c:=108) (l:=s.procs) (fun m hm=>by
  have:=enb1_len (s:=s) (st:=st) (i:=m) (n:=s.procs[m].edges.length) hs (hs.at hm)
  rw[fm_all (Nat.le_refl _)] at this
  exact this) n
 have:=hs.p3
 omega
theorem enb_len' {s:Sy}{st:Sta}(hs:s.Ok):(enb s st).length≤324:=by
 have:=enb_len (st:=st) (n:=s.procs.length) hs
 rwa [fm_all (Nat.le_refl _)] at this
structure Stp.In (s:Sy) (t:Stp):Prop where
 ex:∃(i k:Nat) (hi:i<s.procs.length) (_:k<s.procs[i].edges.length),t.proc=i∧t.edge=k
 pt:t.partner = -1∨∃(j m:Nat) (hj:j<s.procs.length) (_:m<s.procs[j].edges.length),t.partner=j∧t.pedge=m
theorem enb_in {s:Sy}{st:Sta}{t:Stp}(h:t∈enb s st):t.In s:=by
 unfold enb at h
 obtain⟨i,hi,h⟩:=mem_fmz.1 h
 unfold enb1 at h
 obtain⟨k,hk,h⟩:=mem_fmz.1 h
 unfold enb2 at h
 split at h
 ·simp at h
 ·split at h
  ·simp at h;subst h
   exact⟨⟨i,k,hi,hk,rfl,rfl⟩,.inl rfl⟩
  ·unfold prt at h
   obtain⟨j,hj,h⟩:=mem_fmz.1 h
   unfold prt1 at h
   obtain⟨m,hm,h⟩:=mem_fmz.1 h
   unfold prt2 at h
   split at h
   ·simp at h;subst h
    exact⟨⟨i,k,hi,hk,rfl,rfl⟩,.inr ⟨j,m,hj,hm,rfl,rfl⟩⟩
   ·simp at h
def Sta.tk (st:Sta) (i:Nat) (e:Ed):Sta:=⟨st.locs.set i e.to,if 0≤e.var then st.vals.set e.var.toNat (e.value.ev st.vals) else st.vals⟩
theorem Sy.ed_eq {s:Sy}{i k:Nat}(hi:i<s.procs.length) (hk:k<s.procs[i].edges.length):s.ed i k=s.procs[i].edges[k]:=by
 simp[Sy.ed,hi,hk]
def Sta.aft (s:Sy) (st:Sta) (t:Stp):Sta:=if 0≤t.partner then (st.tk t.proc.toNat (s.ed t.proc.toNat t.edge.toNat)).tk t.partner.toNat (s.ed t.partner.toNat t.pedge.toNat) else st.tk t.proc.toNat (s.ed t.proc.toNat t.edge.toNat)
theorem Sta.tk_ok {s:Sy}{st:Sta}{i:Nat}{e:Ed}(h:st.Ok s) (hi:i<s.procs.length) (he:e.Ok s.procs[i].locs):(st.tk i e).Ok s:=by
 have hv:=h.vs
 refine⟨by simp[Sta.tk,h.len],?_,fun j h1 h2=>?_⟩
 ·unfold Sta.tk
  simp only
  split
  ·rename_i h0
   have hvo:e.value.Ok:=he.vl.elim (fun hh=>hh.2) (fun hh=>absurd hh.1 (by omega))
   have hb:=Exq.ev_bnd hv hvo.1
   refine⟨by simp[hv.len],fun x hx=>?_⟩
   rcases List.mem_or_eq_of_mem_set hx with h1 | h1
   ·exact hv.2 x h1
   ·rw[h1];exact hb
  ·exact hv
 ·simp only[Sta.tk,List.getElem_set]
  split
  ·rename_i e1
   subst e1
   exact⟨he.t0,he.t1⟩
  ·exact h.lc j (by simpa[Sta.tk] using h1) h2
theorem Sta.aft_ok {s:Sy}{st:Sta}{t:Stp}(hs:s.Ok) (h:st.Ok s) (ht:t.In s):(st.aft s t).Ok s:=by
 obtain⟨⟨i,k,hi,hk,h1,h2⟩,h3⟩:=ht
 have g1:(st.tk t.proc.toNat (s.ed t.proc.toNat t.edge.toNat)).Ok s:=by
  rw[h1,h2,Int.toNat_natCast,Int.toNat_natCast,Sy.ed_eq hi hk]
  exact Sta.tk_ok h hi ((hs.at hi).at hk)
 unfold Sta.aft
 rcases h3 with h3 | ⟨j,m,hj,hm,h3,h4⟩
 ·rw[if_neg (by omega)];exact g1
 ·rw[if_pos (by omega)]
  have:(st.tk t.proc.toNat (s.ed t.proc.toNat t.edge.toNat)).tk t.partner.toNat (s.ed t.partner.toNat t.pedge.toNat)=(st.tk t.proc.toNat (s.ed t.proc.toNat t.edge.toNat)).tk j (s.procs[j].edges[m]):=by
   rw[h3,h4,Int.toNat_natCast,Int.toNat_natCast,Sy.ed_eq hj hm]
  rw[this]
  exact Sta.tk_ok g1 hj ((hs.at hj).at hm)
theorem c_l3Ready {h:Heap}{v w:Value}{s:Sy}{st:Sta}(hs:s.Ok) (ht:st.Ok s) (R:Rep h v s) (Rt:Rep h w st) {i m:Nat}(hi:i<s.procs.length) (hm:m<s.procs[i].edges.length) :
  CallE Try.prog fn_spec_l3Ready [v,w,.int .i64 i,.int .i64 m] h (fun u h'=>h'=h∧u=.bool (s.procs[i].edges[m].rdy st i)):=by
 obtain⟨v1,v2,rfl,R1,R2'⟩:=Rep_Sy.1 R
 obtain⟨t1,t2,rfl,T1,T2⟩:=Rep_Sta.1 Rt
 obtain⟨we,w1,w2,hu,R3,hu2,ok,G1,G2⟩:=R2'.edge hi hm
 have hP:=hld_parts hu
 have heo:=(hs.at hi).at hm
 have hil:i<st.locs.length:=by rw[ht.len];exact hi
 have hF3:=G1.one
 have hF4:=G2.one
 refine CallE.gen fun k hk=>EN_spec_l3Ready rfl ?_
 by_cases a1:s.procs[i].edges[m].frm=st.locs[i]
 case neg=>
  simp -implicitDefEqProofs (disch:=first|omega|(simp only[LnZ];omega))[wrap64,R2'.X (n:=2) rfl,hP.1,hP.2.2.1,R3.X (n:=10) rfl,hu2,Ed.cs,setC,hF3,hF4,T1.I,a1]
  exact RetK.keep (hk _ _ ⟨rfl,by simp[Ed.rdy,hil,Ne.symm a1]⟩)
 simp -implicitDefEqProofs (disch:=first|omega|(simp only[LnZ];omega))[wrap64,R2'.X (n:=2) rfl,hP.1,hP.2.2.1,R3.X (n:=10) rfl,hu2,Ed.cs,setC,hF3,hF4,T1.I,a1]
 refine (c_l1Eval _ ht.vs heo.gd.1 (Rep.gd (w2:=w2) ok G1) T2).go ?_
 rintro _ h ⟨rfl,rfl⟩
 simp -implicitDefEqProofs (disch:=omega)[wrap64]
 exact RetK.keep (hk _ _ ⟨rfl,by simp[Ed.rdy,hil,a1]⟩)
theorem c_l3Partners {h:Heap}{v w:Value}{s:Sy}{st:Sta}(hs:s.Ok) (ht:st.Ok s) (R:Rep h v s) (Rt:Rep h w st) {i m:Nat}(hi:i<s.procs.length) (hm:m<s.procs[i].edges.length) :
  CallE Try.prog fn_spec_l3Partners [v,w,.int .i64 i,.int .i64 m] h (fun u h'=>HS h [ow u (prt s st i m s.procs[i].edges[m].sync)] h'):=by
 have R0:=R
 have Rt0:=Rt
 obtain⟨v1,v2,rfl,R1,R2'⟩:=Rep_Sy.1 R
 obtain⟨t1,t2,rfl,T1,T2⟩:=Rep_Sta.1 Rt
 have hp3:=hs.p3
 have heo:=(hs.at hi).at hm
 have hs0:=heo.s0
 have hs1:=heo.s1
 obtain⟨we,w1,w2,hu,R3,hu2,ok,G1,G2⟩:=R2'.edge hi hm
 obtain⟨c,hc⟩:∃c,c=s.procs[i].edges[m].sync:=⟨_,rfl⟩
 refine CallE.gen fun k hk=>EN_spec_l3Partners rfl ?_
 rw[← hc] at hk hs0 hs1
 simp -implicitDefEqProofs (disch:=omega)[wrap64]
 refine HS.init.bls0 Stp fun o h1 H=>?_
 have hP:=hld_parts (hload_le H.base hu)
 have hQ:=hld_parts (hload_le H.base hu2)
 simp -implicitDefEqProofs (disch:=first|omega|(simp only[LnZ];omega))[wrap64,R2'.X (n:=2) rfl,hP.1,hP.2.2.1,R3.X (n:=10) rfl,hQ.1,hQ.2.2.1,Ed.cs]
 refine wp_count s.procs.length (fun j e h'=>∃o,e=[none,none,some (.int .i64 i),some (.int .i64 m),some (.agg #[v1,v2]),some (.agg #[t1,t2]),none,some o,some (.int .i64 c),some (.int .i64 j),none]∧HS h [ow o ((s.procs.zipIdx.take j).flatMap (prt1 st i m c))] h') ⟨o,by simp[hc],by simpa using H⟩ ?_
 clear H hP hQ
 rintro J2 j _ h3 hJ2 hj ⟨o,rfl,H⟩
 simp -implicitDefEqProofs (disch:=first|omega|(simp only[LnZ];omega))[wrap64,R2'.len]
 refine IteW.mk (fun hlt2=>?_) (fun hge2=>?_)
 ·have hj:j<s.procs.length:=by omega
  obtain⟨D,hD⟩:∃D,D=(s.procs.zipIdx.take j).flatMap (prt1 st i m c):=⟨_,rfl⟩
  have hDl:D.length≤18:=by rw[hD];exact prt_len hs
  rw[← hD] at H
  obtain⟨u,hu,Ru⟩:=R2'.ld hj
  change hload _ (some (elp 2 v2 j)) (some 2)=some u at hu
  obtain⟨wf,rfl,k2,R4⟩:=Rep_Pr.1 Ru
  have hpj:=hs.at hj
  have hej:=hpj.el
  have hP:∀{h'},h.le h'→_:=fun {h'}(hl:h.le h')=>hld_parts (hload_le hl hu)
  simp -implicitDefEqProofs (disch:=omega)[wrap64]
  refine wp_count s.procs[j].edges.length (fun n e h'=>∃o,e=[none,none,some (.int .i64 i),some (.int .i64 m),some (.agg #[v1,v2]),some (.agg #[t1,t2]),none,some o,some (.int .i64 c),some (.int .i64 j),some (.int .i64 n)]∧HS h [ow o (D++(s.procs[j].edges.zipIdx.take n).flatMap (prt2 st i m c j))] h') ⟨o,by simp,by simpa using H⟩ ?_
  clear H
  rintro J3 n _ h4 hJ3 hn ⟨o,rfl,H⟩
  have hP1:=(hP H.base).1
  have hP2:=(hP H.base).2.2.1
  simp -implicitDefEqProofs (disch:=first|omega|(simp only[LnZ];omega))[wrap64,R2'.X (n:=2) rfl,hP1,hP2,R4.len]
  refine IteW.mk (fun hlt3=>?_) (fun hge3=>?_)
  ·have hn:n<s.procs[j].edges.length:=by omega
   obtain⟨E,hE⟩:∃E,E=D++(s.procs[j].edges.zipIdx.take n).flatMap (prt2 st i m c j):=⟨_,rfl⟩
   have hEl:E.length≤24:=by
    rw[hE,List.length_append]
    have:=prt1_len (st:=st) (i:=i) (k:=m) (c:=c) (j:=j) (n:=n) hpj
    omega
   have hstep2:D++(s.procs[j].edges.zipIdx.take (n+1)).flatMap (prt2 st i m c j)=E++prt2 st i m c j (s.procs[j].edges[n],n):=by rw[fm_tk hn,← List.append_assoc,← hE]
   rw[← hE] at H
   obtain⟨u,hu,Ru⟩:=R4.ld hn
   have hu2:=hload_le H.base hu
   change hload _ (some (elp 10 wf n)) (some 10)=some u at hu2
   obtain⟨x1,x2,rfl,okf,X1,X2⟩:=Rep_Ed.1 Ru
   have hQ:=hld_parts hu2
   have hgo2:∀{o' h'},HS h [ow o' (E++prt2 st i m c j (s.procs[j].edges[n],n))] h'→J3 [none,none,some (.int .i64 i),some (.int .i64 m),some (.agg #[v1,v2]),some (.agg #[t1,t2]),none,some o',some (.int .i64 c),some (.int .i64 j),some (.int .i64 ((n+1:Nat):Int))] h':=
    fun {o' h'} H=>hJ3 _ _ hn ⟨o',by simp,by rw[hstep2];exact H⟩
   by_cases b1:j=i
   ·simp -implicitDefEqProofs (disch:=first|omega|(simp only[LnZ];omega))[wrap64,b1]
    subst b1
    exact hgo2 (by rw[prt2,if_neg (fun hh=>hh.1 rfl)];simpa using H)
   have b1':¬((j:Int)=i):=by omega
   by_cases b2:s.procs[j].edges[n].sync = -c
   case neg=>
    simp -implicitDefEqProofs (disch:=first|omega|(simp only[LnZ];omega))[wrap64,R2'.X (n:=2) rfl,hP1,hP2,R4.X (n:=10) rfl,hQ.1,hQ.2.2.1,Ed.cs,b1,b1',b2]
    exact hgo2 (by rw[prt2,if_neg (fun hh=>b2 hh.2.1)];simpa using H)
   simp -implicitDefEqProofs (disch:=first|omega|(simp only[LnZ];omega))[wrap64,R2'.X (n:=2) rfl,hP1,hP2,R4.X (n:=10) rfl,hQ.1,hQ.2.2.1,Ed.cs,b1,b1',b2]
   refine (c_l3Ready hs ht (R0.on H) (Rt0.on H) hj hn).go ?_
   rintro _ h4 ⟨rfl,rfl⟩
   by_cases b3:s.procs[j].edges[n].rdy st j=true
   case neg=>
    simp -implicitDefEqProofs (disch:=first|omega|(simp only[LnZ];omega))[wrap64,b3]
    exact hgo2 (by rw[prt2,if_neg (fun hh=>b3 hh.2.2)];simpa using H)
   have hel:=(hs.at hi).el
   simp -implicitDefEqProofs (disch:=first|omega|(simp only[LnZ];omega))[wrap64,b3,setC]
   refine H.app1 (bytes:=32) (⟨i,m,j,n⟩:Stp) rfl rfl rfl (Stp.ok_iff.2 ⟨by dsimp only;omega,by dsimp only;omega,by dsimp only;omega,by dsimp only;omega⟩) rfl rfl (by omega) (by omega) fun o' h5 H=>?_
   simp -implicitDefEqProofs (disch:=omega)[wrap64]
   refine hgo2 ?_
   rw[prt2,if_pos ⟨b1,b2,b3⟩];exact H
  simp -implicitDefEqProofs (disch:=omega)[wrap64]
  rw[fm_all (by omega)] at H
  exact hJ2 _ _ hj ⟨o,by simp,by rw[fm_tk hj,← hD];exact H⟩
 simp -implicitDefEqProofs (disch:=omega)[wrap64]
 rw[fm_all (by omega)] at H
 exact RetK.keep (hk _ _ H)
theorem c_l3Steps {h:Heap}{v w:Value}{s:Sy}{st:Sta}(hs:s.Ok) (ht:st.Ok s) (R:Rep h v s) (Rt:Rep h w st):CallE Try.prog fn_spec_l3Steps [v,w] h (fun u h'=>HS h [ow u (enb s st)] h'):=by
 have FS:=R.aSy
 have FT:=Rt.aSta
 have R0:=R
 have Rt0:=Rt
 obtain⟨v1,v2,rfl,R1,R2'⟩:=Rep_Sy.1 R
 obtain⟨t1,t2,rfl,T1,T2⟩:=Rep_Sta.1 Rt
 have hp3:=hs.p3
 refine CallE.gen fun k hk=>EN_spec_l3Steps rfl ?_
 simp -implicitDefEqProofs (disch:=omega)[wrap64]
 refine HS.init.bls0 Stp fun o h1 H=>?_
 simp -implicitDefEqProofs (disch:=omega)[wrap64]
 refine wp_count s.procs.length (fun i e h'=>∃o,e=[none,none,some (.agg #[v1,v2]),some (.agg #[t1,t2]),none,some o,some (.int .i64 i),none,none]∧HS h [ow o ((s.procs.zipIdx.take i).flatMap (enb1 s st))] h') ⟨o,by simp,by simpa using H⟩ ?_
 clear H
 rintro J0 i _ h1 hJ0 hi ⟨o,rfl,H⟩
 simp -implicitDefEqProofs (disch:=first|omega|(simp only[LnZ];omega))[wrap64,R2'.len]
 refine IteW.mk (fun hlt=>?_) (fun hge=>?_)
 ·have hi:i<s.procs.length:=by omega
  obtain⟨A,hA⟩:∃A,A=(s.procs.zipIdx.take i).flatMap (enb1 s st):=⟨_,rfl⟩
  have hAl:A.length≤324:=by rw[hA];exact enb_len hs
  obtain⟨u,hu,Ru⟩:=R2'.ld hi
  change hload _ (some (elp 2 v2 i)) (some 2)=some u at hu
  obtain⟨we,rfl,k1,R3⟩:=Rep_Pr.1 Ru
  have hpo:=hs.at hi
  have hel:=hpo.el
  have hP:∀{h'},h.le h'→_:=fun {h'}(hl:h.le h')=>hld_parts (hload_le hl hu)
  rw[← hA] at H
  simp -implicitDefEqProofs (disch:=omega)[wrap64]
  refine wp_count s.procs[i].edges.length (fun m e h'=>∃o,e=[none,none,some (.agg #[v1,v2]),some (.agg #[t1,t2]),none,some o,some (.int .i64 i),some (.int .i64 m),none]∧HS h [ow o (A++(s.procs[i].edges.zipIdx.take m).flatMap (enb2 s st i))] h') ⟨o,by simp,by simpa using H⟩ ?_
  clear H
  rintro J1 m _ h2 hJ1 hm ⟨o,rfl,H⟩
  have hP1:=(hP H.base).1
  have hP2:=(hP H.base).2.2.1
  simp -implicitDefEqProofs (disch:=first|omega|(simp only[LnZ];omega))[wrap64,R2'.X (n:=2) rfl,hP1,hP2,R3.len]
  refine IteW.mk (fun hlt1=>?_) (fun hge1=>?_)
  ·have hm:m<s.procs[i].edges.length:=by omega
   obtain⟨B,hB⟩:∃B,B=A++(s.procs[i].edges.zipIdx.take m).flatMap (enb2 s st i):=⟨_,rfl⟩
   have hBl:B.length≤432:=by
    rw[hB,List.length_append]
    have:=enb1_len (st:=st) (i:=i) (n:=m) hs hpo
    omega
   have hstep:A++(s.procs[i].edges.zipIdx.take (m+1)).flatMap (enb2 s st i)=B++enb2 s st i (s.procs[i].edges[m],m):=by rw[fm_tk hm,← List.append_assoc,← hB]
   rw[← hB] at H
   obtain⟨u,hu,Ru⟩:=R3.ld hm
   have hu2:=hload_le H.base hu
   change hload _ (some (elp 10 we m)) (some 10)=some u at hu2
   obtain⟨w1,w2,rfl,ok,G1,G2⟩:=Rep_Ed.1 Ru
   have heo:=hpo.at hm
   have hQ:=hld_parts hu2
   have hgo:∀{o' h'},HS h [ow o' (B++enb2 s st i (s.procs[i].edges[m],m))] h'→J1 [none,none,some (.agg #[v1,v2]),some (.agg #[t1,t2]),none,some o',some (.int .i64 i),some (.int .i64 ((m+1:Nat):Int)),none] h':=
    fun {o' h'} H=>hJ1 _ _ hm ⟨o',by simp,by rw[hstep];exact H⟩
   by_cases a2:s.procs[i].edges[m].sync<0
   ·simp -implicitDefEqProofs (disch:=first|omega|(simp only[LnZ];omega))[wrap64,R2'.X (n:=2) rfl,hP1,hP2,R3.X (n:=10) rfl,hQ.1,hQ.2.2.1,Ed.cs,a2]
    exact hgo (by rw[enb2,if_pos (.inl a2)];simpa using H)
   simp -implicitDefEqProofs (disch:=first|omega|(simp only[LnZ];omega))[wrap64,R2'.X (n:=2) rfl,hP1,hP2,R3.X (n:=10) rfl,hQ.1,hQ.2.2.1,Ed.cs,a2]
   refine (c_l3Ready hs ht (R0.on H) (Rt0.on H) hi hm).go ?_
   rintro _ h2 ⟨rfl,rfl⟩
   by_cases a1:s.procs[i].edges[m].rdy st i=true
   case neg=>
    simp -implicitDefEqProofs (disch:=first|omega|(simp only[LnZ];omega))[wrap64,a1]
    exact hgo (by rw[enb2,if_pos (.inr (by simpa using a1))];simpa using H)
   by_cases a3:s.procs[i].edges[m].sync=0
   ·simp -implicitDefEqProofs (disch:=first|omega|(simp only[LnZ];omega))[wrap64,a1,a2,a3,setC]
    refine H.app1 (bytes:=32) (⟨i,m,-1,-1⟩:Stp) rfl rfl rfl (Stp.ok_iff.2 ⟨by dsimp only;omega,by dsimp only;omega,by dsimp only;omega,by dsimp only;omega⟩) rfl rfl (by omega) (by omega) fun o' h3 H=>?_
    simp -implicitDefEqProofs (disch:=omega)[wrap64]
    refine hgo ?_
    rw[enb2,if_neg (by simp[a2,a1]),if_pos a3];exact H
   have hen:enb2 s st i (s.procs[i].edges[m],m)=prt s st i m s.procs[i].edges[m].sync:=by rw[enb2,if_neg (by simp[a2,a1]),if_neg a3]
   have hpl:=prt_len' (st:=st) (i:=i) (k:=m) (c:=s.procs[i].edges[m].sync) hs
   rw[hen] at hgo
   simp -implicitDefEqProofs (disch:=first|omega|(simp only[LnZ];omega))[wrap64,a1,a2,a3]
   refine (c_l3Partners hs ht (R0.on H) (Rt0.on H) hi hm).go ?_
   intro p h3 G
   have H:=G.app H
   simp -implicitDefEqProofs (disch:=omega)[wrap64]
   refine HS.appL (u:=p) (l2:=prt s st i m s.procs[i].edges[m].sync) H.sw1 rfl rfl H.rep rfl rfl (by omega) (by omega) fun o' h4 H=>?_
   simp -implicitDefEqProofs (disch:=omega)[wrap64]
   exact hgo H.only
  simp -implicitDefEqProofs (disch:=omega)[wrap64]
  rw[fm_all (by omega)] at H
  exact hJ0 _ _ hi ⟨o,by simp,by rw[fm_tk hi,← hA];exact H⟩
 simp -implicitDefEqProofs (disch:=omega)[wrap64]
 rw[fm_all (by omega)] at H
 exact RetK.keep (hk _ _ H)
theorem c_l3Take {g h:Heap}{Γ:List HP}{t1 t2 v:Value}{s:Sy}{st:Sta}{e:Ed}{i:Nat}(hi:i<s.procs.length) (ht:st.Ok s) (he:e.Ok s.procs[i].locs) (R:Rep g v e) (H:HS g (ow t1 st.locs::ow t2 st.vals::Γ) h) :
  CallE Try.prog fn_spec_l3Take [.agg #[t1,t2],.int .i64 i,v] h (fun u h'=>u=.agg #[t1,t2]∧HS g (ow t1 (st.tk i e).locs::ow t2 (st.tk i e).vals::Γ) h'):=by
 obtain⟨w1,w2,rfl,ok,G1,G2⟩:=Rep_Ed.1 R
 have hil:i<st.locs.length:=by rw[ht.len];exact hi
 have hvl:=ht.vs.len
 have hO1:=H.rep.one
 have hO2:=H.sw1.rep.one
 refine CallE.gen fun k hk=>EN_spec_l3Take rfl ?_
 simp -implicitDefEqProofs (disch:=first|omega|(simp only[LnZ];omega))[wrap64,Ed.cs,H.rep.I]
 refine H.storeF e.to (i:=i) hil rfl rfl ok.to rfl fun h1 H=>?_
 by_cases a1:0≤e.var
 case neg=>
  simp -implicitDefEqProofs (disch:=first|omega|(simp only[LnZ];omega))[wrap64,a1,setC,hO1,hO2]
  exact RetK.keep (hk _ _ ⟨rfl,by simp only[Sta.tk];rw[if_neg a1];exact H⟩)
 have hvo:e.value.Ok:=he.vl.elim (fun hh=>hh.2) (fun hh=>absurd hh.1 (by omega))
 have hv1:=he.v1
 obtain⟨q,hq⟩:∃q:Nat,e.var=q:=⟨_,(Int.toNat_of_nonneg a1).symm⟩
 have hb:=Exq.ev_bnd ht.vs hvo.1
 simp -implicitDefEqProofs (disch:=first|omega|(simp only[LnZ];omega))[wrap64,a1,hq]
 refine (c_l1Eval _ ht.vs hvo.1 ((Rep.vl ok G2).on H) H.sw1.rep).go ?_
 rintro _ h1 ⟨rfl,rfl⟩
 simp -implicitDefEqProofs (disch:=first|omega|(simp only[LnZ];omega))[wrap64,H.sw1.rep.I]
 refine H.sw1.storeF (e.value.ev st.vals) (i:=q) (by omega) rfl rfl ⟨by omega,by omega⟩ rfl fun h2 H=>?_
 simp -implicitDefEqProofs (disch:=first|omega|(simp only[LnZ];omega))[wrap64,setC,hO1,hO2]
 exact RetK.keep (hk _ _ ⟨rfl,by simp only[Sta.tk];rw[if_pos a1,hq,Int.toNat_natCast];exact H.sw1⟩)
theorem c_l3Apply {h:Heap}{v w:Value}{s:Sy}{st:Sta}{t:Stp}(hs:s.Ok) (ht:st.Ok s) (hin:t.In s) (R:Rep h v s) (Rt:Rep h w st):CallE Try.prog fn_spec_l3Apply [v,w,t.v] h (fun u h'=>HS h [ow u (st.aft s t)] h'):=by
 have FT:=Rt.aSta
 obtain⟨v1,v2,rfl,R1,R2'⟩:=Rep_Sy.1 R
 obtain⟨⟨i,m,hi,hm,e1,e2⟩,hpt⟩:=hin
 have hp3:=hs.p3
 have hll:=ht.len
 have hvl:=ht.vs.len
 have hed:s.ed t.proc.toNat t.edge.toNat=s.procs[i].edges[m]:=by rw[e1,e2,Int.toNat_natCast,Int.toNat_natCast,Sy.ed_eq hi hm]
 refine CallE.gen fun k hk=>EN_spec_l3Apply rfl ?_
 obtain⟨t1,t2,rfl,T1,T2⟩:=Rep_Sta.1 Rt
 simp -implicitDefEqProofs (disch:=omega)[wrap64]
 refine HS.appPL (α:=Int) (l2:=st.locs) HS.init rfl rfl T1 rfl rfl (by omega) fun o1 h1 H=>?_
 simp -implicitDefEqProofs (disch:=omega)[wrap64]
 refine HS.appPL (α:=Int) (l2:=st.vals) H rfl rfl (T2.on H) rfl rfl (by omega) fun o2 h1 H=>?_
 replace H:=H.sw1
 have hK1:=H.rep.cells
 have hK2:=H.sw1.rep.cells
 obtain⟨we,w1,w2,hu,R3,hu2,ok,G1,G2⟩:=R2'.edge hi hm
 have hP:=hld_parts (hload_le H.base hu)
 have hu3:=hload_le H.base hu2
 have hC1:=H.rep.one
 have hC2:=H.sw1.rep.one
 have heo:=(hs.at hi).at hm
 have Re:Rep h (.agg (s.procs[i].edges[m].cs w1 w2).toArray) s.procs[i].edges[m]:=Rep_Ed.2 ⟨w1,w2,rfl,ok,G1,G2⟩
 simp -implicitDefEqProofs (disch:=first|omega|(simp only[LnZ];omega))[wrap64,setC,hC1,hC2,hK1,hK2,Stp.v,e1,e2,R2'.X (n:=2) rfl,hP.1,hP.2.2.1,R3.X (n:=10) rfl,hu3]
 refine (c_l3Take (s:=s) hi ht heo Re H).go ?_
 rintro _ h2 ⟨rfl,H⟩
 have ht2:=Sta.tk_ok ht hi heo
 have hC1:=H.rep.one
 have hC2:=H.sw1.rep.one
 rcases hpt with hpt | ⟨j,n,hj,hn,e3,e4⟩
 ·simp -implicitDefEqProofs (disch:=first|omega|(simp only[LnZ];omega))[wrap64,Stp.v,hpt,setC,hC1,hC2]
  refine RetK.keep (hk _ _ ?_)
  rw[Sta.aft,if_neg (by omega),hed,e1,Int.toNat_natCast]
  exact H.mkSta
 ·have hed2:s.ed t.partner.toNat t.pedge.toNat=s.procs[j].edges[n]:=by rw[e3,e4,Int.toNat_natCast,Int.toNat_natCast,Sy.ed_eq hj hn]
  have heo2:=(hs.at hj).at hn
  obtain⟨wf,x1,x2,hu,R3,hu2,ok,X1,X2⟩:=R2'.edge hj hn
  have hP:=hld_parts (hload_le H.base hu)
  have hu3:=hload_le H.base hu2
  have Rf:Rep h (.agg (s.procs[j].edges[n].cs x1 x2).toArray) s.procs[j].edges[n]:=Rep_Ed.2 ⟨x1,x2,rfl,ok,X1,X2⟩
  simp -implicitDefEqProofs (disch:=first|omega|(simp only[LnZ];omega))[wrap64,setC,hC1,hC2,Stp.v,e3,e4,R2'.X (n:=2) rfl,hP.1,hP.2.2.1,R3.X (n:=10) rfl,hu3]
  refine (c_l3Take (s:=s) hj ht2 heo2 Rf H).go ?_
  rintro _ h3 ⟨rfl,H⟩
  simp -implicitDefEqProofs (disch:=first|omega|(simp only[LnZ];omega))[wrap64,setC,hC1,hC2]
  refine RetK.keep (hk _ _ ?_)
  rw[Sta.aft,if_pos (by omega),hed,hed2,e1,e3,Int.toNat_natCast,Int.toNat_natCast]
  exact H.mkSta
def fx (xs:List Sta) (st:Sta):Int:=match xs.findIdx? (fun y=>decide (y=st)) with | some i=>(i:Int) | none=>-1
theorem fx_mem {xs:List Sta}{st:Sta}(h:st∈xs):∃(i:Nat) (hi:i<xs.length),fx xs st=i∧xs[i]=st:=by
 obtain⟨i,hi⟩:∃i,xs.findIdx? (fun y=>decide (y=st))=some i:=by
  rcases hf:xs.findIdx? (fun y=>decide (y=st)) with _ | i
  ·rw[List.findIdx?_eq_none_iff] at hf
   have:=hf st h
   simp at this
  ·exact⟨i,rfl⟩
 have h2:=hi
 rw[List.findIdx?_eq_some_iff_getElem] at h2
 obtain⟨h3,h4,_⟩:=h2
 exact⟨i,h3,by rw[fx,hi],by simpa using h4⟩
def adS (xs:List Sta) (st:Sta):List Sta:=if st∈xs then xs else xs++[st]
def atS (xs:List Sta) (st:Sta):Int:=if st∈xs then fx xs st else xs.length
def adI (l:List Int) (n:Int):List Int:=if n∈l then l else l++[n]
def g1 (p:List Sta×List Int) (st:Sta):List Sta×List Int:=(adS p.1 st,adI p.2 (atS p.1 st))
theorem mem_adI {l:List Int}{n x:Int}:x∈adI l n↔x∈l∨x=n:=by
 unfold adI
 split
 ·constructor
  ·exact .inl
  ·rintro (h | rfl)<;>assumption
 ·simp
theorem adI_len {l:List Int}{n:Int}:(adI l n).length≤l.length+1:=by
 unfold adI;split<;>simp
theorem adI_ne {l:List Int}{n:Int}:adI l n≠[]:=by
 unfold adI
 split
 ·rename_i h;rintro rfl;simp at h
 ·simp
theorem adS_len {xs:List Sta}{st:Sta}:(adS xs st).length≤xs.length+1:=by
 unfold adS;split<;>simp
theorem adS_ge {xs:List Sta}{st:Sta}:xs.length≤(adS xs st).length:=by
 unfold adS;split<;>simp
theorem atS_rng {xs:List Sta}{st:Sta}:0≤atS xs st∧atS xs st<(adS xs st).length:=by
 unfold atS adS
 split
 ·rename_i h
  obtain⟨i,hi,e,_⟩:=fx_mem h
  omega
 ·simp;omega
def gF (s:Sy) (x:Sta) (n:Nat) (xs:List Sta):List Sta×List Int:=((enb s x).take n).foldl (fun p t=>g1 p (x.aft s t)) (xs,[])
structure GI (s:Sy) (xs:List Sta) (n:Nat) (p:List Sta×List Int):Prop where
 pre:∃t,p.1=xs++t
 ok:∀st∈p.1,st.Ok s
 rng:∀x∈p.2,0≤x∧x<p.1.length
 new:∀j:Nat,xs.length≤j→j<p.1.length→(j:Int)∈p.2
 l1:p.1.length≤xs.length+n
 l2:p.2.length≤n
 ne:1≤n→p.2≠[]
theorem GI.step {s:Sy}{xs:List Sta}{n:Nat}{p:List Sta×List Int}{st:Sta}(h:GI s xs n p) (hst:st.Ok s):GI s xs (n+1) (g1 p st):=by
 have hr:=atS_rng (xs:=p.1) (st:=st)
 have hl:=adS_len (xs:=p.1) (st:=st)
 have hg:=adS_ge (xs:=p.1) (st:=st)
 have hl2:=adI_len (l:=p.2) (n:=atS p.1 st)
 refine⟨?_,?_,?_,?_,?_,?_,fun _=>adI_ne⟩
 ·obtain⟨t,e⟩:=h.pre
  unfold g1 adS
  simp only
  split
  ·exact⟨t,e⟩
  ·exact⟨t++[st],by rw[e,List.append_assoc]⟩
 ·intro y hy
  simp only[g1,adS] at hy
  split at hy
  ·exact h.ok y hy
  ·simp only[List.mem_append,List.mem_singleton] at hy
   rcases hy with hy | rfl
   ·exact h.ok y hy
   ·exact hst
 ·intro x hx
  simp only[g1,mem_adI] at hx
  rcases hx with hx | rfl
  ·have:=h.rng x hx
   simp only[g1];omega
  ·exact hr
 ·intro j h1 h2
  simp only[g1] at h2 ⊢
  rw[mem_adI]
  by_cases hj:j<p.1.length
  ·exact .inl (h.new j h1 hj)
  ·right
   unfold adS at h2
   unfold atS
   split at h2
   ·omega
   ·rename_i q
    rw[if_neg q]
    simp at h2;omega
 ·have:=h.l1;simp only[g1];omega
 ·have:=h.l2;simp only[g1];omega
def nxS (i:Nat) (l:List Int):List Int:=if l=[] then [(i:Int)] else l
def rnd (s:Sy) (i:Nat) (g:Gr):Gr:=
 if h:i<g.states.length then ⟨(gF s g.states[i] (enb s g.states[i]).length g.states).1,g.next++[nxS i (gF s g.states[i] (enb s g.states[i]).length g.states).2]⟩ else g
def ini (s:Sy):Sta:=⟨List.replicate s.procs.length 0,s.init⟩
def gN (s:Sy):Nat→Gr
 | 0=>⟨[ini s],[]⟩
 | n+1=>rnd s n (gN s n)
theorem ini_ok {s:Sy}(hs:s.Ok):(ini s).Ok s:=
 ⟨by simp[ini],hs.vs,fun i h1 h2=>by
  have:=(hs.at h2).n1
  simp only[ini,List.getElem_replicate];omega⟩
def Gr.zero:Gr:=⟨[],[]⟩
def bgOk (s:Sy):Prop:=s.Ok∧(gN s 60).states.length≤60
noncomputable instance {s:Sy}:Decidable (bgOk s):=Classical.propDecidable _
theorem c_spec_InitialState {h:Heap}{v:Value}{s:Sy}(R:Rep h v s):CallE Try.prog fn_spec_InitialState [v] h (R2 (decide s.Ok) (if s.Ok then ini s else Sta.zero) h):=by
 have FS:=R.aSy
 have R0:=R
 obtain⟨v1,v2,rfl,R1,R2'⟩:=Rep_Sy.1 R
 refine CallE.gen fun k hk=>EN_spec_InitialState rfl ?_
 simp -implicitDefEqProofs (disch:=first|omega|(simp only[LnZ];omega))[wrap64,FS]
 refine (c_spec_SystemValid R0).go ?_
 rintro _ h ⟨rfl,rfl⟩
 by_cases hs:s.Ok
 case neg=>
  simp -implicitDefEqProofs (disch:=first|omega|(simp only[LnZ];omega))[wrap64,hs,setC]
  exact RetK.keep (hk _ _ ⟨_,by rw[decide_eq_false hs],by rw[if_neg hs];exact zero_St (Γ:=[]) (Heap.le.refl _)⟩)
 have hp3:=hs.p3
 have hvl:=hs.vs.len
 simp -implicitDefEqProofs (disch:=first|omega|(simp only[LnZ];omega))[wrap64,hs,R2'.len]
 refine⟨?_,?_⟩
 ·simp -implicitDefEqProofs (disch:=omega)[wrap64]
  refine HS.init.mks (α:=Int) (z:=(0:Int)) rfl rfl (own_zero (by decide) (by decide)) (Nat.le_refl _) (by omega) (by omega) fun o h1 H=>?_
  simp -implicitDefEqProofs (disch:=omega)[wrap64]
  refine HS.appPL (α:=Int) (l2:=s.init) H rfl rfl (R1.on H) rfl rfl (by omega) fun o2 h1 H=>?_
  simp -implicitDefEqProofs (disch:=first|omega|(simp only[LnZ];omega))[wrap64,setC,H.rep.cells,H.rep.one,H.sw1.rep.cells,H.sw1.rep.one]
  exact RetK.keep (hk _ _ ⟨_,by rw[decide_eq_true hs],by rw[if_pos hs];exact HS.mkSta (a:=ini s) H.sw1⟩)
 ·simp -implicitDefEqProofs (disch:=omega)[wrap64]
  refine HS.appPL (α:=Int) (l2:=s.init) HS.init rfl rfl R1 rfl rfl (by omega) fun o2 h1 H=>?_
  simp -implicitDefEqProofs (disch:=omega)[wrap64]
  refine H.mks (α:=Int) (z:=(0:Int)) rfl rfl (own_zero (by decide) (by decide)) (Nat.le_refl _) (by omega) (by omega) fun o h1 H=>?_
  simp -implicitDefEqProofs (disch:=first|omega|(simp only[LnZ];omega))[wrap64,setC,H.rep.cells,H.rep.one,H.sw1.rep.cells,H.sw1.rep.one]
  exact RetK.keep (hk _ _ ⟨_,by rw[decide_eq_true hs],by rw[if_pos hs];exact HS.mkSta (a:=ini s) H⟩)
structure Sta.Sm (st:Sta):Prop where
 ll:st.locs.length≤4
 vl:st.vals.length≤4
theorem c_l3State {g h:Heap}{Γ:List HP}{b:Nat}{sl v:Value}{l:List (BitVec 8)}{p:Int}{s:Sy}(R:Rep g sl l) (Rs:Rep g v s) (H:HS g (rb b sl p::Γ) h) (hp:0≤p) (hp2:p+200≤1000000000000) :
  CallE Try.prog fn_spec_l3State [.pointer (some ⟨b,0,none⟩),v] h (fun u h'=>∃(y:Sta) (p':Int),HS g (ow u y::rb b sl p'::Γ) h'∧y.Sm∧p≤p'∧p'≤p+50):=by
 have FS:=Rs.aSy
 have Rs0:=Rs
 obtain⟨v1,v2,rfl,R1,R2'⟩:=Rep_Sy.1 Rs
 refine CallE.gen fun k hk=>EN_spec_l3State rfl ?_
 simp -implicitDefEqProofs (disch:=first|omega|(simp only[LnZ];omega))[wrap64,FS]
 refine (c_spec_InitialState (Rs0.on H)).go ?_
 rintro _ h1 ⟨u,rfl,G⟩
 obtain⟨o1,o2,rfl,G'⟩:=G.unSta
 have H:=G'.app H
 have hO1:=H.rep.one
 have hC1:=H.rep.cells
 have hO2:=H.sw1.rep.one
 have hC2:=H.sw1.rep.cells
 by_cases hs:s.Ok
 case neg=>
  simp -implicitDefEqProofs (disch:=first|omega|(simp only[LnZ];omega))[wrap64,hs,setC,hO1,hC1,hO2,hC2]
  refine H.bls [(0:Int)] rfl rfl (okL (by decide)) (by decide) fun q1 hq H=>?_
  simp -implicitDefEqProofs (disch:=omega)[wrap64]
  refine H.bls [(0:Int),0,0] rfl rfl (okL (by decide)) (by decide) fun q2 hq H=>?_
  simp -implicitDefEqProofs (disch:=first|omega|(simp only[LnZ];omega))[wrap64,setC,H.rep.one,H.rep.cells,H.sw1.rep.one,H.sw1.rep.cells]
  exact RetK.keep (hk _ _ ⟨⟨[0],[0,0,0]⟩,p,HS.mkSta (a:=⟨[0],[0,0,0]⟩) (H.sw1.under fun _ H=>H.under fun _ H=>H.drop.drop),⟨by simp,by simp⟩,by omega,by omega⟩)
 rw[if_pos hs] at H
 have hp3:=hs.p3
 have hst:=ini_ok hs
 have hil:=hst.len
 have hvl:=hst.vs.len
 generalize ini s=st at *
 simp -implicitDefEqProofs (disch:=first|omega|(simp only[LnZ];omega))[wrap64,hs,setC,hO1,hC1,hO2,hC2]
 refine (c_pick (n:=4) R H.sw2 (by omega) (by omega) ⟨by decide,by decide⟩).go ?_
 rintro _ h3 ⟨r1,rfl,q1,z1,y1,H⟩
 by_cases c0:r1=0
 ·simp -implicitDefEqProofs (disch:=first|omega|(simp only[LnZ];omega))[wrap64,c0]
  refine wp_count s.procs.length (fun i e h'=>∃(y:List Int) (p':Int),e=[some (.pointer (some ⟨b,0,none⟩)),none,some (.agg #[v1,v2]),some (.agg #[.slice none 0 0,.slice none 0 0]),some (.agg #[o1,o2]),none,some (.int .i64 i),none,none]∧HS g (ow o1 y::rb b sl p'::ow o2 st.vals::Γ) h'∧y.length=s.procs.length∧p'=p+1+i) ⟨st.locs,_,by simp,H.sw1,hil,by simp⟩ ?_
  clear H
  rintro J i _ h4 hJ hi ⟨y,p1,rfl,H,hyl,hp3'⟩
  simp -implicitDefEqProofs (disch:=first|omega|(simp only[LnZ];omega))[wrap64,H.rep.len]
  refine IteW.mk (fun hlt=>?_) (fun hge=>?_)
  ·have hi:i<s.procs.length:=by omega
   obtain⟨u,hu,Ru⟩:=R2'.ld hi
   have hu:=hload_le H.base hu
   change hload _ (some (elp 2 v2 i)) (some 2)=some u at hu
   obtain⟨we,rfl,kl,R3⟩:=Rep_Pr.1 Ru
   have hP:=hld_parts (cs:=[.int .i64 s.procs[i].locs,we]) hu
   have hX:=R2'.X (n:=2) rfl
   simp -implicitDefEqProofs (disch:=first|omega|(simp only[LnZ];omega))[wrap64,hX,hP.1,hP.2.2.1]
   refine (c_pick R H.sw1 (by omega) (by omega) kl).go ?_
   rintro _ h5 ⟨r2,rfl,q2,z2,y2,H⟩
   simp -implicitDefEqProofs (disch:=first|omega|(simp only[LnZ];omega))[wrap64,H.sw1.rep.I]
   refine H.sw1.storeF r2 (i:=i) (by omega) rfl rfl q2 rfl fun h6 H=>?_
   simp -implicitDefEqProofs (disch:=omega)[wrap64]
   exact hJ _ _ hi ⟨_,_,by simp,H,by simp[hyl],by push_cast;omega⟩
  simp -implicitDefEqProofs (disch:=omega)[wrap64]
  refine (c_pick (n:=4) R H.sw1 (by omega) (by omega) ⟨by decide,by decide⟩).go ?_
  rintro _ h5 ⟨a1,rfl,k1,_,_,H⟩
  simp -implicitDefEqProofs (disch:=omega)[wrap64]
  refine (c_pick (n:=4) R H (by omega) (by omega) ⟨by decide,by decide⟩).go ?_
  rintro _ h5 ⟨a2,rfl,k2,_,_,H⟩
  simp -implicitDefEqProofs (disch:=omega)[wrap64]
  refine (c_pick (n:=4) R H (by omega) (by omega) ⟨by decide,by decide⟩).go ?_
  rintro _ h5 ⟨a3,rfl,k3,_,_,H⟩
  simp -implicitDefEqProofs (disch:=omega)[wrap64]
  refine H.bls [a1,a2,a3] rfl rfl (by intro x hx;simp at hx;rcases hx with rfl | rfl | rfl<;>first | exact k1 | exact k2 | exact k3) (by decide) fun q2 hq H=>?_
  have hO3:=H.rep.one
  have hC3:=H.rep.cells
  simp -implicitDefEqProofs (disch:=first|omega|(simp only[LnZ];omega))[wrap64,setC,hO1,hC1,hO3,hC3]
  exact RetK.keep (hk _ _ ⟨⟨y,[a1,a2,a3]⟩,_,HS.mkSta (a:=⟨y,[a1,a2,a3]⟩) ((H.sw2.under fun _ H=>H.under fun _ H=>H.under fun _ H=>H.drop)),⟨by dsimp only;omega,by simp⟩,by omega,by omega⟩)
 ·simp -implicitDefEqProofs (disch:=first|omega|(simp only[LnZ];omega))[wrap64,c0]
  refine H.bls [(2:Int),4,1,0,6] rfl rfl (okL (by decide)) (by decide) fun q hq H=>?_
  simp -implicitDefEqProofs (disch:=omega)[wrap64]
  refine (c_num R H (by omega) (by omega) (by simp)).go ?_
  rintro _ h4 ⟨r2,rfl,q2,hr2,H⟩
  obtain⟨n,rfl,hn⟩:∃n:Nat,r2=n∧n≤6:=by
   simp at hr2
   rcases hr2 with rfl | rfl | rfl | rfl | rfl<;>first | exact⟨2,rfl,by decide⟩ | exact⟨4,rfl,by decide⟩ | exact⟨1,rfl,by decide⟩ | exact⟨0,rfl,by decide⟩ | exact⟨6,rfl,by decide⟩
  simp -implicitDefEqProofs (disch:=omega)[wrap64]
  refine wp_while (σ:=Nat) (fun i e h'=>∃(y:Sta) (w1 w2:Value) (p':Int),e=[some (.pointer (some ⟨b,0,none⟩)),none,some (.agg #[v1,v2]),some (.agg #[.slice none 0 0,.slice none 0 0]),some (.agg #[w1,w2]),none,none,some (.int .i64 i),none]∧HS g (ow w1 y.locs::ow w2 y.vals::rb b sl p'::Γ) h'∧y.Ok s∧i≤6∧p≤p'∧p'+i≤p+2+6) (fun i=>i) n ⟨st,o1,o2,_,by simp,H.bk2,hst,hn,by omega,by omega⟩ ?_
  clear H hst hil hvl
  rintro J i _ h4 hJ ⟨y,w1,w2,p1,rfl,H,hst,hi,hp4,hp5⟩
  have hil:=hst.len
  have hvl:=hst.vs.len
  have hO1:=H.rep.one
  have hC1:=H.rep.cells
  have hO2:=H.sw1.rep.one
  have hC2:=H.sw1.rep.cells
  have hfin:∀{h'},HS g (ow w1 y.locs::ow w2 y.vals::rb b sl p1::Γ) h'→k (.agg #[w1,w2]) h':=fun H=>hk _ _ ⟨y,p1,HS.mkSta H,⟨by omega,by omega⟩,by omega,by omega⟩
  by_cases c1:0<i
  ·have c1':(0:Int)<i:=by omega
   have RY:Rep h4 (.agg #[w1,w2]) y:=Rep_Sta.2 ⟨w1,w2,rfl,H.rep,H.sw1.rep⟩
   simp -implicitDefEqProofs (disch:=first|omega|(simp only[LnZ];omega))[wrap64,c1,c1',FS,hO1,hO2]
   refine (c_l3Steps hs hst (Rs0.on H) RY).go ?_
   intro el h5 G
   have H:=G.app H
   obtain⟨ln,hln⟩:∃ln:Int,ln=(enb s y).length:=⟨_,rfl⟩
   have hlen:=H.rep.len
   have hel:=enb_len' (st:=y) hs
   rw[← hln] at hlen
   by_cases c2:ln=0
   ·simp -implicitDefEqProofs (disch:=first|omega|(simp only[LnZ];omega))[wrap64,hlen,c2,setC,hO1,hC1,hO2,hC2]
    exact RetK.keep (hfin H.drop)
   ·simp -implicitDefEqProofs (disch:=first|omega|(simp only[LnZ];omega))[wrap64,hlen,c2,FS,hO1,hO2]
    refine (c_pick R H.sw3 (by omega) (by omega) ⟨by omega,by omega⟩).go ?_
    rintro _ h6 ⟨r5,rfl,q5,z5,y5,H⟩
    obtain⟨m,rfl⟩:∃m:Nat,r5=m:=⟨r5.toNat,(Int.toNat_of_nonneg z5).symm⟩
    have hm:m<(enb s y).length:=by have:=y5 (by omega);omega
    have hin:=enb_in (List.getElem_mem hm)
    have RY:Rep h6 (.agg #[w1,w2]) y:=Rep_Sta.2 ⟨w1,w2,rfl,H.sw2.rep,H.sw3.rep⟩
    simp -implicitDefEqProofs (disch:=first|omega|(simp only[LnZ];omega))[wrap64,H.sw1.rep.xStp]
    refine (c_l3Apply hs hst hin (Rs0.on H) RY).go ?_
    intro o h7 G
    obtain⟨x1,x2,rfl,G'⟩:=G.unSta
    have H:=G'.app H
    simp -implicitDefEqProofs (disch:=first|omega|(simp only[LnZ];omega))[wrap64,setC,H.rep.one,H.rep.cells,H.sw1.rep.one,H.sw1.rep.cells]
    exact hJ (i-1) _ _ (by omega) ⟨_,x1,x2,_,by simp;omega,H.under fun _ H=>H.under fun _ H=>H.under fun _ H=>H.drop.drop.drop,Sta.aft_ok hs hst hin,by omega,by omega,by omega⟩
  ·have c1':¬((0:Int)<i):=by omega
   simp -implicitDefEqProofs (disch:=first|omega|(simp only[LnZ];omega))[wrap64,c1,c1',setC,hO1,hC1,hO2,hC2]
   exact RetK.keep (hfin H)
theorem c_l3Mutate {g h:Heap}{Γ:List HP}{b:Nat}{sl v:Value}{l:List (BitVec 8)}{p:Int}{st:Sta}(R:Rep g sl l) (Rt:Rep g v st) (hs:st.Sm) (H:HS g (rb b sl p::Γ) h) (hp:0≤p) (hp2:p+200≤1000000000000) :
  CallE Try.prog fn_spec_l3Mutate [.pointer (some ⟨b,0,none⟩),v] h (fun u h'=>∃(y:Sta) (p':Int),HS g (ow u y::rb b sl p'::Γ) h'∧(y.locs.length≤5∧y.vals.length≤5)∧p≤p'∧p'≤p+10):=by
 have FS:=Rt.aSta
 obtain⟨t1,t2,rfl,T1,T2⟩:=Rep_Sta.1 Rt
 have hll:=hs.ll
 have hvl:=hs.vl
 refine CallE.gen fun k hk=>EN_spec_l3Mutate rfl ?_
 simp -implicitDefEqProofs (disch:=omega)[wrap64]
 refine HS.appPL (α:=Int) (l2:=st.locs) H rfl rfl (T1.on H) rfl rfl (by omega) fun o1 h1 H=>?_
 simp -implicitDefEqProofs (disch:=omega)[wrap64]
 refine HS.appPL (α:=Int) (l2:=st.vals) H rfl rfl (T2.on H) rfl rfl (by omega) fun o2 h2 H=>?_
 have hO1:=H.sw1.rep.one
 have hC1:=H.sw1.rep.cells
 have hO2:=H.rep.one
 have hC2:=H.rep.cells
 simp -implicitDefEqProofs (disch:=first|omega|(simp only[LnZ];omega))[wrap64,setC,hO1,hC1,hO2,hC2]
 refine (c_pick (n:=40) R H.sw2 (by omega) (by omega) ⟨by decide,by decide⟩).go ?_
 rintro _ h3 ⟨r1,rfl,q1,z1,y1,H⟩
 obtain⟨a,ha⟩:∃a,a=st.locs:=⟨_,rfl⟩
 obtain⟨c,hc⟩:∃c,c=st.vals:=⟨_,rfl⟩
 rw[← ha] at H hll
 rw[← hc] at H hvl
 have hfin:∀{h' p' w1 w2}{a' c':List Int},HS g (rb b sl p'::ow w2 c'::ow w1 a'::Γ) h'→p≤p'→p'≤p+10→a'.length≤5→c'.length≤5→k (.agg #[w1,w2]) h':=fun {h' p' w1 w2 a' c'} H e1 e2 e3 e4=>hk _ _ ⟨⟨a',c'⟩,p',HS.mkSta (a:=⟨a',c'⟩) (H.sw2.under fun _ H=>H.sw1),⟨e3,e4⟩,e1,e2⟩
 by_cases c0:r1=0
 ·simp -implicitDefEqProofs (disch:=first|omega|(simp only[LnZ];omega))[wrap64,c0,setC]
  refine HS.app1 (bytes:=8) H.sw2 (0:Int) rfl rfl rfl ⟨by decide,by decide⟩ rfl rfl (by omega) (by omega) fun o' h5 H=>?_
  simp -implicitDefEqProofs (disch:=first|omega|(simp only[LnZ];omega))[wrap64,setC,H.rep.one,H.rep.cells,hO2,hC2]
  exact RetK.keep (hfin (H.sw1.under fun _ H=>H.sw1) (by omega) (by omega) (by (try simp);omega) (by (try simp);omega))
 by_cases c1:r1=1
 ·by_cases d1:0<a.length
  ·simp -implicitDefEqProofs (disch:=first|omega|(simp only[LnZ];omega))[wrap64,c0,c1,H.sw2.rep.len,d1]
   refine H.bls [(-1:Int),4,3,9223372036854775807,10] rfl rfl (okL (by decide)) (by decide) fun q hq H=>?_
   simp -implicitDefEqProofs (disch:=omega)[wrap64]
   refine (c_num R H (by omega) (by omega) (by simp)).go ?_
   rintro _ h4 ⟨r2,rfl,q2,_,H⟩
   have hia:iaV 1 o1 (.int .i64 0)=some (elp 1 o1 0):=(H.sw2.rep.X (n:=1) rfl).1 .i64 0 (by omega)
   simp -implicitDefEqProofs (disch:=first|omega|(simp only[LnZ];omega))[wrap64,hia]
   refine H.sw2.storeF r2 (i:=0) (by omega) rfl rfl q2 rfl fun h6 H=>?_
   simp -implicitDefEqProofs (disch:=first|omega|(simp only[LnZ];omega))[wrap64,setC,hO1,hC1,hO2,hC2]
   exact RetK.keep (hfin (H.sw1.under fun _ H=>H.sw1) (by omega) (by omega) (by (try simp);omega) (by (try simp);omega))
  ·simp -implicitDefEqProofs (disch:=first|omega|(simp only[LnZ];omega))[wrap64,c0,c1,H.sw2.rep.len,d1,setC,hO1,hC1,hO2,hC2]
   exact RetK.keep (hfin H (by omega) (by omega) (by (try simp);omega) (by (try simp);omega))
 by_cases c2:r1=2
 ·by_cases d1:0<c.length
  ·simp -implicitDefEqProofs (disch:=first|omega|(simp only[LnZ];omega))[wrap64,c0,c1,c2,H.sw1.rep.len,d1]
   refine⟨?_,?_⟩
   ·simp -implicitDefEqProofs (disch:=omega)[wrap64]
    refine (c_pick (n:=c.length) R H (by omega) (by omega) ⟨by omega,by omega⟩).go ?_
    rintro _ h4 ⟨r2,rfl,q2,z2,y2,H⟩
    obtain⟨i,rfl⟩:∃i:Nat,r2=i:=⟨r2.toNat,(Int.toNat_of_nonneg z2).symm⟩
    have hi:i<c.length:=by have:=y2 (by omega);omega
    simp -implicitDefEqProofs (disch:=omega)[wrap64]
    refine H.bls [(-1:Int),4,3,12] rfl rfl (okL (by decide)) (by decide) fun q hq H=>?_
    simp -implicitDefEqProofs (disch:=omega)[wrap64]
    refine (c_num R H (by omega) (by omega) (by simp)).go ?_
    rintro _ h4 ⟨r3,rfl,q3,_,H⟩
    simp -implicitDefEqProofs (disch:=first|omega|(simp only[LnZ];omega))[wrap64,H.sw1.rep.I]
    refine H.sw1.storeF r3 (i:=i) hi rfl rfl q3 rfl fun h6 H=>?_
    simp -implicitDefEqProofs (disch:=first|omega|(simp only[LnZ];omega))[wrap64,setC,hO1,hC1,hO2,hC2]
    exact RetK.keep (hfin H.sw1 (by omega) (by omega) (by (try simp);omega) (by (try simp);omega))
   ·simp -implicitDefEqProofs (disch:=omega)[wrap64]
    refine H.bls [(-1:Int),4,3,12] rfl rfl (okL (by decide)) (by decide) fun q hq H=>?_
    simp -implicitDefEqProofs (disch:=omega)[wrap64]
    refine (c_pick (n:=c.length) R H.sw1 (by omega) (by omega) ⟨by omega,by omega⟩).go ?_
    rintro _ h4 ⟨r2,rfl,q2,z2,y2,H⟩
    obtain⟨i,rfl⟩:∃i:Nat,r2=i:=⟨r2.toNat,(Int.toNat_of_nonneg z2).symm⟩
    have hi:i<c.length:=by have:=y2 (by omega);omega
    simp -implicitDefEqProofs (disch:=omega)[wrap64]
    refine (c_num R H.sw1 (by omega) (by omega) (by simp)).go ?_
    rintro _ h4 ⟨r3,rfl,q3,_,H⟩
    simp -implicitDefEqProofs (disch:=first|omega|(simp only[LnZ];omega))[wrap64,H.sw1.rep.I]
    refine H.sw1.storeF r3 (i:=i) hi rfl rfl q3 rfl fun h6 H=>?_
    simp -implicitDefEqProofs (disch:=first|omega|(simp only[LnZ];omega))[wrap64,setC,hO1,hC1,hO2,hC2]
    exact RetK.keep (hfin H.sw1 (by omega) (by omega) (by (try simp);omega) (by (try simp);omega))
  ·simp -implicitDefEqProofs (disch:=first|omega|(simp only[LnZ];omega))[wrap64,c0,c1,c2,H.sw1.rep.len,d1,setC,hO1,hC1,hO2,hC2]
   exact RetK.keep (hfin H (by omega) (by omega) (by (try simp);omega) (by (try simp);omega))
 by_cases c3:r1=3
 ·simp -implicitDefEqProofs (disch:=first|omega|(simp only[LnZ];omega))[wrap64,c0,c1,c2,c3,setC]
  exact RetK.keep (hk _ _ ⟨⟨[],[]⟩,p+1,HS.mkSta (a:=⟨[],[]⟩) ((H.under fun _ H=>H.drop.drop).nil_ow.nil_ow),⟨by simp,by simp⟩,by omega,by omega⟩)
 ·simp -implicitDefEqProofs (disch:=first|omega|(simp only[LnZ];omega))[wrap64,c0,c1,c2,c3,setC,hO1,hC1,hO2,hC2]
  exact RetK.keep (hfin H (by omega) (by omega) (by (try simp);omega) (by (try simp);omega))
def RD3L (h:Heap):Value→Heap→Prop:=fun u h'=>∃(u1 u2:Value) (s:Sy) (st:Sta),u=.tuple #[u1,u2]∧HS h [ow u1 s,ow u2 st] h'∧st.locs.length≤5∧st.vals.length≤5
theorem c_DrawStateValidL {h:Heap}{v:Value}{l:List (BitVec 8)}(R:Rep h v l):CallE Try.prog fn_spec_DrawStateValid [v] h (RD3L h):=by
 refine CallE.gen fun k hk=>EN_spec_DrawStateValid rfl ?_
 simp -implicitDefEqProofs (disch:=omega)[wrap64]
 refine (c_l16Open R).go ?_
 rintro _ h1 ⟨b,sl,l',rfl,R',H⟩
 simp -implicitDefEqProofs (disch:=omega)[wrap64]
 refine (c_l2System R' H (by omega) (by omega)).go ?_
 rintro u h2 ⟨s,p1,H,hs,hp1,hp2⟩
 have FS:=H.rep.aSy
 simp -implicitDefEqProofs (disch:=first|omega|(simp only[LnZ];omega))[wrap64,FS,setC]
 obtain⟨g1,H1,H2⟩:=HS.rebase (Δ:=[rb b sl p1]) H.sw1
 refine (c_l3State (R'.on H1) H1.rep H2 (by omega) (by omega)).go ?_
 rintro w h3 ⟨st,p2,H3,hst,hp3,hp4⟩
 have H:=H3.app H1
 have FT:=H.rep.aSta
 simp -implicitDefEqProofs (disch:=first|omega|(simp only[LnZ];omega))[wrap64,FT,FS]
 obtain⟨g2,H1,H2⟩:=HS.rebase (Δ:=[rb b sl p2]) H.sw1
 refine (c_l3Mutate (R'.on H1) H1.rep hst H2 (by omega) (by omega)).go ?_
 rintro w2 h4 ⟨st2,p3,H3,hst2,hp5,hp6⟩
 have H:=H3.app H1
 have FT2:=H.rep.aSta
 simp -implicitDefEqProofs (disch:=first|omega|(simp only[LnZ];omega))[wrap64,FT2,FS,setC]
 obtain⟨g3,H1,H2⟩:=HS.rebase (Δ:=[rb b sl p3]) H.sw1
 refine (c_l2Mutate (R'.on H1) H1.sw2.rep hs (by omega) (by omega) H2 (by omega) (by omega)).go ?_
 rintro x h5 ⟨y,p4,H3,hy,hp7,hp8⟩
 have H:=H3.app H1
 have FY:=H.rep.aSy
 simp -implicitDefEqProofs (disch:=first|omega|(simp only[LnZ];omega))[wrap64,FY,FT2,setC]
 exact RetK.keep (hk _ _ ⟨x,w2,y,st2,rfl,(H.under fun _ H=>H.drop.only),hst2⟩)
theorem Tx_eta (b:ByteArray):Tx b.data.toList=b:=rfl
namespace Exq
theorem nod_kids2 {x:Exq}(hl:x.kids.length=2):x.nod=1+(x.kids[0].nod+x.kids[1].nod):=by
 rw[nod_eq]
 obtain⟨a,b,h⟩:∃a b,x.kids=[a,b]:=by
  match h:x.kids,hl with
  | [a,b],_=>exact⟨a,b,rfl⟩
 simp only[h]
 simp[nods]
theorem nod_kids1 {x:Exq}(hl:x.kids.length=1):x.nod=1+x.kids[0].nod:=by
 rw[nod_eq]
 obtain⟨a,h⟩:=List.length_eq_one_iff.1 hl
 simp only[h]
 simp[nods]
theorem fmt_len:∀{n:Nat}{x:Exq},x.Shp n→1≤x.fmt.length∧x.fmt.length≤3*x.nod
 | 0,_,h=>h.elim
 | n+1,x,h=>by
  have hn:=h.nd
  rcases hn.cases with k | k | k | k
  ·rw[fmt1 k,nod_eq];simp;omega
  ·rw[fmt2 k,nod_eq];simp;omega
  ·have hl:=hn.k3 k
   have:=fmt_len (h.kid (i:=0) (by omega))
   rw[fmt3 k (by omega),nod_kids1 hl,List.length_cons];omega
  ·have hl:=hn.k4 k.1
   have h0:=fmt_len (h.kid (i:=0) (by omega))
   have h1:=fmt_len (h.kid (i:=1) (by omega))
   rw[fmt4 k.1 (by omega),nod_kids2 hl]
   simp only[List.length_cons,List.length_append,List.length_nil];omega
theorem Ok.fmt_len {x:Exq}(h:x.Ok):1≤x.fmt.length∧x.fmt.length≤45:=by
 have:=Exq.fmt_len h.1
 have:=h.2
 omega
end Exq
theorem c_l16Dec {h:Heap}{n:Int}(h0:0≤n) (h9:n≤9):CallE Try.prog fn_spec_l16Dec [.int .i64 n] h (fun u h'=>h.le h'∧u=.string (Tx [dg n])):=by
 obtain⟨m,rfl⟩:∃m:Nat,n=m:=⟨n.toNat,by omega⟩
 refine CallE.gen fun k hk=>EN_spec_l16Dec rfl ?_
 have a1:¬(m:Int) < -9223372036854775807:=by omega
 have a2:¬(m:Int)<0:=by omega
 simp -implicitDefEqProofs (disch:=first|omega|(simp only[LnZ];omega))[wrap64,a1,a2]
 refine wp_count 0 (fun i e h'=>e=[some (.int .i64 m),none,some (.string (Tx []))]∧h'=h) ⟨by simp,rfl⟩ ?_
 rintro J i _ h1 hJ hi ⟨rfl,rfl⟩
 have a3:¬9<(m:Int):=by omega
 have a4:IntKind.u8.wrap (48+(m:Int))=((48+m:Nat):Int):=by rw[← u8_small (m:=48+m) (by omega)];rfl
 have a5:(48+m)%256=48+m:=by omega
 simp -implicitDefEqProofs (disch:=first|omega|(simp only[LnZ];omega))[wrap64,a3,a4]
 refine HS.bls (HS.init (h:=h1)) [BitVec.ofNat 8 (48+m)] (by simp[fillP,setC,reps,encL,Flat.enc,a5]) rfl (by simp[Flat.ok]) (by simp) fun v h2 H=>?_
 simp -implicitDefEqProofs (disch:=omega)[wrap64]
 refine HS.bstr H.rep [dg m] rfl (by simp) rfl ?_
 simp -implicitDefEqProofs (disch:=omega)[wrap64]
 exact RetK.keep (hk _ _ ⟨H.base,by simp⟩)
end Go.Proofs.Ytjbjnicobdpdhaa
