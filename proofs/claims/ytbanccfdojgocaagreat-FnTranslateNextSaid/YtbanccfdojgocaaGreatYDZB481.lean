/-
  Texts of this proof, one behind the other.
-/
import Derived.Test.YtbanccfdojgocaaGreatYF7
set_option linter.all false
set_option linter.unusedVariables false
set_option linter.unusedSimpArgs false
set_option linter.defProp false
set_option maxRecDepth 1000000
namespace Go.Proofs.YtbanccfdojgocaaGreat
open Go
def H_impl_SuffixAt:Hint:=⟨[(0,false),(1,false),(2,true),(4,true),(5,false),(6,false)],[]⟩
def K23_1:Pl:=.x 17 (.build [.slice none 0 0,.slice none 0 0] [(0,1,.c (.slice none 0 0)),(1,1,.v 16)]) <|
 .o (.pset none 3 0 2 (.v 17)) <|
 .x 4 (.mv (.c (.bool true))) .done
@[simp] def W23_1 := Pl.w K23_1.eq_1
def K23_2:Pl:=.c 16 (.call fn_slices_Clip_S_int_int [.v 15]) K23_1
@[simp] def W23_2 := Pl.w K23_2.eq_1
def K23_3:Pl:=.c 15 (.call fn_slices_Concat_S_int_int [.v 14]) K23_2
@[simp] def W23_3 := Pl.w K23_3.eq_1
def K23_4:C:=.seq (.pl <| .e 6 12 <|
 .a 6 2 <|
 .g 7 6 2 1 <|
 .m 8 5 <|
 .x 9 (.sliceV 1 (.v 7) (some (.v 8)) none none) <|
 .a 10 2 <|
 .g 11 10 2 1 <|
 .m 12 5 <|
 .x 13 (.sliceV 1 (.v 11) none (some (.v 12)) none) <|
 .c 14 (.bls 1 2 [.slice none 0 0] [(0,1,.v 9),(1,1,.v 13)]) K23_3) (.ret)
@[simp] def W23_4 := C.w K23_4.eq_1
def K23_5:C:=.seq (.pl <| .e 6 9 <|
 .m 6 1 <|
 .a 7 2 <|
 .g 8 7 2 0 <|
 .x 9 (.lenV (.v 8)) <|
 .x 10 (.bin .sub (.v 6) (.v 9)) <|
 .a 11 2 <|
 .g 12 11 2 1 <|
 .x 13 (.lenV (.v 12)) <|
 .x 14 (.bin .rem (.v 10) (.v 13)) <|
 .m 5 14 .done) K23_4
@[simp] def W23_5 := C.w K23_5.eq_1
def K23_6:C:=.seq (.pl <| .e 6 1 <|
 .x 6 (.build [.slice none 0 0,.slice none 0 0] []) <|
 .o (.pset none 3 0 2 (.v 6)) <|
 .x 4 (.mv (.c (.bool false))) .done) (.ret)
@[simp] def W23_6 := C.w K23_6.eq_1
def K23_7:Pl:=.x 14 (.build [.slice none 0 0,.slice none 0 0] [(0,1,.v 10),(1,1,.v 13)]) <|
 .o (.pset none 3 0 2 (.v 14)) <|
 .x 4 (.mv (.c (.bool true))) .done
@[simp] def W23_7 := Pl.w K23_7.eq_1
def K23_8:Pl:=.c 13 (.call fn_impl_clone_int [.v 12]) K23_7
@[simp] def W23_8 := Pl.w K23_8.eq_1
def K23_9:C:=.seq (.pl <| .e 6 9 <|
 .a 6 2 <|
 .g 7 6 2 0 <|
 .m 8 1 <|
 .x 9 (.sliceV 1 (.v 7) (some (.v 8)) none none) <|
 .a 11 2 <|
 .g 12 11 2 1 <|
 .c 10 (.call fn_impl_clone_int [.v 9]) K23_8) (.ret)
@[simp] def W23_9 := C.w K23_9.eq_1
def K23_10:C:=.cond 6 (.v 11) K23_9 (.skip)
@[simp] def W23_10 := C.w K23_10.eq_1
def K23_11:C:=.seq (.pl <| .e 6 6 <|
 .m 6 1 <|
 .a 7 2 <|
 .g 8 7 2 0 <|
 .x 9 (.lenV (.v 8)) <|
 .x 10 (.bin .lss (.v 6) (.v 9)) <|
 .m 11 10 .done) K23_10
@[simp] def W23_11 := C.w K23_11.eq_1
def K23_12:C:=.cond 6 (.v 13) K23_6 K23_11
@[simp] def W23_12 := C.w K23_12.eq_1
def K23_13:Pl:=.x 8 (.un .not (.v 7)) <|
 .m 9 8 <|
 .n 9 (.px (some 10) (.mv (.v 1))) <|
 .n 9 (.px (some 11) (.bin .lss (.v 10) (.c (.int .i64 0)))) <|
 .x 12 (.pick (.v 9) (.c (.bool true)) (.v 11)) <|
 .m 13 12 .done
@[simp] def W23_13 := Pl.w K23_13.eq_1
def K23_14:C:=.seq (.block 0 (.seq (.pl <| .e 6 8 <|
 .o (.pget (some 6) none 2 0 (some 2)) <|
 .c 7 (.call fn_impl_LassoValid [.v 6]) K23_13) K23_12)) K23_5
@[simp] def W23_14 := C.w K23_14.eq_1
def B_impl_SuffixAt:C:=.seq (.pl <| .e 6 0 <|
 .o (.pnew 2 (.v 0) []) <|
 .o (.pnew 3 (.c (.agg #[.slice none 0 0,.slice none 0 0])) []) <|
 .x 4 (.mv (.c (.bool false))) .done) K23_14
@[simp] def WB_impl_SuffixAt := C.w B_impl_SuffixAt.eq_1
def R_impl_SuffixAt:FIR:=⟨B_impl_SuffixAt,6,[(3,some (some 2)),(4,none)]⟩
theorem IR_impl_SuffixAt:cfun Tryz.prog H_impl_SuffixAt Tryz.f23=some R_impl_SuffixAt:=by kernel_rfl
theorem EN_impl_SuffixAt:ENT Tryz.prog B_impl_SuffixAt [(3,some (some 2)),(4,none)] 2 6 fn_impl_SuffixAt:=fun hargs hw=>enter Tryz.func23 rfl IR_impl_SuffixAt hargs hw
def H_laws_FnTranslateNext:Hint:=⟨[(0,false),(1,false),(4,false),(5,true),(6,true),(7,true),(8,true),(9,false),(10,true),(11,false),(12,true),(13,false),(14,true),(15,false),(16,false),(17,false),(18,false),(19,false)],[]⟩
def K5_1:C:=.seq (.pl <| .e 18 9 <|
 .m 18 15 <|
 .m 19 18 <|
 .y 19 (.px (some 20) (.mv (.v 17))) <|
 .x 21 (.pick (.v 19) (.v 20) (.c (.bool false))) <|
 .m 22 21 <|
 .y 22 (.px (some 23) (.mv (.v 14))) <|
 .y 22 (.px (some 24) (.mv (.v 16))) <|
 .y 22 (.px (some 25) (.eqb false (.v 23) (.v 24))) <|
 .x 26 (.pick (.v 22) (.v 25) (.c (.bool false))) <|
 .m 2 26 .done) (.ret)
@[simp] def W5_1 := C.w K5_1.eq_1
def K5_2:Pl:=.m 21 20 <|
 .x 22 (.extract 0 (.v 21)) <|
 .x 23 (.extract 1 (.v 21)) <|
 .m 16 22 <|
 .m 17 23 .done
@[simp] def W5_2 := Pl.w K5_2.eq_1
def K5_3:C:=.seq (.pl <| .e 18 6 <|
 .o (.pget (some 18) none 10 0 (some 3)) <|
 .o (.pget (some 19) none 5 0 (some 2)) <|
 .c 20 (.call fn_impl_Accepts [.v 18,.v 19]) K5_2) K5_1
@[simp] def W5_3 := C.w K5_3.eq_1
def K5_4:Pl:=.m 21 20 <|
 .x 22 (.extract 0 (.v 21)) <|
 .x 23 (.extract 1 (.v 21)) <|
 .m 14 22 <|
 .m 15 23 .done
@[simp] def W5_4 := Pl.w K5_4.eq_1
def K5_5:C:=.seq (.pl <| .e 18 6 <|
 .o (.pget (some 18) none 6 0 (some 3)) <|
 .o (.pget (some 19) none 12 0 (some 2)) <|
 .c 20 (.call fn_impl_Accepts [.v 18,.v 19]) K5_4) K5_3
@[simp] def W5_5 := C.w K5_5.eq_1
def K5_6:Pl:=.x 25 (.pick (.v 21) (.v 24) (.c (.bool false))) <|
 .m 2 25 .done
@[simp] def W5_6 := Pl.w K5_6.eq_1
def K5_7:C:=.seq (.pl <| .e 18 8 <|
 .m 18 7 <|
 .m 19 9 <|
 .x 20 (.eqb false (.v 18) (.v 19)) <|
 .m 21 20 <|
 .y 21 (.pget (some 22) none 6 0 (some 3)) <|
 .y 21 (.pget (some 23) none 8 0 (some 3)) <|
 .st (.act (some (.v 21,true)) (.ex (some 24) (.call fn_impl_AutomatonSame [.v 22,.v 23]))) K5_6) (.ret)
@[simp] def W5_7 := C.w K5_7.eq_1
def K5_8:C:=.cond 18 (.v 38) K5_7 (.skip)
@[simp] def W5_8 := C.w K5_8.eq_1
def K5_9:Pl:=.n 21 (.px (some 25) (.un .not (.v 24))) <|
 .x 26 (.pick (.v 21) (.c (.bool true)) (.v 25)) <|
 .m 27 26 <|
 .n 27 (.px (some 28) (.mv (.v 7))) <|
 .n 27 (.px (some 29) (.un .not (.v 28))) <|
 .x 30 (.pick (.v 27) (.c (.bool true)) (.v 29)) <|
 .m 31 30 <|
 .n 31 (.px (some 32) (.mv (.v 11))) <|
 .n 31 (.px (some 33) (.un .not (.v 32))) <|
 .x 34 (.pick (.v 31) (.c (.bool true)) (.v 33)) <|
 .m 35 34 <|
 .n 35 (.px (some 36) (.mv (.v 13))) <|
 .n 35 (.px (some 37) (.un .not (.v 36))) <|
 .x 38 (.pick (.v 35) (.c (.bool true)) (.v 37)) .done
@[simp] def W5_9 := Pl.w K5_9.eq_1
def K5_10:C:=.seq (.seq (.pl <| .e 18 21 <|
 .m 18 7 <|
 .m 19 9 <|
 .x 20 (.eqb true (.v 18) (.v 19)) <|
 .m 21 20 <|
 .n 21 (.pget (some 22) none 6 0 (some 3)) <|
 .n 21 (.pget (some 23) none 8 0 (some 3)) <|
 .st (.act (some (.v 21,false)) (.ex (some 24) (.call fn_impl_AutomatonSame [.v 22,.v 23]))) K5_9) K5_8) K5_5
@[simp] def W5_10 := C.w K5_10.eq_1
def K5_11:Pl:=.m 20 19 <|
 .x 21 (.extract 0 (.v 20)) <|
 .x 22 (.extract 1 (.v 20)) <|
 .o (.pnew 12 (.c (.agg #[.slice none 0 0,.slice none 0 0])) []) <|
 .o (.pset none 12 0 2 (.v 21)) <|
 .m 13 22 .done
@[simp] def W5_11 := Pl.w K5_11.eq_1
def K5_12:C:=.seq (.pl <| .e 18 5 <|
 .o (.pget (some 18) none 5 0 (some 2)) <|
 .c 19 (.call fn_impl_SuffixAt [.v 18,.c (.int .i64 1)]) K5_11) K5_10
@[simp] def W5_12 := C.w K5_12.eq_1
def K5_13:Pl:=.m 22 21 <|
 .x 23 (.extract 0 (.v 22)) <|
 .x 24 (.extract 1 (.v 22)) <|
 .o (.pnew 10 (.c (.agg #[.slice none 0 0,.slice none 0 0,.slice none 0 0])) []) <|
 .o (.pset none 10 0 3 (.v 23)) <|
 .m 11 24 .done
@[simp] def W5_13 := Pl.w K5_13.eq_1
def K5_14:Pl:=.x 20 (.build [.int .i64 0,.int .i64 0,.slice none 0 0] [(0,1,.c (.int .i64 6)),(2,1,.v 19)]) <|
 .c 21 (.call fn_impl_TranslateFormula [.v 20]) K5_13
@[simp] def W5_14 := Pl.w K5_14.eq_1
def K5_15:C:=.seq (.pl <| .e 18 7 <|
 .o (.pget (some 18) none 3 0 (some 3)) <|
 .c 19 (.bls 3 1 [.int .i64 0,.int .i64 0,.slice none 0 0] [(0,3,.v 18)]) K5_14) K5_12
@[simp] def W5_15 := C.w K5_15.eq_1
def K5_16:Pl:=.m 20 19 <|
 .x 21 (.extract 0 (.v 20)) <|
 .x 22 (.extract 1 (.v 20)) <|
 .o (.pnew 8 (.c (.agg #[.slice none 0 0,.slice none 0 0,.slice none 0 0])) []) <|
 .o (.pset none 8 0 3 (.v 21)) <|
 .m 9 22 .done
@[simp] def W5_16 := Pl.w K5_16.eq_1
def K5_17:C:=.seq (.pl <| .e 18 5 <|
 .o (.pget (some 18) none 3 0 (some 3)) <|
 .c 19 (.call fn_spec_TranslateFormula [.v 18]) K5_16) K5_15
@[simp] def W5_17 := C.w K5_17.eq_1
def K5_18:Pl:=.m 20 19 <|
 .x 21 (.extract 0 (.v 20)) <|
 .x 22 (.extract 1 (.v 20)) <|
 .o (.pnew 6 (.c (.agg #[.slice none 0 0,.slice none 0 0,.slice none 0 0])) []) <|
 .o (.pset none 6 0 3 (.v 21)) <|
 .m 7 22 .done
@[simp] def W5_18 := Pl.w K5_18.eq_1
def K5_19:C:=.seq (.pl <| .e 18 5 <|
 .o (.pget (some 18) none 3 0 (some 3)) <|
 .c 19 (.call fn_impl_TranslateFormula [.v 18]) K5_18) K5_17
@[simp] def W5_19 := C.w K5_19.eq_1
def K5_20:Pl:=.m 20 19 <|
 .x 21 (.extract 0 (.v 20)) <|
 .x 22 (.extract 1 (.v 20)) <|
 .o (.pnew 4 (.c (.agg #[.slice none 0 0,.slice none 0 0,.slice none 0 0])) []) <|
 .o (.pnew 5 (.c (.agg #[.slice none 0 0,.slice none 0 0])) []) <|
 .o (.pset none 4 0 3 (.v 21)) <|
 .o (.pset none 5 0 2 (.v 22)) .done
@[simp] def W5_20 := Pl.w K5_20.eq_1
def K5_21:C:=.seq (.pl <| .e 18 5 <|
 .m 18 1 <|
 .c 19 (.call fn_spec_DrawAccepts [.v 18]) K5_20) K5_19
@[simp] def W5_21 := C.w K5_21.eq_1
def K5_22:Pl:=.o (.pnew 3 (.c (.agg #[.int .i64 0,.int .i64 0,.slice none 0 0])) []) <|
 .o (.pset none 3 0 3 (.v 19)) .done
@[simp] def W5_22 := Pl.w K5_22.eq_1
def K5_23:C:=.seq (.pl <| .e 18 2 <|
 .m 18 0 <|
 .c 19 (.call fn_spec_DrawTranslateFormula [.v 18]) K5_22) K5_21
@[simp] def W5_23 := C.w K5_23.eq_1
def K5_24:C:=.seq (.pl <| .e 18 0 <|
 .x 2 (.mv (.c (.bool true))) .done) (.ret)
@[simp] def W5_24 := C.w K5_24.eq_1
def K5_25:C:=.cond 18 (.v 25) K5_24 (.skip)
@[simp] def W5_25 := C.w K5_25.eq_1
def K5_26:C:=.seq (.seq (.pl <| .e 18 8 <|
 .m 18 0 <|
 .x 19 (.lenV (.v 18)) <|
 .x 20 (.bin .gtr (.v 19) (.c (.int .i64 1048576))) <|
 .m 21 20 <|
 .n 21 (.px (some 22) (.mv (.v 1))) <|
 .n 21 (.px (some 23) (.lenV (.v 22))) <|
 .n 21 (.px (some 24) (.bin .gtr (.v 23) (.c (.int .i64 1048576)))) <|
 .x 25 (.pick (.v 21) (.c (.bool true)) (.v 24)) .done) K5_25) K5_23
@[simp] def W5_26 := C.w K5_26.eq_1
def B_laws_FnTranslateNext:C:=.seq (.pl <| .e 18 0 <|
 .x 2 (.mv (.c (.bool false))) .done) K5_26
@[simp] def WB_laws_FnTranslateNext := C.w B_laws_FnTranslateNext.eq_1
def R_laws_FnTranslateNext:FIR:=⟨B_laws_FnTranslateNext,18,[(2,none)]⟩
theorem IR_laws_FnTranslateNext:cfun Tryz.prog H_laws_FnTranslateNext Tryz.f5=some R_laws_FnTranslateNext:=by kernel_rfl
theorem EN_laws_FnTranslateNext:ENT Tryz.prog B_laws_FnTranslateNext [(2,none)] 2 18 fn_laws_FnTranslateNext:=fun hargs hw=>enter Tryz.func5 rfl IR_laws_FnTranslateNext hargs hw
end Go.Proofs.YtbanccfdojgocaaGreat

namespace Go.Proofs.YtbanccfdojgocaaGreat
open Go
end Go.Proofs.YtbanccfdojgocaaGreat

namespace Go.Proofs.YtbanccfdojgocaaGreat
open Go
section
variable {l:Las}
theorem mod_succ {j L:Nat}(hL:0<L):(j+1) % L=if j % L+1=L then 0 else j % L+1:=by
 have h:=Nat.mod_lt j hL
 rw[← Nat.mod_add_mod]
 split
 ·rename_i e; rw[e,Nat.mod_self]
 ·exact Nat.mod_eq_of_lt (by omega)
theorem Las.pos_loop (hl:1≤l.loop.length):∀j:Nat,l.pos (l.stem.length+j)=l.stem.length+j % l.loop.length
 | 0=>by
  rw[Nat.zero_mod,Nat.add_zero]
  exact Las.pos_stem (by unfold Las.size; omega)
 | j+1=>by
  have ih:=Las.pos_loop hl j
  have h:=Nat.mod_lt j (show 0<l.loop.length by omega)
  rw[← Nat.add_assoc,Las.pos,ih,Las.nx,mod_succ (by omega)]
  unfold Las.size
  by_cases e:j % l.loop.length+1=l.loop.length
  ·rw[if_pos (by omega),if_pos e]; rfl
  ·rw[if_neg (by omega),if_neg e]; omega
theorem Las.word_stem {t:Nat}(h:t<l.stem.length):l.word t=l.stem[t]:=by
 unfold Las.word
 rw[Las.pos_stem (by unfold Las.size; omega)]
 unfold Las.all
 rw[List.getD_eq_getElem?_getD,List.getElem?_append_left h,List.getElem?_eq_getElem h]
 rfl
theorem Las.word_loop (hl:1≤l.loop.length) (j:Nat):l.word (l.stem.length+j)=l.loop[j % l.loop.length]'(Nat.mod_lt _ (by omega)):=by
 have h:=Nat.mod_lt j (show 0<l.loop.length by omega)
 unfold Las.word
 rw[Las.pos_loop hl]
 unfold Las.all
 rw[List.getD_eq_getElem?_getD,List.getElem?_append_right (by omega),Nat.add_sub_cancel_left,List.getElem?_eq_getElem h]
 rfl
end
section
variable {E:List Tr}
end
namespace Bf
section
variable {a:Aut}
end
end Bf
end Go.Proofs.YtbanccfdojgocaaGreat

namespace Go.Proofs.YtbanccfdojgocaaGreat
open Go
def Las.sfx (l:Las) (i:Nat):Las:=if i<l.stem.length then ⟨l.stem.drop i,l.loop⟩ else ⟨[],l.loop.drop ((i-l.stem.length) % l.loop.length)++l.loop.take ((i-l.stem.length) % l.loop.length)⟩
theorem rot_get {l:List Int}{k m:Nat}(hk:k<l.length) (hm:m<l.length):(l.drop k++l.take k)[m]'(by simp only[List.length_append,List.length_drop,List.length_take]; omega)=l[(m+k) % l.length]'(Nat.mod_lt _ (by omega)):=by
 by_cases h:m<l.length-k
 ·rw[List.getElem_append_left (by simpa using h),List.getElem_drop]
  congr 1
  rw[Nat.mod_eq_of_lt (by omega)]
  omega
 ·rw[List.getElem_append_right (by simp only[List.length_drop]; omega),List.getElem_take]
  congr 1
  simp only[List.length_drop]
  rw[Nat.mod_eq_sub_mod (by omega),Nat.mod_eq_of_lt (by omega)]
  omega
theorem Las.sfx_ok {l:Las}(h:l.Ok) (i:Nat):(l.sfx i).Ok:=by
 obtain⟨⟨h1,h2⟩,h3,h4,h5⟩:=h
 unfold Las.sfx
 split
 ·exact⟨⟨fun x hx=>h1 x (List.mem_of_mem_drop hx),h2⟩,by simp only[List.length_drop]; omega,h4,h5⟩
 ·have hk:=Nat.mod_lt (i-l.stem.length) (show 0<l.loop.length by omega)
  refine⟨⟨fun x hx=>by simp at hx,fun x hx=>?_⟩,by simp,?_,?_⟩
  ·rcases List.mem_append.1 hx with hx | hx
   ·exact h2 x (List.mem_of_mem_drop hx)
   ·exact h2 x (List.mem_of_mem_take hx)
  ·simp only[List.length_append,List.length_drop,List.length_take]; omega
  ·simp only[List.length_append,List.length_drop,List.length_take]; omega
theorem Las.sfx_word {l:Las}(h4:1≤l.loop.length) (i t:Nat):(l.sfx i).word t=l.word (t+i):=by
 unfold Las.sfx
 split
 ·rename_i hi
  by_cases ht:t<(l.stem.drop i).length
  ·rw[Las.word_stem (l:=⟨l.stem.drop i,l.loop⟩) ht,Las.word_stem (by simp only[List.length_drop] at ht; omega)]
   simp only[List.getElem_drop]
   congr 1
   omega
  ·obtain⟨j,rfl⟩:∃j,t=(l.stem.drop i).length+j:=⟨t-(l.stem.drop i).length,by omega⟩
   have h1:=Las.word_loop (l:=⟨l.stem.drop i,l.loop⟩) h4 j
   simp only at h1
   rw[h1,show (l.stem.drop i).length+j+i=l.stem.length+j by simp only[List.length_drop]; omega,Las.word_loop h4]
 ·rename_i hi
  obtain⟨k,hk⟩:∃k,k=(i-l.stem.length) % l.loop.length:=⟨_,rfl⟩
  have hkl:k<l.loop.length:=hk ▸ Nat.mod_lt _ (by omega)
  rw[← hk]
  have hlen:(l.loop.drop k++l.loop.take k).length=l.loop.length:=by simp only[List.length_append,List.length_drop,List.length_take]; omega
  have h1:=Las.word_loop (l:=⟨[],l.loop.drop k++l.loop.take k⟩) (by simp only[hlen]; exact h4) t
  simp only[List.length_nil,Nat.zero_add,hlen] at h1
  rw[h1,rot_get hkl (Nat.mod_lt _ (by omega)),show t+i=l.stem.length+(t+(i-l.stem.length)) by omega,Las.word_loop h4]
  congr 1
  rw[hk,← Nat.add_mod]
end Go.Proofs.YtbanccfdojgocaaGreat

namespace Go.Proofs.YtbanccfdojgocaaGreat
open Go
namespace Fm
theorem acc_next {x:Exq}(h:trOk x) (h2:trOk (.mk 6 0 [x])) {l:Las}(hl:l.Ok):(trA x).accB (l.sfx 1)=(trA (.mk 6 0 [x])).accB l:=by
 rw[Bool.eq_iff_iff,acc_sat h (Las.sfx_ok hl 1),acc_sat h2 hl,sat6 (x:=.mk 6 0 [x]) rfl]
 show _↔sat l.word x (0+1)
 rw[← sat_shift,sat_congr (fun t=>Las.sfx_word hl.2.2.1 1 t)]
end Fm
end Go.Proofs.YtbanccfdojgocaaGreat

namespace Go.Proofs.YtbanccfdojgocaaGreat
open Go
theorem Rep.tail {α:Type} [Ty α] {h:Heap}{v:Value}{l:List α}(R:Rep h v l) {n esz:Nat}{k:IntKind}(hn:n≤l.length) (he:esz=Ty.sz α):∃v',sliceVV esz v (some (some (.int k n))) none none=some v'∧Rep h v' (l.drop n):=by
 subst he
 obtain⟨p,cap,rfl,h1,h2,h3⟩:=Rep_list.1 R
 have hl:(l.drop n).length=l.length-n:=by simp
 have hv:sliceVV (Ty.sz α) (.slice p l.length cap) (some (some (.int k n))) none none=some (Value.slice (if cap=n then p else p.map fun a=>a.add (n*Ty.sz α)) (l.length-n) (cap-n)):=by
  simp[sliceVV,bndV,hn]
 refine⟨_,hv,?_⟩
 by_cases e:n=l.length
 ·have hd:l.drop n=[]:=by rw[e]; simp
  rw[hd,show l.length-n=0 by omega]
  exact Rep_list.2 ⟨_,cap-n,rfl,by simp,trivial,fun i hi=>by simp at hi⟩
 ·obtain⟨b,off,vs,rfl,_⟩:=h3 0 (by omega)
  rw[if_neg (by omega)]
  refine Rep_list.2 ⟨_,cap-n,by rw[hl],by rw[hl]; omega,trivial,fun i hi=>?_⟩
  rw[hl] at hi
  obtain⟨b',off',vs,e1,e2,e3⟩:=h3 (n+i) (by omega)
  simp only[Option.some.injEq,Addr.mk.injEq] at e1
  obtain⟨rfl,rfl,_⟩:=e1
  refine⟨b,off+n*Ty.sz α,vs,by simp[Addr.add],?_,by simpa using e3⟩
  rw[Nat.add_mul,← Nat.add_assoc] at e2
  exact e2
theorem c_SuffixAt {h:Heap}{v:Value}{l:Las}{i:Nat}(R:Rep h v l) (hi:i<1048576):CallE Tryz.prog fn_impl_SuffixAt [v,.int .i64 i] h (fun u h'=>∃w,u=.tuple #[w,.bool (decide l.Ok)]∧h.le h'∧Rep h' w (if l.Ok then l.sfx i else ⟨[],[]⟩)):=by
 have FL:=R.aLas
 have Rn:∀h,Rep h (.slice none 0 0) ([]:List Int):=fun h=>Own_nils.rep.le fun _ _ h=>by simp[Heap.nil] at h
 obtain⟨v1,v2,rfl,R1,R2⟩:=Rep_Las.1 R
 refine CallE.gen fun k hk=>EN_impl_SuffixAt rfl ?_
 simp -implicitDefEqProofs (disch:=first|omega|(simp only[LnZ];omega))[wrap64,FL]
 refine (c_LassoValid R).go ?_
 rintro _ h1 ⟨l1,rfl⟩
 by_cases q:l.Ok
 case neg=>
  simp -implicitDefEqProofs (disch:=first|omega|(simp only[LnZ];omega))[wrap64,q,setC]
  exact RetK.keep (hk _ _ ⟨_,by rw[decide_eq_false q],l1,by rw[if_neg q]; exact Rep_Las.2 ⟨_,_,rfl,Rn _,Rn _⟩⟩)
 rw[if_pos q] at hk
 have q':=q
 obtain⟨_,q3,q4,q5⟩:=q'
 have R1:=R1.le l1
 have R2:=R2.le l1
 have hi0:¬(i:Int)<0:=by omega
 unfold Las.sfx at hk
 by_cases e:i<l.stem.length
 ·rw[if_pos e] at hk
  obtain⟨t,ht,Rt⟩:=R1.tail (n:=i) (esz:=1) (k:=.i64) (by omega) rfl
  have hL:=R1.lt
  simp -implicitDefEqProofs (disch:=first|omega|(simp only[LnZ];omega))[wrap64,q,hi0,R1.len,e,ht]
  refine (c_clone_int Rt (by simp; omega)).go ?_
  intro a h2 H
  simp -implicitDefEqProofs (disch:=first|omega|(simp only[LnZ];omega))[wrap64]
  refine (c_clone_int (R2.on H) (by omega)).go ?_
  intro b h3 G
  have H:=G.app H
  simp -implicitDefEqProofs (disch:=first|omega|(simp only[LnZ];omega))[wrap64,setC,H.rep.one,H.rep.cells,H.sw1.rep.one,H.sw1.rep.cells]
  exact RetK.keep (hk _ _ ⟨_,by rw[decide_eq_true q],l1.trans H.base,Rep_Las.2 ⟨_,_,rfl,H.sw1.rep,H.rep⟩⟩)
 ·rw[if_neg e] at hk
  have hsub:(i:Int)-(l.stem.length:Int)=((i-l.stem.length:Nat):Int):=by omega
  obtain⟨m,hm⟩:∃m,m=(i-l.stem.length) % l.loop.length:=⟨_,rfl⟩
  have hml:m<l.loop.length:=hm ▸ Nat.mod_lt _ (by omega)
  have htm:((i-l.stem.length:Nat):Int).tmod (l.loop.length:Int)=(m:Int):=by rw[hm]; exact (Int.ofNat_tmod _ _).symm
  rw[← hm] at hk
  obtain⟨t1,ht1,Rt1⟩:=R2.tail (n:=m) (esz:=1) (k:=.i64) (by omega) rfl
  obtain⟨t2,ht2,Rt2⟩:=R2.cut (n:=m) (esz:=1) (k:=.i64) (by omega)
  have hl0:¬(l.loop.length:Int)=0:=by omega
  have hl0':¬l.loop=[]:=fun e=>by rw[e] at hl0; simp at hl0
  simp -implicitDefEqProofs (disch:=first|omega|(simp only[LnZ];omega))[wrap64,q,hi0,R1.len,R2.len,e,hsub,htm,hl0,hl0',ht1,ht2]
  obtain⟨p1,c1,rfl,_⟩:=Rep_list.1 Rt1
  obtain⟨p2,c2,rfl,_⟩:=Rep_list.1 Rt2
  refine bls_two (α:=List Int) Rt1 Rt2 rfl fun sl h2 l2 Rs=>?_
  simp -implicitDefEqProofs (disch:=first|omega|(simp only[LnZ];omega))[wrap64]
  refine (c_Concat_int Rs (by simp; omega) (by simp; omega)).go ?_
  intro u h3 H
  simp -implicitDefEqProofs (disch:=first|omega|(simp only[LnZ];omega))[wrap64]
  refine (c_Clip_int H).go ?_
  intro u2 h4 H
  simp -implicitDefEqProofs (disch:=first|omega|(simp only[LnZ];omega))[wrap64,setC,H.rep.one,H.rep.cells]
  exact RetK.keep (hk _ _ ⟨_,by rw[decide_eq_true q],l1.trans (l2.trans H.base),Rep_Las.2 ⟨_,_,rfl,Rn _,H.rep⟩⟩)
end Go.Proofs.YtbanccfdojgocaaGreat

namespace Go.Proofs.YtbanccfdojgocaaGreat
open Go
theorem c_FnTranslateNext {h:Heap}{v w:Value}{l m:List (BitVec 8)}(R:Rep h v l) (RM0:Rep h w m):CallE Tryz.prog fn_laws_FnTranslateNext [v,w] h (fun u h'=>h.le h'∧u=.bool true):=by
 refine CallE.gen fun k hk=>EN_laws_FnTranslateNext rfl ?_
 by_cases a1:(1048576:Int)<l.length
 ·simp -implicitDefEqProofs (disch:=first|omega|(simp only[LnZ];omega))[wrap64,R.len,a1]
  exact RetK.keep (hk _ _ ⟨Heap.le.refl _,rfl⟩)
 by_cases a2:(1048576:Int)<m.length
 ·simp -implicitDefEqProofs (disch:=first|omega|(simp only[LnZ];omega))[wrap64,R.len,RM0.len,a1,a2]
  exact RetK.keep (hk _ _ ⟨Heap.le.refl _,rfl⟩)
 simp -implicitDefEqProofs (disch:=first|omega|(simp only[LnZ];omega))[wrap64,R.len,RM0.len,a1,a2]
 refine (c_DrawTranslateFormula R).go ?_
 rintro vf h1 ⟨x,l1,Rx⟩
 have FX:=Rx.aExq
 simp -implicitDefEqProofs (disch:=first|omega|(simp only[LnZ];omega))[wrap64,FX,setC]
 refine (c_DrawAccepts (RM0.le l1)).go ?_
 rintro _ h2 ⟨u1,u2,a',y,rfl,l2,Ra',Ry,_⟩
 have Rx:=Rx.le l2
 have FY:=Ry.aLas
 have FA':=Ra'.aAut
 simp -implicitDefEqProofs (disch:=first|omega|(simp only[LnZ];omega))[wrap64,FX,FY,FA',setC]
 refine (c_TranslateFormula Rx).go ?_
 rintro _ h3 ⟨w1,rfl,H⟩
 have FW:=H.rep.aAut
 simp -implicitDefEqProofs (disch:=first|omega|(simp only[LnZ];omega))[wrap64,FX,FW,setC]
 refine (c_spec_TranslateFormula (Rx.on H)).go ?_
 rintro _ h4 ⟨w2,rfl,H2⟩
 have H:=H2.app H
 have FV:=H.rep.aAut
 have RV:=H.rep
 have RW:=H.sw1.rep
 have lb:=(l1.trans l2).trans H.base
 have Rx:=Rx.on H
 have Ry:=Ry.on H
 clear H H2
 obtain⟨xw,hxw,_,_,_⟩:=Rep_Exq.1 Rx
 subst hxw
 simp -implicitDefEqProofs (disch:=first|omega|(simp only[LnZ];omega))[wrap64,FX,FV,setC]
 refine bls_one (α:=Exq) Rx rfl fun sl h5 l5 Rs=>?_
 have Rz:Rep h5 (.agg #[.int .i64 6,.int .i64 0,sl]) (Exq.mk 6 0 [x]):=Rep_Exq.2 ⟨_,rfl,show I64 6 from ⟨by decide,by decide⟩,i64_0,Rs⟩
 simp -implicitDefEqProofs (disch:=first|omega|(simp only[LnZ];omega))[wrap64,Rs.one,Rs.cells,setC]
 refine (c_TranslateFormula Rz).go ?_
 rintro _ h6 ⟨w3,rfl,H⟩
 have FB:=H.rep.aAut
 have RB:=H.rep
 have RV:=(RV.le l5).on H
 have RW:=(RW.le l5).on H
 have Ry:=(Ry.le l5).on H
 have lb:=lb.trans (l5.trans H.base)
 clear H
 simp -implicitDefEqProofs (disch:=first|omega|(simp only[LnZ];omega))[wrap64,FB,FY,setC]
 refine (c_SuffixAt (i:=1) Ry (by omega)).go ?_
 rintro _ h7 ⟨rw1,rfl,l7,Rr⟩
 have FR:=Rr.aLas
 have RV:=RV.le l7
 have RW:=RW.le l7
 have RB:=RB.le l7
 have Ry:=Ry.le l7
 have lb:=lb.trans l7
 have hret:∀{b:Bool},b=true→k (.bool b) h7:=fun e=>hk _ _ ⟨lb,by rw[e]⟩
 by_cases ha:Fm.trOk x
 case neg=>
  simp -implicitDefEqProofs (disch:=first|omega|(simp only[LnZ];omega))[wrap64,ha,FR,FW,FV,setC]
  refine (c_AutomatonSame RW RV).go ?_
  rintro _ _ ⟨rfl,rfl⟩
  simp -implicitDefEqProofs (disch:=first|omega|(simp only[LnZ];omega))[wrap64,FW,FV]
  refine (c_AutomatonSame RW RV).go ?_
  rintro _ _ ⟨rfl,rfl⟩
  simp -implicitDefEqProofs (disch:=first|omega|(simp only[LnZ];omega))[wrap64]
  exact RetK.keep (hk _ _ ⟨lb,rfl⟩)
 have hb:=Fm.trA_ok ha
 rw[Fm.trR,if_pos ha] at RV RW
 simp -implicitDefEqProofs (disch:=first|omega|(simp only[LnZ];omega))[wrap64,ha,FR,FW,FV,setC]
 refine (c_AutomatonSame RW RV).go ?_
 rintro _ _ ⟨rfl,rfl⟩
 by_cases hn:Fm.trOk (.mk 6 0 [x])
 case neg=>
  simp -implicitDefEqProofs (disch:=first|omega|(simp only[LnZ];omega))[wrap64,hn,FW,FV]
  refine (c_AutomatonSame RW RV).go ?_
  rintro _ _ ⟨rfl,rfl⟩
  simp -implicitDefEqProofs (disch:=first|omega|(simp only[LnZ];omega))[wrap64]
  exact RetK.keep (hk _ _ ⟨lb,rfl⟩)
 by_cases hy:y.Ok
 case neg=>
  simp -implicitDefEqProofs (disch:=first|omega|(simp only[LnZ];omega))[wrap64,hn,hy,FW,FV]
  refine (c_AutomatonSame RW RV).go ?_
  rintro _ _ ⟨rfl,rfl⟩
  simp -implicitDefEqProofs (disch:=first|omega|(simp only[LnZ];omega))[wrap64]
  exact RetK.keep (hk _ _ ⟨lb,rfl⟩)
 have hbn:=Fm.trA_ok hn
 rw[Fm.trR,if_pos hn] at RB
 rw[if_pos hy] at Rr
 have hso:=Las.sfx_ok hy 1
 simp -implicitDefEqProofs (disch:=first|omega|(simp only[LnZ];omega))[wrap64,hn,hy,FW,FR]
 refine (c_Accepts RW Rr).go ?_
 rintro _ h8 ⟨l8,rfl⟩
 simp -implicitDefEqProofs (disch:=first|omega|(simp only[LnZ];omega))[wrap64,FB,FY]
 refine (c_Accepts (RB.le l8) (Ry.le l8)).go ?_
 rintro _ h9 ⟨l9,rfl⟩
 rw[Fm.acc_next ha hn hy]
 simp -implicitDefEqProofs (disch:=first|omega|(simp only[LnZ];omega))[wrap64,hb,hbn,hso,hy]
 exact RetK.keep (hk _ _ ⟨lb.trans (l8.trans l9),rfl⟩)
end Go.Proofs.YtbanccfdojgocaaGreat
