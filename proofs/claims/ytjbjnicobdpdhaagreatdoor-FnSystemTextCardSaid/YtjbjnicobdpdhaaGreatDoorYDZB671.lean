/-
  Texts of this proof, one behind the other.
-/
import Derived.WalkKit
import Derived.ProofKit
import Derived.OpenShut
import Derived.Carry
import Derived.Deep.Slices
import Derived.SizedLaws
import Derived.Test.YtjbjnicobdpdhaaGreatDoorYF5
set_option linter.all false
set_option linter.unusedVariables false
set_option linter.unusedSimpArgs false
set_option linter.defProp false
set_option maxRecDepth 1000000
namespace Go.Proofs.YtjbjnicobdpdhaaGreatDoor
open Go
universe u
section
variable {P:Program}{Q:Ex→Env→Heap→Prop}{e:Env}{h:Heap}
end
section
variable {a b c h h' r r':Heap}
end
section
variable {α:Type} [Ty α] {h h' r:Heap}{v:Value}{x:α}
end
section
variable {α:Type} [Ty α]
end
section
variable {α:Type} [Ty α]
end
section
variable {α:Type} [Ty α] {h h' g r:Heap}{v:Value}{l:List α}
end
theorem Rep.okI {h:Heap}{v:Value}{l:List Int}(hr:Rep h v l) {i:Nat}(hi:i<l.length):-9223372036854775808≤l[i]∧l[i]<9223372036854775808:=hr.okF hi
section
variable {α:Type} [Ty α] {h h' g r r2 ru:Heap}{v u:Value}{l:List α}{i:Nat}
end
section
variable {α:Type} [Ty α] {P:Program}{k:Env→Heap→Prop}{e:Env}{h h' g r r2 ru rs:Heap}{v u:Value}{l l2:List α}{i:Nat}
end
section
variable {α:Type} [Ty α] {P:Program}{k:Env→Heap→Prop}{e:Env}{h g r:Heap}{v:Value}{l:List α}{i:Nat}
end
section
variable {P:Program}{e e':Env}{h:Heap}{Q:Ex→Env→Heap→Prop}{k:Env→Heap→Prop}
end
section
variable {g h h' r:Heap}
theorem HS.sw4 {a b c d f:HP}{Γ:List HP}(H:HS g (a::b::c::d::f::Γ) h):HS g (f::a::b::c::d::Γ) h:=(H.under fun _=>HS.sw3).sw1
theorem HS.sw5 {a b c d f f':HP}{Γ:List HP}(H:HS g (a::b::c::d::f::f'::Γ) h):HS g (f'::a::b::c::d::f::Γ) h:=(H.under fun _=>HS.sw4).sw1
theorem HS.sw6 {a b c d f f' f2:HP}{Γ:List HP}(H:HS g (a::b::c::d::f::f'::f2::Γ) h):HS g (f2::a::b::c::d::f::f'::Γ) h:=(H.under fun _=>HS.sw5).sw1
theorem HS.bk2 {a b c:HP}{Γ:List HP}(H:HS g (c::a::b::Γ) h):HS g (a::b::c::Γ) h:=H.sw2.sw2
end
section
variable {α:Type} [Ty α] {P:Program}{k:Env→Heap→Prop}{e:Env}{g h:Heap}{Γ:List HP}{v u:Value}{l l2:List α}{i:Nat}
end
section
variable {P:Program}{k:Env→Heap→Prop}{e:Env}{g h:Heap}{Γ:List HP}
end
section
variable {α:Type} [Ty α] {h:Heap}{v:Value}
end
section
variable {h:Heap}{v:Value}
end
theorem wp_while {P:Program}{Q:Ex→Env→Heap→Prop}{e:Env}{h:Heap}{n:Nat}{fg:List Nat}{a:C}{σ:Type}(Enc:σ→Env→Heap→Prop) (m:σ→Nat) (s0:σ) (h0:Enc s0 (efgt (e.take n) fg) h)
  (hs:∀(J:Env→Heap→Prop) s e h,(∀s' e h,m s'<m s→Enc s' e h→J e h)→Enc s e h→a.wp P (loopQ n fg J Q) e h):(C.loop n fg a).wp P Q e h:=by
 refine wp_loop (fun k e h=>∃s,m s=k∧Enc s e h) ⟨_,s0,rfl,h0⟩ ?_
 rintro I' k e h hI ⟨s,rfl,hE⟩
 exact hs I' s e h (fun s' e h hlt hE=>hI (m s') e h hlt ⟨s',rfl,hE⟩) hE
section
variable {α:Type} [Ty α] {h:Heap}{v:Value}{l:List α}{i:Nat}
end
section
variable {g h:Heap}{Γ:List HP}
end
section
variable {α:Type} [Mk α]
end
section
variable {α:Type} [Mk α] {k:Int}{x y:List α}{i:Nat}
end
section
variable {α:Type} [Ty α] {h:Heap}{v:Value}{l:List α}{i:Nat}
end
end Go.Proofs.YtjbjnicobdpdhaaGreatDoor

namespace Go.Proofs.YtjbjnicobdpdhaaGreatDoor
open Go Go.RowKit
section
variable {H:Type}{enc:TypeId×Value→H}{P:Program}
end
theorem wOk_all {H:Type}{P:Program}{e:TypeId}:∀{l:List (DataW H)},(∀n∈DataW.weightsAll P e l,n≤reachBytes)→∀d∈l,wOk P e d
 | [],_,d,hd=>by simp at hd
 | x::l,h,d,hd=>by
  simp only[DataW.weightsAll,List.mem_append] at h
  rcases List.mem_cons.1 hd with rfl | hd
  ·exact fun n hn=>h n (.inl hn)
  ·exact wOk_all (fun n hn=>h n (.inr hn)) d hd
section
variable {P:Program}{t:TypeId}
theorem cells_whole {W:World}{b off:Nat}:∀{n:Nat}{l:List Value},W.cells? 0 ⟨b,off,none⟩ n=some l→hcells (whole W) b off n=some l:=by
 have key:∀n o l,(List.range' o n).mapM (fun i=>W.cell? ((⟨b,off,none⟩:Addr).add i))=some l→hcells (whole W) b (off+o) n=some l:=by
  intro n
  induction n with
  | zero=>intro o l h;simpa[hcells] using h
  | succ n ih=>
   intro o l h
   rw[List.range'_succ,List.mapM_cons] at h
   simp only[Option.bind_eq_bind,Option.bind_eq_some_iff,Option.pure_def,Option.some.injEq] at h
   obtain⟨v,h1,r,h2,rfl⟩:=h
   have h3:=ih (o+1) r h2
   have h4:hcell (whole W) b (off+o)=some v:=by
    rw[addr_add0] at h1
    simp only[World.cell?,Option.isSome_none,Bool.false_eq_true,if_false] at h1
    simp only[hcell,whole]
    split at h1
    ·rename_i hb;rw[hb];exact h1
    ·simp at h1
   simp only[hcells,h4]
   rw[show off+o+1=off+(o+1) by omega,h3]
 intro n l h
 simp only[World.cells?,Nat.zero_le,if_true] at h
 rw[List.range_eq_range'] at h
 exact key n 0 l h
theorem cells_spot {W:World}{b off s n:Nat}(hn:0<n):W.cells? 0 ⟨b,off,some s⟩ n=none:=by
 simp only[World.cells?,Nat.zero_le,if_true]
 cases n with
 | zero=>omega
 | succ n=>
  rw[List.range_succ_eq_map,List.mapM_cons]
  have:W.cell? ((⟨b,off,some s⟩:Addr).add 0)=none:=by
   simp only[Addr.add,if_true,World.cell?]
   split<;>simp
  rw[this];rfl
theorem rd_list {α:Type} [Ty α] {e:TypeId}(ht:P.underlying t=some (.slice e)) (hc:P.cellsOf e=Ty.sz α) (hpos:0<Ty.sz α) (hby:0<P.bytesOf e) (he:RdT P e α):RdT P t (List α):=by
 intro H enc W sp fuel cs x h hwt
 rcases Go.Deep.open_slice ht h with ⟨rfl,_⟩ | ⟨a,len,cap,m,n,D,Pl,rfl,_,hlen,hcap,hm,rfl,hel⟩
 ·exact⟨[],none,0,rfl,by simp,trivial,fun i hi=>by simp at hi⟩
 ·have hle:len≤m:=by rw[hm];split<;>omega
  simp only[wOk,DataW.weights,ht,List.mem_cons,List.mem_append] at hwt
  have hsz:len≤reachBytes:=by
   have h1:=hwt _ (.inl rfl)
   simp only[List.length_map,List.length_range] at h1
   have h2:len*1≤(len+(m-len))*P.bytesOf e:=Nat.mul_le_mul (by omega) hby
   omega
  have hwe:=wOk_all (fun n hn=>hwt n (.inr (.inl hn)))
  have hall:∀i,i<len→∃y:α,∃b off vs,some a=some (⟨b,off,none⟩:Addr)∧hcells (whole W) b (off+i*Ty.sz α) (Ty.sz α)=some vs∧Ty.rep (whole W) vs y:=by
   intro i hi
   obtain⟨cs',h1,h2⟩:=hel i (by omega)
   obtain⟨y,hy⟩:=he enc W sp n cs' _ h2 (hwe _ (List.mem_map.2 ⟨i,by simpa using hi,rfl⟩))
   obtain⟨b,off,spot⟩:=a
   rw[hc] at h1
   -- the address is plain: its first element could be read
   have h0:spot=none:=by
    cases spot with
    | none=>rfl
    | some s=>
     obtain⟨cs0,g1,_⟩:=hel 0 (by omega)
     rw[hc] at g1
     simp only[Nat.zero_mul,Addr.add,if_true] at g1
     rw[cells_spot hpos] at g1
     simp at g1
   subst h0
   rw[addr_add0] at h1
   exact⟨y,b,off,cs',rfl,cells_whole h1,hy⟩
  have hch:∃l:List α,l.length=len∧∀i (hi:i<l.length),∃b off vs,some a=some (⟨b,off,none⟩:Addr)∧hcells (whole W) b (off+i*Ty.sz α) (Ty.sz α)=some vs∧Ty.rep (whole W) vs l[i]:=by
   refine⟨(List.finRange len).map fun i=>Classical.choose (hall i.1 i.2),by simp,fun i hi=>?_⟩
   have hi':i<len:=by simpa using hi
   have:=Classical.choose_spec (hall i hi')
   simpa using this
  obtain⟨l,hl,hr⟩:=hch
  refine⟨l,some a,cap,by rw[hl],⟨by omega,?_⟩,trivial,hr⟩
  have:reachBytes<4611686018427387904:=by decide
  omega
end
section
variable {P:Program}{W:World}{r:Reach}{base:Nat}{t e:TypeId}{v:Value}
theorem okWide_slice (ht:P.underlying t=some (.slice e)) (h:Value.okWide P W r base t v):∃a n c,v=.slice a n c:=by
 unfold Value.okWide at h
 rw[ht] at h
 simp only[Cell.okWide,ht] at h
 cases v<;>simp[Cell.ok,ht] at h ⊢
end
section
variable {g h:Heap}{Γ:List HP}
theorem HS.rebase:∀{Δ Γ:List HP}{h:Heap},HS g (Δ++Γ) h→∃g1,HS g Γ g1∧HS g1 Δ h
 | [],_,h,H=>⟨h,H,HS.init⟩
 | _::_,_,_,⟨g',r,e,d,hp,H⟩=>by
  obtain⟨g1,h1,h2⟩:=H.rebase
  exact⟨g1,h1,g',r,e,d,hp,h2⟩
end
section
variable {P:Program}{k:Env→Heap→Prop}{e:Env}{g h:Heap}{Γ:List HP}{κ ν:Type} [DecidableEq κ] {kf:κ→Value}{vf:ν→Value}{b:Nat}{l:List (κ×ν)}{kt:KT}
end
section
variable {α:Type}
end
namespace Exq
end Exq
namespace Exq
end Exq
section
variable {g h r:Heap}{Γ:List HP}{v:Value}{cs:List Value}
end
section
variable {g h r:Heap}{Γ:List HP}{v:Value}{cs:List Value}
theorem Rep.aPr {x:Pr}(hr:Rep h v x):pgetV (some v) 0 (some 2)=some v∧v.cells.size=2∧allOne v.cells.toList=true∧Value.agg v.cells=v:=hr.A rfl rfl
end
namespace Exq
end Exq
theorem rows_cons {x:Ln}{l:List Ln}:rows (x::l)=x.row++[10]++rows l:=by simp[rows]
theorem rows_len:∀{l:List Ln},(∀x∈l,x.Ok)→(rows l).length≤l.length*121
 | [],_=>by simp[rows]
 | x::l,h=>by
  have:=rows_len (l:=l) fun y hy=>h y (List.mem_cons_of_mem _ hy)
  have:=Ln.row_len (h x (by simp))
  rw[rows_cons]
  simp only[List.length_append,List.length_cons,List.length_nil]
  omega
def H_impl_Edge_same:Hint:=⟨[(0,false),(1,false),(2,true),(3,true),(4,false)],[]⟩
abbrev K44_1:Pl:=.x 37 (.pick (.v 31) (.v 36) (.c (.bool false))) <|
 .m 38 37 <|
 .y 38 (.als 39 none 2) <|
 .y 38 (.pget (some 40) (some 39) 2 9 none) <|
 .y 38 (.als 41 none 3) <|
 .y 38 (.pget (some 42) (some 41) 3 9 none) <|
 .y 38 (.px (some 43) (.bin .eql (.v 40) (.v 42))) <|
 .x 44 (.pick (.v 38) (.v 43) (.c (.bool false))) <|
 .m 4 44 .done
abbrev K44_2:Pl:=.x 23 (.pick (.v 17) (.v 22) (.c (.bool false))) <|
 .m 24 23 <|
 .y 24 (.als 25 none 2) <|
 .y 24 (.pget (some 26) (some 25) 2 5 none) <|
 .y 24 (.als 27 none 3) <|
 .y 24 (.pget (some 28) (some 27) 3 5 none) <|
 .y 24 (.px (some 29) (.bin .eql (.v 26) (.v 28))) <|
 .x 30 (.pick (.v 24) (.v 29) (.c (.bool false))) <|
 .m 31 30 <|
 .y 31 (.als 32 none 2) <|
 .y 31 (.pget (some 33) (some 32) 2 6 (some 3)) <|
 .y 31 (.als 34 none 3) <|
 .y 31 (.pget (some 35) (some 34) 3 6 (some 3)) <|
 .st (.act (some (.v 31,true)) (.ex (some 36) (.call fn_impl_ExprSame [.v 33,.v 35]))) K44_1
abbrev K44_3:C:=.seq (.pl <| .e 5 40 <|
 .a 5 2 <|
 .g 6 5 2 0 <|
 .a 7 3 <|
 .g 8 7 3 0 <|
 .x 9 (.bin .eql (.v 6) (.v 8)) <|
 .m 10 9 <|
 .y 10 (.als 11 none 2) <|
 .y 10 (.pget (some 12) (some 11) 2 1 none) <|
 .y 10 (.als 13 none 3) <|
 .y 10 (.pget (some 14) (some 13) 3 1 none) <|
 .y 10 (.px (some 15) (.bin .eql (.v 12) (.v 14))) <|
 .x 16 (.pick (.v 10) (.v 15) (.c (.bool false))) <|
 .m 17 16 <|
 .y 17 (.als 18 none 2) <|
 .y 17 (.pget (some 19) (some 18) 2 2 (some 3)) <|
 .y 17 (.als 20 none 3) <|
 .y 17 (.pget (some 21) (some 20) 3 2 (some 3)) <|
 .st (.act (some (.v 17,true)) (.ex (some 22) (.call fn_impl_ExprSame [.v 19,.v 21]))) K44_2) (.ret)
abbrev B_impl_Edge_same:C:=.seq (.pl <| .e 5 0 <|
 .o (.pnew 2 (.v 0) []) <|
 .o (.pnew 3 (.v 1) []) <|
 .x 4 (.mv (.c (.bool false))) .done) K44_3
def R_impl_Edge_same:FIR:=⟨B_impl_Edge_same,5,[(4,none)]⟩
theorem IR_impl_Edge_same:cfun Tryz.prog H_impl_Edge_same Tryz.f44=some R_impl_Edge_same:=by kernel_rfl
theorem EN_impl_Edge_same:ENT Tryz.prog B_impl_Edge_same [(4,none)] 2 5 fn_impl_Edge_same:=fun hargs hw=>enter Tryz.func44 rfl IR_impl_Edge_same hargs hw
def H_impl_SystemSame:Hint:=⟨[(0,false),(1,false),(2,true),(3,true),(4,false)],[]⟩
abbrev K14_1:Pl:=.x 16 (.pick (.v 10) (.v 15) (.c (.bool false))) <|
 .m 4 16 .done
abbrev K14_2:Pl:=.m 10 9 <|
 .y 10 (.als 11 none 2) <|
 .y 10 (.pget (some 12) (some 11) 2 1 none) <|
 .y 10 (.als 13 none 3) <|
 .y 10 (.pget (some 14) (some 13) 3 1 none) <|
 .st (.act (some (.v 10,true)) (.ex (some 15) (.call fn_slices_EqualFunc_S_impl_Process_S_impl_Process_impl_Process_impl_Process [.v 12,.v 14,.c (.func (.func 42) #[] #[])]))) K14_1
abbrev K14_3:C:=.seq (.pl <| .e 5 12 <|
 .a 5 2 <|
 .g 6 5 2 0 <|
 .a 7 3 <|
 .g 8 7 3 0 <|
 .c 9 (.call fn_slices_Equal_S_int_int [.v 6,.v 8]) K14_2) (.ret)
abbrev B_impl_SystemSame:C:=.seq (.pl <| .e 5 0 <|
 .o (.pnew 2 (.v 0) []) <|
 .o (.pnew 3 (.v 1) []) <|
 .x 4 (.mv (.c (.bool false))) .done) K14_3
def R_impl_SystemSame:FIR:=⟨B_impl_SystemSame,5,[(4,none)]⟩
theorem IR_impl_SystemSame:cfun Tryz.prog H_impl_SystemSame Tryz.f14=some R_impl_SystemSame:=by kernel_rfl
theorem EN_impl_SystemSame:ENT Tryz.prog B_impl_SystemSame [(4,none)] 2 5 fn_impl_SystemSame:=fun hargs hw=>enter Tryz.func14 rfl IR_impl_SystemSame hargs hw
def H_impl_SystemSame_1:Hint:=⟨[(0,false),(1,false),(2,true),(3,true),(4,false)],[]⟩
abbrev K42_1:Pl:=.x 16 (.pick (.v 10) (.v 15) (.c (.bool false))) <|
 .m 4 16 .done
abbrev K42_2:C:=.seq (.pl <| .e 5 12 <|
 .a 5 2 <|
 .g 6 5 2 0 <|
 .a 7 3 <|
 .g 8 7 3 0 <|
 .x 9 (.bin .eql (.v 6) (.v 8)) <|
 .m 10 9 <|
 .y 10 (.als 11 none 2) <|
 .y 10 (.pget (some 12) (some 11) 2 1 none) <|
 .y 10 (.als 13 none 3) <|
 .y 10 (.pget (some 14) (some 13) 3 1 none) <|
 .st (.act (some (.v 10,true)) (.ex (some 15) (.call fn_slices_EqualFunc_S_impl_Edge_S_impl_Edge_impl_Edge_impl_Edge [.v 12,.v 14,.c (.func (.func 44) #[] #[])]))) K42_1) (.ret)
abbrev B_impl_SystemSame_1:C:=.seq (.pl <| .e 5 0 <|
 .o (.pnew 2 (.v 0) []) <|
 .o (.pnew 3 (.v 1) []) <|
 .x 4 (.mv (.c (.bool false))) .done) K42_2
def R_impl_SystemSame_1:FIR:=⟨B_impl_SystemSame_1,5,[(4,none)]⟩
theorem IR_impl_SystemSame_1:cfun Tryz.prog H_impl_SystemSame_1 Tryz.f42=some R_impl_SystemSame_1:=by kernel_rfl
theorem EN_impl_SystemSame_1:ENT Tryz.prog B_impl_SystemSame_1 [(4,none)] 2 5 fn_impl_SystemSame_1:=fun hargs hw=>enter Tryz.func42 rfl IR_impl_SystemSame_1 hargs hw
def H_laws_FnSystemText:Hint:=⟨[(0,false),(1,false),(4,false),(5,true),(6,false),(7,true),(8,false),(9,false),(10,true),(11,false),(12,true),(13,false)],[]⟩
abbrev K4_1:Pl:=.n 23 (.px (some 26) (.mv (.v 7))) <|
 .n 23 (.px (some 27) (.bin .eql (.v 25) (.v 26))) <|
 .y 20 (.px (some 28) (.pick (.v 23) (.c (.bool true)) (.v 27))) <|
 .x 29 (.pick (.v 20) (.v 28) (.c (.bool false))) <|
 .m 2 29 .done
abbrev K4_2:Pl:=.x 19 (.pick (.v 15) (.v 18) (.c (.bool false))) <|
 .m 20 19 <|
 .y 20 (.px (some 21) (.mv (.v 9))) <|
 .y 20 (.px (some 22) (.un .not (.v 21))) <|
 .y 20 (.px (some 23) (.mv (.v 22))) <|
 .n 23 (.pget (some 24) none 8 0 (some 2)) <|
 .st (.act (some (.v 23,false)) (.ex (some 25) (.call fn_impl_FormatSystem [.v 24]))) K4_1
abbrev K4_3:C:=.seq (.pl <| .e 12 18 <|
 .m 12 9 <|
 .m 13 11 <|
 .x 14 (.eqb false (.v 12) (.v 13)) <|
 .m 15 14 <|
 .y 15 (.pget (some 16) none 8 0 (some 2)) <|
 .y 15 (.pget (some 17) none 10 0 (some 2)) <|
 .st (.act (some (.v 15,true)) (.ex (some 18) (.call fn_impl_SystemSame [.v 16,.v 17]))) K4_2) (.ret)
abbrev K4_4:Pl:=.m 14 13 <|
 .x 15 (.extract 0 (.v 14)) <|
 .x 16 (.extract 1 (.v 14)) <|
 .o (.pnew 10 (.c (.agg #[.slice none 0 0,.slice none 0 0])) []) <|
 .o (.pset none 10 0 2 (.v 15)) <|
 .m 11 16 .done
abbrev K4_5:C:=.seq (.pl <| .e 12 5 <|
 .m 12 7 <|
 .c 13 (.call fn_spec_ParseSystem [.v 12]) K4_4) K4_3
abbrev K4_6:Pl:=.m 14 13 <|
 .x 15 (.extract 0 (.v 14)) <|
 .x 16 (.extract 1 (.v 14)) <|
 .o (.pnew 8 (.c (.agg #[.slice none 0 0,.slice none 0 0])) []) <|
 .o (.pset none 8 0 2 (.v 15)) <|
 .m 9 16 .done
abbrev K4_7:C:=.seq (.pl <| .e 12 5 <|
 .m 12 7 <|
 .c 13 (.call fn_impl_ParseSystem [.v 12]) K4_6) K4_5
abbrev K4_8:Pl:=.m 7 13 .done
abbrev K4_9:C:=.seq (.pl <| .e 12 2 <|
 .m 12 1 <|
 .c 13 (.call fn_spec_DrawParseSystem [.v 12]) K4_8) K4_7
abbrev K4_10:C:=.seq (.pl <| .e 12 0 <|
 .x 2 (.mv (.c (.bool false))) .done) (.ret)
abbrev K4_11:C:=.cond 12 (.v 30) K4_10 (.skip)
abbrev K4_12:Pl:=.y 24 (.px (some 28) (.un .not (.v 27))) <|
 .n 22 (.px (some 29) (.pick (.v 24) (.v 28) (.c (.bool false)))) <|
 .x 30 (.pick (.v 22) (.c (.bool true)) (.v 29)) .done
abbrev K4_13:Pl:=.n 16 (.px (some 20) (.eqb true (.v 17) (.v 19))) <|
 .x 21 (.pick (.v 16) (.c (.bool true)) (.v 20)) <|
 .m 22 21 <|
 .n 22 (.px (some 23) (.mv (.v 6))) <|
 .n 22 (.px (some 24) (.mv (.v 23))) <|
 .y 24 (.pget (some 25) none 5 0 (some 2)) <|
 .y 24 (.pget (some 26) none 3 0 (some 2)) <|
 .st (.act (some (.v 24,true)) (.ex (some 27) (.call fn_impl_SystemSame [.v 25,.v 26]))) K4_12
abbrev K4_14:Pl:=.x 15 (.bin .neq (.v 12) (.v 14)) <|
 .m 16 15 <|
 .n 16 (.px (some 17) (.mv (.v 6))) <|
 .n 16 (.pget (some 18) none 3 0 (some 2)) <|
 .st (.act (some (.v 16,false)) (.ex (some 19) (.call fn_spec_SystemValid [.v 18]))) K4_13
abbrev K4_15:C:=.seq (.seq (.pl <| .e 12 19 <|
 .m 12 4 <|
 .o (.pget (some 13) none 3 0 (some 2)) <|
 .c 14 (.call fn_spec_FormatSystem [.v 13]) K4_14) K4_11) K4_9
abbrev K4_16:Pl:=.m 14 13 <|
 .x 15 (.extract 0 (.v 14)) <|
 .x 16 (.extract 1 (.v 14)) <|
 .o (.pnew 5 (.c (.agg #[.slice none 0 0,.slice none 0 0])) []) <|
 .o (.pset none 5 0 2 (.v 15)) <|
 .m 6 16 .done
abbrev K4_17:C:=.seq (.pl <| .e 12 5 <|
 .m 12 4 <|
 .c 13 (.call fn_impl_ParseSystem [.v 12]) K4_16) K4_15
abbrev K4_18:Pl:=.m 4 13 .done
abbrev K4_19:C:=.seq (.pl <| .e 12 2 <|
 .o (.pget (some 12) none 3 0 (some 2)) <|
 .c 13 (.call fn_impl_FormatSystem [.v 12]) K4_18) K4_17
abbrev K4_20:Pl:=.o (.pnew 3 (.c (.agg #[.slice none 0 0,.slice none 0 0])) []) <|
 .o (.pset none 3 0 2 (.v 13)) .done
abbrev K4_21:C:=.seq (.pl <| .e 12 2 <|
 .m 12 0 <|
 .c 13 (.call fn_spec_DrawFormatSystem [.v 12]) K4_20) K4_19
abbrev K4_22:C:=.seq (.pl <| .e 12 0 <|
 .x 2 (.mv (.c (.bool true))) .done) (.ret)
abbrev K4_23:C:=.cond 12 (.v 19) K4_22 (.skip)
abbrev K4_24:C:=.seq (.seq (.pl <| .e 12 8 <|
 .m 12 0 <|
 .x 13 (.lenV (.v 12)) <|
 .x 14 (.bin .gtr (.v 13) (.c (.int .i64 1048576))) <|
 .m 15 14 <|
 .n 15 (.px (some 16) (.mv (.v 1))) <|
 .n 15 (.px (some 17) (.lenV (.v 16))) <|
 .n 15 (.px (some 18) (.bin .gtr (.v 17) (.c (.int .i64 1048576)))) <|
 .x 19 (.pick (.v 15) (.c (.bool true)) (.v 18)) .done) K4_23) K4_21
abbrev B_laws_FnSystemText:C:=.seq (.pl <| .e 12 0 <|
 .x 2 (.mv (.c (.bool false))) .done) K4_24
def R_laws_FnSystemText:FIR:=⟨B_laws_FnSystemText,12,[(2,none)]⟩
theorem IR_laws_FnSystemText:cfun Tryz.prog H_laws_FnSystemText Tryz.f4=some R_laws_FnSystemText:=by kernel_rfl
theorem EN_laws_FnSystemText:ENT Tryz.prog B_laws_FnSystemText [(2,none)] 2 12 fn_laws_FnSystemText:=fun hargs hw=>enter Tryz.func4 rfl IR_laws_FnSystemText hargs hw
def H_slices_EqualFunc_S_impl_Edge_S_impl_Edge_impl_Edge_impl_Edge:Hint:=⟨[(0,false),(1,false),(2,false),(6,false),(7,false),(8,true),(9,true),(15,false),(16,false),(17,false)],[[0,3,4,5,6]]⟩
abbrev K43_1:C:=.seq (.pl <| .e 10 0 <|
 .x 3 (.mv (.c (.bool true))) .done) (.ret)
abbrev K43_2:C:=.pl <| .e 10 1 <|
 .x 10 (.bin .add (.v 9) (.c (.int .i64 1))) <|
 .m 9 10 .done
abbrev K43_3:C:=.seq (.pl <| .e 10 0 <|
 .x 3 (.mv (.c (.bool false))) .done) (.ret)
abbrev K43_4:C:=.cond 10 (.v 14) K43_3 (.skip)
abbrev K43_5:Pl:=.x 14 (.un .not (.v 13)) .done
abbrev K43_6:C:=.seq (.pl <| .e 10 5 <|
 .m 10 2 <|
 .o (.pget (some 11) none 5 0 (some 10)) <|
 .o (.pget (some 12) none 6 0 (some 10)) <|
 .c 13 (.callv (.v 10) [.v 11,.v 12]) K43_5) K43_4
abbrev K43_7:C:=.seq (.pl <| .e 10 4 <|
 .m 10 1 <|
 .m 11 4 <|
 .x 12 (.ia 10 (.v 10) (.v 11)) <|
 .o (.ld (some 13) (.v 12) (some 10)) <|
 .o (.pnew 6 (.c (.agg #[.int .i64 0,.int .i64 0,.int .i64 0,.int .i64 0,.slice none 0 0,.int .i64 0,.int .i64 0,.int .i64 0,.slice none 0 0,.int .i64 0])) []) <|
 .o (.pset none 6 0 10 (.v 13)) .done) K43_6
abbrev K43_8:C:=.seq (.block 1 (.seq (.pl <| .e 10 3 <|
 .m 10 9 <|
 .x 11 (.ia 10 (.v 7) (.v 9)) <|
 .o (.ld (some 12) (.v 11) (some 10)) <|
 .o (.pnew 5 (.c (.agg #[.int .i64 0,.int .i64 0,.int .i64 0,.int .i64 0,.slice none 0 0,.int .i64 0,.int .i64 0,.int .i64 0,.slice none 0 0,.int .i64 0])) []) <|
 .m 4 10 <|
 .o (.pset none 5 0 10 (.v 12)) .done) K43_7)) K43_2
abbrev K43_9:C:=.seq (.cond 10 (.v 10) (.skip) (.exit 0)) K43_8
abbrev K43_10:C:=.seq (.pl <| .e 10 1 <|
 .x 10 (.bin .lss (.v 9) (.v 8)) .done) K43_9
abbrev K43_11:C:=.block 0 (.loop 10 [0,3,4,5,6] K43_10)
abbrev K43_12:C:=.seq (.seq (.pl <| .e 10 0 <|
 .m 7 0 <|
 .x 8 (.lenV (.v 7)) <|
 .x 9 (.mv (.c (.int .i64 0))) .done) K43_11) K43_1
abbrev K43_13:C:=.seq (.pl <| .e 10 0 <|
 .x 3 (.mv (.c (.bool false))) .done) (.ret)
abbrev K43_14:C:=.cond 10 (.v 14) K43_13 (.skip)
abbrev K43_15:C:=.seq (.seq (.pl <| .e 10 5 <|
 .m 10 0 <|
 .x 11 (.lenV (.v 10)) <|
 .m 12 1 <|
 .x 13 (.lenV (.v 12)) <|
 .x 14 (.bin .neq (.v 11) (.v 13)) .done) K43_14) K43_12
abbrev B_slices_EqualFunc_S_impl_Edge_S_impl_Edge_impl_Edge_impl_Edge:C:=.seq (.pl <| .e 10 0 <|
 .x 3 (.mv (.c (.bool false))) .done) K43_15
def R_slices_EqualFunc_S_impl_Edge_S_impl_Edge_impl_Edge_impl_Edge:FIR:=⟨B_slices_EqualFunc_S_impl_Edge_S_impl_Edge_impl_Edge_impl_Edge,10,[(3,none)]⟩
theorem IR_slices_EqualFunc_S_impl_Edge_S_impl_Edge_impl_Edge_impl_Edge:cfun Tryz.prog H_slices_EqualFunc_S_impl_Edge_S_impl_Edge_impl_Edge_impl_Edge Tryz.f43=some R_slices_EqualFunc_S_impl_Edge_S_impl_Edge_impl_Edge_impl_Edge:=by kernel_rfl
theorem EN_slices_EqualFunc_S_impl_Edge_S_impl_Edge_impl_Edge_impl_Edge:ENT Tryz.prog B_slices_EqualFunc_S_impl_Edge_S_impl_Edge_impl_Edge_impl_Edge [(3,none)] 3 10 fn_slices_EqualFunc_S_impl_Edge_S_impl_Edge_impl_Edge_impl_Edge:=fun hargs hw=>enter Tryz.func43 rfl IR_slices_EqualFunc_S_impl_Edge_S_impl_Edge_impl_Edge_impl_Edge hargs hw
def H_slices_EqualFunc_S_impl_Process_S_impl_Process_impl_Process_impl_Process:Hint:=⟨[(0,false),(1,false),(2,false),(6,false),(7,false),(8,true),(9,true),(15,false),(16,false),(17,false)],[[0,3,4,5,6]]⟩
abbrev K41_1:C:=.seq (.pl <| .e 10 0 <|
 .x 3 (.mv (.c (.bool true))) .done) (.ret)
abbrev K41_2:C:=.pl <| .e 10 1 <|
 .x 10 (.bin .add (.v 9) (.c (.int .i64 1))) <|
 .m 9 10 .done
abbrev K41_3:C:=.seq (.pl <| .e 10 0 <|
 .x 3 (.mv (.c (.bool false))) .done) (.ret)
abbrev K41_4:C:=.cond 10 (.v 14) K41_3 (.skip)
abbrev K41_5:Pl:=.x 14 (.un .not (.v 13)) .done
abbrev K41_6:C:=.seq (.pl <| .e 10 5 <|
 .m 10 2 <|
 .o (.pget (some 11) none 5 0 (some 2)) <|
 .o (.pget (some 12) none 6 0 (some 2)) <|
 .c 13 (.callv (.v 10) [.v 11,.v 12]) K41_5) K41_4
abbrev K41_7:C:=.seq (.pl <| .e 10 4 <|
 .m 10 1 <|
 .m 11 4 <|
 .x 12 (.ia 2 (.v 10) (.v 11)) <|
 .o (.ld (some 13) (.v 12) (some 2)) <|
 .o (.pnew 6 (.c (.agg #[.int .i64 0,.slice none 0 0])) []) <|
 .o (.pset none 6 0 2 (.v 13)) .done) K41_6
abbrev K41_8:C:=.seq (.block 1 (.seq (.pl <| .e 10 3 <|
 .m 10 9 <|
 .x 11 (.ia 2 (.v 7) (.v 9)) <|
 .o (.ld (some 12) (.v 11) (some 2)) <|
 .o (.pnew 5 (.c (.agg #[.int .i64 0,.slice none 0 0])) []) <|
 .m 4 10 <|
 .o (.pset none 5 0 2 (.v 12)) .done) K41_7)) K41_2
abbrev K41_9:C:=.seq (.cond 10 (.v 10) (.skip) (.exit 0)) K41_8
abbrev K41_10:C:=.seq (.pl <| .e 10 1 <|
 .x 10 (.bin .lss (.v 9) (.v 8)) .done) K41_9
abbrev K41_11:C:=.block 0 (.loop 10 [0,3,4,5,6] K41_10)
abbrev K41_12:C:=.seq (.seq (.pl <| .e 10 0 <|
 .m 7 0 <|
 .x 8 (.lenV (.v 7)) <|
 .x 9 (.mv (.c (.int .i64 0))) .done) K41_11) K41_1
abbrev K41_13:C:=.seq (.pl <| .e 10 0 <|
 .x 3 (.mv (.c (.bool false))) .done) (.ret)
abbrev K41_14:C:=.cond 10 (.v 14) K41_13 (.skip)
abbrev K41_15:C:=.seq (.seq (.pl <| .e 10 5 <|
 .m 10 0 <|
 .x 11 (.lenV (.v 10)) <|
 .m 12 1 <|
 .x 13 (.lenV (.v 12)) <|
 .x 14 (.bin .neq (.v 11) (.v 13)) .done) K41_14) K41_12
abbrev B_slices_EqualFunc_S_impl_Process_S_impl_Process_impl_Process_impl_Process:C:=.seq (.pl <| .e 10 0 <|
 .x 3 (.mv (.c (.bool false))) .done) K41_15
def R_slices_EqualFunc_S_impl_Process_S_impl_Process_impl_Process_impl_Process:FIR:=⟨B_slices_EqualFunc_S_impl_Process_S_impl_Process_impl_Process_impl_Process,10,[(3,none)]⟩
theorem IR_slices_EqualFunc_S_impl_Process_S_impl_Process_impl_Process_impl_Process:cfun Tryz.prog H_slices_EqualFunc_S_impl_Process_S_impl_Process_impl_Process_impl_Process Tryz.f41=some R_slices_EqualFunc_S_impl_Process_S_impl_Process_impl_Process_impl_Process:=by kernel_rfl
theorem EN_slices_EqualFunc_S_impl_Process_S_impl_Process_impl_Process_impl_Process:ENT Tryz.prog B_slices_EqualFunc_S_impl_Process_S_impl_Process_impl_Process_impl_Process [(3,none)] 3 10 fn_slices_EqualFunc_S_impl_Process_S_impl_Process_impl_Process_impl_Process:=fun hargs hw=>enter Tryz.func41 rfl IR_slices_EqualFunc_S_impl_Process_S_impl_Process_impl_Process_impl_Process hargs hw
def H_slices_Equal_S_int_int:Hint:=⟨[(0,false),(1,false),(4,false),(5,false),(12,false),(13,false)],[[2,3]]⟩
abbrev K40_1:C:=.seq (.pl <| .e 6 0 <|
 .x 2 (.mv (.c (.bool true))) .done) (.ret)
abbrev K40_2:C:=.pl <| .e 6 1 <|
 .x 6 (.bin .add (.v 5) (.c (.int .i64 1))) <|
 .m 5 6 .done
abbrev K40_3:C:=.seq (.pl <| .e 6 0 <|
 .x 2 (.mv (.c (.bool false))) .done) (.ret)
abbrev K40_4:C:=.cond 6 (.v 14) K40_3 (.skip)
abbrev K40_5:C:=.seq (.pl <| .e 6 9 <|
 .m 6 0 <|
 .m 7 3 <|
 .x 8 (.ia 1 (.v 6) (.v 7)) <|
 .l 9 8 <|
 .m 10 1 <|
 .m 11 3 <|
 .x 12 (.ia 1 (.v 10) (.v 11)) <|
 .l 13 12 <|
 .x 14 (.bin .neq (.v 9) (.v 13)) .done) K40_4
abbrev K40_6:C:=.seq (.block 1 (.seq (.pl <| .e 6 1 <|
 .m 6 5 <|
 .m 3 6 .done) K40_5)) K40_2
abbrev K40_7:C:=.seq (.cond 6 (.v 6) (.skip) (.exit 0)) K40_6
abbrev K40_8:C:=.seq (.pl <| .e 6 1 <|
 .x 6 (.bin .lss (.v 5) (.v 4)) .done) K40_7
abbrev K40_9:C:=.block 0 (.loop 6 [2,3] K40_8)
abbrev K40_10:C:=.seq (.seq (.pl <| .e 6 1 <|
 .m 6 0 <|
 .x 4 (.lenV (.v 6)) <|
 .x 5 (.mv (.c (.int .i64 0))) .done) K40_9) K40_1
abbrev K40_11:C:=.seq (.pl <| .e 6 0 <|
 .x 2 (.mv (.c (.bool false))) .done) (.ret)
abbrev K40_12:C:=.cond 6 (.v 10) K40_11 (.skip)
abbrev K40_13:C:=.seq (.seq (.pl <| .e 6 5 <|
 .m 6 0 <|
 .x 7 (.lenV (.v 6)) <|
 .m 8 1 <|
 .x 9 (.lenV (.v 8)) <|
 .x 10 (.bin .neq (.v 7) (.v 9)) .done) K40_12) K40_10
abbrev B_slices_Equal_S_int_int:C:=.seq (.pl <| .e 6 0 <|
 .x 2 (.mv (.c (.bool false))) .done) K40_13
def R_slices_Equal_S_int_int:FIR:=⟨B_slices_Equal_S_int_int,6,[(2,none)]⟩
theorem IR_slices_Equal_S_int_int:cfun Tryz.prog H_slices_Equal_S_int_int Tryz.f40=some R_slices_Equal_S_int_int:=by kernel_rfl
theorem EN_slices_Equal_S_int_int:ENT Tryz.prog B_slices_Equal_S_int_int [(2,none)] 2 6 fn_slices_Equal_S_int_int:=fun hargs hw=>enter Tryz.func40 rfl IR_slices_Equal_S_int_int hargs hw
def H_spec_DrawFormatSystem:Hint:=⟨[(0,false),(2,true)],[]⟩
abbrev K10_1:Pl:=.o (.pset none 1 0 2 (.v 3)) .done
abbrev K10_2:C:=.seq (.pl <| .e 2 2 <|
 .m 2 0 <|
 .c 3 (.call fn_spec_DrawSystemValid [.v 2]) K10_1) (.ret)
abbrev B_spec_DrawFormatSystem:C:=.seq (.pl <| .e 2 0 <|
 .o (.pnew 1 (.c (.agg #[.slice none 0 0,.slice none 0 0])) []) .done) K10_2
def R_spec_DrawFormatSystem:FIR:=⟨B_spec_DrawFormatSystem,2,[(1,some (some 2))]⟩
theorem IR_spec_DrawFormatSystem:cfun Tryz.prog H_spec_DrawFormatSystem Tryz.f10=some R_spec_DrawFormatSystem:=by kernel_rfl
theorem EN_spec_DrawFormatSystem:ENT Tryz.prog B_spec_DrawFormatSystem [(1,some (some 2))] 1 2 fn_spec_DrawFormatSystem:=fun hargs hw=>enter Tryz.func10 rfl IR_spec_DrawFormatSystem hargs hw
def H_spec_DrawParseSystem:Hint:=⟨[(0,false),(2,false),(3,false)],[]⟩
abbrev K15_1:Pl:=.m 1 8 .done
abbrev K15_2:Pl:=.c 8 (.call fn_spec_l1Bend [.v 3,.v 6,.v 7]) K15_1
abbrev K15_3:Pl:=.c 7 (.bls 1 8 [.string ⟨#[]⟩] [(0,1,.c (.string ⟨#[]⟩)),(1,1,.c (.string ⟨#[32]⟩)),(2,1,.c (.string ⟨#[10]⟩)),(3,1,.c (.string ⟨#[45]⟩)),(4,1,.c (.string ⟨#[49]⟩)),(5,1,.c (.string ⟨#[120]⟩)),(6,1,.c (.string ⟨#[101,100,103,101]⟩)),(7,1,.c (.string ⟨#[63]⟩))]) K15_2
abbrev K15_4:Pl:=.c 6 (.call fn_spec_FormatSystem [.v 5]) K15_3
abbrev K15_5:C:=.seq (.pl <| .e 3 6 <|
 .m 3 2 <|
 .m 4 2 <|
 .c 5 (.call fn_spec_l2System [.v 4]) K15_4) (.ret)
abbrev K15_6:Pl:=.m 2 4 .done
abbrev K15_7:C:=.seq (.pl <| .e 3 2 <|
 .m 3 0 <|
 .c 4 (.call fn_spec_l16Open [.v 3]) K15_6) K15_5
abbrev B_spec_DrawParseSystem:C:=.seq (.pl <| .e 3 0 <|
 .x 1 (.mv (.c (.string ⟨#[]⟩))) .done) K15_7
def R_spec_DrawParseSystem:FIR:=⟨B_spec_DrawParseSystem,3,[(1,none)]⟩
theorem IR_spec_DrawParseSystem:cfun Tryz.prog H_spec_DrawParseSystem Tryz.f15=some R_spec_DrawParseSystem:=by kernel_rfl
theorem EN_spec_DrawParseSystem:ENT Tryz.prog B_spec_DrawParseSystem [(1,none)] 1 3 fn_spec_DrawParseSystem:=fun hargs hw=>enter Tryz.func15 rfl IR_spec_DrawParseSystem hargs hw
def H_spec_DrawSystemValid:Hint:=⟨[(0,false),(2,true),(3,false)],[]⟩
abbrev K31_1:Pl:=.o (.pset none 1 0 2 (.v 6)) .done
abbrev K31_2:Pl:=.c 6 (.call fn_spec_l2Mutate [.v 3,.v 5]) K31_1
abbrev K31_3:C:=.seq (.pl <| .e 3 4 <|
 .m 3 2 <|
 .m 4 2 <|
 .c 5 (.call fn_spec_l2System [.v 4]) K31_2) (.ret)
abbrev K31_4:Pl:=.m 2 4 .done
abbrev K31_5:C:=.seq (.pl <| .e 3 2 <|
 .m 3 0 <|
 .c 4 (.call fn_spec_l16Open [.v 3]) K31_4) K31_3
abbrev B_spec_DrawSystemValid:C:=.seq (.pl <| .e 3 0 <|
 .o (.pnew 1 (.c (.agg #[.slice none 0 0,.slice none 0 0])) []) .done) K31_5
def R_spec_DrawSystemValid:FIR:=⟨B_spec_DrawSystemValid,3,[(1,some (some 2))]⟩
theorem IR_spec_DrawSystemValid:cfun Tryz.prog H_spec_DrawSystemValid Tryz.f31=some R_spec_DrawSystemValid:=by kernel_rfl
theorem EN_spec_DrawSystemValid:ENT Tryz.prog B_spec_DrawSystemValid [(1,some (some 2))] 1 3 fn_spec_DrawSystemValid:=fun hargs hw=>enter Tryz.func31 rfl IR_spec_DrawSystemValid hargs hw
def H_spec_l16Open:Hint:=⟨[(0,false),(2,false)],[]⟩
abbrev K45_1:Pl:=.m 1 4 .done
abbrev K45_2:C:=.seq (.pl <| .e 2 3 <|
 .m 2 0 <|
 .x 3 (.build [.slice none 0 0,.int .i64 0] [(0,1,.v 2)]) <|
 .c 4 (.alloc (.v 3)) K45_1) (.ret)
abbrev K45_3:C:=.pl <| .e 2 2 <|
 .m 2 0 <|
 .x 3 (.sliceV 1 (.v 2) none (some (.c (.int .i64 2000))) none) <|
 .m 0 3 .done
abbrev K45_4:C:=.cond 2 (.v 4) K45_3 (.skip)
abbrev K45_5:C:=.seq (.seq (.pl <| .e 2 3 <|
 .m 2 0 <|
 .x 3 (.lenV (.v 2)) <|
 .x 4 (.bin .gtr (.v 3) (.c (.int .i64 2000))) .done) K45_4) K45_2
abbrev B_spec_l16Open:C:=.seq (.pl <| .e 2 0 <|
 .x 1 (.mv (.c (.pointer none))) .done) K45_5
def R_spec_l16Open:FIR:=⟨B_spec_l16Open,2,[(1,none)]⟩
theorem IR_spec_l16Open:cfun Tryz.prog H_spec_l16Open Tryz.f45=some R_spec_l16Open:=by kernel_rfl
theorem EN_spec_l16Open:ENT Tryz.prog B_spec_l16Open [(1,none)] 1 2 fn_spec_l16Open:=fun hargs hw=>enter Tryz.func45 rfl IR_spec_l16Open hargs hw
def H_spec_l16Rd_num:Hint:=⟨[(0,false),(1,false),(4,false)],[]⟩
abbrev K74_1:Pl:=.x 8 (.ia 1 (.v 3) (.v 7)) <|
 .l 9 8 <|
 .m 2 9 .done
abbrev K74_2:C:=.seq (.pl <| .e 3 7 <|
 .m 3 1 <|
 .m 4 0 <|
 .m 5 1 <|
 .x 6 (.lenV (.v 5)) <|
 .c 7 (.call fn_spec_l16Rd_pick [.v 4,.v 6]) K74_1) (.ret)
abbrev B_spec_l16Rd_num:C:=.seq (.pl <| .e 3 0 <|
 .x 2 (.mv (.c (.int .i64 0))) .done) K74_2
def R_spec_l16Rd_num:FIR:=⟨B_spec_l16Rd_num,3,[(2,none)]⟩
theorem IR_spec_l16Rd_num:cfun Tryz.prog H_spec_l16Rd_num Tryz.f74=some R_spec_l16Rd_num:=by kernel_rfl
theorem EN_spec_l16Rd_num:ENT Tryz.prog B_spec_l16Rd_num [(2,none)] 2 3 fn_spec_l16Rd_num:=fun hargs hw=>enter Tryz.func74 rfl IR_spec_l16Rd_num hargs hw
def H_spec_l16Rd_of:Hint:=⟨[(0,false),(1,false),(4,false)],[]⟩
abbrev K73_1:Pl:=.x 8 (.ia 1 (.v 3) (.v 7)) <|
 .l 9 8 <|
 .m 2 9 .done
abbrev K73_2:C:=.seq (.pl <| .e 3 7 <|
 .m 3 1 <|
 .m 4 0 <|
 .m 5 1 <|
 .x 6 (.lenV (.v 5)) <|
 .c 7 (.call fn_spec_l16Rd_pick [.v 4,.v 6]) K73_1) (.ret)
abbrev B_spec_l16Rd_of:C:=.seq (.pl <| .e 3 0 <|
 .x 2 (.mv (.c (.string ⟨#[]⟩))) .done) K73_2
def R_spec_l16Rd_of:FIR:=⟨B_spec_l16Rd_of,3,[(2,none)]⟩
theorem IR_spec_l16Rd_of:cfun Tryz.prog H_spec_l16Rd_of Tryz.f73=some R_spec_l16Rd_of:=by kernel_rfl
theorem EN_spec_l16Rd_of:ENT Tryz.prog B_spec_l16Rd_of [(2,none)] 2 3 fn_spec_l16Rd_of:=fun hargs hw=>enter Tryz.func73 rfl IR_spec_l16Rd_of hargs hw
def H_spec_l16Rd_pick:Hint:=⟨[(0,false),(1,false),(4,false),(5,false),(6,false)],[]⟩
abbrev K72_1:C:=.seq (.pl <| .e 5 3 <|
 .m 5 4 <|
 .m 6 1 <|
 .x 7 (.bin .rem (.v 5) (.v 6)) <|
 .m 2 7 .done) (.ret)
abbrev K72_2:C:=.seq (.pl <| .e 5 4 <|
 .m 5 4 <|
 .m 6 4 <|
 .x 7 (.bin .quo (.v 6) (.c (.int .i64 64))) <|
 .x 8 (.bin .xor (.v 5) (.v 7)) <|
 .m 4 8 .done) K72_1
abbrev K72_3:C:=.seq (.pl <| .e 5 45 <|
 .m 5 0 <|
 .x 6 (.nilc (.v 5)) <|
 .x 7 (.fa 0 (.v 6)) <|
 .l 8 7 <|
 .m 9 3 <|
 .m 10 0 <|
 .x 11 (.nilc (.v 10)) <|
 .x 12 (.fa 0 (.v 11)) <|
 .l 13 12 <|
 .x 14 (.lenV (.v 13)) <|
 .x 15 (.bin .rem (.v 9) (.v 14)) <|
 .x 16 (.ia 1 (.v 8) (.v 15)) <|
 .l 17 16 <|
 .x 18 (.conv .i64 (.v 17)) <|
 .x 19 (.bin .mul (.v 18) (.c (.int .i64 131))) <|
 .m 20 0 <|
 .x 21 (.nilc (.v 20)) <|
 .x 22 (.fa 0 (.v 21)) <|
 .l 23 22 <|
 .m 24 3 <|
 .x 25 (.bin .mul (.v 24) (.c (.int .i64 7))) <|
 .x 26 (.bin .add (.v 25) (.c (.int .i64 3))) <|
 .m 27 0 <|
 .x 28 (.nilc (.v 27)) <|
 .x 29 (.fa 0 (.v 28)) <|
 .l 30 29 <|
 .x 31 (.lenV (.v 30)) <|
 .x 32 (.bin .rem (.v 26) (.v 31)) <|
 .x 33 (.ia 1 (.v 23) (.v 32)) <|
 .l 34 33 <|
 .x 35 (.conv .i64 (.v 34)) <|
 .x 36 (.bin .mul (.v 35) (.c (.int .i64 1117))) <|
 .x 37 (.bin .add (.v 19) (.v 36)) <|
 .m 38 3 <|
 .x 39 (.bin .mul (.v 38) (.c (.int .i64 29))) <|
 .x 40 (.bin .add (.v 37) (.v 39)) <|
 .m 41 3 <|
 .m 42 0 <|
 .x 43 (.nilc (.v 42)) <|
 .x 44 (.fa 0 (.v 43)) <|
 .l 45 44 <|
 .x 46 (.lenV (.v 45)) <|
 .x 47 (.bin .quo (.v 41) (.v 46)) <|
 .x 48 (.bin .mul (.v 47) (.c (.int .i64 53))) <|
 .x 49 (.bin .add (.v 40) (.v 48)) <|
 .m 4 49 .done) K72_2
abbrev K72_4:C:=.seq (.pl <| .e 5 10 <|
 .m 5 0 <|
 .x 6 (.nilc (.v 5)) <|
 .x 7 (.fa 0 (.v 6)) <|
 .l 8 7 <|
 .m 9 3 <|
 .x 10 (.ia 1 (.v 8) (.v 9)) <|
 .l 11 10 <|
 .x 12 (.conv .i64 (.v 11)) <|
 .m 13 1 <|
 .x 14 (.bin .rem (.v 12) (.v 13)) <|
 .m 2 14 .done) (.ret)
abbrev K72_5:C:=.cond 5 (.v 11) K72_4 (.skip)
abbrev K72_6:C:=.seq (.seq (.pl <| .e 5 7 <|
 .m 5 3 <|
 .m 6 0 <|
 .x 7 (.nilc (.v 6)) <|
 .x 8 (.fa 0 (.v 7)) <|
 .l 9 8 <|
 .x 10 (.lenV (.v 9)) <|
 .x 11 (.bin .lss (.v 5) (.v 10)) .done) K72_5) K72_3
abbrev K72_7:C:=.seq (.pl <| .e 5 5 <|
 .m 5 0 <|
 .x 6 (.nilc (.v 5)) <|
 .x 7 (.fa 1 (.v 6)) <|
 .l 8 7 <|
 .x 9 (.bin .sub (.v 8) (.c (.int .i64 1))) <|
 .m 3 9 .done) K72_6
abbrev K72_8:C:=.seq (.pl <| .e 5 0 <|
 .x 2 (.mv (.c (.int .i64 0))) .done) (.ret)
abbrev K72_9:C:=.cond 5 (.v 14) K72_8 (.skip)
abbrev K72_10:C:=.seq (.seq (.pl <| .e 5 10 <|
 .m 5 1 <|
 .x 6 (.bin .lss (.v 5) (.c (.int .i64 1))) <|
 .m 7 6 <|
 .n 7 (.px (some 8) (.mv (.v 0))) <|
 .n 7 (.px (some 9) (.nilc (.v 8))) <|
 .n 7 (.px (some 10) (.fa 0 (.v 9))) <|
 .n 7 (.ld (some 11) (.v 10) none) <|
 .n 7 (.px (some 12) (.lenV (.v 11))) <|
 .n 7 (.px (some 13) (.bin .eql (.v 12) (.c (.int .i64 0)))) <|
 .x 14 (.pick (.v 7) (.c (.bool true)) (.v 13)) .done) K72_9) K72_7
abbrev K72_11:C:=.seq (.pl <| .e 5 8 <|
 .m 5 0 <|
 .m 6 0 <|
 .x 7 (.nilc (.v 6)) <|
 .x 8 (.fa 1 (.v 7)) <|
 .l 9 8 <|
 .x 10 (.bin .add (.v 9) (.c (.int .i64 1))) <|
 .x 11 (.nilc (.v 5)) <|
 .x 12 (.fa 1 (.v 11)) <|
 .o (.ex none (.store 1 (.v 12) (.v 10))) .done) K72_10
abbrev B_spec_l16Rd_pick:C:=.seq (.pl <| .e 5 0 <|
 .x 2 (.mv (.c (.int .i64 0))) .done) K72_11
def R_spec_l16Rd_pick:FIR:=⟨B_spec_l16Rd_pick,5,[(2,none)]⟩
theorem IR_spec_l16Rd_pick:cfun Tryz.prog H_spec_l16Rd_pick Tryz.f72=some R_spec_l16Rd_pick:=by kernel_rfl
theorem EN_spec_l16Rd_pick:ENT Tryz.prog B_spec_l16Rd_pick [(2,none)] 2 5 fn_spec_l16Rd_pick:=fun hargs hw=>enter Tryz.func72 rfl IR_spec_l16Rd_pick hargs hw
def H_spec_l1Bend:Hint:=⟨[(0,false),(1,false),(2,false),(6,false),(7,false)],[]⟩
abbrev K46_1:Pl:=.x 16 (.bin .add (.v 13) (.v 15)) <|
 .x 17 (.sliceS (.v 12) (some (.v 16)) none) <|
 .x 18 (.bin .add (.v 11) (.v 17)) <|
 .m 3 18 .done
abbrev K46_2:Pl:=.x 11 (.bin .add (.v 7) (.v 10)) <|
 .c 15 (.call fn_spec_l16Rd_pick [.v 14,.c (.int .i64 2)]) K46_1
abbrev K46_3:C:=.seq (.pl <| .e 5 14 <|
 .m 5 1 <|
 .m 6 4 <|
 .x 7 (.sliceS (.v 5) none (some (.v 6))) <|
 .m 8 0 <|
 .m 9 2 <|
 .m 12 1 <|
 .m 13 4 <|
 .m 14 0 <|
 .c 10 (.call fn_spec_l16Rd_of [.v 8,.v 9]) K46_2) (.ret)
abbrev K46_4:Pl:=.m 4 8 .done
abbrev K46_5:C:=.seq (.pl <| .e 5 4 <|
 .m 5 0 <|
 .m 6 1 <|
 .x 7 (.lenS (.v 6)) <|
 .c 8 (.call fn_spec_l16Rd_pick [.v 5,.v 7]) K46_4) K46_3
abbrev K46_6:C:=.seq (.pl <| .e 5 1 <|
 .m 5 1 <|
 .m 3 5 .done) (.ret)
abbrev K46_7:C:=.cond 5 (.v 12) K46_6 (.skip)
abbrev K46_8:Pl:=.n 8 (.px (some 11) (.bin .eql (.v 10) (.c (.int .i64 0)))) <|
 .x 12 (.pick (.v 8) (.c (.bool true)) (.v 11)) .done
abbrev K46_9:C:=.seq (.seq (.pl <| .e 5 8 <|
 .m 5 1 <|
 .x 6 (.lenS (.v 5)) <|
 .x 7 (.bin .eql (.v 6) (.c (.int .i64 0))) <|
 .m 8 7 <|
 .n 8 (.px (some 9) (.mv (.v 0))) <|
 .st (.act (some (.v 8,false)) (.ex (some 10) (.call fn_spec_l16Rd_pick [.v 9,.c (.int .i64 2)]))) K46_8) K46_7) K46_5
abbrev B_spec_l1Bend:C:=.seq (.pl <| .e 5 0 <|
 .x 3 (.mv (.c (.string ⟨#[]⟩))) .done) K46_9
def R_spec_l1Bend:FIR:=⟨B_spec_l1Bend,5,[(3,none)]⟩
theorem IR_spec_l1Bend:cfun Tryz.prog H_spec_l1Bend Tryz.f46=some R_spec_l1Bend:=by kernel_rfl
theorem EN_spec_l1Bend:ENT Tryz.prog B_spec_l1Bend [(3,none)] 3 5 fn_spec_l1Bend:=fun hargs hw=>enter Tryz.func46 rfl IR_spec_l1Bend hargs hw
def H_spec_l1Expr:Hint:=⟨[(0,false),(2,true),(3,true)],[]⟩
abbrev K100_1:Pl:=.x 5 (.build [.int .i64 0,.int .i64 0,.slice none 0 0] [(0,1,.c (.int .i64 2)),(1,1,.v 4)]) <|
 .o (.pset none 1 0 3 (.v 5)) .done
abbrev K100_2:C:=.seq (.pl <| .e 3 3 <|
 .m 3 0 <|
 .c 4 (.call fn_spec_l16Rd_pick [.v 3,.c (.int .i64 3)]) K100_1) (.ret)
abbrev K100_3:C:=.seq (.pl <| .e 3 1 <|
 .o (.pget (some 3) none 2 0 (some 3)) <|
 .o (.pset none 1 0 3 (.v 3)) .done) (.ret)
abbrev K100_4:C:=.cond 3 (.v 4) K100_3 (.skip)
abbrev K100_5:C:=.seq (.seq (.pl <| .e 3 2 <|
 .o (.pget (some 3) none 2 0 (some 3)) <|
 .c 4 (.call fn_spec_ExprValid [.v 3]) .done) K100_4) K100_2
abbrev K100_6:Pl:=.o (.pnew 2 (.c (.agg #[.int .i64 0,.int .i64 0,.slice none 0 0])) []) <|
 .o (.pset none 2 0 3 (.v 7)) .done
abbrev K100_7:Pl:=.c 7 (.call fn_spec_l1Random [.v 3,.v 6]) K100_6
abbrev K100_8:Pl:=.c 6 (.call fn_spec_l16Rd_num [.v 4,.v 5]) K100_7
abbrev K100_9:C:=.seq (.pl <| .e 3 5 <|
 .m 3 0 <|
 .m 4 0 <|
 .c 5 (.bls 1 4 [.int .i64 0] [(0,1,.c (.int .i64 3)),(1,1,.c (.int .i64 2)),(2,1,.c (.int .i64 3)),(3,1,.c (.int .i64 4))]) K100_8) K100_5
abbrev B_spec_l1Expr:C:=.seq (.pl <| .e 3 0 <|
 .o (.pnew 1 (.c (.agg #[.int .i64 0,.int .i64 0,.slice none 0 0])) []) .done) K100_9
def R_spec_l1Expr:FIR:=⟨B_spec_l1Expr,3,[(1,some (some 3))]⟩
theorem IR_spec_l1Expr:cfun Tryz.prog H_spec_l1Expr Tryz.f100=some R_spec_l1Expr:=by kernel_rfl
theorem EN_spec_l1Expr:ENT Tryz.prog B_spec_l1Expr [(1,some (some 3))] 1 3 fn_spec_l1Expr:=fun hargs hw=>enter Tryz.func100 rfl IR_spec_l1Expr hargs hw
def H_spec_l1Mutate:Hint:=⟨[(0,false),(1,false),(3,true),(4,true),(5,true),(10,false)],[]⟩
abbrev K99_1:C:=.seq (.pl <| .e 6 1 <|
 .o (.pget (some 6) none 4 0 (some 3)) <|
 .o (.pset none 3 0 3 (.v 6)) .done) (.ret)
abbrev K99_2:Pl:=.a 9 4 <|
 .o (.pset (some 9) 4 0 1 (.v 8)) .done
abbrev K99_3:Pl:=.c 8 (.call fn_spec_l16Rd_num [.v 6,.v 7]) K99_2
abbrev K99_4:C:=.pl <| .e 6 4 <|
 .m 6 0 <|
 .c 7 (.bls 1 7 [.int .i64 0] [(0,1,.c (.int .i64 0)),(1,1,.c (.int .i64 10)),(2,1,.c (.int .i64 (-1))),(3,1,.c (.int .i64 1)),(4,1,.c (.int .i64 2)),(5,1,.c (.int .i64 3)),(6,1,.c (.int .i64 4))]) K99_3
abbrev K99_5:Pl:=.a 9 4 <|
 .o (.pset (some 9) 4 1 1 (.v 8)) .done
abbrev K99_6:Pl:=.c 8 (.call fn_spec_l16Rd_num [.v 6,.v 7]) K99_5
abbrev K99_7:C:=.pl <| .e 6 4 <|
 .m 6 0 <|
 .c 7 (.bls 1 4 [.int .i64 0] [(0,1,.c (.int .i64 (-1))),(1,1,.c (.int .i64 4)),(2,1,.c (.int .i64 3)),(3,1,.c (.int .i64 9223372036854775807))]) K99_6
abbrev K99_8:Pl:=.a 11 4 <|
 .o (.pset (some 11) 4 2 1 (.v 10)) .done
abbrev K99_9:C:=.pl <| .e 6 6 <|
 .a 6 4 <|
 .g 7 6 4 2 <|
 .x 8 (.build [.int .i64 0,.int .i64 0,.slice none 0 0] [(0,1,.c (.int .i64 1))]) <|
 .o (.psl 9 [.int .i64 0,.int .i64 0,.slice none 0 0] [(0,3,.v 8)]) <|
 .c 10 (.app 40 3 [.int .i64 0,.int .i64 0,.slice none 0 0] (.o (.v 7)) (.p 1 9)) K99_8
abbrev K99_10:C:=.seq (.pl <| .e 6 1 <|
 .x 6 (.build [.int .i64 0,.int .i64 0,.slice none 0 0] []) <|
 .o (.pset none 3 0 3 (.v 6)) .done) (.ret)
abbrev K99_11:C:=.cond 6 (.v 7) K99_10 (.skip)
abbrev K99_12:C:=.seq (.pl <| .e 6 2 <|
 .x 6 (.bin .eql (.v 5) (.c (.int .i64 3))) <|
 .m 7 6 .done) K99_11
abbrev K99_13:C:=.cond 6 (.v 7) K99_9 K99_12
abbrev K99_14:C:=.seq (.pl <| .e 6 2 <|
 .x 6 (.bin .eql (.v 5) (.c (.int .i64 2))) <|
 .m 7 6 .done) K99_13
abbrev K99_15:C:=.cond 6 (.v 7) K99_7 K99_14
abbrev K99_16:C:=.seq (.pl <| .e 6 2 <|
 .x 6 (.bin .eql (.v 5) (.c (.int .i64 1))) <|
 .m 7 6 .done) K99_15
abbrev K99_17:C:=.cond 6 (.v 7) K99_4 K99_16
abbrev K99_18:C:=.block 0 (.seq (.pl <| .e 6 2 <|
 .x 6 (.bin .eql (.v 5) (.c (.int .i64 0))) <|
 .m 7 6 .done) K99_17)
abbrev K99_19:C:=.seq (.seq (.pl <| .e 6 1 <|
 .m 6 0 <|
 .c 5 (.call fn_spec_l16Rd_pick [.v 6,.c (.int .i64 40)]) .done) K99_18) K99_1
abbrev K99_20:Pl:=.o (.pnew 4 (.c (.agg #[.int .i64 0,.int .i64 0,.slice none 0 0])) []) <|
 .o (.pset none 4 0 3 (.v 8)) .done
abbrev K99_21:C:=.seq (.pl <| .e 6 3 <|
 .o (.pget (some 6) none 2 0 (some 3)) <|
 .x 7 (.build [.int .i64 0,.int .i64 0,.slice none 0 0] []) <|
 .c 8 (.call fn_spec_l1Subst [.v 6,.c (.int .i64 (-1)),.v 7]) K99_20) K99_19
abbrev B_spec_l1Mutate:C:=.seq (.pl <| .e 6 0 <|
 .o (.pnew 2 (.v 1) []) <|
 .o (.pnew 3 (.c (.agg #[.int .i64 0,.int .i64 0,.slice none 0 0])) []) .done) K99_21
def R_spec_l1Mutate:FIR:=⟨B_spec_l1Mutate,6,[(3,some (some 3))]⟩
theorem IR_spec_l1Mutate:cfun Tryz.prog H_spec_l1Mutate Tryz.f99=some R_spec_l1Mutate:=by kernel_rfl
theorem EN_spec_l1Mutate:ENT Tryz.prog B_spec_l1Mutate [(3,some (some 3))] 2 6 fn_spec_l1Mutate:=fun hargs hw=>enter Tryz.func99 rfl IR_spec_l1Mutate hargs hw
def H_spec_l1Random:Hint:=⟨[(0,false),(1,false),(4,true),(5,false),(6,true),(7,false)],[[3]]⟩
abbrev K124_1:C:=.seq (.pl <| .e 6 1 <|
 .o (.pget (some 6) none 4 0 (some 3)) <|
 .o (.pset none 2 0 3 (.v 6)) .done) (.ret)
abbrev K124_2:C:=.pl <| .e 6 2 <|
 .m 6 5 <|
 .x 7 (.bin .sub (.v 6) (.c (.int .i64 1))) <|
 .m 5 7 .done
abbrev K124_3:Pl:=.a 14 4 <|
 .o (.pset (some 14) 4 2 1 (.v 13)) .done
abbrev K124_4:Pl:=.o (.psl 12 [.int .i64 0,.int .i64 0,.slice none 0 0] [(0,3,.v 11)]) <|
 .c 13 (.app 40 3 [.int .i64 0,.int .i64 0,.slice none 0 0] (.o (.v 7)) (.p 1 12)) K124_3
abbrev K124_5:C:=.seq (.block 1 (.pl <| .e 6 9 <|
 .a 6 4 <|
 .g 7 6 4 2 <|
 .m 8 0 <|
 .m 9 1 <|
 .x 10 (.bin .sub (.v 9) (.c (.int .i64 1))) <|
 .c 11 (.call fn_spec_l1Random [.v 8,.v 10]) K124_4)) K124_2
abbrev K124_6:C:=.cond 6 (.v 7) (.skip) (.exit 0)
abbrev K124_7:C:=.seq (.seq (.pl <| .e 6 2 <|
 .m 6 5 <|
 .x 7 (.bin .gtr (.v 6) (.c (.int .i64 0))) .done) K124_6) K124_5
abbrev K124_8:C:=.block 0 (.loop 6 [3] K124_7)
abbrev K124_9:Pl:=.m 5 7 .done
abbrev K124_10:C:=.seq (.seq (.pl <| .e 6 2 <|
 .m 6 3 <|
 .c 7 (.call fn_spec_l1Arity [.v 6]) K124_9) K124_8) K124_1
abbrev K124_11:C:=.seq (.pl <| .e 6 2 <|
 .m 6 3 <|
 .x 7 (.build [.int .i64 0,.int .i64 0,.slice none 0 0] [(0,1,.v 6)]) <|
 .o (.pnew 4 (.c (.agg #[.int .i64 0,.int .i64 0,.slice none 0 0])) []) <|
 .o (.pset none 4 0 3 (.v 7)) .done) K124_10
abbrev K124_12:Pl:=.m 3 8 .done
abbrev K124_13:Pl:=.c 8 (.call fn_spec_l16Rd_num [.v 6,.v 7]) K124_12
abbrev K124_14:C:=.seq (.pl <| .e 6 3 <|
 .m 6 0 <|
 .c 7 (.bls 1 7 [.int .i64 0] [(0,1,.c (.int .i64 6)),(1,1,.c (.int .i64 8)),(2,1,.c (.int .i64 7)),(3,1,.c (.int .i64 4)),(4,1,.c (.int .i64 3)),(5,1,.c (.int .i64 5)),(6,1,.c (.int .i64 9))]) K124_13) K124_11
abbrev K124_15:Pl:=.x 9 (.build [.int .i64 0,.int .i64 0,.slice none 0 0] [(0,1,.c (.int .i64 2)),(1,1,.v 8)]) <|
 .o (.pset none 2 0 3 (.v 9)) .done
abbrev K124_16:Pl:=.c 8 (.call fn_spec_l16Rd_num [.v 6,.v 7]) K124_15
abbrev K124_17:C:=.seq (.pl <| .e 6 4 <|
 .m 6 0 <|
 .c 7 (.bls 1 4 [.int .i64 0] [(0,1,.c (.int .i64 0)),(1,1,.c (.int .i64 1)),(2,1,.c (.int .i64 0)),(3,1,.c (.int .i64 2))]) K124_16) (.ret)
abbrev K124_18:Pl:=.x 8 (.build [.int .i64 0,.int .i64 0,.slice none 0 0] [(0,1,.c (.int .i64 1)),(1,1,.v 7)]) <|
 .o (.pset none 2 0 3 (.v 8)) .done
abbrev K124_19:C:=.seq (.pl <| .e 6 3 <|
 .m 6 0 <|
 .c 7 (.call fn_spec_l16Rd_pick [.v 6,.c (.int .i64 4)]) K124_18) (.ret)
abbrev K124_20:C:=.cond 6 (.v 8) K124_19 (.skip)
abbrev K124_21:Pl:=.x 8 (.bin .eql (.v 7) (.c (.int .i64 0))) .done
abbrev K124_22:C:=.seq (.seq (.pl <| .e 6 3 <|
 .m 6 0 <|
 .c 7 (.call fn_spec_l16Rd_pick [.v 6,.c (.int .i64 3)]) K124_21) K124_20) K124_17
abbrev K124_23:C:=.cond 6 (.v 12) K124_22 (.skip)
abbrev K124_24:Pl:=.n 8 (.px (some 11) (.bin .eql (.v 10) (.c (.int .i64 0)))) <|
 .x 12 (.pick (.v 8) (.c (.bool true)) (.v 11)) .done
abbrev K124_25:C:=.seq (.seq (.pl <| .e 6 7 <|
 .m 6 1 <|
 .x 7 (.bin .lss (.v 6) (.c (.int .i64 2))) <|
 .m 8 7 <|
 .n 8 (.px (some 9) (.mv (.v 0))) <|
 .st (.act (some (.v 8,false)) (.ex (some 10) (.call fn_spec_l16Rd_pick [.v 9,.c (.int .i64 5)]))) K124_24) K124_23) K124_14
abbrev B_spec_l1Random:C:=.seq (.pl <| .e 6 0 <|
 .o (.pnew 2 (.c (.agg #[.int .i64 0,.int .i64 0,.slice none 0 0])) []) .done) K124_25
def R_spec_l1Random:FIR:=⟨B_spec_l1Random,6,[(2,some (some 3))]⟩
theorem IR_spec_l1Random:cfun Tryz.prog H_spec_l1Random Tryz.f124=some R_spec_l1Random:=by kernel_rfl
theorem EN_spec_l1Random:ENT Tryz.prog B_spec_l1Random [(2,some (some 3))] 2 6 fn_spec_l1Random:=fun hargs hw=>enter Tryz.func124 rfl IR_spec_l1Random hargs hw
def H_spec_l1Subst:Hint:=⟨[(0,false),(1,false),(2,false),(3,true),(5,true),(6,true),(7,true),(8,false)],[[0,2]]⟩
abbrev K123_1:C:=.seq (.pl <| .e 8 1 <|
 .o (.pget (some 8) none 6 0 (some 3)) <|
 .o (.pset none 5 0 3 (.v 8)) .done) (.ret)
abbrev K123_2:C:=.pl <| .e 8 2 <|
 .m 8 7 <|
 .x 9 (.bin .add (.v 8) (.c (.int .i64 1))) <|
 .m 7 9 .done
abbrev K123_3:Pl:=.a 20 6 <|
 .o (.pset (some 20) 6 2 1 (.v 19)) .done
abbrev K123_4:Pl:=.o (.psl 18 [.int .i64 0,.int .i64 0,.slice none 0 0] [(0,3,.v 17)]) <|
 .c 19 (.app 40 3 [.int .i64 0,.int .i64 0,.slice none 0 0] (.o (.v 9)) (.p 1 18)) K123_3
abbrev K123_5:C:=.seq (.block 1 (.pl <| .e 8 13 <|
 .a 8 6 <|
 .g 9 8 6 2 <|
 .a 10 3 <|
 .g 11 10 3 2 <|
 .m 12 7 <|
 .x 13 (.ia 3 (.v 11) (.v 12)) <|
 .o (.ld (some 14) (.v 13) (some 3)) <|
 .m 15 1 <|
 .o (.pget (some 16) none 4 0 (some 3)) <|
 .c 17 (.call fn_spec_l1Subst [.v 14,.v 15,.v 16]) K123_4)) K123_2
abbrev K123_6:C:=.cond 8 (.v 12) (.skip) (.exit 0)
abbrev K123_7:C:=.seq (.seq (.pl <| .e 8 5 <|
 .m 8 7 <|
 .a 9 3 <|
 .g 10 9 3 2 <|
 .x 11 (.lenV (.v 10)) <|
 .x 12 (.bin .lss (.v 8) (.v 11)) .done) K123_6) K123_5
abbrev K123_8:C:=.block 0 (.loop 8 [0,2] K123_7)
abbrev K123_9:C:=.seq (.seq (.pl <| .e 8 0 <|
 .x 7 (.mv (.c (.int .i64 0))) .done) K123_8) K123_1
abbrev K123_10:C:=.seq (.pl <| .e 8 5 <|
 .a 8 3 <|
 .g 9 8 3 0 <|
 .a 10 3 <|
 .g 11 10 3 1 <|
 .x 12 (.build [.int .i64 0,.int .i64 0,.slice none 0 0] [(0,1,.v 9),(1,1,.v 11)]) <|
 .o (.pnew 6 (.c (.agg #[.int .i64 0,.int .i64 0,.slice none 0 0])) []) <|
 .o (.pset none 6 0 3 (.v 12)) .done) K123_9
abbrev K123_11:Pl:=.o (.pset none 5 0 3 (.v 10)) .done
abbrev K123_12:C:=.seq (.pl <| .e 8 3 <|
 .o (.pget (some 8) none 4 0 (some 3)) <|
 .x 9 (.build [.int .i64 0,.int .i64 0,.slice none 0 0] []) <|
 .c 10 (.call fn_spec_l1Subst [.v 8,.c (.int .i64 (-1)),.v 9]) K123_11) (.ret)
abbrev K123_13:C:=.cond 8 (.v 16) K123_12 (.skip)
abbrev K123_14:C:=.seq (.seq (.pl <| .e 8 9 <|
 .a 8 3 <|
 .g 9 8 3 0 <|
 .x 10 (.bin .eql (.v 9) (.c (.int .i64 2))) <|
 .m 11 10 <|
 .y 11 (.als 12 none 3) <|
 .y 11 (.pget (some 13) (some 12) 3 1 none) <|
 .y 11 (.px (some 14) (.mv (.v 1))) <|
 .y 11 (.px (some 15) (.bin .eql (.v 13) (.v 14))) <|
 .x 16 (.pick (.v 11) (.v 15) (.c (.bool false))) .done) K123_13) K123_10
abbrev B_spec_l1Subst:C:=.seq (.pl <| .e 8 0 <|
 .o (.pnew 3 (.v 0) []) <|
 .o (.pnew 4 (.v 2) []) <|
 .o (.pnew 5 (.c (.agg #[.int .i64 0,.int .i64 0,.slice none 0 0])) []) .done) K123_14
def R_spec_l1Subst:FIR:=⟨B_spec_l1Subst,8,[(5,some (some 3))]⟩
theorem IR_spec_l1Subst:cfun Tryz.prog H_spec_l1Subst Tryz.f123=some R_spec_l1Subst:=by kernel_rfl
theorem EN_spec_l1Subst:ENT Tryz.prog B_spec_l1Subst [(5,some (some 3))] 3 8 fn_spec_l1Subst:=fun hargs hw=>enter Tryz.func123 rfl IR_spec_l1Subst hargs hw
def H_spec_l2Copy:Hint:=⟨[(0,false),(1,true),(2,true),(3,true),(4,false),(5,true),(6,false),(7,true)],[[0,5,6,7],[0,7]]⟩
abbrev K98_1:C:=.seq (.pl <| .e 8 1 <|
 .o (.pget (some 8) none 3 0 (some 2)) <|
 .o (.pset none 2 0 2 (.v 8)) .done) (.ret)
abbrev K98_2:C:=.pl <| .e 8 2 <|
 .m 8 4 <|
 .x 9 (.bin .add (.v 8) (.c (.int .i64 1))) <|
 .m 4 9 .done
abbrev K98_3:Pl:=.a 13 3 <|
 .o (.pset (some 13) 3 1 1 (.v 12)) .done
abbrev K98_4:C:=.pl <| .e 8 6 <|
 .a 8 3 <|
 .g 9 8 3 1 <|
 .o (.pget (some 10) none 5 0 (some 2)) <|
 .o (.psl 11 [.int .i64 0,.slice none 0 0] [(0,2,.v 10)]) <|
 .c 12 (.app 32 2 [.int .i64 0,.slice none 0 0] (.o (.v 9)) (.p 1 11)) K98_3
abbrev K98_5:C:=.pl <| .e 8 2 <|
 .m 8 6 <|
 .x 9 (.bin .add (.v 8) (.c (.int .i64 1))) <|
 .m 6 9 .done
abbrev K98_6:Pl:=.a 13 5 <|
 .o (.pset (some 13) 5 1 1 (.v 12)) .done
abbrev K98_7:C:=.pl <| .e 8 6 <|
 .a 8 5 <|
 .g 9 8 5 1 <|
 .o (.pget (some 10) none 7 0 (some 10)) <|
 .o (.psl 11 [.int .i64 0,.int .i64 0,.int .i64 0,.int .i64 0,.slice none 0 0,.int .i64 0,.int .i64 0,.int .i64 0,.slice none 0 0,.int .i64 0] [(0,10,.v 10)]) <|
 .c 12 (.app 112 10 [.int .i64 0,.int .i64 0,.int .i64 0,.int .i64 0,.slice none 0 0,.int .i64 0,.int .i64 0,.int .i64 0,.slice none 0 0,.int .i64 0] (.o (.v 9)) (.p 1 11)) K98_6
abbrev K98_8:Pl:=.a 12 7 <|
 .o (.pset (some 12) 7 6 3 (.v 11)) .done
abbrev K98_9:C:=.seq (.pl <| .e 8 5 <|
 .a 8 7 <|
 .o (.pget (some 9) (some 8) 7 6 (some 3)) <|
 .x 10 (.build [.int .i64 0,.int .i64 0,.slice none 0 0] []) <|
 .c 11 (.call fn_spec_l1Subst [.v 9,.c (.int .i64 (-1)),.v 10]) K98_8) K98_7
abbrev K98_10:Pl:=.a 12 7 <|
 .o (.pset (some 12) 7 2 3 (.v 11)) .done
abbrev K98_11:C:=.seq (.pl <| .e 8 5 <|
 .a 8 7 <|
 .o (.pget (some 9) (some 8) 7 2 (some 3)) <|
 .x 10 (.build [.int .i64 0,.int .i64 0,.slice none 0 0] []) <|
 .c 11 (.call fn_spec_l1Subst [.v 9,.c (.int .i64 (-1)),.v 10]) K98_10) K98_9
abbrev K98_12:C:=.seq (.block 3 (.seq (.pl <| .e 8 9 <|
 .a 8 1 <|
 .g 9 8 1 1 <|
 .m 10 4 <|
 .x 11 (.ia 2 (.v 9) (.v 10)) <|
 .x 12 (.fa 1 (.v 11)) <|
 .l 13 12 <|
 .m 14 6 <|
 .x 15 (.ia 10 (.v 13) (.v 14)) <|
 .o (.ld (some 16) (.v 15) (some 10)) <|
 .o (.pnew 7 (.c (.agg #[.int .i64 0,.int .i64 0,.int .i64 0,.int .i64 0,.slice none 0 0,.int .i64 0,.int .i64 0,.int .i64 0,.slice none 0 0,.int .i64 0])) []) <|
 .o (.pset none 7 0 10 (.v 16)) .done) K98_11)) K98_5
abbrev K98_13:C:=.cond 8 (.v 16) (.skip) (.exit 2)
abbrev K98_14:C:=.seq (.seq (.pl <| .e 8 9 <|
 .m 8 6 <|
 .a 9 1 <|
 .g 10 9 1 1 <|
 .m 11 4 <|
 .x 12 (.ia 2 (.v 10) (.v 11)) <|
 .x 13 (.fa 1 (.v 12)) <|
 .l 14 13 <|
 .x 15 (.lenV (.v 14)) <|
 .x 16 (.bin .lss (.v 8) (.v 15)) .done) K98_13) K98_12
abbrev K98_15:C:=.block 2 (.loop 8 [0,7] K98_14)
abbrev K98_16:C:=.seq (.seq (.pl <| .e 8 0 <|
 .x 6 (.mv (.c (.int .i64 0))) .done) K98_15) K98_4
abbrev K98_17:C:=.seq (.block 1 (.seq (.pl <| .e 8 7 <|
 .a 8 1 <|
 .g 9 8 1 1 <|
 .m 10 4 <|
 .x 11 (.ia 2 (.v 9) (.v 10)) <|
 .x 12 (.fa 0 (.v 11)) <|
 .l 13 12 <|
 .x 14 (.build [.int .i64 0,.slice none 0 0] [(0,1,.v 13)]) <|
 .o (.pnew 5 (.c (.agg #[.int .i64 0,.slice none 0 0])) []) <|
 .o (.pset none 5 0 2 (.v 14)) .done) K98_16)) K98_2
abbrev K98_18:C:=.cond 8 (.v 12) (.skip) (.exit 0)
abbrev K98_19:C:=.seq (.seq (.pl <| .e 8 5 <|
 .m 8 4 <|
 .a 9 1 <|
 .g 10 9 1 1 <|
 .x 11 (.lenV (.v 10)) <|
 .x 12 (.bin .lss (.v 8) (.v 11)) .done) K98_18) K98_17
abbrev K98_20:C:=.block 0 (.loop 8 [0,5,6,7] K98_19)
abbrev K98_21:C:=.seq (.seq (.pl <| .e 8 0 <|
 .x 4 (.mv (.c (.int .i64 0))) .done) K98_20) K98_1
abbrev K98_22:Pl:=.x 12 (.build [.slice none 0 0,.slice none 0 0] [(0,1,.v 11)]) <|
 .o (.pnew 3 (.c (.agg #[.slice none 0 0,.slice none 0 0])) []) <|
 .o (.pset none 3 0 2 (.v 12)) .done
abbrev K98_23:C:=.seq (.pl <| .e 8 5 <|
 .o (.psl 8 [] []) <|
 .a 9 1 <|
 .g 10 9 1 0 <|
 .c 11 (.app 8 1 [.int .i64 0] (.p 0 8) (.o (.v 10))) K98_22) K98_21
abbrev B_spec_l2Copy:C:=.seq (.pl <| .e 8 0 <|
 .o (.pnew 1 (.v 0) []) <|
 .o (.pnew 2 (.c (.agg #[.slice none 0 0,.slice none 0 0])) []) .done) K98_23
def R_spec_l2Copy:FIR:=⟨B_spec_l2Copy,8,[(2,some (some 2))]⟩
theorem IR_spec_l2Copy:cfun Tryz.prog H_spec_l2Copy Tryz.f98=some R_spec_l2Copy:=by kernel_rfl
theorem EN_spec_l2Copy:ENT Tryz.prog B_spec_l2Copy [(2,some (some 2))] 1 8 fn_spec_l2Copy:=fun hargs hw=>enter Tryz.func98 rfl IR_spec_l2Copy hargs hw
def H_spec_l2DrawEdge:Hint:=⟨[(0,false),(1,false),(4,true),(5,true),(6,true),(7,true),(29,false)],[]⟩
abbrev K75_1:C:=.seq (.pl <| .e 7 1 <|
 .o (.pget (some 7) none 3 0 (some 10)) <|
 .o (.pset none 2 0 10 (.v 7)) .done) (.ret)
abbrev K75_2:Pl:=.a 10 3 <|
 .o (.pset (some 10) 3 9 1 (.v 9)) .done
abbrev K75_3:Pl:=.c 9 (.call fn_spec_l16Rd_num [.v 7,.v 8]) K75_2
abbrev K75_4:C:=.pl <| .e 7 4 <|
 .m 7 0 <|
 .c 8 (.bls 1 6 [.int .i64 0] [(0,1,.c (.int .i64 1)),(1,1,.c (.int .i64 (-1))),(2,1,.c (.int .i64 1)),(3,1,.c (.int .i64 (-1))),(4,1,.c (.int .i64 2)),(5,1,.c (.int .i64 (-2)))]) K75_3
abbrev K75_5:C:=.cond 7 (.v 9) K75_4 (.skip)
abbrev K75_6:Pl:=.x 9 (.bin .eql (.v 8) (.c (.int .i64 0))) .done
abbrev K75_7:C:=.seq (.seq (.pl <| .e 7 3 <|
 .m 7 0 <|
 .c 8 (.call fn_spec_l16Rd_pick [.v 7,.c (.int .i64 4)]) K75_6) K75_5) K75_1
abbrev K75_8:Pl:=.x 9 (.build [.int .i64 0,.int .i64 0,.slice none 0 0] [(0,1,.c (.int .i64 1)),(1,1,.v 8)]) <|
 .a 10 3 <|
 .o (.pset (some 10) 3 6 3 (.v 9)) .done
abbrev K75_9:C:=.pl <| .e 7 4 <|
 .m 7 0 <|
 .c 8 (.call fn_spec_l16Rd_pick [.v 7,.c (.int .i64 3)]) K75_8
abbrev K75_10:Pl:=.x 10 (.build [.int .i64 0,.int .i64 0,.slice none 0 0] [(0,1,.c (.int .i64 8)),(2,1,.v 9)]) <|
 .a 11 3 <|
 .o (.pset (some 11) 3 6 3 (.v 10)) .done
abbrev K75_11:C:=.pl <| .e 7 5 <|
 .o (.pget (some 7) none 4 0 (some 3)) <|
 .o (.pget (some 8) none 5 0 (some 3)) <|
 .c 9 (.bls 3 2 [.int .i64 0,.int .i64 0,.slice none 0 0] [(0,3,.v 7),(3,3,.v 8)]) K75_10
abbrev K75_12:Pl:=.x 10 (.build [.int .i64 0,.int .i64 0,.slice none 0 0] [(0,1,.c (.int .i64 9)),(2,1,.v 9)]) <|
 .a 11 3 <|
 .o (.pset (some 11) 3 6 3 (.v 10)) .done
abbrev K75_13:C:=.pl <| .e 7 5 <|
 .o (.pget (some 7) none 5 0 (some 3)) <|
 .o (.pget (some 8) none 4 0 (some 3)) <|
 .c 9 (.bls 3 2 [.int .i64 0,.int .i64 0,.slice none 0 0] [(0,3,.v 7),(3,3,.v 8)]) K75_12
abbrev K75_14:Pl:=.a 9 3 <|
 .o (.pset (some 9) 3 6 3 (.v 8)) .done
abbrev K75_15:C:=.pl <| .e 7 3 <|
 .m 7 0 <|
 .c 8 (.call fn_spec_l1Expr [.v 7]) K75_14
abbrev K75_16:C:=.cond 7 (.v 8) K75_13 K75_15
abbrev K75_17:C:=.seq (.pl <| .e 7 2 <|
 .x 7 (.bin .eql (.v 6) (.c (.int .i64 2))) <|
 .m 8 7 .done) K75_16
abbrev K75_18:C:=.cond 7 (.v 8) K75_11 K75_17
abbrev K75_19:C:=.seq (.pl <| .e 7 2 <|
 .x 7 (.bin .eql (.v 6) (.c (.int .i64 1))) <|
 .m 8 7 .done) K75_18
abbrev K75_20:C:=.cond 7 (.v 8) K75_9 K75_19
abbrev K75_21:C:=.block 0 (.seq (.pl <| .e 7 2 <|
 .x 7 (.bin .eql (.v 6) (.c (.int .i64 0))) <|
 .m 8 7 .done) K75_20)
abbrev K75_22:C:=.seq (.pl <| .e 7 1 <|
 .m 7 0 <|
 .c 6 (.call fn_spec_l16Rd_pick [.v 7,.c (.int .i64 4)]) .done) K75_21
abbrev K75_23:C:=.seq (.pl <| .e 7 1 <|
 .x 7 (.build [.int .i64 0,.int .i64 0,.slice none 0 0] [(0,1,.c (.int .i64 1)),(1,1,.c (.int .i64 1))]) <|
 .o (.pnew 5 (.c (.agg #[.int .i64 0,.int .i64 0,.slice none 0 0])) []) <|
 .o (.pset none 5 0 3 (.v 7)) .done) K75_22
abbrev K75_24:C:=.seq (.pl <| .e 7 3 <|
 .a 7 3 <|
 .g 8 7 3 5 <|
 .x 9 (.build [.int .i64 0,.int .i64 0,.slice none 0 0] [(0,1,.c (.int .i64 2)),(1,1,.v 8)]) <|
 .o (.pnew 4 (.c (.agg #[.int .i64 0,.int .i64 0,.slice none 0 0])) []) <|
 .o (.pset none 4 0 3 (.v 9)) .done) K75_23
abbrev K75_25:Pl:=.a 10 3 <|
 .o (.pset (some 10) 3 5 1 (.v 9)) .done
abbrev K75_26:Pl:=.c 9 (.call fn_spec_l16Rd_num [.v 7,.v 8]) K75_25
abbrev K75_27:C:=.seq (.pl <| .e 7 4 <|
 .m 7 0 <|
 .c 8 (.bls 1 4 [.int .i64 0] [(0,1,.c (.int .i64 0)),(1,1,.c (.int .i64 1)),(2,1,.c (.int .i64 0)),(3,1,.c (.int .i64 2))]) K75_26) K75_24
abbrev K75_28:C:=.cond 7 (.v 9) K75_27 (.skip)
abbrev K75_29:Pl:=.x 9 (.bin .gtr (.v 8) (.c (.int .i64 0))) .done
abbrev K75_30:C:=.seq (.seq (.pl <| .e 7 3 <|
 .m 7 0 <|
 .c 8 (.call fn_spec_l16Rd_pick [.v 7,.c (.int .i64 3)]) K75_29) K75_28) K75_7
abbrev K75_31:Pl:=.x 15 (.build [.int .i64 0,.int .i64 0,.int .i64 0,.int .i64 0,.slice none 0 0,.int .i64 0,.int .i64 0,.int .i64 0,.slice none 0 0,.int .i64 0] [(0,1,.v 9),(1,1,.v 12),(2,3,.v 14),(5,1,.c (.int .i64 (-1)))]) <|
 .o (.pnew 3 (.c (.agg #[.int .i64 0,.int .i64 0,.int .i64 0,.int .i64 0,.slice none 0 0,.int .i64 0,.int .i64 0,.int .i64 0,.slice none 0 0,.int .i64 0])) []) <|
 .o (.pset none 3 0 10 (.v 15)) .done
abbrev K75_32:Pl:=.m 13 0 <|
 .c 14 (.call fn_spec_l2Guard [.v 13]) K75_31
abbrev K75_33:Pl:=.m 10 0 <|
 .m 11 1 <|
 .c 12 (.call fn_spec_l16Rd_pick [.v 10,.v 11]) K75_32
abbrev K75_34:C:=.seq (.pl <| .e 7 9 <|
 .m 7 0 <|
 .m 8 1 <|
 .c 9 (.call fn_spec_l16Rd_pick [.v 7,.v 8]) K75_33) K75_30
abbrev B_spec_l2DrawEdge:C:=.seq (.pl <| .e 7 0 <|
 .o (.pnew 2 (.c (.agg #[.int .i64 0,.int .i64 0,.int .i64 0,.int .i64 0,.slice none 0 0,.int .i64 0,.int .i64 0,.int .i64 0,.slice none 0 0,.int .i64 0])) []) .done) K75_34
def R_spec_l2DrawEdge:FIR:=⟨B_spec_l2DrawEdge,7,[(2,some (some 10))]⟩
theorem IR_spec_l2DrawEdge:cfun Tryz.prog H_spec_l2DrawEdge Tryz.f75=some R_spec_l2DrawEdge:=by kernel_rfl
theorem EN_spec_l2DrawEdge:ENT Tryz.prog B_spec_l2DrawEdge [(2,some (some 10))] 2 7 fn_spec_l2DrawEdge:=fun hargs hw=>enter Tryz.func75 rfl IR_spec_l2DrawEdge hargs hw
def H_spec_l2Guard:Hint:=⟨[(0,false),(2,true),(3,true),(4,true),(5,true)],[]⟩
abbrev K109_1:C:=.seq (.pl <| .e 5 1 <|
 .o (.pget (some 5) none 4 0 (some 3)) <|
 .o (.pset none 1 0 3 (.v 5)) .done) (.ret)
abbrev K109_2:Pl:=.x 7 (.build [.int .i64 0,.int .i64 0,.slice none 0 0] [(0,1,.c (.int .i64 3)),(2,1,.v 6)]) <|
 .o (.pset none 1 0 3 (.v 7)) .done
abbrev K109_3:C:=.seq (.pl <| .e 5 3 <|
 .o (.pget (some 5) none 4 0 (some 3)) <|
 .c 6 (.bls 3 1 [.int .i64 0,.int .i64 0,.slice none 0 0] [(0,3,.v 5)]) K109_2) (.ret)
abbrev K109_4:C:=.cond 5 (.v 7) K109_3 (.skip)
abbrev K109_5:Pl:=.x 7 (.bin .eql (.v 6) (.c (.int .i64 0))) .done
abbrev K109_6:C:=.seq (.seq (.pl <| .e 5 3 <|
 .m 5 0 <|
 .c 6 (.call fn_spec_l16Rd_pick [.v 5,.c (.int .i64 5)]) K109_5) K109_4) K109_1
abbrev K109_7:Pl:=.x 11 (.build [.int .i64 0,.int .i64 0,.slice none 0 0] [(0,1,.v 7),(2,1,.v 10)]) <|
 .o (.pset none 4 0 3 (.v 11)) .done
abbrev K109_8:Pl:=.c 10 (.bls 3 2 [.int .i64 0,.int .i64 0,.slice none 0 0] [(0,3,.v 8),(3,3,.v 9)]) K109_7
abbrev K109_9:Pl:=.c 7 (.call fn_spec_l16Rd_num [.v 5,.v 6]) K109_8
abbrev K109_10:Pl:=.x 11 (.build [.int .i64 0,.int .i64 0,.slice none 0 0] [(0,1,.v 7),(2,1,.v 10)]) <|
 .o (.pset none 4 0 3 (.v 11)) .done
abbrev K109_11:Pl:=.c 7 (.call fn_spec_l16Rd_num [.v 5,.v 6]) K109_10
abbrev K109_12:Pl:=.c 10 (.bls 3 2 [.int .i64 0,.int .i64 0,.slice none 0 0] [(0,3,.v 8),(3,3,.v 9)]) K109_11
abbrev K109_13:Pl:=.both K109_9 K109_12
abbrev K109_14:Pl:=.c 6 (.bls 1 3 [.int .i64 0] [(0,1,.c (.int .i64 6)),(1,1,.c (.int .i64 7)),(2,1,.c (.int .i64 6))]) K109_13
abbrev K109_15:Pl:=.x 11 (.build [.int .i64 0,.int .i64 0,.slice none 0 0] [(0,1,.v 7),(2,1,.v 10)]) <|
 .o (.pset none 4 0 3 (.v 11)) .done
abbrev K109_16:Pl:=.c 7 (.call fn_spec_l16Rd_num [.v 5,.v 6]) K109_15
abbrev K109_17:Pl:=.c 6 (.bls 1 3 [.int .i64 0] [(0,1,.c (.int .i64 6)),(1,1,.c (.int .i64 7)),(2,1,.c (.int .i64 6))]) K109_16
abbrev K109_18:Pl:=.c 10 (.bls 3 2 [.int .i64 0,.int .i64 0,.slice none 0 0] [(0,3,.v 8),(3,3,.v 9)]) K109_17
abbrev K109_19:C:=.seq (.pl <| .e 5 7 <|
 .m 5 0 <|
 .o (.pget (some 8) none 2 0 (some 3)) <|
 .o (.pget (some 9) none 3 0 (some 3)) <|
 .o (.pnew 4 (.c (.agg #[.int .i64 0,.int .i64 0,.slice none 0 0])) []) <|
 .both K109_14 K109_18) K109_6
abbrev K109_20:Pl:=.x 7 (.build [.int .i64 0,.int .i64 0,.slice none 0 0] [(0,1,.c (.int .i64 1)),(1,1,.v 6)]) <|
 .o (.pnew 3 (.c (.agg #[.int .i64 0,.int .i64 0,.slice none 0 0])) []) <|
 .o (.pset none 3 0 3 (.v 7)) .done
abbrev K109_21:C:=.seq (.pl <| .e 5 3 <|
 .m 5 0 <|
 .c 6 (.call fn_spec_l16Rd_pick [.v 5,.c (.int .i64 3)]) K109_20) K109_19
abbrev K109_22:Pl:=.x 8 (.build [.int .i64 0,.int .i64 0,.slice none 0 0] [(0,1,.c (.int .i64 2)),(1,1,.v 7)]) <|
 .o (.pnew 2 (.c (.agg #[.int .i64 0,.int .i64 0,.slice none 0 0])) []) <|
 .o (.pset none 2 0 3 (.v 8)) .done
abbrev K109_23:Pl:=.c 7 (.call fn_spec_l16Rd_num [.v 5,.v 6]) K109_22
abbrev K109_24:C:=.seq (.pl <| .e 5 4 <|
 .m 5 0 <|
 .c 6 (.bls 1 4 [.int .i64 0] [(0,1,.c (.int .i64 0)),(1,1,.c (.int .i64 1)),(2,1,.c (.int .i64 0)),(3,1,.c (.int .i64 2))]) K109_23) K109_21
abbrev K109_25:C:=.seq (.pl <| .e 5 1 <|
 .x 5 (.build [.int .i64 0,.int .i64 0,.slice none 0 0] [(0,1,.c (.int .i64 1)),(1,1,.c (.int .i64 1))]) <|
 .o (.pset none 1 0 3 (.v 5)) .done) (.ret)
abbrev K109_26:C:=.cond 5 (.v 7) K109_25 (.skip)
abbrev K109_27:Pl:=.x 7 (.bin .eql (.v 6) (.c (.int .i64 0))) .done
abbrev K109_28:C:=.seq (.seq (.pl <| .e 5 3 <|
 .m 5 0 <|
 .c 6 (.call fn_spec_l16Rd_pick [.v 5,.c (.int .i64 3)]) K109_27) K109_26) K109_24
abbrev B_spec_l2Guard:C:=.seq (.pl <| .e 5 0 <|
 .o (.pnew 1 (.c (.agg #[.int .i64 0,.int .i64 0,.slice none 0 0])) []) .done) K109_28
def R_spec_l2Guard:FIR:=⟨B_spec_l2Guard,5,[(1,some (some 3))]⟩
theorem IR_spec_l2Guard:cfun Tryz.prog H_spec_l2Guard Tryz.f109=some R_spec_l2Guard:=by kernel_rfl
theorem EN_spec_l2Guard:ENT Tryz.prog B_spec_l2Guard [(1,some (some 3))] 1 5 fn_spec_l2Guard:=fun hargs hw=>enter Tryz.func109 rfl IR_spec_l2Guard hargs hw
theorem Rep.Y {h:Heap}{v:Value}{l:List (BitVec 8)}(hr:Rep h v l):((∀(kd:IntKind) (i:Nat),i<l.length→iaV 1 v (.int kd i)=some (elp 1 v i))∧(∀(kd:IntKind) (i:Int),0≤i→i<l.length→iaV 1 v (.int kd i)=some (elp 1 v i.toNat))∧lenVV v=some (.int .i64 l.length)) ∧
  ∀(i:Nat) (hi:i<l.length),hload h (some (elp 1 v i)) none=some (.int .u8 l[i].toNat):=⟨hr.X rfl,fun _ hi=>hr.ldF hi⟩
theorem xor_nn {a b:Int}(ha:0≤a) (ha2:a<9223372036854775808) (hb:0≤b) (hb2:b<9223372036854775808):0≤xorI .i64 a b∧xorI .i64 a b<9223372036854775808:=by
 have e1:(BitVec.ofInt 64 a).toNat=a.toNat:=by rw[BitVec.toNat_ofInt];congr 1;exact Int.emod_eq_of_lt ha (by omega)
 have e2:(BitVec.ofInt 64 b).toNat=b.toNat:=by rw[BitVec.toNat_ofInt];congr 1;exact Int.emod_eq_of_lt hb (by omega)
 have h:a.toNat^^^b.toNat<2^63:=Nat.xor_lt_two_pow (by omega) (by omega)
 have e3:xorI .i64 a b=((a.toNat^^^b.toNat:Nat):Int):=by
  unfold xorI
  rw[show IntKind.i64.bits=64 from rfl,BitVec.toNat_xor,e1,e2]
  exact wrap64 (by omega) (by omega)
 rw[e3]
 omega
theorem tmod_rng {a b:Int}(ha:0≤a) (hb:0<b):0≤a.tmod b∧a.tmod b<b:=by
 rw[Int.tmod_eq_emod_of_nonneg ha]
 exact⟨Int.emod_nonneg _ (by omega),Int.emod_lt_of_pos _ hb⟩
theorem tdiv_rng {a b:Int}(ha:0≤a) (hb:0<b):0≤a.tdiv b∧a.tdiv b≤a:=by
 rw[Int.tdiv_eq_ediv_of_nonneg ha]
 exact⟨Int.ediv_nonneg ha (by omega),Int.ediv_le_self _ ha⟩
theorem c_pick {g h:Heap}{Γ:List HP}{b:Nat}{sl:Value}{l:List (BitVec 8)}{p n:Int}(R:Rep g sl l) (H:HS g (rb b sl p::Γ) h) (hp:0≤p) (hp2:p<1099511627776) (hn:I64 n) :
  CallE Tryz.prog fn_spec_l16Rd_pick [.pointer (some ⟨b,0,none⟩),.int .i64 n] h (fun u h'=>∃r,u=.int .i64 r∧I64 r∧0≤r∧(1≤n→r<n)∧HS g (rb b sl (p+1)::Γ) h'):=by
 have hL:=R.lt
 have hn1:=hn.1
 have hn2:=hn.2
 refine CallE.gen fun k hk=>EN_spec_l16Rd_pick rfl ?_
 have hb0:hload h (some (.pointer (some ⟨b,0,none⟩))) none=some sl:=H.bxld rfl
 have hb1:hload h (some (.pointer (some ⟨b,1,none⟩))) none=some (.int .i64 p):=H.bxld rfl
 simp -implicitDefEqProofs (disch:=first|omega|(simp only[LnZ];omega))[wrap64,hb0,hb1]
 refine HS.bxst (o:=1) (sz:=1) (u:=.int .i64 (p+1)) H rfl rfl rfl rfl (by simp) fun h2 H=>?_
 replace H:HS g (rb b sl (p+1)::Γ) h2:=H
 have hb0:hload h2 (some (.pointer (some ⟨b,0,none⟩))) none=some sl:=H.bxld rfl
 have hb1:hload h2 (some (.pointer (some ⟨b,1,none⟩))) none=some (.int .i64 (p+1)):=H.bxld rfl
 by_cases a1:n<1
 ·simp -implicitDefEqProofs (disch:=first|omega|(simp only[LnZ];omega))[wrap64,hb0,hb1,a1]
  exact RetK.keep (hk _ _ ⟨0,rfl,⟨by omega,by omega⟩,by omega,fun h=>absurd h (by omega),H⟩)
 obtain⟨ln,hln⟩:∃ln:Int,ln=l.length:=⟨_,rfl⟩
 have hlen:=(R.on H).len
 rw[← hln] at hlen
 by_cases a2:ln=0
 ·simp -implicitDefEqProofs (disch:=first|omega|(simp only[LnZ];omega))[wrap64,hb0,hb1,a1,hlen,a2]
  exact RetK.keep (hk _ _ ⟨0,rfl,⟨by omega,by omega⟩,by omega,fun h=>by omega,H⟩)
 obtain⟨m,rfl⟩:∃m:Nat,p=m:=⟨p.toNat,(Int.toNat_of_nonneg hp).symm⟩
 have hn0:¬n=0:=by omega
 by_cases a3:(m:Int)<ln
 ·have hk3:m<l.length:=by omega
  obtain⟨c,hc⟩:∃c:Int,c=l[m].toNat:=⟨_,rfl⟩
  have hc2:c<256:=by have:=l[m].isLt;omega
  have hc0:0≤c:=by omega
  have hld:=(R.on H).Y.2 m hk3
  rw[← hc] at hld
  obtain⟨r1,r2⟩:=tmod_rng hc0 (show 0<n by omega)
  simp -implicitDefEqProofs (disch:=first|omega|(simp only[LnZ];omega))[wrap64,hb0,hb1,a1,hlen,a2,a3,(R.on H).Y.1.1,hld,hn0]
  exact RetK.keep (hk _ _ ⟨c.tmod n,rfl,⟨by omega,by omega⟩,r1,fun _=>r2,H⟩)
 ·obtain⟨s1,s2⟩:=tmod_rng (a:=(m:Int)) (b:=ln) (by omega) (by omega)
  obtain⟨i1,hi1⟩:∃i1:Nat,(m:Int).tmod ln=i1:=⟨_,(Int.toNat_of_nonneg s1).symm⟩
  obtain⟨t1,t2⟩:=tmod_rng (a:=(m:Int)*7+3) (b:=ln) (by omega) (by omega)
  obtain⟨i2,hi2⟩:∃i2:Nat,((m:Int)*7+3).tmod ln=i2:=⟨_,(Int.toNat_of_nonneg t1).symm⟩
  obtain⟨q1,q2⟩:=tdiv_rng (a:=(m:Int)) (b:=ln) (by omega) (by omega)
  obtain⟨q,hq⟩:∃q:Int,(m:Int).tdiv ln=q:=⟨_,rfl⟩
  rw[hi1] at s1 s2
  rw[hi2] at t1 t2
  rw[hq] at q1 q2
  have hl1:i1<l.length:=by omega
  have hl2:i2<l.length:=by omega
  obtain⟨c,hc⟩:∃c:Int,c=l[i1].toNat:=⟨_,rfl⟩
  have hc2:c<256:=by have:=l[i1].isLt;omega
  have hc0:0≤c:=by omega
  have hld:=(R.on H).Y.2 i1 hl1
  rw[← hc] at hld
  obtain⟨d,hd⟩:∃d:Int,d=l[i2].toNat:=⟨_,rfl⟩
  have hd2:d<256:=by have:=l[i2].isLt;omega
  have hd0:0≤d:=by omega
  have hld2:=(R.on H).Y.2 i2 hl2
  rw[← hd] at hld2
  obtain⟨x,hx⟩:∃x:Int,x=c*131+d*1117+(m:Int)*29+q*53:=⟨_,rfl⟩
  have hx0:0≤x:=by omega
  have hx1:x<9223372036854775808:=by omega
  obtain⟨y1,y2⟩:=tdiv_rng (a:=x) (b:=64) hx0 (by omega)
  obtain⟨z1,z2⟩:=xor_nn hx0 hx1 y1 (by omega)
  obtain⟨w1,w2⟩:=tmod_rng z1 (show 0<n by omega)
  simp -implicitDefEqProofs (disch:=first|omega|(simp only[LnZ];omega))[wrap64,hb0,hb1,a1,hlen,a2,a3,(R.on H).Y.1.1,hi1,hi2,hq,hld,hld2,hn0,← hx]
  exact RetK.keep (hk _ _ ⟨_,rfl,⟨by omega,by omega⟩,w1,fun _=>w2,H⟩)
theorem c_num {g h:Heap}{Γ:List HP}{b:Nat}{sl v:Value}{l:List (BitVec 8)}{p:Int}{xs:List Int}(R:Rep g sl l) (H:HS g (ow v xs::rb b sl p::Γ) h) (hp:0≤p) (hp2:p<1099511627776) (hx:xs≠[]) :
  CallE Tryz.prog fn_spec_l16Rd_num [.pointer (some ⟨b,0,none⟩),v] h (fun u h'=>∃r,u=.int .i64 r∧I64 r∧r∈xs∧HS g (rb b sl (p+1)::Γ) h'):=by
 have hL:=H.rep.lt
 have hpos:0<xs.length:=List.length_pos_iff.2 hx
 refine CallE.gen fun k hk=>EN_spec_l16Rd_num rfl ?_
 simp -implicitDefEqProofs (disch:=first|omega|(simp only[LnZ];omega))[wrap64,H.rep.len]
 refine (c_pick R H.sw1 hp hp2 ⟨by omega,by omega⟩).go ?_
 rintro _ h1 ⟨r,rfl,hr,hr0,hr1,H⟩
 obtain⟨i,rfl⟩:∃i:Nat,r=i:=⟨r.toNat,(Int.toNat_of_nonneg hr0).symm⟩
 have hi:i<xs.length:=by have:=hr1 (by omega);omega
 have hok:=H.sw1.rep.okI hi
 simp -implicitDefEqProofs (disch:=first|omega|(simp only[LnZ];omega))[wrap64,H.sw1.rep.I]
 exact RetK.keep (hk _ _ ⟨xs[i],rfl,⟨hok.1,hok.2⟩,List.getElem_mem hi,H.sw1.drop⟩)
theorem c_l16Open {h:Heap}{v:Value}{l:List (BitVec 8)}(R:Rep h v l):CallE Tryz.prog fn_spec_l16Open [v] h (fun u h'=>∃b sl,∃l':List (BitVec 8),u=.pointer (some ⟨b,0,none⟩)∧Rep h sl l'∧HS h [rb b sl 0] h'):=by
 have hL:=R.lt
 refine CallE.gen fun k hk=>EN_spec_l16Open rfl ?_
 by_cases a1:(2000:Int)<l.length
 ·obtain⟨v',e1,R'⟩:=R.cut (n:=2000) (esz:=1) (k:=.i64) (by omega)
  have hO:=R'.one
  have e2:sliceVV 1 v none (some (some (.int .i64 2000))) none=some v':=e1
  simp -implicitDefEqProofs (disch:=first|omega|(simp only[LnZ];omega))[wrap64,R.len,a1,e2,setC,hO,R'.cells]
  refine HS.init.alloc rfl fun b h1 H=>?_
  simp -implicitDefEqProofs (disch:=omega)[wrap64]
  exact RetK.keep (hk _ _ ⟨b,v',_,rfl,R',H⟩)
 ·have hO:=R.one
  simp -implicitDefEqProofs (disch:=first|omega|(simp only[LnZ];omega))[wrap64,R.len,a1,setC,hO,R.cells]
  refine HS.init.alloc rfl fun b h1 H=>?_
  simp -implicitDefEqProofs (disch:=omega)[wrap64]
  exact RetK.keep (hk _ _ ⟨b,v,_,rfl,R,H⟩)
theorem rd_u8 {P:Program}{t:TypeId}(ht:P.underlying t=some (.int .u8)):RdT P t (BitVec 8):=by
 intro H enc W sp fuel cs x h hwt
 cases fuel with
 | zero=>simp[DataW.trod] at h
 | succ n=>
  unfold DataW.trod at h
  rw[ht] at h
  split at h
  case h_2 k k' m h1=>
   simp only[Option.some.injEq,TypeDesc.int.injEq] at h1
   subst h1
   split at h
   case isTrue hc=>
    obtain⟨rfl,hw⟩:=hc
    have:=bounds_u8 hw
    refine⟨BitVec.ofNat 8 m.toNat,?_⟩
    show _=[Value.int .u8 ((BitVec.ofNat 8 m.toNat).toNat:Int)]
    have e:((BitVec.ofNat 8 m.toNat).toNat:Int)=m:=by
     rw[BitVec.toNat_ofNat,Nat.mod_eq_of_lt (by omega)];omega
    rw[e]
   case isFalse=>simp at h
  all_goals simp_all
def H_spec_l2Mutate:Hint:=⟨[(0,false),(1,false),(3,true),(4,true),(5,true),(6,false),(31,false)],[]⟩
abbrev K66_1:C:=.seq (.pl <| .e 7 1 <|
 .o (.pget (some 7) none 4 0 (some 2)) <|
 .o (.pset none 3 0 2 (.v 7)) .done) (.ret)
abbrev K66_2:Pl:=.a 11 4 <|
 .o (.pset (some 11) 4 0 1 (.v 10)) .done
abbrev K66_3:C:=.pl <| .e 7 5 <|
 .a 7 4 <|
 .g 8 7 4 0 <|
 .o (.psl 9 [.int .i64 0] [(0,1,.c (.int .i64 0))]) <|
 .c 10 (.app 8 1 [.int .i64 0] (.o (.v 8)) (.p 1 9)) K66_2
abbrev K66_4:Pl:=.a 15 4 <|
 .o (.pset (some 15) 4 1 1 (.v 14)) .done
abbrev K66_5:Pl:=.x 12 (.build [.int .i64 0,.slice none 0 0] [(0,1,.v 11)]) <|
 .o (.psl 13 [.int .i64 0,.slice none 0 0] [(0,2,.v 12)]) <|
 .c 14 (.app 32 2 [.int .i64 0,.slice none 0 0] (.o (.v 8)) (.p 1 13)) K66_4
abbrev K66_6:Pl:=.c 11 (.call fn_spec_l16Rd_num [.v 9,.v 10]) K66_5
abbrev K66_7:C:=.pl <| .e 7 9 <|
 .a 7 4 <|
 .g 8 7 4 1 <|
 .m 9 0 <|
 .c 10 (.bls 1 4 [.int .i64 0] [(0,1,.c (.int .i64 0)),(1,1,.c (.int .i64 1)),(2,1,.c (.int .i64 4)),(3,1,.c (.int .i64 5))]) K66_6
abbrev K66_8:Pl:=.st (.re 12 (.v 11) none none) <|
 .x 17 (.ia 10 (.v 12) (.c (.int .i64 0))) <|
 .x 18 (.fa 2 (.v 17)) <|
 .o (.ex none (.store 3 (.v 18) (.v 16))) .done
abbrev K66_9:Pl:=.st (.re 12 (.v 11) none none) <|
 .c 16 (.call fn_spec_l1Mutate [.v 13,.v 15]) K66_8
abbrev K66_10:C:=.pl <| .e 7 12 <|
 .a 7 4 <|
 .g 8 7 4 1 <|
 .m 9 5 <|
 .x 10 (.ia 2 (.v 8) (.v 9)) <|
 .x 11 (.fa 1 (.v 10)) <|
 .l 12 11 <|
 .m 13 0 <|
 .m 14 0 <|
 .c 15 (.call fn_spec_l1Expr [.v 14]) K66_9
abbrev K66_11:C:=.cond 7 (.v 8) K66_10 (.skip)
abbrev K66_12:C:=.seq (.pl <| .e 7 2 <|
 .m 7 5 <|
 .x 8 (.bin .geq (.v 7) (.c (.int .i64 0))) .done) K66_11
abbrev K66_13:Pl:=.st (.re 12 (.v 11) none none) <|
 .x 16 (.ia 10 (.v 12) (.c (.int .i64 0))) <|
 .x 17 (.fa 5 (.v 16)) <|
 .o (.ex none (.store 1 (.v 17) (.v 15))) .done
abbrev K66_14:Pl:=.st (.re 12 (.v 11) none none) <|
 .c 15 (.call fn_spec_l16Rd_num [.v 13,.v 14]) K66_13
abbrev K66_15:C:=.pl <| .e 7 11 <|
 .a 7 4 <|
 .g 8 7 4 1 <|
 .m 9 5 <|
 .x 10 (.ia 2 (.v 8) (.v 9)) <|
 .x 11 (.fa 1 (.v 10)) <|
 .l 12 11 <|
 .m 13 0 <|
 .c 14 (.bls 1 4 [.int .i64 0] [(0,1,.c (.int .i64 (-1))),(1,1,.c (.int .i64 3)),(2,1,.c (.int .i64 0)),(3,1,.c (.int .i64 (-2)))]) K66_14
abbrev K66_16:C:=.cond 7 (.v 8) K66_15 (.skip)
abbrev K66_17:C:=.seq (.pl <| .e 7 2 <|
 .m 7 5 <|
 .x 8 (.bin .geq (.v 7) (.c (.int .i64 0))) .done) K66_16
abbrev K66_18:Pl:=.st (.re 12 (.v 11) none none) <|
 .x 16 (.ia 10 (.v 12) (.c (.int .i64 0))) <|
 .x 17 (.fa 9 (.v 16)) <|
 .o (.ex none (.store 1 (.v 17) (.v 15))) .done
abbrev K66_19:Pl:=.st (.re 12 (.v 11) none none) <|
 .c 15 (.call fn_spec_l16Rd_num [.v 13,.v 14]) K66_18
abbrev K66_20:C:=.pl <| .e 7 11 <|
 .a 7 4 <|
 .g 8 7 4 1 <|
 .m 9 5 <|
 .x 10 (.ia 2 (.v 8) (.v 9)) <|
 .x 11 (.fa 1 (.v 10)) <|
 .l 12 11 <|
 .m 13 0 <|
 .c 14 (.bls 1 4 [.int .i64 0] [(0,1,.c (.int .i64 3)),(1,1,.c (.int .i64 (-3))),(2,1,.c (.int .i64 2)),(3,1,.c (.int .i64 (-9223372036854775808)))]) K66_19
abbrev K66_21:C:=.cond 7 (.v 8) K66_20 (.skip)
abbrev K66_22:C:=.seq (.pl <| .e 7 2 <|
 .m 7 5 <|
 .x 8 (.bin .geq (.v 7) (.c (.int .i64 0))) .done) K66_21
abbrev K66_23:Pl:=.st (.re 12 (.v 11) none none) <|
 .x 16 (.ia 10 (.v 12) (.c (.int .i64 0))) <|
 .x 17 (.fa 1 (.v 16)) <|
 .o (.ex none (.store 1 (.v 17) (.v 15))) .done
abbrev K66_24:Pl:=.st (.re 12 (.v 11) none none) <|
 .c 15 (.call fn_spec_l16Rd_num [.v 13,.v 14]) K66_23
abbrev K66_25:C:=.pl <| .e 7 11 <|
 .a 7 4 <|
 .g 8 7 4 1 <|
 .m 9 5 <|
 .x 10 (.ia 2 (.v 8) (.v 9)) <|
 .x 11 (.fa 1 (.v 10)) <|
 .l 12 11 <|
 .m 13 0 <|
 .c 14 (.bls 1 4 [.int .i64 0] [(0,1,.c (.int .i64 (-1))),(1,1,.c (.int .i64 4)),(2,1,.c (.int .i64 0)),(3,1,.c (.int .i64 9223372036854775807))]) K66_24
abbrev K66_26:C:=.cond 7 (.v 8) K66_25 (.skip)
abbrev K66_27:C:=.seq (.pl <| .e 7 2 <|
 .m 7 5 <|
 .x 8 (.bin .geq (.v 7) (.c (.int .i64 0))) .done) K66_26
abbrev K66_28:C:=.seq (.pl <| .e 7 1 <|
 .x 7 (.build [.slice none 0 0,.slice none 0 0] []) <|
 .o (.pset none 3 0 2 (.v 7)) .done) (.ret)
abbrev K66_29:C:=.cond 7 (.v 8) K66_28 (.skip)
abbrev K66_30:C:=.seq (.pl <| .e 7 2 <|
 .x 7 (.bin .eql (.v 6) (.c (.int .i64 6))) <|
 .m 8 7 .done) K66_29
abbrev K66_31:C:=.cond 7 (.v 8) K66_27 K66_30
abbrev K66_32:C:=.seq (.pl <| .e 7 2 <|
 .x 7 (.bin .eql (.v 6) (.c (.int .i64 5))) <|
 .m 8 7 .done) K66_31
abbrev K66_33:C:=.cond 7 (.v 8) K66_22 K66_32
abbrev K66_34:C:=.seq (.pl <| .e 7 2 <|
 .x 7 (.bin .eql (.v 6) (.c (.int .i64 4))) <|
 .m 8 7 .done) K66_33
abbrev K66_35:C:=.cond 7 (.v 8) K66_17 K66_34
abbrev K66_36:C:=.seq (.pl <| .e 7 2 <|
 .x 7 (.bin .eql (.v 6) (.c (.int .i64 3))) <|
 .m 8 7 .done) K66_35
abbrev K66_37:C:=.cond 7 (.v 8) K66_12 K66_36
abbrev K66_38:C:=.seq (.pl <| .e 7 2 <|
 .x 7 (.bin .eql (.v 6) (.c (.int .i64 2))) <|
 .m 8 7 .done) K66_37
abbrev K66_39:C:=.cond 7 (.v 8) K66_7 K66_38
abbrev K66_40:C:=.seq (.pl <| .e 7 2 <|
 .x 7 (.bin .eql (.v 6) (.c (.int .i64 1))) <|
 .m 8 7 .done) K66_39
abbrev K66_41:C:=.cond 7 (.v 8) K66_3 K66_40
abbrev K66_42:C:=.block 0 (.seq (.pl <| .e 7 2 <|
 .x 7 (.bin .eql (.v 6) (.c (.int .i64 0))) <|
 .m 8 7 .done) K66_41)
abbrev K66_43:C:=.seq (.seq (.pl <| .e 7 1 <|
 .m 7 0 <|
 .c 6 (.call fn_spec_l16Rd_pick [.v 7,.c (.int .i64 50)]) .done) K66_42) K66_1
abbrev K66_44:C:=.pl <| .e 7 0 <|
 .x 5 (.mv (.c (.int .i64 (-1)))) .done
abbrev K66_45:C:=.cond 7 (.v 21) K66_44 (.skip)
abbrev K66_46:C:=.seq (.seq (.pl <| .e 7 15 <|
 .m 7 5 <|
 .a 8 2 <|
 .g 9 8 2 1 <|
 .x 10 (.lenV (.v 9)) <|
 .x 11 (.bin .eql (.v 7) (.v 10)) <|
 .m 12 11 <|
 .n 12 (.als 13 none 4) <|
 .n 12 (.pget (some 14) (some 13) 4 1 none) <|
 .n 12 (.px (some 15) (.mv (.v 5))) <|
 .n 12 (.px (some 16) (.ia 2 (.v 14) (.v 15))) <|
 .n 12 (.px (some 17) (.fa 1 (.v 16))) <|
 .n 12 (.ld (some 18) (.v 17) none) <|
 .n 12 (.px (some 19) (.lenV (.v 18))) <|
 .n 12 (.px (some 20) (.bin .eql (.v 19) (.c (.int .i64 0)))) <|
 .x 21 (.pick (.v 12) (.c (.bool true)) (.v 20)) .done) K66_45) K66_43
abbrev K66_47:Pl:=.m 5 12 .done
abbrev K66_48:C:=.seq (.pl <| .e 7 6 <|
 .m 7 0 <|
 .a 8 2 <|
 .g 9 8 2 1 <|
 .x 10 (.lenV (.v 9)) <|
 .x 11 (.bin .add (.v 10) (.c (.int .i64 1))) <|
 .c 12 (.call fn_spec_l16Rd_pick [.v 7,.v 11]) K66_47) K66_46
abbrev K66_49:Pl:=.o (.pnew 4 (.c (.agg #[.slice none 0 0,.slice none 0 0])) []) <|
 .o (.pset none 4 0 2 (.v 8)) .done
abbrev K66_50:C:=.seq (.pl <| .e 7 2 <|
 .o (.pget (some 7) none 2 0 (some 2)) <|
 .c 8 (.call fn_spec_l2Copy [.v 7]) K66_49) K66_48
abbrev B_spec_l2Mutate:C:=.seq (.pl <| .e 7 0 <|
 .o (.pnew 2 (.v 1) []) <|
 .o (.pnew 3 (.c (.agg #[.slice none 0 0,.slice none 0 0])) []) .done) K66_50
def R_spec_l2Mutate:FIR:=⟨B_spec_l2Mutate,7,[(3,some (some 2))]⟩
theorem IR_spec_l2Mutate:cfun Tryz.prog H_spec_l2Mutate Tryz.f66=some R_spec_l2Mutate:=by kernel_rfl
theorem EN_spec_l2Mutate:ENT Tryz.prog B_spec_l2Mutate [(3,some (some 2))] 2 7 fn_spec_l2Mutate:=fun hargs hw=>enter Tryz.func66 rfl IR_spec_l2Mutate hargs hw
def H_spec_l2System:Hint:=⟨[(0,false),(2,true),(3,true),(4,false),(5,true),(6,false)],[[4,5],[]]⟩
abbrev K47_1:C:=.seq (.pl <| .e 6 1 <|
 .o (.pget (some 6) none 2 0 (some 2)) <|
 .o (.pset none 1 0 2 (.v 6)) .done) (.ret)
abbrev K47_2:C:=.pl <| .e 6 2 <|
 .m 6 3 <|
 .x 7 (.bin .sub (.v 6) (.c (.int .i64 1))) <|
 .m 3 7 .done
abbrev K47_3:Pl:=.a 11 2 <|
 .o (.pset (some 11) 2 1 1 (.v 10)) .done
abbrev K47_4:C:=.pl <| .e 6 6 <|
 .a 6 2 <|
 .g 7 6 2 1 <|
 .o (.pget (some 8) none 4 0 (some 2)) <|
 .o (.psl 9 [.int .i64 0,.slice none 0 0] [(0,2,.v 8)]) <|
 .c 10 (.app 32 2 [.int .i64 0,.slice none 0 0] (.o (.v 7)) (.p 1 9)) K47_3
abbrev K47_5:C:=.pl <| .e 6 2 <|
 .m 6 5 <|
 .x 7 (.bin .sub (.v 6) (.c (.int .i64 1))) <|
 .m 5 7 .done
abbrev K47_6:Pl:=.a 14 4 <|
 .o (.pset (some 14) 4 1 1 (.v 13)) .done
abbrev K47_7:Pl:=.o (.psl 12 [.int .i64 0,.int .i64 0,.int .i64 0,.int .i64 0,.slice none 0 0,.int .i64 0,.int .i64 0,.int .i64 0,.slice none 0 0,.int .i64 0] [(0,10,.v 11)]) <|
 .c 13 (.app 112 10 [.int .i64 0,.int .i64 0,.int .i64 0,.int .i64 0,.slice none 0 0,.int .i64 0,.int .i64 0,.int .i64 0,.slice none 0 0,.int .i64 0] (.o (.v 7)) (.p 1 12)) K47_6
abbrev K47_8:C:=.seq (.block 3 (.pl <| .e 6 9 <|
 .a 6 4 <|
 .g 7 6 4 1 <|
 .m 8 0 <|
 .a 9 4 <|
 .g 10 9 4 0 <|
 .c 11 (.call fn_spec_l2DrawEdge [.v 8,.v 10]) K47_7)) K47_5
abbrev K47_9:C:=.cond 6 (.v 7) (.skip) (.exit 2)
abbrev K47_10:C:=.seq (.seq (.pl <| .e 6 2 <|
 .m 6 5 <|
 .x 7 (.bin .gtr (.v 6) (.c (.int .i64 0))) .done) K47_9) K47_8
abbrev K47_11:C:=.block 2 (.loop 6 [] K47_10)
abbrev K47_12:Pl:=.m 5 8 .done
abbrev K47_13:Pl:=.c 8 (.call fn_spec_l16Rd_num [.v 6,.v 7]) K47_12
abbrev K47_14:C:=.seq (.seq (.pl <| .e 6 3 <|
 .m 6 0 <|
 .c 7 (.bls 1 5 [.int .i64 0] [(0,1,.c (.int .i64 3)),(1,1,.c (.int .i64 4)),(2,1,.c (.int .i64 2)),(3,1,.c (.int .i64 5)),(4,1,.c (.int .i64 1))]) K47_13) K47_11) K47_4
abbrev K47_15:Pl:=.x 9 (.build [.int .i64 0,.slice none 0 0] [(0,1,.v 8)]) <|
 .o (.pnew 4 (.c (.agg #[.int .i64 0,.slice none 0 0])) []) <|
 .o (.pset none 4 0 2 (.v 9)) .done
abbrev K47_16:Pl:=.c 8 (.call fn_spec_l16Rd_num [.v 6,.v 7]) K47_15
abbrev K47_17:C:=.seq (.block 1 (.seq (.pl <| .e 6 4 <|
 .m 6 0 <|
 .c 7 (.bls 1 4 [.int .i64 0] [(0,1,.c (.int .i64 2)),(1,1,.c (.int .i64 3)),(2,1,.c (.int .i64 1)),(3,1,.c (.int .i64 2))]) K47_16) K47_14)) K47_2
abbrev K47_18:C:=.cond 6 (.v 7) (.skip) (.exit 0)
abbrev K47_19:C:=.seq (.seq (.pl <| .e 6 2 <|
 .m 6 3 <|
 .x 7 (.bin .gtr (.v 6) (.c (.int .i64 0))) .done) K47_18) K47_17
abbrev K47_20:C:=.block 0 (.loop 6 [4,5] K47_19)
abbrev K47_21:Pl:=.m 3 8 .done
abbrev K47_22:Pl:=.c 8 (.call fn_spec_l16Rd_num [.v 6,.v 7]) K47_21
abbrev K47_23:C:=.seq (.seq (.pl <| .e 6 3 <|
 .m 6 0 <|
 .c 7 (.bls 1 4 [.int .i64 0] [(0,1,.c (.int .i64 2)),(1,1,.c (.int .i64 1)),(2,1,.c (.int .i64 2)),(3,1,.c (.int .i64 3))]) K47_22) K47_20) K47_1
abbrev K47_24:Pl:=.x 12 (.build [.slice none 0 0,.slice none 0 0] [(0,1,.v 11)]) <|
 .o (.pnew 2 (.c (.agg #[.slice none 0 0,.slice none 0 0])) []) <|
 .o (.pset none 2 0 2 (.v 12)) .done
abbrev K47_25:Pl:=.c 11 (.bls 1 3 [.int .i64 0] [(0,1,.v 7),(1,1,.v 10),(2,1,.c (.int .i64 0))]) K47_24
abbrev K47_26:Pl:=.c 10 (.call fn_spec_l16Rd_num [.v 8,.v 9]) K47_25
abbrev K47_27:Pl:=.m 8 0 <|
 .c 9 (.bls 1 4 [.int .i64 0] [(0,1,.c (.int .i64 0)),(1,1,.c (.int .i64 0)),(2,1,.c (.int .i64 1)),(3,1,.c (.int .i64 3))]) K47_26
abbrev K47_28:C:=.seq (.pl <| .e 6 7 <|
 .m 6 0 <|
 .c 7 (.call fn_spec_l16Rd_pick [.v 6,.c (.int .i64 2)]) K47_27) K47_23
abbrev B_spec_l2System:C:=.seq (.pl <| .e 6 0 <|
 .o (.pnew 1 (.c (.agg #[.slice none 0 0,.slice none 0 0])) []) .done) K47_28
def R_spec_l2System:FIR:=⟨B_spec_l2System,6,[(1,some (some 2))]⟩
theorem IR_spec_l2System:cfun Tryz.prog H_spec_l2System Tryz.f47=some R_spec_l2System:=by kernel_rfl
theorem EN_spec_l2System:ENT Tryz.prog B_spec_l2System [(1,some (some 2))] 1 6 fn_spec_l2System:=fun hargs hw=>enter Tryz.func47 rfl IR_spec_l2System hargs hw
theorem okL {xs:List Int}(h:∀x∈xs,-9223372036854775808≤x∧x<9223372036854775808):∀x∈xs,Flat.ok x:=h
theorem Exq.nods_append:∀{l l2:List Exq},Exq.nods (l++l2)=Exq.nods l+Exq.nods l2
 | [],_=>by simp[Exq.nods]
 | x::l,l2=>by simp[Exq.nods,Exq.nods_append (l:=l) (l2:=l2)];omega
theorem Exq.arity_le {k:Int}:Exq.arity k≤2:=by
 unfold Exq.arity;repeat' split
 all_goals omega
theorem Exq.arity_ge {k:Int}:-1≤Exq.arity k:=by
 unfold Exq.arity;repeat' split
 all_goals omega
theorem c_l1Random {b:Nat}{sl:Value}{l:List (BitVec 8)}:∀(d:Nat),d≤4→∀{g h:Heap}{Γ:List HP}{p:Int},Rep g sl l→HS g (rb b sl p::Γ) h→0≤p→p+4*(2^d:Nat)≤1000000000000 →
  CallE Tryz.prog fn_spec_l1Random [.pointer (some ⟨b,0,none⟩),.int .i64 d] h (fun u h'=>∃(y:Exq) (p':Int),HS g (ow u y::rb b sl p'::Γ) h'∧y.nod<2^(d+1)∧p≤p'∧p'≤p+(4*(2^d:Nat)-2)):=by
 intro d
 induction d with
 | zero=>
  intro _ g h Γ p R H hp hp2
  refine CallE.gen fun k hk=>EN_spec_l1Random rfl ?_
  simp -implicitDefEqProofs (disch:=omega)[wrap64]
  refine (c_pick R H (by omega) (by omega) ⟨by decide,by decide⟩).go ?_
  rintro _ hL1 ⟨r1,rfl,o1,z1,y1,H⟩
  by_cases c1:r1=0
  ·simp -implicitDefEqProofs (disch:=first|omega|(simp only[LnZ];omega))[wrap64,c1]
   refine (c_pick R H (by omega) (by omega) ⟨by decide,by decide⟩).go ?_
   rintro _ hL2 ⟨r2,rfl,o2,z2,y2,H⟩
   simp -implicitDefEqProofs (disch:=first|omega|(simp only[LnZ];omega))[wrap64,setC]
   exact RetK.keep (hk _ _ ⟨Exq.mk 1 r2 [],_,HS.mkExq' H.nil_ow ⟨by decide,by decide⟩ o2,by simp[Exq.nod,Exq.nods]<;>omega,by omega,by omega⟩)
  ·simp -implicitDefEqProofs (disch:=first|omega|(simp only[LnZ];omega))[wrap64,c1]
   refine H.bls [(0:Int),1,0,2] rfl rfl (okL (by decide)) (by decide) fun v hL2 H=>?_
   simp -implicitDefEqProofs (disch:=omega)[wrap64]
   refine (c_num R H (by omega) (by omega) (by simp)).go ?_
   rintro _ hL3 ⟨r2,rfl,o2,_,H⟩
   simp -implicitDefEqProofs (disch:=first|omega|(simp only[LnZ];omega))[wrap64,setC]
   exact RetK.keep (hk _ _ ⟨Exq.mk 2 r2 [],_,HS.mkExq' H.nil_ow ⟨by decide,by decide⟩ o2,by simp[Exq.nod,Exq.nods]<;>omega,by omega,by omega⟩)
 | succ d ih=>
  intro hd g h Γ p R H hp hp2
  have hq0:2^(d+1)=2*2^d:=by rw[Nat.pow_succ];omega
  have hq1:2^(d+1+1)=4*2^d:=by rw[Nat.pow_succ,Nat.pow_succ];omega
  have hqp:0<2^d:=Nat.two_pow_pos d
  refine CallE.gen fun k hk=>EN_spec_l1Random rfl ?_
  rw[hq0,hq1] at hk
  rw[hq0] at ih
  generalize hQ:2^d=q at *
  by_cases h2:d=0
  ·simp -implicitDefEqProofs (disch:=first|omega|(simp only[LnZ];omega))[wrap64,h2]
   refine (c_pick R H (by omega) (by omega) ⟨by decide,by decide⟩).go ?_
   rintro _ hL1 ⟨r1,rfl,o1,z1,y1,H⟩
   by_cases c1:r1=0
   ·simp -implicitDefEqProofs (disch:=first|omega|(simp only[LnZ];omega))[wrap64,c1]
    refine (c_pick R H (by omega) (by omega) ⟨by decide,by decide⟩).go ?_
    rintro _ hL2 ⟨r2,rfl,o2,z2,y2,H⟩
    simp -implicitDefEqProofs (disch:=first|omega|(simp only[LnZ];omega))[wrap64,setC]
    exact RetK.keep (hk _ _ ⟨Exq.mk 1 r2 [],_,HS.mkExq' H.nil_ow ⟨by decide,by decide⟩ o2,by simp[Exq.nod,Exq.nods]<;>omega,by omega,by omega⟩)
   ·simp -implicitDefEqProofs (disch:=first|omega|(simp only[LnZ];omega))[wrap64,c1]
    refine H.bls [(0:Int),1,0,2] rfl rfl (okL (by decide)) (by decide) fun v hL2 H=>?_
    simp -implicitDefEqProofs (disch:=omega)[wrap64]
    refine (c_num R H (by omega) (by omega) (by simp)).go ?_
    rintro _ hL3 ⟨r2,rfl,o2,_,H⟩
    simp -implicitDefEqProofs (disch:=first|omega|(simp only[LnZ];omega))[wrap64,setC]
    exact RetK.keep (hk _ _ ⟨Exq.mk 2 r2 [],_,HS.mkExq' H.nil_ow ⟨by decide,by decide⟩ o2,by simp[Exq.nod,Exq.nods]<;>omega,by omega,by omega⟩)
  ·have h3:¬((d:Int)+1<2):=by omega
   simp -implicitDefEqProofs (disch:=first|omega|(simp only[LnZ];omega))[wrap64,h3]
   refine (c_pick R H (by omega) (by omega) ⟨by decide,by decide⟩).go ?_
   rintro _ h1 ⟨r0,rfl,o0,z0,y0,H⟩
   by_cases c0:r0=0
   ·simp -implicitDefEqProofs (disch:=first|omega|(simp only[LnZ];omega))[wrap64,c0]
    refine (c_pick R H (by omega) (by omega) ⟨by decide,by decide⟩).go ?_
    rintro _ hL1 ⟨r1,rfl,o1,z1,y1,H⟩
    by_cases c1:r1=0
    ·simp -implicitDefEqProofs (disch:=first|omega|(simp only[LnZ];omega))[wrap64,c1]
     refine (c_pick R H (by omega) (by omega) ⟨by decide,by decide⟩).go ?_
     rintro _ hL2 ⟨r2,rfl,o2,z2,y2,H⟩
     simp -implicitDefEqProofs (disch:=first|omega|(simp only[LnZ];omega))[wrap64,setC]
     exact RetK.keep (hk _ _ ⟨Exq.mk 1 r2 [],_,HS.mkExq' H.nil_ow ⟨by decide,by decide⟩ o2,by simp[Exq.nod,Exq.nods]<;>omega,by omega,by omega⟩)
    ·simp -implicitDefEqProofs (disch:=first|omega|(simp only[LnZ];omega))[wrap64,c1]
     refine H.bls [(0:Int),1,0,2] rfl rfl (okL (by decide)) (by decide) fun v hL2 H=>?_
     simp -implicitDefEqProofs (disch:=omega)[wrap64]
     refine (c_num R H (by omega) (by omega) (by simp)).go ?_
     rintro _ hL3 ⟨r2,rfl,o2,_,H⟩
     simp -implicitDefEqProofs (disch:=first|omega|(simp only[LnZ];omega))[wrap64,setC]
     exact RetK.keep (hk _ _ ⟨Exq.mk 2 r2 [],_,HS.mkExq' H.nil_ow ⟨by decide,by decide⟩ o2,by simp[Exq.nod,Exq.nods]<;>omega,by omega,by omega⟩)
   ·simp -implicitDefEqProofs (disch:=first|omega|(simp only[LnZ];omega))[wrap64,c0]
    refine H.bls [(6:Int),8,7,4,3,5,9] rfl rfl (okL (by decide)) (by decide) fun v h2 H=>?_
    simp -implicitDefEqProofs (disch:=omega)[wrap64]
    refine (c_num R H (by omega) (by omega) (by simp)).go ?_
    rintro _ h4 ⟨kd,rfl,okd,_,H⟩
    have ha:=Exq.arity_le (k:=kd)
    have ha2:=Exq.arity_ge (k:=kd)
    simp -implicitDefEqProofs (disch:=first|omega|(simp only[LnZ];omega))[wrap64,setC]
    refine c_l1Arity.go ?_
    rintro _ h4 ⟨rfl,rfl⟩
    obtain⟨ar,har⟩:∃ar,ar=Exq.arity kd:=⟨_,rfl⟩
    rw[← har] at ha ha2
    simp -implicitDefEqProofs (disch:=first|omega|(simp only[LnZ];omega))[wrap64,← har]
    refine wp_while (σ:=Nat) (fun j e h'=>∃(ks:List Exq) (w:Value) (p':Int),e=[some (.pointer (some ⟨b,0,none⟩)),some (.int .i64 ((d:Int)+1)),some (.agg #[.int .i64 0,.int .i64 0,.slice none 0 0]),none,some (.agg #[.int .i64 kd,.int .i64 0,w]),some (.int .i64 (ar-j))]∧HS g (ow w ks::rb b sl p'::Γ) h'∧ks.length=j∧Exq.nods ks≤j*(2*q-1)∧j≤2∧p≤p'∧p'≤p+2+j*(4*q-2)) (fun j=>3-j) 0 ⟨[],.slice none 0 0,_,by simp,H.nil_ow,rfl,by simp[Exq.nods],by omega,by omega,by omega⟩ ?_
    clear H
    rintro J j _ h5 hJ ⟨ks,w,p',rfl,H,hkl,hkn,hj,hp3,hp4⟩
    by_cases c2:(j:Int)<ar
    ·have hj2:j=0∨j=1:=by omega
     simp -implicitDefEqProofs (disch:=first|omega|(simp only[LnZ];omega))[wrap64,c2]
     refine (ih (by omega) R H.sw1 (by omega) (by rcases hj2 with rfl | rfl<;>omega)).go ?_
     rintro _ h6 ⟨y,p2,H,hy,hp5,hp6⟩
     obtain⟨wy,rfl,k1,k2,H'⟩:=H.unExq
     have hO':=H'.rep.one
     have hC':=H'.rep.cells
     simp -implicitDefEqProofs (disch:=first|omega|(simp only[LnZ];omega))[wrap64,setC,hO',hC']
     refine HS.appO (bytes:=40) H.sw2.sw1 rfl rfl rfl rfl rfl (by omega) (by omega) fun w' h7 H=>?_
     have hO:=H.rep.one
     have hC:=H.rep.cells
     simp -implicitDefEqProofs (disch:=first|omega|(simp only[LnZ];omega))[wrap64,setC,hO,hC]
     refine hJ (j+1) _ _ (by omega) ⟨ks++[y],w',p2,by simp;omega,H,by simp[hkl],?_,by omega,by omega,?_⟩
     ·rw[Exq.nods_append,show Exq.nods [y]=y.nod by simp[Exq.nods]]
      rcases hj2 with rfl | rfl<;>omega
     ·rcases hj2 with rfl | rfl<;>omega
    ·have hO:=H.rep.one
     have hC:=H.rep.cells
     simp -implicitDefEqProofs (disch:=first|omega|(simp only[LnZ];omega))[wrap64,c2,setC,hO,hC]
     refine RetK.keep (hk _ _ ⟨Exq.mk kd 0 ks,p',HS.mkExq' H okd ⟨by decide,by decide⟩,?_,by omega,?_⟩)
     ·rw[Exq.nod_eq,Exq.kids_mk]
      obtain rfl | rfl | rfl:j=0∨j=1∨j=2:=by omega
      all_goals omega
     ·obtain rfl | rfl | rfl:j=0∨j=1∨j=2:=by omega
      all_goals omega
theorem pl_cut {P:Program}{k:Env→Heap→Prop}{p:Pl}{e:Env}{h:Heap}(M:Env→Heap→Prop) (ha:∀J:Env→Heap→Prop,(∀e h,M e h→J e h)→p.wp P J e h) (hb:∀e h,M e h→k e h):p.wp P k e h:=ha k hb
theorem Exq.len_nods:∀{l:List Exq},l.length≤Exq.nods l
 | []=>by simp
 | x::l=>by
  have:=Exq.len_nods (l:=l)
  have:=x.nod_pos
  simp only[List.length_cons,Exq.nods];omega
theorem HS.mkEz {g h:Heap}{Γ:List HP}{kd vl:Int}(H:HS g Γ h) (h1:I64 kd) (h2:I64 vl):HS g (ow (.agg #[.int .i64 kd,.int .i64 vl,.slice none 0 0]) (Exq.mk kd vl [])::Γ) h:=HS.mkExq' H.nil_ow h1 h2
theorem Exq.nod_mk0 {k v:Int}:(Exq.mk k v []).nod=1:=rfl
theorem c_l1Expr {g h:Heap}{Γ:List HP}{b:Nat}{sl:Value}{l:List (BitVec 8)}{p:Int}(R:Rep g sl l) (H:HS g (rb b sl p::Γ) h) (hp:0≤p) (hp2:p+100≤1000000000000) :
  CallE Tryz.prog fn_spec_l1Expr [.pointer (some ⟨b,0,none⟩)] h (fun u h'=>∃(y:Exq) (p':Int),HS g (ow u y::rb b sl p'::Γ) h'∧y.nod≤31∧p≤p'∧p'≤p+70):=by
 refine CallE.gen fun k hk=>EN_spec_l1Expr rfl ?_
 simp -implicitDefEqProofs (disch:=omega)[wrap64]
 refine H.bls [(3:Int),2,3,4] rfl rfl (okL (by decide)) (by decide) fun v h1 H=>?_
 simp -implicitDefEqProofs (disch:=omega)[wrap64]
 refine (c_num R H (by omega) (by omega) (by simp)).go ?_
 rintro _ h2 ⟨r,rfl,_,hr,H⟩
 obtain⟨d,rfl,hd,hpw⟩:∃d:Nat,r=d∧d≤4∧2^d≤16:=by
  simp at hr
  rcases hr with rfl | rfl | rfl | rfl
  ·exact⟨3,rfl,by decide,by decide⟩
  ·exact⟨2,rfl,by decide,by decide⟩
  ·exact⟨3,rfl,by decide,by decide⟩
  ·exact⟨4,rfl,by decide,by decide⟩
 simp -implicitDefEqProofs (disch:=omega)[wrap64]
 refine (c_l1Random d hd R H (by omega) (by omega)).go ?_
 rintro _ h3 ⟨y,p1,H,hy,hp3,hp4⟩
 have hy2:y.nod≤31:=by rw[Nat.pow_succ] at hy;omega
 have FA:=H.rep.aExq
 simp -implicitDefEqProofs (disch:=first|omega|(simp only[LnZ];omega))[wrap64,FA]
 refine (c_spec_ExprValid H.rep).go ?_
 rintro _ h3 ⟨rfl,rfl⟩
 by_cases q:y.Ok
 ·simp -implicitDefEqProofs (disch:=first|omega|(simp only[LnZ];omega))[wrap64,q,FA,setC]
  exact RetK.keep (hk _ _ ⟨y,p1,H,hy2,by omega,by omega⟩)
 ·simp -implicitDefEqProofs (disch:=first|omega|(simp only[LnZ];omega))[wrap64,q]
  refine (c_pick (n:=3) R H.sw1 (by omega) (by omega) ⟨by decide,by decide⟩).go ?_
  rintro _ h4 ⟨r1,rfl,o1,z1,y1,H⟩
  simp -implicitDefEqProofs (disch:=first|omega|(simp only[LnZ];omega))[wrap64,setC]
  exact RetK.keep (hk _ _ ⟨Exq.mk 2 r1 [],_,(H.sw1.drop).mkEz ⟨by decide,by decide⟩ o1,by rw[Exq.nod_mk0];omega,by omega,by omega⟩)
def ez:Value:=.agg #[.int .i64 0,.int .i64 0,.slice none 0 0]
theorem c_l1SubstB0 {h:Heap}:CallE Tryz.prog fn_spec_l1Subst [ez,.int .i64 (-1),ez] h (fun u h'=>HS h [ow u Exq.zero] h'):=by
 refine CallE.gen fun k hk=>EN_spec_l1Subst rfl ?_
 simp -implicitDefEqProofs (disch:=first|omega|(simp only[LnZ];omega))[wrap64,ez,setC]
 refine wp_count 0 (fun i e h'=>e=[none,some (.int .i64 (-1)),none,some ez,some ez,some ez,some ez,some (.int .i64 i)]∧h'=h) ⟨by simp[ez],rfl⟩ ?_
 rintro J i _ h1 hJ hi ⟨rfl,rfl⟩
 obtain rfl:i=0:=by omega
 have hL0:lenVV (.slice none 0 0)=some (.int .i64 0):=rfl
 simp -implicitDefEqProofs (disch:=first|omega|(simp only[LnZ];omega))[wrap64,ez,setC,hL0]
 exact RetK.keep (hk _ _ (HS.mkEz HS.init ⟨by decide,by decide⟩ ⟨by decide,by decide⟩))
theorem c_l1SubstB:∀(x:Exq) {h:Heap}{v:Value},Rep h v x→x.nod≤1000→CallE Tryz.prog fn_spec_l1Subst [v,.int .i64 (-1),ez] h (fun u h'=>∃y:Exq,HS h [ow u y] h'∧y.nod≤x.nod):=by
 refine Exq.ind fun x ih=>?_
 intro h v R hn
 have hne:=Exq.nod_eq x
 obtain⟨w,rfl,k1,k2,Rw⟩:=Rep_Exq.1 R
 have hR1:=Rw.one
 have hkl:x.kids.length≤Exq.nods x.kids:=Exq.len_nods
 refine CallE.gen fun k hk=>EN_spec_l1Subst rfl ?_
 by_cases c1:x.kind=2∧x.val = -1
 ·simp -implicitDefEqProofs (disch:=first|omega|(simp only[LnZ];omega))[wrap64,ez,setC,hR1,c1]
  refine c_l1SubstB0.go ?_
  intro u h1 H
  have hA:=H.rep.aExq
  simp -implicitDefEqProofs (disch:=first|omega|(simp only[LnZ];omega))[wrap64,setC,hA]
  exact RetK.keep (hk _ _ ⟨_,H,by rw[show Exq.zero.nod=1 from rfl];omega⟩)
 ·have c1':x.kind=2→¬x.val = -1:=fun e e2=>c1 ⟨e,e2⟩
  by_cases c2:x.kind=2
  ·have c3:=c1' c2
   simp -implicitDefEqProofs (disch:=first|omega|(simp only[LnZ];omega))[wrap64,ez,setC,hR1,c2,c3]
   refine wp_count x.kids.length (fun i e h'=>∃(ks:List Exq) (w':Value),e=[none,some (.int .i64 (-1)),none,some (.agg #[.int .i64 2,.int .i64 x.val,w]),some ez,some ez,some (.agg #[.int .i64 2,.int .i64 x.val,w']),some (.int .i64 i)]∧HS h [ow w' ks] h'∧ks.length=i∧Exq.nods ks≤Exq.nods (x.kids.take i)) ⟨[],.slice none 0 0,by simp[ez],HS.init.nil_ow,rfl,by simp[Exq.nods]⟩ ?_
   rintro J i _ h1 hJ hi ⟨ks,w',rfl,H,hkl2,hkn⟩
   have hO:=H.rep.one
   have hC:=H.rep.cells
   simp -implicitDefEqProofs (disch:=first|omega|(simp only[LnZ];omega))[wrap64,Rw.len]
   refine IteW.mk (fun hlt=>?_) (fun hge=>?_)
   ·have hlx:i<x.kids.length:=by omega
    obtain⟨u,hu,Ru⟩:=(Rw.on H).ld hlx
    change hload _ (some (elp 3 w i)) (some 3)=some u at hu
    have hnt:=Exq.nods_take hlx
    have hnl:=Exq.nods_le x.kids (i+1)
    simp -implicitDefEqProofs (disch:=first|omega|(simp only[LnZ];omega))[wrap64,ez,setC,(Rw.on H).X (n:=3) rfl,hu,Ru.aExq]
    refine (ih _ (List.getElem_mem hlx) Ru (by omega)).go ?_
    rintro o h2 ⟨y,G,hy⟩
    obtain⟨wy,rfl,ky1,ky2,G'⟩:=G.unExq
    have hO':=G'.rep.one
    have hC':=G'.rep.cells
    have H:=G.app H
    simp -implicitDefEqProofs (disch:=first|omega|(simp only[LnZ];omega))[wrap64,ez,setC,hO',hC']
    refine HS.appO (bytes:=40) H rfl rfl rfl rfl rfl (by omega) (by omega) fun w2 h3 H=>?_
    have hO2:=H.rep.one
    have hC2:=H.rep.cells
    simp -implicitDefEqProofs (disch:=first|omega|(simp only[LnZ];omega))[wrap64,ez,setC,hO2,hC2]
    refine hJ _ _ hlx ⟨ks++[y],w2,by simp[ez],H,by simp[hkl2],?_⟩
    rw[Exq.nods_append,show Exq.nods [y]=y.nod by simp[Exq.nods]]
    omega
   ·simp -implicitDefEqProofs (disch:=first|omega|(simp only[LnZ];omega))[wrap64,ez,setC,hO,hC]
    rw[List.take_of_length_le (by omega)] at hkn
    refine RetK.keep (hk _ _ ⟨Exq.mk 2 x.val ks,HS.mkExq' H ⟨by decide,by decide⟩ k2,?_⟩)
    rw[Exq.nod_eq,Exq.kids_mk];omega
  ·simp -implicitDefEqProofs (disch:=first|omega|(simp only[LnZ];omega))[wrap64,ez,setC,hR1,c2]
   refine wp_count x.kids.length (fun i e h'=>∃(ks:List Exq) (w':Value),e=[none,some (.int .i64 (-1)),none,some (.agg #[.int .i64 x.kind,.int .i64 x.val,w]),some ez,some ez,some (.agg #[.int .i64 x.kind,.int .i64 x.val,w']),some (.int .i64 i)]∧HS h [ow w' ks] h'∧ks.length=i∧Exq.nods ks≤Exq.nods (x.kids.take i)) ⟨[],.slice none 0 0,by simp[ez],HS.init.nil_ow,rfl,by simp[Exq.nods]⟩ ?_
   rintro J i _ h1 hJ hi ⟨ks,w',rfl,H,hkl2,hkn⟩
   have hO:=H.rep.one
   have hC:=H.rep.cells
   simp -implicitDefEqProofs (disch:=first|omega|(simp only[LnZ];omega))[wrap64,Rw.len]
   refine IteW.mk (fun hlt=>?_) (fun hge=>?_)
   ·have hlx:i<x.kids.length:=by omega
    obtain⟨u,hu,Ru⟩:=(Rw.on H).ld hlx
    change hload _ (some (elp 3 w i)) (some 3)=some u at hu
    have hnt:=Exq.nods_take hlx
    have hnl:=Exq.nods_le x.kids (i+1)
    simp -implicitDefEqProofs (disch:=first|omega|(simp only[LnZ];omega))[wrap64,ez,setC,(Rw.on H).X (n:=3) rfl,hu,Ru.aExq]
    refine (ih _ (List.getElem_mem hlx) Ru (by omega)).go ?_
    rintro o h2 ⟨y,G,hy⟩
    obtain⟨wy,rfl,ky1,ky2,G'⟩:=G.unExq
    have hO':=G'.rep.one
    have hC':=G'.rep.cells
    have H:=G.app H
    simp -implicitDefEqProofs (disch:=first|omega|(simp only[LnZ];omega))[wrap64,ez,setC,hO',hC']
    refine HS.appO (bytes:=40) H rfl rfl rfl rfl rfl (by omega) (by omega) fun w2 h3 H=>?_
    have hO2:=H.rep.one
    have hC2:=H.rep.cells
    simp -implicitDefEqProofs (disch:=first|omega|(simp only[LnZ];omega))[wrap64,ez,setC,hO2,hC2]
    refine hJ _ _ hlx ⟨ks++[y],w2,by simp[ez],H,by simp[hkl2],?_⟩
    rw[Exq.nods_append,show Exq.nods [y]=y.nod by simp[Exq.nods]]
    omega
   ·simp -implicitDefEqProofs (disch:=first|omega|(simp only[LnZ];omega))[wrap64,ez,setC,hO,hC]
    rw[List.take_of_length_le (by omega)] at hkn
    refine RetK.keep (hk _ _ ⟨Exq.mk x.kind x.val ks,HS.mkExq' H k1 k2,?_⟩)
    rw[Exq.nod_eq,Exq.kids_mk];omega
theorem c_l1Mutate {g h:Heap}{Γ:List HP}{b:Nat}{sl v:Value}{l:List (BitVec 8)}{p:Int}{x:Exq}(R:Rep g sl l) (Rx:Rep g v x) (hx:x.nod≤1000) (H:HS g (rb b sl p::Γ) h) (hp:0≤p) (hp2:p+100≤1000000000000) :
  CallE Tryz.prog fn_spec_l1Mutate [.pointer (some ⟨b,0,none⟩),v] h (fun u h'=>∃(y:Exq) (p':Int),HS g (ow u y::rb b sl p'::Γ) h'∧y.nod≤x.nod+1∧p≤p'∧p'≤p+2):=by
 have FX:=Rx.aExq
 have hnp:=x.nod_pos
 refine CallE.gen fun k hk=>EN_spec_l1Mutate rfl ?_
 simp -implicitDefEqProofs (disch:=first|omega|(simp only[LnZ];omega))[wrap64,FX]
 refine (c_l1SubstB x (Rx.on H) hx).go ?_
 rintro o h1 ⟨y,G,hy⟩
 obtain⟨w,rfl,k1,k2,G'⟩:=G.unExq
 have hO:=G'.rep.one
 have hC:=G'.rep.cells
 have H:=G'.app H
 have hyn:=Exq.nod_eq y
 have hyl:=Exq.len_nods (l:=y.kids)
 simp -implicitDefEqProofs (disch:=first|omega|(simp only[LnZ];omega))[wrap64,setC,hO,hC]
 refine (c_pick (n:=40) R H.sw1 (by omega) (by omega) ⟨by decide,by decide⟩).go ?_
 rintro _ h2 ⟨r,rfl,o1,z1,y1,H⟩
 by_cases c0:r=0
 ·simp -implicitDefEqProofs (disch:=first|omega|(simp only[LnZ];omega))[wrap64,c0]
  refine H.bls [(0:Int),10,-1,1,2,3,4] rfl rfl (okL (by decide)) (by decide) fun q h3 H=>?_
  simp -implicitDefEqProofs (disch:=omega)[wrap64]
  refine (c_num R H (by omega) (by omega) (by simp)).go ?_
  rintro _ h4 ⟨r2,rfl,o2,_,H⟩
  simp -implicitDefEqProofs (disch:=first|omega|(simp only[LnZ];omega))[wrap64,setC,hO,hC]
  exact RetK.keep (hk _ _ ⟨Exq.mk r2 y.val y.kids,_,HS.mkExq' H.sw1 o2 k2,by rw[Exq.nod_eq,Exq.kids_mk];omega,by omega,by omega⟩)
 by_cases c1:r=1
 ·simp -implicitDefEqProofs (disch:=first|omega|(simp only[LnZ];omega))[wrap64,c0,c1]
  refine H.bls [(-1:Int),4,3,9223372036854775807] rfl rfl (okL (by decide)) (by decide) fun q h3 H=>?_
  simp -implicitDefEqProofs (disch:=omega)[wrap64]
  refine (c_num R H (by omega) (by omega) (by simp)).go ?_
  rintro _ h4 ⟨r2,rfl,o2,_,H⟩
  simp -implicitDefEqProofs (disch:=first|omega|(simp only[LnZ];omega))[wrap64,setC,hO,hC]
  exact RetK.keep (hk _ _ ⟨Exq.mk y.kind r2 y.kids,_,HS.mkExq' H.sw1 k1 o2,by rw[Exq.nod_eq,Exq.kids_mk];omega,by omega,by omega⟩)
 by_cases c2:r=2
 ·simp -implicitDefEqProofs (disch:=first|omega|(simp only[LnZ];omega))[wrap64,c0,c1,c2,setC]
  refine HS.appO (bytes:=40) (H.sw1.mkEz (kd:=1) (vl:=0) ⟨by decide,by decide⟩ ⟨by decide,by decide⟩) rfl rfl rfl rfl rfl (by omega) (by omega) fun w2 h3 H=>?_
  have hO2:=H.rep.one
  have hC2:=H.rep.cells
  simp -implicitDefEqProofs (disch:=first|omega|(simp only[LnZ];omega))[wrap64,setC,hO2,hC2]
  refine RetK.keep (hk _ _ ⟨Exq.mk y.kind y.val _,_,HS.mkExq' H k1 k2,?_,by omega,by omega⟩)
  rw[Exq.nod_eq,Exq.kids_mk,Exq.nods_append,show Exq.nods [Exq.mk 1 0 []]=1 from rfl];omega
 by_cases c3:r=3
 ·simp -implicitDefEqProofs (disch:=first|omega|(simp only[LnZ];omega))[wrap64,c0,c1,c2,c3,setC]
  exact RetK.keep (hk _ _ ⟨Exq.mk 0 0 [],_,(H.sw1.drop).mkEz ⟨by decide,by decide⟩ ⟨by decide,by decide⟩,by rw[Exq.nod_mk0];omega,by omega,by omega⟩)
 ·simp -implicitDefEqProofs (disch:=first|omega|(simp only[LnZ];omega))[wrap64,c0,c1,c2,c3,setC,hO,hC]
  exact RetK.keep (hk _ _ ⟨y,_,HS.mkExq H.sw1 k1 k2,by omega,by omega,by omega⟩)
theorem c_l2Guard {g h:Heap}{Γ:List HP}{b:Nat}{sl:Value}{l:List (BitVec 8)}{p:Int}(R:Rep g sl l) (H:HS g (rb b sl p::Γ) h) (hp:0≤p) (hp2:p+100≤1000000000000) :
  CallE Tryz.prog fn_spec_l2Guard [.pointer (some ⟨b,0,none⟩)] h (fun u h'=>∃(y:Exq) (p':Int),HS g (ow u y::rb b sl p'::Γ) h'∧y.nod≤4∧p≤p'∧p'≤p+5):=by
 refine CallE.gen fun k hk=>EN_spec_l2Guard rfl ?_
 simp -implicitDefEqProofs (disch:=omega)[wrap64]
 refine (c_pick (n:=3) R H (by omega) (by omega) ⟨by decide,by decide⟩).go ?_
 rintro _ h1 ⟨r1,rfl,o1,z1,y1,H⟩
 by_cases c1:r1=0
 ·simp -implicitDefEqProofs (disch:=first|omega|(simp only[LnZ];omega))[wrap64,c1,setC]
  exact RetK.keep (hk _ _ ⟨Exq.mk 1 1 [],_,H.mkEz ⟨by decide,by decide⟩ ⟨by decide,by decide⟩,by rw[Exq.nod_mk0];omega,by omega,by omega⟩)
 simp -implicitDefEqProofs (disch:=first|omega|(simp only[LnZ];omega))[wrap64,c1]
 refine H.bls [(0:Int),1,0,2] rfl rfl (okL (by decide)) (by decide) fun q h3 H=>?_
 simp -implicitDefEqProofs (disch:=omega)[wrap64]
 refine (c_num R H (by omega) (by omega) (by simp)).go ?_
 rintro _ h4 ⟨r2,rfl,o2,_,H⟩
 simp -implicitDefEqProofs (disch:=first|omega|(simp only[LnZ];omega))[wrap64,setC]
 refine (c_pick (n:=3) R H (by omega) (by omega) ⟨by decide,by decide⟩).go ?_
 rintro _ h1 ⟨r3,rfl,o3,z3,y3,H⟩
 simp -implicitDefEqProofs (disch:=first|omega|(simp only[LnZ];omega))[wrap64,setC]
 refine pl_cut (fun e' h'=>∃kd w r,e'=some (.pointer (some ⟨b,0,none⟩))::some ez::some (.agg #[.int .i64 2,.int .i64 r2,.slice none 0 0])::some (.agg #[.int .i64 1,.int .i64 r3,.slice none 0 0])::some (.agg #[.int .i64 kd,.int .i64 0,w])::r∧I64 kd∧HS g (ow w [Exq.mk 2 r2 [],Exq.mk 1 r3 []]::rb b sl (p+1+1+1+1)::Γ) h') (fun K hK=>?_) ?_
 ·refine⟨?_,?_⟩
  ·simp -implicitDefEqProofs (disch:=omega)[wrap64]
   refine H.bls [(6:Int),7,6] rfl rfl (okL (by decide)) (by decide) fun q h6 H=>?_
   refine⟨?_,?_⟩
   ·simp -implicitDefEqProofs (disch:=omega)[wrap64]
    refine (c_num R H (by omega) (by omega) (by simp)).go ?_
    rintro _ h7 ⟨kd,rfl,okd,_,H⟩
    simp -implicitDefEqProofs (disch:=omega)[wrap64]
    refine HS.blsO2 ((H.mkEz (kd:=1) (vl:=r3) ⟨by decide,by decide⟩ o3).mkEz (kd:=2) (vl:=r2) ⟨by decide,by decide⟩ o2) rfl fun w h8 H=>?_
    simp -implicitDefEqProofs (disch:=first|omega|(simp only[LnZ];omega))[wrap64,setC,H.rep.one,H.rep.cells]
    exact hK _ _ ⟨kd,w,_,rfl,okd,H⟩
   ·simp -implicitDefEqProofs (disch:=omega)[wrap64]
    refine HS.blsO2 ((H.mkEz (kd:=1) (vl:=r3) ⟨by decide,by decide⟩ o3).mkEz (kd:=2) (vl:=r2) ⟨by decide,by decide⟩ o2) rfl fun w h8 H=>?_
    simp -implicitDefEqProofs (disch:=omega)[wrap64]
    refine (c_num R H.bk2 (by omega) (by omega) (by simp)).go ?_
    rintro _ h7 ⟨kd,rfl,okd,_,H⟩
    simp -implicitDefEqProofs (disch:=first|omega|(simp only[LnZ];omega))[wrap64,setC,H.sw1.rep.one,H.sw1.rep.cells]
    exact hK _ _ ⟨kd,w,_,rfl,okd,H.sw1⟩
  ·simp -implicitDefEqProofs (disch:=omega)[wrap64]
   refine HS.blsO2 ((H.mkEz (kd:=1) (vl:=r3) ⟨by decide,by decide⟩ o3).mkEz (kd:=2) (vl:=r2) ⟨by decide,by decide⟩ o2) rfl fun w h8 H=>?_
   simp -implicitDefEqProofs (disch:=omega)[wrap64]
   refine H.bls [(6:Int),7,6] rfl rfl (okL (by decide)) (by decide) fun q h6 H=>?_
   simp -implicitDefEqProofs (disch:=omega)[wrap64]
   refine (c_num R H.sw1.bk2 (by omega) (by omega) (by simp)).go ?_
   rintro _ h7 ⟨kd,rfl,okd,_,H⟩
   simp -implicitDefEqProofs (disch:=first|omega|(simp only[LnZ];omega))[wrap64,setC,H.sw1.rep.one,H.sw1.rep.cells]
   exact hK _ _ ⟨kd,w,_,rfl,okd,H.sw1⟩
 rintro _ h5 ⟨kd,w,r,rfl,okd,H⟩
 have hO:=H.rep.one
 have hC:=H.rep.cells
 simp -implicitDefEqProofs (disch:=omega)[wrap64]
 refine (c_pick (n:=5) R H.sw1 (by omega) (by omega) ⟨by decide,by decide⟩).go ?_
 rintro _ h6 ⟨r4,rfl,o4,z4,y4,H⟩
 by_cases c2:r4=0
 ·simp -implicitDefEqProofs (disch:=first|omega|(simp only[LnZ];omega))[wrap64,c2,setC,hO,hC]
  refine HS.blsO1 (HS.mkExq' (kd:=kd) (vl:=0) H.sw1 okd ⟨by decide,by decide⟩) rfl fun w2 h7 H=>?_
  have hO2:=H.rep.one
  have hC2:=H.rep.cells
  simp -implicitDefEqProofs (disch:=first|omega|(simp only[LnZ];omega))[wrap64,setC,hO2,hC2,ez]
  exact RetK.keep (hk _ _ ⟨Exq.mk 3 0 _,_,HS.mkExq' H ⟨by decide,by decide⟩ ⟨by decide,by decide⟩,by simp[Exq.nods,Exq.nod],by omega,by omega⟩)
 ·simp -implicitDefEqProofs (disch:=first|omega|(simp only[LnZ];omega))[wrap64,c2,setC,hO,hC,ez]
  exact RetK.keep (hk _ _ ⟨_,_,HS.mkExq' H.sw1 okd ⟨by decide,by decide⟩,by rw[Exq.nod_eq,Exq.kids_mk];simp[Exq.nods,Exq.nod],by omega,by omega⟩)
structure Ed.Sm (n:Nat) (e:Ed):Prop where
 g:e.guard.nod≤n
 v:e.value.nod≤n
structure Pr.Sm (n:Nat) (p:Pr):Prop where
 el:p.edges.length≤n
 ee:∀e∈p.edges,e.Sm n
structure Sy.Sm (n:Nat) (s:Sy):Prop where
 il:s.init.length≤n
 pl:s.procs.length≤n
 pp:∀p∈s.procs,p.Sm n
theorem c_l2DrawEdge {g h:Heap}{Γ:List HP}{b:Nat}{sl:Value}{l:List (BitVec 8)}{p n:Int}(R:Rep g sl l) (H:HS g (rb b sl p::Γ) h) (hp:0≤p) (hp2:p+200≤1000000000000) (hn:I64 n) :
  CallE Tryz.prog fn_spec_l2DrawEdge [.pointer (some ⟨b,0,none⟩),.int .i64 n] h (fun u h'=>∃(y:Ed) (p':Int),HS g (ow u y::rb b sl p'::Γ) h'∧y.Sm 40∧p≤p'∧p'≤p+90):=by
 have i0:I64 0:=⟨by decide,by decide⟩
 have i1:I64 1:=⟨by decide,by decide⟩
 have im:I64 (-1):=⟨by decide,by decide⟩
 have i8:I64 8:=⟨by decide,by decide⟩
 have i9:I64 9:=⟨by decide,by decide⟩
 refine CallE.gen fun k hk=>EN_spec_l2DrawEdge rfl ?_
 simp -implicitDefEqProofs (disch:=omega)[wrap64]
 refine (c_pick R H (by omega) (by omega) hn).go ?_
 rintro _ h1 ⟨r1,rfl,o1,z1,y1,H⟩
 simp -implicitDefEqProofs (disch:=omega)[wrap64]
 refine (c_pick R H (by omega) (by omega) hn).go ?_
 rintro _ h1 ⟨r2,rfl,o2,z2,y2,H⟩
 simp -implicitDefEqProofs (disch:=omega)[wrap64]
 refine (c_l2Guard R H (by omega) (by omega)).go ?_
 rintro _ h1 ⟨gu,p1,H,hgn,hp3,hp4⟩
 obtain⟨wg,rfl,k1,k2,H⟩:=H.unExq
 have hOg:=H.rep.one
 have hCg:=H.rep.cells
 simp -implicitDefEqProofs (disch:=first|omega|(simp only[LnZ];omega))[wrap64,setC,hOg,hCg]
 refine (c_pick (n:=3) R H.sw1 (by omega) (by omega) ⟨by decide,by decide⟩).go ?_
 rintro _ h1 ⟨r3,rfl,o3,z3,y3,H⟩
 by_cases c3:0<r3
 case neg=>
  simp -implicitDefEqProofs (disch:=first|omega|(simp only[LnZ];omega))[wrap64,c3]
  have H:=(H.sw1.nil_ow (α:=Exq)).sw2
  refine (c_pick (n:=4) R H (by omega) (by omega) ⟨by decide,by decide⟩).go ?_
  rintro _ ht ⟨r9,rfl,o9,z9,y9,H⟩
  by_cases c9:r9=0
  ·simp -implicitDefEqProofs (disch:=first|omega|(simp only[LnZ];omega))[wrap64,c9]
   refine H.bls [(1:Int),-1,1,-1,2,-2] rfl rfl (okL (by decide)) (by decide) fun q hq H=>?_
   simp -implicitDefEqProofs (disch:=omega)[wrap64]
   refine (c_num R H (by omega) (by omega) (by simp)).go ?_
   rintro _ ht2 ⟨sy,rfl,osy,_,H⟩
   simp -implicitDefEqProofs (disch:=first|omega|(simp only[LnZ];omega))[wrap64,setC,hOg,hCg]
   exact RetK.keep (hk _ _ ⟨⟨r1,r2,gu,-1,(Exq.mk 0 0 []),sy⟩,_,HS.mkEd (e:=⟨r1,r2,gu,-1,(Exq.mk 0 0 []),sy⟩) (H.bk2.sw1) ⟨o1,o2,k1,k2,im,i0,i0,osy⟩,⟨by dsimp only;omega,by simp[Exq.nod,Exq.nods]⟩,by omega,by omega⟩)
  ·simp -implicitDefEqProofs (disch:=first|omega|(simp only[LnZ];omega))[wrap64,c9,setC,hOg,hCg]
   exact RetK.keep (hk _ _ ⟨⟨r1,r2,gu,-1,(Exq.mk 0 0 []),0⟩,_,HS.mkEd (e:=⟨r1,r2,gu,-1,(Exq.mk 0 0 []),0⟩) (H.bk2.sw1) ⟨o1,o2,k1,k2,im,i0,i0,i0⟩,⟨by dsimp only;omega,by simp[Exq.nod,Exq.nods]⟩,by omega,by omega⟩)
 simp -implicitDefEqProofs (disch:=first|omega|(simp only[LnZ];omega))[wrap64,c3]
 refine H.bls [(0:Int),1,0,2] rfl rfl (okL (by decide)) (by decide) fun q hq H=>?_
 simp -implicitDefEqProofs (disch:=omega)[wrap64]
 refine (c_num R H (by omega) (by omega) (by simp)).go ?_
 rintro _ ht2 ⟨vr,rfl,ovr,_,H⟩
 simp -implicitDefEqProofs (disch:=first|omega|(simp only[LnZ];omega))[wrap64,setC,hOg,hCg]
 refine (c_pick (n:=4) R H (by omega) (by omega) ⟨by decide,by decide⟩).go ?_
 rintro _ h1 ⟨r5,rfl,o5,z5,y5,H⟩
 by_cases d0:r5=0
 ·simp -implicitDefEqProofs (disch:=first|omega|(simp only[LnZ];omega))[wrap64,d0]
  refine (c_pick (n:=3) R H (by omega) (by omega) ⟨by decide,by decide⟩).go ?_
  rintro _ h1 ⟨r6,rfl,o6,z6,y6,H⟩
  simp -implicitDefEqProofs (disch:=first|omega|(simp only[LnZ];omega))[wrap64,setC,hOg,hCg]
  have H:=(H.sw1.nil_ow (α:=Exq)).sw2
  refine (c_pick (n:=4) R H (by omega) (by omega) ⟨by decide,by decide⟩).go ?_
  rintro _ ht ⟨r9,rfl,o9,z9,y9,H⟩
  by_cases c9:r9=0
  ·simp -implicitDefEqProofs (disch:=first|omega|(simp only[LnZ];omega))[wrap64,c9]
   refine H.bls [(1:Int),-1,1,-1,2,-2] rfl rfl (okL (by decide)) (by decide) fun q hq H=>?_
   simp -implicitDefEqProofs (disch:=omega)[wrap64]
   refine (c_num R H (by omega) (by omega) (by simp)).go ?_
   rintro _ ht2 ⟨sy,rfl,osy,_,H⟩
   simp -implicitDefEqProofs (disch:=first|omega|(simp only[LnZ];omega))[wrap64,setC,hOg,hCg]
   exact RetK.keep (hk _ _ ⟨⟨r1,r2,gu,vr,(Exq.mk 1 r6 []),sy⟩,_,HS.mkEd (e:=⟨r1,r2,gu,vr,(Exq.mk 1 r6 []),sy⟩) (H.bk2.sw1) ⟨o1,o2,k1,k2,ovr,i1,o6,osy⟩,⟨by dsimp only;omega,by simp[Exq.nod,Exq.nods]⟩,by omega,by omega⟩)
  ·simp -implicitDefEqProofs (disch:=first|omega|(simp only[LnZ];omega))[wrap64,c9,setC,hOg,hCg]
   exact RetK.keep (hk _ _ ⟨⟨r1,r2,gu,vr,(Exq.mk 1 r6 []),0⟩,_,HS.mkEd (e:=⟨r1,r2,gu,vr,(Exq.mk 1 r6 []),0⟩) (H.bk2.sw1) ⟨o1,o2,k1,k2,ovr,i1,o6,i0⟩,⟨by dsimp only;omega,by simp[Exq.nod,Exq.nods]⟩,by omega,by omega⟩)
 by_cases d1:r5=1
 ·simp -implicitDefEqProofs (disch:=first|omega|(simp only[LnZ];omega))[wrap64,d0,d1,setC]
  refine HS.blsO2 ((H.mkEz (kd:=1) (vl:=1) ⟨by decide,by decide⟩ ⟨by decide,by decide⟩).mkEz (kd:=2) (vl:=vr) ⟨by decide,by decide⟩ ovr) rfl fun w h8 H=>?_
  have hOv:=H.rep.one
  have hCv:=H.rep.cells
  simp -implicitDefEqProofs (disch:=first|omega|(simp only[LnZ];omega))[wrap64,setC,hOg,hCg,hOv,hCv]
  have H:=H.sw1
  refine (c_pick (n:=4) R H (by omega) (by omega) ⟨by decide,by decide⟩).go ?_
  rintro _ ht ⟨r9,rfl,o9,z9,y9,H⟩
  by_cases c9:r9=0
  ·simp -implicitDefEqProofs (disch:=first|omega|(simp only[LnZ];omega))[wrap64,c9]
   refine H.bls [(1:Int),-1,1,-1,2,-2] rfl rfl (okL (by decide)) (by decide) fun q hq H=>?_
   simp -implicitDefEqProofs (disch:=omega)[wrap64]
   refine (c_num R H (by omega) (by omega) (by simp)).go ?_
   rintro _ ht2 ⟨sy,rfl,osy,_,H⟩
   simp -implicitDefEqProofs (disch:=first|omega|(simp only[LnZ];omega))[wrap64,setC,hOg,hCg,hOv,hCv]
   exact RetK.keep (hk _ _ ⟨⟨r1,r2,gu,vr,(Exq.mk 8 0 [Exq.mk 2 vr [],Exq.mk 1 1 []]),sy⟩,_,HS.mkEd (e:=⟨r1,r2,gu,vr,(Exq.mk 8 0 [Exq.mk 2 vr [],Exq.mk 1 1 []]),sy⟩) (H.bk2.sw1) ⟨o1,o2,k1,k2,ovr,i8,i0,osy⟩,⟨by dsimp only;omega,by simp[Exq.nod,Exq.nods]⟩,by omega,by omega⟩)
  ·simp -implicitDefEqProofs (disch:=first|omega|(simp only[LnZ];omega))[wrap64,c9,setC,hOg,hCg,hOv,hCv]
   exact RetK.keep (hk _ _ ⟨⟨r1,r2,gu,vr,(Exq.mk 8 0 [Exq.mk 2 vr [],Exq.mk 1 1 []]),0⟩,_,HS.mkEd (e:=⟨r1,r2,gu,vr,(Exq.mk 8 0 [Exq.mk 2 vr [],Exq.mk 1 1 []]),0⟩) (H.bk2.sw1) ⟨o1,o2,k1,k2,ovr,i8,i0,i0⟩,⟨by dsimp only;omega,by simp[Exq.nod,Exq.nods]⟩,by omega,by omega⟩)
 by_cases d2:r5=2
 ·simp -implicitDefEqProofs (disch:=first|omega|(simp only[LnZ];omega))[wrap64,d0,d1,d2,setC]
  refine HS.blsO2 ((H.mkEz (kd:=2) (vl:=vr) ⟨by decide,by decide⟩ ovr).mkEz (kd:=1) (vl:=1) ⟨by decide,by decide⟩ ⟨by decide,by decide⟩) rfl fun w h8 H=>?_
  have hOv:=H.rep.one
  have hCv:=H.rep.cells
  simp -implicitDefEqProofs (disch:=first|omega|(simp only[LnZ];omega))[wrap64,setC,hOg,hCg,hOv,hCv]
  have H:=H.sw1
  refine (c_pick (n:=4) R H (by omega) (by omega) ⟨by decide,by decide⟩).go ?_
  rintro _ ht ⟨r9,rfl,o9,z9,y9,H⟩
  by_cases c9:r9=0
  ·simp -implicitDefEqProofs (disch:=first|omega|(simp only[LnZ];omega))[wrap64,c9]
   refine H.bls [(1:Int),-1,1,-1,2,-2] rfl rfl (okL (by decide)) (by decide) fun q hq H=>?_
   simp -implicitDefEqProofs (disch:=omega)[wrap64]
   refine (c_num R H (by omega) (by omega) (by simp)).go ?_
   rintro _ ht2 ⟨sy,rfl,osy,_,H⟩
   simp -implicitDefEqProofs (disch:=first|omega|(simp only[LnZ];omega))[wrap64,setC,hOg,hCg,hOv,hCv]
   exact RetK.keep (hk _ _ ⟨⟨r1,r2,gu,vr,(Exq.mk 9 0 [Exq.mk 1 1 [],Exq.mk 2 vr []]),sy⟩,_,HS.mkEd (e:=⟨r1,r2,gu,vr,(Exq.mk 9 0 [Exq.mk 1 1 [],Exq.mk 2 vr []]),sy⟩) (H.bk2.sw1) ⟨o1,o2,k1,k2,ovr,i9,i0,osy⟩,⟨by dsimp only;omega,by simp[Exq.nod,Exq.nods]⟩,by omega,by omega⟩)
  ·simp -implicitDefEqProofs (disch:=first|omega|(simp only[LnZ];omega))[wrap64,c9,setC,hOg,hCg,hOv,hCv]
   exact RetK.keep (hk _ _ ⟨⟨r1,r2,gu,vr,(Exq.mk 9 0 [Exq.mk 1 1 [],Exq.mk 2 vr []]),0⟩,_,HS.mkEd (e:=⟨r1,r2,gu,vr,(Exq.mk 9 0 [Exq.mk 1 1 [],Exq.mk 2 vr []]),0⟩) (H.bk2.sw1) ⟨o1,o2,k1,k2,ovr,i9,i0,i0⟩,⟨by dsimp only;omega,by simp[Exq.nod,Exq.nods]⟩,by omega,by omega⟩)
 ·simp -implicitDefEqProofs (disch:=first|omega|(simp only[LnZ];omega))[wrap64,d0,d1,d2]
  refine (c_l1Expr R H (by omega) (by omega)).go ?_
  rintro _ h1 ⟨va,p5,H,hvn,hp5,hp6⟩
  obtain⟨wv,rfl,k3,k4,H⟩:=H.unExq
  have hOv:=H.rep.one
  have hCv:=H.rep.cells
  simp -implicitDefEqProofs (disch:=first|omega|(simp only[LnZ];omega))[wrap64,setC,hOg,hCg,hOv,hCv]
  have H:=H.sw1
  refine (c_pick (n:=4) R H (by omega) (by omega) ⟨by decide,by decide⟩).go ?_
  rintro _ ht ⟨r9,rfl,o9,z9,y9,H⟩
  by_cases c9:r9=0
  ·simp -implicitDefEqProofs (disch:=first|omega|(simp only[LnZ];omega))[wrap64,c9]
   refine H.bls [(1:Int),-1,1,-1,2,-2] rfl rfl (okL (by decide)) (by decide) fun q hq H=>?_
   simp -implicitDefEqProofs (disch:=omega)[wrap64]
   refine (c_num R H (by omega) (by omega) (by simp)).go ?_
   rintro _ ht2 ⟨sy,rfl,osy,_,H⟩
   simp -implicitDefEqProofs (disch:=first|omega|(simp only[LnZ];omega))[wrap64,setC,hOg,hCg,hOv,hCv]
   exact RetK.keep (hk _ _ ⟨⟨r1,r2,gu,vr,va,sy⟩,_,HS.mkEd (e:=⟨r1,r2,gu,vr,va,sy⟩) (H.bk2.sw1) ⟨o1,o2,k1,k2,ovr,k3,k4,osy⟩,⟨by dsimp only;omega,by dsimp only;omega⟩,by omega,by omega⟩)
  ·simp -implicitDefEqProofs (disch:=first|omega|(simp only[LnZ];omega))[wrap64,c9,setC,hOg,hCg,hOv,hCv]
   exact RetK.keep (hk _ _ ⟨⟨r1,r2,gu,vr,va,0⟩,_,HS.mkEd (e:=⟨r1,r2,gu,vr,va,0⟩) (H.bk2.sw1) ⟨o1,o2,k1,k2,ovr,k3,k4,i0⟩,⟨by dsimp only;omega,by dsimp only;omega⟩,by omega,by omega⟩)
theorem c_l2System {g h:Heap}{Γ:List HP}{b:Nat}{sl:Value}{l:List (BitVec 8)}{p:Int}(R:Rep g sl l) (H:HS g (rb b sl p::Γ) h) (hp:0≤p) (hp2:p+2000≤1000000000000) :
  CallE Tryz.prog fn_spec_l2System [.pointer (some ⟨b,0,none⟩)] h (fun u h'=>∃(y:Sy) (p':Int),HS g (ow u y::rb b sl p'::Γ) h'∧y.Sm 40∧p≤p'∧p'≤p+1400):=by
 have i0:I64 0:=⟨by decide,by decide⟩
 refine CallE.gen fun k hk=>EN_spec_l2System rfl ?_
 simp -implicitDefEqProofs (disch:=omega)[wrap64]
 refine (c_pick (n:=2) R H (by omega) (by omega) ⟨by decide,by decide⟩).go ?_
 rintro _ h1 ⟨r1,rfl,o1,z1,y1,H⟩
 simp -implicitDefEqProofs (disch:=omega)[wrap64]
 refine H.bls [(0:Int),0,1,3] rfl rfl (okL (by decide)) (by decide) fun q hq H=>?_
 simp -implicitDefEqProofs (disch:=omega)[wrap64]
 refine (c_num R H (by omega) (by omega) (by simp)).go ?_
 rintro _ h1 ⟨r2,rfl,o2,_,H⟩
 simp -implicitDefEqProofs (disch:=omega)[wrap64]
 refine H.bls [r1,r2,0] rfl rfl (by intro x hx;simp at hx;rcases hx with rfl | rfl | rfl<;>first | exact o1 | exact o2 | exact i0) (by decide) fun wi hq H=>?_
 have hOi:=H.rep.one
 have hCi:=H.rep.cells
 simp -implicitDefEqProofs (disch:=first|omega|(simp only[LnZ];omega))[wrap64,setC,hOi,hCi]
 refine H.bls [(2:Int),1,2,3] rfl rfl (okL (by decide)) (by decide) fun q hq H=>?_
 simp -implicitDefEqProofs (disch:=omega)[wrap64]
 refine (c_num R H.sw1.bk2 (by omega) (by omega) (by simp)).go ?_
 rintro _ h1 ⟨r3,rfl,o3,hr3,H⟩
 obtain⟨n,rfl,hn⟩:∃n:Nat,r3=n∧n≤3:=by
  simp at hr3
  rcases hr3 with rfl | rfl | rfl | rfl<;>first | exact⟨2,rfl,by decide⟩ | exact⟨1,rfl,by decide⟩ | exact⟨3,rfl,by decide⟩
 simp -implicitDefEqProofs (disch:=omega)[wrap64]
 refine wp_while (σ:=Nat) (fun i e h'=>∃(ps:List Pr) (w:Value) (p':Int),e=[some (.pointer (some ⟨b,0,none⟩)),some (.agg #[.slice none 0 0,.slice none 0 0]),some (.agg #[wi,w]),some (.int .i64 i),none,none]∧HS g (ow w ps::ow wi [r1,r2,0]::rb b sl p'::Γ) h'∧ps.length+i≤3∧(∀x∈ps,x.Sm 40)∧p≤p'∧p'+452*i≤p+3+3*452) (fun i=>i) n ⟨[],.slice none 0 0,_,by simp,H.sw1.nil_ow,by simpa using hn,by simp,by omega,by omega⟩ ?_
 clear H hOi hCi
 rintro J i _ h3 hJ ⟨ps,w,p1,rfl,H,hpl,hps,hp3,hp4⟩
 have hOi:=H.sw1.rep.one
 have hCi:=H.sw1.rep.cells
 have hOw:=H.rep.one
 have hCw:=H.rep.cells
 by_cases c0:0<i
 ·have c0':(0:Int)<i:=by omega
  simp -implicitDefEqProofs (disch:=first|omega|(simp only[LnZ];omega))[wrap64,c0,c0']
  refine H.bls [(2:Int),3,1,2] rfl rfl (okL (by decide)) (by decide) fun q hq H=>?_
  simp -implicitDefEqProofs (disch:=omega)[wrap64]
  refine (c_num R (H.under fun _ H=>H.sw2) (by omega) (by omega) (by simp)).go ?_
  rintro _ h4 ⟨lo,rfl,olo,_,H⟩
  simp -implicitDefEqProofs (disch:=first|omega|(simp only[LnZ];omega))[wrap64,setC]
  refine H.bls [(3:Int),4,2,5,1] rfl rfl (okL (by decide)) (by decide) fun q hq H=>?_
  simp -implicitDefEqProofs (disch:=omega)[wrap64]
  refine (c_num R H (by omega) (by omega) (by simp)).go ?_
  rintro _ h4 ⟨r5,rfl,o5,hr5,H⟩
  obtain⟨n5,rfl,hn5⟩:∃n:Nat,r5=n∧n≤5:=by
   simp at hr5
   rcases hr5 with rfl | rfl | rfl | rfl | rfl<;>first | exact⟨3,rfl,by decide⟩ | exact⟨4,rfl,by decide⟩ | exact⟨2,rfl,by decide⟩ | exact⟨5,rfl,by decide⟩ | exact⟨1,rfl,by decide⟩
  simp -implicitDefEqProofs (disch:=omega)[wrap64]
  refine wp_while (σ:=Nat) (fun k e h'=>∃(es:List Ed) (we:Value) (p':Int),e=[some (.pointer (some ⟨b,0,none⟩)),some (.agg #[.slice none 0 0,.slice none 0 0]),some (.agg #[wi,w]),some (.int .i64 i),some (.agg #[.int .i64 lo,we]),some (.int .i64 k)]∧HS g (ow we es::rb b sl p'::ow w ps::ow wi [r1,r2,0]::Γ) h'∧es.length+k≤5∧(∀x∈es,x.Sm 40)∧p1≤p'∧p'+90*k≤p1+2+450) (fun i=>i) n5 ⟨[],.slice none 0 0,_,by simp,H.nil_ow,by simpa using hn5,by simp,by omega,by omega⟩ ?_
  clear H
  rintro J2 k2 _ h5 hJ2 ⟨es,we,p2,rfl,H,hel,hes,hp5,hp6⟩
  by_cases c1:0<k2
  ·have c1':(0:Int)<k2:=by omega
   simp -implicitDefEqProofs (disch:=first|omega|(simp only[LnZ];omega))[wrap64,c1,c1',setC]
   refine (c_l2DrawEdge R H.sw1 (by omega) (by omega) olo).go ?_
   rintro _ h6 ⟨y,p3,H,hy,hp7,hp8⟩
   obtain⟨w1,w2,rfl,ok,H'⟩:=H.unEd
   have hO1:=H'.rep.one
   have hC1:=H'.rep.cells
   have hO2:=H'.sw1.rep.one
   have hC2:=H'.sw1.rep.cells
   simp -implicitDefEqProofs (disch:=first|omega|(simp only[LnZ];omega))[wrap64,setC,Ed.cs,hO1,hC1,hO2,hC2]
   refine HS.appO (bytes:=112) H.sw2.sw1 rfl rfl rfl rfl rfl (by omega) (by omega) fun we' h7 H=>?_
   simp -implicitDefEqProofs (disch:=first|omega|(simp only[LnZ];omega))[wrap64,setC,H.rep.one,H.rep.cells]
   refine hJ2 (k2-1) _ _ (by omega) ⟨es++[y],we',p3,by simp;omega,H,by simp;omega,?_,by omega,by omega⟩
   intro x hx
   simp only[List.mem_append,List.mem_singleton] at hx
   rcases hx with hx | rfl
   ·exact hes x hx
   ·exact hy
  ·have c1':¬((0:Int)<k2):=by omega
   have hOe:=H.rep.one
   have hCe:=H.rep.cells
   simp -implicitDefEqProofs (disch:=first|omega|(simp only[LnZ];omega))[wrap64,c1,c1',setC,hOe,hCe]
   refine HS.appO (bytes:=32) (HS.mkPr (p:=⟨lo,es⟩) H olo |>.sw2.sw1) rfl rfl rfl rfl rfl (by omega) (by omega) fun w' h7 H=>?_
   simp -implicitDefEqProofs (disch:=first|omega|(simp only[LnZ];omega))[wrap64,setC,H.rep.one,H.rep.cells]
   refine hJ (i-1) _ _ (by omega) ⟨ps++[⟨lo,es⟩],w',p2,by simp;omega,H.under fun _ H=>H.sw1,by simp;omega,?_,by omega,by omega⟩
   intro x hx
   simp only[List.mem_append,List.mem_singleton] at hx
   rcases hx with hx | rfl
   ·exact hps x hx
   ·exact⟨by dsimp only;omega,hes⟩
 ·have c0':¬((0:Int)<i):=by omega
  simp -implicitDefEqProofs (disch:=first|omega|(simp only[LnZ];omega))[wrap64,c0,c0',setC,hOi,hCi,hOw,hCw]
  exact RetK.keep (hk _ _ ⟨⟨[r1,r2,0],ps⟩,p1,HS.mkSy (s:=⟨[r1,r2,0],ps⟩) H.sw1,⟨by simp,by dsimp only;omega,hps⟩,by omega,by omega⟩)
theorem c_l2CopyB {h:Heap}{v:Value}{s:Sy}{n:Nat}(R:Rep h v s) (hs:s.Sm n) (hn:n≤1000):CallE Tryz.prog fn_spec_l2Copy [v] h (fun u h'=>∃y:Sy,HS h [ow u y] h'∧y.Sm n∧y.procs.length=s.procs.length):=by
 obtain⟨v1,v2,rfl,R1,R2'⟩:=Rep_Sy.1 R
 have hil:=hs.il
 have hpl:=hs.pl
 have hO1:=R1.one
 have hO2:=R2'.one
 refine CallE.gen fun k hk=>EN_spec_l2Copy rfl ?_
 simp -implicitDefEqProofs (disch:=omega)[wrap64]
 refine HS.appPL (α:=Int) (l2:=s.init) HS.init rfl rfl R1 rfl rfl (by omega) fun wi h1 H=>?_
 simp -implicitDefEqProofs (disch:=first|omega|(simp only[LnZ];omega))[wrap64,setC,H.rep.one,H.rep.cells]
 refine wp_count s.procs.length (fun i e h'=>∃(ps:List Pr) (w:Value),e=[none,some (.agg #[v1,v2]),some (.agg #[.slice none 0 0,.slice none 0 0]),some (.agg #[wi,w]),some (.int .i64 i),none,none,none]∧HS h [ow w ps,ow wi s.init] h'∧ps.length=i∧∀x∈ps,x.Sm n) ⟨[],.slice none 0 0,by simp,H.nil_ow,rfl,by simp⟩ ?_
 clear H
 rintro J i _ h2 hJ hi ⟨ps,w,rfl,H,hpsl,hps⟩
 have hOi:=H.sw1.rep.one
 have hCi:=H.sw1.rep.cells
 have hOw:=H.rep.one
 have hCw:=H.rep.cells
 simp -implicitDefEqProofs (disch:=first|omega|(simp only[LnZ];omega))[wrap64,(R2'.on H).len]
 refine IteW.mk (fun hlt=>?_) (fun hge=>?_)
 ·have hi:i<s.procs.length:=by omega
  have hpi:=hs.pp _ (List.getElem_mem hi)
  have hel:=hpi.el
  obtain⟨u,hu,Ru⟩:=R2'.ld hi
  change hload _ (some (elp 2 v2 i)) (some 2)=some u at hu
  obtain⟨we,rfl,k1,R3⟩:=Rep_Pr.1 Ru
  have hP:∀{h'},h.le h'→_:=fun {h'}(hl:h.le h')=>hld_parts (hload_le hl hu)
  have hP1:=(hP H.base).1
  have hP2:=(hP H.base).2.2.1
  simp -implicitDefEqProofs (disch:=first|omega|(simp only[LnZ];omega))[wrap64,R2'.X (n:=2) rfl,hP1,hP2,setC]
  refine wp_count s.procs[i].edges.length (fun k e h'=>∃(es:List Ed) (wp:Value),e=[none,some (.agg #[v1,v2]),some (.agg #[.slice none 0 0,.slice none 0 0]),some (.agg #[wi,w]),some (.int .i64 i),some (.agg #[.int .i64 s.procs[i].locs,wp]),some (.int .i64 k),none]∧HS h [ow wp es,ow w ps,ow wi s.init] h'∧es.length=k∧∀x∈es,x.Sm n) ⟨[],.slice none 0 0,by simp,H.nil_ow,rfl,by simp⟩ ?_
  clear H hP1 hP2
  rintro J2 k2 _ h3 hJ2 hk2 ⟨es,wp,rfl,H,hesl,hes⟩
  have hP1:=(hP H.base).1
  have hP2:=(hP H.base).2.2.1
  simp -implicitDefEqProofs (disch:=first|omega|(simp only[LnZ];omega))[wrap64,R2'.X (n:=2) rfl,hP1,hP2,R3.len]
  refine IteW.mk (fun hlt2=>?_) (fun hge2=>?_)
  ·have hk2:k2<s.procs[i].edges.length:=by omega
   have hek:=hpi.ee _ (List.getElem_mem hk2)
   obtain⟨u2,hu2,Ru2⟩:=R3.ld hk2
   have hu2:=hload_le H.base hu2
   change hload _ (some (elp 10 we k2)) (some 10)=some u2 at hu2
   obtain⟨w1,w2,rfl,ok,G1,G2⟩:=Rep_Ed.1 Ru2
   have hF1:=G1.one
   have hF2:=G2.one
   have hF3:=G1.cells
   have hF4:=G2.cells
   simp -implicitDefEqProofs (disch:=first|omega|(simp only[LnZ];omega))[wrap64,R2'.X (n:=2) rfl,hP1,hP2,R3.X (n:=10) rfl,hu2,Ed.cs,setC,hF1,hF2]
   refine (c_l1SubstB _ ((Rep.gd (w2:=w2) ok G1).on H) (by have:=hek.g;omega)).go ?_
   rintro _ h4 ⟨gu,G,hgn⟩
   obtain⟨wg,rfl,kg1,kg2,G'⟩:=G.unExq
   have hOg:=G'.rep.one
   have hCg:=G'.rep.cells
   have H:=G'.app H
   simp -implicitDefEqProofs (disch:=first|omega|(simp only[LnZ];omega))[wrap64,setC,hF1,hF2,hOg,hCg]
   refine (c_l1SubstB _ ((Rep.vl ok G2).on H) (by have:=hek.v;omega)).go ?_
   rintro _ h4 ⟨va,G,hvn⟩
   obtain⟨wv,rfl,kv1,kv2,G'⟩:=G.unExq
   have hOv:=G'.rep.one
   have hCv:=G'.rep.cells
   have H:=G'.app H
   simp -implicitDefEqProofs (disch:=first|omega|(simp only[LnZ];omega))[wrap64,setC,hF1,hF2,hOg,hCg,hOv,hCv]
   have H:=HS.mkEd (e:=⟨s.procs[i].edges[k2].frm,s.procs[i].edges[k2].to,gu,s.procs[i].edges[k2].var,va,s.procs[i].edges[k2].sync⟩) H.sw1 ⟨ok.frm,ok.to,kg1,kg2,ok.var,kv1,kv2,ok.sync⟩
   refine HS.appO (bytes:=112) H rfl rfl rfl rfl rfl (by omega) (by omega) fun we' h7 H=>?_
   simp -implicitDefEqProofs (disch:=first|omega|(simp only[LnZ];omega))[wrap64,setC,H.rep.one,H.rep.cells]
   refine hJ2 _ _ hk2 ⟨_,we',by simp,H,by simp[hesl],?_⟩
   intro x hx
   simp only[List.mem_append,List.mem_singleton] at hx
   rcases hx with hx | rfl
   ·exact hes x hx
   ·exact⟨by have:=hek.g;dsimp only;omega,by have:=hek.v;dsimp only;omega⟩
  ·have hOe:=H.rep.one
   have hCe:=H.rep.cells
   simp -implicitDefEqProofs (disch:=first|omega|(simp only[LnZ];omega))[wrap64,setC,hOe,hCe,hOw,hCw,hOi,hCi]
   refine HS.appO (bytes:=32) (HS.mkPr (p:=⟨s.procs[i].locs,es⟩) H k1) rfl rfl rfl rfl rfl (by omega) (by omega) fun w' h7 H=>?_
   simp -implicitDefEqProofs (disch:=first|omega|(simp only[LnZ];omega))[wrap64,setC,H.rep.one,H.rep.cells,hOi,hCi]
   refine hJ _ _ hi ⟨_,w',by simp,H,by simp[hpsl],?_⟩
   intro x hx
   simp only[List.mem_append,List.mem_singleton] at hx
   rcases hx with hx | rfl
   ·exact hps x hx
   ·exact⟨by dsimp only;omega,hes⟩
 ·simp -implicitDefEqProofs (disch:=first|omega|(simp only[LnZ];omega))[wrap64,setC,hOi,hCi,hOw,hCw]
  exact RetK.keep (hk _ _ ⟨⟨s.init,ps⟩,HS.mkSy (s:=⟨s.init,ps⟩) H.sw1,⟨hs.il,by dsimp only;omega,hps⟩,by dsimp only;omega⟩)
theorem Ed.Sm.le {n m:Nat}{e:Ed}(h:e.Sm n) (hn:n≤m):e.Sm m:=⟨by have:=h.g;omega,by have:=h.v;omega⟩
theorem Pr.Sm.le {n m:Nat}{p:Pr}(h:p.Sm n) (hn:n≤m):p.Sm m:=⟨by have:=h.el;omega,fun e he=>(h.ee e he).le hn⟩
theorem Sy.Sm.le {n m:Nat}{s:Sy}(h:s.Sm n) (hn:n≤m):s.Sm m:=⟨by have:=h.il;omega,by have:=h.pl;omega,fun p hp=>(h.pp p hp).le hn⟩
theorem Sy.Sm.set {n:Nat}{s:Sy}(h:s.Sm n) {i:Nat}(hi:i<s.procs.length) (he:0<s.procs[i].edges.length) {e:Ed}(hs:e.Sm n):Sy.Sm n ⟨s.init,s.procs.set i ⟨s.procs[i].locs,s.procs[i].edges.set 0 e⟩⟩:=by
 refine⟨h.il,by simpa using h.pl,fun p hp=>?_⟩
 rcases List.mem_or_eq_of_mem_set hp with h1 | rfl
 ·exact h.pp p h1
 ·have h2:=h.pp _ (List.getElem_mem hi)
  refine⟨by simpa using h2.el,fun x hx=>?_⟩
  rcases List.mem_or_eq_of_mem_set hx with h3 | rfl
  ·exact h2.ee x h3
  ·exact hs
set_option maxHeartbeats 2000000 in
theorem c_l2Mutate {g h:Heap}{Γ:List HP}{b n:Nat}{sl v:Value}{l:List (BitVec 8)}{p:Int}{s:Sy}(R:Rep g sl l) (Rs:Rep g v s) (hs:s.Sm n) (hn:40≤n) (hn2:n≤900) (H:HS g (rb b sl p::Γ) h) (hp:0≤p) (hp2:p+200≤1000000000000) :
  CallE Tryz.prog fn_spec_l2Mutate [.pointer (some ⟨b,0,none⟩),v] h (fun u h'=>∃(y:Sy) (p':Int),HS g (ow u y::rb b sl p'::Γ) h'∧y.Sm (n+1)∧p≤p'∧p'≤p+100):=by
 have FS:=Rs.aSy
 have Rs0:=Rs
 obtain⟨v1,v2,rfl,R1,R2'⟩:=Rep_Sy.1 Rs
 have hspl:=hs.pl
 refine CallE.gen fun k hk=>EN_spec_l2Mutate rfl ?_
 simp -implicitDefEqProofs (disch:=first|omega|(simp only[LnZ];omega))[wrap64,FS]
 refine (c_l2CopyB (Rs0.on H) hs (by omega)).go ?_
 rintro _ h1 ⟨y,G,hyn,hypl⟩
 obtain⟨wi,w,rfl,G'⟩:=G.unSy
 have H:=G'.app H
 have hy:=hyn.le (show n≤n+1 by omega)
 have hyil:=hyn.il
 have hOi:=H.rep.one
 have hCi:=H.rep.cells
 have hOw:=H.sw1.rep.one
 have hCw:=H.sw1.rep.cells
 have hL2:=(R2'.on H).len
 simp -implicitDefEqProofs (disch:=first|omega|(simp only[LnZ];omega))[wrap64,setC,hOi,hCi,hOw,hCw,hL2]
 have H:=H.sw2
 refine (c_pick R H (by omega) (by omega) ⟨by omega,by omega⟩).go ?_
 rintro _ h2 ⟨r,rfl,o0,z0,y0,H⟩
 have y0:=y0 (by omega)
 obtain⟨p1,hp1⟩:∃p1,p1=p+1:=⟨_,rfl⟩
 rw[← hp1] at H
 have hL2:=(R2'.on H).len
 by_cases q0:r=s.procs.length
 ·simp -implicitDefEqProofs (disch:=first|omega|(simp only[LnZ];omega))[wrap64,hL2,q0]
  refine (c_pick (n:=50) R H (by omega) (by omega) ⟨by decide,by decide⟩).go ?_
  rintro _ h3 ⟨r6,rfl,o6,z6,y6,H⟩
  by_cases c0:r6=0
  ·simp -implicitDefEqProofs (disch:=first|omega|(simp only[LnZ];omega))[wrap64,c0,setC]
   refine HS.app1 (bytes:=8) H.sw1 (0:Int) rfl rfl rfl ⟨by decide,by decide⟩ rfl rfl (by omega) (by omega) fun wi' h5 H=>?_
   simp -implicitDefEqProofs (disch:=first|omega|(simp only[LnZ];omega))[wrap64,setC,H.rep.one,H.rep.cells,hOw,hCw]
   exact RetK.keep (hk _ _ ⟨⟨y.init++[0],y.procs⟩,_,HS.mkSy (s:=⟨y.init++[0],y.procs⟩) (H.under fun _ H=>H.sw1),⟨by have:=hyn.il;simp;omega,hy.pl,hy.pp⟩,by omega,by omega⟩)
  by_cases c1:r6=1
  ·simp -implicitDefEqProofs (disch:=first|omega|(simp only[LnZ];omega))[wrap64,c0,c1]
   refine H.bls [(0:Int),1,4,5] rfl rfl (okL (by decide)) (by decide) fun q hq H=>?_
   simp -implicitDefEqProofs (disch:=omega)[wrap64]
   refine (c_num R H (by omega) (by omega) (by simp)).go ?_
   rintro _ h4 ⟨r7,rfl,o7,_,H⟩
   simp -implicitDefEqProofs (disch:=first|omega|(simp only[LnZ];omega))[wrap64,setC]
   have H:=HS.mkPr (p:=⟨r7,[]⟩) (H.nil_ow (α:=Ed)) o7
   refine HS.appO (bytes:=32) (H.sw3.sw1) rfl rfl rfl rfl rfl (by omega) (by omega) fun w' h7 H=>?_
   simp -implicitDefEqProofs (disch:=first|omega|(simp only[LnZ];omega))[wrap64,setC,hOi,hCi,H.rep.one,H.rep.cells]
   refine RetK.keep (hk _ _ ⟨_,_,HS.mkSy (s:=⟨y.init,y.procs++[⟨r7,[]⟩]⟩) H.sw2,⟨hy.il,by have:=hyn.pl;simp;omega,?_⟩,by omega,by omega⟩)
   intro x hx
   simp only[List.mem_append,List.mem_singleton] at hx
   rcases hx with hx | rfl
   ·exact hy.pp x hx
   ·exact⟨by simp,by simp⟩
  by_cases c2:r6=2
  ·simp -implicitDefEqProofs (disch:=first|omega|(simp only[LnZ];omega))[wrap64,c0,c1,c2,setC,hOi,hCi,hOw,hCw]
   exact RetK.keep (hk _ _ ⟨y,_,HS.mkSy H.sw2.sw2,hy,by omega,by omega⟩)
  by_cases c3:r6=3
  ·simp -implicitDefEqProofs (disch:=first|omega|(simp only[LnZ];omega))[wrap64,c0,c1,c2,c3,setC,hOi,hCi,hOw,hCw]
   exact RetK.keep (hk _ _ ⟨y,_,HS.mkSy H.sw2.sw2,hy,by omega,by omega⟩)
  by_cases c4:r6=4
  ·simp -implicitDefEqProofs (disch:=first|omega|(simp only[LnZ];omega))[wrap64,c0,c1,c2,c3,c4,setC,hOi,hCi,hOw,hCw]
   exact RetK.keep (hk _ _ ⟨y,_,HS.mkSy H.sw2.sw2,hy,by omega,by omega⟩)
  by_cases c5:r6=5
  ·simp -implicitDefEqProofs (disch:=first|omega|(simp only[LnZ];omega))[wrap64,c0,c1,c2,c3,c4,c5,setC,hOi,hCi,hOw,hCw]
   exact RetK.keep (hk _ _ ⟨y,_,HS.mkSy H.sw2.sw2,hy,by omega,by omega⟩)
  by_cases c6:r6=6
  ·simp -implicitDefEqProofs (disch:=first|omega|(simp only[LnZ];omega))[wrap64,c0,c1,c2,c3,c4,c5,c6,setC]
   exact RetK.keep (hk _ _ ⟨⟨[],[]⟩,p1+1,HS.mkSy (s:=⟨[],[]⟩) (H.sw2.drop.sw1.drop.nil_ow.nil_ow),⟨by simp,by simp,by simp⟩,by omega,by omega⟩)
  ·simp -implicitDefEqProofs (disch:=first|omega|(simp only[LnZ];omega))[wrap64,c0,c1,c2,c3,c4,c5,c6,setC,hOi,hCi,hOw,hCw]
   exact RetK.keep (hk _ _ ⟨y,_,HS.mkSy H.sw2.sw2,hy,by omega,by omega⟩)
 obtain⟨i,rfl⟩:∃i:Nat,r=i:=⟨r.toNat,(Int.toNat_of_nonneg z0).symm⟩
 have hi:i<y.procs.length:=by omega
 have hpi:=hyn.pp _ (List.getElem_mem hi)
 obtain⟨u,hu,Ru⟩:=H.sw2.rep.ld hi
 change hload _ (some (elp 2 w i)) (some 2)=some u at hu
 obtain⟨we,rfl,kl,R3⟩:=Rep_Pr.1 Ru
 have hP:=hld_parts (cs:=[.int .i64 y.procs[i].locs,we]) hu
 obtain⟨ln,hln⟩:∃ln:Int,ln=y.procs[i].edges.length:=⟨_,rfl⟩
 have hlen:=R3.len
 rw[← hln] at hlen
 have hX:=H.sw2.rep.X (n:=2) rfl
 by_cases q1:ln=0
 ·simp -implicitDefEqProofs (disch:=first|omega|(simp only[LnZ];omega))[wrap64,hL2,q0,hX,hP.1,hP.2.2.1,hlen,q1]
  refine (c_pick (n:=50) R H (by omega) (by omega) ⟨by decide,by decide⟩).go ?_
  rintro _ h3 ⟨r6,rfl,o6,z6,y6,H⟩
  by_cases c0:r6=0
  ·simp -implicitDefEqProofs (disch:=first|omega|(simp only[LnZ];omega))[wrap64,c0,setC]
   refine HS.app1 (bytes:=8) H.sw1 (0:Int) rfl rfl rfl ⟨by decide,by decide⟩ rfl rfl (by omega) (by omega) fun wi' h5 H=>?_
   simp -implicitDefEqProofs (disch:=first|omega|(simp only[LnZ];omega))[wrap64,setC,H.rep.one,H.rep.cells,hOw,hCw]
   exact RetK.keep (hk _ _ ⟨⟨y.init++[0],y.procs⟩,_,HS.mkSy (s:=⟨y.init++[0],y.procs⟩) (H.under fun _ H=>H.sw1),⟨by have:=hyn.il;simp;omega,hy.pl,hy.pp⟩,by omega,by omega⟩)
  by_cases c1:r6=1
  ·simp -implicitDefEqProofs (disch:=first|omega|(simp only[LnZ];omega))[wrap64,c0,c1]
   refine H.bls [(0:Int),1,4,5] rfl rfl (okL (by decide)) (by decide) fun q hq H=>?_
   simp -implicitDefEqProofs (disch:=omega)[wrap64]
   refine (c_num R H (by omega) (by omega) (by simp)).go ?_
   rintro _ h4 ⟨r7,rfl,o7,_,H⟩
   simp -implicitDefEqProofs (disch:=first|omega|(simp only[LnZ];omega))[wrap64,setC]
   have H:=HS.mkPr (p:=⟨r7,[]⟩) (H.nil_ow (α:=Ed)) o7
   refine HS.appO (bytes:=32) (H.sw3.sw1) rfl rfl rfl rfl rfl (by omega) (by omega) fun w' h7 H=>?_
   simp -implicitDefEqProofs (disch:=first|omega|(simp only[LnZ];omega))[wrap64,setC,hOi,hCi,H.rep.one,H.rep.cells]
   refine RetK.keep (hk _ _ ⟨_,_,HS.mkSy (s:=⟨y.init,y.procs++[⟨r7,[]⟩]⟩) H.sw2,⟨hy.il,by have:=hyn.pl;simp;omega,?_⟩,by omega,by omega⟩)
   intro x hx
   simp only[List.mem_append,List.mem_singleton] at hx
   rcases hx with hx | rfl
   ·exact hy.pp x hx
   ·exact⟨by simp,by simp⟩
  by_cases c2:r6=2
  ·simp -implicitDefEqProofs (disch:=first|omega|(simp only[LnZ];omega))[wrap64,c0,c1,c2,setC,hOi,hCi,hOw,hCw]
   exact RetK.keep (hk _ _ ⟨y,_,HS.mkSy H.sw2.sw2,hy,by omega,by omega⟩)
  by_cases c3:r6=3
  ·simp -implicitDefEqProofs (disch:=first|omega|(simp only[LnZ];omega))[wrap64,c0,c1,c2,c3,setC,hOi,hCi,hOw,hCw]
   exact RetK.keep (hk _ _ ⟨y,_,HS.mkSy H.sw2.sw2,hy,by omega,by omega⟩)
  by_cases c4:r6=4
  ·simp -implicitDefEqProofs (disch:=first|omega|(simp only[LnZ];omega))[wrap64,c0,c1,c2,c3,c4,setC,hOi,hCi,hOw,hCw]
   exact RetK.keep (hk _ _ ⟨y,_,HS.mkSy H.sw2.sw2,hy,by omega,by omega⟩)
  by_cases c5:r6=5
  ·simp -implicitDefEqProofs (disch:=first|omega|(simp only[LnZ];omega))[wrap64,c0,c1,c2,c3,c4,c5,setC,hOi,hCi,hOw,hCw]
   exact RetK.keep (hk _ _ ⟨y,_,HS.mkSy H.sw2.sw2,hy,by omega,by omega⟩)
  by_cases c6:r6=6
  ·simp -implicitDefEqProofs (disch:=first|omega|(simp only[LnZ];omega))[wrap64,c0,c1,c2,c3,c4,c5,c6,setC]
   exact RetK.keep (hk _ _ ⟨⟨[],[]⟩,p1+1,HS.mkSy (s:=⟨[],[]⟩) (H.sw2.drop.sw1.drop.nil_ow.nil_ow),⟨by simp,by simp,by simp⟩,by omega,by omega⟩)
  ·simp -implicitDefEqProofs (disch:=first|omega|(simp only[LnZ];omega))[wrap64,c0,c1,c2,c3,c4,c5,c6,setC,hOi,hCi,hOw,hCw]
   exact RetK.keep (hk _ _ ⟨y,_,HS.mkSy H.sw2.sw2,hy,by omega,by omega⟩)
 have he:0<y.procs[i].edges.length:=by omega
 have hek:=hpi.ee _ (List.getElem_mem he)
 have heg:y.procs[i].edges[0].guard.nod≤n+1:=by have:=hek.g;omega
 have hev:y.procs[i].edges[0].value.nod≤n+1:=by have:=hek.v;omega
 simp -implicitDefEqProofs (disch:=first|omega|(simp only[LnZ];omega))[wrap64,hL2,q0,hX,hP.1,hP.2.2.1,hlen,q1]
 refine (c_pick (n:=50) R H (by omega) (by omega) ⟨by decide,by decide⟩).go ?_
 rintro _ h3 ⟨r6,rfl,o6,z6,y6,H⟩
 by_cases c0:r6=0
 ·simp -implicitDefEqProofs (disch:=first|omega|(simp only[LnZ];omega))[wrap64,c0,setC]
  refine HS.app1 (bytes:=8) H.sw1 (0:Int) rfl rfl rfl ⟨by decide,by decide⟩ rfl rfl (by omega) (by omega) fun wi' h5 H=>?_
  simp -implicitDefEqProofs (disch:=first|omega|(simp only[LnZ];omega))[wrap64,setC,H.rep.one,H.rep.cells,hOw,hCw]
  exact RetK.keep (hk _ _ ⟨⟨y.init++[0],y.procs⟩,_,HS.mkSy (s:=⟨y.init++[0],y.procs⟩) (H.under fun _ H=>H.sw1),⟨by have:=hyn.il;simp;omega,hy.pl,hy.pp⟩,by omega,by omega⟩)
 by_cases c1:r6=1
 ·simp -implicitDefEqProofs (disch:=first|omega|(simp only[LnZ];omega))[wrap64,c0,c1]
  refine H.bls [(0:Int),1,4,5] rfl rfl (okL (by decide)) (by decide) fun q hq H=>?_
  simp -implicitDefEqProofs (disch:=omega)[wrap64]
  refine (c_num R H (by omega) (by omega) (by simp)).go ?_
  rintro _ h4 ⟨r7,rfl,o7,_,H⟩
  simp -implicitDefEqProofs (disch:=first|omega|(simp only[LnZ];omega))[wrap64,setC]
  have H:=HS.mkPr (p:=⟨r7,[]⟩) (H.nil_ow (α:=Ed)) o7
  refine HS.appO (bytes:=32) (H.sw3.sw1) rfl rfl rfl rfl rfl (by omega) (by omega) fun w' h7 H=>?_
  simp -implicitDefEqProofs (disch:=first|omega|(simp only[LnZ];omega))[wrap64,setC,hOi,hCi,H.rep.one,H.rep.cells]
  refine RetK.keep (hk _ _ ⟨_,_,HS.mkSy (s:=⟨y.init,y.procs++[⟨r7,[]⟩]⟩) H.sw2,⟨hy.il,by have:=hyn.pl;simp;omega,?_⟩,by omega,by omega⟩)
  intro x hx
  simp only[List.mem_append,List.mem_singleton] at hx
  rcases hx with hx | rfl
  ·exact hy.pp x hx
  ·exact⟨by simp,by simp⟩
 by_cases c2:r6=2
 ·have H:=H.sw2
  obtain⟨uP,huP,H⟩:=HS.take H hi
  obtain⟨we,rfl,kl,H⟩:=H.unPr
  obtain⟨uE,huE,H⟩:=HS.take H he
  obtain⟨x1,x2,rfl,ok,H⟩:=H.unEd
  have hiaP:=HS.holeia H.sw3 (n:=2) (kd:=.i64) rfl hi
  have hPP:=hld_parts (cs:=[.int .i64 y.procs[i].locs,we]) (HS.holeP H.sw3 (n:=2) rfl rfl)
  have hiaE:iaV 10 we (.int .i64 0)=some (elp 10 we 0):=HS.holeia H.sw2 (n:=10) (kd:=.i64) rfl he
  have H:=H.sw4
  simp -implicitDefEqProofs (disch:=first|omega|(simp only[LnZ];omega))[wrap64,c0,c1,c2,hiaP,hPP.1,hPP.2.2.1,hiaE]
  refine (c_l1Expr R H (by omega) (by omega)).go ?_
  rintro _ h4 ⟨e1,p3,H,hen,hp5,hp6⟩
  have FA:=H.rep.aExq
  have hPP:=hld_parts (cs:=[.int .i64 y.procs[i].locs,we]) (HS.holeP H.sw5 (n:=2) rfl rfl)
  simp -implicitDefEqProofs (disch:=first|omega|(simp only[LnZ];omega))[wrap64,hiaP,hPP.1,hPP.2.2.1,hiaE,FA]
  obtain⟨g1,H1,H2⟩:=HS.rebase (Δ:=[rb b sl p3]) H.sw1
  refine (c_l1Mutate (R.on H1) H1.rep (by omega) H2 (by omega) (by omega)).go ?_
  rintro _ h5 ⟨y2,p4,H3,hyn,hp7,hp8⟩
  have H:=H3.app H1
  obtain⟨w2,rfl,k3,k4,H⟩:=H.unExq
  have hO2:=H.rep.one
  have hPP:=hld_parts (cs:=[.int .i64 y.procs[i].locs,we]) (HS.holeP H.sw6 (n:=2) rfl rfl)
  have hPE:=hld_parts (HS.holeP H.sw5 (n:=10) rfl rfl)
  simp -implicitDefEqProofs (disch:=first|omega|(simp only[LnZ];omega))[wrap64,hiaP,hPP.1,hPP.2.2.1,hiaE,hPE.1]
  refine HS.holest H.sw5 rfl (n:=10) rfl rfl rfl rfl (by simp[hO2]) (by decide) fun h5 H=>?_
  have H:HS g (hole we y.procs[i].edges 0 (.agg (Ed.cs ⟨y.procs[i].edges[0].frm,y.procs[i].edges[0].to,y2,y.procs[i].edges[0].var,y.procs[i].edges[0].value,y.procs[i].edges[0].sync⟩ w2 x2).toArray)::ow w2 y2.kids::rb b sl p4::ow _ e1::ow x1 y.procs[i].edges[0].guard.kids::ow x2 y.procs[i].edges[0].value.kids::hole w y.procs i (.agg #[.int .i64 y.procs[i].locs,we])::ow wi y.init::Γ) h5:=H
  have H:=HS.put (HS.mkEd (e:=⟨y.procs[i].edges[0].frm,y.procs[i].edges[0].to,y2,y.procs[i].edges[0].var,y.procs[i].edges[0].value,y.procs[i].edges[0].sync⟩) H.sw5.sw2 ⟨ok.frm,ok.to,k3,k4,ok.var,ok.vk,ok.vv,ok.sync⟩)
  have H:=HS.put ((HS.mkPr (p:=⟨y.procs[i].locs,y.procs[i].edges.set 0 ⟨y.procs[i].edges[0].frm,y.procs[i].edges[0].to,y2,y.procs[i].edges[0].var,y.procs[i].edges[0].value,y.procs[i].edges[0].sync⟩⟩) H kl).under fun _ H=>H.sw3)
  have hOi:=H.sw4.rep.one
  have hCi:=H.sw4.rep.cells
  have hOw:=H.rep.one
  have hCw:=H.rep.cells
  simp -implicitDefEqProofs (disch:=first|omega|(simp only[LnZ];omega))[wrap64,setC,hOi,hCi,hOw,hCw]
  exact RetK.keep (hk _ _ ⟨_,_,(HS.mkSy (s:=⟨y.init,y.procs.set i ⟨y.procs[i].locs,y.procs[i].edges.set 0 ⟨y.procs[i].edges[0].frm,y.procs[i].edges[0].to,y2,y.procs[i].edges[0].var,y.procs[i].edges[0].value,y.procs[i].edges[0].sync⟩⟩⟩) H.sw4).sw3.drop.sw2.drop,Sy.Sm.set hy hi he ⟨by first | omega | (dsimp only;omega),hev⟩,by omega,by omega⟩)
 by_cases c3:r6=3
 ·have H:=H.sw2
  obtain⟨uP,huP,H⟩:=HS.take H hi
  obtain⟨we,rfl,kl,H⟩:=H.unPr
  obtain⟨uE,huE,H⟩:=HS.take H he
  obtain⟨x1,x2,rfl,ok,H⟩:=H.unEd
  have hiaP:=HS.holeia H.sw3 (n:=2) (kd:=.i64) rfl hi
  have hPP:=hld_parts (cs:=[.int .i64 y.procs[i].locs,we]) (HS.holeP H.sw3 (n:=2) rfl rfl)
  have hiaE:iaV 10 we (.int .i64 0)=some (elp 10 we 0):=HS.holeia H.sw2 (n:=10) (kd:=.i64) rfl he
  simp -implicitDefEqProofs (disch:=first|omega|(simp only[LnZ];omega))[wrap64,c0,c1,c2,c3,hiaP,hPP.1,hPP.2.2.1,hiaE]
  refine H.bls [(-1:Int),3,0,-2] rfl rfl (okL (by decide)) (by decide) fun q hq H=>?_
  have H:=H.sw5.sw1
  have hPP:=hld_parts (cs:=[.int .i64 y.procs[i].locs,we]) (HS.holeP H.sw5 (n:=2) rfl rfl)
  simp -implicitDefEqProofs (disch:=first|omega|(simp only[LnZ];omega))[wrap64,hiaP,hPP.1,hPP.2.2.1,hiaE]
  refine (c_num R H (by omega) (by omega) (by simp)).go ?_
  rintro _ h4 ⟨r7,rfl,o7,_,H⟩
  have hPP:=hld_parts (cs:=[.int .i64 y.procs[i].locs,we]) (HS.holeP H.sw4 (n:=2) rfl rfl)
  have hPE:=hld_parts (HS.holeP H.sw3 (n:=10) rfl rfl)
  simp -implicitDefEqProofs (disch:=first|omega|(simp only[LnZ];omega))[wrap64,hiaP,hPP.1,hPP.2.2.1,hiaE,hPE.1]
  refine HS.holest H.sw3 rfl (n:=10) rfl rfl rfl rfl rfl (by decide) fun h5 H=>?_
  have H:HS g (hole we y.procs[i].edges 0 (.agg (Ed.cs ⟨y.procs[i].edges[0].frm,y.procs[i].edges[0].to,y.procs[i].edges[0].guard,r7,y.procs[i].edges[0].value,y.procs[i].edges[0].sync⟩ x1 x2).toArray)::rb b sl (p1+1+1)::ow x1 y.procs[i].edges[0].guard.kids::ow x2 y.procs[i].edges[0].value.kids::hole w y.procs i (.agg #[.int .i64 y.procs[i].locs,we])::ow wi y.init::Γ) h5:=H
  have H:=HS.put (HS.mkEd (e:=⟨y.procs[i].edges[0].frm,y.procs[i].edges[0].to,y.procs[i].edges[0].guard,r7,y.procs[i].edges[0].value,y.procs[i].edges[0].sync⟩) H.sw3.sw3 ⟨ok.frm,ok.to,ok.gk,ok.gv,o7,ok.vk,ok.vv,ok.sync⟩)
  have H:=HS.put ((HS.mkPr (p:=⟨y.procs[i].locs,y.procs[i].edges.set 0 ⟨y.procs[i].edges[0].frm,y.procs[i].edges[0].to,y.procs[i].edges[0].guard,r7,y.procs[i].edges[0].value,y.procs[i].edges[0].sync⟩⟩) H kl).under fun _ H=>H.sw1)
  have hOi:=H.sw2.rep.one
  have hCi:=H.sw2.rep.cells
  have hOw:=H.rep.one
  have hCw:=H.rep.cells
  simp -implicitDefEqProofs (disch:=first|omega|(simp only[LnZ];omega))[wrap64,setC,hOi,hCi,hOw,hCw]
  exact RetK.keep (hk _ _ ⟨_,_,HS.mkSy (s:=⟨y.init,y.procs.set i ⟨y.procs[i].locs,y.procs[i].edges.set 0 ⟨y.procs[i].edges[0].frm,y.procs[i].edges[0].to,y.procs[i].edges[0].guard,r7,y.procs[i].edges[0].value,y.procs[i].edges[0].sync⟩⟩⟩) H.sw2,Sy.Sm.set hy hi he ⟨heg,hev⟩,by omega,by omega⟩)
 by_cases c4:r6=4
 ·have H:=H.sw2
  obtain⟨uP,huP,H⟩:=HS.take H hi
  obtain⟨we,rfl,kl,H⟩:=H.unPr
  obtain⟨uE,huE,H⟩:=HS.take H he
  obtain⟨x1,x2,rfl,ok,H⟩:=H.unEd
  have hiaP:=HS.holeia H.sw3 (n:=2) (kd:=.i64) rfl hi
  have hPP:=hld_parts (cs:=[.int .i64 y.procs[i].locs,we]) (HS.holeP H.sw3 (n:=2) rfl rfl)
  have hiaE:iaV 10 we (.int .i64 0)=some (elp 10 we 0):=HS.holeia H.sw2 (n:=10) (kd:=.i64) rfl he
  simp -implicitDefEqProofs (disch:=first|omega|(simp only[LnZ];omega))[wrap64,c0,c1,c2,c3,c4,hiaP,hPP.1,hPP.2.2.1,hiaE]
  refine H.bls [(3:Int),-3,2,-9223372036854775808] rfl rfl (okL (by decide)) (by decide) fun q hq H=>?_
  have H:=H.sw5.sw1
  have hPP:=hld_parts (cs:=[.int .i64 y.procs[i].locs,we]) (HS.holeP H.sw5 (n:=2) rfl rfl)
  simp -implicitDefEqProofs (disch:=first|omega|(simp only[LnZ];omega))[wrap64,hiaP,hPP.1,hPP.2.2.1,hiaE]
  refine (c_num R H (by omega) (by omega) (by simp)).go ?_
  rintro _ h4 ⟨r7,rfl,o7,_,H⟩
  have hPP:=hld_parts (cs:=[.int .i64 y.procs[i].locs,we]) (HS.holeP H.sw4 (n:=2) rfl rfl)
  have hPE:=hld_parts (HS.holeP H.sw3 (n:=10) rfl rfl)
  simp -implicitDefEqProofs (disch:=first|omega|(simp only[LnZ];omega))[wrap64,hiaP,hPP.1,hPP.2.2.1,hiaE,hPE.1]
  refine HS.holest H.sw3 rfl (n:=10) rfl rfl rfl rfl rfl (by decide) fun h5 H=>?_
  have H:HS g (hole we y.procs[i].edges 0 (.agg (Ed.cs ⟨y.procs[i].edges[0].frm,y.procs[i].edges[0].to,y.procs[i].edges[0].guard,y.procs[i].edges[0].var,y.procs[i].edges[0].value,r7⟩ x1 x2).toArray)::rb b sl (p1+1+1)::ow x1 y.procs[i].edges[0].guard.kids::ow x2 y.procs[i].edges[0].value.kids::hole w y.procs i (.agg #[.int .i64 y.procs[i].locs,we])::ow wi y.init::Γ) h5:=H
  have H:=HS.put (HS.mkEd (e:=⟨y.procs[i].edges[0].frm,y.procs[i].edges[0].to,y.procs[i].edges[0].guard,y.procs[i].edges[0].var,y.procs[i].edges[0].value,r7⟩) H.sw3.sw3 ⟨ok.frm,ok.to,ok.gk,ok.gv,ok.var,ok.vk,ok.vv,o7⟩)
  have H:=HS.put ((HS.mkPr (p:=⟨y.procs[i].locs,y.procs[i].edges.set 0 ⟨y.procs[i].edges[0].frm,y.procs[i].edges[0].to,y.procs[i].edges[0].guard,y.procs[i].edges[0].var,y.procs[i].edges[0].value,r7⟩⟩) H kl).under fun _ H=>H.sw1)
  have hOi:=H.sw2.rep.one
  have hCi:=H.sw2.rep.cells
  have hOw:=H.rep.one
  have hCw:=H.rep.cells
  simp -implicitDefEqProofs (disch:=first|omega|(simp only[LnZ];omega))[wrap64,setC,hOi,hCi,hOw,hCw]
  exact RetK.keep (hk _ _ ⟨_,_,HS.mkSy (s:=⟨y.init,y.procs.set i ⟨y.procs[i].locs,y.procs[i].edges.set 0 ⟨y.procs[i].edges[0].frm,y.procs[i].edges[0].to,y.procs[i].edges[0].guard,y.procs[i].edges[0].var,y.procs[i].edges[0].value,r7⟩⟩⟩) H.sw2,Sy.Sm.set hy hi he ⟨heg,hev⟩,by omega,by omega⟩)
 by_cases c5:r6=5
 ·have H:=H.sw2
  obtain⟨uP,huP,H⟩:=HS.take H hi
  obtain⟨we,rfl,kl,H⟩:=H.unPr
  obtain⟨uE,huE,H⟩:=HS.take H he
  obtain⟨x1,x2,rfl,ok,H⟩:=H.unEd
  have hiaP:=HS.holeia H.sw3 (n:=2) (kd:=.i64) rfl hi
  have hPP:=hld_parts (cs:=[.int .i64 y.procs[i].locs,we]) (HS.holeP H.sw3 (n:=2) rfl rfl)
  have hiaE:iaV 10 we (.int .i64 0)=some (elp 10 we 0):=HS.holeia H.sw2 (n:=10) (kd:=.i64) rfl he
  simp -implicitDefEqProofs (disch:=first|omega|(simp only[LnZ];omega))[wrap64,c0,c1,c2,c3,c4,c5,hiaP,hPP.1,hPP.2.2.1,hiaE]
  refine H.bls [(-1:Int),4,0,9223372036854775807] rfl rfl (okL (by decide)) (by decide) fun q hq H=>?_
  have H:=H.sw5.sw1
  have hPP:=hld_parts (cs:=[.int .i64 y.procs[i].locs,we]) (HS.holeP H.sw5 (n:=2) rfl rfl)
  simp -implicitDefEqProofs (disch:=first|omega|(simp only[LnZ];omega))[wrap64,hiaP,hPP.1,hPP.2.2.1,hiaE]
  refine (c_num R H (by omega) (by omega) (by simp)).go ?_
  rintro _ h4 ⟨r7,rfl,o7,_,H⟩
  have hPP:=hld_parts (cs:=[.int .i64 y.procs[i].locs,we]) (HS.holeP H.sw4 (n:=2) rfl rfl)
  have hPE:=hld_parts (HS.holeP H.sw3 (n:=10) rfl rfl)
  simp -implicitDefEqProofs (disch:=first|omega|(simp only[LnZ];omega))[wrap64,hiaP,hPP.1,hPP.2.2.1,hiaE,hPE.1]
  refine HS.holest H.sw3 rfl (n:=10) rfl rfl rfl rfl rfl (by decide) fun h5 H=>?_
  have H:HS g (hole we y.procs[i].edges 0 (.agg (Ed.cs ⟨y.procs[i].edges[0].frm,r7,y.procs[i].edges[0].guard,y.procs[i].edges[0].var,y.procs[i].edges[0].value,y.procs[i].edges[0].sync⟩ x1 x2).toArray)::rb b sl (p1+1+1)::ow x1 y.procs[i].edges[0].guard.kids::ow x2 y.procs[i].edges[0].value.kids::hole w y.procs i (.agg #[.int .i64 y.procs[i].locs,we])::ow wi y.init::Γ) h5:=H
  have H:=HS.put (HS.mkEd (e:=⟨y.procs[i].edges[0].frm,r7,y.procs[i].edges[0].guard,y.procs[i].edges[0].var,y.procs[i].edges[0].value,y.procs[i].edges[0].sync⟩) H.sw3.sw3 ⟨ok.frm,o7,ok.gk,ok.gv,ok.var,ok.vk,ok.vv,ok.sync⟩)
  have H:=HS.put ((HS.mkPr (p:=⟨y.procs[i].locs,y.procs[i].edges.set 0 ⟨y.procs[i].edges[0].frm,r7,y.procs[i].edges[0].guard,y.procs[i].edges[0].var,y.procs[i].edges[0].value,y.procs[i].edges[0].sync⟩⟩) H kl).under fun _ H=>H.sw1)
  have hOi:=H.sw2.rep.one
  have hCi:=H.sw2.rep.cells
  have hOw:=H.rep.one
  have hCw:=H.rep.cells
  simp -implicitDefEqProofs (disch:=first|omega|(simp only[LnZ];omega))[wrap64,setC,hOi,hCi,hOw,hCw]
  exact RetK.keep (hk _ _ ⟨_,_,HS.mkSy (s:=⟨y.init,y.procs.set i ⟨y.procs[i].locs,y.procs[i].edges.set 0 ⟨y.procs[i].edges[0].frm,r7,y.procs[i].edges[0].guard,y.procs[i].edges[0].var,y.procs[i].edges[0].value,y.procs[i].edges[0].sync⟩⟩⟩) H.sw2,Sy.Sm.set hy hi he ⟨heg,hev⟩,by omega,by omega⟩)
 by_cases c6:r6=6
 ·simp -implicitDefEqProofs (disch:=first|omega|(simp only[LnZ];omega))[wrap64,c0,c1,c2,c3,c4,c5,c6,setC]
  exact RetK.keep (hk _ _ ⟨⟨[],[]⟩,p1+1,HS.mkSy (s:=⟨[],[]⟩) (H.sw2.drop.sw1.drop.nil_ow.nil_ow),⟨by simp,by simp,by simp⟩,by omega,by omega⟩)
 ·simp -implicitDefEqProofs (disch:=first|omega|(simp only[LnZ];omega))[wrap64,c0,c1,c2,c3,c4,c5,c6,setC,hOi,hCi,hOw,hCw]
  exact RetK.keep (hk _ _ ⟨y,_,HS.mkSy H.sw2.sw2,hy,by omega,by omega⟩)
def Ed.rdy (e:Ed) (st:Sta) (i:Nat):Bool:=decide (st.locs.getD i 0=e.frm∧e.guard.ev st.vals≠0)
def prt2 (st:Sta) (i k:Nat) (c:Int) (j:Nat) (x:Ed×Nat):List Stp:=if j≠i∧x.1.sync = -c∧x.1.rdy st j=true then [⟨i,k,j,x.2⟩] else []
def prt1 (st:Sta) (i k:Nat) (c:Int) (x:Pr×Nat):List Stp:=x.1.edges.zipIdx.flatMap (prt2 st i k c x.2)
def prt (s:Sy) (st:Sta) (i k:Nat) (c:Int):List Stp:=s.procs.zipIdx.flatMap (prt1 st i k c)
def enb2 (s:Sy) (st:Sta) (i:Nat) (x:Ed×Nat):List Stp:=if x.1.sync<0∨x.1.rdy st i=false then [] else if x.1.sync=0 then [⟨i,x.2,-1,-1⟩] else prt s st i x.2 x.1.sync
def enb1 (s:Sy) (st:Sta) (x:Pr×Nat):List Stp:=x.1.edges.zipIdx.flatMap (enb2 s st x.2)
def enb (s:Sy) (st:Sta):List Stp:=s.procs.zipIdx.flatMap (enb1 s st)
def Sta.tk (st:Sta) (i:Nat) (e:Ed):Sta:=⟨st.locs.set i e.to,if 0≤e.var then st.vals.set e.var.toNat (e.value.ev st.vals) else st.vals⟩
def Sy.ed (s:Sy) (i k:Nat):Ed:=(s.procs.getD i ⟨0,[]⟩).edges.getD k ⟨0,0,Exq.zero,0,Exq.zero,0⟩
def Sta.aft (s:Sy) (st:Sta) (t:Stp):Sta:=if 0≤t.partner then (st.tk t.proc.toNat (s.ed t.proc.toNat t.edge.toNat)).tk t.partner.toNat (s.ed t.partner.toNat t.pedge.toNat) else st.tk t.proc.toNat (s.ed t.proc.toNat t.edge.toNat)
def fx (xs:List Sta) (st:Sta):Int:=match xs.findIdx? (fun y=>decide (y=st)) with | some i=>(i:Int) | none=>-1
theorem fx_mem {xs:List Sta}{st:Sta}(h:st∈xs):∃(i:Nat) (hi:i<xs.length),fx xs st=i∧xs[i]=st:=by
 obtain⟨i,hi⟩:∃i,xs.findIdx? (fun y=>decide (y=st))=some i:=by
  rcases hf:xs.findIdx? (fun y=>decide (y=st)) with _ | i
  ·rw[List.findIdx?_eq_none_iff] at hf
   have:=hf st h
   simp at this
  ·exact⟨i,rfl⟩
 have h2:=hi
 rw[List.findIdx?_eq_some_iff_getElem] at h2
 obtain⟨h3,h4,_⟩:=h2
 exact⟨i,h3,by rw[fx,hi],by simpa using h4⟩
def adS (xs:List Sta) (st:Sta):List Sta:=if st∈xs then xs else xs++[st]
def atS (xs:List Sta) (st:Sta):Int:=if st∈xs then fx xs st else xs.length
def adI (l:List Int) (n:Int):List Int:=if n∈l then l else l++[n]
def g1 (p:List Sta×List Int) (st:Sta):List Sta×List Int:=(adS p.1 st,adI p.2 (atS p.1 st))
theorem mem_adI {l:List Int}{n x:Int}:x∈adI l n↔x∈l∨x=n:=by
 unfold adI
 split
 ·constructor
  ·exact .inl
  ·rintro (h | rfl)<;>assumption
 ·simp
theorem adI_len {l:List Int}{n:Int}:(adI l n).length≤l.length+1:=by
 unfold adI;split<;>simp
theorem adI_ne {l:List Int}{n:Int}:adI l n≠[]:=by
 unfold adI
 split
 ·rename_i h;rintro rfl;simp at h
 ·simp
theorem adS_len {xs:List Sta}{st:Sta}:(adS xs st).length≤xs.length+1:=by
 unfold adS;split<;>simp
theorem adS_ge {xs:List Sta}{st:Sta}:xs.length≤(adS xs st).length:=by
 unfold adS;split<;>simp
theorem atS_rng {xs:List Sta}{st:Sta}:0≤atS xs st∧atS xs st<(adS xs st).length:=by
 unfold atS adS
 split
 ·rename_i h
  obtain⟨i,hi,e,_⟩:=fx_mem h
  omega
 ·simp;omega
def gF (s:Sy) (x:Sta) (n:Nat) (xs:List Sta):List Sta×List Int:=((enb s x).take n).foldl (fun p t=>g1 p (x.aft s t)) (xs,[])
structure GI (s:Sy) (xs:List Sta) (n:Nat) (p:List Sta×List Int):Prop where
 pre:∃t,p.1=xs++t
 ok:∀st∈p.1,st.Ok s
 rng:∀x∈p.2,0≤x∧x<p.1.length
 new:∀j:Nat,xs.length≤j→j<p.1.length→(j:Int)∈p.2
 l1:p.1.length≤xs.length+n
 l2:p.2.length≤n
 ne:1≤n→p.2≠[]
theorem GI.step {s:Sy}{xs:List Sta}{n:Nat}{p:List Sta×List Int}{st:Sta}(h:GI s xs n p) (hst:st.Ok s):GI s xs (n+1) (g1 p st):=by
 have hr:=atS_rng (xs:=p.1) (st:=st)
 have hl:=adS_len (xs:=p.1) (st:=st)
 have hg:=adS_ge (xs:=p.1) (st:=st)
 have hl2:=adI_len (l:=p.2) (n:=atS p.1 st)
 refine⟨?_,?_,?_,?_,?_,?_,fun _=>adI_ne⟩
 ·obtain⟨t,e⟩:=h.pre
  unfold g1 adS
  simp only
  split
  ·exact⟨t,e⟩
  ·exact⟨t++[st],by rw[e,List.append_assoc]⟩
 ·intro y hy
  simp only[g1,adS] at hy
  split at hy
  ·exact h.ok y hy
  ·simp only[List.mem_append,List.mem_singleton] at hy
   rcases hy with hy | rfl
   ·exact h.ok y hy
   ·exact hst
 ·intro x hx
  simp only[g1,mem_adI] at hx
  rcases hx with hx | rfl
  ·have:=h.rng x hx
   simp only[g1];omega
  ·exact hr
 ·intro j h1 h2
  simp only[g1] at h2 ⊢
  rw[mem_adI]
  by_cases hj:j<p.1.length
  ·exact .inl (h.new j h1 hj)
  ·right
   unfold adS at h2
   unfold atS
   split at h2
   ·omega
   ·rename_i q
    rw[if_neg q]
    simp at h2;omega
 ·have:=h.l1;simp only[g1];omega
 ·have:=h.l2;simp only[g1];omega
def nxS (i:Nat) (l:List Int):List Int:=if l=[] then [(i:Int)] else l
def rnd (s:Sy) (i:Nat) (g:Gr):Gr:=
 if h:i<g.states.length then ⟨(gF s g.states[i] (enb s g.states[i]).length g.states).1,g.next++[nxS i (gF s g.states[i] (enb s g.states[i]).length g.states).2]⟩ else g
def ini (s:Sy):Sta:=⟨List.replicate s.procs.length 0,s.init⟩
def gN (s:Sy):Nat→Gr
 | 0=>⟨[ini s],[]⟩
 | n+1=>rnd s n (gN s n)
def Gr.zero:Gr:=⟨[],[]⟩
def bgOk (s:Sy):Prop:=s.Ok∧(gN s 60).states.length≤60
noncomputable instance {s:Sy}:Decidable (bgOk s):=Classical.propDecidable _
theorem c_Equal_int {h:Heap}{a b:Value}{x y:List Int}(Ra:Rep h a x) (Rb:Rep h b y):CallE Tryz.prog fn_slices_Equal_S_int_int [a,b] h (fun u h'=>h'=h∧u=.bool (decide (x=y))):=by
 have hL:=Ra.lt
 refine CallE.gen fun k hk=>EN_slices_Equal_S_int_int rfl ?_
 by_cases hl:(x.length:Int)=y.length
 case neg=>
  simp -implicitDefEqProofs (disch:=first|omega|(simp only[LnZ];omega))[wrap64,Ra.len,Rb.len,hl]
  exact RetK.keep (hk _ _ ⟨rfl,by congr 1;rw[eq_comm,decide_eq_false_iff_not];intro e;subst e;exact hl rfl⟩)
 simp -implicitDefEqProofs (disch:=first|omega|(simp only[LnZ];omega))[wrap64,Ra.len,Rb.len,hl]
 refine wp_count x.length (fun i e h'=>e=[some a,some b,none,none,some (.int .i64 x.length),some (.int .i64 i)]∧h'=h∧x.take i=y.take i) ⟨by simp[hl],rfl,rfl⟩ ?_
 rintro J i _ h1 hJ hi ⟨rfl,rfl,hq⟩
 simp -implicitDefEqProofs (disch:=omega)[wrap64]
 refine IteW.mk (fun hlt=>?_) (fun hge=>?_)
 ·have hlx:i<x.length:=by omega
  have hly:i<y.length:=by omega
  by_cases he:x[i]=y[i]
  ·simp -implicitDefEqProofs (disch:=first|omega|(simp only[LnZ];omega))[wrap64,Ra.I,Rb.I,he]
   exact hJ _ _ hlx ⟨rfl,rfl,take_step hq hlx hly he⟩
  ·simp -implicitDefEqProofs (disch:=first|omega|(simp only[LnZ];omega))[wrap64,Ra.I,Rb.I,he]
   exact RetK.keep (hk _ _ ⟨rfl,by congr 1;rw[eq_comm,decide_eq_false_iff_not];intro e;subst e;exact he rfl⟩)
 ·simp -implicitDefEqProofs (disch:=omega)[wrap64]
  rw[List.take_of_length_le (by omega),List.take_of_length_le (by omega)] at hq
  exact RetK.keep (hk _ _ ⟨rfl,by simp[hq]⟩)
theorem c_EqualFunc_Edge {h:Heap}{a b fv:Value}{x y:List Ed}(Ra:Rep h a x) (Rb:Rep h b y) {f:FuncId}(hf:fnOf fv=some (f,[],[]))
  (hp:∀z∈x,∀{h:Heap}{a b:Value}{w:Ed},Rep h a z→Rep h b w→CallE Tryz.prog f [a,b] h (fun u h'=>h'=h∧u=.bool (decide (z=w)))) :
  CallE Tryz.prog fn_slices_EqualFunc_S_impl_Edge_S_impl_Edge_impl_Edge_impl_Edge [a,b,fv] h (fun u h'=>h'=h∧u=.bool (decide (x=y))):=by
 refine CallE.gen fun k hk=>EN_slices_EqualFunc_S_impl_Edge_S_impl_Edge_impl_Edge_impl_Edge rfl ?_
 have hL:=Ra.lt
 simp -implicitDefEqProofs (disch:=first|omega|(simp only[LnZ];omega))[wrap64,Ra.len,Rb.len]
 refine IteW.mkr (fun hne=>?_) (fun heq=>?_)
 ·simp -implicitDefEqProofs (disch:=omega)[wrap64]
  exact RetK.keep (hk _ _ ⟨rfl,by simp;rintro rfl;exact hne rfl⟩)
 simp -implicitDefEqProofs (disch:=first|omega|(simp only[LnZ];omega))[wrap64,Ra.len]
 refine wp_count x.length (fun i e h'=>h'=h∧e=[none,some b,some fv,none,none,none,none,some a,some (.int .i64 x.length),some (.int .i64 i)]∧x.take i=y.take i) ⟨rfl,by simp[heq],rfl⟩ ?_
 rintro J i _ _ hJ hi ⟨rfl,rfl,hxy⟩
 simp -implicitDefEqProofs (disch:=omega)[wrap64]
 refine IteW.mk (fun hlt=>?_) (fun hge=>?_)
 ·have hly:i<y.length:=by omega
  have hlx:i<x.length:=by omega
  obtain⟨u,hu,Ru⟩:=Ra.ld hlx
  obtain⟨w,hw,Rw⟩:=Rb.ld hly
  change hload _ (some (elp 10 a i)) (some 10)=some u at hu
  change hload _ (some (elp 10 b i)) (some 10)=some w at hw
  simp -implicitDefEqProofs (disch:=first|omega|(simp only[LnZ];omega))[wrap64,Ra.X (n:=10) rfl,Rb.X (n:=10) rfl,hu,hw,Ru.aEd,Rw.aEd,hf]
  refine (hp _ (List.getElem_mem hlx) Ru Rw).go ?_
  rintro _ _ ⟨rfl,rfl⟩
  simp -implicitDefEqProofs (disch:=omega)[wrap64]
  refine IteW.mkr (fun hne=>?_) (fun heq=>?_)
  ·simp -implicitDefEqProofs (disch:=omega)[wrap64]
   exact RetK.keep (hk _ _ ⟨rfl,by simp;rintro rfl;exact hne rfl⟩)
  simp -implicitDefEqProofs (disch:=omega)[wrap64]
  exact hJ _ _ hlx ⟨rfl,rfl,take_step hxy hlx hly heq⟩
 ·simp -implicitDefEqProofs (disch:=omega)[wrap64]
  refine RetK.keep (hk _ _ ⟨rfl,?_⟩)
  simp
  rw[List.take_of_length_le (by omega),List.take_of_length_le (by omega)] at hxy
  exact hxy
theorem c_EqualFunc_Process {h:Heap}{a b fv:Value}{x y:List Pr}(Ra:Rep h a x) (Rb:Rep h b y) {f:FuncId}(hf:fnOf fv=some (f,[],[]))
  (hp:∀z∈x,∀{h:Heap}{a b:Value}{w:Pr},Rep h a z→Rep h b w→CallE Tryz.prog f [a,b] h (fun u h'=>h'=h∧u=.bool (decide (z=w)))) :
  CallE Tryz.prog fn_slices_EqualFunc_S_impl_Process_S_impl_Process_impl_Process_impl_Process [a,b,fv] h (fun u h'=>h'=h∧u=.bool (decide (x=y))):=by
 refine CallE.gen fun k hk=>EN_slices_EqualFunc_S_impl_Process_S_impl_Process_impl_Process_impl_Process rfl ?_
 have hL:=Ra.lt
 simp -implicitDefEqProofs (disch:=first|omega|(simp only[LnZ];omega))[wrap64,Ra.len,Rb.len]
 refine IteW.mkr (fun hne=>?_) (fun heq=>?_)
 ·simp -implicitDefEqProofs (disch:=omega)[wrap64]
  exact RetK.keep (hk _ _ ⟨rfl,by simp;rintro rfl;exact hne rfl⟩)
 simp -implicitDefEqProofs (disch:=first|omega|(simp only[LnZ];omega))[wrap64,Ra.len]
 refine wp_count x.length (fun i e h'=>h'=h∧e=[none,some b,some fv,none,none,none,none,some a,some (.int .i64 x.length),some (.int .i64 i)]∧x.take i=y.take i) ⟨rfl,by simp[heq],rfl⟩ ?_
 rintro J i _ _ hJ hi ⟨rfl,rfl,hxy⟩
 simp -implicitDefEqProofs (disch:=omega)[wrap64]
 refine IteW.mk (fun hlt=>?_) (fun hge=>?_)
 ·have hly:i<y.length:=by omega
  have hlx:i<x.length:=by omega
  obtain⟨u,hu,Ru⟩:=Ra.ld hlx
  obtain⟨w,hw,Rw⟩:=Rb.ld hly
  change hload _ (some (elp 2 a i)) (some 2)=some u at hu
  change hload _ (some (elp 2 b i)) (some 2)=some w at hw
  simp -implicitDefEqProofs (disch:=first|omega|(simp only[LnZ];omega))[wrap64,Ra.X (n:=2) rfl,Rb.X (n:=2) rfl,hu,hw,Ru.aPr,Rw.aPr,hf]
  refine (hp _ (List.getElem_mem hlx) Ru Rw).go ?_
  rintro _ _ ⟨rfl,rfl⟩
  simp -implicitDefEqProofs (disch:=omega)[wrap64]
  refine IteW.mkr (fun hne=>?_) (fun heq=>?_)
  ·simp -implicitDefEqProofs (disch:=omega)[wrap64]
   exact RetK.keep (hk _ _ ⟨rfl,by simp;rintro rfl;exact hne rfl⟩)
  simp -implicitDefEqProofs (disch:=omega)[wrap64]
  exact hJ _ _ hlx ⟨rfl,rfl,take_step hxy hlx hly heq⟩
 ·simp -implicitDefEqProofs (disch:=omega)[wrap64]
  refine RetK.keep (hk _ _ ⟨rfl,?_⟩)
  simp
  rw[List.take_of_length_le (by omega),List.take_of_length_le (by omega)] at hxy
  exact hxy
theorem Ed.ext_iff2 {a b:Ed}:a=b↔a.frm=b.frm∧a.to=b.to∧a.guard=b.guard∧a.var=b.var∧a.value=b.value∧a.sync=b.sync:=by
 cases a;cases b;simp
theorem c_Edge_same {h:Heap}{v w:Value}{a b:Ed}(Ra:Rep h v a) (Rb:Rep h w b):CallE Tryz.prog fn_impl_Edge_same [v,w] h (fun u h'=>h'=h∧u=.bool (decide (a=b))):=by
 obtain⟨v1,v2,rfl,ok,R1,R2⟩:=Rep_Ed.1 Ra
 obtain⟨w1,w2,rfl,ok2,S1,S2⟩:=Rep_Ed.1 Rb
 have hO1:=R1.one
 have hO2:=R2.one
 have hO3:=S1.one
 have hO4:=S2.one
 refine CallE.gen fun k hk=>EN_impl_Edge_same rfl ?_
 have hno:¬a=b→k (.bool false) h:=fun hn=>hk _ _ ⟨rfl,by simp[hn]⟩
 by_cases q1:a.frm=b.frm
 case neg=>
  simp -implicitDefEqProofs (disch:=first|omega|(simp only[LnZ];omega))[wrap64,Ed.cs,setC,hO1,hO2,hO3,hO4,q1]
  exact RetK.keep (hno fun e=>q1 (e▸rfl))
 by_cases q2:a.to=b.to
 case neg=>
  simp -implicitDefEqProofs (disch:=first|omega|(simp only[LnZ];omega))[wrap64,Ed.cs,setC,hO1,hO2,hO3,hO4,q1,q2]
  exact RetK.keep (hno fun e=>q2 (e▸rfl))
 simp -implicitDefEqProofs (disch:=first|omega|(simp only[LnZ];omega))[wrap64,Ed.cs,setC,hO1,hO2,hO3,hO4,q1,q2]
 refine (c_ExprSame (Rep.gd (w2:=v2) ok R1) (Rep.gd (w2:=w2) ok2 S1)).go ?_
 rintro _ h ⟨rfl,rfl⟩
 by_cases q3:a.guard=b.guard
 case neg=>
  simp -implicitDefEqProofs (disch:=first|omega|(simp only[LnZ];omega))[wrap64,q3]
  exact RetK.keep (hno fun e=>q3 (e▸rfl))
 by_cases q4:a.var=b.var
 case neg=>
  simp -implicitDefEqProofs (disch:=first|omega|(simp only[LnZ];omega))[wrap64,q3,q4]
  exact RetK.keep (hno fun e=>q4 (e▸rfl))
 simp -implicitDefEqProofs (disch:=first|omega|(simp only[LnZ];omega))[wrap64,q3,q4,setC,hO2,hO4]
 refine (c_ExprSame (Rep.vl ok R2) (Rep.vl ok2 S2)).go ?_
 rintro _ h ⟨rfl,rfl⟩
 by_cases q5:a.value=b.value
 case neg=>
  simp -implicitDefEqProofs (disch:=first|omega|(simp only[LnZ];omega))[wrap64,q5]
  exact RetK.keep (hno fun e=>q5 (e▸rfl))
 simp -implicitDefEqProofs (disch:=first|omega|(simp only[LnZ];omega))[wrap64,q5]
 exact RetK.keep (hk _ _ ⟨rfl,by simp[Ed.ext_iff2,q1,q2,q3,q4,q5]⟩)
theorem Pr.ext_iff2 {a b:Pr}:a=b↔a.locs=b.locs∧a.edges=b.edges:=by cases a;cases b;simp
theorem Sy.ext_iff2 {a b:Sy}:a=b↔a.init=b.init∧a.procs=b.procs:=by cases a;cases b;simp
theorem c_SystemSame_1 {h:Heap}{v w:Value}{a b:Pr}(Ra:Rep h v a) (Rb:Rep h w b):CallE Tryz.prog fn_impl_SystemSame_1 [v,w] h (fun u h'=>h'=h∧u=.bool (decide (a=b))):=by
 obtain⟨v1,rfl,k1,R1⟩:=Rep_Pr.1 Ra
 obtain⟨w1,rfl,k2,S1⟩:=Rep_Pr.1 Rb
 refine CallE.gen fun k hk=>EN_impl_SystemSame_1 rfl ?_
 by_cases q1:a.locs=b.locs
 case neg=>
  simp -implicitDefEqProofs (disch:=first|omega|(simp only[LnZ];omega))[wrap64,q1]
  exact RetK.keep (hk _ _ ⟨rfl,by simp[Pr.ext_iff2,q1]⟩)
 simp -implicitDefEqProofs (disch:=first|omega|(simp only[LnZ];omega))[wrap64,q1]
 refine (c_EqualFunc_Edge R1 S1 (f:=fn_impl_Edge_same) rfl (fun _ _ _ _ _ _ Ra Rb=>c_Edge_same Ra Rb)).go ?_
 rintro _ h ⟨rfl,rfl⟩
 simp -implicitDefEqProofs (disch:=omega)[wrap64]
 exact RetK.keep (hk _ _ ⟨rfl,by simp[Pr.ext_iff2,q1]⟩)
theorem c_SystemSame {h:Heap}{v w:Value}{a b:Sy}(Ra:Rep h v a) (Rb:Rep h w b):CallE Tryz.prog fn_impl_SystemSame [v,w] h (fun u h'=>h'=h∧u=.bool (decide (a=b))):=by
 obtain⟨v1,v2,rfl,R1,R2⟩:=Rep_Sy.1 Ra
 obtain⟨w1,w2,rfl,S1,S2⟩:=Rep_Sy.1 Rb
 refine CallE.gen fun k hk=>EN_impl_SystemSame rfl ?_
 simp -implicitDefEqProofs (disch:=omega)[wrap64]
 refine (c_Equal_int R1 S1).go ?_
 rintro _ h ⟨rfl,rfl⟩
 by_cases q1:a.init=b.init
 case neg=>
  simp -implicitDefEqProofs (disch:=first|omega|(simp only[LnZ];omega))[wrap64,q1]
  exact RetK.keep (hk _ _ ⟨rfl,by simp[Sy.ext_iff2,q1]⟩)
 simp -implicitDefEqProofs (disch:=first|omega|(simp only[LnZ];omega))[wrap64,q1]
 refine (c_EqualFunc_Process R2 S2 (f:=fn_impl_SystemSame_1) rfl (fun _ _ _ _ _ _ Ra Rb=>c_SystemSame_1 Ra Rb)).go ?_
 rintro _ h ⟨rfl,rfl⟩
 simp -implicitDefEqProofs (disch:=omega)[wrap64]
 exact RetK.keep (hk _ _ ⟨rfl,by simp[Sy.ext_iff2,q1]⟩)
def WrI (s:Sy) (W:List Bool):Prop:=W.length=3∧∀v:Nat,W.getD v false=true→∃p∈s.procs,∃e∈p.edges,0≤e.var∧e.var.toNat=v
theorem WrI.set {s:Sy}{W:List Bool}(h:WrI s W) {p:Pr}{e:Ed}(hp:p∈s.procs) (he:e∈p.edges) {x:Nat}(hx:e.var=x):WrI s (W.set x true):=by
 refine⟨by simpa using h.1,fun v hv=>?_⟩
 rw[List.getD_eq_getElem?_getD,List.getElem?_set] at hv
 split at hv
 ·rename_i e1
  exact⟨p,hp,e,he,by omega,by omega⟩
 ·rw[← List.getD_eq_getElem?_getD] at hv
  exact h.2 v hv
theorem slcTx0 {l:List UInt8}{k:IntKind}{b:Nat}(h2:b≤l.length):sliceSV (.string (Tx l)) none (some (some (.int k (b:Int))))=some (.string (Tx (l.take b))):=by
 unfold sliceSV
 simp only
 rw[bndN (n:=(Tx l).size) h2]
 simp only[bndV]
 rw[Tx_ext]
 rfl
theorem c_of {g h:Heap}{Γ:List HP}{b:Nat}{sl v:Value}{l:List (BitVec 8)}{p:Int}{xs:List ByteArray}(R:Rep g sl l) (H:HS g (ow v xs::rb b sl p::Γ) h) (hp:0≤p) (hp2:p<1099511627776) (hx:xs≠[]) :
  CallE Tryz.prog fn_spec_l16Rd_of [.pointer (some ⟨b,0,none⟩),v] h (fun u h'=>∃r∈xs,u=.string r∧HS g (rb b sl (p+1)::Γ) h'):=by
 have hL:=H.rep.lt
 have hpos:0<xs.length:=List.length_pos_iff.2 hx
 refine CallE.gen fun k hk=>EN_spec_l16Rd_of rfl ?_
 simp -implicitDefEqProofs (disch:=first|omega|(simp only[LnZ];omega))[wrap64,H.rep.len]
 refine (c_pick R H.sw1 hp hp2 ⟨by omega,by omega⟩).go ?_
 rintro _ h1 ⟨r,rfl,hr,hr0,hr1,H⟩
 obtain⟨i,rfl⟩:∃i:Nat,r=i:=⟨r.toNat,(Int.toNat_of_nonneg hr0).symm⟩
 have hi:i<xs.length:=by have:=hr1 (by omega);omega
 have hS:=H.sw1.rep.S
 simp -implicitDefEqProofs (disch:=first|omega|(simp only[LnZ];omega))[wrap64,hS]
 exact RetK.keep (hk _ _ ⟨xs[i],List.getElem_mem hi,rfl,H.sw1.drop⟩)
theorem c_l1Bend {g h:Heap}{Γ:List HP}{b:Nat}{sl v:Value}{l:List (BitVec 8)}{p:Int}{xs:List ByteArray}{t:List UInt8}(R:Rep g sl l) (H:HS g (ow v xs::rb b sl p::Γ) h) (hp:0≤p) (hp2:p+200≤1000000000000) (hx:xs≠[]) (hxs:∀x∈xs,x.size≤8) (ht:t.length≤1048000) :
  CallE Tryz.prog fn_spec_l1Bend [.pointer (some ⟨b,0,none⟩),.string (Tx t),v] h (fun u h'=>∃(t':List UInt8) (p':Int),u=.string (Tx t')∧HS g (rb b sl p'::Γ) h'∧t'.length≤t.length+8∧p≤p'∧p'≤p+10):=by
 refine CallE.gen fun k hk=>EN_spec_l1Bend rfl ?_
 by_cases q0:t=[]
 ·subst q0
  simp -implicitDefEqProofs (disch:=omega)[wrap64]
  exact RetK.keep (hk _ _ ⟨[],p,rfl,H.drop,by simp,by omega,by omega⟩)
 have hpos:0<t.length:=List.length_pos_iff.2 q0
 have q1:¬(t.length:Int)=0:=by omega
 have q2:¬t.length=0:=by omega
 simp -implicitDefEqProofs (disch:=first|omega|(simp only[LnZ];omega))[wrap64,q0,q1,q2]
 refine (c_pick (n:=2) R H.sw1 hp (by omega) ⟨by decide,by decide⟩).go ?_
 rintro _ h1 ⟨r1,rfl,_,_,_,H⟩
 by_cases c0:r1=0
 ·simp -implicitDefEqProofs (disch:=first|omega|(simp only[LnZ];omega))[wrap64,c0]
  exact RetK.keep (hk _ _ ⟨t,p+1,rfl,H.sw1.drop,by omega,by omega,by omega⟩)
 simp -implicitDefEqProofs (disch:=first|omega|(simp only[LnZ];omega))[wrap64,c0]
 refine (c_pick (n:=t.length) R H (by omega) (by omega) ⟨by omega,by omega⟩).go ?_
 rintro _ h2 ⟨r2,rfl,_,z2,y2,H⟩
 obtain⟨i,rfl⟩:∃i:Nat,r2=i:=⟨r2.toNat,(Int.toNat_of_nonneg z2).symm⟩
 have hi:i<t.length:=by have:=y2 (by omega);omega
 have e1:=slcTx0 (l:=t) (k:=.i64) (b:=i) (by omega)
 simp -implicitDefEqProofs (disch:=first|omega|(simp only[LnZ];omega))[wrap64,e1]
 refine (c_of R H.sw1 (by omega) (by omega) hx).go ?_
 rintro _ h3 ⟨r,hr,rfl,H⟩
 have hr8:=hxs r hr
 obtain⟨r,rfl⟩:∃r',r=Tx r':=⟨_,(Tx_eta r).symm⟩
 rw[Tx_size] at hr8
 have b1:(t.take i).length≤t.length:=by rw[List.length_take];omega
 simp -implicitDefEqProofs (disch:=first|omega|(simp only[LnZ];omega))[wrap64,e1]
 refine (c_pick (n:=2) R H (by omega) (by omega) ⟨by decide,by decide⟩).go ?_
 rintro _ h4 ⟨r3,rfl,q3,z3,y3,H⟩
 obtain⟨j,rfl⟩:∃j:Nat,r3=j:=⟨r3.toNat,(Int.toNat_of_nonneg z3).symm⟩
 have hj:=y3 (by decide)
 have e2:=slcTxE (l:=t) (k:=.i64) (a:=i+j) (by omega)
 rw[Int.natCast_add] at e2
 have b2:¬(9223372036854775807:Int)<(i:Int)+(r.length:Int)+((t.length-(i+j):Nat):Int):=by omega
 simp -implicitDefEqProofs (disch:=first|omega|(simp only[LnZ];omega))[wrap64,e1,e2,b2]
 exact RetK.keep (hk _ _ ⟨t.take i++(r++t.drop (i+j)),_,rfl,H,by simp only[List.length_append,List.length_take,List.length_drop];omega,by omega,by omega⟩)
theorem c_DrawSystemValidT {h:Heap}{v:Value}{l:List (BitVec 8)}(R:Rep h v l):CallE Tryz.prog fn_spec_DrawSystemValid [v] h (fun u h'=>∃(s:Sy),HS h [ow u s] h'):=by
 refine CallE.gen fun k hk=>EN_spec_DrawSystemValid rfl ?_
 simp -implicitDefEqProofs (disch:=omega)[wrap64]
 refine (c_l16Open R).go ?_
 rintro _ h1 ⟨b,sl,l',rfl,R',H⟩
 simp -implicitDefEqProofs (disch:=omega)[wrap64]
 refine (c_l2System R' H (by omega) (by omega)).go ?_
 rintro u h2 ⟨s,p1,H,hs,hp1,hp2⟩
 have FS:=H.rep.aSy
 simp -implicitDefEqProofs (disch:=first|omega|(simp only[LnZ];omega))[wrap64,FS]
 obtain⟨g1,H1,H2⟩:=HS.rebase (Δ:=[rb b sl p1]) H.sw1
 refine (c_l2Mutate (R'.on H1) H1.rep hs (by omega) (by omega) H2 (by omega) (by omega)).go ?_
 rintro x h3 ⟨y,p2,H3,hy,hp3,hp4⟩
 have H:=H3.app H1
 have FY:=H.rep.aSy
 simp -implicitDefEqProofs (disch:=first|omega|(simp only[LnZ];omega))[wrap64,FY,setC]
 exact RetK.keep (hk _ _ ⟨y,H.only⟩)
theorem c_DrawFormatSystem {h:Heap}{v:Value}{l:List (BitVec 8)}(R:Rep h v l):CallE Tryz.prog fn_spec_DrawFormatSystem [v] h (fun u h'=>∃(s:Sy),HS h [ow u s] h'):=by
 refine CallE.gen fun k hk=>EN_spec_DrawFormatSystem rfl ?_
 simp -implicitDefEqProofs (disch:=omega)[wrap64]
 refine (c_DrawSystemValidT R).go ?_
 rintro x h3 ⟨y,H⟩
 have FY:=H.rep.aSy
 simp -implicitDefEqProofs (disch:=first|omega|(simp only[LnZ];omega))[wrap64,FY,setC]
 exact RetK.keep (hk _ _ ⟨y,H⟩)
theorem Sy.fmt_len {s:Sy}:(if s.Ok then s.fmt else []).length≤2662:=by
 split
 ·rename_i h
  have h1:=rows_len (s.lns_ok h)
  have h2:=lns_len h
  have h3:s.lns.length*121≤22*121:=Nat.mul_le_mul_right _ h2
  show (rows s.lns).length≤_
  omega
 ·simp
theorem c_DrawParseSystem {h:Heap}{v:Value}{l:List (BitVec 8)}(R:Rep h v l):CallE Tryz.prog fn_spec_DrawParseSystem [v] h (fun u h'=>∃t:List UInt8,u=.string (Tx t)∧h.le h'∧t.length≤10000):=by
 refine CallE.gen fun k hk=>EN_spec_DrawParseSystem rfl ?_
 simp -implicitDefEqProofs (disch:=omega)[wrap64]
 refine (c_l16Open R).go ?_
 rintro _ h1 ⟨b,sl,l',rfl,R',H⟩
 simp -implicitDefEqProofs (disch:=omega)[wrap64]
 refine (c_l2System R' H (by omega) (by omega)).go ?_
 rintro u h2 ⟨s,p1,H,hs,hp1,hp2⟩
 have FS:=H.rep.aSy
 have hfl:=s.fmt_len
 simp -implicitDefEqProofs (disch:=first|omega|(simp only[LnZ];omega))[wrap64,FS,setC]
 refine (c_spec_FormatSystem H.rep).go ?_
 rintro _ h4 ⟨l4,rfl⟩
 have H:=(H.le l4).drop
 generalize (if s.Ok then s.fmt else [])=t at *
 simp -implicitDefEqProofs (disch:=first|omega|(simp only[LnZ];omega))[wrap64,FS]
 refine HS.bls H [Tx [],Tx [32],Tx [10],Tx [45],Tx [49],Tx [120],Tx [101,100,103,101],Tx [63]] rfl rfl (by simp[Flat.ok]) (by decide) fun q hq H=>?_
 simp -implicitDefEqProofs (disch:=omega)[wrap64]
 refine (c_l1Bend R' H (by omega) (by omega) (by decide) (by decide) (by omega)).go ?_
 rintro _ h5 ⟨t',p3,rfl,H,hl3,hp5,hp6⟩
 simp -implicitDefEqProofs (disch:=omega)[wrap64]
 exact RetK.keep (hk _ _ ⟨t',rfl,H.base,by omega⟩)
theorem dg_inj {a b:Int}(ha:0≤a∧a≤9) (hb:0≤b∧b≤9) (h:dg a=dg b):a=b:=by
 have h1:=dg_int ha.1 ha.2
 have h2:=dg_int hb.1 hb.2
 rw[h] at h1
 omega
theorem Exq.fmt_inj {a b:Exq}(ha:a.Ok) (hb:b.Ok) (h:a.fmt=b.fmt):a=b:=by
 have h1:=rdE_fmt ha
 rw[h,rdE_fmt hb] at h1
 exact (Option.some.inj h1).symm
theorem syn_inj {a b:Int}(ha:-2≤a∧a≤2) (hb:-2≤b∧b≤2) (h:syn a=syn b):a=b:=by
 have e1:a = -2∨a = -1∨a=0∨a=1∨a=2:=by omega
 have e2:b = -2∨b = -1∨b=0∨b=1∨b=2:=by omega
 rcases e1 with rfl | rfl | rfl | rfl | rfl<;>rcases e2 with rfl | rfl | rfl | rfl | rfl<;>first | rfl | exact absurd h (by decide)
theorem Ed.ws_inj {a b:Ed}{n m:Int}(ha:a.Ok n) (hb:b.Ok m) (h:(Ln.edg a).ws=(Ln.edg b).ws):a=b:=by
 simp only[Ln.ws,List.cons.injEq,and_true,true_and] at h
 obtain⟨h1,h2,h3,h4,h5⟩:=h
 have va:a.var=b.var∧a.value=b.value:=by
  have a0:=ha.v0
  have a1:=ha.v1
  have b0:=hb.v0
  have b1:=hb.v1
  unfold Ed.asg at h4
  rcases ha.vl with ⟨p,q⟩ | ⟨p,q⟩<;>rcases hb.vl with ⟨p',q'⟩ | ⟨p',q'⟩
  ·rw[if_neg (by omega),if_neg (by omega)] at h4
   simp only[List.cons.injEq,true_and] at h4
   have e1:(UInt8.ofNat (120+a.var.toNat)).toNat=120+a.var.toNat:=by rw[UInt8.toNat_ofNat'];omega
   have e2:(UInt8.ofNat (120+b.var.toNat)).toNat=120+b.var.toNat:=by rw[UInt8.toNat_ofNat'];omega
   rw[h4.1] at e1
   exact⟨by omega,Exq.fmt_inj q q' h4.2⟩
  ·rw[if_neg (by omega),if_pos p'] at h4
   simp at h4
  ·rw[if_pos p,if_neg (by omega)] at h4
   simp at h4
  ·exact⟨by omega,by rw[q,q']⟩
 have n4:=ha.n4
 have m4:=hb.n4
 exact Ed.ext_iff'.2 ⟨dg_inj ⟨ha.f0,by have:=ha.f1;omega⟩ ⟨hb.f0,by have:=hb.f1;omega⟩ h1,dg_inj ⟨ha.t0,by have:=ha.t1;omega⟩ ⟨hb.t0,by have:=hb.t1;omega⟩ h2,Exq.fmt_inj ha.gd hb.gd h3,va.1,va.2,syn_inj ⟨ha.s0,ha.s1⟩ ⟨hb.s0,hb.s1⟩ h5⟩
theorem map_inj_on {α β:Type}{f:α→β}:∀{l m:List α},(∀x∈l,∀y∈m,f x=f y→x=y)→l.map f=m.map f→l=m
 | [],[],_,_=>rfl
 | [],_::_,_,h=>by simp at h
 | _::_,[],_,h=>by simp at h
 | x::l,y::m,hf,h=>by
  rw[List.map_cons,List.map_cons] at h
  obtain⟨h1,h2⟩:=List.cons.inj h
  rw[hf x (by simp) y (by simp) h1,map_inj_on (fun a ha b hb=>hf a (List.mem_cons_of_mem _ ha) b (List.mem_cons_of_mem _ hb)) h2]
theorem Ln.ws_inj {a b:Ln}(ha:a.Ok) (hb:b.Ok) (h:a.ws=b.ws):a=b:=by
 cases a with
 | sys l=>
  cases b with
  | sys m=>
   have ha:VOk l:=ha
   have hb:VOk m:=hb
   have h:=(List.cons.inj h).2
   rw[map_inj_on (fun x hx y hy e=>dg_inj ⟨(ha.2 x hx).1,by have:=(ha.2 x hx).2;omega⟩ ⟨(hb.2 y hy).1,by have:=(hb.2 y hy).2;omega⟩ (List.cons.inj e).1) h]
  | prc m=>exact absurd (List.cons.inj h).1 (by decide)
  | edg e=>exact absurd (List.cons.inj h).1 (by decide)
 | prc n=>
  cases b with
  | sys m=>exact absurd (List.cons.inj h).1 (by decide)
  | prc m=>
   have ha:1≤n∧n≤4:=ha
   have hb:1≤m∧m≤4:=hb
   have h:[wPrc,[dg n]]=[wPrc,[dg m]]:=h
   simp only[List.cons.injEq,and_true,true_and] at h
   rw[dg_inj ⟨by omega,by omega⟩ ⟨by omega,by omega⟩ h]
  | edg e=>exact absurd (List.cons.inj h).1 (by decide)
 | edg e=>
  cases b with
  | sys m=>exact absurd (List.cons.inj h).1 (by decide)
  | prc m=>exact absurd (List.cons.inj h).1 (by decide)
  | edg f=>
   obtain⟨n,ha⟩:=ha
   obtain⟨m,hb⟩:=hb
   rw[Ed.ws_inj ha hb h]
theorem Sy.fmt_inj {a b:Sy}(ha:a.Ok) (hb:b.Ok) (h:a.fmt=b.fmt):a=b:=by
 have h1:=Sy.fmt_spl2 ha
 rw[h,Sy.fmt_spl2 hb] at h1
 have h2:=List.append_cancel_right h1
 have h3:b.lns=a.lns:=map_inj_on (fun x hx y hy e=>by
  have h4:=Ln.row_spl (b.lns_ok hb x hx)
  rw[e,Ln.row_spl (a.lns_ok ha y hy)] at h4
  exact Ln.ws_inj (b.lns_ok hb x hx) (a.lns_ok ha y hy) h4.symm) h2
 rw[← Sy.lns_ap a,← Sy.lns_ap b,h3]
theorem psY_fmt {s:Sy}:psY (if s.Ok then s.fmt else [])=if s.Ok then some s else none:=by
 by_cases h:s.Ok
 ·rw[if_pos h,if_pos h]
  cases e:psY s.fmt with
  | none=>exact absurd rfl (psY_none e s h)
  | some y=>
   obtain⟨h1,h2⟩:=psY_some e
   rw[Sy.fmt_inj h1 h h2]
 ·rw[if_neg h,if_neg h]
  cases e:psY [] with
  | none=>rfl
  | some y=>exact absurd (psY_some e).2 fmt_ne
set_option maxHeartbeats 2000000 in
theorem c_FnSystemText {h:Heap}{v w:Value}{l m:List (BitVec 8)}(R:Rep h v l) (RM:Rep h w m) (GM:Gm h) (GL:Gl h):CallE Tryz.prog fn_laws_FnSystemText [v,w] h (fun u h'=>h.le h'∧u=.bool true):=by
 refine CallE.gen fun k hk=>EN_laws_FnSystemText rfl ?_
 by_cases a1:(1048576:Int)<l.length
 ·simp -implicitDefEqProofs (disch:=first|omega|(simp only[LnZ];omega))[wrap64,R.len,a1]
  exact RetK.keep (hk _ _ ⟨Heap.le.refl _,rfl⟩)
 by_cases a2:(1048576:Int)<m.length
 ·simp -implicitDefEqProofs (disch:=first|omega|(simp only[LnZ];omega))[wrap64,R.len,RM.len,a1,a2]
  exact RetK.keep (hk _ _ ⟨Heap.le.refl _,rfl⟩)
 simp -implicitDefEqProofs (disch:=first|omega|(simp only[LnZ];omega))[wrap64,R.len,RM.len,a1,a2]
 refine (c_DrawFormatSystem R).go ?_
 rintro u1 h1 ⟨s,H⟩
 have FS:=H.rep.aSy
 have hfl:=s.fmt_len
 have hps:=psY_fmt (s:=s)
 simp -implicitDefEqProofs (disch:=first|omega|(simp only[LnZ];omega))[wrap64,FS,setC]
 refine (c_FormatSystem H.rep (GL.le H.base)).go ?_
 rintro _ h2 ⟨l2,rfl⟩
 have H:=H.le l2
 obtain⟨t0,ht0⟩:∃t,t=(if s.Ok then s.fmt else []):=⟨_,rfl⟩
 rw[← ht0] at hfl hps
 rw[← ht0]
 simp -implicitDefEqProofs (disch:=first|omega|(simp only[LnZ];omega))[wrap64,FS,setC]
 refine (c_ParseSystem (by omega) (GM.le H.base) (GL.le H.base)).go ?_
 rintro _ h3 ⟨p,rfl,G⟩
 have H:=G.app H
 have FP:=H.rep.aSy
 simp -implicitDefEqProofs (disch:=first|omega|(simp only[LnZ];omega))[wrap64,FS,FP,setC]
 refine (c_spec_FormatSystem H.sw1.rep).go ?_
 rintro _ h4 ⟨l4,rfl⟩
 have H:=H.le l4
 rw[← ht0]
 simp -implicitDefEqProofs (disch:=first|omega|(simp only[LnZ];omega))[wrap64,FS,FP,setC]
 refine (c_spec_SystemValid H.sw1.rep).go ?_
 rintro _ h4 ⟨rfl,rfl⟩
 rw[hps] at *
 by_cases q:s.Ok
 ·rw[if_pos q] at *
  simp -implicitDefEqProofs (disch:=first|omega|(simp only[LnZ];omega))[wrap64,q,FS,FP,setC]
  refine (c_SystemSame H.rep H.sw1.rep).go ?_
  rintro _ h4 ⟨rfl,rfl⟩
  simp -implicitDefEqProofs (disch:=first|omega|(simp only[LnZ];omega))[wrap64,FS,FP,setC]
  refine (c_DrawParseSystem (RM.le H.base)).go ?_
  rintro _ h5 ⟨t,rfl,l5,ht⟩
  have H:=H.le l5
  simp -implicitDefEqProofs (disch:=omega)[wrap64]
  refine (c_ParseSystem (by omega) (GM.le H.base) (GL.le H.base)).go ?_
  rintro _ h6 ⟨p2,rfl,G⟩
  have H:=G.app H
  have FP2:=H.rep.aSy
  simp -implicitDefEqProofs (disch:=first|omega|(simp only[LnZ];omega))[wrap64,FP2,setC]
  refine (c_spec_ParseSystem (by omega)).go ?_
  rintro _ h7 ⟨p3,rfl,G⟩
  have H:=G.app H
  have FP3:=H.rep.aSy
  simp -implicitDefEqProofs (disch:=first|omega|(simp only[LnZ];omega))[wrap64,FP2,FP3,setC]
  refine (c_SystemSame H.sw1.rep H.rep).go ?_
  rintro _ h7 ⟨rfl,rfl⟩
  cases e:psY t with
  | none=>
   simp -implicitDefEqProofs (disch:=first|omega|(simp only[LnZ];omega))[wrap64,FP2,FP3,setC]
   exact RetK.keep (hk _ _ ⟨H.base,rfl⟩)
  | some s2=>
   obtain⟨k1,k2⟩:=psY_some e
   rw[e] at H
   simp -implicitDefEqProofs (disch:=first|omega|(simp only[LnZ];omega))[wrap64,FP2,FP3,setC]
   refine (c_FormatSystem (s:=s2) H.sw1.rep (GL.le H.base)).go ?_
   rintro _ h8 ⟨l8,rfl⟩
   rw[if_pos k1,k2]
   simp -implicitDefEqProofs (disch:=omega)[wrap64]
   exact RetK.keep (hk _ _ ⟨H.base.trans l8,rfl⟩)
 ·rw[if_neg q] at *
  simp -implicitDefEqProofs (disch:=first|omega|(simp only[LnZ];omega))[wrap64,q,FS,FP,setC]
  refine (c_DrawParseSystem (RM.le H.base)).go ?_
  rintro _ h5 ⟨t,rfl,l5,ht⟩
  have H:=H.le l5
  simp -implicitDefEqProofs (disch:=omega)[wrap64]
  refine (c_ParseSystem (by omega) (GM.le H.base) (GL.le H.base)).go ?_
  rintro _ h6 ⟨p2,rfl,G⟩
  have H:=G.app H
  have FP2:=H.rep.aSy
  simp -implicitDefEqProofs (disch:=first|omega|(simp only[LnZ];omega))[wrap64,FP2,setC]
  refine (c_spec_ParseSystem (by omega)).go ?_
  rintro _ h7 ⟨p3,rfl,G⟩
  have H:=G.app H
  have FP3:=H.rep.aSy
  simp -implicitDefEqProofs (disch:=first|omega|(simp only[LnZ];omega))[wrap64,FP2,FP3,setC]
  refine (c_SystemSame H.sw1.rep H.rep).go ?_
  rintro _ h7 ⟨rfl,rfl⟩
  cases e:psY t with
  | none=>
   simp -implicitDefEqProofs (disch:=first|omega|(simp only[LnZ];omega))[wrap64,FP2,FP3,setC]
   exact RetK.keep (hk _ _ ⟨H.base,rfl⟩)
  | some s2=>
   obtain⟨k1,k2⟩:=psY_some e
   rw[e] at H
   simp -implicitDefEqProofs (disch:=first|omega|(simp only[LnZ];omega))[wrap64,FP2,FP3,setC]
   refine (c_FormatSystem (s:=s2) H.sw1.rep (GL.le H.base)).go ?_
   rintro _ h8 ⟨l8,rfl⟩
   rw[if_pos k1,k2]
   simp -implicitDefEqProofs (disch:=omega)[wrap64]
   exact RetK.keep (hk _ _ ⟨H.base.trans l8,rfl⟩)
end Go.Proofs.YtjbjnicobdpdhaaGreatDoor
