/- Filters read from texts, in the program. -/
import Derived.Test.YtcligmgalcidpaaGreatDoorPwT21
import Derived.Test.YtcligmgalcidpaaGreatDoorPwT10
import Derived.Test.YtcligmgalcidpaaGreatDoorPwT11
import Derived.Test.YtcligmgalcidpaaGreatDoorPwT14
import Derived.Test.YtcligmgalcidpaaGreatDoorPwT12
import Derived.Test.YtcligmgalcidpaaGreatDoorPwT17
set_option linter.unusedSimpArgs false
set_option linter.unusedVariables false
set_option linter.unusedSectionVars false
set_option maxRecDepth 20000
namespace Go.Proofs.Pw
variable [Globs]
def Gt:X:=(.seq (.reg [xS 4 (.mv (xK 0))] none [0,1]) (.seq (.seq (.reg [xM 6 0,xS 7 (.len (.t 6) false),xS 8 (.mv (xK 0))] none [0,1,7,8]) (.block 0 (.loop (.seq (.reg [xS 9 (.bin false .lss (.t 8) (.t 7))] none [0,1,7,8,9]) (.seq (.cond (.t 9) .skip (.exit 0)) (.seq (.block 1 (.seq (.reg [xM 10 8,xM 5 10] none [0,1,5,7,8]) (.seq (.reg [xM 11 1,xM 12 0,xM 13 5,xS 14 (.ia (.t 12) (.t 13) 1),xL 15 14,xS 16 (.bin false .eql (.t 11) (.t 15))] none [0,1,5,7,8,16]) (.cond (.t 16) (.seq (.reg [xM 17 5,xM 4 17] none [4]) .ret) .skip)))) (.reg [xS 18 (.bin false .add (.t 8) (xK 1)),xM 8 18] none [0,1,7,8]))))))) (.seq (.reg [xS 4 (.mv (.k (.c (.int .i64 (-1)))))] none [4]) .ret)))
theorem UP:al Tryz.prog 19 (Tryz.f84.body.getD .skip) Gt=true:=by kernel_rfl
theorem UQ:am Tryz.prog Tryz.f84.results.toList [.tmp 4]=true:=by kernel_rfl
theorem UR:aw Tryz.prog 84=true:=by kernel_rfl
def jp:X:=(.seq (.reg [xS 2 (.alloc xF)] none [0,2]) (.seq (.block 0 (.seq (.reg [xM 8 0,xS 9 (.call 80 [(.t 8),(.k (.c (.str ⟨#[61]⟩)))]),xM 7 9] none [0,2,7]) (.cond (.t 7) (.seq (.reg [xM 11 0,xS 12 (.sub (.t 11) (some (xK 1)) none 0),xS 13 (.call 81 [(.t 12)]),xM 10 13,xS 14 (.ext (.t 10) 0),xS 15 (.ext (.t 10) 1),xS 3 (.alloc xV),xW 3 14 5,xM 4 15] none [2,3]) (.seq (.reg [xS 16 (.load (.t 3) (some 5)),xS 17 (.build xF [(0,(xK 2),none),(3,(.t 16),(some 5))]),xW 2 17 9] none [2]) .ret)) (.seq (.reg [xM 19 0,xS 20 (.call 80 [(.t 19),(.k (.c (.str ⟨#[109,97,107,101,58]⟩)))]),xM 18 20] none [0,2,18]) (.cond (.t 18) (.seq (.reg [xM 21 0,xS 22 (.sub (.t 21) (some (xK 5)) none 0),xS 23 (.build xF [(0,(xK 21),none),(2,(.t 22),none)]),xW 2 23 9] none [2]) .ret) (.seq (.reg [xM 25 0,xS 26 (.len (.t 25) true),xS 27 (.bin false .gtr (.t 26) (xK 1)),xM 28 27,xG 29 28 (.mv (.t 0)),xG 30 28 (.idx (.t 29) (xK 0)),xG 31 28 (.bin false .eql (.t 30) (.k (.c (.int .u8 46)))),xS 32 (.pick (.t 28) (.t 31) (.k (.c (.bool false)))),xM 24 32] none [0,2,24]) (.cond (.t 24) (.seq (.reg [xM 33 0,xS 34 (.sub (.t 33) (some (xK 1)) none 0),xS 35 (.call 82 [(.t 34),(.k (.c (.str ⟨#[58]⟩)))]),xS 36 (.build xF [(0,(xK 3),none),(2,(.t 35),none)]),xW 2 36 9] none [2]) .ret) (.seq (.reg [xM 38 0,xS 39 (.len (.t 38) true),xS 40 (.bin false .gtr (.t 39) (xK 2)),xM 41 40,xG 42 41 (.mv (.t 0)),xG 43 41 (.idx (.t 42) (xK 0)),xG 44 41 (.bin false .eql (.t 43) (.k (.c (.int .u8 91)))),xS 45 (.pick (.t 41) (.t 44) (.k (.c (.bool false)))),xM 37 45] none [0,2,37]) (.cond (.t 37) (.seq (.reg [xM 47 0,xM 48 0,xS 49 (.len (.t 48) true),xS 50 (.bin false .sub (.t 49) (xK 1)),xS 51 (.sub (.t 47) (some (xK 1)) (some (.t 50)) 0),xS 52 (.call 83 [(.t 51)]),xM 46 52,xS 53 (.ext (.t 46) 0),xS 54 (.ext (.t 46) 1),xM 5 53,xM 6 54] none [2,5]) (.seq (.reg [xM 55 5,xS 56 (.build xF [(0,(xK 4),none),(1,(.t 55),none)]),xW 2 56 9] none [2]) .ret)) .skip))))))))) (.seq (.reg [xS 57 (.glb 0),xS 58 (.sub (.t 57) (some (xK 1)) none 1),xM 59 0,xS 60 (.call 84 [(.t 58),(.t 59)]),xS 61 (.bin false .add (.t 60) (xK 1)),xS 62 (.mm true (.t 61) (xK 0)),xS 63 (.build xF [(0,(.t 62),none)]),xW 2 63 9] none [2]) .ret)))
theorem US:al Tryz.prog 64 (Tryz.f51.body.getD .skip) jp=true:=by kernel_rfl
theorem UT:am Tryz.prog Tryz.f51.results.toList [.cell 2 (some 9)]=true:=by kernel_rfl
theorem UU:aw Tryz.prog 51=true:=by kernel_rfl
noncomputable def gB :Spec:=Spec.of (ι:=(List ByteArray) × ByteArray) [false,false] (fun i=>[.d (.one (.row 1 (aa i.1))),.d (.one (.str i.2))]) (fun i=>ab 140737488355328 i.1.length) (fun i=>[.d (.one (.int .i64 (bA i.2 0 i.1)))]) (fun _=>[.gone,.gone])
theorem rH:∀ i j:(List ByteArray) × ByteArray,(fun (i:(List ByteArray) × ByteArray)=>([.d (.one (.row 1 (aa i.1))),.d (.one (.str i.2))]:List AV)) i=(fun (i:(List ByteArray) × ByteArray)=>([.d (.one (.row 1 (aa i.1))),.d (.one (.str i.2))]:List AV)) j->i=j:=by
 rintro⟨l,x⟩ ⟨l',x'⟩ h
 simp only[Prod.mk.injEq]
 simpa [ap,T.enc_eq,aq,F.enc_eq,ar,Tk.enc_eq,au,Gn.enc_eq,ao,and_assoc] using h
theorem wS :(gB).md=[false,false]:=rfl
theorem wT  (l:List ByteArray) (x:ByteArray):(gB).pre [.d (.one (.row 1 (aa l))),.d (.one (.str x))]=(ab 140737488355328 l.length):=Spec.of_pre' rH (l,x)
theorem wU :(gB).alts=none:=rfl
theorem wV  (l:List ByteArray) (x:ByteArray):(gB).res [.d (.one (.row 1 (aa l))),.d (.one (.str x))]=[.d (.one (.int .i64 (bA x 0 l)))]:=Spec.of_res rH (l,x)
theorem wW  (l:List ByteArray) (x:ByteArray):(gB).out [.d (.one (.row 1 (aa l))),.d (.one (.str x))]=[.gone,.gone]:=Spec.of_out rH (l,x)
theorem UV:Sound Tryz.prog 84 gB:=by
 refine aQ GOK.nil Tryz.func84 (c:=Tryz.f84.body.getD .skip) rfl (n:=19) rfl UP UQ (fun _=>by simp) ?_ ?_
 ·exact rH
 ·rintro⟨l,x⟩ h2
  simp only[ab] at h2
  simp only[Gt,rg,go_sem,seval]
  repeat' (first|with_reducible assumption|with_reducible refine And.intro ?_ ?_|intro _)
  all_goals first|omega|assumption|skip
  refine aZ (ι:=Nat) (fun i=>l.length-i) (fun i=>i<=l.length/\bA x i (l.drop i)=bA x 0 l)
   (fun i=>⟨[(0,.q (.c (.row 1 (aa l)))),(1,.q (.c (.str x))),(7,.q (.c (.int .i64 l.length))),(8,.q (.c (.int .i64 i)))],[],[]⟩) 0 ⟨Nat.zero_le _,rfl⟩ (Le.refl _) ?_
  rintro i ⟨g1,g2⟩
  rcases Nat.lt_or_ge i l.length with hlt|hge
  ·obtain⟨y,hy,hd,hmem⟩:=aU hlt
   have b1:((i:Int) < (l.length:Int))=True:=eq_true (by omega)
   have a1:=dm hy
   rw[hd,bA] at g2
   simp only[rg,go_sem,seval,b1,a1]
   repeat' (first|with_reducible assumption|with_reducible refine And.intro ?_ ?_|intro _)
   all_goals first|omega|assumption|skip
   ·have h:x=y:=by assumption
    rw[<-g2,if_pos h]
   ·have h:¬ x=y:=by assumption
    rw[if_neg h] at g2
    exact⟨i+1,⟨by omega,g2⟩,by omega,Le.refl _⟩
  ·obtain rfl:i=l.length:=by omega
   have b1:((l.length:Int) < (l.length:Int))=False:=eq_false (by omega)
   rw[List.drop_length,bA] at g2
   simp only[rg,go_sem,seval,b1,<-g2]
def hdP (h:Hd):List Pt:=.c (.int .i64 h.1)::.c (.int .i64 h.2.1)::.c (.str h.2.2.1)::(h.2.2.2.enc.map .c++[.o 9 []])
theorem Gu (s:ByteArray) (a:Nat):s.extract a s.size=bL ((tL s).drop a):=by rw[<-vf];exact (iS _).symm
theorem wX:((aa wtab).take wtab.length).drop 1=aa wtab.tail:=rfl
theorem wY:(1:Int)<=(wtab.length:Int):=by decide
noncomputable def na :Spec:=Spec.of (ι:=ByteArray) [false] (fun i=>[.d (.one (.str i))]) (fun i=>ab 1000000 i.size) (fun i=>[.ag (hdP (hdI i))]) (fun _=>[.gone])
theorem rI:∀ i j:ByteArray,(fun (i:ByteArray)=>([.d (.one (.str i))]:List AV)) i=(fun (i:ByteArray)=>([.d (.one (.str i))]:List AV)) j->i=j:=by
 intro w w' h
 simpa [ap,T.enc_eq,aq,F.enc_eq,ar,Tk.enc_eq,au,Gn.enc_eq,ao,and_assoc] using h
theorem UW :(na).md=[false]:=rfl
theorem UX  (w:ByteArray):(na).pre [.d (.one (.str w))]=(ab 1000000 w.size):=Spec.of_pre' rI w
theorem UY :(na).alts=none:=rfl
theorem UZ  (w:ByteArray):(na).res [.d (.one (.str w))]=[.ag (hdP (hdI w))]:=Spec.of_res rI w
theorem Va  (w:ByteArray):(na).out [.d (.one (.str w))]=[.gone]:=Spec.of_out rI w
theorem Gv {w:ByteArray} {c:UInt8} {p:List UInt8} (h:(c::p).isPrefixOf (tL w)=true):(c::p).length<=w.size:=by
 have:=(List.isPrefixOf_iff_prefix.1 h).length_le
 rw[kj] at this;exact this
theorem rJ {w:ByteArray} {c:UInt8} (h:0 < w.size):(dW w 0=(c.toNat:Int))=((tL w)[0]?=some c):=by
 obtain⟨x,h1,h2,_,_⟩:=Db h
 rw[h1,h2]
 exact propext ⟨fun e=>congrArg some (UInt8.toNat_inj.1 (by omega)),fun e=>by rw[Option.some.inj e]⟩
set_option maxHeartbeats 2000000 in
theorem Vb (hE:dR) (hK:tabK) (hW:get? 0 Globs.G=some cf):Sound Tryz.prog 51 na:=by
 refine aQ (GOK.cons (l:=[(81,kG),(82,jo),(83,spAtoi),(84,gB)]) CV CW (GOK.cons (l:=[(82,jo),(83,spAtoi),(84,gB)]) Rz (RG hE hK) (GOK.cons (l:=[(83,spAtoi),(84,gB)]) UI UN (GOK.cons (l:=[(84,gB)]) CU (CZ hE) (GOK.cons UR UV GOK.nil))))) Tryz.func51 (c:=Tryz.f51.body.getD .skip) rfl (n:=64) rfl US UT (fun _=>by simp) ?_ ?_
 ·exact rI
 ·intro w h1
  change ab 1000000 w.size at h1
  simp only[ab] at h1
  have t1:tL ⟨#[61]⟩=[61]:=rfl
  have t2:tL ⟨#[109,97,107,101,58]⟩=[109,97,107,101,58]:=rfl
  have hl:=kj w
  have z0:T.zero.enc=[.int .i64 0,.int .i64 0,.str ⟨#[]⟩,.row 1 [],.row 5 []]:=rfl
  by_cases c1:[61].isPrefixOf (tL w)=true
  ·have k1:=Gv c1
   simp only[List.length_cons,List.length_nil] at k1
   have e:hdI w=(2,0,⟨#[]⟩,cl (bL ((tL w).drop 1))):=by unfold hdI;rw[if_pos c1]
   rw[<-Gu] at e
   have fl:=T.enc_len (cl (w.extract 1 w.size))
   generalize hv:cl (w.extract 1 w.size)=v at *
   obtain⟨vk,vn,vs,vks,vl⟩:=v
   simp only[jp,rg,go_sem,seval,Prod.fst,t1,c1,e,hdP,hv,T.enc,Int.toNat_one,hO,hU,gj,gk,gn,RA,RB,Ew,Ey,Ez]
   repeat' (first|with_reducible assumption|with_reducible refine And.intro ?_ ?_|intro _)
   all_goals first|omega|(unfold ab;rw[ByteArray.size_extract];omega)|skip
  have c1:[61].isPrefixOf (tL w)=false:=Bool.not_eq_true _ |>.mp c1
  by_cases c2:[109,97,107,101,58].isPrefixOf (tL w)=true
  ·have k1:=Gv c2
   simp only[List.length_cons,List.length_nil] at k1
   have e:hdI w=(21,0,bL ((tL w).drop 5),T.zero):=by unfold hdI;rw[c1,if_neg (by simp),if_pos c2]
   rw[<-Gu] at e
   simp only[jp,rg,go_sem,seval,Prod.fst,t1,t2,c1,c2,e,hdP,z0,hO,hU,gj,gk,gn]
   repeat' (first|with_reducible assumption|with_reducible refine And.intro ?_ ?_|intro _)
   all_goals first|omega|(unfold ab;omega)|skip
  have c2:[109,97,107,101,58].isPrefixOf (tL w)=false:=Bool.not_eq_true _ |>.mp c2
  have e12:∀ x:Hd,(if [61].isPrefixOf (tL w) then (2,0,⟨#[]⟩,cl (bL ((tL w).drop 1))) else if [109,97,107,101,58].isPrefixOf (tL w) then (21,0,bL ((tL w).drop 5),T.zero) else x)=x:=fun x=>by rw[c1,c2];rfl
  have z1:(0:Int).toNat=0:=rfl
  have t3:tL ⟨#[58]⟩=[58]:=rfl
  have hr:=uk (x:=w) (l:=wtab.tail) (i:=0)
  have hr2:bA w 0 wtab.tail < 21:=by have:=hr.2;rw[show wtab.tail.length=21 from rfl] at this;omega
  have hmx:max (bA w 0 wtab.tail+1) 0=bA w 0 wtab.tail+1:=by omega
  have hwl:ab 140737488355328 wtab.tail.length:=by unfold ab;decide
  by_cases d1:1 < w.size
  ·have b1:((1:Int) < (w.size:Int))=True:=eq_true (by omega)
   by_cases c3:(tL w)[0]?=some 46
   ·have b2:(dW w 0=46)=True:=by rw[show (46:Int)=((46:UInt8).toNat:Int) from rfl,rJ (by omega)];exact eq_true c3
    have e:hdI w=(3,0,bL (jm ((tL w).drop 1)),T.zero):=by unfold hdI;rw[e12,if_pos ⟨by omega,c3⟩]
    simp only[jp,rg,go_sem,seval,Prod.fst,t1,t2,c1,c2,b1,b2,z1,e,vf,Int.toNat_one,hdP,z0,hO,hU,gj,gk,gn,UL,UM,Gi,Gj,Gk]
    repeat' (first|with_reducible assumption|with_reducible refine And.intro ?_ ?_|intro _)
    all_goals first|omega|(unfold ab;rw[ByteArray.size_extract];omega)|skip
   have b2:(dW w 0=46)=False:=by rw[show (46:Int)=((46:UInt8).toNat:Int) from rfl,rJ (by omega)];exact eq_false c3
   by_cases d2:2 < w.size
   ·have b3:((2:Int) < (w.size:Int))=True:=eq_true (by omega)
    by_cases c4:(tL w)[0]?=some 91
    ·have b4:(dW w 0=91)=True:=by rw[show (91:Int)=((91:UInt8).toNat:Int) from rfl,rJ (by omega)];exact eq_true c4
     have e:hdI w=(4,dQ (sub (tL w) 1 ((tL w).length-1)),⟨#[]⟩,T.zero):=by unfold hdI;rw[e12,if_neg (fun h=>c3 h.2),if_pos ⟨by omega,c4⟩]
     have e5:((w.size:Int)-1).toNat=w.size-1:=by omega
     have e6:tL (w.extract 1 (w.size-1))=sub (tL w) 1 ((tL w).length-1):=by rw[qD,Da,hl]
     simp only[jp,rg,go_sem,seval,Prod.fst,t1,t2,c1,c2,b1,b2,b3,b4,z1,e,e5,e6,Int.toNat_one,hdP,z0,hO,hU,gj,gk,gn,CX,CY,uZ,vd,ve]
     repeat' (first|with_reducible assumption|with_reducible refine And.intro ?_ ?_|intro _)
     all_goals first|omega|(unfold ab;rw[ByteArray.size_extract];omega)|skip
    ·have b4:(dW w 0=91)=False:=by rw[show (91:Int)=((91:UInt8).toNat:Int) from rfl,rJ (by omega)];exact eq_false c4
     have e:hdI w=(bA w 0 wtab.tail+1,0,⟨#[]⟩,T.zero):=by unfold hdI;rw[e12,if_neg (fun h=>c3 h.2),if_neg (fun h=>c4 h.2)]
     simp only[jp,rg,go_sem,seval,Prod.fst,t1,t2,c1,c2,b1,b2,b3,b4,z1,e,hW,cf,wX,hmx,Int.toNat_one,hdP,z0,hO,hU,gj,gk,gn,wS,wT,wU,wV,wW]
     repeat' (first|with_reducible assumption|with_reducible refine And.intro ?_ ?_|intro _)
     all_goals first|omega|exact hwl|exact wY|skip
   ·have b3:((2:Int) < (w.size:Int))=False:=eq_false (by omega)
    have e:hdI w=(bA w 0 wtab.tail+1,0,⟨#[]⟩,T.zero):=by unfold hdI;rw[e12,if_neg (fun h=>c3 h.2),if_neg (fun h=>by omega)]
    simp only[jp,rg,go_sem,seval,Prod.fst,t1,t2,c1,c2,b1,b2,b3,z1,e,hW,cf,wX,hmx,Int.toNat_one,hdP,z0,hO,hU,gj,gk,gn,wS,wT,wU,wV,wW]
    repeat' (first|with_reducible assumption|with_reducible refine And.intro ?_ ?_|intro _)
    all_goals first|omega|exact hwl|exact wY|skip
  ·have b1:((1:Int) < (w.size:Int))=False:=eq_false (by omega)
   have b3:((2:Int) < (w.size:Int))=False:=eq_false (by omega)
   have e:hdI w=(bA w 0 wtab.tail+1,0,⟨#[]⟩,T.zero):=by unfold hdI;rw[e12,if_neg (fun h=>by omega),if_neg (fun h=>by omega)]
   simp only[jp,rg,go_sem,seval,Prod.fst,t1,t2,c1,c2,b1,b3,z1,e,hW,cf,wX,hmx,Int.toNat_one,hdP,z0,hO,hU,gj,gk,gn,wS,wT,wU,wV,wW]
   repeat' (first|with_reducible assumption|with_reducible refine And.intro ?_ ?_|intro _)
   all_goals first|omega|exact hwl|exact wY|skip
end Go.Proofs.Pw
namespace Go.Proofs.Pw
mutual
theorem F.fit_mono {A B:Int} (hAB:A<=B):∀ {t:F},t.fit A->t.fit B
 | .mk k n s v l,h=>by
   simp only[F.fit,ab] at h ⊢
   obtain⟨h1,h2,h3,h4,h6,h7⟩:=h
   exact⟨h1,h2,by omega,T.fit_mono hAB h4,by omega,Gw hAB h7⟩
theorem Gw {A B:Int} (hAB:A<=B):∀ {l:List F},bu A l->bu B l
 | [],_=>trivial
 | _::_,h=>⟨F.fit_mono hAB h.1,Gw hAB h.2⟩
end
def F.num:F->Int
 | .mk _ n _ _ _=>n
def F.kids:F->List F
 | .mk _ _ _ _ l=>l
mutual
def io:F->Prop
 | .mk _ _ _ v l=>aA v<=5/\bM l
def bM:List F->Prop
 | []=>True
 | t::l=>io t/\bM l
end
mutual
theorem wZ:∀ {t:F},io t->bW t
 | .mk _ _ _ v l,h=>by simp only[io] at h;simp only[bW];exact⟨by omega,Gx h.2⟩
theorem Gx:∀ {l:List F},bM l->eK l
 | [],_=>by simp[eK]
 | t::l,h=>by simp only[bM] at h;simp only[eK];exact⟨wZ h.1,Gx h.2⟩
end
def drF (m:Int) (t:F):Prop:=t.fit 1000/\io t/\aJ t<=m/\-1000<=t.num/\t.num<=1000
def drFW (m:Int) (t:F):Prop:=t.fit 100000/\bW t/\aJ t<=m/\(-1000<=t.num/\t.num<=1000)/\bM t.kids
theorem drF.fit {m:Int} {t:F} (h:drF m t):t.fit 140737488355328:=F.fit_mono (by decide) h.1
theorem drFW.fit {m:Int} {t:F} (h:drFW m t):t.fit 140737488355328:=F.fit_mono (by decide) h.1
theorem drF.mono {m n:Int} (hmn:m<=n) {t:F} (h:drF m t):drF n t:=⟨h.1,h.2.1,Int.le_trans h.2.2.1 hmn,h.2.2.2⟩
theorem drFW.mono {m n:Int} (hmn:m<=n) {t:F} (h:drFW m t):drFW n t:=⟨h.1,h.2.1,Int.le_trans h.2.2.1 hmn,h.2.2.2⟩
theorem drF.w {m:Int} {t:F} (h:drF m t):drFW m t:=⟨F.fit_mono (by decide) h.1,wZ h.2.1,h.2.2.1,h.2.2.2,by cases t;have:=h.2.1;simp only[io] at this;exact this.2⟩
theorem Gy {B:Int} {a b:List F} (h:bu B a) (h':bu B b):bu B (a++b):=by
 induction a with
 | nil=>exact h'
 | cons t a ih=>exact⟨h.1,ih h.2⟩
theorem Gz {a b:List F} (h:bM a) (h':bM b):bM (a++b):=by
 induction a with
 | nil=>exact h'
 | cons t a ih=>simp only[List.cons_append,bM] at h ⊢;exact⟨h.1,ih h.2⟩
theorem GA (a b:List F):aD (a++b)=aD a+aD b:=by
 induction a with
 | nil=>simp[aD]
 | cons t a ih=>simp only[List.cons_append,aD,ih];omega
theorem oG (a b:List F):aB (a++b)=aB a++aB b:=by
 induction a with
 | nil=>simp[aB]
 | cons t a ih=>simp only[List.cons_append,aB,ih]
theorem cU:T.zero.fit 1000/\aA T.zero=1:=by
 refine⟨⟨by unfold i64;omega,by unfold i64;omega,by unfold ab;decide,⟨by simp[ab],by simp⟩,by simp[ab],trivial⟩,by simp[T.zero,aA,av]⟩
theorem nc {m k n:Int} {s:ByteArray} {v:T} {l:List F} (hk:i64 k) (hn:i64 n/\-1000<=n/\n<=1000) (hs:(s.size:Int)<=1000) (hv:v.fit 1000) (hv':aA v<=5) (hl:l.length<=1000) (h4:bu 1000 l) (h5:bM l) (h6:1+aD l<=m):drF m (.mk k n s v l) :=
 ⟨⟨hk,hn.1,hs,hv,by unfold ab;omega,h4⟩,by simp only[io];exact⟨hv',h5⟩,by simpa only [aJ] using h6,hn.2⟩
theorem xa {k n:Int} {s:ByteArray} {v:T} (hk:i64 k) (hn:i64 n/\-1000<=n/\n<=1000) (hs:(s.size:Int)<=1000) (hv:v.fit 1000) (hv':aA v<=5):drF 1 (.mk k n s v []) :=
 nc hk hn hs hv hv' (by simp) trivial (by simp[bM]) (by simp[aD])
def fb:Nat->Int
 | 0=>1100
 | k+1=>1100+3*fb k
theorem kU:∀ k,1100<=fb k
 | 0=>by simp[fb]
 | k+1=>by have:=kU k;simp only[fb];omega
theorem Vc {d:Nat} (h:d<=4):fb d<=140000:=by
 rcases d with _|_|_|_|_|d
 ·decide
 ·decide
 ·decide
 ·decide
 ·decide
 ·omega
mutual
theorem Vd:∀ {t:F} {d e:Int},d<=e->aM t d->aM t e
 | .mk k n s v l,d,e,h,hf=>by
   simp only[aM] at hf ⊢
   exact⟨by omega,hf.2.1,hf.2.2.1,hf.2.2.2.1,hf.2.2.2.2.1,hf.2.2.2.2.2.1,hf.2.2.2.2.2.2.1,GB (show d-1<=e-1 by omega) hf.2.2.2.2.2.2.2.1,hf.2.2.2.2.2.2.2.2⟩
theorem GB:∀ {l:List F} {d e:Int},d<=e->ba l d->ba l e
 | [],_,_,_,_=>by simp[ba]
 | t::l,d,e,h,hf=>by
   simp only[ba] at hf ⊢
   exact⟨Vd h hf.1,GB h hf.2⟩
end
end Go.Proofs.Pw
namespace Go.Proofs.Pw
variable [Globs]
def oH:X:=(.seq (.reg [xS 4 (.alloc xF),xS 5 (.mv (.k (.z 1)))] none [0,1,4]) (.seq (.seq (.reg [xM 10 0,xS 11 (.len (.t 10) false),xS 12 (.bin false .eql (.t 11) (xK 0)),xM 13 12,xH 14 13 (.mv (.t 1)),xH 15 13 (.bin false .gtr (.t 14) (xK 7)),xS 16 (.pick (.t 13) (.k (.c (.bool true))) (.t 15))] none [0,1,4,16]) (.cond (.t 16) (.seq (.reg [xS 17 (.build xF []),xW 4 17 9,xS 5 (.mv (.k (.z 1)))] none [4,5]) .ret) .skip)) (.seq (.reg [xM 18 0,xS 19 (.ia (.t 18) (xK 0) 1),xL 20 19,xS 21 (.call 51 [(.t 20)]),xS 6 (.alloc xF),xW 6 21 9] none [0,1,4,6]) (.seq (.reg [xM 22 0,xS 23 (.sub (.t 22) (some (xK 1)) none 1),xM 7 23] none [1,4,6,7]) (.seq (.seq (.reg [xS 24 (.glb 1),xS 25 (.fa (.t 6) 0),xL 26 25,xS 27 (.ia (.t 24) (.t 26) 1),xL 28 27,xS 29 (.mv (xK 0))] none [1,4,6,7,28,29]) (.block 0 (.loop (.seq (.reg [xS 30 (.bin false .lss (.t 29) (.t 28))] none [1,4,6,7,28,29,30]) (.seq (.cond (.t 30) .skip (.exit 0)) (.seq (.block 1 (.seq (.reg [xM 32 7,xM 33 1,xS 34 (.bin false .add (.t 33) (xK 1)),xS 35 (.call 24 [(.t 32),(.t 34)]),xM 31 35,xS 36 (.ext (.t 31) 0),xS 37 (.ext (.t 31) 1),xS 8 (.alloc xF),xW 8 36 9,xM 9 37] none [1,4,6,8,9,28,29]) (.seq (.reg [xS 38 (.fa (.t 6) 8),xL 39 38,xS 40 (.load (.t 8) (some 9)),xS 41 (.bsl 9 [((.t 40),(some 9))]),xS 42 (.app (.t 39) (.t 41) 9 136 []),xS 43 (.fa (.t 6) 8),⟨none,none,.st (.t 43) (.t 42) none⟩] none [1,4,6,9,28,29]) (.reg [xM 44 9,xM 7 44] none [1,4,6,7,28,29])))) (.reg [xS 45 (.bin false .add (.t 29) (xK 1)),xM 29 45] none [1,4,6,7,28,29]))))))) (.seq (.reg [xS 46 (.load (.t 6) (some 9)),xM 47 7,xW 4 46 9,xM 5 47] none [4,5]) .ret))))))
theorem Ve:al Tryz.prog 48 (Tryz.f24.body.getD .skip) oH=true:=by kernel_rfl
theorem Vf:am Tryz.prog Tryz.f24.results.toList [.cell 4 (some 9),.tmp 5]=true:=by kernel_rfl
theorem GC:aw Tryz.prog 24=true:=by kernel_rfl
def jq (ws:List ByteArray):Prop:=(ws.length:Int)<=1000001/\∀ w ∈ ws,(w.size:Int)<=1000000
theorem xb {a b:List ByteArray} (h:jq b) (hs:a <:+ b):jq a:=⟨by have:=hs.length_le;have:=h.1;omega,fun w hw=>h.2 w (hs.subset hw)⟩
noncomputable def ip (k:Nat):Spec:=Spec.of (ι:=(List ByteArray) × Int) [false,false] (fun i=>[.d (.one (.row 1 (aa i.1))),.d (.one (.int .i64 i.2))]) (fun i=>(jq i.1/\1<=i.2/\i.2<=8)/\(8-i.2).toNat < k) (fun i=>[.d (.agg (rdF (8-i.2).toNat i.1).1.enc),.d (.one (.row 1 (aa (rdF (8-i.2).toNat i.1).2)))]) (fun _=>[.gone,.gone])
theorem rK:∀ i j:(List ByteArray) × Int,(fun (i:(List ByteArray) × Int)=>([.d (.one (.row 1 (aa i.1))),.d (.one (.int .i64 i.2))]:List AV)) i=(fun (i:(List ByteArray) × Int)=>([.d (.one (.row 1 (aa i.1))),.d (.one (.int .i64 i.2))]:List AV)) j->i=j:=by
 rintro⟨ws,n⟩ ⟨ws',n'⟩ h
 simp only[Prod.mk.injEq]
 simpa [ap,T.enc_eq,aq,F.enc_eq,ar,Tk.enc_eq,au,Gn.enc_eq,ao,and_assoc] using h
theorem Vg (k:Nat):(ip k).md=[false,false]:=rfl
theorem Vh (k:Nat) (ws:List ByteArray) (n:Int):(ip k).pre [.d (.one (.row 1 (aa ws))),.d (.one (.int .i64 n))]=((jq ws/\1<=n/\n<=8)/\(8-n).toNat < k):=Spec.of_pre' rK (ws,n)
theorem Vi (k:Nat):(ip k).alts=none:=rfl
theorem Vj (k:Nat) (ws:List ByteArray) (n:Int):(ip k).res [.d (.one (.row 1 (aa ws))),.d (.one (.int .i64 n))]=[.d (.agg (rdF (8-n).toNat ws).1.enc),.d (.one (.row 1 (aa (rdF (8-n).toNat ws).2)))]:=Spec.of_res rK (ws,n)
theorem Vk (k:Nat) (ws:List ByteArray) (n:Int):(ip k).out [.d (.one (.row 1 (aa ws))),.d (.one (.int .i64 n))]=[.gone,.gone]:=Spec.of_out rK (ws,n)
theorem xc:F0.enc=[.int .i64 0,.int .i64 0,.str ⟨#[]⟩,.int .i64 0,.int .i64 0,.str ⟨#[]⟩,.row 1 [],.row 5 [],.row 9 []]:=rfl
theorem Vl {k:Int} (h1:0<=k) (h2:k<=21):((ktab.map fun m=>[C.int .i64 m]).getD k.toNat [])=[C.int .i64 (bG k)]:=by
 rw[Bi (by omega)]
 have h3:∀ i:Fin 22,ktab.getD i.val 0=((ktab.getD i.val 0).toNat:Int):=by decide
 have h4:=h3 ⟨k.toNat,by omega⟩
 simp only at h4
 unfold bG
 rw[<-h4]
theorem Vm (f:List ByteArray->F × List ByteArray) (n:Nat) (ws:List ByteArray):cm f (n+1) ws=((f ws).1::(cm f n (f ws).2).1,(cm f n (f ws).2).2):=rfl
theorem Vn (f:List ByteArray->F × List ByteArray) (ws:List ByteArray):cm f 0 ws=([],ws):=rfl
theorem GD (w:ByteArray) (ws:List ByteArray):((aa (w::ws)).take (ws.length+1)).drop 1=aa ws:=by
 rw[List.take_of_length_le (by rw[bw];simp)];rfl
set_option maxHeartbeats 4000000 in
theorem Vo (hE:dR) (hK:tabK) (hW:get? 0 Globs.G=some cf) (hG:get? 1 Globs.G=some dq) (k:Nat) (hS:Sound Tryz.prog 24 (ip k)):Sound Tryz.prog 24 (ip (k+1)):=by
 refine aQ (GOK.cons (l:=[(24,ip k)]) UU (Vb hE hK hW) (GOK.cons GC hS GOK.nil)) Tryz.func24 (c:=Tryz.f24.body.getD .skip) rfl (n:=48) rfl Ve Vf (fun _=>by simp) ?_ ?_
 ·exact rK
 ·rintro⟨ws,n⟩ ⟨⟨h1,h2,h3⟩,h4⟩
  simp only at h1 h2 h3 h4
  have z1:aa []=[]:=rfl
  have z2:aB []=[]:=rfl
  by_cases c0:n=8
  ·subst c0
   have b0:((7:Int) < 8)=True:=eq_true (by omega)
   have e:(8-(8:Int)).toNat=0:=rfl
   have e2:rdF 0 ws=(F0,[]):=by rw[rdF]
   cases ws with
   | nil =>
     simp only[oH,rg,go_sem,seval,Prod.fst,b0,e,e2,xc,z1,bw,List.length_nil]
     repeat' (first|with_reducible assumption|with_reducible refine And.intro ?_ ?_|intro _)
     all_goals first|omega|skip
   | cons w ws =>
     have b1:(((ws.length+1:Nat):Int)=0)=False:=eq_false (by omega)
     simp only[oH,rg,go_sem,seval,Prod.fst,b0,b1,e,e2,xc,z1,bw]
     repeat' (first|with_reducible assumption|with_reducible refine And.intro ?_ ?_|intro _)
     all_goals first|omega|skip
  obtain⟨d,he⟩:∃ d,(8-n).toNat=d+1:=⟨(8-n).toNat-1,by omega⟩
  have he':(8-(n+1)).toNat=d:=by omega
  have b0:((7:Int) < n)=False:=eq_false (by omega)
  cases ws with
  | nil =>
    have e2:rdF (d+1) []=(F0,[]):=by rw[rdF]
    simp only[oH,rg,go_sem,seval,Prod.fst,b0,he,e2,xc,z1,bw,List.length_nil]
    repeat' (first|with_reducible assumption|with_reducible refine And.intro ?_ ?_|intro _)
    all_goals first|omega|skip
  | cons w ws =>
    have b1:(((ws.length+1:Nat):Int)=0)=False:=eq_false (by omega)
    have a0:(aa (w::ws)).getD 0 []=[C.str w]:=rfl
    have hw:=h1.2 w (by simp)
    have hok:=Gp hw
    have hws:jq ws:=xb h1 (List.suffix_cons _ _)
    have e2:rdF (d+1) (w::ws)=(eV (hdI w) (cm (rdF d) (bG (hdI w).1) ws).1,(cm (rdF d) (bG (hdI w).1) ws).2):=rfl
    have hgood:∀ r:List ByteArray,r <:+ ws->(rdF d r).2 <:+ ws:=fun r hr=>((wR (B:=1000000) (by decide) d r (xb hws hr).2).1).trans hr
    generalize hI:hdI w=hd at *
    obtain⟨kk,m,s,vk,vn,vs,vks,vl⟩:=hd
    obtain⟨⟨o1,o2⟩,o3,o4,o5⟩:=hok
    simp only at o1 o2 o3 o4 o5
    have kk3:=Gm kk
    have a1:=Vl o1 o2
    have z0:(0:Int).toNat=0:=rfl
    simp only[oH,rg,go_sem,seval,Prod.fst,b0,b1,he,e2,hI,hdP,T.enc,a0,a1,hG,dq,Bk,bw,GD,z0,UW,UX,UY,UZ,Va]
    repeat' (first|with_reducible assumption|with_reducible refine And.intro ?_ ?_|intro _)
    all_goals first|omega|(unfold ab;omega)|skip
    refine aZ (ι:=List Pw.F × List ByteArray) (fun i=>bG kk-i.1.length) (fun i=>i.1.length<=bG kk/\i.2 <:+ ws/\cm (rdF d) (bG kk) ws=(i.1++(cm (rdF d) (bG kk-i.1.length) i.2).1,(cm (rdF d) (bG kk-i.1.length) i.2).2))
     (fun i=>⟨[(1,.q (.c (.int .i64 n))),(4,.q (.box 4 0)),(6,.q (.box 6 0)),(7,.q (.c (.row 1 (aa i.2)))),(28,.q (.c (.int .i64 (bG kk)))),(29,.q (.c (.int .i64 i.1.length)))],
      [(4,[.c (.int .i64 0),.c (.int .i64 0),.c (.str ⟨#[]⟩),.c (.int .i64 0),.c (.int .i64 0),.c (.str ⟨#[]⟩),.z 1,.z 5,.z 9]),
       (6,[.c (.int .i64 kk),.c (.int .i64 m),.c (.str s),.c (.int .i64 vk),.c (.int .i64 vn),.c (.str vs),.c (.row 1 (aa vks)),.c (.row 5 (ai vl)),.own 2200008])],
      [(2200008,9,aB i.1)]⟩) ([],ws) ⟨by simp,List.suffix_refl _,by simp⟩ (Le.of_eq (by simp[GD,aB])) ?_
    rintro⟨acc,r⟩ ⟨g1,g2,g3⟩
    simp only at g1 g2 g3
    have hr:=xb hws g2
    rcases Nat.lt_or_ge acc.length (bG kk) with hlt|hge
    ·have b2:((acc.length:Int) < (bG kk:Int))=True:=eq_true (by omega)
     obtain⟨c,hc⟩:∃ c,bG kk-acc.length=c+1:=⟨bG kk-acc.length-1,by omega⟩
     rw[hc,Vm] at g3
     have hlen:=F.enc_len (rdF d r).1
     simp only[rg,go_sem,seval,Prod.fst,b2,he',hlen,bC,Vg,Vh,Vi,Vj,Vk]
     repeat' (first|with_reducible assumption|with_reducible refine And.intro ?_ ?_|intro _)
     all_goals first|omega|exact hr|skip
     have e7:bG kk-(acc++[(rdF d r).1]).length=c:=by simp;omega
     refine⟨(acc++[(rdF d r).1],(rdF d r).2),⟨by simp;omega,hgood r g2,?_⟩,by simp;omega,Le.sub (by simp) (by simp) (by simp[oG,aB])⟩
     simp only[e7];rw[g3];simp
    ·have b2:((acc.length:Int) < (bG kk:Int))=False:=eq_false (by omega)
     rw[show bG kk-acc.length=0 by omega,Vn] at g3
     simp only[List.append_nil] at g3
     simp only[rg,go_sem,seval,Prod.fst,b2,g3,eV,F.enc,T.enc,bC,List.cons_append,List.nil_append]
     repeat' (first|with_reducible assumption|with_reducible refine And.intro ?_ ?_|intro _)
     all_goals first|omega|skip
theorem Vp (hE:dR) (hK:tabK) (hW:get? 0 Globs.G=some cf) (hG:get? 1 Globs.G=some dq) (k:Nat):Sound Tryz.prog 24 (ip k):=by
 induction k with
 | zero=>exact Sound.none
 | succ k ih=>exact Vo hE hK hW hG k ih
noncomputable def kV :Spec:=Spec.of (ι:=(List ByteArray) × Int) [false,false] (fun i=>[.d (.one (.row 1 (aa i.1))),.d (.one (.int .i64 i.2))]) (fun i=>jq i.1/\1<=i.2/\i.2<=8) (fun i=>[.d (.agg (rdF (8-i.2).toNat i.1).1.enc),.d (.one (.row 1 (aa (rdF (8-i.2).toNat i.1).2)))]) (fun _=>[.gone,.gone])
theorem xd:∀ i j:(List ByteArray) × Int,(fun (i:(List ByteArray) × Int)=>([.d (.one (.row 1 (aa i.1))),.d (.one (.int .i64 i.2))]:List AV)) i=(fun (i:(List ByteArray) × Int)=>([.d (.one (.row 1 (aa i.1))),.d (.one (.int .i64 i.2))]:List AV)) j->i=j:=by
 rintro⟨ws,n⟩ ⟨ws',n'⟩ h
 simp only[Prod.mk.injEq]
 simpa [ap,T.enc_eq,aq,F.enc_eq,ar,Tk.enc_eq,au,Gn.enc_eq,ao,and_assoc] using h
theorem xf :(kV).md=[false,false]:=rfl
theorem xg  (ws:List ByteArray) (n:Int):(kV).pre [.d (.one (.row 1 (aa ws))),.d (.one (.int .i64 n))]=(jq ws/\1<=n/\n<=8):=Spec.of_pre' xd (ws,n)
theorem xh :(kV).alts=none:=rfl
theorem xi  (ws:List ByteArray) (n:Int):(kV).res [.d (.one (.row 1 (aa ws))),.d (.one (.int .i64 n))]=[.d (.agg (rdF (8-n).toNat ws).1.enc),.d (.one (.row 1 (aa (rdF (8-n).toNat ws).2)))]:=Spec.of_res xd (ws,n)
theorem xj  (ws:List ByteArray) (n:Int):(kV).out [.d (.one (.row 1 (aa ws))),.d (.one (.int .i64 n))]=[.gone,.gone]:=Spec.of_out xd (ws,n)
theorem Vq (hE:dR) (hK:tabK) (hW:get? 0 Globs.G=some cf) (hG:get? 1 Globs.G=some dq):Sound Tryz.prog 24 kV:=Sound.all (μ:=fun i=>(8-i.2).toNat) (Vp hE hK hW hG)
end Go.Proofs.Pw
namespace Go.Proofs.Pw
theorem Vr:∀ {f:Nat} {k:Int} {out:ByteArray},(qm f k out).size<=out.size+f:=by
 intro f
 induction f with
 | zero=>intro k out;exact Nat.le_refl _
 | succ f ih =>
   intro k out
   simp only[qm]
   split
   ·have:=ih (k:=k.tdiv 10) (out:=fJ [48+k.tmod 10]++out)
    rw[ByteArray.size_append,show (fJ [48+k.tmod 10]).size=1 from rfl] at this
    omega
   ·omega
theorem xk {k:Int} (h:0<=k):((mkS k).size:Int)<=k+2:=by
 unfold mkS
 split
 ·show ((2:Nat):Int)<=_;omega
 ·have:=Vr (f:=k.toNat) (k:=k) (out:=⟨#[]⟩)
  rw[ByteArray.size_append]
  have e1:(ByteArray.mk #[109]).size=1:=rfl
  have e2:(ByteArray.mk #[]).size=0:=rfl
  rw[e1];rw[e2] at this;omega
theorem GE {B:Int}:∀ {ks:List ByteArray} {k:Int},0<=k->k+ks.length+2<=B->∀ s ∈ fu ks k,ab B s.size
 | [],_,_,_=>by simp[fu]
 | _::r,k,h,hb=>by
   intro s hs
   simp only[List.length_cons] at hb
   simp only[fu,List.mem_cons] at hs
   rcases hs with rfl|hs
   ·have:=xk h;unfold ab;omega
   ·exact GE (by omega) (by omega) s hs
mutual
theorem GF {B:Int} (hB:B<=4611686018427387904):∀ {t:T} {k:Int},t.fit B->0<=k->k+nmT t+2<=B->(mkT t k).fit B
 | .mk _ _ _ ks l,k,h,h0,hb=>by
   simp only[T.fit] at h
   obtain⟨_,_,f1,f2,f3,f4⟩:=h
   have c1:=qp l
   simp only[nmT] at hb
   have:=xk (k:=k+2) (by omega)
   refine⟨by unfold i64;omega,by unfold i64;omega,by unfold ab;omega,⟨by rw[qn];exact f2.1,GE (by omega) (by omega)⟩,by rw[Cg];exact f3,GG hB f4 (by omega) (by omega)⟩
theorem GG {B:Int} (hB:B<=4611686018427387904):∀ {l:List T} {k:Int},bn B l->0<=k->k+nmL l+2<=B->bn B (mkL l k)
 | [],_,_,_,_=>trivial
 | t::r,k,h,h0,hb=>by
   simp only[bn] at h
   have c1:=qp r
   have c2:=qo t
   simp only[nmL] at hb
   exact⟨GF hB h.1 h0 (by omega),GG hB h.2 (by omega) (by omega)⟩
end
mutual
theorem Vs:∀ {t:T},t.fit 60->nmT t<=63*aA t
 | .mk _ _ _ ks l,h=>by
   simp only[T.fit,cJ,ab] at h
   obtain⟨_,_,_,⟨f1,_⟩,_,f4⟩:=h
   have:=GH f4
   simp only[nmT,aA];omega
theorem GH:∀ {l:List T},bn 60 l->nmL l<=63*av l
 | [],_=>by simp[nmL,av]
 | t::r,h=>by
   simp only[bn] at h
   have:=Vs h.1
   have:=GH h.2
   simp only[nmL,av];omega
end
end Go.Proofs.Pw
namespace Go.Proofs.Pw
mutual
def F.encX:F->List C
 | .mk k n s v l=>[.int .i64 k,.int .i64 n,.str s]++v.encX++[.own 9 (dh l)]
def dh:List F->List (List C)
 | []=>[]
 | t::l=>t.encX::dh l
end
def di:F->List Pt
 | .mk k n s v l=>[.c (.int .i64 k),.c (.int .i64 n),.c (.str s)]++agX v++[.o 9 (dh l)]
theorem GI (l:List F):dh l=l.map F.encX:=by
 induction l with
 | nil=>simp[dh]
 | cons t l ih=>simp[dh,ih]
theorem Vt (l:List F):(dh l).length=l.length:=by rw[GI];simp
theorem F.encX_len (t:F):t.encX.length=9:=by cases t;simp[F.encX,T.encX_len]
theorem Vu {l:List F} {i:Nat} {t:F} (h:l[i]?=some t):dh (l.take (i+1))=dh (l.take i)++[t.encX]:=by
 rw[List.take_add_one,h];simp[GI]
theorem rL:∀ (a b a' b':List C),dtL a=some a'->dtL b=some b'->dtL (a++b)=some (a'++b')
 | [],b,a',b',h,h'=>by simp only[dtL,Option.some.injEq] at h;subst h;exact h'
 | c::a,b,a',b',h,h'=>by
   simp only[dtL] at h
   cases hc:dtC c with
   | none=>simp[hc] at h
   | some c' =>
     cases ha:dtL a with
     | none=>simp[hc,ha] at h
     | some a2 =>
       simp only[hc,ha] at h
       have e:=Option.some.inj h
       simp only[List.cons_append,dtL,hc,rL a b a2 b' ha h',<-e]
mutual
theorem Vv:∀ t:F,dtL t.encX=some t.enc
 | .mk k n s v l=>rL _ _ _ _ (rL [.int .i64 k,.int .i64 n,.str s] _ _ _ (by simp[dtL,dtC]) (uI v)) (by simp[dtL,dtC,nd l])
theorem nd:∀ l:List F,dtR (dh l)=some (aB l)
 | []=>rfl
 | t::l=>by simp[dh,aB,dtR,Vv t,nd l]
end
theorem xl:∀ (a b:List C),flL (a++b)=(flL a && flL b)
 | [],b=>by simp[flL]
 | c::a,b=>by simp only[List.cons_append,flL,xl a b,Bool.and_assoc]
mutual
theorem Vw:∀ t:F,flL t.encX=true
 | .mk k n s v l=>by
   simp only[F.encX,xl,uJ v,flL,flC,rM l,Bool.and_true]
theorem rM:∀ l:List F,flR (dh l)=true
 | []=>rfl
 | t::l=>by simp[dh,flR,Vw t,rM l]
end
mutual
def nmF:F->Int
 | .mk _ _ _ v l=>3+nmT v+gC l
def gC:List F->Int
 | []=>0
 | t::l=>nmF t+gC l
end
mutual
def mkF:F->Int->F
 | .mk _ _ _ v l,k=>.mk k (k+1) (mkS (k+2)) (mkT v (k+3)) (fI l (k+3+nmT v))
def fI:List F->Int->List F
 | [],_=>[]
 | t::l,k=>mkF t k::fI l (k+nmF t)
end
theorem GJ:∀ {l:List F} {k:Int},(fI l k).length=l.length
 | [],_=>rfl
 | _::r,k=>by simp[fI,GJ (l:=r)]
mutual
theorem GK:∀ t:F,6<=nmF t
 | .mk _ _ _ v l=>by have:=qo v;have:=rN l;simp only[nmF];omega
theorem rN:∀ l:List F,0<=gC l
 | []=>by simp[gC]
 | t::l=>by have:=GK t;have:=rN l;simp only[gC];omega
end
mutual
theorem GL:∀ (t:F) (k:Int),nmF (mkF t k)=nmF t
 | .mk _ _ _ v l,k=>by simp only[mkF,nmF,qq,GM l]
theorem GM:∀ (l:List F) (k:Int),gC (fI l k)=gC l
 | [],_=>rfl
 | t::l,k=>by simp only[fI,gC,GL t,GM l]
end
mutual
theorem Vx:∀ (t:F) (k:Int),mkF (mkF t k) k=mkF t k
 | .mk _ _ _ v l,k=>by simp only[mkF,Cj,qq,GN l]
theorem GN:∀ (l:List F) (k:Int),fI (fI l k) k=fI l k
 | [],_=>rfl
 | t::l,k=>by simp only[fI,Vx t,GL t,GN l]
end
mutual
theorem Vy {B:Int} (hB:B<=4611686018427387904):∀ {t:F} {k:Int},t.fit B->0<=k->k+nmF t+2<=B->(mkF t k).fit B
 | .mk _ _ _ v l,k,h,h0,hb=>by
   simp only[F.fit] at h
   obtain⟨_,_,f1,f2,f3,f4⟩:=h
   have c1:=rN l
   have c2:=qo v
   simp only[nmF] at hb
   have:=xk (k:=k+2) (by omega)
   refine⟨by unfold i64;omega,by unfold i64;omega,by unfold ab;omega,GF hB f2 (by omega) (by omega),by rw[GJ];exact f3,GO hB f4 (by omega) (by omega)⟩
theorem GO {B:Int} (hB:B<=4611686018427387904):∀ {l:List F} {k:Int},bu B l->0<=k->k+gC l+2<=B->bu B (fI l k)
 | [],_,_,_,_=>trivial
 | t::r,k,h,h0,hb=>by
   simp only[bu] at h
   have c1:=rN r
   have c2:=GK t
   simp only[gC] at hb
   exact⟨Vy hB h.1 h0 (by omega),GO hB h.2 (by omega) (by omega)⟩
end
def Tk.encX (t:Tk):List C:=t.v.encX++[.own 9 (dh t.todo)]
def nf (l:List Tk):List (List C):=l.map Tk.encX
theorem Vz (l:List Tk):(nf l).length=l.length:=by simp[nf]
theorem GP:∀ l:List Tk,dtR (nf l)=some (cZ l)
 | []=>rfl
 | t::l=>by
   have h:=GP l
   have e:dtL t.encX=some t.enc:=rL _ _ _ _ (uI t.v) (by simp[dtL,dtC,nd])
   unfold nf cZ at h ⊢
   simp only[List.map_cons,dtR,e,h]
theorem GQ:∀ l:List Tk,flR (nf l)=true
 | []=>rfl
 | t::l=>by
   have h:=GQ l
   unfold nf at h ⊢
   simp only[List.map_cons,flR,Tk.encX,xl,uJ,flL,flC,rM,h,Bool.and_true]
attribute [go_sem] rM Vt F.encX_len nd Vz GP GQ
end Go.Proofs.Pw
namespace Go.Proofs.Pw
variable [Globs]
def GR:X:=(.seq (.reg [xS 1 (.box (.t 0) (some 9)),xS 2 (.alloc xF)] none [1,2]) (.seq (.reg [xS 6 (.bsl 9 []),xM 3 6] none [1,2,3]) (.seq (.seq (.reg [xS 7 (.fa (.t 1) 8),xL 8 7,xS 9 (.len (.t 8) false),xS 10 (.mv (xK 0))] none [1,2,3,8,9,10]) (.block 0 (.loop (.seq (.reg [xS 11 (.bin false .lss (.t 10) (.t 9))] none [1,2,3,8,9,10,11]) (.seq (.cond (.t 11) .skip (.exit 0)) (.seq (.block 1 (.seq (.reg [xS 12 (.ia (.t 8) (.t 10) 9),xS 13 (.load (.t 12) (some 9)),xS 5 (.alloc xF),xW 5 13 9] none [1,2,3,5,8,9,10]) (.reg [xM 14 3,xS 15 (.load (.t 5) (some 9)),xS 16 (.call 26 [(.t 15)]),xS 17 (.bslx 9 [((.t 16),(some 9))]),xS 18 (.appx (.t 14) (.t 17) 9 136),xM 3 18] none [1,2,3,8,9,10]))) (.reg [xS 19 (.bin false .add (.t 10) (xK 1)),xM 10 19] none [1,2,3,8,9,10]))))))) (.seq (.reg [xM 20 3,xS 21 (.fa (.t 1) 8),⟨none,none,.st (.t 21) (.t 20) none⟩] none [1,2]) (.seq (.reg [xS 22 (.fa (.t 1) 3),xS 23 (.load (.t 22) (some 5)),xS 24 (.call 53 [(.t 23)]),xS 25 (.fa (.t 1) 3),xW 25 24 5] none [1,2]) (.seq (.reg [xS 26 (.load (.t 1) (some 9)),xW 2 26 9] none [2]) .ret))))))
theorem VA:al Tryz.prog 27 (Tryz.f26.body.getD .skip) GR=true:=by kernel_rfl
theorem VB:am Tryz.prog Tryz.f26.results.toList [.cell 2 (some 9)]=true:=by kernel_rfl
theorem GS:aw Tryz.prog 26=true:=by kernel_rfl
noncomputable def iq (k:Nat):Spec:=Spec.of (ι:=F) [false] (fun i=>[.d (.agg i.enc)]) (fun i=>(i.fit 2000000)/\SizeOf.sizeOf i < k) (fun i=>[.ag (di i)]) (fun _=>[.gone])
theorem rO:∀ i j:F,(fun (i:F)=>([.d (.agg i.enc)]:List AV)) i=(fun (i:F)=>([.d (.agg i.enc)]:List AV)) j->i=j:=by
 intro t t' h
 simpa [ap,T.enc_eq,aq,F.enc_eq,ar,Tk.enc_eq,au,Gn.enc_eq,ao] using h
theorem VC (k:Nat):(iq k).md=[false]:=rfl
theorem VD (k:Nat) (t:F):(iq k).pre [.d (.agg t.enc)]=((t.fit 2000000)/\SizeOf.sizeOf t < k):=Spec.of_pre' rO t
theorem VE (k:Nat):(iq k).alts=none:=rfl
theorem VF (k:Nat) (t:F):(iq k).res [.d (.agg t.enc)]=[.ag (di t)]:=Spec.of_res rO t
theorem VG (k:Nat) (t:F):(iq k).out [.d (.agg t.enc)]=[.gone]:=Spec.of_out rO t
set_option maxHeartbeats 1000000 in
theorem VH (k:Nat) (hS:Sound Tryz.prog 26 (iq k)):Sound Tryz.prog 26 (iq (k+1)):=by
 refine aQ (GOK.cons (l:=[(26,iq k)]) vp Dr (GOK.cons GS hS GOK.nil)) Tryz.func26 (c:=Tryz.f26.body.getD .skip) rfl (n:=27) rfl VA VB (fun _=>by simp) ?_ ?_
 ·exact rO
 ·rintro t ⟨h1,h4⟩
  obtain⟨kk,n,s,v,l⟩:=t
  obtain⟨vk,vn,vs,vks,vl⟩:=v
  simp only[F.fit,ab] at h1
  obtain⟨_,_,f1,f2,f3,f4⟩:=h1
  have e3 : SizeOf.sizeOf l < k := by have e : SizeOf.sizeOf (F.mk kk n s (T.mk vk vn vs vks vl) l) < k + 1 := h4
                                      rw[F.mk.sizeOf_spec] at e;omega
  have ef:[C.int .i64 vk,C.int .i64 vn,C.str vs,C.row 1 (aa vks),C.row 5 (ai vl)]=(T.mk vk vn vs vks vl).enc:=rfl
  simp only[GR,F.enc,T.enc,di,agX,go_sem,seval,Prod.fst,rg,bC,List.cons_append,List.nil_append]
  repeat' (first|with_reducible assumption|with_reducible refine And.intro ?_ ?_|intro _)
  all_goals first|omega|skip
  refine aZ (ι:=Nat) (fun i=>l.length-i) (fun i=>i<=l.length)
   (fun i=>⟨[(1,.q (.box 1 0)),(2,.q (.box 2 0)),(3,.q (.own 18)),(8,.q (.c (.row 9 (aB l)))),(9,.q (.c (.int .i64 l.length))),(10,.q (.c (.int .i64 i)))],
    [(1,[.c (.int .i64 kk),.c (.int .i64 n),.c (.str s),.c (.int .i64 vk),.c (.int .i64 vn),.c (.str vs),.c (.row 1 (aa vks)),.c (.row 5 (ai vl)),.c (.row 9 (aB l))]),(2,[.c (.int .i64 0),.c (.int .i64 0),.c (.str ⟨#[]⟩),.c (.int .i64 0),.c (.int .i64 0),.c (.str ⟨#[]⟩),.z 1,.z 5,.z 9])],[(18,9,dh (l.take i))]⟩) 0 (Nat.zero_le _) ?_ ?_
  ·refine Le.own (t:=3) (d:=18) (sz:=9) (by decide) (by simp) (by simp[Q.killO]) ?_
   simp[PV.map,Q.killO]
  ·intro i hi
   rcases Nat.lt_or_ge i l.length with hlt|hge
   ·obtain⟨t,ht,_,hmem⟩:=aU hlt
    have a1:=cI ht
    have a2:((i:Int) < (l.length:Int))=True:=by simp;omega
    have a3:=dN f4 t hmem
    have a4:=bK hmem
    have a6:=F.enc_len t
    have a7:(l.take i).length=i:=by simp;omega
    obtain⟨k1,n1,s1,⟨vk1,vn1,vs1,vks1,vl1⟩,l1⟩:=t
    simp only[go_sem,seval,Prod.fst,rg,a1,a2,a6,a7,bC,VC,VD,VE,VF,VG,di,agX,List.cons_append,List.nil_append]
    repeat' (first|with_reducible assumption|with_reducible refine And.intro ?_ ?_|intro _)
    all_goals first|omega|assumption|skip
    refine⟨i+1,by omega,by omega,?_⟩
    rw[Vu ht]
    exact Le.sub (by simp) (by simp) (by simp[F.encX,T.encX])
   ·have a2:((i:Int) < (l.length:Int))=False:=by simp;omega
    simp only[go_sem,seval,Prod.fst,rg,a2,ef,List.take_of_length_le hge,vr,vt,vu,vz,vC,agX,Bool.false_or,Bool.or_true,Bool.not_true,Bool.false_eq_true]
    repeat' (first|with_reducible assumption|with_reducible refine And.intro ?_ ?_|intro _)
    all_goals first|omega|assumption|skip
theorem VI (k:Nat):Sound Tryz.prog 26 (iq k):=by
 induction k with
 | zero=>exact Sound.none
 | succ k ih=>exact VH k ih
noncomputable def ir :Spec:=Spec.of (ι:=F) [false] (fun i=>[.d (.agg i.enc)]) (fun i=>i.fit 2000000) (fun i=>[.ag (di i)]) (fun _=>[.gone])
theorem xm:∀ i j:F,(fun (i:F)=>([.d (.agg i.enc)]:List AV)) i=(fun (i:F)=>([.d (.agg i.enc)]:List AV)) j->i=j:=by
 intro t t' h
 simpa [ap,T.enc_eq,aq,F.enc_eq,ar,Tk.enc_eq,au,Gn.enc_eq,ao] using h
theorem VJ :(ir).md=[false]:=rfl
theorem VK  (t:F):(ir).pre [.d (.agg t.enc)]=(t.fit 2000000):=Spec.of_pre' xm t
theorem VL :(ir).alts=none:=rfl
theorem VM  (t:F):(ir).res [.d (.agg t.enc)]=[.ag (di t)]:=Spec.of_res xm t
theorem VN  (t:F):(ir).out [.d (.agg t.enc)]=[.gone]:=Spec.of_out xm t
theorem VO:Sound Tryz.prog 26 ir:=Sound.all (μ:=fun i=>SizeOf.sizeOf i) VI
end Go.Proofs.Pw
namespace Go.Proofs.Pw
variable [Globs]
def ng:X:=(.seq (.reg [xS 2 (.alloc xF),xS 3 (.mv (.k (.c (.bool false))))] none [0,2]) (.seq (.seq (.reg [xM 6 0,xS 7 (.bin false .eql (.t 6) (.k (.c (.str ⟨#[]⟩)))),xM 8 7,xH 9 8 (.mv (.t 0)),xH 10 8 (.len (.t 9) true),xH 11 8 (.bin false .gtr (.t 10) (xK 6000)),xS 12 (.pick (.t 8) (.k (.c (.bool true))) (.t 11))] none [0,2,12]) (.cond (.t 12) (.seq (.reg [xS 13 (.build xF []),xW 2 13 9,xS 3 (.mv (.k (.c (.bool false))))] none [2,3]) .ret) .skip)) (.seq (.reg [xM 15 0,xS 16 (.call 25 [(.t 15),(.k (.c (.str ⟨#[32]⟩)))]),xS 17 (.call 24 [(.t 16),(xK 1)]),xM 14 17,xS 18 (.ext (.t 14) 0),xS 19 (.ext (.t 14) 1),xS 4 (.alloc xF),xW 4 18 9,xM 5 19] none [0,2,4,5]) (.seq (.seq (.reg [xM 20 5,xS 21 (.len (.t 20) false),xS 22 (.bin false .gtr (.t 21) (xK 0)),xM 23 22,xH 24 23 (.load (.t 4) (some 9)),xH 25 23 (.call 7 [(.t 24)]),xH 26 23 (.mv (.t 0)),xH 27 23 (.bin false .neq (.t 25) (.t 26)),xS 28 (.pick (.t 23) (.k (.c (.bool true))) (.t 27))] none [2,4,28]) (.cond (.t 28) (.seq (.reg [xS 29 (.build xF []),xW 2 29 9,xS 3 (.mv (.k (.c (.bool false))))] none [2,3]) .ret) .skip)) (.seq (.reg [xS 30 (.load (.t 4) (some 9)),xS 31 (.call 26 [(.t 30)]),xW 2 31 9,xS 3 (.mv (.k (.c (.bool true))))] none [2,3]) .ret)))))
theorem VP:al Tryz.prog 32 (Tryz.f10.body.getD .skip) ng=true:=by kernel_rfl
theorem VQ:am Tryz.prog Tryz.f10.results.toList [.cell 2 (some 9),.tmp 3]=true:=by kernel_rfl
theorem VR:aw Tryz.prog 10=true:=by kernel_rfl
def fOk (s:ByteArray):Prop:=fF s/\s.size<=6000
noncomputable instance (s:ByteArray):Decidable (fOk s):=Classical.propDecidable _
noncomputable def fT (s:ByteArray):Pw.F:=if fOk s then oC s else F0
theorem GT {s:ByteArray} (h:fOk s):fT s=oC s:=by unfold fT;rw[if_pos h]
theorem VS {s:ByteArray} (h:¬ fOk s):fT s=F0:=by unfold fT;rw[if_neg h]
theorem VT:¬ fF ⟨#[]⟩:=fun h=>by
 have h1:=((Sj ⟨#[]⟩).2 h).1
 have e:aR ⟨#[]⟩=[⟨#[]⟩]:=rfl
 have e2:(hdS ⟨#[]⟩).2=false:=by
  unfold hdS
  rw[if_neg (fun q=>q.1 rfl),if_neg (by decide),if_neg (by decide),if_neg (by decide),if_neg (by decide)]
 rw[e,psF,if_neg (by simp),if_neg (by show ¬ (hdS ⟨#[]⟩).2=true;rw[e2];simp)] at h1
 simp at h1
theorem VU {s:ByteArray} (h:s.size<=1000000):jq (aR s):=⟨by have:=Sk s;omega,fun w hw=>by have:=Fq hw;omega⟩
theorem VV (s:ByteArray) (hs:s.size≠0):((rdF 7 (aR s)).2=[]/\cy (rdF 7 (aR s)).1=s) ↔ fF s:=by
 rw[<-Fc]
 unfold cy
 by_cases c:okF (rdF 7 (aR s)).1
 ·rw[if_pos c];exact⟨fun h=>⟨h.1,c,h.2⟩,fun h=>⟨h.1,h.2.2⟩⟩
 ·rw[if_neg c]
  refine⟨fun h=>absurd (by rw[<-h.2];rfl) hs,fun h=>absurd h.2.1 c⟩
noncomputable def spFRdX :Spec:=Spec.of (ι:=ByteArray) [false] (fun i=>[.d (.one (.str i))]) (fun i=>ab 140737488355328 i.size) (fun i=>[.ag (di (fT i)),.d (.one (.bool (decide (fOk i))))]) (fun _=>[.gone])
theorem rP:∀ i j:ByteArray,(fun (i:ByteArray)=>([.d (.one (.str i))]:List AV)) i=(fun (i:ByteArray)=>([.d (.one (.str i))]:List AV)) j->i=j:=by
 intro s s' h
 simpa [ap,T.enc_eq,aq,F.enc_eq,ar,Tk.enc_eq,au,Gn.enc_eq,ao,and_assoc] using h
theorem VW  (s:ByteArray):(spFRdX).pre [.d (.one (.str s))]=(ab 140737488355328 s.size):=Spec.of_pre' rP s
theorem VX :(spFRdX).alts=none:=rfl
theorem GU  (s:ByteArray):(spFRdX).res [.d (.one (.str s))]=[.ag (di (fT s)),.d (.one (.bool (decide (fOk s))))]:=Spec.of_res rP s
theorem VY  (s:ByteArray):(spFRdX).out [.d (.one (.str s))]=[.gone]:=Spec.of_out rP s
noncomputable def kW :Spec:=Spec.of (ι:=ByteArray) [false] (fun i=>[.d (.one (.str i))]) (fun i=>ab 140737488355328 i.size) (fun i=>[.d (.agg (fT i).enc),.d (.one (.bool (decide (fOk i))))]) (fun _=>[.gone])
theorem xn:∀ i j:ByteArray,(fun (i:ByteArray)=>([.d (.one (.str i))]:List AV)) i=(fun (i:ByteArray)=>([.d (.one (.str i))]:List AV)) j->i=j:=by
 intro s s' h
 simpa [ap,T.enc_eq,aq,F.enc_eq,ar,Tk.enc_eq,au,Gn.enc_eq,ao,and_assoc] using h
theorem rQ :(kW).md=[false]:=rfl
theorem rR  (s:ByteArray):(kW).pre [.d (.one (.str s))]=(ab 140737488355328 s.size):=Spec.of_pre' xn s
theorem oI :(kW).alts=none:=rfl
theorem oJ  (s:ByteArray):(kW).res [.d (.one (.str s))]=[.d (.agg (fT s).enc),.d (.one (.bool (decide (fOk s))))]:=Spec.of_res xn s
theorem oK  (s:ByteArray):(kW).out [.d (.one (.str s))]=[.gone]:=Spec.of_out xn s
theorem VZ (t:Pw.F):(di t).map Pt.toC=t.enc:=by
 cases t with
 | mk k n s v l=>simp[di,EB,Pt.toC,Pw.F.enc,nd]
set_option maxHeartbeats 2000000 in
theorem Wa (hM:oF) (hE:dR) (hK:tabK) (hW:get? 0 Globs.G=some cf) (hG:get? 1 Globs.G=some dq):Sound Tryz.prog 10 spFRdX:=by
 refine aQ (GOK.cons (l:=[(24,kV),(7,fH),(26,ir)]) UH (UK hM) (GOK.cons (l:=[(7,fH),(26,ir)]) GC (Vq hE hK hW hG) (GOK.cons (l:=[(26,ir)]) FY (Gf hK hW hG) (GOK.cons GS VO GOK.nil)))) Tryz.func10 (c:=Tryz.f10.body.getD .skip) rfl (n:=32) rfl VP VQ (fun _=>by simp) ?_ ?_
 ·exact rP
 ·intro s h1
  change ab 140737488355328 s.size at h1
  simp only[ab] at h1
  have hz:¬ fOk s->di (fT s)=[.c (.int .i64 0),.c (.int .i64 0),.c (.str ⟨#[]⟩),.c (.int .i64 0),.c (.int .i64 0),.c (.str ⟨#[]⟩),.o 1 [],.o 5 [],.o 9 []]:=fun h=>by rw[VS h];rfl
  have q0:(s=⟨#[]⟩)=(s.size=0):=propext ⟨fun h=>by rw[h];rfl,fun h=>ByteArray.ext (Array.eq_empty_of_size_eq_zero h)⟩
  by_cases c0:s.size=0
  ·have e:¬ fOk s:=fun h=>VT (by have:=h.1;rw[show s=⟨#[]⟩ by rw[q0];exact c0] at this;exact this)
   have a0:(s=⟨#[]⟩)=True:=by rw[q0];exact eq_true c0
   have a1:=hz e
   have a2:fOk s=False:=eq_false e
   simp only[ng,rg,go_sem,seval,Prod.fst,a0,a1,a2]
   repeat' (first|with_reducible assumption|with_reducible refine And.intro ?_ ?_|intro _)
   all_goals first|omega|skip
  have a0:(s=⟨#[]⟩)=False:=by rw[q0];exact eq_false c0
  by_cases c1:6000 < s.size
  ·have e:¬ fOk s:=fun h=>by have:=h.2;omega
   have a3:((6000:Int) < (s.size:Int))=True:=eq_true (by omega)
   have a1:=hz e
   have a2:fOk s=False:=eq_false e
   simp only[ng,rg,go_sem,seval,Prod.fst,a0,a1,a2,a3]
   repeat' (first|with_reducible assumption|with_reducible refine And.intro ?_ ?_|intro _)
   all_goals first|omega|skip
  have a3:((6000:Int) < (s.size:Int))=False:=eq_false (by omega)
  have k7:((8:Int)-1).toNat=7:=rfl
  have w1:=VU (s:=s) (by omega)
  obtain⟨_,f1,f2,f3⟩:=wR (B:=6000) (by decide) 7 (aR s) (fun w hw=>by have:=Fq hw;omega)
  have hrt:=VV s c0
  have hft:=fun h=>Sa (s:=s) h
  generalize hT:(rdF 7 (aR s)).1=t at *
  generalize hR:(rdF 7 (aR s)).2=r at *
  have g1:t.fit 140737488355328:=F.fit_mono (by decide) f1
  have g2:t.fit 2000000:=F.fit_mono (by decide) f1
  have g3:aJ t<=1048577:=by
   have:((4 ^ 7:Nat):Int)<=1048577:=by decide
   omega
  have fl:=F.enc_len t
  cases r with
  | cons w r =>
    have e:¬ fOk s:=fun h=>by have:=(hrt.2 h.1).1;cases this
    have a1:=hz e
    have a2:fOk s=False:=eq_false e
    have a4:((0:Int) < ((r.length+1:Nat):Int))=True:=eq_true (by omega)
    simp only[ng,rg,go_sem,seval,Prod.fst,a0,a1,a2,a3,a4,k7,hT,hR,fl,bw,List.length_cons,wO,wP,rE,rF,rG,xf,xg,xh,xi,xj,gw,gx,gy,gz,gA]
    repeat' (first|with_reducible assumption|with_reducible refine And.intro ?_ ?_|intro _)
    all_goals first|omega|(unfold ab;omega)|exact w1|skip
  | nil =>
    by_cases c2:cy t=s
    ·have e0:fF s:=hrt.1 ⟨rfl,c2⟩
     have e:fOk s:=⟨e0,by omega⟩
     obtain⟨k,n,sx,vk,vn,vs,vks,vl,l,hag⟩:∃ (k n:Int) (sx:ByteArray) (vk vn:Int) (vs:ByteArray) (vks:List ByteArray) (vl:List T) (l:List Pw.F),di t=[.c (.int .i64 k),.c (.int .i64 n),.c (.str sx),.c (.int .i64 vk),.c (.int .i64 vn),.c (.str vs),.o 1 (aa vks),.o 5 (da vl),.o 9 (dh l)]:=by
      obtain⟨k,n,sx,⟨vk,vn,vs,vks,vl⟩,l⟩:=t
      exact⟨k,n,sx,vk,vn,vs,vks,vl,l,rfl⟩
     have a1:di (fT s)=di t:=congrArg di ((GT e).trans (hft e0))
     have a2:fOk s=True:=eq_true e
     have a4:=eq_true c2
     simp only[ng,rg,go_sem,seval,Prod.fst,a0,a1,hag,a2,a3,c2,k7,hT,hR,fl,bw,List.length_nil,wO,wP,rE,rF,rG,xf,xg,xh,xi,xj,gw,gx,gy,gz,gA,VJ,VK,VL,VM,VN,Bool.false_or,Bool.or_true,Bool.not_true,Bool.false_eq_true]
     repeat' (first|with_reducible assumption|with_reducible refine And.intro ?_ ?_|intro _)
     all_goals first|omega|(unfold ab;omega)|exact w1|exact g1|exact g2|exact f2|exact g3|skip
    ·have e:¬ fOk s:=fun h=>c2 (hrt.2 h.1).2
     have a1:=hz e
     have a2:fOk s=False:=eq_false e
     have a4:=eq_false c2
     simp only[ng,rg,go_sem,seval,Prod.fst,a0,a1,a2,a3,a4,k7,hT,hR,fl,bw,List.length_nil,wO,wP,rE,rF,rG,xf,xg,xh,xi,xj,gw,gx,gy,gz,gA]
     repeat' (first|with_reducible assumption|with_reducible refine And.intro ?_ ?_|intro _)
     all_goals first|omega|(unfold ab;omega)|exact w1|exact g1|exact g2|exact f2|exact g3|skip
theorem Wb (hM:oF) (hE:dR) (hK:tabK) (hW:get? 0 Globs.G=some cf) (hG:get? 1 Globs.G=some dq):Sound Tryz.prog 10 kW:=by
 have h:=(Wa hM hE hK hW hG).weak (by
  rintro ds r o ⟨s,rfl,_⟩ hm x hx
  rw[Spec.may_none VX,GU] at hm
  obtain⟨rfl,_⟩:=hm
  simp only[List.mem_cons,List.not_mem_nil,or_false] at hx
  rcases hx with rfl|rfl
  ·generalize fT s=t
   obtain⟨k,n,s,⟨vk,vn,vs,vks,vl⟩,l⟩:=t
   simp[AV.dt,Pt.dt,di,agX,dV,iL,lX,nd]
  ·trivial)
 refine h.mono ?_
 rintro args ⟨s,rfl,hs⟩
 refine⟨(oc spFRdX _).trans (VW s) ▸ hs,?_⟩
 rintro r o hm
 have hn:spFRdX.weak.alts=none:=rfl
 rw[Spec.may_none hn] at hm
 rw[Spec.may_none oI,oJ,oK]
 refine⟨hm.1.trans ?_,hm.2.trans (VY s)⟩
 show (spFRdX.res _).map AV.weak=_
 rw[GU]
 simp only[List.map_cons,List.map_nil,AV.weak,VZ]
end Go.Proofs.Pw
namespace Go.Proofs.Pw
variable [Globs]
end Go.Proofs.Pw
