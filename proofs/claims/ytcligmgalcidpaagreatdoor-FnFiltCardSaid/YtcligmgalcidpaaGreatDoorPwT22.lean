/- Filters read from texts, in the program. -/
import Derived.Test.YtcligmgalcidpaaGreatDoorPwT21
import Derived.Test.YtcligmgalcidpaaGreatDoorPwT10
import Derived.Test.YtcligmgalcidpaaGreatDoorPwT11
import Derived.Test.YtcligmgalcidpaaGreatDoorPwT14
import Derived.Test.YtcligmgalcidpaaGreatDoorPwT12
import Derived.Test.YtcligmgalcidpaaGreatDoorPwT17
set_option linter.unusedSimpArgs false
set_option linter.unusedVariables false
set_option linter.unusedSectionVars false
set_option maxRecDepth 20000
namespace Go.Proofs.Pw
variable [Globs]
def IR:X:=(.seq (.reg [xS 4 (.mv (xK 0))] none [0,1]) (.seq (.seq (.reg [xM 6 0,xS 7 (.len (.t 6) false),xS 8 (.mv (xK 0))] none [0,1,7,8]) (.block 0 (.loop (.seq (.reg [xS 9 (.bin false .lss (.t 8) (.t 7))] none [0,1,7,8,9]) (.seq (.cond (.t 9) .skip (.exit 0)) (.seq (.block 1 (.seq (.reg [xM 10 8,xM 5 10] none [0,1,5,7,8]) (.seq (.reg [xM 11 1,xM 12 0,xM 13 5,xS 14 (.ia (.t 12) (.t 13) 1),xL 15 14,xS 16 (.bin false .eql (.t 11) (.t 15))] none [0,1,5,7,8,16]) (.cond (.t 16) (.seq (.reg [xM 17 5,xM 4 17] none [4]) .ret) .skip)))) (.reg [xS 18 (.bin false .add (.t 8) (xK 1)),xM 8 18] none [0,1,7,8]))))))) (.seq (.reg [xS 4 (.mv (.k (.c (.int .i64 (-1)))))] none [4]) .ret)))
theorem Yp:ao Tryz.prog 19 (Tryz.f84.body.getD .skip) IR=true:=by kernel_rfl
theorem Yq:ap Tryz.prog Tryz.f84.results.toList [.tmp 4]=true:=by kernel_rfl
theorem Yr:ax Tryz.prog 84=true:=by kernel_rfl
def kH:X:=(.seq (.reg [xS 2 (.alloc xF)] none [0,2]) (.seq (.block 0 (.seq (.reg [xM 8 0,xS 9 (.call 80 [(.t 8),(.k (.c (.str ⟨#[61]⟩)))]),xM 7 9] none [0,2,7]) (.cond (.t 7) (.seq (.reg [xM 11 0,xS 12 (.sub (.t 11) (some (xK 1)) none 0),xS 13 (.call 81 [(.t 12)]),xM 10 13,xS 14 (.ext (.t 10) 0),xS 15 (.ext (.t 10) 1),xS 3 (.alloc xV),xW 3 14 5,xM 4 15] none [2,3]) (.seq (.reg [xS 16 (.load (.t 3) (some 5)),xS 17 (.build xF [(0,(xK 2),none),(3,(.t 16),(some 5))]),xW 2 17 9] none [2]) .ret)) (.seq (.reg [xM 19 0,xS 20 (.call 80 [(.t 19),(.k (.c (.str ⟨#[109,97,107,101,58]⟩)))]),xM 18 20] none [0,2,18]) (.cond (.t 18) (.seq (.reg [xM 21 0,xS 22 (.sub (.t 21) (some (xK 5)) none 0),xS 23 (.build xF [(0,(xK 21),none),(2,(.t 22),none)]),xW 2 23 9] none [2]) .ret) (.seq (.reg [xM 25 0,xS 26 (.len (.t 25) true),xS 27 (.bin false .gtr (.t 26) (xK 1)),xM 28 27,xG 29 28 (.mv (.t 0)),xG 30 28 (.idx (.t 29) (xK 0)),xG 31 28 (.bin false .eql (.t 30) (.k (.c (.int .u8 46)))),xS 32 (.pick (.t 28) (.t 31) (.k (.c (.bool false)))),xM 24 32] none [0,2,24]) (.cond (.t 24) (.seq (.reg [xM 33 0,xS 34 (.sub (.t 33) (some (xK 1)) none 0),xS 35 (.call 82 [(.t 34),(.k (.c (.str ⟨#[58]⟩)))]),xS 36 (.build xF [(0,(xK 3),none),(2,(.t 35),none)]),xW 2 36 9] none [2]) .ret) (.seq (.reg [xM 38 0,xS 39 (.len (.t 38) true),xS 40 (.bin false .gtr (.t 39) (xK 2)),xM 41 40,xG 42 41 (.mv (.t 0)),xG 43 41 (.idx (.t 42) (xK 0)),xG 44 41 (.bin false .eql (.t 43) (.k (.c (.int .u8 91)))),xS 45 (.pick (.t 41) (.t 44) (.k (.c (.bool false)))),xM 37 45] none [0,2,37]) (.cond (.t 37) (.seq (.reg [xM 47 0,xM 48 0,xS 49 (.len (.t 48) true),xS 50 (.bin false .sub (.t 49) (xK 1)),xS 51 (.sub (.t 47) (some (xK 1)) (some (.t 50)) 0),xS 52 (.call 83 [(.t 51)]),xM 46 52,xS 53 (.ext (.t 46) 0),xS 54 (.ext (.t 46) 1),xM 5 53,xM 6 54] none [2,5]) (.seq (.reg [xM 55 5,xS 56 (.build xF [(0,(xK 4),none),(1,(.t 55),none)]),xW 2 56 9] none [2]) .ret)) .skip))))))))) (.seq (.reg [xS 57 (.glb 0),xS 58 (.sub (.t 57) (some (xK 1)) none 1),xM 59 0,xS 60 (.call 84 [(.t 58),(.t 59)]),xS 61 (.bin false .add (.t 60) (xK 1)),xS 62 (.mm true (.t 61) (xK 0)),xS 63 (.build xF [(0,(.t 62),none)]),xW 2 63 9] none [2]) .ret)))
theorem Ys:ao Tryz.prog 64 (Tryz.f51.body.getD .skip) kH=true:=by kernel_rfl
theorem Yt:ap Tryz.prog Tryz.f51.results.toList [.cell 2 (some 9)]=true:=by kernel_rfl
theorem Yu:ax Tryz.prog 51=true:=by kernel_rfl
noncomputable def hO :Spec:=Spec.of (ι:=(List ByteArray) × ByteArray) [false,false] (fun i=>[.d (.one (.row 1 (ae i.1))),.d (.one (.str i.2))]) (fun i=>aa 140737488355328 i.1.length) (fun i=>[.d (.one (.int .i64 (ba i.2 0 i.1)))]) (fun _=>[.gone,.gone])
theorem tv:∀ i j:(List ByteArray) × ByteArray,(fun (i:(List ByteArray) × ByteArray)=>([.d (.one (.row 1 (ae i.1))),.d (.one (.str i.2))]:List AV)) i=(fun (i:(List ByteArray) × ByteArray)=>([.d (.one (.row 1 (ae i.1))),.d (.one (.str i.2))]:List AV)) j->i=j:=by
 rintro⟨l,x⟩ ⟨l',x'⟩ h
 simp only[Prod.mk.injEq]
 simpa [ar,T.enc_eq,au,F.enc_eq,av,Tk.enc_eq,aw,Gn.enc_eq,aq,and_assoc] using h
theorem zc :(hO).md=[false,false]:=rfl
theorem zd  (l:List ByteArray) (x:ByteArray):(hO).pre [.d (.one (.row 1 (ae l))),.d (.one (.str x))]=(aa 140737488355328 l.length):=Spec.of_pre' tv (l,x)
theorem ze :(hO).alts=none:=rfl
theorem zf  (l:List ByteArray) (x:ByteArray):(hO).res [.d (.one (.row 1 (ae l))),.d (.one (.str x))]=[.d (.one (.int .i64 (ba x 0 l)))]:=Spec.of_res tv (l,x)
theorem zg  (l:List ByteArray) (x:ByteArray):(hO).out [.d (.one (.row 1 (ae l))),.d (.one (.str x))]=[.gone,.gone]:=Spec.of_out tv (l,x)
theorem Yv:Sound Tryz.prog 84 hO:=by
 refine aL GOK.nil Tryz.func84 (c:=Tryz.f84.body.getD .skip) rfl (n:=19) rfl Yp Yq (fun _=>by simp) ?_ ?_
 ·exact tv
 ·rintro⟨l,x⟩ h2
  simp only[aa] at h2
  simp only[IR,rg,go_sem,seval]
  repeat' (first|with_reducible assumption|with_reducible refine And.intro ?_ ?_|intro _)
  all_goals first|omega|assumption|skip
  refine aS (ι:=Nat) (fun i=>l.length-i) (fun i=>i<=l.length/\ba x i (l.drop i)=ba x 0 l)
   (fun i=>⟨[(0,.q (.c (.row 1 (ae l)))),(1,.q (.c (.str x))),(7,.q (.c (.int .i64 l.length))),(8,.q (.c (.int .i64 i)))],[],[]⟩) 0 ⟨Nat.zero_le _,rfl⟩ (Le.refl _) ?_
  rintro i ⟨g1,g2⟩
  rcases Nat.lt_or_ge i l.length with hlt|hge
  ·obtain⟨y,hy,hd,hmem⟩:=aY hlt
   have b1:((i:Int) < (l.length:Int))=True:=eq_true (by omega)
   have a1:=db hy
   rw[hd,ba] at g2
   simp only[rg,go_sem,seval,b1,a1]
   repeat' (first|with_reducible assumption|with_reducible refine And.intro ?_ ?_|intro _)
   all_goals first|omega|assumption|skip
   ·have h:x=y:=by assumption
    rw[<-g2,if_pos h]
   ·have h:¬ x=y:=by assumption
    rw[if_neg h] at g2
    exact⟨i+1,⟨by omega,g2⟩,by omega,Le.refl _⟩
  ·obtain rfl:i=l.length:=by omega
   have b1:((l.length:Int) < (l.length:Int))=False:=eq_false (by omega)
   rw[List.drop_length,ba] at g2
   simp only[rg,go_sem,seval,b1,<-g2]
def hdP (h:Hd):List Pt:=.c (.int .i64 h.1)::.c (.int .i64 h.2.1)::.c (.str h.2.2.1)::(h.2.2.2.enc.map .c++[.o 9 []])
theorem tx (s:ByteArray) (a:Nat):s.extract a s.size=bL ((tL s).drop a):=by rw[<-rS];exact (jK _).symm
theorem zh:((ae wtab).take wtab.length).drop 1=ae wtab.tail:=rfl
theorem zi:(1:Int)<=(wtab.length:Int):=by decide
noncomputable def nT :Spec:=Spec.of (ι:=ByteArray) [false] (fun i=>[.d (.one (.str i))]) (fun i=>aa 1000000 i.size) (fun i=>[.ag (hdP (hdI i))]) (fun _=>[.gone])
theorem tz:∀ i j:ByteArray,(fun (i:ByteArray)=>([.d (.one (.str i))]:List AV)) i=(fun (i:ByteArray)=>([.d (.one (.str i))]:List AV)) j->i=j:=by
 intro w w' h
 simpa [ar,T.enc_eq,au,F.enc_eq,av,Tk.enc_eq,aw,Gn.enc_eq,aq,and_assoc] using h
theorem Yw :(nT).md=[false]:=rfl
theorem Yx  (w:ByteArray):(nT).pre [.d (.one (.str w))]=(aa 1000000 w.size):=Spec.of_pre' tz w
theorem Yy :(nT).alts=none:=rfl
theorem Yz  (w:ByteArray):(nT).res [.d (.one (.str w))]=[.ag (hdP (hdI w))]:=Spec.of_res tz w
theorem YA  (w:ByteArray):(nT).out [.d (.one (.str w))]=[.gone]:=Spec.of_out tz w
theorem IS {w:ByteArray} {c:UInt8} {p:List UInt8} (h:(c::p).isPrefixOf (tL w)=true):(c::p).length<=w.size:=by
 have:=(List.isPrefixOf_iff_prefix.1 h).length_le
 rw[cI] at this;exact this
theorem tA {w:ByteArray} {c:UInt8} (h:0 < w.size):(bE w 0=(c.toNat:Int))=((tL w)[0]?=some c):=by
 obtain⟨x,h1,h2,_,_⟩:=eR h
 rw[h1,h2]
 exact propext ⟨fun e=>congrArg some (UInt8.toNat_inj.1 (by omega)),fun e=>by rw[Option.some.inj e]⟩
set_option maxHeartbeats 2000000 in
theorem YB (hE:ei) (hK:tabK) (hW:get? 0 Globs.G=some cv):Sound Tryz.prog 51 nT:=by
 refine aL (GOK.cons (l:=[(81,iT),(82,kG),(83,spAtoi),(84,hO)]) Fd Fe (GOK.cons (l:=[(82,kG),(83,spAtoi),(84,hO)]) Vq (Vy hE hK) (GOK.cons (l:=[(83,spAtoi),(84,hO)]) Yi Yn (GOK.cons (l:=[(84,hO)]) Fc (Fh hE) (GOK.cons Yr Yv GOK.nil))))) Tryz.func51 (c:=Tryz.f51.body.getD .skip) rfl (n:=64) rfl Ys Yt (fun _=>by simp) ?_ ?_
 ·exact tz
 ·intro w h1
  change aa 1000000 w.size at h1
  simp only[aa] at h1
  have t1:tL ⟨#[61]⟩=[61]:=rfl
  have t2:tL ⟨#[109,97,107,101,58]⟩=[109,97,107,101,58]:=rfl
  have hl:=cI w
  have z0:T.zero.enc=[.int .i64 0,.int .i64 0,.str ⟨#[]⟩,.row 1 [],.row 5 []]:=rfl
  by_cases c1:[61].isPrefixOf (tL w)=true
  ·have k1:=IS c1
   simp only[List.length_cons,List.length_nil] at k1
   have e:hdI w=(2,0,⟨#[]⟩,bQ (bL ((tL w).drop 1))):=by unfold hdI;rw[if_pos c1]
   rw[<-tx] at e
   have fl:=T.enc_len (bQ (w.extract 1 w.size))
   generalize hv:bQ (w.extract 1 w.size)=v at *
   obtain⟨vk,vn,vs,vks,vl⟩:=v
   simp only[kH,rg,go_sem,seval,Prod.fst,t1,c1,e,hdP,hv,T.enc,Int.toNat_one,iN,iO,gT,gU,gV,GZ,Ha,yr,yu,yv]
   repeat' (first|with_reducible assumption|with_reducible refine And.intro ?_ ?_|intro _)
   all_goals first|omega|(unfold aa;rw[ByteArray.size_extract];omega)|skip
  have c1:[61].isPrefixOf (tL w)=false:=Bool.not_eq_true _ |>.mp c1
  by_cases c2:[109,97,107,101,58].isPrefixOf (tL w)=true
  ·have k1:=IS c2
   simp only[List.length_cons,List.length_nil] at k1
   have e:hdI w=(21,0,bL ((tL w).drop 5),T.zero):=by unfold hdI;rw[c1,if_neg (by simp),if_pos c2]
   rw[<-tx] at e
   simp only[kH,rg,go_sem,seval,Prod.fst,t1,t2,c1,c2,e,hdP,z0,iN,iO,gT,gU,gV]
   repeat' (first|with_reducible assumption|with_reducible refine And.intro ?_ ?_|intro _)
   all_goals first|omega|(unfold aa;omega)|skip
  have c2:[109,97,107,101,58].isPrefixOf (tL w)=false:=Bool.not_eq_true _ |>.mp c2
  have e12:∀ x:Hd,(if [61].isPrefixOf (tL w) then (2,0,⟨#[]⟩,bQ (bL ((tL w).drop 1))) else if [109,97,107,101,58].isPrefixOf (tL w) then (21,0,bL ((tL w).drop 5),T.zero) else x)=x:=fun x=>by rw[c1,c2];rfl
  have z1:(0:Int).toNat=0:=rfl
  have t3:tL ⟨#[58]⟩=[58]:=rfl
  have hr:=wc (x:=w) (l:=wtab.tail) (i:=0)
  have hr2:ba w 0 wtab.tail < 21:=by have:=hr.2;rw[show wtab.tail.length=21 from rfl] at this;omega
  have hmx:max (ba w 0 wtab.tail+1) 0=ba w 0 wtab.tail+1:=by omega
  have hwl:aa 140737488355328 wtab.tail.length:=by unfold aa;decide
  by_cases d1:1 < w.size
  ·have b1:((1:Int) < (w.size:Int))=True:=eq_true (by omega)
   by_cases c3:(tL w)[0]?=some 46
   ·have b2:(bE w 0=46)=True:=by rw[show (46:Int)=((46:UInt8).toNat:Int) from rfl,tA (by omega)];exact eq_true c3
    have e:hdI w=(3,0,bL (kw ((tL w).drop 1)),T.zero):=by unfold hdI;rw[e12,if_pos ⟨by omega,c3⟩]
    simp only[kH,rg,go_sem,seval,Prod.fst,t1,t2,c1,c2,b1,b2,z1,e,rS,Int.toNat_one,hdP,z0,iN,iO,gT,gU,gV,Yl,Ym,IH,II,IJ]
    repeat' (first|with_reducible assumption|with_reducible refine And.intro ?_ ?_|intro _)
    all_goals first|omega|(unfold aa;rw[ByteArray.size_extract];omega)|skip
   have b2:(bE w 0=46)=False:=by rw[show (46:Int)=((46:UInt8).toNat:Int) from rfl,tA (by omega)];exact eq_false c3
   by_cases d2:2 < w.size
   ·have b3:((2:Int) < (w.size:Int))=True:=eq_true (by omega)
    by_cases c4:(tL w)[0]?=some 91
    ·have b4:(bE w 0=91)=True:=by rw[show (91:Int)=((91:UInt8).toNat:Int) from rfl,tA (by omega)];exact eq_true c4
     have e:hdI w=(4,eg (sub (tL w) 1 ((tL w).length-1)),⟨#[]⟩,T.zero):=by unfold hdI;rw[e12,if_neg (fun h=>c3 h.2),if_pos ⟨by omega,c4⟩]
     have e5:((w.size:Int)-1).toNat=w.size-1:=by omega
     have e6:tL (w.extract 1 (w.size-1))=sub (tL w) 1 ((tL w).length-1):=by rw[bI,de,hl]
     simp only[kH,rg,go_sem,seval,Prod.fst,t1,t2,c1,c2,b1,b2,b3,b4,z1,e,e5,e6,Int.toNat_one,hdP,z0,iN,iO,gT,gU,gV,Ff,Fg,wW,wX,wY]
     repeat' (first|with_reducible assumption|with_reducible refine And.intro ?_ ?_|intro _)
     all_goals first|omega|(unfold aa;rw[ByteArray.size_extract];omega)|skip
    ·have b4:(bE w 0=91)=False:=by rw[show (91:Int)=((91:UInt8).toNat:Int) from rfl,tA (by omega)];exact eq_false c4
     have e:hdI w=(ba w 0 wtab.tail+1,0,⟨#[]⟩,T.zero):=by unfold hdI;rw[e12,if_neg (fun h=>c3 h.2),if_neg (fun h=>c4 h.2)]
     simp only[kH,rg,go_sem,seval,Prod.fst,t1,t2,c1,c2,b1,b2,b3,b4,z1,e,hW,cv,zh,hmx,Int.toNat_one,hdP,z0,iN,iO,gT,gU,gV,zc,zd,ze,zf,zg]
     repeat' (first|with_reducible assumption|with_reducible refine And.intro ?_ ?_|intro _)
     all_goals first|omega|exact hwl|exact zi|skip
   ·have b3:((2:Int) < (w.size:Int))=False:=eq_false (by omega)
    have e:hdI w=(ba w 0 wtab.tail+1,0,⟨#[]⟩,T.zero):=by unfold hdI;rw[e12,if_neg (fun h=>c3 h.2),if_neg (fun h=>by omega)]
    simp only[kH,rg,go_sem,seval,Prod.fst,t1,t2,c1,c2,b1,b2,b3,z1,e,hW,cv,zh,hmx,Int.toNat_one,hdP,z0,iN,iO,gT,gU,gV,zc,zd,ze,zf,zg]
    repeat' (first|with_reducible assumption|with_reducible refine And.intro ?_ ?_|intro _)
    all_goals first|omega|exact hwl|exact zi|skip
  ·have b1:((1:Int) < (w.size:Int))=False:=eq_false (by omega)
   have b3:((2:Int) < (w.size:Int))=False:=eq_false (by omega)
   have e:hdI w=(ba w 0 wtab.tail+1,0,⟨#[]⟩,T.zero):=by unfold hdI;rw[e12,if_neg (fun h=>by omega),if_neg (fun h=>by omega)]
   simp only[kH,rg,go_sem,seval,Prod.fst,t1,t2,c1,c2,b1,b3,z1,e,hW,cv,zh,hmx,Int.toNat_one,hdP,z0,iN,iO,gT,gU,gV,zc,zd,ze,zf,zg]
   repeat' (first|with_reducible assumption|with_reducible refine And.intro ?_ ?_|intro _)
   all_goals first|omega|exact hwl|exact zi|skip
end Go.Proofs.Pw
namespace Go.Proofs.Pw
mutual
theorem F.fit_mono {A B:Int} (hAB:A<=B):∀ {t:F},t.fit A->t.fit B
 | .mk k n s v l,h=>by
   simp only[F.fit,aa] at h ⊢
   obtain⟨h1,h2,h3,h4,h6,h7⟩:=h
   exact⟨h1,h2,by omega,T.fit_mono hAB h4,by omega,IT hAB h7⟩
theorem IT {A B:Int} (hAB:A<=B):∀ {l:List F},bG A l->bG B l
 | [],_=>trivial
 | _::_,h=>⟨F.fit_mono hAB h.1,IT hAB h.2⟩
end
def F.num:F->Int
 | .mk _ n _ _ _=>n
def drF (m:Int) (t:F):Prop:=t.fit 1000/\cf t/\aX t<=m/\-1000<=t.num/\t.num<=1000
def drFW (m:Int) (t:F):Prop:=t.fit 100000/\cf t/\aX t<=m/\-1000<=t.num/\t.num<=1000
theorem drF.fit {m:Int} {t:F} (h:drF m t):t.fit 140737488355328:=F.fit_mono (by decide) h.1
theorem drFW.fit {m:Int} {t:F} (h:drFW m t):t.fit 140737488355328:=F.fit_mono (by decide) h.1
theorem drF.mono {m n:Int} (hmn:m<=n) {t:F} (h:drF m t):drF n t:=⟨h.1,h.2.1,Int.le_trans h.2.2.1 hmn,h.2.2.2⟩
theorem drFW.mono {m n:Int} (hmn:m<=n) {t:F} (h:drFW m t):drFW n t:=⟨h.1,h.2.1,Int.le_trans h.2.2.1 hmn,h.2.2.2⟩
theorem drF.w {m:Int} {t:F} (h:drF m t):drFW m t:=⟨F.fit_mono (by decide) h.1,h.2.1,h.2.2⟩
theorem IU {B:Int} {a b:List F} (h:bG B a) (h':bG B b):bG B (a++b):=by
 induction a with
 | nil=>exact h'
 | cons t a ih=>exact⟨h.1,ih h.2⟩
theorem IV {a b:List F} (h:bT a) (h':bT b):bT (a++b):=by
 induction a with
 | nil=>exact h'
 | cons t a ih=>simp only[List.cons_append,bT] at h ⊢;exact⟨h.1,ih h.2⟩
theorem IW (a b:List F):aI (a++b)=aI a+aI b:=by
 induction a with
 | nil=>simp[aI]
 | cons t a ih=>simp only[List.cons_append,aI,ih];omega
theorem nU (a b:List F):aD (a++b)=aD a++aD b:=by
 induction a with
 | nil=>simp[aD]
 | cons t a ih=>simp only[List.cons_append,aD,ih]
theorem eB:T.zero.fit 1000/\aB T.zero=1:=by
 refine⟨⟨by unfold i64;omega,by unfold i64;omega,by unfold aa;decide,⟨by simp[aa],by simp⟩,by simp[aa],trivial⟩,by simp[T.zero,aB,az]⟩
theorem pN {m k n:Int} {s:ByteArray} {v:T} {l:List F} (hk:i64 k) (hn:i64 n/\-1000<=n/\n<=1000) (hs:(s.size:Int)<=1000) (hv:v.fit 1000) (hv':aB v<=1048577) (hl:l.length<=1000) (h4:bG 1000 l) (h5:bT l) (h6:1+aI l<=m):drF m (.mk k n s v l) :=
 ⟨⟨hk,hn.1,hs,hv,by unfold aa;omega,h4⟩,by simp only[cf];exact⟨hv',h5⟩,by simpa only [aX] using h6,hn.2⟩
theorem zj {k n:Int} {s:ByteArray} {v:T} (hk:i64 k) (hn:i64 n/\-1000<=n/\n<=1000) (hs:(s.size:Int)<=1000) (hv:v.fit 1000) (hv':aB v<=1048577):drF 1 (.mk k n s v []) :=
 pN hk hn hs hv hv' (by simp) trivial (by simp[bT]) (by simp[aI])
def fb:Nat->Int
 | 0=>1100
 | k+1=>1100+3*fb k
theorem lX:∀ k,1100<=fb k
 | 0=>by simp[fb]
 | k+1=>by have:=lX k;simp only[fb];omega
theorem YC {d:Nat} (h:d<=4):fb d<=140000:=by
 rcases d with _|_|_|_|_|d
 ·decide
 ·decide
 ·decide
 ·decide
 ·decide
 ·omega
mutual
theorem YD:∀ {t:F} {d e:Int},d<=e->aU t d->aU t e
 | .mk k n s v l,d,e,h,hf=>by
   simp only[aU] at hf ⊢
   exact⟨by omega,hf.2.1,hf.2.2.1,hf.2.2.2.1,hf.2.2.2.2.1,hf.2.2.2.2.2.1,hf.2.2.2.2.2.2.1,IX (show d-1<=e-1 by omega) hf.2.2.2.2.2.2.2.1,hf.2.2.2.2.2.2.2.2⟩
theorem IX:∀ {l:List F} {d e:Int},d<=e->bA l d->bA l e
 | [],_,_,_,_=>by simp[bA]
 | t::l,d,e,h,hf=>by
   simp only[bA] at hf ⊢
   exact⟨YD h hf.1,IX h hf.2⟩
end
end Go.Proofs.Pw
namespace Go.Proofs.Pw
variable [Globs]
def pO:X:=(.seq (.reg [xS 4 (.alloc xF),xS 5 (.mv (.k (.z 1)))] none [0,1,4]) (.seq (.seq (.reg [xM 10 0,xS 11 (.len (.t 10) false),xS 12 (.bin false .eql (.t 11) (xK 0)),xM 13 12,xH 14 13 (.mv (.t 1)),xH 15 13 (.bin false .gtr (.t 14) (xK 7)),xS 16 (.pick (.t 13) (.k (.c (.bool true))) (.t 15))] none [0,1,4,16]) (.cond (.t 16) (.seq (.reg [xS 17 (.build xF []),xW 4 17 9,xS 5 (.mv (.k (.z 1)))] none [4,5]) .ret) .skip)) (.seq (.reg [xM 18 0,xS 19 (.ia (.t 18) (xK 0) 1),xL 20 19,xS 21 (.call 51 [(.t 20)]),xS 6 (.alloc xF),xW 6 21 9] none [0,1,4,6]) (.seq (.reg [xM 22 0,xS 23 (.sub (.t 22) (some (xK 1)) none 1),xM 7 23] none [1,4,6,7]) (.seq (.seq (.reg [xS 24 (.glb 1),xS 25 (.fa (.t 6) 0),xL 26 25,xS 27 (.ia (.t 24) (.t 26) 1),xL 28 27,xS 29 (.mv (xK 0))] none [1,4,6,7,28,29]) (.block 0 (.loop (.seq (.reg [xS 30 (.bin false .lss (.t 29) (.t 28))] none [1,4,6,7,28,29,30]) (.seq (.cond (.t 30) .skip (.exit 0)) (.seq (.block 1 (.seq (.reg [xM 32 7,xM 33 1,xS 34 (.bin false .add (.t 33) (xK 1)),xS 35 (.call 24 [(.t 32),(.t 34)]),xM 31 35,xS 36 (.ext (.t 31) 0),xS 37 (.ext (.t 31) 1),xS 8 (.alloc xF),xW 8 36 9,xM 9 37] none [1,4,6,8,9,28,29]) (.seq (.reg [xS 38 (.fa (.t 6) 8),xL 39 38,xS 40 (.load (.t 8) (some 9)),xS 41 (.bsl 9 [((.t 40),(some 9))]),xS 42 (.app (.t 39) (.t 41) 9 136 []),xS 43 (.fa (.t 6) 8),⟨none,none,.st (.t 43) (.t 42) none⟩] none [1,4,6,9,28,29]) (.reg [xM 44 9,xM 7 44] none [1,4,6,7,28,29])))) (.reg [xS 45 (.bin false .add (.t 29) (xK 1)),xM 29 45] none [1,4,6,7,28,29]))))))) (.seq (.reg [xS 46 (.load (.t 6) (some 9)),xM 47 7,xW 4 46 9,xM 5 47] none [4,5]) .ret))))))
theorem YE:ao Tryz.prog 48 (Tryz.f24.body.getD .skip) pO=true:=by kernel_rfl
theorem YF:ap Tryz.prog Tryz.f24.results.toList [.cell 4 (some 9),.tmp 5]=true:=by kernel_rfl
theorem IY:ax Tryz.prog 24=true:=by kernel_rfl
def fF (ws:List ByteArray):Prop:=(ws.length:Int)<=1000001/\∀ w ∈ ws,(w.size:Int)<=1000000
theorem zk {a b:List ByteArray} (h:fF b) (hs:a <:+ b):fF a:=⟨by have:=hs.length_le;have:=h.1;omega,fun w hw=>h.2 w (hs.subset hw)⟩
noncomputable def jf (k:Nat):Spec:=Spec.of (ι:=(List ByteArray) × Int) [false,false] (fun i=>[.d (.one (.row 1 (ae i.1))),.d (.one (.int .i64 i.2))]) (fun i=>(fF i.1/\1<=i.2/\i.2<=8)/\(8-i.2).toNat < k) (fun i=>[.d (.agg (rdF (8-i.2).toNat i.1).1.enc),.d (.one (.row 1 (ae (rdF (8-i.2).toNat i.1).2)))]) (fun _=>[.gone,.gone])
theorem tB:∀ i j:(List ByteArray) × Int,(fun (i:(List ByteArray) × Int)=>([.d (.one (.row 1 (ae i.1))),.d (.one (.int .i64 i.2))]:List AV)) i=(fun (i:(List ByteArray) × Int)=>([.d (.one (.row 1 (ae i.1))),.d (.one (.int .i64 i.2))]:List AV)) j->i=j:=by
 rintro⟨ws,n⟩ ⟨ws',n'⟩ h
 simp only[Prod.mk.injEq]
 simpa [ar,T.enc_eq,au,F.enc_eq,av,Tk.enc_eq,aw,Gn.enc_eq,aq,and_assoc] using h
theorem YG (k:Nat):(jf k).md=[false,false]:=rfl
theorem YH (k:Nat) (ws:List ByteArray) (n:Int):(jf k).pre [.d (.one (.row 1 (ae ws))),.d (.one (.int .i64 n))]=((fF ws/\1<=n/\n<=8)/\(8-n).toNat < k):=Spec.of_pre' tB (ws,n)
theorem YI (k:Nat):(jf k).alts=none:=rfl
theorem YJ (k:Nat) (ws:List ByteArray) (n:Int):(jf k).res [.d (.one (.row 1 (ae ws))),.d (.one (.int .i64 n))]=[.d (.agg (rdF (8-n).toNat ws).1.enc),.d (.one (.row 1 (ae (rdF (8-n).toNat ws).2)))]:=Spec.of_res tB (ws,n)
theorem YK (k:Nat) (ws:List ByteArray) (n:Int):(jf k).out [.d (.one (.row 1 (ae ws))),.d (.one (.int .i64 n))]=[.gone,.gone]:=Spec.of_out tB (ws,n)
theorem pP:F0.enc=[.int .i64 0,.int .i64 0,.str ⟨#[]⟩,.int .i64 0,.int .i64 0,.str ⟨#[]⟩,.row 1 [],.row 5 [],.row 9 []]:=rfl
theorem YL {k:Int} (h1:0<=k) (h2:k<=21):((ktab.map fun m=>[C.int .i64 m]).getD k.toNat [])=[C.int .i64 (bW k)]:=by
 rw[Dd (by omega)]
 have h3:∀ i:Fin 22,ktab.getD i.val 0=((ktab.getD i.val 0).toNat:Int):=by decide
 have h4:=h3 ⟨k.toNat,by omega⟩
 simp only at h4
 unfold bW
 rw[<-h4]
theorem YM (f:List ByteArray->F × List ByteArray) (n:Nat) (ws:List ByteArray):cw f (n+1) ws=((f ws).1::(cw f n (f ws).2).1,(cw f n (f ws).2).2):=rfl
theorem YN (f:List ByteArray->F × List ByteArray) (ws:List ByteArray):cw f 0 ws=([],ws):=rfl
theorem IZ (w:ByteArray) (ws:List ByteArray):((ae (w::ws)).take (ws.length+1)).drop 1=ae ws:=by
 rw[List.take_of_length_le (by rw[aT];simp)];rfl
set_option maxHeartbeats 4000000 in
theorem YO (hE:ei) (hK:tabK) (hW:get? 0 Globs.G=some cv) (hG:get? 1 Globs.G=some dI) (k:Nat) (hS:Sound Tryz.prog 24 (jf k)):Sound Tryz.prog 24 (jf (k+1)):=by
 refine aL (GOK.cons (l:=[(24,jf k)]) Yu (YB hE hK hW) (GOK.cons IY hS GOK.nil)) Tryz.func24 (c:=Tryz.f24.body.getD .skip) rfl (n:=48) rfl YE YF (fun _=>by simp) ?_ ?_
 ·exact tB
 ·rintro⟨ws,n⟩ ⟨⟨h1,h2,h3⟩,h4⟩
  simp only at h1 h2 h3 h4
  have z1:ae []=[]:=rfl
  have z2:aD []=[]:=rfl
  by_cases c0:n=8
  ·subst c0
   have b0:((7:Int) < 8)=True:=eq_true (by omega)
   have e:(8-(8:Int)).toNat=0:=rfl
   have e2:rdF 0 ws=(F0,[]):=by rw[rdF]
   cases ws with
   | nil =>
     simp only[pO,rg,go_sem,seval,Prod.fst,b0,e,e2,pP,z1,aT,List.length_nil]
     repeat' (first|with_reducible assumption|with_reducible refine And.intro ?_ ?_|intro _)
     all_goals first|omega|skip
   | cons w ws =>
     have b1:(((ws.length+1:Nat):Int)=0)=False:=eq_false (by omega)
     simp only[pO,rg,go_sem,seval,Prod.fst,b0,b1,e,e2,pP,z1,aT]
     repeat' (first|with_reducible assumption|with_reducible refine And.intro ?_ ?_|intro _)
     all_goals first|omega|skip
  obtain⟨d,he⟩:∃ d,(8-n).toNat=d+1:=⟨(8-n).toNat-1,by omega⟩
  have he':(8-(n+1)).toNat=d:=by omega
  have b0:((7:Int) < n)=False:=eq_false (by omega)
  cases ws with
  | nil =>
    have e2:rdF (d+1) []=(F0,[]):=by rw[rdF]
    simp only[pO,rg,go_sem,seval,Prod.fst,b0,he,e2,pP,z1,aT,List.length_nil]
    repeat' (first|with_reducible assumption|with_reducible refine And.intro ?_ ?_|intro _)
    all_goals first|omega|skip
  | cons w ws =>
    have b1:(((ws.length+1:Nat):Int)=0)=False:=eq_false (by omega)
    have a0:(ae (w::ws)).getD 0 []=[C.str w]:=rfl
    have hw:=h1.2 w (by simp)
    have hok:=IM hw
    have hws:fF ws:=zk h1 (List.suffix_cons _ _)
    have e2:rdF (d+1) (w::ws)=(dP (hdI w) (cw (rdF d) (bW (hdI w).1) ws).1,(cw (rdF d) (bW (hdI w).1) ws).2):=rfl
    have hgood:∀ r:List ByteArray,r <:+ ws->(rdF d r).2 <:+ ws:=fun r hr=>((tu (B:=1000000) (by decide) d r (zk hws hr).2).1).trans hr
    generalize hI:hdI w=hd at *
    obtain⟨kk,m,s,vk,vn,vs,vks,vl⟩:=hd
    obtain⟨⟨o1,o2⟩,o3,o4,o5⟩:=hok
    simp only at o1 o2 o3 o4 o5
    have kk3:=IL kk
    have a1:=YL o1 o2
    have z0:(0:Int).toNat=0:=rfl
    simp only[pO,rg,go_sem,seval,Prod.fst,b0,b1,he,e2,hI,hdP,T.enc,a0,a1,hG,dI,Df,aT,IZ,z0,Yw,Yx,Yy,Yz,YA]
    repeat' (first|with_reducible assumption|with_reducible refine And.intro ?_ ?_|intro _)
    all_goals first|omega|(unfold aa;omega)|skip
    refine aS (ι:=List Pw.F × List ByteArray) (fun i=>bW kk-i.1.length) (fun i=>i.1.length<=bW kk/\i.2 <:+ ws/\cw (rdF d) (bW kk) ws=(i.1++(cw (rdF d) (bW kk-i.1.length) i.2).1,(cw (rdF d) (bW kk-i.1.length) i.2).2))
     (fun i=>⟨[(1,.q (.c (.int .i64 n))),(4,.q (.box 4 0)),(6,.q (.box 6 0)),(7,.q (.c (.row 1 (ae i.2)))),(28,.q (.c (.int .i64 (bW kk)))),(29,.q (.c (.int .i64 i.1.length)))],
      [(4,[.c (.int .i64 0),.c (.int .i64 0),.c (.str ⟨#[]⟩),.c (.int .i64 0),.c (.int .i64 0),.c (.str ⟨#[]⟩),.z 1,.z 5,.z 9]),
       (6,[.c (.int .i64 kk),.c (.int .i64 m),.c (.str s),.c (.int .i64 vk),.c (.int .i64 vn),.c (.str vs),.c (.row 1 (ae vks)),.c (.row 5 (ak vl)),.own 2200008])],
      [(2200008,9,aD i.1)]⟩) ([],ws) ⟨by simp,List.suffix_refl _,by simp⟩ (Le.of_eq (by simp[IZ,aD])) ?_
    rintro⟨acc,r⟩ ⟨g1,g2,g3⟩
    simp only at g1 g2 g3
    have hr:=zk hws g2
    rcases Nat.lt_or_ge acc.length (bW kk) with hlt|hge
    ·have b2:((acc.length:Int) < (bW kk:Int))=True:=eq_true (by omega)
     obtain⟨c,hc⟩:∃ c,bW kk-acc.length=c+1:=⟨bW kk-acc.length-1,by omega⟩
     rw[hc,YM] at g3
     have hlen:=F.enc_len (rdF d r).1
     simp only[rg,go_sem,seval,Prod.fst,b2,he',hlen,bK,YG,YH,YI,YJ,YK]
     repeat' (first|with_reducible assumption|with_reducible refine And.intro ?_ ?_|intro _)
     all_goals first|omega|exact hr|skip
     have e7:bW kk-(acc++[(rdF d r).1]).length=c:=by simp;omega
     refine⟨(acc++[(rdF d r).1],(rdF d r).2),⟨by simp;omega,hgood r g2,?_⟩,by simp;omega,Le.sub (by simp) (by simp) (by simp[nU,aD])⟩
     simp only[e7];rw[g3];simp
    ·have b2:((acc.length:Int) < (bW kk:Int))=False:=eq_false (by omega)
     rw[show bW kk-acc.length=0 by omega,YN] at g3
     simp only[List.append_nil] at g3
     simp only[rg,go_sem,seval,Prod.fst,b2,g3,dP,F.enc,T.enc,bK,List.cons_append,List.nil_append]
     repeat' (first|with_reducible assumption|with_reducible refine And.intro ?_ ?_|intro _)
     all_goals first|omega|skip
theorem YP (hE:ei) (hK:tabK) (hW:get? 0 Globs.G=some cv) (hG:get? 1 Globs.G=some dI) (k:Nat):Sound Tryz.prog 24 (jf k):=by
 induction k with
 | zero=>exact Sound.none
 | succ k ih=>exact YO hE hK hW hG k ih
noncomputable def lY :Spec:=Spec.of (ι:=(List ByteArray) × Int) [false,false] (fun i=>[.d (.one (.row 1 (ae i.1))),.d (.one (.int .i64 i.2))]) (fun i=>fF i.1/\1<=i.2/\i.2<=8) (fun i=>[.d (.agg (rdF (8-i.2).toNat i.1).1.enc),.d (.one (.row 1 (ae (rdF (8-i.2).toNat i.1).2)))]) (fun _=>[.gone,.gone])
theorem zl:∀ i j:(List ByteArray) × Int,(fun (i:(List ByteArray) × Int)=>([.d (.one (.row 1 (ae i.1))),.d (.one (.int .i64 i.2))]:List AV)) i=(fun (i:(List ByteArray) × Int)=>([.d (.one (.row 1 (ae i.1))),.d (.one (.int .i64 i.2))]:List AV)) j->i=j:=by
 rintro⟨ws,n⟩ ⟨ws',n'⟩ h
 simp only[Prod.mk.injEq]
 simpa [ar,T.enc_eq,au,F.enc_eq,av,Tk.enc_eq,aw,Gn.enc_eq,aq,and_assoc] using h
theorem zm :(lY).md=[false,false]:=rfl
theorem zn  (ws:List ByteArray) (n:Int):(lY).pre [.d (.one (.row 1 (ae ws))),.d (.one (.int .i64 n))]=(fF ws/\1<=n/\n<=8):=Spec.of_pre' zl (ws,n)
theorem zo :(lY).alts=none:=rfl
theorem zp  (ws:List ByteArray) (n:Int):(lY).res [.d (.one (.row 1 (ae ws))),.d (.one (.int .i64 n))]=[.d (.agg (rdF (8-n).toNat ws).1.enc),.d (.one (.row 1 (ae (rdF (8-n).toNat ws).2)))]:=Spec.of_res zl (ws,n)
theorem zq  (ws:List ByteArray) (n:Int):(lY).out [.d (.one (.row 1 (ae ws))),.d (.one (.int .i64 n))]=[.gone,.gone]:=Spec.of_out zl (ws,n)
theorem YQ (hE:ei) (hK:tabK) (hW:get? 0 Globs.G=some cv) (hG:get? 1 Globs.G=some dI):Sound Tryz.prog 24 lY:=Sound.all (μ:=fun i=>(8-i.2).toNat) (YP hE hK hW hG)
end Go.Proofs.Pw
namespace Go.Proofs.Pw
theorem YR:∀ {f:Nat} {k:Int} {out:ByteArray},(rD f k out).size<=out.size+f:=by
 intro f
 induction f with
 | zero=>intro k out;exact Nat.le_refl _
 | succ f ih =>
   intro k out
   simp only[rD]
   split
   ·have:=ih (k:=k.tdiv 10) (out:=gD [48+k.tmod 10]++out)
    rw[ByteArray.size_append,show (gD [48+k.tmod 10]).size=1 from rfl] at this
    omega
   ·omega
theorem zt {k:Int} (h:0<=k):((mkS k).size:Int)<=k+2:=by
 unfold mkS
 split
 ·show ((2:Nat):Int)<=_;omega
 ·have:=YR (f:=k.toNat) (k:=k) (out:=⟨#[]⟩)
  rw[ByteArray.size_append]
  have e1:(ByteArray.mk #[109]).size=1:=rfl
  have e2:(ByteArray.mk #[]).size=0:=rfl
  rw[e1];rw[e2] at this;omega
theorem Ja {B:Int}:∀ {ks:List ByteArray} {k:Int},0<=k->k+ks.length+2<=B->∀ s ∈ fW ks k,aa B s.size
 | [],_,_,_=>by simp[fW]
 | _::r,k,h,hb=>by
   intro s hs
   simp only[List.length_cons] at hb
   simp only[fW,List.mem_cons] at hs
   rcases hs with rfl|hs
   ·have:=zt h;unfold aa;omega
   ·exact Ja (by omega) (by omega) s hs
mutual
theorem Jb {B:Int} (hB:B<=4611686018427387904):∀ {t:T} {k:Int},t.fit B->0<=k->k+nmT t+2<=B->(mkT t k).fit B
 | .mk _ _ _ ks l,k,h,h0,hb=>by
   simp only[T.fit] at h
   obtain⟨_,_,f1,f2,f3,f4⟩:=h
   have c1:=rG l
   simp only[nmT] at hb
   have:=zt (k:=k+2) (by omega)
   refine⟨by unfold i64;omega,by unfold i64;omega,by unfold aa;omega,⟨by rw[rE];exact f2.1,Ja (by omega) (by omega)⟩,by rw[Ec];exact f3,Jc hB f4 (by omega) (by omega)⟩
theorem Jc {B:Int} (hB:B<=4611686018427387904):∀ {l:List T} {k:Int},bt B l->0<=k->k+nmL l+2<=B->bt B (mkL l k)
 | [],_,_,_,_=>trivial
 | t::r,k,h,h0,hb=>by
   simp only[bt] at h
   have c1:=rG r
   have c2:=rF t
   simp only[nmL] at hb
   exact⟨Jb hB h.1 h0 (by omega),Jc hB h.2 (by omega) (by omega)⟩
end
mutual
theorem YS:∀ {t:T},t.fit 60->nmT t<=63*aB t
 | .mk _ _ _ ks l,h=>by
   simp only[T.fit,cA,aa] at h
   obtain⟨_,_,_,⟨f1,_⟩,_,f4⟩:=h
   have:=Jd f4
   simp only[nmT,aB];omega
theorem Jd:∀ {l:List T},bt 60 l->nmL l<=63*az l
 | [],_=>by simp[nmL,az]
 | t::r,h=>by
   simp only[bt] at h
   have:=YS h.1
   have:=Jd h.2
   simp only[nmL,az];omega
end
end Go.Proofs.Pw
namespace Go.Proofs.Pw
mutual
def F.encX:F->List C
 | .mk k n s v l=>[.int .i64 k,.int .i64 n,.str s]++v.encX++[.own 9 (dB l)]
def dB:List F->List (List C)
 | []=>[]
 | t::l=>t.encX::dB l
end
def dC:F->List Pt
 | .mk k n s v l=>[.c (.int .i64 k),.c (.int .i64 n),.c (.str s)]++agX v++[.o 9 (dB l)]
theorem Je (l:List F):dB l=l.map F.encX:=by
 induction l with
 | nil=>simp[dB]
 | cons t l ih=>simp[dB,ih]
theorem YT (l:List F):(dB l).length=l.length:=by rw[Je];simp
theorem F.encX_len (t:F):t.encX.length=9:=by cases t;simp[F.encX,T.encX_len]
theorem YU {l:List F} {i:Nat} {t:F} (h:l[i]?=some t):dB (l.take (i+1))=dB (l.take i)++[t.encX]:=by
 rw[List.take_add_one,h];simp[Je]
theorem tC:∀ (a b a' b':List C),dtL a=some a'->dtL b=some b'->dtL (a++b)=some (a'++b')
 | [],b,a',b',h,h'=>by simp only[dtL,Option.some.injEq] at h;subst h;exact h'
 | c::a,b,a',b',h,h'=>by
   simp only[dtL] at h
   cases hc:dtC c with
   | none=>simp[hc] at h
   | some c' =>
     cases ha:dtL a with
     | none=>simp[hc,ha] at h
     | some a2 =>
       simp only[hc,ha] at h
       have e:=Option.some.inj h
       simp only[List.cons_append,dtL,hc,tC a b a2 b' ha h',<-e]
mutual
theorem YV:∀ t:F,dtL t.encX=some t.enc
 | .mk k n s v l=>tC _ _ _ _ (tC [.int .i64 k,.int .i64 n,.str s] _ _ _ (by simp[dtL,dtC]) (wB v)) (by simp[dtL,dtC,nV l])
theorem nV:∀ l:List F,dtR (dB l)=some (aD l)
 | []=>rfl
 | t::l=>by simp[dB,aD,dtR,YV t,nV l]
end
theorem zu:∀ (a b:List C),flL (a++b)=(flL a && flL b)
 | [],b=>by simp[flL]
 | c::a,b=>by simp only[List.cons_append,flL,zu a b,Bool.and_assoc]
mutual
theorem YW:∀ t:F,flL t.encX=true
 | .mk k n s v l=>by
   simp only[F.encX,zu,wC v,flL,flC,tD l,Bool.and_true]
theorem tD:∀ l:List F,flR (dB l)=true
 | []=>rfl
 | t::l=>by simp[dB,flR,YW t,tD l]
end
mutual
def nmF:F->Int
 | .mk _ _ _ v l=>3+nmT v+hU l
def hU:List F->Int
 | []=>0
 | t::l=>nmF t+hU l
end
mutual
def mkF:F->Int->F
 | .mk _ _ _ v l,k=>.mk k (k+1) (mkS (k+2)) (mkT v (k+3)) (gC l (k+3+nmT v))
def gC:List F->Int->List F
 | [],_=>[]
 | t::l,k=>mkF t k::gC l (k+nmF t)
end
theorem Jf:∀ {l:List F} {k:Int},(gC l k).length=l.length
 | [],_=>rfl
 | _::r,k=>by simp[gC,Jf (l:=r)]
mutual
theorem Jg:∀ t:F,6<=nmF t
 | .mk _ _ _ v l=>by have:=rF v;have:=tE l;simp only[nmF];omega
theorem tE:∀ l:List F,0<=hU l
 | []=>by simp[hU]
 | t::l=>by have:=Jg t;have:=tE l;simp only[hU];omega
end
mutual
theorem Jh:∀ (t:F) (k:Int),nmF (mkF t k)=nmF t
 | .mk _ _ _ v l,k=>by simp only[mkF,nmF,rH,Ji l]
theorem Ji:∀ (l:List F) (k:Int),hU (gC l k)=hU l
 | [],_=>rfl
 | t::l,k=>by simp only[gC,hU,Jh t,Ji l]
end
mutual
theorem YX:∀ (t:F) (k:Int),mkF (mkF t k) k=mkF t k
 | .mk _ _ _ v l,k=>by simp only[mkF,Eg,rH,Jj l]
theorem Jj:∀ (l:List F) (k:Int),gC (gC l k) k=gC l k
 | [],_=>rfl
 | t::l,k=>by simp only[gC,YX t,Jh t,Jj l]
end
mutual
theorem YY {B:Int} (hB:B<=4611686018427387904):∀ {t:F} {k:Int},t.fit B->0<=k->k+nmF t+2<=B->(mkF t k).fit B
 | .mk _ _ _ v l,k,h,h0,hb=>by
   simp only[F.fit] at h
   obtain⟨_,_,f1,f2,f3,f4⟩:=h
   have c1:=tE l
   have c2:=rF v
   simp only[nmF] at hb
   have:=zt (k:=k+2) (by omega)
   refine⟨by unfold i64;omega,by unfold i64;omega,by unfold aa;omega,Jb hB f2 (by omega) (by omega),by rw[Jf];exact f3,Jk hB f4 (by omega) (by omega)⟩
theorem Jk {B:Int} (hB:B<=4611686018427387904):∀ {l:List F} {k:Int},bG B l->0<=k->k+hU l+2<=B->bG B (gC l k)
 | [],_,_,_,_=>trivial
 | t::r,k,h,h0,hb=>by
   simp only[bG] at h
   have c1:=tE r
   have c2:=Jg t
   simp only[hU] at hb
   exact⟨YY hB h.1 h0 (by omega),Jk hB h.2 (by omega) (by omega)⟩
end
def Tk.encX (t:Tk):List C:=t.v.encX++[.own 9 (dB t.todo)]
def nW (l:List Tk):List (List C):=l.map Tk.encX
theorem YZ (l:List Tk):(nW l).length=l.length:=by simp[nW]
theorem Jl:∀ l:List Tk,dtR (nW l)=some (dj l)
 | []=>rfl
 | t::l=>by
   have h:=Jl l
   have e:dtL t.encX=some t.enc:=tC _ _ _ _ (wB t.v) (by simp[dtL,dtC,nV])
   unfold nW dj at h ⊢
   simp only[List.map_cons,dtR,e,h]
theorem Jm:∀ l:List Tk,flR (nW l)=true
 | []=>rfl
 | t::l=>by
   have h:=Jm l
   unfold nW at h ⊢
   simp only[List.map_cons,flR,Tk.encX,zu,wC,flL,flC,tD,h,Bool.and_true]
attribute [go_sem] tD YT F.encX_len nV YZ Jl Jm
end Go.Proofs.Pw
namespace Go.Proofs.Pw
variable [Globs]
def Jn:X:=(.seq (.reg [xS 1 (.box (.t 0) (some 9)),xS 2 (.alloc xF)] none [1,2]) (.seq (.reg [xS 6 (.bsl 9 []),xM 3 6] none [1,2,3]) (.seq (.seq (.reg [xS 7 (.fa (.t 1) 8),xL 8 7,xS 9 (.len (.t 8) false),xS 10 (.mv (xK 0))] none [1,2,3,8,9,10]) (.block 0 (.loop (.seq (.reg [xS 11 (.bin false .lss (.t 10) (.t 9))] none [1,2,3,8,9,10,11]) (.seq (.cond (.t 11) .skip (.exit 0)) (.seq (.block 1 (.seq (.reg [xS 12 (.ia (.t 8) (.t 10) 9),xS 13 (.load (.t 12) (some 9)),xS 5 (.alloc xF),xW 5 13 9] none [1,2,3,5,8,9,10]) (.reg [xM 14 3,xS 15 (.load (.t 5) (some 9)),xS 16 (.call 26 [(.t 15)]),xS 17 (.bslx 9 [((.t 16),(some 9))]),xS 18 (.appx (.t 14) (.t 17) 9 136),xM 3 18] none [1,2,3,8,9,10]))) (.reg [xS 19 (.bin false .add (.t 10) (xK 1)),xM 10 19] none [1,2,3,8,9,10]))))))) (.seq (.reg [xM 20 3,xS 21 (.fa (.t 1) 8),⟨none,none,.st (.t 21) (.t 20) none⟩] none [1,2]) (.seq (.reg [xS 22 (.fa (.t 1) 3),xS 23 (.load (.t 22) (some 5)),xS 24 (.call 53 [(.t 23)]),xS 25 (.fa (.t 1) 3),xW 25 24 5] none [1,2]) (.seq (.reg [xS 26 (.load (.t 1) (some 9)),xW 2 26 9] none [2]) .ret))))))
theorem Za:ao Tryz.prog 27 (Tryz.f26.body.getD .skip) Jn=true:=by kernel_rfl
theorem Zb:ap Tryz.prog Tryz.f26.results.toList [.cell 2 (some 9)]=true:=by kernel_rfl
theorem Jo:ax Tryz.prog 26=true:=by kernel_rfl
noncomputable def jg (k:Nat):Spec:=Spec.of (ι:=F) [false] (fun i=>[.d (.agg i.enc)]) (fun i=>(i.fit 2000000)/\SizeOf.sizeOf i < k) (fun i=>[.ag (dC i)]) (fun _=>[.gone])
theorem tF:∀ i j:F,(fun (i:F)=>([.d (.agg i.enc)]:List AV)) i=(fun (i:F)=>([.d (.agg i.enc)]:List AV)) j->i=j:=by
 intro t t' h
 simpa [ar,T.enc_eq,au,F.enc_eq,av,Tk.enc_eq,aw,Gn.enc_eq,aq] using h
theorem Zc (k:Nat):(jg k).md=[false]:=rfl
theorem Zd (k:Nat) (t:F):(jg k).pre [.d (.agg t.enc)]=((t.fit 2000000)/\SizeOf.sizeOf t < k):=Spec.of_pre' tF t
theorem Ze (k:Nat):(jg k).alts=none:=rfl
theorem Zf (k:Nat) (t:F):(jg k).res [.d (.agg t.enc)]=[.ag (dC t)]:=Spec.of_res tF t
theorem Zg (k:Nat) (t:F):(jg k).out [.d (.agg t.enc)]=[.gone]:=Spec.of_out tF t
set_option maxHeartbeats 1000000 in
theorem Zh (k:Nat) (hS:Sound Tryz.prog 26 (jg k)):Sound Tryz.prog 26 (jg (k+1)):=by
 refine aL (GOK.cons (l:=[(26,jg k)]) xt FO (GOK.cons Jo hS GOK.nil)) Tryz.func26 (c:=Tryz.f26.body.getD .skip) rfl (n:=27) rfl Za Zb (fun _=>by simp) ?_ ?_
 ·exact tF
 ·rintro t ⟨h1,h4⟩
  obtain⟨kk,n,s,v,l⟩:=t
  obtain⟨vk,vn,vs,vks,vl⟩:=v
  simp only[F.fit,aa] at h1
  obtain⟨_,_,f1,f2,f3,f4⟩:=h1
  have e3 : SizeOf.sizeOf l < k := by have e : SizeOf.sizeOf (F.mk kk n s (T.mk vk vn vs vks vl) l) < k + 1 := h4
                                      rw[F.mk.sizeOf_spec] at e;omega
  have ef:[C.int .i64 vk,C.int .i64 vn,C.str vs,C.row 1 (ae vks),C.row 5 (ak vl)]=(T.mk vk vn vs vks vl).enc:=rfl
  simp only[Jn,F.enc,T.enc,dC,agX,go_sem,seval,Prod.fst,rg,bK,List.cons_append,List.nil_append]
  repeat' (first|with_reducible assumption|with_reducible refine And.intro ?_ ?_|intro _)
  all_goals first|omega|skip
  refine aS (ι:=Nat) (fun i=>l.length-i) (fun i=>i<=l.length)
   (fun i=>⟨[(1,.q (.box 1 0)),(2,.q (.box 2 0)),(3,.q (.own 18)),(8,.q (.c (.row 9 (aD l)))),(9,.q (.c (.int .i64 l.length))),(10,.q (.c (.int .i64 i)))],
    [(1,[.c (.int .i64 kk),.c (.int .i64 n),.c (.str s),.c (.int .i64 vk),.c (.int .i64 vn),.c (.str vs),.c (.row 1 (ae vks)),.c (.row 5 (ak vl)),.c (.row 9 (aD l))]),(2,[.c (.int .i64 0),.c (.int .i64 0),.c (.str ⟨#[]⟩),.c (.int .i64 0),.c (.int .i64 0),.c (.str ⟨#[]⟩),.z 1,.z 5,.z 9])],[(18,9,dB (l.take i))]⟩) 0 (Nat.zero_le _) ?_ ?_
  ·refine Le.own (t:=3) (d:=18) (sz:=9) (by decide) (by simp) (by simp[Q.killO]) ?_
   simp[PV.map,Q.killO]
  ·intro i hi
   rcases Nat.lt_or_ge i l.length with hlt|hge
   ·obtain⟨t,ht,_,hmem⟩:=aY hlt
    have a1:=cQ ht
    have a2:((i:Int) < (l.length:Int))=True:=by simp;omega
    have a3:=dZ f4 t hmem
    have a4:=bZ hmem
    have a6:=F.enc_len t
    have a7:(l.take i).length=i:=by simp;omega
    obtain⟨k1,n1,s1,⟨vk1,vn1,vs1,vks1,vl1⟩,l1⟩:=t
    simp only[go_sem,seval,Prod.fst,rg,a1,a2,a6,a7,bK,Zc,Zd,Ze,Zf,Zg,dC,agX,List.cons_append,List.nil_append]
    repeat' (first|with_reducible assumption|with_reducible refine And.intro ?_ ?_|intro _)
    all_goals first|omega|assumption|skip
    refine⟨i+1,by omega,by omega,?_⟩
    rw[YU ht]
    exact Le.sub (by simp) (by simp) (by simp[F.encX,T.encX])
   ·have a2:((i:Int) < (l.length:Int))=False:=by simp;omega
    simp only[go_sem,seval,Prod.fst,rg,a2,ef,List.take_of_length_le hge,xv,xw,xx,xz,xA,agX,Bool.false_or,Bool.or_true,Bool.not_true,Bool.false_eq_true]
    repeat' (first|with_reducible assumption|with_reducible refine And.intro ?_ ?_|intro _)
    all_goals first|omega|assumption|skip
theorem Zi (k:Nat):Sound Tryz.prog 26 (jg k):=by
 induction k with
 | zero=>exact Sound.none
 | succ k ih=>exact Zh k ih
noncomputable def jh :Spec:=Spec.of (ι:=F) [false] (fun i=>[.d (.agg i.enc)]) (fun i=>i.fit 2000000) (fun i=>[.ag (dC i)]) (fun _=>[.gone])
theorem zv:∀ i j:F,(fun (i:F)=>([.d (.agg i.enc)]:List AV)) i=(fun (i:F)=>([.d (.agg i.enc)]:List AV)) j->i=j:=by
 intro t t' h
 simpa [ar,T.enc_eq,au,F.enc_eq,av,Tk.enc_eq,aw,Gn.enc_eq,aq] using h
theorem Zj :(jh).md=[false]:=rfl
theorem Zk  (t:F):(jh).pre [.d (.agg t.enc)]=(t.fit 2000000):=Spec.of_pre' zv t
theorem Zl :(jh).alts=none:=rfl
theorem Zm  (t:F):(jh).res [.d (.agg t.enc)]=[.ag (dC t)]:=Spec.of_res zv t
theorem Zn  (t:F):(jh).out [.d (.agg t.enc)]=[.gone]:=Spec.of_out zv t
theorem Zo:Sound Tryz.prog 26 jh:=Sound.all (μ:=fun i=>SizeOf.sizeOf i) Zi
end Go.Proofs.Pw
namespace Go.Proofs.Pw
variable [Globs]
def nX:X:=(.seq (.reg [xS 2 (.alloc xF),xS 3 (.mv (.k (.c (.bool false))))] none [0,2]) (.seq (.seq (.reg [xM 6 0,xS 7 (.bin false .eql (.t 6) (.k (.c (.str ⟨#[]⟩)))),xM 8 7,xH 9 8 (.mv (.t 0)),xH 10 8 (.len (.t 9) true),xH 11 8 (.bin false .gtr (.t 10) (xK 6000)),xS 12 (.pick (.t 8) (.k (.c (.bool true))) (.t 11))] none [0,2,12]) (.cond (.t 12) (.seq (.reg [xS 13 (.build xF []),xW 2 13 9,xS 3 (.mv (.k (.c (.bool false))))] none [2,3]) .ret) .skip)) (.seq (.reg [xM 15 0,xS 16 (.call 25 [(.t 15),(.k (.c (.str ⟨#[32]⟩)))]),xS 17 (.call 24 [(.t 16),(xK 1)]),xM 14 17,xS 18 (.ext (.t 14) 0),xS 19 (.ext (.t 14) 1),xS 4 (.alloc xF),xW 4 18 9,xM 5 19] none [0,2,4,5]) (.seq (.seq (.reg [xM 20 5,xS 21 (.len (.t 20) false),xS 22 (.bin false .gtr (.t 21) (xK 0)),xM 23 22,xH 24 23 (.load (.t 4) (some 9)),xH 25 23 (.call 7 [(.t 24)]),xH 26 23 (.mv (.t 0)),xH 27 23 (.bin false .neq (.t 25) (.t 26)),xS 28 (.pick (.t 23) (.k (.c (.bool true))) (.t 27))] none [2,4,28]) (.cond (.t 28) (.seq (.reg [xS 29 (.build xF []),xW 2 29 9,xS 3 (.mv (.k (.c (.bool false))))] none [2,3]) .ret) .skip)) (.seq (.reg [xS 30 (.load (.t 4) (some 9)),xS 31 (.call 26 [(.t 30)]),xW 2 31 9,xS 3 (.mv (.k (.c (.bool true))))] none [2,3]) .ret)))))
theorem Zp:ao Tryz.prog 32 (Tryz.f10.body.getD .skip) nX=true:=by kernel_rfl
theorem Zq:ap Tryz.prog Tryz.f10.results.toList [.cell 2 (some 9),.tmp 3]=true:=by kernel_rfl
theorem Zr:ax Tryz.prog 10=true:=by kernel_rfl
def fOk (s:ByteArray):Prop:=eo s/\s.size<=6000
noncomputable instance (s:ByteArray):Decidable (fOk s):=Classical.propDecidable _
noncomputable def fT (s:ByteArray):Pw.F:=if fOk s then kz s else F0
theorem tG {s:ByteArray} (h:fOk s):fT s=kz s:=by unfold fT;rw[if_pos h]
theorem Jp {s:ByteArray} (h:¬ fOk s):fT s=F0:=by unfold fT;rw[if_neg h]
theorem Jq:¬ eo ⟨#[]⟩:=fun h=>by
 have h1:=((HM ⟨#[]⟩).2 h).1
 have e:aM ⟨#[]⟩=[⟨#[]⟩]:=rfl
 have e2:(hdS ⟨#[]⟩).2=false:=by
  unfold hdS
  rw[if_neg (fun q=>q.1 rfl),if_neg (by decide),if_neg (by decide),if_neg (by decide),if_neg (by decide)]
 rw[e,psF,if_neg (by simp),if_neg (by show ¬ (hdS ⟨#[]⟩).2=true;rw[e2];simp)] at h1
 simp at h1
theorem Jr {s:ByteArray} (h:s.size<=1000000):fF (aM s):=⟨by have:=Wa s;omega,fun w hw=>by have:=sJ hw;omega⟩
theorem Zs (s:ByteArray) (hs:s.size≠0):((rdF 7 (aM s)).2=[]/\cj (rdF 7 (aM s)).1=s) ↔ eo s:=by
 rw[<-HB]
 unfold cj
 by_cases c:okF (rdF 7 (aM s)).1
 ·rw[if_pos c];exact⟨fun h=>⟨h.1,c,h.2⟩,fun h=>⟨h.1,h.2.2⟩⟩
 ·rw[if_neg c]
  refine⟨fun h=>absurd (by rw[<-h.2];rfl) hs,fun h=>absurd h.2.1 c⟩
noncomputable def spFRdX :Spec:=Spec.of (ι:=ByteArray) [false] (fun i=>[.d (.one (.str i))]) (fun i=>aa 140737488355328 i.size) (fun i=>[.ag (dC (fT i)),.d (.one (.bool (decide (fOk i))))]) (fun _=>[.gone])
theorem tH:∀ i j:ByteArray,(fun (i:ByteArray)=>([.d (.one (.str i))]:List AV)) i=(fun (i:ByteArray)=>([.d (.one (.str i))]:List AV)) j->i=j:=by
 intro s s' h
 simpa [ar,T.enc_eq,au,F.enc_eq,av,Tk.enc_eq,aw,Gn.enc_eq,aq,and_assoc] using h
theorem Zt  (s:ByteArray):(spFRdX).pre [.d (.one (.str s))]=(aa 140737488355328 s.size):=Spec.of_pre' tH s
theorem Zu :(spFRdX).alts=none:=rfl
theorem Js  (s:ByteArray):(spFRdX).res [.d (.one (.str s))]=[.ag (dC (fT s)),.d (.one (.bool (decide (fOk s))))]:=Spec.of_res tH s
theorem Zv  (s:ByteArray):(spFRdX).out [.d (.one (.str s))]=[.gone]:=Spec.of_out tH s
noncomputable def ji :Spec:=Spec.of (ι:=ByteArray) [false] (fun i=>[.d (.one (.str i))]) (fun i=>aa 140737488355328 i.size) (fun i=>[.d (.agg (fT i).enc),.d (.one (.bool (decide (fOk i))))]) (fun _=>[.gone])
theorem tI:∀ i j:ByteArray,(fun (i:ByteArray)=>([.d (.one (.str i))]:List AV)) i=(fun (i:ByteArray)=>([.d (.one (.str i))]:List AV)) j->i=j:=by
 intro s s' h
 simpa [ar,T.enc_eq,au,F.enc_eq,av,Tk.enc_eq,aw,Gn.enc_eq,aq,and_assoc] using h
theorem jj :(ji).md=[false]:=rfl
theorem jl  (s:ByteArray):(ji).pre [.d (.one (.str s))]=(aa 140737488355328 s.size):=Spec.of_pre' tI s
theorem hY :(ji).alts=none:=rfl
theorem ib  (s:ByteArray):(ji).res [.d (.one (.str s))]=[.d (.agg (fT s).enc),.d (.one (.bool (decide (fOk s))))]:=Spec.of_res tI s
theorem ic  (s:ByteArray):(ji).out [.d (.one (.str s))]=[.gone]:=Spec.of_out tI s
theorem Zw (t:Pw.F):(dC t).map Pt.toC=t.enc:=by
 cases t with
 | mk k n s v l=>simp[dC,Hc,Pt.toC,Pw.F.enc,nV]
set_option maxHeartbeats 2000000 in
theorem Zx (hM:pM) (hE:ei) (hK:tabK) (hW:get? 0 Globs.G=some cv) (hG:get? 1 Globs.G=some dI):Sound Tryz.prog 10 spFRdX:=by
 refine aL (GOK.cons (l:=[(24,lY),(7,fE),(26,jh)]) Yh (Yk hM) (GOK.cons (l:=[(7,fE),(26,jh)]) IY (YQ hE hK hW hG) (GOK.cons (l:=[(26,jh)]) Iw (IF hK hW hG) (GOK.cons Jo Zo GOK.nil)))) Tryz.func10 (c:=Tryz.f10.body.getD .skip) rfl (n:=32) rfl Zp Zq (fun _=>by simp) ?_ ?_
 ·exact tH
 ·intro s h1
  change aa 140737488355328 s.size at h1
  simp only[aa] at h1
  have hz:¬ fOk s->dC (fT s)=[.c (.int .i64 0),.c (.int .i64 0),.c (.str ⟨#[]⟩),.c (.int .i64 0),.c (.int .i64 0),.c (.str ⟨#[]⟩),.o 1 [],.o 5 [],.o 9 []]:=fun h=>by rw[Jp h];rfl
  have q0:(s=⟨#[]⟩)=(s.size=0):=propext ⟨fun h=>by rw[h];rfl,fun h=>ByteArray.ext (Array.eq_empty_of_size_eq_zero h)⟩
  by_cases c0:s.size=0
  ·have e:¬ fOk s:=fun h=>Jq (by have:=h.1;rw[show s=⟨#[]⟩ by rw[q0];exact c0] at this;exact this)
   have a0:(s=⟨#[]⟩)=True:=by rw[q0];exact eq_true c0
   have a1:=hz e
   have a2:fOk s=False:=eq_false e
   simp only[nX,rg,go_sem,seval,Prod.fst,a0,a1,a2]
   repeat' (first|with_reducible assumption|with_reducible refine And.intro ?_ ?_|intro _)
   all_goals first|omega|skip
  have a0:(s=⟨#[]⟩)=False:=by rw[q0];exact eq_false c0
  by_cases c1:6000 < s.size
  ·have e:¬ fOk s:=fun h=>by have:=h.2;omega
   have a3:((6000:Int) < (s.size:Int))=True:=eq_true (by omega)
   have a1:=hz e
   have a2:fOk s=False:=eq_false e
   simp only[nX,rg,go_sem,seval,Prod.fst,a0,a1,a2,a3]
   repeat' (first|with_reducible assumption|with_reducible refine And.intro ?_ ?_|intro _)
   all_goals first|omega|skip
  have a3:((6000:Int) < (s.size:Int))=False:=eq_false (by omega)
  have k7:((8:Int)-1).toNat=7:=rfl
  have w1:=Jr (s:=s) (by omega)
  obtain⟨_,f1,f2,f3⟩:=tu (B:=6000) (by decide) 7 (aM s) (fun w hw=>by have:=sJ hw;omega)
  have hrt:=Zs s c0
  have hft:=fun h=>HC (s:=s) h
  generalize hT:(rdF 7 (aM s)).1=t at *
  generalize hR:(rdF 7 (aM s)).2=r at *
  have g1:t.fit 140737488355328:=F.fit_mono (by decide) f1
  have g2:t.fit 2000000:=F.fit_mono (by decide) f1
  have g3:aX t<=1048577:=by
   have:((4 ^ 7:Nat):Int)<=1048577:=by decide
   omega
  have fl:=F.enc_len t
  cases r with
  | cons w r =>
    have e:¬ fOk s:=fun h=>by have:=(hrt.2 h.1).1;cases this
    have a1:=hz e
    have a2:fOk s=False:=eq_false e
    have a4:((0:Int) < ((r.length+1:Nat):Int))=True:=eq_true (by omega)
    simp only[nX,rg,go_sem,seval,Prod.fst,a0,a1,a2,a3,a4,k7,hT,hR,fl,aT,List.length_cons,yX,yY,th,tj,tk,zm,zn,zo,zp,zq,er,et,eu,ez,eA]
    repeat' (first|with_reducible assumption|with_reducible refine And.intro ?_ ?_|intro _)
    all_goals first|omega|(unfold aa;omega)|exact w1|skip
  | nil =>
    by_cases c2:cj t=s
    ·have e0:eo s:=hrt.1 ⟨rfl,c2⟩
     have e:fOk s:=⟨e0,by omega⟩
     obtain⟨k,n,sx,vk,vn,vs,vks,vl,l,hag⟩:∃ (k n:Int) (sx:ByteArray) (vk vn:Int) (vs:ByteArray) (vks:List ByteArray) (vl:List T) (l:List Pw.F),dC t=[.c (.int .i64 k),.c (.int .i64 n),.c (.str sx),.c (.int .i64 vk),.c (.int .i64 vn),.c (.str vs),.o 1 (ae vks),.o 5 (dk vl),.o 9 (dB l)]:=by
      obtain⟨k,n,sx,⟨vk,vn,vs,vks,vl⟩,l⟩:=t
      exact⟨k,n,sx,vk,vn,vs,vks,vl,l,rfl⟩
     have a1:dC (fT s)=dC t:=congrArg dC ((tG e).trans (hft e0))
     have a2:fOk s=True:=eq_true e
     have a4:=eq_true c2
     simp only[nX,rg,go_sem,seval,Prod.fst,a0,a1,hag,a2,a3,c2,k7,hT,hR,fl,aT,List.length_nil,yX,yY,th,tj,tk,zm,zn,zo,zp,zq,er,et,eu,ez,eA,Zj,Zk,Zl,Zm,Zn,Bool.false_or,Bool.or_true,Bool.not_true,Bool.false_eq_true]
     repeat' (first|with_reducible assumption|with_reducible refine And.intro ?_ ?_|intro _)
     all_goals first|omega|(unfold aa;omega)|exact w1|exact g1|exact g2|exact f2|exact g3|skip
    ·have e:¬ fOk s:=fun h=>c2 (hrt.2 h.1).2
     have a1:=hz e
     have a2:fOk s=False:=eq_false e
     have a4:=eq_false c2
     simp only[nX,rg,go_sem,seval,Prod.fst,a0,a1,a2,a3,a4,k7,hT,hR,fl,aT,List.length_nil,yX,yY,th,tj,tk,zm,zn,zo,zp,zq,er,et,eu,ez,eA]
     repeat' (first|with_reducible assumption|with_reducible refine And.intro ?_ ?_|intro _)
     all_goals first|omega|(unfold aa;omega)|exact w1|exact g1|exact g2|exact f2|exact g3|skip
theorem Zy (hM:pM) (hE:ei) (hK:tabK) (hW:get? 0 Globs.G=some cv) (hG:get? 1 Globs.G=some dI):Sound Tryz.prog 10 ji:=by
 have h:=(Zx hM hE hK hW hG).weak (by
  rintro ds r o ⟨s,rfl,_⟩ hm x hx
  rw[Spec.may_none Zu,Js] at hm
  obtain⟨rfl,_⟩:=hm
  simp only[List.mem_cons,List.not_mem_nil,or_false] at hx
  rcases hx with rfl|rfl
  ·generalize fT s=t
   obtain⟨k,n,s,⟨vk,vn,vs,vks,vl⟩,l⟩:=t
   simp[AV.dt,Pt.dt,dC,agX,eD,jD,mV,nV]
  ·trivial)
 refine h.mono ?_
 rintro args ⟨s,rfl,hs⟩
 refine⟨(oZ spFRdX _).trans (Zt s) ▸ hs,?_⟩
 rintro r o hm
 have hn:spFRdX.weak.alts=none:=rfl
 rw[Spec.may_none hn] at hm
 rw[Spec.may_none hY,ib,ic]
 refine⟨hm.1.trans ?_,hm.2.trans (Zv s)⟩
 show (spFRdX.res _).map AV.weak=_
 rw[Js]
 simp only[List.map_cons,List.map_nil,AV.weak,Zw]
end Go.Proofs.Pw
namespace Go.Proofs.Pw
variable [Globs]
def Jt:X:=(.seq (.reg [xS 4 (.mv (.k (.z 1)))] none [0,1]) (.seq (.reg [xS 8 (.bsl 1 []),xM 5 8] none [0,1,5]) (.seq (.reg [xS 6 (.mv (xK 0))] none [0,1,5,6]) (.seq (.seq (.reg [xS 7 (.mv (xK 0))] none [0,1,5,6,7]) (.block 0 (.loop (.seq (.seq (.reg [xM 9 7,xM 10 0,xS 11 (.len (.t 10) true),xS 12 (.bin false .leq (.t 9) (.t 11))] none [0,1,5,6,7,12]) (.cond (.t 12) .skip (.exit 0))) (.seq (.block 1 (.seq (.reg [xM 15 7,xM 16 0,xS 17 (.len (.t 16) true),xS 18 (.bin false .eql (.t 15) (.t 17)),xM 19 18,xH 20 19 (.mv (.t 0)),xH 21 19 (.mv (.t 7)),xH 22 19 (.idx (.t 20) (.t 21)),xH 23 19 (.mv (.t 1)),xH 24 19 (.bin false .eql (.t 22) (.t 23)),xS 25 (.pick (.t 19) (.k (.c (.bool true))) (.t 24))] none [0,1,5,6,7,25]) (.cond (.t 25) (.seq (.reg [xM 26 5,xM 27 0,xM 28 6,xM 29 7,xS 30 (.sub (.t 27) (some (.t 28)) (some (.t 29)) 0),xS 31 (.bsl 1 [((.t 30),none)]),xS 32 (.app (.t 26) (.t 31) 1 16 []),xM 5 32] none [0,1,5,7]) (.reg [xM 33 7,xS 34 (.bin false .add (.t 33) (xK 1)),xM 6 34] none [0,1,5,6,7])) .skip))) (.reg [xM 13 7,xS 14 (.bin false .add (.t 13) (xK 1)),xM 7 14] none [0,1,5,6,7])))))) (.seq (.reg [xM 35 5,xM 4 35] none [4]) .ret)))))
theorem Zz:ao Tryz.prog 36 (Tryz.f30.body.getD .skip) Jt=true:=by kernel_rfl
theorem ZA:ap Tryz.prog Tryz.f30.results.toList [.tmp 4]=true:=by kernel_rfl
theorem ZB:ax Tryz.prog 30=true:=by kernel_rfl
noncomputable def nY :Spec:=Spec.of (ι:=ByteArray) [false,false] (fun i=>[.d (.one (.str i)),.d (.one (.int .u8 32))]) (fun i=>aa 1000000 i.size) (fun i=>[.d (.one (.row 1 (ae (aM i))))]) (fun _=>[.gone,.gone])
theorem tJ:∀ i j:ByteArray,(fun (i:ByteArray)=>([.d (.one (.str i)),.d (.one (.int .u8 32))]:List AV)) i=(fun (i:ByteArray)=>([.d (.one (.str i)),.d (.one (.int .u8 32))]:List AV)) j->i=j:=by
 intro s s' h
 simpa [ar,T.enc_eq,au,F.enc_eq,av,Tk.enc_eq,aw,Gn.enc_eq,aq,and_assoc] using h
theorem zw :(nY).md=[false,false]:=rfl
theorem zx  (s:ByteArray):(nY).pre [.d (.one (.str s)),.d (.one (.int .u8 32))]=(aa 1000000 s.size):=Spec.of_pre' tJ s
theorem zy :(nY).alts=none:=rfl
theorem zA  (s:ByteArray):(nY).res [.d (.one (.str s)),.d (.one (.int .u8 32))]=[.d (.one (.row 1 (ae (aM s))))]:=Spec.of_res tJ s
theorem zB  (s:ByteArray):(nY).out [.d (.one (.str s)),.d (.one (.int .u8 32))]=[.gone,.gone]:=Spec.of_out tJ s
theorem Ju (l:List UInt8) {a b:Nat} (h:a<=b):l.drop a=sub l a b++l.drop b:=by
 unfold sub
 have:=List.take_append_drop (b-a) (l.drop a)
 rw[List.drop_drop,show a+(b-a)=b by omega] at this
 exact this.symm
theorem ZC {l:List UInt8} {a b:Nat} {c:UInt8} (h:a<=b) (hc:l[b]?=some c):sub l a (b+1)=sub l a b++[c]:=by
 unfold sub
 rw[show b+1-a=(b-a)+1 by omega,List.take_add_one,List.getElem?_drop,show a+(b-a)=b by omega,hc]
 rfl
set_option maxHeartbeats 1000000 in
theorem ZD:Sound Tryz.prog 30 nY:=by
 refine aL GOK.nil Tryz.func30 (c:=Tryz.f30.body.getD .skip) rfl (n:=36) rfl Zz ZA (fun _=>by simp) ?_ ?_
 ·exact tJ
 ·intro s h1
  change aa 1000000 s.size at h1
  simp only[aa] at h1
  have hl:=cI s
  have z1:ae []=[]:=rfl
  simp only[Jt,rg,go_sem,seval,Prod.fst]
  repeat' (first|with_reducible assumption|with_reducible refine And.intro ?_ ?_|intro _)
  all_goals first|omega|skip
  refine aS (ι:=List ByteArray × Nat × Nat) (fun i=>s.size+1-i.2.2) (fun i=>i.1.length<=i.2.2/\i.2.2<=s.size+1/\i.2.1<=i.2.2/\((i.2.2<=s.size/\(∀ c ∈ sub (tL s) i.2.1 i.2.2,c≠32)/\aM s=i.1++(bR ((tL s).drop i.2.1)).map bL)\/(i.2.2=s.size+1/\aM s=i.1)))
   (fun i=>⟨[(0,.q (.c (.str s))),(1,.q (.c (.int .u8 32))),(5,.q (.own 201)),(6,.q (.c (.int .i64 (i.2.1:Int)))),(7,.q (.c (.int .i64 (i.2.2:Int))))],[],[(201,1,ae i.1)]⟩) ([],0,0) ⟨by simp,by simp,by simp,.inl ⟨by simp,by simp[sub],by simp[aM]⟩⟩ ?_ ?_
  ·refine Le.own (t:=5) (d:=201) (sz:=1) (by decide) (by simp) (by simp[Q.killO]) ?_
   simp[PV.map,Q.killO,z1]
  ·rintro⟨acc,f,i⟩ ⟨g1,g2,g3,g4⟩
   simp only at g1 g2 g3 g4
   rcases g4 with ⟨g4,g5,g6⟩|⟨g4,g6⟩
   ·have b1:((i:Int)<=(s.size:Int))=True:=eq_true (by omega)
    rcases Nat.lt_or_ge i s.size with hlt|hge
    ·obtain⟨c,e1,e2,_,e4⟩:=eR hlt
     have b2:((i:Int)=(s.size:Int))=False:=eq_false (by omega)
     by_cases c1:c=32
     ·have b3:(bE s i=32)=True:=eq_true (by rw[e2,c1];rfl)
      simp only[rg,go_sem,seval,Prod.fst,b1,b2,b3,bI,aT,Int.toNat_natCast]
      repeat' (first|with_reducible assumption|with_reducible refine And.intro ?_ ?_|intro _)
      all_goals first|omega|skip
      refine⟨(acc++[bL (sub (tL s) f i)],i+1,i+1),⟨by simp;omega,by show i+1<=_;omega,by simp,.inl ⟨by show i+1<=_;omega,by simp[sub],?_⟩⟩,by show s.size+1-(i+1) < _;omega,Le.sub (by simp) (by simp) (by simp[ae])⟩
      simp only
      rw[g6,Ju (tL s) g3,e4,c1,yz _ _ g5]
      simp
     ·have b3:(bE s i=32)=False:=eq_false (by rw[e2];intro e;exact c1 (UInt8.toNat_inj.1 (by have:(32:UInt8).toNat=32:=rfl;omega)))
      simp only[rg,go_sem,seval,Prod.fst,b1,b2,b3,aT,Int.toNat_natCast]
      repeat' (first|with_reducible assumption|with_reducible refine And.intro ?_ ?_|intro _)
      all_goals first|omega|skip
      refine⟨(acc,f,i+1),⟨by show acc.length<=i+1;omega,by show i+1<=_;omega,by show f<=i+1;omega,.inl ⟨by show i+1<=_;omega,?_,g6⟩⟩,by show s.size+1-(i+1) < _;omega,Le.sub (by simp) (by simp) (by simp)⟩
      intro x hx
      simp only at hx
      rw[ZC g3 e1] at hx
      rcases List.mem_append.1 hx with hx|hx
      ·exact g5 x hx
      ·simp at hx;subst hx;exact c1
    ·obtain rfl:i=s.size:=by omega
     have b2:((s.size:Int)=(s.size:Int))=True:=eq_true rfl
     simp only[rg,go_sem,seval,Prod.fst,b1,b2,bI,aT,Int.toNat_natCast]
     repeat' (first|with_reducible assumption|with_reducible refine And.intro ?_ ?_|intro _)
     all_goals first|omega|skip
     refine⟨(acc++[bL (sub (tL s) f s.size)],s.size+1,s.size+1),⟨by simp;omega,by simp,by simp,.inr ⟨rfl,?_⟩⟩,by show s.size+1-(s.size+1) < _;omega,Le.sub (by simp) (by simp) (by simp[ae])⟩
     simp only
     have:(tL s).drop s.size=[]:=List.drop_eq_nil_of_le (by omega)
     rw[g6,Ju (tL s) g3,this,List.append_nil,yy _ g5]
     simp
   ·subst g4
    have b1:(((s.size+1:Nat):Int)<=(s.size:Int))=False:=eq_false (by omega)
    simp only[rg,go_sem,seval,Prod.fst,b1,g6,aT]
    repeat' (first|with_reducible assumption|with_reducible refine And.intro ?_ ?_|intro _)
    all_goals first|omega|skip
end Go.Proofs.Pw
