/- The reference's reader of trees: brackets, and the whole. -/
import Derived.Test.YtcligmgalcidpaaGreatDoorPwT16
import Derived.Test.YtcligmgalcidpaaGreatDoorPwT15
import Derived.Test.YtcligmgalcidpaaGreatDoorPwT10
import Derived.Test.YtcligmgalcidpaaGreatDoorPwT14
import Derived.Test.YtcligmgalcidpaaGreatDoorPwT11
set_option linter.unusedSimpArgs false
set_option linter.unusedVariables false
set_option linter.unusedSectionVars false
set_option maxRecDepth 20000
namespace Go.Proofs.Pw
variable [Globs]
theorem xl (x:ByteArray):ae [x]=[[C.str x]]:=rfl
noncomputable def psI (f:Nat->T × Int) (l:List UInt8) (k:Int) (a:Nat):T × Int :=
 if k=5 then (if atB l a 93 then (.mk 5 0 ⟨#[]⟩ [] [],(a:Int)+1) else (.mk 5 0 ⟨#[]⟩ [] (psL f l 61 a).1,(psL f l 61 a).2))
 else (if atB l a 125 then (.mk 6 0 ⟨#[]⟩ [] [],(a:Int)+1) else (.mk 6 0 ⟨#[]⟩ (psM f l 61 a).1 (psM f l 61 a).2.1,(psM f l 61 a).2.2))
theorem So {f:Nat->T × Int} {l:List UInt8} {a:Nat} (h:atB l a 93=true):psI f l 5 a=(.mk 5 0 ⟨#[]⟩ [] [],(a:Int)+1):=by unfold psI;rw[if_pos rfl,if_pos h]
theorem Sp {f:Nat->T × Int} {l:List UInt8} {a:Nat} (h:atB l a 93=false):psI f l 5 a=(.mk 5 0 ⟨#[]⟩ [] (psL f l 61 a).1,(psL f l 61 a).2):=by unfold psI;rw[if_pos rfl,h];rfl
theorem Sq {f:Nat->T × Int} {l:List UInt8} {a:Nat} (h:atB l a 125=true):psI f l 6 a=(.mk 6 0 ⟨#[]⟩ [] [],(a:Int)+1):=by unfold psI;rw[if_neg (by decide),if_pos h]
theorem Sr {f:Nat->T × Int} {l:List UInt8} {a:Nat} (h:atB l a 125=false):psI f l 6 a=(.mk 6 0 ⟨#[]⟩ (psM f l 61 a).1 (psM f l 61 a).2.1,(psM f l 61 a).2.2):=by unfold psI;rw[if_neg (by decide),h];rfl
theorem Ss {f:Nat->T × Int} {l:List UInt8} {c a:Nat} (h:(f a).2 < 0):psL f l (c+1) a=([],-1):=by rw[psL,if_pos h]
theorem Su {f:Nat->T × Int} {l:List UInt8} {c a:Nat} (h:¬ (f a).2 < 0) (h2:atB l (f a).2.toNat 93=true):psL f l (c+1) a=([(f a).1],(f a).2+1):=by rw[psL,if_neg h,if_pos h2]
theorem Sv {f:Nat->T × Int} {l:List UInt8} {c a:Nat} (h:¬ (f a).2 < 0) (h2:atB l (f a).2.toNat 93=false) (h3:atB l (f a).2.toNat 44=true):psL f l (c+1) a=((f a).1::(psL f l c ((f a).2.toNat+1)).1,(psL f l c ((f a).2.toNat+1)).2):=by rw[psL,if_neg h,h2,if_neg (by simp),if_pos h3]
theorem Sw {f:Nat->T × Int} {l:List UInt8} {c a:Nat} (h:¬ (f a).2 < 0) (h2:atB l (f a).2.toNat 93=false) (h3:atB l (f a).2.toNat 44=false):psL f l (c+1) a=([(f a).1],-1):=by rw[psL,if_neg h,h2,if_neg (by simp),h3,if_neg (by simp)]
theorem Sx (f:Nat->T × Int) (l:List UInt8) (a:Nat):psL f l 0 a=([],-1):=rfl
theorem Sy {f:Nat->T × Int} {l:List UInt8} {c a:Nat} (h:atB l (al aj l a) 58=false):psM f l (c+1) a=([],[],-1):=by rw[psM,h];rfl
theorem Sz {f:Nat->T × Int} {l:List UInt8} {c a:Nat} (h0:atB l (al aj l a) 58=true) (h:(f (al aj l a+1)).2 < 0):psM f l (c+1) a=([bL (sub l a (al aj l a))],[],-1):=by rw[psM,if_pos h0];exact if_pos h
theorem SA {f:Nat->T × Int} {l:List UInt8} {c a:Nat} (h0:atB l (al aj l a) 58=true) (h:¬ (f (al aj l a+1)).2 < 0) (h2:atB l (f (al aj l a+1)).2.toNat 125=true):psM f l (c+1) a=([bL (sub l a (al aj l a))],[(f (al aj l a+1)).1],(f (al aj l a+1)).2+1):=by rw[psM,if_pos h0];exact (if_neg h).trans (if_pos h2)
theorem SB {f:Nat->T × Int} {l:List UInt8} {c a:Nat} (h0:atB l (al aj l a) 58=true) (h:¬ (f (al aj l a+1)).2 < 0) (h2:atB l (f (al aj l a+1)).2.toNat 125=false) (h3:atB l (f (al aj l a+1)).2.toNat 44=true):psM f l (c+1) a=(bL (sub l a (al aj l a))::(psM f l c ((f (al aj l a+1)).2.toNat+1)).1,(f (al aj l a+1)).1::(psM f l c ((f (al aj l a+1)).2.toNat+1)).2.1,(psM f l c ((f (al aj l a+1)).2.toNat+1)).2.2):=by rw[psM,if_pos h0];exact (if_neg h).trans ((if_neg (by rw[h2];simp)).trans (if_pos h3))
theorem SC {f:Nat->T × Int} {l:List UInt8} {c a:Nat} (h0:atB l (al aj l a) 58=true) (h:¬ (f (al aj l a+1)).2 < 0) (h2:atB l (f (al aj l a+1)).2.toNat 125=false) (h3:atB l (f (al aj l a+1)).2.toNat 44=false):psM f l (c+1) a=([bL (sub l a (al aj l a))],[(f (al aj l a+1)).1],-1):=by rw[psM,if_pos h0];exact (if_neg h).trans ((if_neg (by rw[h2];simp)).trans (if_neg (by rw[h3];simp)))
theorem SD (f:Nat->T × Int) (l:List UInt8) (a:Nat):psM f l 0 a=([],[],-1):=rfl
theorem SE {l:List UInt8} {a d:Nat} (h:atB l a 91=true):psV (d+1) l a=psI (psV d l) l 5 (a+1):=by
 have:=bH h
 rw[psV,if_neg (by omega),if_pos h]
 unfold psI
 rw[if_pos rfl]
 split
 ·simp only[Prod.mk.injEq,true_and];omega
 ·rfl
theorem SF {l:List UInt8} {a d:Nat} (h0:atB l a 91=false) (h:atB l a 123=true):psV (d+1) l a=psI (psV d l) l 6 (a+1):=by
 have:=bH h
 rw[psV,if_neg (by omega),h0,if_neg (by simp),if_pos h]
 unfold psI
 rw[if_neg (show ¬ ((6:Int)=5) by decide)]
 split
 ·simp only[Prod.mk.injEq,true_and];omega
 ·rfl
noncomputable def ka (k:Nat):Spec:=Spec.of (ι:=ByteArray × Nat × Int) [false,false,false] (fun i=>[.d (.one (.str i.1)),.d (.one (.int .i64 (i.2.1:Int))),.d (.one (.int .i64 i.2.2))]) (fun i=>(aa 1000000 i.1.size/\i.2.1<=i.1.size/\0<=i.2.2/\i.2.2<=6)/\2*i.2.2.toNat < k) (fun i=>[.d (.agg (psV i.2.2.toNat (tL i.1) i.2.1).1.enc),.d (.one (.int .i64 (psV i.2.2.toNat (tL i.1) i.2.1).2))]) (fun _=>[.gone,.gone,.gone])
theorem sg:∀ i j:ByteArray × Nat × Int,(fun (i:ByteArray × Nat × Int)=>([.d (.one (.str i.1)),.d (.one (.int .i64 (i.2.1:Int))),.d (.one (.int .i64 i.2.2))]:List AV)) i=(fun (i:ByteArray × Nat × Int)=>([.d (.one (.str i.1)),.d (.one (.int .i64 (i.2.1:Int))),.d (.one (.int .i64 i.2.2))]:List AV)) j->i=j:=by
 rintro⟨s,a,d⟩ ⟨s',a',d'⟩ h
 simp only[Prod.mk.injEq]
 simpa [ar,T.enc_eq,au,F.enc_eq,av,Tk.enc_eq,aw,Gn.enc_eq,aq,Int.natCast_inj,and_assoc] using h
theorem kb (k:Nat):(ka k).md=[false,false,false]:=rfl
theorem kc (k:Nat) (s:ByteArray) (a:Nat) (d:Int):(ka k).pre [.d (.one (.str s)),.d (.one (.int .i64 (a:Int))),.d (.one (.int .i64 d))]=((aa 1000000 s.size/\a<=s.size/\0<=d/\d<=6)/\2*d.toNat < k):=Spec.of_pre' sg (s,a,d)
theorem kd (k:Nat):(ka k).alts=none:=rfl
theorem ke (k:Nat) (s:ByteArray) (a:Nat) (d:Int):(ka k).res [.d (.one (.str s)),.d (.one (.int .i64 (a:Int))),.d (.one (.int .i64 d))]=[.d (.agg (psV d.toNat (tL s) a).1.enc),.d (.one (.int .i64 (psV d.toNat (tL s) a).2))]:=Spec.of_res sg (s,a,d)
theorem kf (k:Nat) (s:ByteArray) (a:Nat) (d:Int):(ka k).out [.d (.one (.str s)),.d (.one (.int .i64 (a:Int))),.d (.one (.int .i64 d))]=[.gone,.gone,.gone]:=Spec.of_out sg (s,a,d)
noncomputable def kg (k:Nat):Spec:=Spec.of (ι:=ByteArray × Nat × Int × Int × Int) [false,false,false,false,false] (fun i=>[.d (.one (.str i.1)),.d (.one (.int .i64 (i.2.1:Int))),.d (.one (.int .i64 i.2.2.1)),.d (.one (.int .u8 i.2.2.2.1)),.d (.one (.int .i64 i.2.2.2.2))]) (fun i=>(aa 1000000 i.1.size/\i.2.1<=i.1.size/\0<=i.2.2.2.2/\i.2.2.2.2<=6/\(i.2.2.1=5/\i.2.2.2.1=93\/i.2.2.1=6/\i.2.2.2.1=125))/\2*i.2.2.2.2.toNat+1 < k) (fun i=>[.d (.agg (psI (psV i.2.2.2.2.toNat (tL i.1)) (tL i.1) i.2.2.1 i.2.1).1.enc),.d (.one (.int .i64 (psI (psV i.2.2.2.2.toNat (tL i.1)) (tL i.1) i.2.2.1 i.2.1).2))]) (fun _=>[.gone,.gone,.gone,.gone,.gone])
theorem sh:∀ i j:ByteArray × Nat × Int × Int × Int,(fun (i:ByteArray × Nat × Int × Int × Int)=>([.d (.one (.str i.1)),.d (.one (.int .i64 (i.2.1:Int))),.d (.one (.int .i64 i.2.2.1)),.d (.one (.int .u8 i.2.2.2.1)),.d (.one (.int .i64 i.2.2.2.2))]:List AV)) i=(fun (i:ByteArray × Nat × Int × Int × Int)=>([.d (.one (.str i.1)),.d (.one (.int .i64 (i.2.1:Int))),.d (.one (.int .i64 i.2.2.1)),.d (.one (.int .u8 i.2.2.2.1)),.d (.one (.int .i64 i.2.2.2.2))]:List AV)) j->i=j:=by
 rintro⟨s,a,kk,e,d⟩ ⟨s',a',kk',e',d'⟩ h
 simp only[Prod.mk.injEq]
 simpa [ar,T.enc_eq,au,F.enc_eq,av,Tk.enc_eq,aw,Gn.enc_eq,aq,Int.natCast_inj,and_assoc] using h
theorem FC (k:Nat):(kg k).md=[false,false,false,false,false]:=rfl
theorem FD (k:Nat) (s:ByteArray) (a:Nat) (kk:Int) (e:Int) (d:Int):(kg k).pre [.d (.one (.str s)),.d (.one (.int .i64 (a:Int))),.d (.one (.int .i64 kk)),.d (.one (.int .u8 e)),.d (.one (.int .i64 d))]=((aa 1000000 s.size/\a<=s.size/\0<=d/\d<=6/\(kk=5/\e=93\/kk=6/\e=125))/\2*d.toNat+1 < k):=Spec.of_pre' sh (s,a,kk,e,d)
theorem FE (k:Nat):(kg k).alts=none:=rfl
theorem FF (k:Nat) (s:ByteArray) (a:Nat) (kk:Int) (e:Int) (d:Int):(kg k).res [.d (.one (.str s)),.d (.one (.int .i64 (a:Int))),.d (.one (.int .i64 kk)),.d (.one (.int .u8 e)),.d (.one (.int .i64 d))]=[.d (.agg (psI (psV d.toNat (tL s)) (tL s) kk a).1.enc),.d (.one (.int .i64 (psI (psV d.toNat (tL s)) (tL s) kk a).2))]:=Spec.of_res sh (s,a,kk,e,d)
theorem FG (k:Nat) (s:ByteArray) (a:Nat) (kk:Int) (e:Int) (d:Int):(kg k).out [.d (.one (.str s)),.d (.one (.int .i64 (a:Int))),.d (.one (.int .i64 kk)),.d (.one (.int .u8 e)),.d (.one (.int .i64 d))]=[.gone,.gone,.gone,.gone,.gone]:=Spec.of_out sh (s,a,kk,e,d)
set_option maxHeartbeats 4000000 in
theorem SG (k:Nat) (hI:Sound Tryz.prog 129 (kg k)):Sound Tryz.prog 109 (ka (k+1)):=by
 refine aL (GOK.cons (l:=[(130,jZ),(131,gW),(132,iQ),(133,gY)]) Sb hI (GOK.cons (l:=[(131,gW),(132,iQ),(133,gY)]) xf xj (GOK.cons (l:=[(132,iQ),(133,gY)]) xd xh (GOK.cons (l:=[(133,gY)]) RQ Sj (GOK.cons RT Sn GOK.nil))))) Tryz.func109 (c:=Tryz.f109.body.getD .skip) rfl (n:=87) rfl Sc Sd (fun _=>by simp) ?_ ?_
 ·exact sg
 ·rintro⟨s,a,d⟩ ⟨⟨h1,h2,h3,h4⟩,h5⟩
  simp only[aa] at h1 h2 h3 h4 h5
  have hl:=cI s
  have z1:ae []=[]:=rfl
  have z2:ak []=[]:=rfl
  rcases Nat.lt_or_ge a s.size with hlt|hge
  ·obtain⟨x,b1,b2,_,b4⟩:=eR hlt
   have a0:((s.size:Int)<=a)=False:=eq_false (by omega)
   by_cases c0:d < 1
   ·have a1:(d < 1)=True:=eq_true c0
    have e:psV d.toNat (tL s) a=(T.zero,-1):=by rw[show d.toNat=0 by omega];rfl
    simp only[gX,rg,go_sem,seval,Prod.fst,a0,a1,e,T.zero,T.enc,z1,z2]
    repeat' (first|with_reducible assumption|with_reducible refine And.intro ?_ ?_|intro _)
    all_goals first|omega|(unfold aa;omega)|skip
   have a1:(d < 1)=False:=eq_false c0
   obtain⟨n,hn⟩:∃ n,d.toNat=n+1:=⟨d.toNat-1,by omega⟩
   have hn':(d-1).toNat=n:=by omega
   have ab:∀ c:UInt8,atB (tL s) a c=decide (x=c):=fun c=>Fs b1
   have ec0:((a:Int)+1)=((a+1:Nat):Int):=by omega
   have xb:∀ c:UInt8,x≠c->((x.toNat:Int)=(c.toNat:Int))=False:=fun c h=>eq_false fun e=>h (UInt8.toNat_inj.1 (by omega))
   by_cases c1:x=91
   ·have e:=SE (d:=n) (show atB (tL s) a 91=true by rw[ab];simpa using c1)
    have a2:((x.toNat:Int)=91)=True:=eq_true (by rw[c1];rfl)
    simp only[gX,rg,go_sem,seval,Prod.fst,a0,a1,b2,a2,hn,hn',e,Int.toNat_natCast,ec0,T.enc_len,FC,FD,FE,FF,FG]
    repeat' (first|with_reducible assumption|with_reducible refine And.intro ?_ ?_|intro _)
    all_goals first|omega|(unfold aa;omega)|skip
   have a2:=xb 91 c1
   have k91:((91:UInt8).toNat:Int)=91:=rfl
   rw[k91] at a2
   by_cases c2:x=123
   ·have e:=SF (d:=n) (show atB (tL s) a 91=false by rw[ab];simpa using c1) (show atB (tL s) a 123=true by rw[ab];simpa using c2)
    have a3:((x.toNat:Int)=123)=True:=eq_true (by rw[c2];rfl)
    simp only[gX,rg,go_sem,seval,Prod.fst,a0,a1,b2,a2,a3,hn,hn',e,Int.toNat_natCast,ec0,T.enc_len,FC,FD,FE,FF,FG]
    repeat' (first|with_reducible assumption|with_reducible refine And.intro ?_ ?_|intro _)
    all_goals first|omega|(unfold aa;omega)|skip
   have a3:=xb 123 c2
   have k123:((123:UInt8).toNat:Int)=123:=rfl
   rw[k123] at a3
   have e0:psV (n+1) (tL s) a=if atB (tL s) a 39 then
    (if atB (tL s) (al aj (tL s) (a+1)) 39 then (.mk 4 0 (bL (sub (tL s) (a+1) (al aj (tL s) (a+1)))) [] [],(al aj (tL s) (a+1):Int)+1) else (T.zero,-1))
    else if aj ((tL s).getD a 0) then psW (tL s) a else psN (tL s) a:=by
    rw[psV,if_neg (by omega),if_neg (by rw[ab];simpa using c1),if_neg (by rw[ab];simpa using c2)]
   by_cases c3:x=39
   ·have a4:((x.toNat:Int)=39)=True:=eq_true (by rw[c3];rfl)
    rw[if_pos (by rw[ab];simpa using c3)] at e0
    have hu:=eQ (p:=aj) (l:=tL s) (a:=a+1) (by omega)
    have ec:((a:Int)+1)=((a+1:Nat):Int):=by omega
    have ha1:((a:Int)+1).toNat=a+1:=by omega
    by_cases c4:atB (tL s) (al aj (tL s) (a+1)) 39=true
    ·rw[if_pos c4] at e0
     have hb:=bH c4
     simp only[gX,rg,go_sem,seval,Prod.fst,a0,a1,b2,a2,a3,a4,hn,hn',e0,ec,i39,u39,c4,bI,Int.toNat_natCast,T.enc,z1,z2,gj,gk,gn,gp,gq,dn,dp,dq,du,dz]
     repeat' (first|with_reducible assumption|with_reducible refine And.intro ?_ ?_|intro _)
     all_goals first|omega|(unfold aa;omega)|skip
    ·have c4:atB (tL s) (al aj (tL s) (a+1)) 39=false:=by simpa using c4
     rw[c4,if_neg (by simp)] at e0
     simp only[gX,rg,go_sem,seval,Prod.fst,a0,a1,b2,a2,a3,a4,hn,hn',e0,ec,i39,u39,c4,bI,Int.toNat_natCast,T.zero,T.enc,z1,z2,gj,gk,gn,gp,gq,dn,dp,dq,du,dz]
     repeat' (first|with_reducible assumption|with_reducible refine And.intro ?_ ?_|intro _)
     all_goals first|omega|(unfold aa;omega)|skip
   have a4:=xb 39 c3
   have k39:((39:UInt8).toNat:Int)=39:=rfl
   rw[k39] at a4
   rw[if_neg (by rw[ab];simpa using c3)] at e0
   have hx:(tL s).getD a 0=x:=by rw[List.getD_eq_getElem?_getD,b1];rfl
   rw[hx] at e0
   by_cases c5:aj x=true
   ·rw[if_pos c5] at e0
    unfold aj at c5
    simp only[decide_eq_true_eq] at c5
    have a5:((97:Int)<=x.toNat)=True:=eq_true (by omega)
    have a6:((x.toNat:Int)<=122)=True:=eq_true (by omega)
    simp only[gX,rg,go_sem,seval,Prod.fst,a0,a1,b2,a2,a3,a4,a5,a6,hn,hn',e0,Int.toNat_natCast,T.enc_len,Se,Sf,Sg,Sh,Si]
    repeat' (first|with_reducible assumption|with_reducible refine And.intro ?_ ?_|intro _)
    all_goals first|omega|(unfold aa;omega)|skip
   ·rw[if_neg c5] at e0
    unfold aj at c5
    simp only[decide_eq_true_eq] at c5
    by_cases c6:97<=x.toNat
    ·have a5:((97:Int)<=x.toNat)=True:=eq_true (by omega)
     have a6:((x.toNat:Int)<=122)=False:=eq_false (by omega)
     simp only[gX,rg,go_sem,seval,Prod.fst,a0,a1,b2,a2,a3,a4,a5,a6,hn,hn',e0,Int.toNat_natCast,T.enc_len,Fx,Fy,Fz,FA,FB]
     repeat' (first|with_reducible assumption|with_reducible refine And.intro ?_ ?_|intro _)
     all_goals first|omega|(unfold aa;omega)|skip
    ·have a5:((97:Int)<=x.toNat)=False:=eq_false (by omega)
     simp only[gX,rg,go_sem,seval,Prod.fst,a0,a1,b2,a2,a3,a4,a5,hn,hn',e0,Int.toNat_natCast,T.enc_len,Fx,Fy,Fz,FA,FB]
     repeat' (first|with_reducible assumption|with_reducible refine And.intro ?_ ?_|intro _)
     all_goals first|omega|(unfold aa;omega)|skip
  ·have a0:((s.size:Int)<=a)=True:=eq_true (by omega)
   have e:psV d.toNat (tL s) a=(T.zero,-1):=by
    cases d.toNat with
    | zero=>rfl
    | succ n=>rw[psV,if_pos (by omega)]
   simp only[gX,rg,go_sem,seval,Prod.fst,a0,e,T.zero,T.enc,z1,z2]
   repeat' (first|with_reducible assumption|with_reducible refine And.intro ?_ ?_|intro _)
   all_goals first|omega|(unfold aa;omega)|skip
set_option maxHeartbeats 4000000 in
theorem SH (k:Nat) (hP:Sound Tryz.prog 109 (ka k)):Sound Tryz.prog 129 (kg (k+1)):=by
 refine aL (GOK.cons (l:=[(130,jZ),(131,gW)]) Fw hP (GOK.cons (l:=[(131,gW)]) xf xj (GOK.cons xd xh GOK.nil))) Tryz.func129 (c:=Tryz.f129.body.getD .skip) rfl (n:=81) rfl RZ Sa (fun _=>by simp) ?_ ?_
 ·exact sh
 ·rintro⟨s,a,kk,e,d⟩ ⟨⟨h1,h2,h3,h4,h6⟩,h5⟩
  simp only[aa] at h1 h2 h3 h4 h5
  have hl:=cI s
  have z1:ae []=[]:=rfl
  have z2:ak []=[]:=rfl
  simp only at h6
  generalize hL:tL s=l at *
  have hok:=fun i (hi:i<=s.size)=>jU d.toNat l i (by omega)
  rcases h6 with ⟨rfl,rfl⟩|⟨rfl,rfl⟩
  ·by_cases c1:atB l a 93=true
   ·have e1:=So (f:=psV d.toNat l) c1
    have:=bH c1
    simp only[pu,rg,go_sem,seval,Prod.fst,hL,i93,u93,c1,e1,Int.toNat_natCast,T.enc,z1,z2,dn,dp,dq,du,dz]
    repeat' (first|with_reducible assumption|with_reducible refine And.intro ?_ ?_|intro _)
    all_goals first|omega|(unfold aa;omega)|skip
   have c1:atB l a 93=false:=by simpa using c1
   have e1:=Sp (f:=psV d.toNat l) c1
   simp only[pu,rg,go_sem,seval,Prod.fst,hL,i93,u93,c1,Int.toNat_natCast,dn,dp,dq,du,dz]
   repeat' (first|with_reducible assumption|with_reducible refine And.intro ?_ ?_|intro _)
   all_goals first|omega|(unfold aa;omega)|skip
   refine aS (ι:=List T × Nat) (fun i=>61-i.1.length) (fun i=>i.1.length<=61/\i.2<=s.size/\(psL (psV d.toNat l) l 61 a).1=i.1++(psL (psV d.toNat l) l (61-i.1.length) i.2).1/\(psL (psV d.toNat l) l 61 a).2=(psL (psV d.toNat l) l (61-i.1.length) i.2).2)
    (fun i=>⟨[(0,.q (.c (.str s))),(1,.q (.c (.int .i64 (i.2:Int)))),(2,.q (.c (.int .i64 5))),(3,.q (.c (.int .u8 93))),(4,.q (.c (.int .i64 d))),(10,.q (.box 10 0)),(12,.q (.box 12 0))],
     [(10,[.c (.int .i64 0),.c (.int .i64 0),.c (.str ⟨#[]⟩),.z 1,.z 5]),(12,[.c (.int .i64 5),.c (.int .i64 0),.c (.str ⟨#[]⟩),.z 1,.own 64])],
     [(64,5,ak i.1)]⟩) ([],a) ⟨by simp,h2,rfl,rfl⟩ ?_ ?_
   ·refine (Le.ownB (b:=12) (j:=4) (d:=64) (sz:=5) (qs:=[.c (.int .i64 5),.c (.int .i64 0),.c (.str ⟨#[]⟩),.z 1,.z 5]) (by decide) (by simp) rfl (by simp[Q.killO]) (by simp[PV.map,Q.killO])).trans (Le.sub (by simp[upd,del]) (by simp[upd,del]) (by simp[upd,del,ak]))
   ·rintro⟨acc,i⟩ ⟨g1,g2,g3,g4⟩
    simp only at g1 g2 g3 g4
    obtain⟨r1,r2,r3,_⟩:=hok i g2
    rcases Nat.lt_or_ge acc.length 61 with hlt|hge
    ·have b1:((acc.length:Int)<=60)=True:=eq_true (by omega)
     obtain⟨c,hc⟩:∃ c,61-acc.length=c+1:=⟨60-acc.length,by omega⟩
     rw[hc] at g3 g4
     by_cases c2:(psV d.toNat l i).2 < 0
     ·have b2:=eq_true c2
      rw[Ss c2] at g3 g4
      simp only[rg,go_sem,seval,Prod.fst,hL,b1,b2,e1,g3,g4,bz,T.enc_len,T.enc,z1,z2,List.append_nil,kb,kc,kd,ke,kf]
      repeat' (first|with_reducible assumption|with_reducible refine And.intro ?_ ?_|intro _)
      all_goals first|omega|(unfold aa;omega)|skip
     have b2:=eq_false c2
     have r4:=r3 (by omega)
     by_cases c3:atB l (psV d.toNat l i).2.toNat 93=true
     ·rw[Su c2 c3] at g3 g4
      have:=bH c3
      simp only[rg,go_sem,seval,Prod.fst,hL,b1,b2,c3,i93,u93,e1,g3,g4,fo,ak,bz,T.enc_len,T.enc,z1,z2,kb,kc,kd,ke,kf,dn,dp,dq,du,dz]
      repeat' (first|with_reducible assumption|with_reducible refine And.intro ?_ ?_|intro _)
      all_goals first|omega|(unfold aa;omega)|skip
     have c3:atB l (psV d.toNat l i).2.toNat 93=false:=by simpa using c3
     by_cases c4:atB l (psV d.toNat l i).2.toNat 44=true
     ·rw[Sv c2 c3 c4] at g3 g4
      have:=bH c4
      have ec:(((psV d.toNat l i).2.toNat+1:Nat):Int)=(psV d.toNat l i).2+1:=by omega
      simp only[rg,go_sem,seval,Prod.fst,hL,b1,b2,c3,c4,i93,u93,i44,u44,bz,T.enc_len,kb,kc,kd,ke,kf,dn,dp,dq,du,dz]
      repeat' (first|with_reducible assumption|with_reducible refine And.intro ?_ ?_|intro _)
      all_goals first|omega|(unfold aa;omega)|skip
      have e7:∀ x:T,61-(acc++[x]).length=c:=fun x=>by simp;omega
      refine⟨(acc++[(psV d.toNat l i).1],(psV d.toNat l i).2.toNat+1),⟨by simp;omega,by show (psV d.toNat l i).2.toNat+1<=s.size;omega,?_,?_⟩,by simp;omega,Le.sub (by simp only[ec];simp) (by simp) (by simp[fo,ak])⟩
      ·simp only[e7];rw[g3];simp
      ·simp only[e7];exact g4
     have c4:atB l (psV d.toNat l i).2.toNat 44=false:=by simpa using c4
     rw[Sw c2 c3 c4] at g3 g4
     simp only[rg,go_sem,seval,Prod.fst,hL,b1,b2,c3,c4,i93,u93,i44,u44,e1,g3,g4,fo,ak,bz,T.enc_len,T.enc,z1,z2,kb,kc,kd,ke,kf,dn,dp,dq,du,dz]
     repeat' (first|with_reducible assumption|with_reducible refine And.intro ?_ ?_|intro _)
     all_goals first|omega|(unfold aa;omega)|skip
    ·have b1:((acc.length:Int)<=60)=False:=eq_false (by omega)
     have hc:61-acc.length=0:=by omega
     rw[hc,Sx] at g3 g4
     simp only[rg,go_sem,seval,Prod.fst,hL,b1,e1,g3,g4,bz,T.enc_len,T.enc,z1,z2,List.append_nil]
     repeat' (first|with_reducible assumption|with_reducible refine And.intro ?_ ?_|intro _)
     all_goals first|omega|(unfold aa;omega)|skip
  ·by_cases c1:atB l a 125=true
   ·have e1:=Sq (f:=psV d.toNat l) c1
    have:=bH c1
    simp only[pu,rg,go_sem,seval,Prod.fst,hL,px,pv,c1,e1,Int.toNat_natCast,T.enc,z1,z2,dn,dp,dq,du,dz]
    repeat' (first|with_reducible assumption|with_reducible refine And.intro ?_ ?_|intro _)
    all_goals first|omega|(unfold aa;omega)|skip
   have c1:atB l a 125=false:=by simpa using c1
   have e1:=Sr (f:=psV d.toNat l) c1
   simp only[pu,rg,go_sem,seval,Prod.fst,hL,px,pv,c1,Int.toNat_natCast,dn,dp,dq,du,dz]
   repeat' (first|with_reducible assumption|with_reducible refine And.intro ?_ ?_|intro _)
   all_goals first|omega|(unfold aa;omega)|skip
   refine aS (ι:=List ByteArray × List T × Nat) (fun i=>61-i.2.1.length) (fun i=>i.2.1.length<=61/\i.1.length=i.2.1.length/\i.2.2<=s.size/\(psM (psV d.toNat l) l 61 a).1=i.1++(psM (psV d.toNat l) l (61-i.2.1.length) i.2.2).1/\(psM (psV d.toNat l) l 61 a).2.1=i.2.1++(psM (psV d.toNat l) l (61-i.2.1.length) i.2.2).2.1/\(psM (psV d.toNat l) l 61 a).2.2=(psM (psV d.toNat l) l (61-i.2.1.length) i.2.2).2.2)
    (fun i=>⟨[(0,.q (.c (.str s))),(1,.q (.c (.int .i64 (i.2.2:Int)))),(2,.q (.c (.int .i64 6))),(3,.q (.c (.int .u8 125))),(4,.q (.c (.int .i64 d))),(10,.q (.box 10 0)),(12,.q (.box 12 0))],
     [(10,[.c (.int .i64 0),.c (.int .i64 0),.c (.str ⟨#[]⟩),.z 1,.z 5]),(12,[.c (.int .i64 6),.c (.int .i64 0),.c (.str ⟨#[]⟩),.own 46,.own 64])],
     [(46,1,ae i.1),(64,5,ak i.2.1)]⟩) ([],[],a) ⟨by simp,rfl,h2,rfl,rfl,rfl⟩ ?_ ?_
   ·refine (Le.ownB (b:=12) (j:=3) (d:=46) (sz:=1) (qs:=[.c (.int .i64 6),.c (.int .i64 0),.c (.str ⟨#[]⟩),.z 1,.z 5]) (by decide) (by simp) rfl (by simp[Q.killO]) (by simp[PV.map,Q.killO])).trans
     ((Le.ownB (b:=12) (j:=4) (d:=64) (sz:=5) (qs:=[.c (.int .i64 6),.c (.int .i64 0),.c (.str ⟨#[]⟩),.own 46,.z 5]) (by decide) (by simp[upd]) rfl (by simp[upd,del,Q.killO]) (by simp[PV.map,Q.killO])).trans (Le.sub (by simp[upd,del]) (by simp[upd,del]) (by simp[upd,del,ae,ak])))
   ·rintro⟨ks,acc,i⟩ ⟨g1,g0,g2,g3,g5,g4⟩
    simp only at g0 g1 g2 g3 g4 g5
    have hu:=eQ (p:=aj) (l:=l) (a:=i) (by omega)
    rcases Nat.lt_or_ge acc.length 61 with hlt|hge
    ·have b1:((acc.length:Int)<=60)=True:=eq_true (by omega)
     obtain⟨c,hc⟩:∃ c,61-acc.length=c+1:=⟨60-acc.length,by omega⟩
     rw[hc] at g3 g4 g5
     by_cases c0:atB l (al aj l i) 58=true
     ·have hb:=bH c0
      obtain⟨r1,r2,r3,_⟩:=hok (al aj l i+1) (by omega)
      have ec0:((al aj l i:Nat):Int)+1=((al aj l i+1:Nat):Int):=by omega
      by_cases c2:(psV d.toNat l (al aj l i+1)).2 < 0
      ·have b2:=eq_true c2
       rw[Sz c0 c2] at g3 g4 g5
       simp only[rg,go_sem,seval,Prod.fst,hL,b1,b2,c0,i58,u58,bI,ec0,Int.toNat_natCast,e1,g3,g4,g5,iA,xl,bz,aT,T.enc_len,T.enc,z1,z2,List.append_nil,gj,gk,gn,gp,gq,kb,kc,kd,ke,kf,dn,dp,dq,du,dz]
       repeat' (first|with_reducible assumption|with_reducible refine And.intro ?_ ?_|intro _)
       all_goals first|omega|(unfold aa;omega)|skip
      have b2:=eq_false c2
      have r4:=r3 (by omega)
      by_cases c3:atB l (psV d.toNat l (al aj l i+1)).2.toNat 125=true
      ·rw[SA c0 c2 c3] at g3 g4 g5
       have:=bH c3
       simp only[rg,go_sem,seval,Prod.fst,hL,b1,b2,c0,c3,i58,u58,px,pv,bI,ec0,Int.toNat_natCast,e1,g3,g4,g5,iA,xl,fo,ak,bz,aT,T.enc_len,T.enc,z1,z2,gj,gk,gn,gp,gq,kb,kc,kd,ke,kf,dn,dp,dq,du,dz]
       repeat' (first|with_reducible assumption|with_reducible refine And.intro ?_ ?_|intro _)
       all_goals first|omega|(unfold aa;omega)|skip
      have c3:atB l (psV d.toNat l (al aj l i+1)).2.toNat 125=false:=by simpa using c3
      by_cases c4:atB l (psV d.toNat l (al aj l i+1)).2.toNat 44=true
      ·rw[SB c0 c2 c3 c4] at g3 g4 g5
       have:=bH c4
       have ec:(((psV d.toNat l (al aj l i+1)).2.toNat+1:Nat):Int)=(psV d.toNat l (al aj l i+1)).2+1:=by omega
       simp only[rg,go_sem,seval,Prod.fst,hL,b1,b2,c0,c3,c4,i58,u58,px,pv,i44,u44,bI,ec0,Int.toNat_natCast,bz,aT,T.enc_len,gj,gk,gn,gp,gq,kb,kc,kd,ke,kf,dn,dp,dq,du,dz]
       repeat' (first|with_reducible assumption|with_reducible refine And.intro ?_ ?_|intro _)
       all_goals first|omega|(unfold aa;omega)|skip
       have e7:∀ x:T,61-(acc++[x]).length=c:=fun x=>by simp;omega
       refine⟨(ks++[bL (sub l i (al aj l i))],acc++[(psV d.toNat l (al aj l i+1)).1],(psV d.toNat l (al aj l i+1)).2.toNat+1),⟨by simp;omega,by simp;omega,by show (psV d.toNat l (al aj l i+1)).2.toNat+1<=s.size;omega,?_,?_,?_⟩,by simp;omega,Le.sub (by simp only[ec];simp) (by simp) (by simp[fo,ak,iA,ae])⟩
       ·simp only[e7];rw[g3];simp
       ·simp only[e7];rw[g5];simp
       ·simp only[e7];exact g4
      have c4:atB l (psV d.toNat l (al aj l i+1)).2.toNat 44=false:=by simpa using c4
      rw[SC c0 c2 c3 c4] at g3 g4 g5
      simp only[rg,go_sem,seval,Prod.fst,hL,b1,b2,c0,c3,c4,i58,u58,px,pv,i44,u44,bI,ec0,Int.toNat_natCast,e1,g3,g4,g5,iA,xl,fo,ak,bz,aT,T.enc_len,T.enc,z1,z2,gj,gk,gn,gp,gq,kb,kc,kd,ke,kf,dn,dp,dq,du,dz]
      repeat' (first|with_reducible assumption|with_reducible refine And.intro ?_ ?_|intro _)
      all_goals first|omega|(unfold aa;omega)|skip
     ·have c0:atB l (al aj l i) 58=false:=by simpa using c0
      rw[Sy c0] at g3 g4 g5
      simp only[rg,go_sem,seval,Prod.fst,hL,b1,c0,i58,u58,Int.toNat_natCast,e1,g3,g4,g5,bz,aT,T.enc_len,T.enc,z1,z2,List.append_nil,gj,gk,gn,gp,gq,dn,dp,dq,du,dz]
      repeat' (first|with_reducible assumption|with_reducible refine And.intro ?_ ?_|intro _)
      all_goals first|omega|(unfold aa;omega)|skip
    ·have b1:((acc.length:Int)<=60)=False:=eq_false (by omega)
     have hc:61-acc.length=0:=by omega
     rw[hc,SD] at g3 g4 g5
     simp only[rg,go_sem,seval,Prod.fst,hL,b1,e1,g3,g4,g5,bz,aT,T.enc_len,T.enc,z1,z2,List.append_nil]
     repeat' (first|with_reducible assumption|with_reducible refine And.intro ?_ ?_|intro _)
     all_goals first|omega|(unfold aa;omega)|skip
theorem SI (k:Nat):Sound Tryz.prog 109 (ka k)/\Sound Tryz.prog 129 (kg k):=by
 induction k with
 | zero=>exact⟨Sound.none,Sound.none⟩
 | succ k ih=>exact⟨SG k ih.2,SH k ih.1⟩
noncomputable def ni :Spec:=Spec.of (ι:=ByteArray × Nat × Int) [false,false,false] (fun i=>[.d (.one (.str i.1)),.d (.one (.int .i64 (i.2.1:Int))),.d (.one (.int .i64 i.2.2))]) (fun i=>aa 1000000 i.1.size/\i.2.1<=i.1.size/\0<=i.2.2/\i.2.2<=6) (fun i=>[.d (.agg (psV i.2.2.toNat (tL i.1) i.2.1).1.enc),.d (.one (.int .i64 (psV i.2.2.toNat (tL i.1) i.2.1).2))]) (fun _=>[.gone,.gone,.gone])
theorem xm:∀ i j:ByteArray × Nat × Int,(fun (i:ByteArray × Nat × Int)=>([.d (.one (.str i.1)),.d (.one (.int .i64 (i.2.1:Int))),.d (.one (.int .i64 i.2.2))]:List AV)) i=(fun (i:ByteArray × Nat × Int)=>([.d (.one (.str i.1)),.d (.one (.int .i64 (i.2.1:Int))),.d (.one (.int .i64 i.2.2))]:List AV)) j->i=j:=by
 rintro⟨s,a,d⟩ ⟨s',a',d'⟩ h
 simp only[Prod.mk.injEq]
 simpa [ar,T.enc_eq,au,F.enc_eq,av,Tk.enc_eq,aw,Gn.enc_eq,aq,Int.natCast_inj,and_assoc] using h
theorem xn :(ni).md=[false,false,false]:=rfl
theorem SJ  (s:ByteArray) (a:Nat) (d:Int):(ni).pre [.d (.one (.str s)),.d (.one (.int .i64 (a:Int))),.d (.one (.int .i64 d))]=(aa 1000000 s.size/\a<=s.size/\0<=d/\d<=6):=Spec.of_pre' xm (s,a,d)
theorem xo :(ni).alts=none:=rfl
theorem SK  (s:ByteArray) (a:Nat) (d:Int):(ni).res [.d (.one (.str s)),.d (.one (.int .i64 (a:Int))),.d (.one (.int .i64 d))]=[.d (.agg (psV d.toNat (tL s) a).1.enc),.d (.one (.int .i64 (psV d.toNat (tL s) a).2))]:=Spec.of_res xm (s,a,d)
theorem SL  (s:ByteArray) (a:Nat) (d:Int):(ni).out [.d (.one (.str s)),.d (.one (.int .i64 (a:Int))),.d (.one (.int .i64 d))]=[.gone,.gone,.gone]:=Spec.of_out xm (s,a,d)
theorem SM:Sound Tryz.prog 109 ni:=Sound.all (μ:=fun i=>2*i.2.2.toNat) (fun k=>(SI k).1)
end Go.Proofs.Pw
namespace Go.Proofs.Pw
def bw (s:ByteArray):Prop:=∃ t,okT t/\aA t=s
noncomputable instance (s:ByteArray):Decidable (bw s):=Classical.propDecidable _
noncomputable def bQ (s:ByteArray):T:=if h:bw s then Classical.choose h else T.zero
theorem SN {a b:T} (ha:okT a) (hb:okT b) (h:aA a=aA b):a=b :=
 (rK a (b:=b) (x:=[]) (y:=[]) ha.1 hb.1 trivial trivial (by rw[h])).1
theorem pz {s:ByteArray} {t:T} (h:okT t) (e:aA t=s):bw s/\bQ s=t:=by
 have h1:bw s:=⟨t,h,e⟩
 refine⟨h1,?_⟩
 unfold bQ
 rw[dif_pos h1]
 have:=Classical.choose_spec h1
 exact SN this.1 h (this.2.trans e.symm)
theorem FH {s:ByteArray} (h:bw s):okT (bQ s)/\aA (bQ s)=s:=by
 obtain⟨t,h1,h2⟩:=h
 rw[(pz h1 h2).2];exact⟨h1,h2⟩
theorem lE {s:ByteArray} (h:¬ bw s):bQ s=T.zero:=by unfold bQ;rw[dif_neg h]
theorem SO {t:T} (h:okT t):(aA t).size≠0/\(aA t).size<=2500:=by
 obtain⟨c,r,e,_⟩:=lz h.1
 have h2:=rB h.1
 have h3:=jJ h
 have h4:(tL (aA t)).length=(aA t).size:=ft _
 rw[e] at h4
 simp only[List.length_cons] at h4
 omega
theorem xp {s:ByteArray} (h:bw s):s.size≠0/\s.size<=2500:=by
 obtain⟨t,h1,h2⟩:=h
 rw[<-h2];exact SO h1
theorem xq (s:ByteArray):(okT (rdV 6 (tL s) 0).1/\aA (rdV 6 (tL s) 0).1=s) ↔ bw s:=by
 refine⟨fun h=>⟨_,h.1,h.2⟩,?_⟩
 rintro⟨t,h1,rfl⟩
 rw[QX h1]
 exact⟨h1,rfl⟩
theorem SP {s:ByteArray} (h:bw s):bQ s=(rdV 6 (tL s) 0).1:=by
 have:=(xq s).2 h
 exact (pz this.1 this.2).2
theorem FI (s:ByteArray):okT (bQ s):=by
 by_cases h:bw s
 ·exact (FH h).1
 ·rw[lE h];exact⟨by simp[T.zero,aO,aP,vj],by simp[T.zero,cB,co]⟩
end Go.Proofs.Pw
namespace Go.Proofs.Pw
theorem pA {l w x:List UInt8} {p:UInt8->Bool} {a:Nat} (h:l.drop a=w++x) (hw:∀ c ∈ w,p c=true) (hx:∀ b r,x=b::r->p b=false):al p l a=a+w.length/\sub l a (al p l a)=w:=by
 have key:(w++x).takeWhile p=w:=by
  rw[List.takeWhile_append_of_pos hw]
  cases x with
  | nil=>simp
  | cons b r=>rw[List.takeWhile_cons_of_neg (by rw[hx b r rfl];simp),List.append_nil]
 have e1:al p l a=a+w.length:=by unfold al;rw[h,key]
 exact⟨e1,by rw[Ra,h,key]⟩
theorem FJ {c:UInt8} (h:bm c):aj c=true:=by unfold aj;simpa [bm] using h
theorem SQ {x:List UInt8} (h:lB x):∀ b r,x=b::r->aj b=false:=fun b r e=>by
 subst e
 rcases h with rfl|rfl|rfl <;> rfl
theorem FK {x:List UInt8} (h:lB x):∀ b r,x=b::r->bh b=false:=fun b r e=>by
 subst e
 rcases h with rfl|rfl|rfl <;> rfl
theorem SR (n:Int):∃ c r,Lib.itoa n=c::r/\(c.toNat=45\/48<=c.toNat/\c.toNat<=57):=by
 obtain⟨c,r,e⟩:=mY n
 exact⟨c,r,e,gR n c (by rw[e];simp)⟩
theorem SS {l x:List UInt8} {a:Nat} {n:Int} (h:l.drop a=Lib.itoa n++x) (hx:lB x):cd l a=a+(Lib.itoa n).length/\sub l a (cd l a)=Lib.itoa n:=by
 have hd:∀ u b,b ∈ Lib.decDigits u->bh b=true:=fun u b hb=>by
  unfold bh;simpa using jQ u b hb
 have hE:cd l a=a+(Lib.itoa n).length:=by
  unfold cd
  by_cases c:n < 0
  ·have e:Lib.itoa n=45::Lib.decDigits n.natAbs:=by unfold Lib.itoa;rw[if_pos c]
   rw[e] at h ⊢
   have h2:l.drop (a+1)=Lib.decDigits n.natAbs++x:=cl (w:=[45]) h
   rw[if_pos (fv h),(pA h2 (hd _) (FK hx)).1]
   simp only[List.length_cons];omega
  ·have e:Lib.itoa n=Lib.decDigits n.toNat:=by unfold Lib.itoa;rw[if_neg c]
   rw[e] at h ⊢
   obtain⟨y,r,e2⟩:=List.exists_cons_of_ne_nil (ly n.toNat)
   have hy:=jQ n.toNat y (by rw[e2];simp)
   have h3:atB l a 45=false:=dL (r:=r++x) (c:=y) (by rw[h,e2];rfl) (fun k=>by rw[k] at hy;revert hy;decide)
   rw[h3,if_neg (by simp),(pA h (hd _) (FK hx)).1]
 refine⟨hE,?_⟩
 unfold sub
 rw[hE,h,Nat.add_sub_cancel_left,List.take_left']
 rfl
theorem pB {l r:List UInt8} {a:Nat} {c:UInt8} (h:l.drop a=c::r):l.getD a 0=c/\a < l.length:=by
 have h1:l[a]?=some c:=by
  have:=congrArg (fun x=>x[0]?) h
  simpa using this
 refine⟨by rw[List.getD_eq_getElem?_getD,h1];rfl,?_⟩
 exact (List.getElem?_eq_some_iff.1 h1).1
theorem ST {c:UInt8} (h:c.toNat=45\/48<=c.toNat/\c.toNat<=57):aj c=false:=by unfold aj;simp;omega
mutual
theorem si:∀ (t:T) {d:Nat} {l:List UInt8} {a:Nat} {x:List UInt8},aO t d->aB t<=60->l.drop a=tL (aA t)++x->lB x->psV d l a=(t,((a+(tL (aA t)).length:Nat):Int))
 | .mk k n s ks ts,0,l,a,x,hf,_,_,_=>by simp only[aO] at hf;have:=hf.1;omega
 | .mk k n s ks ts,d+1,l,a,x,hf,hz,h,hx=>by
   have hk:=pp hf
   simp only[aO] at hf
   obtain⟨_,a2,a3,a4,a5,_,_,a8,a9,a10,a11,a12⟩:=hf
   have ed:((d+1:Nat):Int)-1=(d:Int):=by omega
   rw[ed] at a12
   simp only[aB] at hz
   have hlen:=gQ ts
   rw[fX] at h ⊢
   have word:∀ w:List UInt8,(∀ c ∈ w,aj c=true)->∀ b r,w=b::r->l.drop a=w++x->b≠91->b≠123->b≠39->psV (d+1) l a=psW l a/\sub l a (al aj l a)=w/\al aj l a=a+w.length:=fun w hw b r e h n1 n2 n3=>by
    have h':l.drop a=b::(r++x):=by rw[h,e];rfl
    obtain⟨g1,g2⟩:=pB h'
    obtain⟨u1,u2⟩:=pA h hw (SQ hx)
    refine⟨?_,u2,u1⟩
    rw[psV,if_neg (by omega),dL h' n1,if_neg (by simp),dL h' n2,if_neg (by simp),dL h' n3,if_neg (by simp),g1,if_pos (hw b (by rw[e];simp))]
   by_cases c0:k=0
   ·subst c0
    have q2:=a2.resolve_left (by omega);have q3:=a3.resolve_left (by omega);have q4:=a4.resolve_left (by omega);have q5:=a5.resolve_left (by omega)
    subst q2 q3 q4 q5
    rw[if_pos rfl] at h ⊢
    obtain⟨e1,e2,e3⟩:=word _ (by decide) _ _ rfl h (by decide) (by decide) (by decide)
    rw[e1];unfold psW;rw[if_pos e2,e3];rfl
   rw[if_neg c0] at h ⊢
   by_cases c1:k=1
   ·subst c1
    have q2:=a2.resolve_left (by omega);have q3:=a3.resolve_left (by omega);have q4:=a4.resolve_left (by omega);have q5:=a5.resolve_left (by omega)
    subst q2 q3 q4 q5
    rw[if_pos rfl] at h ⊢
    obtain⟨e1,e2,e3⟩:=word _ (by decide) _ _ rfl h (by decide) (by decide) (by decide)
    rw[e1];unfold psW;rw[e2,if_neg (by decide),if_pos rfl,e3]
   rw[if_neg c1] at h ⊢
   by_cases c2:k=2
   ·subst c2
    have q2:=a2.resolve_left (by omega);have q3:=a3.resolve_left (by omega);have q4:=a4.resolve_left (by omega);have q5:=a5.resolve_left (by omega)
    subst q2 q3 q4 q5
    rw[if_pos rfl] at h ⊢
    obtain⟨e1,e2,e3⟩:=word _ (by decide) _ _ rfl h (by decide) (by decide) (by decide)
    rw[e1];unfold psW;rw[e2,if_neg (by decide),if_neg (by decide),if_pos rfl,e3]
   rw[if_neg c2] at h ⊢
   by_cases c3:k=3
   ·subst c3
    have q3:=a3.resolve_left (by omega);have q4:=a4.resolve_left (by omega);have q5:=a5.resolve_left (by omega)
    subst q3 q4 q5
    rw[if_pos rfl] at h ⊢
    obtain⟨c,r,e,hc⟩:=SR n
    have hne:∀ m:UInt8,m.toNat≠45->¬ (48<=m.toNat/\m.toNat<=57)->c≠m:=fun m h1 h2 e=>by rw[e] at hc;exact hc.elim h1 h2
    have h':l.drop a=c::(r++x):=by rw[h,e];rfl
    obtain⟨g1,g2⟩:=pB h'
    obtain⟨u1,u2⟩:=SS h hx
    rw[psV,if_neg (by omega),dL h' (hne _ (by decide) (by decide)),if_neg (by simp),dL h' (hne _ (by decide) (by decide)),if_neg (by simp),dL h' (hne _ (by decide) (by decide)),if_neg (by simp),g1,ST hc,if_neg (by simp)]
    unfold psN
    rw[u2,EZ a8 a9,u1]
   rw[if_neg c3] at h ⊢
   have q2:=a2.resolve_left c3
   subst q2
   by_cases c4:k=4
   ·subst c4
    have q4:=a4.resolve_left (by omega);have q5:=a5.resolve_left (by omega)
    subst q4 q5
    rw[if_pos rfl] at h ⊢
    have h':l.drop a=39::(tL s++39::x):=by rw[h];simp
    obtain⟨_,g2⟩:=pB h'
    have h2:l.drop (a+1)=tL s++39::x:=cl (w:=[39]) h'
    obtain⟨u1,u2⟩:=pA (p:=aj) h2 (fun c hc=>FJ (cT a10 c hc)) (fun b r e=>by cases e;rfl)
    have h3:=cl h2
    rw[<-u1] at h3
    rw[psV,if_neg (by omega),dL h' (by decide),if_neg (by simp),dL h' (by decide),if_neg (by simp),if_pos (fv h'),if_pos (fv h3),u2,u1,jS]
    simp only[List.length_cons,List.length_append,List.length_nil,Prod.mk.injEq,true_and]
    omega
   rw[if_neg c4] at h ⊢
   have q3:=a3.resolve_left c4
   subst q3
   by_cases c6:k=6
   ·subst c6
    rw[if_pos rfl] at h ⊢
    obtain⟨g1,g2⟩:=a11 rfl
    have ok:∀ s ∈ ks,okS s:=fun s hs=>by
     obtain⟨i,hi⟩:=List.getElem?_of_mem hs
     exact gP g2 hi
    have h':l.drop a=123::(TMj ks ts++125::x):=by rw[h];simp
    obtain⟨_,gl⟩:=pB h'
    have h2:l.drop (a+1)=TMj ks ts++125::x:=cl (w:=[123]) h'
    rw[psV,if_neg (by omega),dL h' (by decide),if_neg (by simp),if_pos (fv h')]
    cases ts with
    | nil =>
      rw[List.length_nil] at g1
      have:=List.eq_nil_of_length_eq_zero g1
      subst this
      rw[if_pos (fv h2)]
      simp[TMj]
    | cons t ts =>
      cases ks with
      | nil=>simp at g1
      | cons z ks =>
        have hno:atB l (a+1) 125=false:=by
         cases hz':tL z with
         | nil =>
           have:l.drop (a+1)=58::(tL (aA t)++TM ks ts++125::x):=by rw[h2];simp[TMj,hz']
           exact dL this (by decide)
         | cons b r =>
           have:l.drop (a+1)=b::(r++58::(tL (aA t)++TM ks ts++125::x)):=by rw[h2];simp[TMj,hz']
           refine dL this fun e=>?_
           have:=cT (ok z (by simp)) b (by rw[hz'];simp)
           rw[e] at this
           exact pq (by decide) this
        have hr:=FM (t::ts) (c:=61) (ks:=z::ks) (by simp) (by simp only[List.length_cons] at hlen ⊢;omega) g1 ok a12 (by omega) h2
        rw[hno,if_neg (by simp),hr]
        simp only[List.length_cons,List.length_append,List.length_nil,Prod.mk.injEq,true_and]
        omega
   rw[if_neg c6] at h ⊢
   have q4:=a4.resolve_left c6
   subst q4
   have c5:k=5:=by
    have h0:=hk.1
    have h6:=hk.2
    omega
   subst c5
   have h':l.drop a=91::(TRj ts++93::x):=by rw[h];simp
   obtain⟨_,gl⟩:=pB h'
   have h2:l.drop (a+1)=TRj ts++93::x:=cl (w:=[91]) h'
   rw[psV,if_neg (by omega),if_pos (fv h')]
   cases ts with
   | nil =>
     rw[if_pos (fv h2)]
     simp[TRj]
   | cons t ts =>
     have hno:atB l (a+1) 93=false:=by
      have hft:=a12
      simp only[aP] at hft
      obtain⟨c,r,e,_,hne,_⟩:=lz hft.1
      have:l.drop (a+1)=c::(r++TR ts++93::x):=by rw[h2];simp[TRj,e]
      exact dL this hne
     have hr:=FL (t::ts) (c:=61) (by simp) (by simp only[List.length_cons] at hlen ⊢;omega) a12 (by omega) h2
     rw[hno,if_neg (by simp),hr]
     simp only[List.length_cons,List.length_append,List.length_nil,Prod.mk.injEq,true_and]
     omega
theorem FL:∀ (ts:List T) {d:Nat} {l:List UInt8} {c a:Nat} {x:List UInt8},ts≠[]->ts.length<=c->aP ts d->az ts<=60->l.drop a=TRj ts++93::x->psL (psV d l) l c a=(ts,((a+(TRj ts).length+1:Nat):Int))
 | [],_,_,_,_,_,h,_,_,_,_=>absurd rfl h
 | t::ts,d,l,0,a,x,_,hc,_,_,_=>by simp at hc
 | t::ts,d,l,c+1,a,x,_,hc,hf,hz,h=>by
   simp only[aP] at hf
   simp only[az] at hz
   have hp:=rN t
   have hl:=gQ ts
   simp only[TRj,List.append_assoc] at h
   have h1:=si t hf.1 (by omega) h (EI ts x)
   have h2:=cl h
   have hneg:¬ (((a+(tL (aA t)).length:Nat):Int) < 0):=by omega
   simp only[psL,h1,Int.toNat_natCast]
   rw[if_neg hneg]
   cases ts with
   | nil =>
     rw[if_pos (fv h2)]
     simp[TRj,TR]
   | cons u ts =>
     have h3:l.drop (a+(tL (aA t)).length+1)=TRj (u::ts)++93::x:=by
      have:l.drop (a+(tL (aA t)).length)=[44]++(TRj (u::ts)++93::x):=by rw[h2];simp[TR,TRj]
      exact cl (w:=[44]) this
     have hr:=FL (u::ts) (c:=c) (by simp) (by simpa using hc) hf.2 (by omega) h3
     rw[dL (b:=93) (c:=44) h2 (by decide),if_neg (by simp),if_pos (fv (c:=44) h2),hr]
     simp only[TRj,TR,List.length_append,List.length_cons,Prod.mk.injEq,true_and]
     omega
theorem FM:∀ (ts:List T) {ks:List ByteArray} {d:Nat} {l:List UInt8} {c a:Nat} {x:List UInt8},ts≠[]->ts.length<=c->ks.length=ts.length->(∀ s ∈ ks,okS s)->aP ts d->az ts<=60->l.drop a=TMj ks ts++125::x->psM (psV d l) l c a=(ks,ts,((a+(TMj ks ts).length+1:Nat):Int))
 | [],_,_,_,_,_,_,h,_,_,_,_,_,_=>absurd rfl h
 | t::ts,_,d,l,0,a,x,_,hc,_,_,_,_,_=>by simp at hc
 | t::ts,[],d,l,c+1,a,x,_,_,hk,_,_,_,_=>by simp at hk
 | t::ts,z::ks,d,l,c+1,a,x,_,hc,hk,ok,hf,hz,h=>by
   simp only[aP] at hf
   simp only[az] at hz
   have hp:=rN t
   have hl:=gQ ts
   have h0:l.drop a=tL z++58::(tL (aA t)++(TM ks ts++125::x)):=by rw[h];simp[TMj]
   obtain⟨u1,u2⟩:=pA (p:=aj) h0 (fun c hc=>FJ (cT (ok z (by simp)) c hc)) (fun b r e=>by cases e;rfl)
   have h3:=cl h0
   have h5:l.drop (a+(tL z).length+1)=tL (aA t)++(TM ks ts++125::x):=cl (w:=[58]) h3
   have h1:=si t hf.1 (by omega) h5 (EJ ks ts x)
   have h4:=cl h5
   have hneg:¬ (((a+(tL z).length+1+(tL (aA t)).length:Nat):Int) < 0):=by omega
   have u3:sub l a (a+(tL z).length)=tL z:=by rw[<-u1];exact u2
   simp only[psM,u1,u3,h1,Int.toNat_natCast,jS]
   rw[if_pos (fv h3),if_neg hneg]
   cases ts with
   | nil =>
     have hk0:ks=[]:=List.eq_nil_of_length_eq_zero (by simpa using hk)
     subst hk0
     rw[if_pos (fv h4)]
     simp[TMj,TM];omega
   | cons u ts =>
     cases ks with
     | nil=>simp at hk
     | cons z' ks =>
       have h6:l.drop (a+(tL z).length+1+(tL (aA t)).length+1)=TMj (z'::ks) (u::ts)++125::x:=by
        have:l.drop (a+(tL z).length+1+(tL (aA t)).length)=[44]++(TMj (z'::ks) (u::ts)++125::x):=by rw[h4];simp[TM,TMj]
        exact cl (w:=[44]) this
       have hr:=FM (u::ts) (ks:=z'::ks) (c:=c) (by simp) (by simpa using hc) (by simpa using hk) (fun s hs=>ok s (List.mem_cons_of_mem _ hs)) hf.2 (by omega) h6
       rw[dL (b:=125) (c:=44) h4 (by decide),if_neg (by simp),if_pos (fv (c:=44) h4),hr]
       simp only[TMj,TM,List.headD_cons,List.tail_cons,List.length_append,List.length_cons,Prod.mk.injEq,true_and]
       omega
end
theorem xr (s:ByteArray):((psV 6 (tL s) 0).2=(s.size:Int)/\okT (psV 6 (tL s) 0).1) ↔ bw s:=by
 have hl:(tL s).length=s.size:=ft s
 constructor
 ·rintro⟨h1,h2⟩
  obtain⟨⟨y,e1⟩,e2⟩:=wP 6 (tL s) 0 (Nat.zero_le _) (by omega)
  refine⟨_,h2,eP ?_⟩
  have h3:(tL (aA (psV 6 (tL s) 0).1)).length=(tL s).length:=by omega
  rw[List.drop_zero] at e1
  have:=congrArg List.length e1
  rw[List.length_append] at this
  have hy:y=[]:=List.eq_nil_of_length_eq_zero (by omega)
  rw[hy,List.append_nil] at e1
  exact e1.symm
 ·rintro⟨t,h1,rfl⟩
  have:=si t (d:=6) (l:=tL (aA t)) (a:=0) (x:=[]) h1.1 (jJ h1) (by simp) trivial
  rw[this]
  exact⟨by simp only;rw[Nat.zero_add,hl],h1⟩
theorem SU {s:ByteArray} (h:bw s):bQ s=(psV 6 (tL s) 0).1:=by
 have h0:=h
 obtain⟨t,h1,h2⟩:=h
 have h3:=si t (d:=6) (l:=tL (aA t)) (a:=0) (x:=[]) h1.1 (jJ h1) (by simp) trivial
 rw[(pz h1 h2).2,<-h2,h3]
end Go.Proofs.Pw
namespace Go.Proofs.Pw
variable [Globs]
def FN:X:=(.seq (.reg [xS 1 (.box (.t 0) (some 5)),xS 2 (.alloc xV)] none [1,2]) (.seq (.reg [xS 6 (.bsl 1 []),xS 7 (.fa (.t 1) 3),xL 8 7,xS 9 (.app (.t 6) (.t 8) 1 16 []),xS 10 (.fa (.t 1) 3),⟨none,none,.st (.t 10) (.t 9) none⟩] none [1,2]) (.seq (.reg [xS 11 (.bsl 5 []),xM 3 11] none [1,2,3]) (.seq (.seq (.reg [xS 12 (.fa (.t 1) 4),xL 13 12,xS 14 (.len (.t 13) false),xS 15 (.mv (xK 0))] none [1,2,3,13,14,15]) (.block 0 (.loop (.seq (.reg [xS 16 (.bin false .lss (.t 15) (.t 14))] none [1,2,3,13,14,15,16]) (.seq (.cond (.t 16) .skip (.exit 0)) (.seq (.block 1 (.seq (.reg [xS 17 (.ia (.t 13) (.t 15) 5),xS 18 (.load (.t 17) (some 5)),xS 5 (.alloc xV),xW 5 18 5] none [1,2,3,5,13,14,15]) (.reg [xM 19 3,xS 20 (.load (.t 5) (some 5)),xS 21 (.call 53 [(.t 20)]),xS 22 (.bslx 5 [((.t 21),(some 5))]),xS 23 (.appx (.t 19) (.t 22) 5 80),xM 3 23] none [1,2,3,13,14,15]))) (.reg [xS 24 (.bin false .add (.t 15) (xK 1)),xM 15 24] none [1,2,3,13,14,15]))))))) (.seq (.reg [xM 25 3,xS 26 (.fa (.t 1) 4),⟨none,none,.st (.t 26) (.t 25) none⟩] none [1,2]) (.seq (.reg [xS 27 (.load (.t 1) (some 5)),xW 2 27 5] none [2]) .ret))))))
theorem SW:ao Tryz.prog 28 (Tryz.f53.body.getD .skip) FN=true:=by kernel_rfl
theorem SX:ap Tryz.prog Tryz.f53.results.toList [.cell 2 (some 5)]=true:=by kernel_rfl
theorem xt:ax Tryz.prog 53=true:=by kernel_rfl
noncomputable def ki (k:Nat):Spec:=Spec.of (ι:=T) [false] (fun i=>[.d (.agg i.enc)]) (fun i=>(i.fit 2000000)/\SizeOf.sizeOf i < k) (fun i=>[.ag (agX i)]) (fun _=>[.gone])
theorem sj:∀ i j:T,(fun (i:T)=>([.d (.agg i.enc)]:List AV)) i=(fun (i:T)=>([.d (.agg i.enc)]:List AV)) j->i=j:=by
 intro t t' h
 simpa [ar,T.enc_eq,au,F.enc_eq,av,Tk.enc_eq,aw,Gn.enc_eq,aq] using h
theorem SY (k:Nat):(ki k).md=[false]:=rfl
theorem SZ (k:Nat) (t:T):(ki k).pre [.d (.agg t.enc)]=((t.fit 2000000)/\SizeOf.sizeOf t < k):=Spec.of_pre' sj t
theorem Ta (k:Nat):(ki k).alts=none:=rfl
theorem Tb (k:Nat) (t:T):(ki k).res [.d (.agg t.enc)]=[.ag (agX t)]:=Spec.of_res sj t
theorem Tc (k:Nat) (t:T):(ki k).out [.d (.agg t.enc)]=[.gone]:=Spec.of_out sj t
set_option maxHeartbeats 1000000 in
theorem Td (k:Nat) (hS:Sound Tryz.prog 53 (ki k)):Sound Tryz.prog 53 (ki (k+1)):=by
 refine aL (GOK.cons xt hS GOK.nil) Tryz.func53 (c:=Tryz.f53.body.getD .skip) rfl (n:=28) rfl SW SX (fun _=>by simp) ?_ ?_
 ·exact sj
 ·rintro t ⟨h1,h4⟩
  obtain⟨kk,n,s,ks,l⟩:=t
  simp only[T.fit,aa,cA] at h1
  obtain⟨_,_,f1,⟨f2,_⟩,f3,f4⟩:=h1
  have e3 : SizeOf.sizeOf l < k := by have e : SizeOf.sizeOf (T.mk kk n s ks l) < k + 1 := h4
                                      rw[T.mk.sizeOf_spec] at e;omega
  simp only[FN,T.enc,agX,go_sem,seval,Prod.fst,rg,aT,bz]
  repeat' (first|with_reducible assumption|with_reducible refine And.intro ?_ ?_|intro _)
  all_goals first|omega|skip
  refine aS (ι:=Nat) (fun i=>l.length-i) (fun i=>i<=l.length)
   (fun i=>⟨[(1,.q (.box 1 0)),(2,.q (.box 2 0)),(3,.q (.own 23)),(13,.q (.c (.row 5 (ak l)))),(14,.q (.c (.int .i64 l.length))),(15,.q (.c (.int .i64 i)))],
    [(1,[.c (.int .i64 kk),.c (.int .i64 n),.c (.str s),.own 9,.c (.row 5 (ak l))]),(2,[.c (.int .i64 0),.c (.int .i64 0),.c (.str ⟨#[]⟩),.z 1,.z 5])],[(9,1,ae ks),(23,5,dk (l.take i))]⟩) 0 (Nat.zero_le _) ?_ ?_
  ·refine Le.own (t:=3) (d:=23) (sz:=5) (by decide) (by simp) (by simp[Q.killO]) ?_
   simp[PV.map,Q.killO]
  ·intro i hi
   rcases Nat.lt_or_ge i l.length with hlt|hge
   ·obtain⟨t,ht,_,hmem⟩:=aY hlt
    have a1:=gN ht
    have a2:((i:Int) < (l.length:Int))=True:=by simp;omega
    have a3:=jE f4 t hmem
    have a4:=bZ hmem
    have a6:=T.enc_len t
    have a7:(l.take i).length=i:=by simp;omega
    obtain⟨k1,n1,s1,ks1,l1⟩:=t
    simp only[go_sem,seval,Prod.fst,rg,a1,a2,a6,a7,bz,SY,SZ,Ta,Tb,Tc,agX]
    repeat' (first|with_reducible assumption|with_reducible refine And.intro ?_ ?_|intro _)
    all_goals first|omega|assumption|skip
    refine⟨i+1,by omega,by omega,?_⟩
    rw[QB ht]
    exact Le.sub (by simp) (by simp) (by simp[T.encX])
   ·have a2:((i:Int) < (l.length:Int))=False:=by simp;omega
    simp only[go_sem,seval,Prod.fst,rg,a2,List.take_of_length_le hge,Bool.false_or,Bool.or_true,Bool.not_true,Bool.false_eq_true]
theorem Te (k:Nat):Sound Tryz.prog 53 (ki k):=by
 induction k with
 | zero=>exact Sound.none
 | succ k ih=>exact Td k ih
noncomputable def kj :Spec:=Spec.of (ι:=T) [false] (fun i=>[.d (.agg i.enc)]) (fun i=>i.fit 2000000) (fun i=>[.ag (agX i)]) (fun _=>[.gone])
theorem xu:∀ i j:T,(fun (i:T)=>([.d (.agg i.enc)]:List AV)) i=(fun (i:T)=>([.d (.agg i.enc)]:List AV)) j->i=j:=by
 intro t t' h
 simpa [ar,T.enc_eq,au,F.enc_eq,av,Tk.enc_eq,aw,Gn.enc_eq,aq] using h
theorem xv :(kj).md=[false]:=rfl
theorem xw  (t:T):(kj).pre [.d (.agg t.enc)]=(t.fit 2000000):=Spec.of_pre' xu t
theorem xx :(kj).alts=none:=rfl
theorem xz  (t:T):(kj).res [.d (.agg t.enc)]=[.ag (agX t)]:=Spec.of_res xu t
theorem xA  (t:T):(kj).out [.d (.agg t.enc)]=[.gone]:=Spec.of_out xu t
theorem FO:Sound Tryz.prog 53 kj:=Sound.all (μ:=fun i=>SizeOf.sizeOf i) Te
end Go.Proofs.Pw
namespace Go.Proofs.Pw
theorem Tf (t:T):agX t=[.c (.int .i64 t.kind),.c (.int .i64 t.n),.c (.str t.s),.o 1 (ae t.keys),.o 5 (dk t.list)]:=by cases t;rfl
theorem zs:T.zero.s=⟨#[]⟩:=rfl
variable [Globs]
end Go.Proofs.Pw
namespace Go.Proofs.Pw
variable [Globs]
def xB:X:=(.seq (.reg [xS 2 (.mv (.k (.c (.str ⟨#[]⟩))))] none [0]) (.seq (.seq (.reg [xM 4 0,xS 5 (.bin false .lss (.t 4) (.k (.c (.int .i64 (-9223372036854775807)))))] none [0,5]) (.cond (.t 5) (.seq (.reg [xS 2 (.mv (.k (.c (.str ⟨#[45,57,50,50,51,51,55,50,48,51,54,56,53,52,55,55,53,56,48,56]⟩))))] none [2]) .ret) .skip)) (.seq (.seq (.reg [xM 6 0,xS 7 (.bin false .lss (.t 6) (xK 0))] none [0,7]) (.cond (.t 7) (.seq (.reg [xM 8 0,xS 9 (.bin false .sub (xK 0) (.t 8)),xS 10 (.call 75 [(.t 9)]),xS 11 (.bin false .add (.k (.c (.str ⟨#[45]⟩))) (.t 10)),xM 2 11] none [2]) .ret) .skip)) (.seq (.reg [xS 3 (.mv (.k (.c (.str ⟨#[]⟩))))] none [0,3]) (.seq (.block 0 (.loop (.seq (.seq (.reg [xM 12 0,xS 13 (.bin false .gtr (.t 12) (xK 9))] none [0,3,13]) (.cond (.t 13) .skip (.exit 0))) (.block 1 (.seq (.reg [xM 14 0,xS 15 (.bin false .rem (.t 14) (xK 10)),xS 16 (.bin false .add (xK 48) (.t 15)),xS 17 (.conv .u8 (.t 16)),xS 18 (.bsl 1 [((.t 17),none)]),xS 19 (.bts (.t 18)),xM 20 3,xS 21 (.bin false .add (.t 19) (.t 20)),xM 3 21] none [0,3]) (.reg [xM 22 0,xS 23 (.bin false .quo (.t 22) (xK 10)),xM 0 23] none [0,3])))))) (.seq (.reg [xM 24 0,xS 25 (.bin false .add (xK 48) (.t 24)),xS 26 (.conv .u8 (.t 25)),xS 27 (.bsl 1 [((.t 26),none)]),xS 28 (.bts (.t 27)),xM 29 3,xS 30 (.bin false .add (.t 28) (.t 29)),xM 2 30] none [2]) .ret))))))
theorem Tg:ao Tryz.prog 31 (Tryz.f75.body.getD .skip) xB=true:=by kernel_rfl
theorem Th:ap Tryz.prog Tryz.f75.results.toList [.tmp 2]=true:=by kernel_rfl
theorem xC:ax Tryz.prog 75=true:=by kernel_rfl
def lF:X:=(.seq (.reg [xS 1 (.box (.t 0) (some 5)),xS 2 (.mv (.k (.c (.str ⟨#[]⟩))))] none [1]) (.seq (.seq (.reg [xS 5 (.fa (.t 1) 0),xL 6 5] none [1,6]) (.block 0 (.seq (.reg [xS 8 (.bin false .eql (.t 6) (xK 0)),xM 7 8] none [1,6,7]) (.cond (.t 7) (.seq (.reg [xS 2 (.mv (.k (.c (.str ⟨#[110,117,108,108]⟩))))] none [2]) .ret) (.seq (.reg [xS 10 (.bin false .eql (.t 6) (xK 1)),xM 9 10] none [1,6,9]) (.cond (.t 9) (.seq (.reg [xS 2 (.mv (.k (.c (.str ⟨#[102,97,108,115,101]⟩))))] none [2]) .ret) (.seq (.reg [xS 12 (.bin false .eql (.t 6) (xK 2)),xM 11 12] none [1,6,11]) (.cond (.t 11) (.seq (.reg [xS 2 (.mv (.k (.c (.str ⟨#[116,114,117,101]⟩))))] none [2]) .ret) (.seq (.reg [xS 14 (.bin false .eql (.t 6) (xK 3)),xM 13 14] none [1,6,13]) (.cond (.t 13) (.seq (.reg [xS 15 (.fa (.t 1) 1),xL 16 15,xS 17 (.call 75 [(.t 16)]),xM 2 17] none [2]) .ret) (.seq (.reg [xS 19 (.bin false .eql (.t 6) (xK 4)),xM 18 19] none [1,18]) (.cond (.t 18) (.seq (.reg [xS 20 (.fa (.t 1) 2),xL 21 20,xS 22 (.bin false .add (.k (.c (.str ⟨#[39]⟩))) (.t 21)),xS 23 (.bin false .add (.t 22) (.k (.c (.str ⟨#[39]⟩)))),xM 2 23] none [2]) .ret) .skip)))))))))))) (.seq (.reg [xS 3 (.mv (.k (.c (.str ⟨#[]⟩))))] none [1,3]) (.seq (.seq (.reg [xS 4 (.mv (xK 0))] none [1,3,4]) (.block 1 (.loop (.seq (.seq (.reg [xM 24 4,xS 25 (.fa (.t 1) 4),xL 26 25,xS 27 (.len (.t 26) false),xS 28 (.bin false .lss (.t 24) (.t 27))] none [1,3,4,28]) (.cond (.t 28) .skip (.exit 1))) (.seq (.block 2 (.seq (.seq (.reg [xM 31 4,xS 32 (.bin false .gtr (.t 31) (xK 0))] none [1,3,4,32]) (.cond (.t 32) (.reg [xM 33 3,xS 34 (.bin false .add (.t 33) (.k (.c (.str ⟨#[44]⟩)))),xM 3 34] none [1,3,4]) .skip)) (.seq (.seq (.reg [xS 35 (.fa (.t 1) 0),xL 36 35,xS 37 (.bin false .eql (.t 36) (xK 6))] none [1,3,4,37]) (.cond (.t 37) (.reg [xM 38 3,xS 39 (.fa (.t 1) 3),xL 40 39,xM 41 4,xS 42 (.ia (.t 40) (.t 41) 1),xL 43 42,xS 44 (.bin false .add (.t 38) (.t 43)),xS 45 (.bin false .add (.t 44) (.k (.c (.str ⟨#[58]⟩)))),xM 3 45] none [1,3,4]) .skip)) (.reg [xM 46 3,xS 47 (.fa (.t 1) 4),xL 48 47,xM 49 4,xS 50 (.ia (.t 48) (.t 49) 5),xS 51 (.load (.t 50) (some 5)),xS 52 (.call 74 [(.t 51)]),xS 53 (.bin false .add (.t 46) (.t 52)),xM 3 53] none [1,3,4])))) (.reg [xM 29 4,xS 30 (.bin false .add (.t 29) (xK 1)),xM 4 30] none [1,3,4])))))) (.seq (.seq (.reg [xS 54 (.fa (.t 1) 0),xL 55 54,xS 56 (.bin false .eql (.t 55) (xK 6))] none [3,56]) (.cond (.t 56) (.seq (.reg [xM 57 3,xS 58 (.bin false .add (.k (.c (.str ⟨#[123]⟩))) (.t 57)),xS 59 (.bin false .add (.t 58) (.k (.c (.str ⟨#[125]⟩)))),xM 2 59] none [2]) .ret) .skip)) (.seq (.reg [xM 60 3,xS 61 (.bin false .add (.k (.c (.str ⟨#[91]⟩))) (.t 60)),xS 62 (.bin false .add (.t 61) (.k (.c (.str ⟨#[93]⟩)))),xM 2 62] none [2]) .ret))))))
theorem Ti:ao Tryz.prog 63 (Tryz.f74.body.getD .skip) lF=true:=by kernel_rfl
theorem Tj:ap Tryz.prog Tryz.f74.results.toList [.tmp 2]=true:=by kernel_rfl
theorem FP:ax Tryz.prog 74=true:=by kernel_rfl
def lG:X:=(.seq (.reg [xS 1 (.box (.t 0) (some 5)),xS 2 (.mv (.k (.c (.str ⟨#[]⟩))))] none [1]) (.seq (.seq (.reg [xS 7 (.fa (.t 1) 0),xL 8 7] none [1,8]) (.block 0 (.seq (.reg [xS 10 (.bin false .eql (.t 8) (xK 0)),xM 9 10] none [1,8,9]) (.cond (.t 9) (.seq (.reg [xS 2 (.mv (.k (.c (.str ⟨#[110,117,108,108]⟩))))] none [2]) .ret) (.seq (.reg [xS 12 (.bin false .eql (.t 8) (xK 1)),xM 11 12] none [1,8,11]) (.cond (.t 11) (.seq (.reg [xS 2 (.mv (.k (.c (.str ⟨#[102,97,108,115,101]⟩))))] none [2]) .ret) (.seq (.reg [xS 14 (.bin false .eql (.t 8) (xK 2)),xM 13 14] none [1,8,13]) (.cond (.t 13) (.seq (.reg [xS 2 (.mv (.k (.c (.str ⟨#[116,114,117,101]⟩))))] none [2]) .ret) (.seq (.reg [xS 16 (.bin false .eql (.t 8) (xK 3)),xM 15 16] none [1,8,15]) (.cond (.t 15) (.seq (.reg [xS 17 (.fa (.t 1) 1),xL 18 17,xS 19 (.call 44 [(.t 18)]),xM 2 19] none [2]) .ret) (.seq (.reg [xS 21 (.bin false .eql (.t 8) (xK 4)),xM 20 21] none [1,20]) (.cond (.t 20) (.seq (.reg [xS 22 (.fa (.t 1) 2),xL 23 22,xS 24 (.bin false .add (.k (.c (.str ⟨#[39]⟩))) (.t 23)),xS 25 (.bin false .add (.t 24) (.k (.c (.str ⟨#[39]⟩)))),xM 2 25] none [2]) .ret) .skip)))))))))))) (.seq (.reg [xS 26 (.bsl 1 []),xM 3 26] none [1,3]) (.seq (.seq (.reg [xS 27 (.fa (.t 1) 4),xL 28 27,xS 29 (.len (.t 28) false),xS 30 (.mv (xK 0))] none [1,3,28,29,30]) (.block 1 (.loop (.seq (.reg [xS 31 (.bin false .lss (.t 30) (.t 29))] none [1,3,28,29,30,31]) (.seq (.cond (.t 31) .skip (.exit 1)) (.seq (.block 2 (.seq (.reg [xM 32 30,xS 33 (.ia (.t 28) (.t 30) 5),xS 34 (.load (.t 33) (some 5)),xS 5 (.alloc xV),xM 4 32,xW 5 34 5] none [1,3,4,5,28,29,30]) (.seq (.reg [xS 35 (.load (.t 5) (some 5)),xS 36 (.call 43 [(.t 35)]),xM 6 36] none [1,3,4,6,28,29,30]) (.seq (.seq (.reg [xS 37 (.fa (.t 1) 0),xL 38 37,xS 39 (.bin false .eql (.t 38) (xK 6))] none [1,3,4,6,28,29,30,39]) (.cond (.t 39) (.reg [xS 40 (.fa (.t 1) 3),xL 41 40,xM 42 4,xS 43 (.ia (.t 41) (.t 42) 1),xL 44 43,xS 45 (.bin false .add (.t 44) (.k (.c (.str ⟨#[58]⟩)))),xM 46 6,xS 47 (.bin false .add (.t 45) (.t 46)),xM 6 47] none [1,3,6,28,29,30]) .skip)) (.reg [xM 48 3,xM 49 6,xS 50 (.bsl 1 [((.t 49),none)]),xS 51 (.app (.t 48) (.t 50) 1 16 []),xM 3 51] none [1,3,28,29,30]))))) (.reg [xS 52 (.bin false .add (.t 30) (xK 1)),xM 30 52] none [1,3,28,29,30]))))))) (.seq (.seq (.reg [xS 53 (.fa (.t 1) 0),xL 54 53,xS 55 (.bin false .eql (.t 54) (xK 6))] none [3,55]) (.cond (.t 55) (.seq (.reg [xM 56 3,xS 57 (.call 72 [(.t 56),(.k (.c (.str ⟨#[44]⟩)))]),xS 58 (.bin false .add (.k (.c (.str ⟨#[123]⟩))) (.t 57)),xS 59 (.bin false .add (.t 58) (.k (.c (.str ⟨#[125]⟩)))),xM 2 59] none [2]) .ret) .skip)) (.seq (.reg [xM 60 3,xS 61 (.call 72 [(.t 60),(.k (.c (.str ⟨#[44]⟩)))]),xS 62 (.bin false .add (.k (.c (.str ⟨#[91]⟩))) (.t 61)),xS 63 (.bin false .add (.t 62) (.k (.c (.str ⟨#[93]⟩)))),xM 2 63] none [2]) .ret))))))
theorem Tl:ao Tryz.prog 64 (Tryz.f43.body.getD .skip) lG=true:=by kernel_rfl
theorem Tm:ap Tryz.prog Tryz.f43.results.toList [.tmp 2]=true:=by kernel_rfl
theorem xD:ax Tryz.prog 43=true:=by kernel_rfl
attribute [go_sem] kL fM
theorem xE (n:Int):(gD [n]).size=1:=rfl
noncomputable def ko (k:Nat):Spec:=Spec.of (ι:=Int) [false] (fun i=>[.d (.one (.int .i64 i))]) (fun i=>(-1000000<=i/\i<=1000000)/\(if i < 0 then 1 else 0) < k) (fun i=>[.d (.one (.str (cR i)))]) (fun _=>[.gone])
theorem sk:∀ i j:Int,(fun (i:Int)=>([.d (.one (.int .i64 i))]:List AV)) i=(fun (i:Int)=>([.d (.one (.int .i64 i))]:List AV)) j->i=j:=by
 intro n n' h
 simpa [ar,T.enc_eq,au,F.enc_eq,av,Tk.enc_eq,aw,Gn.enc_eq,aq] using h
theorem Tn (k:Nat):(ko k).md=[false]:=rfl
theorem To (k:Nat) (n:Int):(ko k).pre [.d (.one (.int .i64 n))]=((-1000000<=n/\n<=1000000)/\(if n < 0 then 1 else 0) < k):=Spec.of_pre' sk n
theorem Tp (k:Nat):(ko k).alts=none:=rfl
theorem Tq (k:Nat) (n:Int):(ko k).res [.d (.one (.int .i64 n))]=[.d (.one (.str (cR n)))]:=Spec.of_res sk n
theorem Ts (k:Nat) (n:Int):(ko k).out [.d (.one (.int .i64 n))]=[.gone]:=Spec.of_out sk n
theorem Tt (k:Nat) (hS:Sound Tryz.prog 75 (ko k)):Sound Tryz.prog 75 (ko (k+1)):=by
 refine aL (GOK.cons xC hS GOK.nil) Tryz.func75 (c:=Tryz.f75.body.getD .skip) rfl (n:=31) rfl Tg Th (fun _=>by simp) ?_ ?_
 ·exact sk
 ·rintro n ⟨⟨h1,h2⟩,h3⟩
  have a1:(n < -9223372036854775807)=False:=eq_false (by omega)
  by_cases c:n < 0
  ·have a2:(n < 0)=True:=eq_true c
   have e:=Qr c
   have z:=po (n:=0-n) (by omega) (by omega)
   have e1:(ByteArray.mk #[45]).size=1:=rfl
   have m:(if (0:Int)-n < 0 then 1 else 0) < k:=by rw[if_neg (by omega)];rw[if_pos c] at h3;omega
   simp only[xB,rg,go_sem,seval,a1,a2,e1,Tn,To,Tp,Tq,Ts]
   repeat' (first|with_reducible assumption|with_reducible refine And.intro ?_ ?_|intro _)
   all_goals first|omega|assumption|exact e|exact e.symm|skip
  ·have a2:(n < 0)=False:=eq_false c
   simp only[xB,rg,go_sem,seval,a1,a2]
   refine aS (ι:=Int × ByteArray) (fun i=>i.1.toNat) (fun i=>0<=i.1/\i.1<=n/\i.2.size+i.1<=n/\jN i.1.toNat++i.2=cR n)
    (fun i=>⟨[(0,.q (.c (.int .i64 i.1))),(3,.q (.c (.str i.2)))],[],[]⟩) (n,⟨#[]⟩) ⟨by omega,by omega,by simp[ByteArray.size],by rw[Qs (by omega),jL]⟩ (Le.refl _) ?_
   rintro⟨m,out⟩ ⟨g1,g2,g3,g4⟩
   simp only at g1 g2 g3 g4
   by_cases c2:9 < m
   ·have a3:(9 < m)=True:=eq_true c2
    have e1:m.tdiv 10=m / 10:=Int.tdiv_eq_ediv_of_nonneg (by omega)
    have e2:m.tmod 10=m % 10:=Int.tmod_eq_emod_of_nonneg (by omega)
    have e3:(m / 10).toNat=m.toNat / 10:=by omega
    have e4:((48+m.toNat % 10:Nat):Int)=48+m % 10:=by omega
    have e5:=Qu (u:=m.toNat) (by omega) out
    rw[e4,<-e3] at e5
    simp only[rg,go_sem,seval,a3,e1,e2,xE]
    repeat' (first|with_reducible assumption|with_reducible refine And.intro ?_ ?_|intro _)
    all_goals first|omega|skip
    exact⟨(m / 10,gD [48+m % 10]++out),⟨by omega,by omega,by simp only[ByteArray.size_append,xE];omega,by simp only;rw[<-e5];exact g4⟩,by simp only;omega,Le.refl _⟩
   ·have a3:(9 < m)=False:=eq_false c2
    have e4:((48+m.toNat:Nat):Int)=48+m:=by omega
    have e5:=Qt (u:=m.toNat) (by omega)
    rw[e4] at e5
    rw[e5] at g4
    simp only[rg,go_sem,seval,a3,xE]
    repeat' (first|with_reducible assumption|with_reducible refine And.intro ?_ ?_|intro _)
    all_goals first|omega|exact g4|exact g4.symm|skip
theorem Tu (k:Nat):Sound Tryz.prog 75 (ko k):=by
 induction k with
 | zero=>exact Sound.none
 | succ k ih=>exact Tt k ih
noncomputable def lH :Spec:=Spec.of (ι:=Int) [false] (fun i=>[.d (.one (.int .i64 i))]) (fun i=>-1000000<=i/\i<=1000000) (fun i=>[.d (.one (.str (cR i)))]) (fun _=>[.gone])
theorem xI:∀ i j:Int,(fun (i:Int)=>([.d (.one (.int .i64 i))]:List AV)) i=(fun (i:Int)=>([.d (.one (.int .i64 i))]:List AV)) j->i=j:=by
 intro n n' h
 simpa [ar,T.enc_eq,au,F.enc_eq,av,Tk.enc_eq,aw,Gn.enc_eq,aq] using h
theorem FQ :(lH).md=[false]:=rfl
theorem FR  (n:Int):(lH).pre [.d (.one (.int .i64 n))]=(-1000000<=n/\n<=1000000):=Spec.of_pre' xI n
theorem FS :(lH).alts=none:=rfl
theorem FT  (n:Int):(lH).res [.d (.one (.int .i64 n))]=[.d (.one (.str (cR n)))]:=Spec.of_res xI n
theorem FU  (n:Int):(lH).out [.d (.one (.int .i64 n))]=[.gone]:=Spec.of_out xI n
theorem FV:Sound Tryz.prog 75 lH:=Sound.all (μ:=fun n=>if n < 0 then 1 else 0) Tu
def gZ (t:T):Prop:=(∃ d,aO t d)/\aB t<=60
theorem xJ {t:T} (h:okT t):gZ t:=⟨⟨_,h.1⟩,jJ h⟩
theorem FW {k n:Int} {s:ByteArray} {ks:List ByteArray} {l:List T} (h:gZ (.mk k n s ks l)) {t:T} (ht:t ∈ l):gZ t:=by
 obtain⟨⟨d,h1⟩,h2⟩:=h
 simp only[aO] at h1
 simp only[aB] at h2
 exact⟨⟨_,vi.1 h1.2.2.2.2.2.2.2.2.2.2.2 t ht⟩,by have:=Qo ht;omega⟩
theorem nj {t:T} (h:gZ t):(aA t).size<=2400:=by
 obtain⟨⟨d,h1⟩,h2⟩:=h
 have:=rB h1;omega
noncomputable def eX (k:Nat):Spec:=Spec.of (ι:=T) [false] (fun i=>[.d (.agg i.enc)]) (fun i=>(gZ i)/\SizeOf.sizeOf i < k) (fun i=>[.d (.one (.str (aA i)))]) (fun _=>[.gone])
theorem pC:∀ i j:T,(fun (i:T)=>([.d (.agg i.enc)]:List AV)) i=(fun (i:T)=>([.d (.agg i.enc)]:List AV)) j->i=j:=by
 intro t t' h
 simpa [ar,T.enc_eq,au,F.enc_eq,av,Tk.enc_eq,aw,Gn.enc_eq,aq] using h
theorem nk (k:Nat):(eX k).md=[false]:=rfl
theorem nl (k:Nat) (t:T):(eX k).pre [.d (.agg t.enc)]=((gZ t)/\SizeOf.sizeOf t < k):=Spec.of_pre' pC t
theorem nq (k:Nat):(eX k).alts=none:=rfl
theorem nu (k:Nat) (t:T):(eX k).res [.d (.agg t.enc)]=[.d (.one (.str (aA t)))]:=Spec.of_res pC t
theorem nv (k:Nat) (t:T):(eX k).out [.d (.agg t.enc)]=[.gone]:=Spec.of_out pC t
set_option maxHeartbeats 2000000 in
theorem Tv (k:Nat) (hS:Sound Tryz.prog 74 (eX k)):Sound Tryz.prog 74 (eX (k+1)):=by
 refine aL (GOK.cons (l:=[(74,eX k)]) xC FV (GOK.cons FP hS GOK.nil)) Tryz.func74 (c:=Tryz.f74.body.getD .skip) rfl (n:=63) rfl Ti Tj (fun _=>by simp) ?_ ?_
 ·exact pC
 ·rintro t ⟨h1,h4⟩
  obtain⟨kk,n,s,ks,l⟩:=t
  have hkid:=fun t ht=>FW h1 (t:=t) ht
  have hT:=nj h1
  obtain⟨⟨d,h1⟩,h2⟩:=h1
  have hks:=DG h1
  have e3 : SizeOf.sizeOf l < k := by have e : SizeOf.sizeOf (T.mk kk n s ks l) < k + 1 := h4
                                      rw[T.mk.sizeOf_spec] at e;omega
  clear h4
  simp only[aO] at h1
  obtain⟨f1,f2,f3,f4,f5,f6,f7,f8,f9,f10,f11,f12⟩:=h1
  have f13:=f10.2
  simp only[aB] at h2
  have f14:=gQ l
  have hz:=fun i=>DF (k:=kk) hks f12 (by omega) i
  have q1:(ByteArray.mk #[39]).size=1:=rfl
  have q2:(ByteArray.mk #[123]).size=1:=rfl
  have q3:(ByteArray.mk #[125]).size=1:=rfl
  have q4:(ByteArray.mk #[91]).size=1:=rfl
  have q5:(ByteArray.mk #[93]).size=1:=rfl
  have q6:(ByteArray.mk #[58]).size=1:=rfl
  have hkk:kk=0\/kk=1\/kk=2\/kk=3\/kk=4\/kk=5\/kk=6:=by omega
  rcases hkk with rfl|rfl|rfl|rfl|rfl|hkk
  ·simp only[lF,T.enc,rg,go_sem,seval,Prod.fst,aA]
   repeat' (first|with_reducible assumption|with_reducible refine And.intro ?_ ?_|intro _)
  ·simp only[lF,T.enc,rg,go_sem,seval,Prod.fst,aA]
   repeat' (first|with_reducible assumption|with_reducible refine And.intro ?_ ?_|intro _)
   all_goals first|omega|simp
  ·simp only[lF,T.enc,rg,go_sem,seval,Prod.fst,aA]
   repeat' (first|with_reducible assumption|with_reducible refine And.intro ?_ ?_|intro _)
   all_goals first|omega|simp
  ·simp only[lF,T.enc,rg,go_sem,seval,Prod.fst,aA,FQ,FR,FS,FT,FU]
   repeat' (first|with_reducible assumption|with_reducible refine And.intro ?_ ?_|intro _)
   all_goals first|omega|simp
  ·simp only[lF,T.enc,rg,go_sem,seval,Prod.fst,aA,q1]
   repeat' (first|with_reducible assumption|with_reducible refine And.intro ?_ ?_|intro _)
   all_goals first|omega|simp
  have b0:(kk=0)=False:=eq_false (by omega)
  have b1:(kk=1)=False:=eq_false (by omega)
  have b2:(kk=2)=False:=eq_false (by omega)
  have b3:(kk=3)=False:=eq_false (by omega)
  have b4:(kk=4)=False:=eq_false (by omega)
  simp only[lF,T.enc,rg,go_sem,seval,Prod.fst,b0,b1,b2,b3,b4]
  repeat' (first|with_reducible assumption|with_reducible refine And.intro ?_ ?_|intro _)
  all_goals first|omega|skip
  refine aS (ι:=Nat) (fun i=>l.length-i) (fun i=>i<=l.length)
   (fun i=>⟨[(1,.q (.box 1 0)),(3,.q (.c (.str (bP ((bq kk ks l).take i) ⟨#[44]⟩)))),(4,.q (.c (.int .i64 i)))],
    [(1,[.c (.int .i64 kk),.c (.int .i64 n),.c (.str s),.c (.row 1 (ae ks)),.c (.row 5 (ak l))])],[]⟩) 0 (Nat.zero_le _) (Le.of_eq (by simp[rA])) ?_
  intro i hi
  rcases Nat.lt_or_ge i l.length with hlt|hge
  ·obtain⟨t,ht,_,hmem⟩:=aY hlt
   have a1:=gN ht
   have a2:((i:Int) < (l.length:Int))=True:=by simp;omega
   have a4:=bZ hmem
   have a5:=hkid t hmem
   have a6:=T.enc_len t
   have a7:=nj a5
   have a8:=hz i
   have a9:=Qq (wh kk l ks i t ht) (by rw[jM];exact hlt)
   rcases hkk with hkk|hkk
   ·have b5:(kk=6)=False:=eq_false (by omega)
    simp only[b5,if_false] at a9
    by_cases ci:i=0
    ·have c1:((0:Int) < i)=False:=eq_false (by omega)
     rw[if_pos ci] at a9
     subst ci
     simp only[rg,go_sem,seval,Prod.fst,a1,a2,a6,b5,c1,List.take_zero,rA,pn,bz,nk,nl,nq,nu,nv]
     repeat' (first|with_reducible assumption|with_reducible refine And.intro ?_ ?_|intro _)
     all_goals first|omega|with_reducible assumption|(rw[show (#[]:Array UInt8).size=0 from rfl];omega)|skip
     refine⟨0+1,hlt,by omega,Le.of_eq ?_⟩
     rw[a9]
     simp[pn,eb]
    ·have c1:((0:Int) < i)=True:=eq_true (by omega)
     rw[if_neg ci] at a9
     simp only[rg,go_sem,seval,Prod.fst,a1,a2,a6,b5,c1,bz,wj,ByteArray.size_append,nk,nl,nq,nu,nv]
     repeat' (first|with_reducible assumption|with_reducible refine And.intro ?_ ?_|intro _)
     all_goals first|omega|with_reducible assumption|(rw[show (#[]:Array UInt8).size=0 from rfl];omega)|skip
     refine⟨i+1,hlt,by omega,Le.of_eq ?_⟩
     rw[a9]
     simp[eb]
   ·have b5:(kk=6)=True:=eq_true (by omega)
    obtain⟨key,hkey⟩:∃ y,ks[i]?=some y:=⟨ks[i]'(by have:=(f11 hkk).1;omega),List.getElem?_eq_getElem _⟩
    have b6:=db hkey
    have b7:ks.getD i ⟨#[]⟩=key:=by simp[List.getD,hkey]
    have b8:=hks key (List.mem_of_getElem? hkey)
    have b9:=(f11 hkk).1
    simp only[b5,if_true,b7] at a9
    by_cases ci:i=0
    ·have c1:((0:Int) < i)=False:=eq_false (by omega)
     rw[if_pos ci] at a9
     subst ci
     simp only[rg,go_sem,seval,Prod.fst,a1,a2,a6,b5,b6,c1,q6,List.take_zero,rA,pn,bz,aT,ByteArray.size_append,nk,nl,nq,nu,nv]
     repeat' (first|with_reducible assumption|with_reducible refine And.intro ?_ ?_|intro _)
     all_goals first|omega|with_reducible assumption|(rw[show (#[]:Array UInt8).size=0 from rfl];omega)|skip
     refine⟨0+1,hlt,by omega,Le.of_eq ?_⟩
     rw[a9]
     simp[pn,eb]
    ·have c1:((0:Int) < i)=True:=eq_true (by omega)
     rw[if_neg ci] at a9
     simp only[rg,go_sem,seval,Prod.fst,a1,a2,a6,b5,b6,c1,q6,bz,aT,wj,ByteArray.size_append,nk,nl,nq,nu,nv]
     repeat' (first|with_reducible assumption|with_reducible refine And.intro ?_ ?_|intro _)
     all_goals first|omega|with_reducible assumption|(rw[show (#[]:Array UInt8).size=0 from rfl];omega)|skip
     refine⟨i+1,hlt,by omega,Le.of_eq ?_⟩
     rw[a9]
     simp[eb]
  ·have a2:((i:Int) < (l.length:Int))=False:=by simp;omega
   have a3:(bq kk ks l).take i=bq kk ks l:=List.take_of_length_le (by rw[jM];exact hge)
   have a4:=hz i
   rw[a3] at a4
   rcases hkk with hkk|hkk
   ·have b5:(kk=6)=False:=eq_false (by omega)
    simp only[rg,go_sem,seval,Prod.fst,a2,a3,b5,bz,q4,q5,ByteArray.size_append]
    repeat' (first|with_reducible assumption|with_reducible refine And.intro ?_ ?_|intro _)
    all_goals first|omega|with_reducible assumption|(rw[show (#[]:Array UInt8).size=0 from rfl];omega)|skip
    all_goals (simp only[aA,b0,b1,b2,b3,b4,b5,if_false])
   ·have b5:(kk=6)=True:=eq_true (by omega)
    simp only[rg,go_sem,seval,Prod.fst,a2,a3,b5,bz,q2,q3,ByteArray.size_append]
    repeat' (first|with_reducible assumption|with_reducible refine And.intro ?_ ?_|intro _)
    all_goals first|omega|with_reducible assumption|(rw[show (#[]:Array UInt8).size=0 from rfl];omega)|skip
    all_goals (simp only[aA,b0,b1,b2,b3,b4,b5,if_false,if_true])
theorem Tw (k:Nat):Sound Tryz.prog 74 (eX k):=by
 induction k with
 | zero=>exact Sound.none
 | succ k ih=>exact Tv k ih
noncomputable def hC :Spec:=Spec.of (ι:=T) [false] (fun i=>[.d (.agg i.enc)]) (fun i=>gZ i) (fun i=>[.d (.one (.str (aA i)))]) (fun _=>[.gone])
theorem xN:∀ i j:T,(fun (i:T)=>([.d (.agg i.enc)]:List AV)) i=(fun (i:T)=>([.d (.agg i.enc)]:List AV)) j->i=j:=by
 intro t t' h
 simpa [ar,T.enc_eq,au,F.enc_eq,av,Tk.enc_eq,aw,Gn.enc_eq,aq] using h
theorem xO :(hC).md=[false]:=rfl
theorem xP  (t:T):(hC).pre [.d (.agg t.enc)]=(gZ t):=Spec.of_pre' xN t
theorem xQ :(hC).alts=none:=rfl
theorem xR  (t:T):(hC).res [.d (.agg t.enc)]=[.d (.one (.str (aA t)))]:=Spec.of_res xN t
theorem xT  (t:T):(hC).out [.d (.agg t.enc)]=[.gone]:=Spec.of_out xN t
theorem Tx:Sound Tryz.prog 74 hC:=Sound.all (μ:=fun t=>SizeOf.sizeOf t) Tw
set_option maxHeartbeats 2000000 in
theorem Ty (hK:tabK) (k:Nat) (hS:Sound Tryz.prog 43 (eX k)):Sound Tryz.prog 43 (eX (k+1)):=by
 refine aL (GOK.cons (l:=[(43,eX k),(72,spJoin)]) DN (DR hK) (GOK.cons (l:=[(72,spJoin)]) xD hS (GOK.cons Qw Qz GOK.nil))) Tryz.func43 (c:=Tryz.f43.body.getD .skip) rfl (n:=64) rfl Tl Tm (fun _=>by simp) ?_ ?_
 ·exact pC
 ·rintro t ⟨h1,h4⟩
  obtain⟨kk,n,s,ks,l⟩:=t
  have hkid:=fun t ht=>FW h1 (t:=t) ht
  have hT:=nj h1
  obtain⟨⟨d,h1⟩,h2⟩:=h1
  have hks:=DG h1
  have e3 : SizeOf.sizeOf l < k := by have e : SizeOf.sizeOf (T.mk kk n s ks l) < k + 1 := h4
                                      rw[T.mk.sizeOf_spec] at e;omega
  clear h4
  simp only[aO] at h1
  obtain⟨f1,f2,f3,f4,f5,f6,f7,f8,f9,f10,f11,f12⟩:=h1
  have f13:=f10.2
  simp only[aB] at h2
  have f14:=gQ l
  have hz:=fun i=>DF (k:=kk) hks f12 (by omega) i
  have q1:(ByteArray.mk #[39]).size=1:=rfl
  have q2:(ByteArray.mk #[123]).size=1:=rfl
  have q3:(ByteArray.mk #[125]).size=1:=rfl
  have q4:(ByteArray.mk #[91]).size=1:=rfl
  have q5:(ByteArray.mk #[93]).size=1:=rfl
  have q6:(ByteArray.mk #[58]).size=1:=rfl
  have hkk:kk=0\/kk=1\/kk=2\/kk=3\/kk=4\/kk=5\/kk=6:=by omega
  rcases hkk with rfl|rfl|rfl|rfl|rfl|hkk
  ·simp only[lG,T.enc,rg,go_sem,seval,Prod.fst,aA]
   repeat' (first|with_reducible assumption|with_reducible refine And.intro ?_ ?_|intro _)
  ·simp only[lG,T.enc,rg,go_sem,seval,Prod.fst,aA]
   repeat' (first|with_reducible assumption|with_reducible refine And.intro ?_ ?_|intro _)
   all_goals first|omega|simp
  ·simp only[lG,T.enc,rg,go_sem,seval,Prod.fst,aA]
   repeat' (first|with_reducible assumption|with_reducible refine And.intro ?_ ?_|intro _)
   all_goals first|omega|simp
  ·simp only[lG,T.enc,rg,go_sem,seval,Prod.fst,aA,DO,DP,wu,wv,ww]
   repeat' (first|with_reducible assumption|with_reducible refine And.intro ?_ ?_|intro _)
   all_goals first|omega|(unfold i64;omega)|simp
  ·simp only[lG,T.enc,rg,go_sem,seval,Prod.fst,aA,q1]
   repeat' (first|with_reducible assumption|with_reducible refine And.intro ?_ ?_|intro _)
   all_goals first|omega|simp
  have b0:(kk=0)=False:=eq_false (by omega)
  have b1:(kk=1)=False:=eq_false (by omega)
  have b2:(kk=2)=False:=eq_false (by omega)
  have b3:(kk=3)=False:=eq_false (by omega)
  have b4:(kk=4)=False:=eq_false (by omega)
  simp only[lG,T.enc,rg,go_sem,seval,Prod.fst,b0,b1,b2,b3,b4,bz]
  repeat' (first|with_reducible assumption|with_reducible refine And.intro ?_ ?_|intro _)
  all_goals first|omega|skip
  have hA:(l.length:Int)=l.length:=rfl
  refine aS (ι:=Nat) (fun i=>l.length-i) (fun i=>i<=l.length)
   (fun i=>⟨[(1,.q (.box 1 0)),(3,.q (.own 51)),(28,.q (.c (.row 5 (ak l)))),(29,.q (.c (.int .i64 l.length))),(30,.q (.c (.int .i64 i)))],
    [(1,[.c (.int .i64 kk),.c (.int .i64 n),.c (.str s),.c (.row 1 (ae ks)),.c (.row 5 (ak l))])],[(51,1,ae ((bq kk ks l).take i))]⟩) 0 (Nat.zero_le _) ?_ ?_
  ·refine Le.own (t:=3) (d:=51) (sz:=1) (by decide) (by simp) (by simp[Q.killO]) ?_
   simp[PV.map,Q.killO,ae]
  intro i hi
  rcases Nat.lt_or_ge i l.length with hlt|hge
  ·obtain⟨t,ht,_,hmem⟩:=aY hlt
   have a1:=gN ht
   have a2:((i:Int) < (l.length:Int))=True:=by simp;omega
   have a4:=bZ hmem
   have a5:=hkid t hmem
   have a6:=T.enc_len t
   have a7:=nj a5
   have a9:=wh kk l ks i t ht
   have a10:((bq kk ks l).take i).length=i:=by rw[List.length_take,jM];omega
   rcases hkk with hkk|hkk
   ·have b5:(kk=6)=False:=eq_false (by omega)
    simp only[b5,if_false] at a9
    simp only[rg,go_sem,seval,Prod.fst,a1,a2,a6,a10,b5,bz,aT,nk,nl,nq,nu,nv]
    repeat' (first|with_reducible assumption|with_reducible refine And.intro ?_ ?_|intro _)
    all_goals first|omega|with_reducible assumption|skip
    refine⟨i+1,hlt,by omega,?_⟩
    rw[a9,iA]
    exact Le.sub (by simp) (by simp) (by simp[ae])
   ·have b5:(kk=6)=True:=eq_true (by omega)
    obtain⟨key,hkey⟩:∃ y,ks[i]?=some y:=⟨ks[i]'(by have:=(f11 hkk).1;omega),List.getElem?_eq_getElem _⟩
    have b6:=db hkey
    have b7:ks.getD i ⟨#[]⟩=key:=by simp[List.getD,hkey]
    have b8:=hks key (List.mem_of_getElem? hkey)
    have b9:=(f11 hkk).1
    simp only[b5,if_true,b7] at a9
    simp only[rg,go_sem,seval,Prod.fst,a1,a2,a6,a10,b5,b6,q6,bz,aT,ByteArray.size_append,nk,nl,nq,nu,nv]
    repeat' (first|with_reducible assumption|with_reducible refine And.intro ?_ ?_|intro _)
    all_goals first|omega|with_reducible assumption|skip
    refine⟨i+1,hlt,by omega,?_⟩
    rw[a9,iA]
    exact Le.sub (by simp) (by simp) (by simp[ae])
  ·have a2:((i:Int) < (l.length:Int))=False:=by simp;omega
   have a3:(bq kk ks l).take i=bq kk ks l:=List.take_of_length_le (by rw[jM];exact hge)
   have a4:=hz i
   have a5:=jM kk ks l
   rw[a3] at a4
   rcases hkk with hkk|hkk
   ·have b5:(kk=6)=False:=eq_false (by omega)
    simp only[rg,go_sem,seval,Prod.fst,a2,a3,a5,b5,bz,q4,q5,ByteArray.size_append,aa,DS,DT,wy,wz,wA]
    repeat' (first|with_reducible assumption|with_reducible refine And.intro ?_ ?_|intro _)
    all_goals first|omega|with_reducible assumption|skip
    all_goals (simp only[aA,b0,b1,b2,b3,b4,b5,if_false])
   ·have b5:(kk=6)=True:=eq_true (by omega)
    simp only[rg,go_sem,seval,Prod.fst,a2,a3,a5,b5,bz,q2,q3,ByteArray.size_append,aa,DS,DT,wy,wz,wA]
    repeat' (first|with_reducible assumption|with_reducible refine And.intro ?_ ?_|intro _)
    all_goals first|omega|with_reducible assumption|skip
    all_goals (simp only[aA,b0,b1,b2,b3,b4,b5,if_false,if_true])
theorem Tz (hK:tabK) (k:Nat):Sound Tryz.prog 43 (eX k):=by
 induction k with
 | zero=>exact Sound.none
 | succ k ih=>exact Ty hK k ih
theorem FX (hK:tabK):Sound Tryz.prog 43 hC:=Sound.all (μ:=fun t=>SizeOf.sizeOf t) (Tz hK)
end Go.Proofs.Pw
