/- Whether two trees are the same: the specification's function and the program's. -/
import Derived.Test.YtcligmgalcidpaaGreatDoorPwT10
import Derived.Test.YtcligmgalcidpaaGreatDoorProg
import Derived.KernelRfl
set_option linter.unusedSimpArgs false
set_option linter.unusedVariables false
set_option linter.unusedSectionVars false
set_option maxRecDepth 20000
namespace Go.Proofs.Pw
variable [Globs]
def DB:X:=(.seq (.reg [xS 2 (.box (.t 0) (some 5)),xS 3 (.box (.t 1) (some 5)),xS 4 (.mv (.k (.c (.bool false))))] none [2,3]) (.seq (.seq (.reg [xS 7 (.fa (.t 2) 0),xL 8 7,xS 9 (.fa (.t 3) 0),xL 10 9,xS 11 (.bin false .neq (.t 8) (.t 10)),xM 12 11,xH 13 12 (.fa (.t 2) 1),xH 14 12 (.load (.t 13) none),xH 15 12 (.fa (.t 3) 1),xH 16 12 (.load (.t 15) none),xH 17 12 (.bin false .neq (.t 14) (.t 16)),xS 18 (.pick (.t 12) (.k (.c (.bool true))) (.t 17)),xM 19 18,xH 20 19 (.fa (.t 2) 2),xH 21 19 (.load (.t 20) none),xH 22 19 (.fa (.t 3) 2),xH 23 19 (.load (.t 22) none),xH 24 19 (.bin false .neq (.t 21) (.t 23)),xS 25 (.pick (.t 19) (.k (.c (.bool true))) (.t 24)),xM 26 25,xH 27 26 (.fa (.t 2) 3),xH 28 26 (.load (.t 27) none),xH 29 26 (.len (.t 28) false),xH 30 26 (.fa (.t 3) 3),xH 31 26 (.load (.t 30) none),xH 32 26 (.len (.t 31) false),xH 33 26 (.bin false .neq (.t 29) (.t 32)),xS 34 (.pick (.t 26) (.k (.c (.bool true))) (.t 33)),xM 35 34,xH 36 35 (.fa (.t 2) 4),xH 37 35 (.load (.t 36) none),xH 38 35 (.len (.t 37) false),xH 39 35 (.fa (.t 3) 4),xH 40 35 (.load (.t 39) none),xH 41 35 (.len (.t 40) false),xH 42 35 (.bin false .neq (.t 38) (.t 41)),xS 43 (.pick (.t 35) (.k (.c (.bool true))) (.t 42))] none [2,3,43]) (.cond (.t 43) (.seq (.reg [xS 4 (.mv (.k (.c (.bool false))))] none [4]) .ret) .skip)) (.seq (.seq (.reg [xS 5 (.mv (xK 0))] none [2,3,5]) (.block 0 (.loop (.seq (.seq (.reg [xM 44 5,xS 45 (.fa (.t 2) 3),xL 46 45,xS 47 (.len (.t 46) false),xS 48 (.bin false .lss (.t 44) (.t 47))] none [2,3,5,48]) (.cond (.t 48) .skip (.exit 0))) (.seq (.block 1 (.seq (.reg [xS 51 (.fa (.t 2) 3),xL 52 51,xM 53 5,xS 54 (.ia (.t 52) (.t 53) 1),xL 55 54,xS 56 (.fa (.t 3) 3),xL 57 56,xM 58 5,xS 59 (.ia (.t 57) (.t 58) 1),xL 60 59,xS 61 (.bin false .neq (.t 55) (.t 60))] (some 10) [2,3,5,61]) (.cond (.t 61) (.seq (.reg [xS 4 (.mv (.k (.c (.bool false))))] none [4]) .ret) .skip))) (.reg [xM 49 5,xS 50 (.bin false .add (.t 49) (xK 1)),xM 5 50] none [2,3,5])))))) (.seq (.seq (.reg [xS 6 (.mv (xK 0))] none [2,3,6]) (.block 2 (.loop (.seq (.seq (.reg [xM 62 6,xS 63 (.fa (.t 2) 4),xL 64 63,xS 65 (.len (.t 64) false),xS 66 (.bin false .lss (.t 62) (.t 65))] none [2,3,6,66]) (.cond (.t 66) .skip (.exit 2))) (.seq (.block 3 (.seq (.reg [xS 69 (.fa (.t 2) 4),xL 70 69,xM 71 6,xS 72 (.ia (.t 70) (.t 71) 5),xS 73 (.load (.t 72) (some 5)),xS 74 (.fa (.t 3) 4),xL 75 74,xM 76 6,xS 77 (.ia (.t 75) (.t 76) 5),xS 78 (.load (.t 77) (some 5)),xS 79 (.call 77 [(.t 73),(.t 78)]),xS 80 (.not (.t 79))] (some 10) [2,3,6,80]) (.cond (.t 80) (.seq (.reg [xS 4 (.mv (.k (.c (.bool false))))] none [4]) .ret) .skip))) (.reg [xM 67 6,xS 68 (.bin false .add (.t 67) (xK 1)),xM 6 68] none [2,3,6])))))) (.seq (.reg [xS 4 (.mv (.k (.c (.bool true))))] none [4]) .ret)))))
theorem PD:al Tryz.prog 81 (Tryz.f77.body.getD .skip) DB=true:=by kernel_rfl
theorem PE:am Tryz.prog Tryz.f77.results.toList [.tmp 4]=true:=by kernel_rfl
theorem DC:aw Tryz.prog 77=true:=by kernel_rfl
def vP:X:=(.seq (.reg [xS 4 (.mv (.k (.c (.bool false))))] none [0,1]) (.seq (.seq (.reg [xM 6 0,xS 7 (.len (.t 6) false),xM 8 1,xS 9 (.len (.t 8) false),xS 10 (.bin false .neq (.t 7) (.t 9))] none [0,1,10]) (.cond (.t 10) (.seq (.reg [xS 4 (.mv (.k (.c (.bool false))))] none [4]) .ret) .skip)) (.seq (.seq (.reg [xM 11 0,xS 12 (.len (.t 11) false),xS 13 (.mv (xK 0))] none [0,1,12,13]) (.block 0 (.loop (.seq (.reg [xS 14 (.bin false .lss (.t 13) (.t 12))] none [0,1,12,13,14]) (.seq (.cond (.t 14) .skip (.exit 0)) (.seq (.block 1 (.seq (.reg [xM 15 13,xM 5 15] none [0,1,5,12,13]) (.seq (.reg [xM 16 0,xM 17 5,xS 18 (.ia (.t 16) (.t 17) 1),xL 19 18,xM 20 1,xM 21 5,xS 22 (.ia (.t 20) (.t 21) 1),xL 23 22,xS 24 (.bin false .neq (.t 19) (.t 23))] (some 8) [0,1,12,13,24]) (.cond (.t 24) (.seq (.reg [xS 4 (.mv (.k (.c (.bool false))))] none [4]) .ret) .skip)))) (.reg [xS 25 (.bin false .add (.t 13) (xK 1)),xM 13 25] none [0,1,12,13]))))))) (.seq (.reg [xS 4 (.mv (.k (.c (.bool true))))] none [4]) .ret))))
theorem PF:al Tryz.prog 26 (Tryz.f59.body.getD .skip) vP=true:=by kernel_rfl
theorem PG:am Tryz.prog Tryz.f59.results.toList [.tmp 4]=true:=by kernel_rfl
theorem PH:aw Tryz.prog 59=true:=by kernel_rfl
def vQ:X:=(.seq (.reg [xS 6 (.mv (.k (.c (.bool false))))] none [0,1,2]) (.seq (.seq (.reg [xM 10 0,xS 11 (.len (.t 10) false),xM 12 1,xS 13 (.len (.t 12) false),xS 14 (.bin false .neq (.t 11) (.t 13))] none [0,1,2,14]) (.cond (.t 14) (.seq (.reg [xS 6 (.mv (.k (.c (.bool false))))] none [6]) .ret) .skip)) (.seq (.seq (.reg [xM 15 0,xS 16 (.len (.t 15) false),xS 17 (.mv (xK 0))] none [1,2,15,16,17]) (.block 0 (.loop (.seq (.reg [xS 18 (.bin false .lss (.t 17) (.t 16))] none [1,2,15,16,17,18]) (.seq (.cond (.t 18) .skip (.exit 0)) (.seq (.block 1 (.seq (.reg [xM 19 17,xS 20 (.ia (.t 15) (.t 17) 5),xS 21 (.load (.t 20) (some 5)),xS 8 (.alloc xV),xM 7 19,xW 8 21 5] none [1,2,7,8,15,16,17]) (.seq (.reg [xM 22 1,xM 23 7,xS 24 (.ia (.t 22) (.t 23) 5),xS 25 (.load (.t 24) (some 5)),xS 9 (.alloc xV),xW 9 25 5] none [1,2,8,9,15,16,17]) (.seq (.reg [xM 26 2,xS 27 (.load (.t 8) (some 5)),xS 28 (.load (.t 9) (some 5)),xS 29 (.calli (.t 26) [(.t 27),(.t 28)]),xS 30 (.not (.t 29))] none [1,2,15,16,17,30]) (.cond (.t 30) (.seq (.reg [xS 6 (.mv (.k (.c (.bool false))))] none [6]) .ret) .skip))))) (.reg [xS 31 (.bin false .add (.t 17) (xK 1)),xM 17 31] none [1,2,15,16,17]))))))) (.seq (.reg [xS 6 (.mv (.k (.c (.bool true))))] none [6]) .ret))))
theorem PJ:al Tryz.prog 32 (Tryz.f60.body.getD .skip) vQ=true:=by kernel_rfl
theorem PK:am Tryz.prog Tryz.f60.results.toList [.tmp 6]=true:=by kernel_rfl
theorem PL:aw Tryz.prog 60=true:=by kernel_rfl
def DD:X:=(.seq (.reg [xS 2 (.box (.t 0) (some 5)),xS 3 (.box (.t 1) (some 5)),xS 4 (.mv (.k (.c (.bool false))))] none [2,3]) (.seq (.reg [xS 5 (.fa (.t 2) 0),xL 6 5,xS 7 (.fa (.t 3) 0),xL 8 7,xS 9 (.bin false .eql (.t 6) (.t 8)),xM 10 9,xG 11 10 (.fa (.t 2) 1),xG 12 10 (.load (.t 11) none),xG 13 10 (.fa (.t 3) 1),xG 14 10 (.load (.t 13) none),xG 15 10 (.bin false .eql (.t 12) (.t 14)),xS 16 (.pick (.t 10) (.t 15) (.k (.c (.bool false)))),xM 17 16,xG 18 17 (.fa (.t 2) 2),xG 19 17 (.load (.t 18) none),xG 20 17 (.fa (.t 3) 2),xG 21 17 (.load (.t 20) none),xG 22 17 (.bin false .eql (.t 19) (.t 21)),xS 23 (.pick (.t 17) (.t 22) (.k (.c (.bool false)))),xM 24 23,xG 25 24 (.fa (.t 2) 3),xG 26 24 (.load (.t 25) none),xG 27 24 (.fa (.t 3) 3),xG 28 24 (.load (.t 27) none),xG 29 24 (.call 59 [(.t 26),(.t 28)]),xS 30 (.pick (.t 24) (.t 29) (.k (.c (.bool false)))),xM 31 30,xG 32 31 (.fa (.t 2) 4),xG 33 31 (.load (.t 32) none),xG 34 31 (.fa (.t 3) 4),xG 35 31 (.load (.t 34) none),xG 36 31 (.call 60 [(.t 33),(.t 35),(.k (.c (.fn 28)))]),xS 37 (.pick (.t 31) (.t 36) (.k (.c (.bool false)))),xM 4 37] none [4]) .ret))
theorem PM:al Tryz.prog 38 (Tryz.f28.body.getD .skip) DD=true:=by kernel_rfl
theorem PN:am Tryz.prog Tryz.f28.results.toList [.tmp 4]=true:=by kernel_rfl
theorem vR:aw Tryz.prog 28=true:=by kernel_rfl
def DE:X:=(.seq (.reg [xS 1 (.box (.t 0) (some 5)),xS 2 (.mv (.k (.c (.bool false))))] none [1]) (.seq (.reg [xS 3 (.load (.t 1) (some 5)),xS 4 (.build xV []),xS 5 (.call 28 [(.t 3),(.t 4)]),xM 2 5] none [2]) .ret))
theorem PO:al Tryz.prog 6 (Tryz.f55.body.getD .skip) DE=true:=by kernel_rfl
theorem PP:am Tryz.prog Tryz.f55.results.toList [.tmp 2]=true:=by kernel_rfl
theorem PQ:aw Tryz.prog 55=true:=by kernel_rfl
noncomputable def ji (k:Nat):Spec:=Spec.of (ι:=T × T) [false,false] (fun i=>[.d (.agg i.1.enc),.d (.agg i.2.enc)]) (fun i=>(i.1.fit 140737488355328/\i.2.fit 140737488355328)/\SizeOf.sizeOf i.1 < k) (fun i=>[.d (.one (.bool (decide (i.1=i.2))))]) (fun _=>[.gone,.gone])
theorem qN:∀ i j:T × T,(fun (i:T × T)=>([.d (.agg i.1.enc),.d (.agg i.2.enc)]:List AV)) i=(fun (i:T × T)=>([.d (.agg i.1.enc),.d (.agg i.2.enc)]:List AV)) j->i=j:=by
 rintro⟨a,b⟩ ⟨a',b'⟩ h
 simp only[Prod.mk.injEq]
 simpa [ap,T.enc_eq,aq,F.enc_eq,ar,Tk.enc_eq,au,Gn.enc_eq,ao] using h
theorem DF (k:Nat):(ji k).md=[false,false]:=rfl
theorem DG (k:Nat) (a:T) (b:T):(ji k).pre [.d (.agg a.enc),.d (.agg b.enc)]=((a.fit 140737488355328/\b.fit 140737488355328)/\SizeOf.sizeOf a < k):=Spec.of_pre' qN (a,b)
theorem DH (k:Nat):(ji k).alts=none:=rfl
theorem DI (k:Nat) (a:T) (b:T):(ji k).res [.d (.agg a.enc),.d (.agg b.enc)]=[.d (.one (.bool (decide (a=b))))]:=Spec.of_res qN (a,b)
theorem DJ (k:Nat) (a:T) (b:T):(ji k).out [.d (.agg a.enc),.d (.agg b.enc)]=[.gone,.gone]:=Spec.of_out qN (a,b)
theorem PR (k:Nat) (hS:Sound Tryz.prog 77 (ji k)):Sound Tryz.prog 77 (ji (k+1)):=by
 refine aQ (GOK.cons DC hS GOK.nil) Tryz.func77 (c:=Tryz.f77.body.getD .skip) rfl (n:=81) rfl PD PE (fun _=>by simp) ?_ ?_
 ·exact qN
 ·rintro⟨a,b⟩ ⟨⟨h1,h2⟩,h4⟩
  obtain⟨kk,n,s,ks,l⟩:=a
  obtain⟨kk',n',s',ks',l'⟩:=b
  simp only[T.fit,ab,cJ] at h1 h2
  obtain⟨_,_,f1,⟨f2,f2'⟩,f3,f4⟩:=h1
  obtain⟨_,_,g1,⟨g2,g2'⟩,g3,g4⟩:=h2
  have e3 : SizeOf.sizeOf l < k := by have e : SizeOf.sizeOf (T.mk kk n s ks l) < k + 1 := h4
                                      rw[T.mk.sizeOf_spec] at e;omega
  clear h4
  have c1:ks=ks'->ks.length=ks'.length:=fun h=>by rw[h]
  have c2:l=l'->l.length=l'.length:=fun h=>by rw[h]
  simp only[DB,T.enc,go_sem,seval,rg,T.mk.injEq]
  repeat' (first|with_reducible assumption|with_reducible refine And.intro ?_ ?_|intro _)
  all_goals first|omega|(grind;done)|skip
  have hl:ks.length=ks'.length:=by grind
  have hl':l.length=l'.length:=by grind
  have hb:(kk=kk'/\n=n'/\s=s'/\ks=ks'/\l=l') ↔ (ks=ks'/\l=l'):=by grind
  clear c1 c2
  repeat (rename_i hx;clear hx)
  refine aZ (ι:=Nat) (fun i=>ks.length-i) (fun i=>i<=ks.length/\ks.take i=ks'.take i)
   (fun i=>⟨[(2,.q (.box 2 0)),(3,.q (.box 3 0)),(5,.q (.c (.int .i64 i)))],[(2,[.c (.int .i64 kk),.c (.int .i64 n),.c (.str s),.c (.row 1 (aa ks)),.c (.row 5 (ai l))]),(3,[.c (.int .i64 kk'),.c (.int .i64 n'),.c (.str s'),.c (.row 1 (aa ks')),.c (.row 5 (ai l'))])],[]⟩) 0 ⟨Nat.zero_le _,rfl⟩ (Le.refl _) ?_
  rintro i ⟨hi,heq⟩
  rcases Nat.lt_or_ge i ks.length with hlt|hge
  ·obtain⟨x,hx,_,hmem⟩:=aU hlt
   obtain⟨x',hx',_,hmem'⟩:=aU (l:=ks') (i:=i) (by omega)
   have a1:=dm hx
   have a1':=dm hx'
   have a2:((i:Int) < (ks.length:Int))=True:=by simp;omega
   have a3:((i:Int) < (ks'.length:Int))=True:=by simp;omega
   by_cases hc:x=x'
   ·have c1:(x=x')=True:=by simp[hc]
    simp only[go_sem,seval,rg,a1,a1',a2,a3,c1]
    repeat' (first|with_reducible assumption|with_reducible refine And.intro ?_ ?_|intro _)
    all_goals first|omega|skip
    exact⟨i+1,⟨by omega,nV hx (hc ▸ hx') heq⟩,by omega,Le.refl _⟩
   ·have c1:(x=x')=False:=by simp[hc]
    have hne:=nU hx hx' hc
    simp only[go_sem,seval,rg,a1,a1',a2,a3,c1]
    repeat' (first|with_reducible assumption|with_reducible refine And.intro ?_ ?_|intro _)
    all_goals first|omega|skip
    rename_i h;exact hne (hb.1 h).1
  ·have a2:((i:Int) < (ks.length:Int))=False:=by simp;omega
   have hie:i=ks.length:=by omega
   subst hie
   have hks:=nW hl heq
   simp only[go_sem,seval,a2]
   refine aZ (ι:=Nat) (fun i=>l.length-i) (fun i=>i<=l.length/\l.take i=l'.take i)
    (fun i=>⟨[(2,.q (.box 2 0)),(3,.q (.box 3 0)),(6,.q (.c (.int .i64 i)))],[(2,[.c (.int .i64 kk),.c (.int .i64 n),.c (.str s),.c (.row 1 (aa ks)),.c (.row 5 (ai l))]),(3,[.c (.int .i64 kk'),.c (.int .i64 n'),.c (.str s'),.c (.row 1 (aa ks')),.c (.row 5 (ai l'))])],[]⟩) 0 ⟨Nat.zero_le _,rfl⟩ (Le.refl _) ?_
   rintro i ⟨hi,heq⟩
   rcases Nat.lt_or_ge i l.length with hlt|hge
   ·obtain⟨x,hx,_,hmem⟩:=aU hlt
    obtain⟨x',hx',_,hmem'⟩:=aU (l:=l') (i:=i) (by omega)
    have a1:=fU hx
    have a1':=fU hx'
    have a2:((i:Int) < (l.length:Int))=True:=by simp;omega
    have a3:((i:Int) < (l'.length:Int))=True:=by simp;omega
    have a4:=iM f4 x hmem
    have a5:=iM g4 x' hmem'
    have a6:=T.enc_len x
    have a6':=T.enc_len x'
    have a8:=bK hmem
    by_cases hc:x=x'
    ·have c1:(x=x')=True:=by simp[hc]
     simp only[go_sem,seval,rg,a1,a1',a2,a3,a6,a6',c1,DF,DG,DH,DI,DJ]
     repeat' (first|with_reducible assumption|with_reducible refine And.intro ?_ ?_|intro _)
     all_goals first|omega|skip
     exact⟨i+1,⟨by omega,nV hx (hc ▸ hx') heq⟩,by omega,Le.refl _⟩
    ·have c1:(x=x')=False:=by simp[hc]
     have hne:=nU hx hx' hc
     simp only[go_sem,seval,rg,a1,a1',a2,a3,a6,a6',c1,DF,DG,DH,DI,DJ]
     repeat' (first|with_reducible assumption|with_reducible refine And.intro ?_ ?_|intro _)
     all_goals first|omega|skip
     rename_i h;exact hne (hb.1 h).2
   ·have a2:((i:Int) < (l.length:Int))=False:=by simp;omega
    have hie:i=l.length:=by omega
    subst hie
    have hls:=nW hl' heq
    simp only[go_sem,seval,a2]
    exact hb.2 ⟨hks,hls⟩
theorem PS:∀ k,Sound Tryz.prog 77 (ji k):=fun k=>Nat.rec Sound.none (fun k ih=>PR k ih) k
noncomputable def mt :Spec:=Spec.of (ι:=T × T) [false,false] (fun i=>[.d (.agg i.1.enc),.d (.agg i.2.enc)]) (fun i=>i.1.fit 140737488355328/\i.2.fit 140737488355328) (fun i=>[.d (.one (.bool (decide (i.1=i.2))))]) (fun _=>[.gone,.gone])
theorem vS:∀ i j:T × T,(fun (i:T × T)=>([.d (.agg i.1.enc),.d (.agg i.2.enc)]:List AV)) i=(fun (i:T × T)=>([.d (.agg i.1.enc),.d (.agg i.2.enc)]:List AV)) j->i=j:=by
 rintro⟨a,b⟩ ⟨a',b'⟩ h
 simp only[Prod.mk.injEq]
 simpa [ap,T.enc_eq,aq,F.enc_eq,ar,Tk.enc_eq,au,Gn.enc_eq,ao] using h
theorem PT :(mt).md=[false,false]:=rfl
theorem PU  (a:T) (b:T):(mt).pre [.d (.agg a.enc),.d (.agg b.enc)]=(a.fit 140737488355328/\b.fit 140737488355328):=Spec.of_pre' vS (a,b)
theorem PW :(mt).alts=none:=rfl
theorem PX  (a:T) (b:T):(mt).res [.d (.agg a.enc),.d (.agg b.enc)]=[.d (.one (.bool (decide (a=b))))]:=Spec.of_res vS (a,b)
theorem PY  (a:T) (b:T):(mt).out [.d (.agg a.enc),.d (.agg b.enc)]=[.gone,.gone]:=Spec.of_out vS (a,b)
theorem PZ:Sound Tryz.prog 77 mt:=Sound.all (μ:=fun i=>SizeOf.sizeOf i.1) PS
noncomputable def mu :Spec:=Spec.of (ι:=(List ByteArray) × (List ByteArray)) [false,false] (fun i=>[.d (.one (.row 1 (aa i.1))),.d (.one (.row 1 (aa i.2)))]) (fun i=>ab 140737488355328 i.1.length/\ab 140737488355328 i.2.length) (fun i=>[.d (.one (.bool (decide (i.1=i.2))))]) (fun _=>[.gone,.gone])
theorem qO:∀ i j:(List ByteArray) × (List ByteArray),(fun (i:(List ByteArray) × (List ByteArray))=>([.d (.one (.row 1 (aa i.1))),.d (.one (.row 1 (aa i.2)))]:List AV)) i=(fun (i:(List ByteArray) × (List ByteArray))=>([.d (.one (.row 1 (aa i.1))),.d (.one (.row 1 (aa i.2)))]:List AV)) j->i=j:=by
 rintro⟨a,b⟩ ⟨a',b'⟩ h
 simp only[Prod.mk.injEq]
 simpa [ap,T.enc_eq,aq,F.enc_eq,ar,Tk.enc_eq,au,Gn.enc_eq,ao] using h
theorem Qa :(mu).md=[false,false]:=rfl
theorem Qb  (a:List ByteArray) (b:List ByteArray):(mu).pre [.d (.one (.row 1 (aa a))),.d (.one (.row 1 (aa b)))]=(ab 140737488355328 a.length/\ab 140737488355328 b.length):=Spec.of_pre' qO (a,b)
theorem Qc :(mu).alts=none:=rfl
theorem Qd  (a:List ByteArray) (b:List ByteArray):(mu).res [.d (.one (.row 1 (aa a))),.d (.one (.row 1 (aa b)))]=[.d (.one (.bool (decide (a=b))))]:=Spec.of_res qO (a,b)
theorem Qe  (a:List ByteArray) (b:List ByteArray):(mu).out [.d (.one (.row 1 (aa a))),.d (.one (.row 1 (aa b)))]=[.gone,.gone]:=Spec.of_out qO (a,b)
theorem Qf:Sound Tryz.prog 59 mu:=by
 refine aQ GOK.nil Tryz.func59 (c:=Tryz.f59.body.getD .skip) rfl (n:=26) rfl PF PG (fun _=>by simp) ?_ ?_
 ·exact qO
 ·rintro⟨a,b⟩ h1
  simp only[ab] at h1
  by_cases hl:a.length=b.length
  ·have b1:((a.length:Int)=(b.length:Int))=True:=by simp[hl]
   simp only[vP,rg,go_sem,seval,b1]
   refine aZ (ι:=Nat) (fun i=>a.length-i) (fun i=>i<=a.length/\a.take i=b.take i)
    (fun i=>⟨[(0,.q (.c (.row 1 (aa a)))),(1,.q (.c (.row 1 (aa b)))),(12,.q (.c (.int .i64 a.length))),(13,.q (.c (.int .i64 i)))],[],[]⟩) 0 ⟨Nat.zero_le _,rfl⟩ (Le.refl _) ?_
   rintro i ⟨hi,heq⟩
   rcases Nat.lt_or_ge i a.length with hlt|hge
   ·obtain⟨s,hs,_,hmem⟩:=aU hlt
    obtain⟨s',hs',_,hmem'⟩:=aU (l:=b) (i:=i) (by omega)
    have a1:=dm hs
    have a1':=dm hs'
    have a2:((i:Int) < (a.length:Int))=True:=by simp;omega
    have a3:((i:Int) < (b.length:Int))=True:=by simp;omega
    by_cases hc:s=s'
    ·have c1:(s=s')=True:=by simp[hc]
     simp only[go_sem,seval,rg,a1,a1',a2,a3,c1]
     repeat' (first|with_reducible assumption|with_reducible refine And.intro ?_ ?_|intro _)
     all_goals first|omega|skip
     exact⟨i+1,⟨by omega,nV hs (hc ▸ hs') heq⟩,by omega,Le.refl _⟩
    ·have c1:(s=s')=False:=by simp[hc]
     simp only[go_sem,seval,rg,a1,a1',a2,a3,c1]
     repeat' (first|with_reducible assumption|with_reducible refine And.intro ?_ ?_|intro _)
     all_goals first|omega|skip
     rename_i h;exact nU hs hs' hc h
   ·have a2:((i:Int) < (a.length:Int))=False:=by simp;omega
    have hie:i=a.length:=by omega
    subst hie
    simp only[go_sem,seval,a2]
    exact nW hl heq
  ·have b1:((a.length:Int)=(b.length:Int))=False:=by simp;omega
   simp only[vP,rg,go_sem,seval,b1]
   exact fun e=>hl (by rw[e])
noncomputable def jj (k:Nat):Spec:=Spec.of (ι:=T × T) [false,false] (fun i=>[.d (.agg i.1.enc),.d (.agg i.2.enc)]) (fun i=>(i.1.fit 140737488355328/\i.2.fit 140737488355328)/\SizeOf.sizeOf i.1 < k) (fun i=>[.d (.one (.bool (decide (i.1=i.2))))]) (fun _=>[.gone,.gone])
theorem qP:∀ i j:T × T,(fun (i:T × T)=>([.d (.agg i.1.enc),.d (.agg i.2.enc)]:List AV)) i=(fun (i:T × T)=>([.d (.agg i.1.enc),.d (.agg i.2.enc)]:List AV)) j->i=j:=by
 rintro⟨a,b⟩ ⟨a',b'⟩ h
 simp only[Prod.mk.injEq]
 simpa [ap,T.enc_eq,aq,F.enc_eq,ar,Tk.enc_eq,au,Gn.enc_eq,ao] using h
theorem DK (k:Nat):(jj k).md=[false,false]:=rfl
theorem DM (k:Nat) (a:T) (b:T):(jj k).pre [.d (.agg a.enc),.d (.agg b.enc)]=((a.fit 140737488355328/\b.fit 140737488355328)/\SizeOf.sizeOf a < k):=Spec.of_pre' qP (a,b)
theorem DN (k:Nat):(jj k).alts=none:=rfl
theorem DO (k:Nat) (a:T) (b:T):(jj k).res [.d (.agg a.enc),.d (.agg b.enc)]=[.d (.one (.bool (decide (a=b))))]:=Spec.of_res qP (a,b)
theorem DP (k:Nat) (a:T) (b:T):(jj k).out [.d (.agg a.enc),.d (.agg b.enc)]=[.gone,.gone]:=Spec.of_out qP (a,b)
noncomputable def hY (k:Nat):Spec:=Spec.of (ι:=(List T) × (List T)) [false,false,false] (fun i=>[.d (.one (.row 5 (ai i.1))),.d (.one (.row 5 (ai i.2))),.d (.one (.fn 28))]) (fun i=>(ab 140737488355328 i.1.length/\bn 140737488355328 i.1/\ab 140737488355328 i.2.length/\bn 140737488355328 i.2)/\SizeOf.sizeOf i.1 < k) (fun i=>[.d (.one (.bool (decide (i.1=i.2))))]) (fun _=>[.gone,.gone,.gone])
theorem qQ:∀ i j:(List T) × (List T),(fun (i:(List T) × (List T))=>([.d (.one (.row 5 (ai i.1))),.d (.one (.row 5 (ai i.2))),.d (.one (.fn 28))]:List AV)) i=(fun (i:(List T) × (List T))=>([.d (.one (.row 5 (ai i.1))),.d (.one (.row 5 (ai i.2))),.d (.one (.fn 28))]:List AV)) j->i=j:=by
 rintro⟨a,b⟩ ⟨a',b'⟩ h
 simp only[Prod.mk.injEq]
 simpa [ap,T.enc_eq,aq,F.enc_eq,ar,Tk.enc_eq,au,Gn.enc_eq,ao] using h
theorem Qg (k:Nat):(hY k).md=[false,false,false]:=rfl
theorem Qh (k:Nat) (a:List T) (b:List T):(hY k).pre [.d (.one (.row 5 (ai a))),.d (.one (.row 5 (ai b))),.d (.one (.fn 28))]=((ab 140737488355328 a.length/\bn 140737488355328 a/\ab 140737488355328 b.length/\bn 140737488355328 b)/\SizeOf.sizeOf a < k):=Spec.of_pre' qQ (a,b)
theorem Qi (k:Nat):(hY k).alts=none:=rfl
theorem Qj (k:Nat) (a:List T) (b:List T):(hY k).res [.d (.one (.row 5 (ai a))),.d (.one (.row 5 (ai b))),.d (.one (.fn 28))]=[.d (.one (.bool (decide (a=b))))]:=Spec.of_res qQ (a,b)
theorem Qk (k:Nat) (a:List T) (b:List T):(hY k).out [.d (.one (.row 5 (ai a))),.d (.one (.row 5 (ai b))),.d (.one (.fn 28))]=[.gone,.gone,.gone]:=Spec.of_out qQ (a,b)
theorem Ql (k:Nat) (hS:Sound Tryz.prog 60 (hY k)):Sound Tryz.prog 28 (jj (k+1)):=by
 refine aQ (GOK.cons (l:=[(60,hY k)]) PH Qf (GOK.cons PL hS GOK.nil)) Tryz.func28 (c:=Tryz.f28.body.getD .skip) rfl (n:=38) rfl PM PN (fun _=>by simp) ?_ ?_
 ·exact qP
 ·rintro⟨a,b⟩ ⟨⟨h1,h2⟩,h4⟩
  obtain⟨kk,n,s,ks,l⟩:=a
  obtain⟨kk',n',s',ks',l'⟩:=b
  simp only[T.fit,cJ] at h1 h2
  obtain⟨_,_,f1,⟨f2,f2'⟩,f3,f4⟩:=h1
  obtain⟨_,_,g1,⟨g2,g2'⟩,g3,g4⟩:=h2
  have e3 : SizeOf.sizeOf l < k := by have e : SizeOf.sizeOf (T.mk kk n s ks l) < k + 1 := h4
                                      rw[T.mk.sizeOf_spec] at e;omega
  clear h4
  simp only[DD,T.enc,go_sem,seval,rg,T.mk.injEq,Qa,Qb,Qc,Qd,Qe,Qg,Qh,Qi,Qj,Qk]
  repeat' (first|with_reducible assumption|with_reducible refine And.intro ?_ ?_|intro _)
  all_goals first|omega|(grind;done)|skip
theorem Qm (k:Nat) (hS:Sound Tryz.prog 28 (jj k)):Sound Tryz.prog 60 (hY (k+1)):=by
 refine aQ (GOK.cons vR hS GOK.nil) Tryz.func60 (c:=Tryz.f60.body.getD .skip) rfl (n:=32) rfl PJ PK (fun _=>by simp) ?_ ?_
 ·exact qQ
 ·rintro⟨a,b⟩ ⟨h1,h3⟩
  simp only at h3
  simp only[ab] at h1
  have fa:=iM h1.2.1
  have fb:=iM h1.2.2.2
  by_cases hl:a.length=b.length
  ·have b1:((a.length:Int)=(b.length:Int))=True:=by simp[hl]
   simp only[vQ,rg,go_sem,seval,b1]
   refine aZ (ι:=Nat) (fun i=>a.length-i) (fun i=>i<=a.length/\a.take i=b.take i)
    (fun i=>⟨[(1,.q (.c (.row 5 (ai b)))),(2,.q (.c (.fn 28))),(15,.q (.c (.row 5 (ai a)))),(16,.q (.c (.int .i64 a.length))),(17,.q (.c (.int .i64 i)))],[],[]⟩) 0 ⟨Nat.zero_le _,rfl⟩ (Le.refl _) ?_
   rintro i ⟨hi,heq⟩
   rcases Nat.lt_or_ge i a.length with hlt|hge
   ·obtain⟨s,hs,_,hmem⟩:=aU hlt
    obtain⟨s',hs',_,hmem'⟩:=aU (l:=b) (i:=i) (by omega)
    have a1:=fU hs
    have a1':=fU hs'
    have a2:((i:Int) < (a.length:Int))=True:=by simp;omega
    have a3:((i:Int) < (b.length:Int))=True:=by simp;omega
    have a4:=fa s hmem
    have a5:=fb s' hmem'
    have a6:=T.enc_len s
    have a6':=T.enc_len s'
    have a8:=bK hmem
    by_cases hc:s=s'
    ·have c1:(s=s')=True:=by simp[hc]
     simp only[go_sem,seval,rg,a1,a1',a2,a3,a6,a6',c1,DK,DM,DN,DO,DP]
     repeat' (first|with_reducible assumption|with_reducible refine And.intro ?_ ?_|intro _)
     all_goals first|omega|skip
     exact⟨i+1,⟨by omega,nV hs (hc ▸ hs') heq⟩,by omega,Le.sub (fun _ h=>h) (fun _ h=>by cases h) (fun _ h=>h)⟩
    ·have c1:(s=s')=False:=by simp[hc]
     simp only[go_sem,seval,rg,a1,a1',a2,a3,a6,a6',c1,DK,DM,DN,DO,DP]
     repeat' (first|with_reducible assumption|with_reducible refine And.intro ?_ ?_|intro _)
     all_goals first|omega|skip
     rename_i h;exact nU hs hs' hc h
   ·have a2:((i:Int) < (a.length:Int))=False:=by simp;omega
    have hie:i=a.length:=by omega
    subst hie
    simp only[go_sem,seval,a2]
    exact nW hl heq
  ·have b1:((a.length:Int)=(b.length:Int))=False:=by simp;omega
   simp only[vQ,rg,go_sem,seval,b1]
   exact fun e=>hl (by rw[e])
theorem Qn (k:Nat):Sound Tryz.prog 28 (jj k)/\Sound Tryz.prog 60 (hY k):=by
 induction k with
 | zero=>exact⟨Sound.none,Sound.none⟩
 | succ k ih=>exact⟨Ql k ih.2,Qm k ih.1⟩
noncomputable def mw :Spec:=Spec.of (ι:=T × T) [false,false] (fun i=>[.d (.agg i.1.enc),.d (.agg i.2.enc)]) (fun i=>i.1.fit 140737488355328/\i.2.fit 140737488355328) (fun i=>[.d (.one (.bool (decide (i.1=i.2))))]) (fun _=>[.gone,.gone])
theorem vT:∀ i j:T × T,(fun (i:T × T)=>([.d (.agg i.1.enc),.d (.agg i.2.enc)]:List AV)) i=(fun (i:T × T)=>([.d (.agg i.1.enc),.d (.agg i.2.enc)]:List AV)) j->i=j:=by
 rintro⟨a,b⟩ ⟨a',b'⟩ h
 simp only[Prod.mk.injEq]
 simpa [ap,T.enc_eq,aq,F.enc_eq,ar,Tk.enc_eq,au,Gn.enc_eq,ao] using h
theorem DR :(mw).md=[false,false]:=rfl
theorem DS  (a:T) (b:T):(mw).pre [.d (.agg a.enc),.d (.agg b.enc)]=(a.fit 140737488355328/\b.fit 140737488355328):=Spec.of_pre' vT (a,b)
theorem DT :(mw).alts=none:=rfl
theorem DU  (a:T) (b:T):(mw).res [.d (.agg a.enc),.d (.agg b.enc)]=[.d (.one (.bool (decide (a=b))))]:=Spec.of_res vT (a,b)
theorem DW  (a:T) (b:T):(mw).out [.d (.agg a.enc),.d (.agg b.enc)]=[.gone,.gone]:=Spec.of_out vT (a,b)
theorem DX:Sound Tryz.prog 28 mw:=Sound.all (μ:=fun i=>SizeOf.sizeOf i.1) (fun k=>(Qn k).1)
noncomputable def ku :Spec:=Spec.of (ι:=T) [false] (fun i=>[.d (.agg i.enc)]) (fun i=>i.fit 140737488355328) (fun i=>[.d (.one (.bool (decide (i=T.zero))))]) (fun _=>[.gone])
theorem qR:∀ i j:T,(fun (i:T)=>([.d (.agg i.enc)]:List AV)) i=(fun (i:T)=>([.d (.agg i.enc)]:List AV)) j->i=j:=by
 intro t t' h
 simpa [ap,T.enc_eq,aq,F.enc_eq,ar,Tk.enc_eq,au,Gn.enc_eq,ao] using h
theorem Qo :(ku).md=[false]:=rfl
theorem Qp  (t:T):(ku).pre [.d (.agg t.enc)]=(t.fit 140737488355328):=Spec.of_pre' qR t
theorem Qq :(ku).alts=none:=rfl
theorem Qr  (t:T):(ku).res [.d (.agg t.enc)]=[.d (.one (.bool (decide (t=T.zero))))]:=Spec.of_res qR t
theorem Qs  (t:T):(ku).out [.d (.agg t.enc)]=[.gone]:=Spec.of_out qR t
theorem Qt:Sound Tryz.prog 55 ku:=by
 refine aQ (GOK.cons vR DX GOK.nil) Tryz.func55 (c:=Tryz.f55.body.getD .skip) rfl (n:=6) rfl PO PP (fun _=>by simp) ?_ ?_
 ·exact qR
 ·intro t h1
  have a6:=T.enc_len t
  have p1:=DS t T.zero
  have p2:=DU t T.zero
  have p3:=DW t T.zero
  rw[T.zero_enc] at p1 p2 p3
  have hz:=T.zero_fit
  simp only[DE,go_sem,seval,rg,a6,DR,DT,p1,p2,p3]
  repeat' (first|with_reducible assumption|with_reducible refine And.intro ?_ ?_|intro _)
  all_goals first|omega|skip
end Go.Proofs.Pw
namespace Go.Proofs.Pw
variable [Globs]
def oy:X:=(.seq (.reg [xS 4 (.mv (xK 0))] none [0,1]) (.seq (.reg [xM 7 0,xM 8 0,xS 9 (.nilc (.t 8)),xS 10 (.fa (.t 9) 1),xL 11 10,xS 12 (.bin false .add (.t 11) (xK 1)),xS 13 (.nilc (.t 7)),xS 14 (.fa (.t 13) 1),⟨none,none,.st (.t 14) (.t 12) none⟩] none [0,1]) (.seq (.seq (.reg [xM 15 1,xS 16 (.bin false .lss (.t 15) (xK 1)),xM 17 16,xH 18 17 (.mv (.t 0)),xH 19 17 (.nilc (.t 18)),xH 20 17 (.fa (.t 19) 0),xH 21 17 (.load (.t 20) none),xH 22 17 (.len (.t 21) false),xH 23 17 (.bin false .eql (.t 22) (xK 0)),xS 24 (.pick (.t 17) (.k (.c (.bool true))) (.t 23))] none [0,1,24]) (.cond (.t 24) (.seq (.reg [xS 4 (.mv (xK 0))] none [4]) .ret) .skip)) (.seq (.reg [xM 25 0,xS 26 (.nilc (.t 25)),xS 27 (.fa (.t 26) 1),xL 28 27,xS 29 (.bin false .sub (.t 28) (xK 1)),xM 5 29] none [0,1,5]) (.seq (.seq (.reg [xM 30 5,xM 31 0,xS 32 (.nilc (.t 31)),xS 33 (.fa (.t 32) 0),xL 34 33,xS 35 (.len (.t 34) false),xS 36 (.bin false .lss (.t 30) (.t 35))] none [0,1,5,36]) (.cond (.t 36) (.seq (.reg [xM 37 0,xS 38 (.nilc (.t 37)),xS 39 (.fa (.t 38) 0),xL 40 39,xM 41 5,xS 42 (.ia (.t 40) (.t 41) 1),xL 43 42,xS 44 (.conv .i64 (.t 43)),xM 45 1,xS 46 (.bin false .rem (.t 44) (.t 45)),xM 4 46] none [4]) .ret) .skip)) (.seq (.reg [xM 47 0,xS 48 (.nilc (.t 47)),xS 49 (.fa (.t 48) 0),xL 50 49,xM 51 5,xM 52 0,xS 53 (.nilc (.t 52)),xS 54 (.fa (.t 53) 0),xL 55 54,xS 56 (.len (.t 55) false),xS 57 (.bin false .rem (.t 51) (.t 56)),xS 58 (.ia (.t 50) (.t 57) 1),xL 59 58,xS 60 (.conv .i64 (.t 59)),xS 61 (.bin false .mul (.t 60) (xK 131)),xM 62 0,xS 63 (.nilc (.t 62)),xS 64 (.fa (.t 63) 0),xL 65 64,xM 66 5,xS 67 (.bin false .mul (.t 66) (xK 7)),xS 68 (.bin false .add (.t 67) (xK 3)),xM 69 0,xS 70 (.nilc (.t 69)),xS 71 (.fa (.t 70) 0),xL 72 71,xS 73 (.len (.t 72) false),xS 74 (.bin false .rem (.t 68) (.t 73)),xS 75 (.ia (.t 65) (.t 74) 1),xL 76 75,xS 77 (.conv .i64 (.t 76)),xS 78 (.bin false .mul (.t 77) (xK 1117)),xS 79 (.bin false .add (.t 61) (.t 78)),xM 80 5,xS 81 (.bin false .mul (.t 80) (xK 29)),xS 82 (.bin false .add (.t 79) (.t 81)),xM 83 5,xM 84 0,xS 85 (.nilc (.t 84)),xS 86 (.fa (.t 85) 0),xL 87 86,xS 88 (.len (.t 87) false),xS 89 (.bin false .quo (.t 83) (.t 88)),xS 90 (.bin false .mul (.t 89) (xK 53)),xS 91 (.bin false .add (.t 82) (.t 90)),xM 6 91] (some 44) [1,6]) (.seq (.reg [xM 92 6,xM 93 6,xS 94 (.bin false .quo (.t 93) (xK 64)),xS 95 (.bin false .xor (.t 92) (.t 94)),xM 6 95] none [1,6]) (.seq (.reg [xM 96 6,xM 97 1,xS 98 (.bin false .rem (.t 96) (.t 97)),xM 4 98] none [4]) .ret))))))))
theorem Qu:al Tryz.prog 99 (Tryz.f38.body.getD .skip) oy=true:=by kernel_rfl
theorem Qv:am Tryz.prog Tryz.f38.results.toList [.tmp 4]=true:=by kernel_rfl
theorem fx:aw Tryz.prog 38=true:=by kernel_rfl
def DY:X:=(.seq (.reg [xS 4 (.mv (.k (.c (.str ⟨#[]⟩))))] none [0,1]) (.seq (.reg [xM 5 1,xM 6 0,xM 7 1,xS 8 (.len (.t 7) false),xS 9 (.callr 38 [(.t 6),(.t 8)]),xS 10 (.ia (.t 5) (.t 9) 1),xL 11 10,xM 4 11] none [4]) .ret))
theorem Qw:al Tryz.prog 12 (Tryz.f39.body.getD .skip) DY=true:=by kernel_rfl
theorem Qx:am Tryz.prog Tryz.f39.results.toList [.tmp 4]=true:=by kernel_rfl
theorem my:aw Tryz.prog 39=true:=by kernel_rfl
def DZ:X:=(.seq (.reg [xS 4 (.mv (xK 0))] none [0,1]) (.seq (.reg [xM 5 1,xM 6 0,xM 7 1,xS 8 (.len (.t 7) false),xS 9 (.callr 38 [(.t 6),(.t 8)]),xS 10 (.ia (.t 5) (.t 9) 1),xL 11 10,xM 4 11] none [4]) .ret))
theorem Qy:al Tryz.prog 12 (Tryz.f41.body.getD .skip) DZ=true:=by kernel_rfl
theorem Qz:am Tryz.prog Tryz.f41.results.toList [.tmp 4]=true:=by kernel_rfl
theorem mz:aw Tryz.prog 41=true:=by kernel_rfl
def Ea:X:=(.seq (.reg [xS 2 (.alloc xV)] none [0,2]) (.seq (.seq (.reg [xM 3 0,xS 4 (.callr 38 [(.t 3),(xK 8)])] none [0,2,4]) (.block 0 (.seq (.reg [xS 6 (.bin false .eql (.t 4) (xK 0)),xM 5 6] none [0,2,4,5]) (.cond (.t 5) (.seq (.reg [xM 7 0,xS 8 (.callr 38 [(.t 7),(xK 3)]),xS 9 (.build xV [(0,(.t 8),none)]),xW 2 9 5] none [2]) .ret) (.seq (.seq (.reg [xS 11 (.bin false .eql (.t 4) (xK 1)),xM 10 11] none [0,2,4,10]) (.cond (.t 10) .skip (.reg [xS 12 (.bin false .eql (.t 4) (xK 2)),xM 10 12] none [0,2,4,10]))) (.cond (.t 10) (.seq (.reg [xM 13 0,xS 14 (.bsl 1 [((.k (.c (.str ⟨#[]⟩))),none),((.k (.c (.str ⟨#[97]⟩))),none),((.k (.c (.str ⟨#[98]⟩))),none),((.k (.c (.str ⟨#[97,98]⟩))),none),((.k (.c (.str ⟨#[122,122]⟩))),none),((.k (.c (.str ⟨#[97,98,99,100,101,102,103,104,105,106,107,108]⟩))),none)]),xS 15 (.callr 39 [(.t 13),(.t 14)]),xS 16 (.build xV [(0,(xK 4),none),(2,(.t 15),none)]),xW 2 16 5] none [2]) .ret) (.seq (.reg [xS 18 (.bin false .eql (.t 4) (xK 3)),xM 17 18] none [0,2,17]) (.cond (.t 17) (.seq (.reg [xM 19 0,xS 20 (.callr 38 [(.t 19),(xK 2)]),xS 21 (.bin false .add (xK 5) (.t 20)),xS 22 (.build xV [(0,(.t 21),none)]),xW 2 22 5] none [2]) .ret) .skip)))))))) (.seq (.reg [xM 23 0,xS 24 (.bsl 1 [((xK 0),none),((xK 1),none),((xK 2),none),((xK 3),none),((.k (.c (.int .i64 (-1)))),none),((xK 7),none),((xK 1000000),none)]),xS 25 (.callr 41 [(.t 23),(.t 24)]),xS 26 (.build xV [(0,(xK 3),none),(1,(.t 25),none)]),xW 2 26 5] none [2]) .ret)))
theorem QA:al Tryz.prog 27 (Tryz.f93.body.getD .skip) Ea=true:=by kernel_rfl
theorem QB:am Tryz.prog Tryz.f93.results.toList [.cell 2 (some 5)]=true:=by kernel_rfl
theorem Eb:aw Tryz.prog 93=true:=by kernel_rfl
def spPick :Spec:=Spec.ofR (ι:=(List Int) × Int × Int) (κ:=Int) [true,false] (fun i=>[.ref (rdC i.1 i.2.1),.d (.one (.int .i64 i.2.2))]) (fun i=>byt i.1/\0<=i.2.1/\i.2.1<=1099511627776/\i.2.2<=1000000) (fun i k=>0<=k/\(1<=i.2.2->k < i.2.2)/\(i.2.2 < 1->k=0)) (fun i k=>[.d (.one (.int .i64 k))]) (fun i k=>[.ref (rdC i.1 (i.2.1+1)),.gone])
theorem vU:∀ i j:(List Int) × Int × Int,(fun (i:(List Int) × Int × Int)=>([.ref (rdC i.1 i.2.1),.d (.one (.int .i64 i.2.2))]:List AV)) i=(fun (i:(List Int) × Int × Int)=>([.ref (rdC i.1 i.2.1),.d (.one (.int .i64 i.2.2))]:List AV)) j->i=j:=by
 rintro⟨bs,p,n⟩ ⟨bs',p',n'⟩ h
 simp only[Prod.mk.injEq]
 simpa [ap,T.enc_eq,aq,F.enc_eq,ar,Tk.enc_eq,au,Gn.enc_eq,ao,dn,and_assoc] using h
theorem de :(spPick).md=[true,false]:=rfl
theorem df  (bs:List Int) (p:Int) (n:Int):(spPick).pre [.ref (rdC bs p),.d (.one (.int .i64 n))]=(byt bs/\0<=p/\p<=1099511627776/\n<=1000000):=Spec.ofR_pre vU (bs,p,n)
theorem QC  (bs:List Int) (p:Int) (n:Int):(spPick).ne [.ref (rdC bs p),.d (.one (.int .i64 n))]=(∃ k:Int,0<=k/\(1<=n->k < n)/\(n < 1->k=0)):=Spec.ofR_ne vU (bs,p,n)
theorem bo  (bs:List Int) (p:Int) (n:Int) (F:List AV->List AV->Prop):(spPick).all [.ref (rdC bs p),.d (.one (.int .i64 n))] F=(∀ (m:Int),(0<=m/\(1<=n->m < n)/\(n < 1->m=0))->F [.d (.one (.int .i64 m))] [.ref (rdC bs (p+1)),.gone]):=by
 refine (Spec.ofR_all vU (bs,p,n) F).trans (propext ⟨fun h m hr=>h m hr,fun h k hr=>?_⟩)
 exact h k hr
theorem dg (bs:List Int) (p n:Int):spPick.ne [.ref (rdC bs p),.d (.one (.int .i64 n))]=True:=by
 rw[QC]
 exact eq_true ⟨0,by omega⟩
set_option maxHeartbeats 2000000 in
theorem fy:Sound Tryz.prog 38 spPick:=by
 refine ec GOK.nil Tryz.func38 (c:=Tryz.f38.body.getD .skip) rfl (n:=99) rfl Qu Qv (fun _=>by simp) ?_
 ·rintro⟨bs,p,n⟩ ⟨hb,h1,h2,h3⟩
  change byt bs at hb
  have hl:=hb.2
  simp only at h1 h2 h3
  have hm:∀ x:Int,0<=x->¬ n < 1->0<=x.tmod n/\x.tmod n < n:=fun x hx hn=>⟨Int.tmod_nonneg n hx,Int.tmod_lt_of_pos x (by omega)⟩
  by_cases c1:n < 1
  ·have a1:(n < 1)=True:=eq_true c1
   simp only[oy,rdC,rg,go_sem,seval,gR,a1]
   repeat' (first|with_reducible assumption|with_reducible refine And.intro ?_ ?_|intro _)
   all_goals first|omega|exact⟨0,by omega,rfl⟩
  ·have a1:(n < 1)=False:=eq_false c1
   by_cases c2:bs.length=0
   ·have a2:((bs.length:Int)=0)=True:=by simp[c2]
    simp only[oy,rdC,rg,go_sem,seval,gR,a1,a2]
    repeat' (first|with_reducible assumption|with_reducible refine And.intro ?_ ?_|intro _)
    all_goals first|omega|exact⟨0,by omega,rfl⟩
   ·have a2:((bs.length:Int)=0)=False:=by simp;intro h;exact c2 (by simp[h])
    have a3:p+1-1=p:=by omega
    by_cases c3:p < bs.length
    ·have a4:(p < (bs.length:Int))=True:=eq_true c3
     obtain⟨b,_,a5,b1,b2⟩:=tI hb (i:=p.toNat) (by omega)
     simp only[oy,rdC,rg,go_sem,seval,gR,a1,a2,a3,a4,a5]
     repeat' (first|with_reducible assumption|with_reducible refine And.intro ?_ ?_|intro _)
     all_goals first|omega|skip
     have:=hm b b1 c1
     exact⟨b.tmod n,by omega,rfl⟩
    ·have a4:(p < (bs.length:Int))=False:=eq_false c3
     have hL:0 < (bs.length:Int):=by omega
     have d1:=Int.tmod_nonneg (bs.length:Int) h1
     have d2:=Int.tmod_lt_of_pos p hL
     have d3:=Int.tmod_nonneg (bs.length:Int) (show 0<=p*7+3 by omega)
     have d4:=Int.tmod_lt_of_pos (p*7+3) hL
     have d5:0<=p.tdiv bs.length:=Int.tdiv_nonneg h1 (by omega)
     have d6:p.tdiv bs.length<=p:=by
      rw[Int.tdiv_eq_ediv_of_nonneg h1]
      exact Int.ediv_le_self _ h1
     obtain⟨b,_,a5,b1,b2⟩:=tI hb (i:=(p.tmod bs.length).toNat) (by omega)
     obtain⟨c,_,a6,c5,c6⟩:=tI hb (i:=((p*7+3).tmod bs.length).toNat) (by omega)
     have d7:0<=(b*131+c*1117+p*29+p.tdiv bs.length*53).tdiv 64:=Int.tdiv_nonneg (by omega) (by omega)
     have d8:(b*131+c*1117+p*29+p.tdiv bs.length*53).tdiv 64<=b*131+c*1117+p*29+p.tdiv bs.length*53:=by
      rw[Int.tdiv_eq_ediv_of_nonneg (by omega)]
      exact Int.ediv_le_self _ (by omega)
     simp only[oy,rdC,rg,go_sem,seval,gR,a1,a2,a3,a4,a5,a6]
     repeat' (first|with_reducible assumption|with_reducible refine And.intro ?_ ?_|intro _)
     all_goals first|omega|skip
     have:=hm (((b*131+c*1117+p*29+p.tdiv bs.length*53).toNat ^^^ ((b*131+c*1117+p*29+p.tdiv bs.length*53).tdiv 64).toNat:Nat):Int) (by omega) c1
     exact⟨_,⟨this.1,fun _=>this.2⟩,rfl⟩
def spDof :Spec:=Spec.ofR (ι:=(List Int) × Int × (List ByteArray)) (κ:=ByteArray) [true,false] (fun i=>[.ref (rdC i.1 i.2.1),.d (.one (.row 1 (aa i.2.2)))]) (fun i=>byt i.1/\0<=i.2.1/\i.2.1<=1099511627776/\1<=i.2.2.length/\i.2.2.length<=1000) (fun i k=>k ∈ i.2.2\/i.2.2=[]) (fun i k=>[.d (.one (.str k))]) (fun i k=>[.ref (rdC i.1 (i.2.1+1)),.gone])
theorem vV:∀ i j:(List Int) × Int × (List ByteArray),(fun (i:(List Int) × Int × (List ByteArray))=>([.ref (rdC i.1 i.2.1),.d (.one (.row 1 (aa i.2.2)))]:List AV)) i=(fun (i:(List Int) × Int × (List ByteArray))=>([.ref (rdC i.1 i.2.1),.d (.one (.row 1 (aa i.2.2)))]:List AV)) j->i=j:=by
 rintro⟨bs,p,l⟩ ⟨bs',p',l'⟩ h
 simp only[Prod.mk.injEq]
 simpa [ap,T.enc_eq,aq,F.enc_eq,ar,Tk.enc_eq,au,Gn.enc_eq,ao,dn,and_assoc] using h
theorem kv :(spDof).md=[true,false]:=rfl
theorem kw  (bs:List Int) (p:Int) (l:List ByteArray):(spDof).pre [.ref (rdC bs p),.d (.one (.row 1 (aa l)))]=(byt bs/\0<=p/\p<=1099511627776/\1<=l.length/\l.length<=1000):=Spec.ofR_pre vV (bs,p,l)
theorem QD  (bs:List Int) (p:Int) (l:List ByteArray):(spDof).ne [.ref (rdC bs p),.d (.one (.row 1 (aa l)))]=(∃ k:ByteArray,k ∈ l\/l=[]):=Spec.ofR_ne vV (bs,p,l)
theorem dS  (bs:List Int) (p:Int) (l:List ByteArray) (F:List AV->List AV->Prop):(spDof).all [.ref (rdC bs p),.d (.one (.row 1 (aa l)))] F=(∀ (s:ByteArray),(s ∈ l\/l=[])->F [.d (.one (.str s))] [.ref (rdC bs (p+1)),.gone]):=by
 refine (Spec.ofR_all vV (bs,p,l) F).trans (propext ⟨fun h s hr=>h s hr,fun h k hr=>?_⟩)
 exact h k hr
theorem kz (bs:List Int) (p:Int) (l:List ByteArray):spDof.ne [.ref (rdC bs p),.d (.one (.row 1 (aa l)))]=True:=by
 rw[QD]
 cases l with
 | nil=>exact eq_true ⟨⟨#[]⟩,.inr rfl⟩
 | cons x l=>exact eq_true ⟨x,.inl (by simp)⟩
theorem mA:Sound Tryz.prog 39 spDof:=by
 refine ec (GOK.cons fx fy GOK.nil) Tryz.func39 (c:=Tryz.f39.body.getD .skip) rfl (n:=12) rfl Qw Qx (fun _=>by simp) ?_
 ·rintro⟨bs,p,l⟩ ⟨hb,h1,h2,h3,h4⟩
  change byt bs at hb
  simp only at h1 h2 h3 h4
  simp only[DY,rg,go_sem,seval,bw,de,df,dg,↓bo,bo]
  repeat' (first|with_reducible assumption|with_reducible refine And.intro ?_ ?_|intro _)
  all_goals first|omega|skip
  ·rename_i m hm _
   obtain⟨s,hs,_,hmem⟩:=aU (l:=l) (i:=m.toNat) (by omega)
   rw[dm hs];simp
  ·rename_i m hm _ _
   obtain⟨s,hs,_,hmem⟩:=aU (l:=l) (i:=m.toNat) (by omega)
   rw[dm hs]
   exact⟨s,.inl hmem,rfl⟩
def spDnum :Spec:=Spec.ofR (ι:=(List Int) × Int × (List Int)) (κ:=Int) [true,false] (fun i=>[.ref (rdC i.1 i.2.1),.d (.one (.row 1 (aF .i64 i.2.2)))]) (fun i=>byt i.1/\0<=i.2.1/\i.2.1<=1099511627776/\1<=i.2.2.length/\i.2.2.length<=1000) (fun i k=>k ∈ i.2.2\/i.2.2=[]) (fun i k=>[.d (.one (.int .i64 k))]) (fun i k=>[.ref (rdC i.1 (i.2.1+1)),.gone])
theorem vW:∀ i j:(List Int) × Int × (List Int),(fun (i:(List Int) × Int × (List Int))=>([.ref (rdC i.1 i.2.1),.d (.one (.row 1 (aF .i64 i.2.2)))]:List AV)) i=(fun (i:(List Int) × Int × (List Int))=>([.ref (rdC i.1 i.2.1),.d (.one (.row 1 (aF .i64 i.2.2)))]:List AV)) j->i=j:=by
 rintro⟨bs,p,l⟩ ⟨bs',p',l'⟩ h
 simp only[Prod.mk.injEq]
 simpa [ap,T.enc_eq,aq,F.enc_eq,ar,Tk.enc_eq,au,Gn.enc_eq,ao,dn,and_assoc] using h
theorem kC :(spDnum).md=[true,false]:=rfl
theorem kD  (bs:List Int) (p:Int) (l:List Int):(spDnum).pre [.ref (rdC bs p),.d (.one (.row 1 (aF .i64 l)))]=(byt bs/\0<=p/\p<=1099511627776/\1<=l.length/\l.length<=1000):=Spec.ofR_pre vW (bs,p,l)
theorem QE  (bs:List Int) (p:Int) (l:List Int):(spDnum).ne [.ref (rdC bs p),.d (.one (.row 1 (aF .i64 l)))]=(∃ k:Int,k ∈ l\/l=[]):=Spec.ofR_ne vW (bs,p,l)
theorem dT  (bs:List Int) (p:Int) (l:List Int) (F:List AV->List AV->Prop):(spDnum).all [.ref (rdC bs p),.d (.one (.row 1 (aF .i64 l)))] F=(∀ (s:Int),(s ∈ l\/l=[])->F [.d (.one (.int .i64 s))] [.ref (rdC bs (p+1)),.gone]):=by
 refine (Spec.ofR_all vW (bs,p,l) F).trans (propext ⟨fun h s hr=>h s hr,fun h k hr=>?_⟩)
 exact h k hr
theorem kE (bs:List Int) (p:Int) (l:List Int):spDnum.ne [.ref (rdC bs p),.d (.one (.row 1 (aF .i64 l)))]=True:=by
 rw[QE]
 cases l with
 | nil=>exact eq_true ⟨0,.inr rfl⟩
 | cons x l=>exact eq_true ⟨x,.inl (by simp)⟩
theorem mB:Sound Tryz.prog 41 spDnum:=by
 refine ec (GOK.cons fx fy GOK.nil) Tryz.func41 (c:=Tryz.f41.body.getD .skip) rfl (n:=12) rfl Qy Qz (fun _=>by simp) ?_
 ·rintro⟨bs,p,l⟩ ⟨hb,h1,h2,h3,h4⟩
  change byt bs at hb
  simp only at h1 h2 h3 h4
  simp only[DZ,rg,go_sem,seval,gR,de,df,dg,↓bo,bo]
  repeat' (first|with_reducible assumption|with_reducible refine And.intro ?_ ?_|intro _)
  all_goals first|omega|skip
  ·rename_i m hm _
   obtain⟨s,hs,_,hmem⟩:=aU (l:=l) (i:=m.toNat) (by omega)
   rw[tp hs];simp
  ·rename_i m hm _ _
   obtain⟨s,hs,_,hmem⟩:=aU (l:=l) (i:=m.toNat) (by omega)
   rw[tp hs]
   exact⟨s,.inl hmem,rfl⟩
theorem oz (a b c:ByteArray):C.row 1 [[C.str a],[C.str b],[C.str c]]=C.row 1 (aa [a,b,c]):=rfl
theorem QF (a b c d:ByteArray):C.row 1 [[C.str a],[C.str b],[C.str c],[C.str d]]=C.row 1 (aa [a,b,c,d]):=rfl
theorem QG (a b c d:ByteArray):[[C.str a],[C.str b],[C.str c],[C.str d]]=aa [a,b,c,d]:=rfl
theorem QH (a b c d e f:ByteArray):C.row 1 [[C.str a],[C.str b],[C.str c],[C.str d],[C.str e],[C.str f]]=C.row 1 (aa [a,b,c,d,e,f]):=rfl
theorem qS (a b c:Int):C.row 1 [[C.int .i64 a],[C.int .i64 b],[C.int .i64 c]]=C.row 1 (aF .i64 [a,b,c]):=rfl
theorem vX (a b c d e:Int):C.row 1 [[C.int .i64 a],[C.int .i64 b],[C.int .i64 c],[C.int .i64 d],[C.int .i64 e]]=C.row 1 (aF .i64 [a,b,c,d,e]):=rfl
theorem QI (a b c d e f g:Int):C.row 1 [[C.int .i64 a],[C.int .i64 b],[C.int .i64 c],[C.int .i64 d],[C.int .i64 e],[C.int .i64 f],[C.int .i64 g]]=C.row 1 (aF .i64 [a,b,c,d,e,f,g]):=rfl
def spLeaf :Spec:=Spec.ofR (ι:=(List Int) × Int) (κ:=Int × Int × ByteArray × (List ByteArray) × (List T) × Int) [true] (fun i=>[.ref (rdC i.1 i.2)]) (fun i=>byt i.1/\0<=i.2/\i.2<=1099511627776-20) (fun i k=>drT 1 (.mk k.1 k.2.1 k.2.2.1 k.2.2.2.1 k.2.2.2.2.1)/\i.2<=k.2.2.2.2.2/\k.2.2.2.2.2<=i.2+20) (fun i k=>[.ag [.c (.int .i64 k.1),.c (.int .i64 k.2.1),.c (.str k.2.2.1),.o 1 (aa k.2.2.2.1),.c (.row 5 (ai k.2.2.2.2.1))]]) (fun i k=>[.ref (rdC i.1 k.2.2.2.2.2)])
theorem vY:∀ i j:(List Int) × Int,(fun (i:(List Int) × Int)=>([.ref (rdC i.1 i.2)]:List AV)) i=(fun (i:(List Int) × Int)=>([.ref (rdC i.1 i.2)]:List AV)) j->i=j:=by
 rintro⟨bs,p⟩ ⟨bs',p'⟩ h
 simp only[Prod.mk.injEq]
 simpa [ap,T.enc_eq,aq,F.enc_eq,ar,Tk.enc_eq,au,Gn.enc_eq,ao,dn,and_assoc] using h
theorem vZ :(spLeaf).md=[true]:=rfl
theorem wb  (bs:List Int) (p:Int):(spLeaf).pre [.ref (rdC bs p)]=(byt bs/\0<=p/\p<=1099511627776-20):=Spec.ofR_pre vY (bs,p)
theorem QJ  (bs:List Int) (p:Int):(spLeaf).ne [.ref (rdC bs p)]=(∃ k:Int × Int × ByteArray × (List ByteArray) × (List T) × Int,drT 1 (.mk k.1 k.2.1 k.2.2.1 k.2.2.2.1 k.2.2.2.2.1)/\p<=k.2.2.2.2.2/\k.2.2.2.2.2<=p+20):=Spec.ofR_ne vY (bs,p)
theorem mC  (bs:List Int) (p:Int) (F:List AV->List AV->Prop):(spLeaf).all [.ref (rdC bs p)] F=(∀ (k:Int) (n:Int) (s:ByteArray) (ks:List ByteArray) (l:List T) (q:Int),(drT 1 (.mk k n s ks l)/\p<=q/\q<=p+20)->F [.ag [.c (.int .i64 k),.c (.int .i64 n),.c (.str s),.o 1 (aa ks),.c (.row 5 (ai l))]] [.ref (rdC bs q)]):=by
 refine (Spec.ofR_all vY (bs,p) F).trans (propext ⟨fun h k n s ks l q hr=>h (k,n,s,ks,l,q) hr,fun h k hr=>?_⟩)
 exact h k.1 k.2.1 k.2.2.1 k.2.2.2.1 k.2.2.2.2.1 k.2.2.2.2.2 hr
theorem wc (bs:List Int) (p:Int):spLeaf.ne [.ref (rdC bs p)]=True:=by
 rw[QJ]
 exact eq_true ⟨(0,0,⟨#[]⟩,[],[],p),lD (k:=0) (n:=0) (s:=⟨#[]⟩) (by unfold i64;omega) (by unfold i64;omega) (by decide),Int.le_refl _,by show p<=p+20;omega⟩
theorem QK {bs:List Int} {p q k n:Int} {s:ByteArray} (hk:i64 k) (hn:i64 n) (hs:(s.size:Int)<=1000) (hq:p<=q/\q<=p+20):∃ i:Int × Int × ByteArray × List ByteArray × List T × Int,
 (drT 1 (T.mk i.1 i.2.1 i.2.2.1 i.2.2.2.1 i.2.2.2.2.1)/\p<=i.2.2.2.2.2/\i.2.2.2.2.2<=p+20)/\(k=i.1/\n=i.2.1/\s=i.2.2.1/\aa i.2.2.2.1=[]/\[]=ai i.2.2.2.2.1)/\rdC bs q=rdC bs i.2.2.2.2.2 :=
 ⟨(k,n,s,[],[],q),⟨lD hk hn hs,hq⟩,⟨rfl,rfl,rfl,rfl,rfl⟩,rfl⟩
set_option maxHeartbeats 1000000 in
theorem Ec:Sound Tryz.prog 93 spLeaf:=by
 refine ec (GOK.cons (l:=[(39,spDof),(41,spDnum)]) fx fy (GOK.cons my mA (GOK.cons mz mB GOK.nil))) Tryz.func93 (c:=Tryz.f93.body.getD .skip) rfl (n:=27) rfl QA QB (fun _=>by simp) ?_
 ·rintro⟨bs,p⟩ ⟨hb,h1,h2⟩
  change byt bs at hb
  simp only at h1 h2
  simp only[Ea,rg,go_sem,seval,Prod.fst,QH,QI,de,df,dg,↓bo,bo,kv,kw,kz,↓dS,dS,kC,kD,kE,↓dT,dT]
  repeat' (first|with_reducible assumption|with_reducible refine And.intro ?_ ?_|intro _)
  all_goals first|omega|skip
  all_goals
   refine QK ?_ ?_ ?_ (by omega)
   all_goals first|(unfold i64;omega)|decide|skip
  all_goals
   rename_i h
   simp only[List.mem_cons,List.not_mem_nil,or_false] at h
   first|(rcases h with rfl|rfl|rfl|rfl|rfl|rfl <;> decide)|(unfold i64;omega)
end Go.Proofs.Pw
namespace Go.Proofs.Pw
variable [Globs]
def wd:X:=(.seq (.reg [xS 4 (.alloc xV)] none [0,1,4]) (.seq (.seq (.reg [xM 8 1,xS 9 (.bin false .leq (.t 8) (xK 1)),xM 10 9,xH 11 10 (.mv (.t 0)),xH 12 10 (.callr 38 [(.t 11),(xK 4)]),xH 13 10 (.bin false .eql (.t 12) (xK 0)),xS 14 (.pick (.t 10) (.k (.c (.bool true))) (.t 13))] none [0,1,4,14]) (.cond (.t 14) (.seq (.reg [xM 15 0,xS 16 (.callr 93 [(.t 15)]),xW 4 16 5] none [4]) .ret) .skip)) (.seq (.reg [xS 17 (.build xV [(0,(xK 5),none)]),xS 5 (.alloc xV),xW 5 17 5] none [0,1,4,5]) (.seq (.seq (.reg [xM 18 0,xS 19 (.callr 38 [(.t 18),(xK 2)]),xS 20 (.bin false .eql (.t 19) (xK 0))] none [0,1,4,5,20]) (.cond (.t 20) (.seq (.reg [xS 21 (.fa (.t 5) 0),⟨none,none,.st (.t 21) (xK 6) none⟩] none [0,1,4,5]) (.seq (.seq (.reg [xS 6 (.mv (xK 0))] none [0,1,4,5,6]) (.block 0 (.loop (.seq (.seq (.reg [xM 22 6,xS 23 (.bin false .lss (.t 22) (xK 4))] none [0,1,4,5,6,23]) (.cond (.t 23) .skip (.exit 0))) (.seq (.block 1 (.seq (.reg [xM 26 0,xS 27 (.callr 38 [(.t 26),(xK 2)]),xS 28 (.bin false .eql (.t 27) (xK 0))] none [0,1,4,5,6,28]) (.cond (.t 28) (.seq (.reg [xS 29 (.fa (.t 5) 3),xL 30 29,xS 31 (.bsl 1 [((.k (.c (.str ⟨#[97]⟩))),none),((.k (.c (.str ⟨#[98]⟩))),none),((.k (.c (.str ⟨#[99]⟩))),none),((.k (.c (.str ⟨#[100]⟩))),none)]),xM 32 6,xS 33 (.ia (.t 31) (.t 32) 1),xL 34 33,xS 35 (.bsl 1 [((.t 34),none)]),xS 36 (.app (.t 30) (.t 35) 1 16 []),xS 37 (.fa (.t 5) 3),⟨none,none,.st (.t 37) (.t 36) none⟩] (some 7) [0,1,4,5,6]) (.mix [xS 38 (.fa (.t 5) 4),xL 39 38,xM 40 0,xM 41 1,xS 42 (.bin false .sub (.t 41) (xK 1)),xS 43 (.callr 92 [(.t 40),(.t 42)]),xS 44 (.bsl 5 [((.t 43),(some 5))])] [xS 45 (.app (.t 39) (.t 44) 5 80 []),xS 46 (.fa (.t 5) 4),⟨none,none,.st (.t 46) (.t 45) none⟩] [[],[],[],[],[],[1],[]] [0,1,4,5,6])) .skip))) (.reg [xM 24 6,xS 25 (.bin false .add (.t 24) (xK 1)),xM 6 25] none [0,1,4,5,6])))))) (.seq (.reg [xS 47 (.load (.t 5) (some 5)),xW 4 47 5] none [4]) .ret))) .skip)) (.seq (.seq (.reg [xM 48 0,xS 49 (.callr 38 [(.t 48),(xK 4)]),xM 7 49] none [0,1,4,5,7]) (.block 2 (.loop (.seq (.seq (.reg [xM 50 7,xS 51 (.bin false .gtr (.t 50) (xK 0))] none [0,1,4,5,7,51]) (.cond (.t 51) .skip (.exit 2))) (.seq (.block 3 (.mix [xS 54 (.fa (.t 5) 4),xL 55 54,xM 56 0,xM 57 1,xS 58 (.bin false .sub (.t 57) (xK 1)),xS 59 (.callr 92 [(.t 56),(.t 58)]),xS 60 (.bsl 5 [((.t 59),(some 5))])] [xS 61 (.app (.t 55) (.t 60) 5 80 []),xS 62 (.fa (.t 5) 4),⟨none,none,.st (.t 62) (.t 61) none⟩] [[],[],[],[],[],[1],[]] [0,1,4,5,7])) (.reg [xM 52 7,xS 53 (.bin false .sub (.t 52) (xK 1)),xM 7 53] none [0,1,4,5,7])))))) (.seq (.reg [xS 63 (.load (.t 5) (some 5)),xW 4 63 5] none [4]) .ret))))))
theorem QL:al Tryz.prog 64 (Tryz.f92.body.getD .skip) wd=true:=by kernel_rfl
theorem QM:am Tryz.prog Tryz.f92.results.toList [.cell 4 (some 5)]=true:=by kernel_rfl
theorem we:aw Tryz.prog 92=true:=by kernel_rfl
theorem Ee {m k n:Int} {s:ByteArray} {ks:List ByteArray} {l:List T} (hk:i64 k) (hn:i64 n) (hs:(s.size:Int)<=1000) (h1:ks.length<=6) (h2:∀ s ∈ ks,(s.size:Int)<=1000) (h3:l.length<=6) (h4:bn 1000 l) (h5:1+av l<=m):drT m (.mk k n s ks l) :=
 ⟨⟨hk,hn,hs,⟨by unfold ab;omega,h2⟩,by unfold ab;omega,h4⟩,h5,h3,h1⟩
def nb:Nat->Int
 | 0=>1
 | 1=>1
 | k+2=>1+4*nb (k+1)
theorem mD:∀ k,1<=nb k
 | 0=>by simp[nb]
 | 1=>by simp[nb]
 | k+2=>by have:=mD (k+1);simp only[nb];omega
theorem Ef:∀ k,nb k<=vb k
 | 0=>by simp[nb,vb]
 | 1=>by simp[nb,vb]
 | k+2=>by have:=Ef (k+1);have:=mD (k+1);have:=lE (k+1);simp only[nb];rw[vb];omega
def ib (m:Nat):Spec:=Spec.ofR (ι:=(List Int) × Int × Int) (κ:=Int × Int × ByteArray × (List ByteArray) × (List T) × Int) [true,false] (fun i=>[.ref (rdC i.1 i.2.1),.d (.one (.int .i64 i.2.2))]) (fun i=>(byt i.1/\0<=i.2.1/\i.2.1+vb i.2.2.toNat<=1099511627776/\-1<=i.2.2/\i.2.2<=5)/\i.2.2.toNat < m) (fun i k=>drT (nb i.2.2.toNat) (.mk k.1 k.2.1 k.2.2.1 k.2.2.2.1 k.2.2.2.2.1)/\i.2.1<=k.2.2.2.2.2/\k.2.2.2.2.2<=i.2.1+vb i.2.2.toNat) (fun i k=>[.ag [.c (.int .i64 k.1),.c (.int .i64 k.2.1),.c (.str k.2.2.1),.o 1 (aa k.2.2.2.1),.c (.row 5 (ai k.2.2.2.2.1))]]) (fun i k=>[.ref (rdC i.1 k.2.2.2.2.2),.gone])
theorem wg:∀ i j:(List Int) × Int × Int,(fun (i:(List Int) × Int × Int)=>([.ref (rdC i.1 i.2.1),.d (.one (.int .i64 i.2.2))]:List AV)) i=(fun (i:(List Int) × Int × Int)=>([.ref (rdC i.1 i.2.1),.d (.one (.int .i64 i.2.2))]:List AV)) j->i=j:=by
 rintro⟨bs,p,d⟩ ⟨bs',p',d'⟩ h
 simp only[Prod.mk.injEq]
 simpa [ap,T.enc_eq,aq,F.enc_eq,ar,Tk.enc_eq,au,Gn.enc_eq,ao,dn,and_assoc] using h
theorem Eg (m:Nat):(ib m).md=[true,false]:=rfl
theorem Eh (m:Nat) (bs:List Int) (p:Int) (d:Int):(ib m).pre [.ref (rdC bs p),.d (.one (.int .i64 d))]=((byt bs/\0<=p/\p+vb d.toNat<=1099511627776/\-1<=d/\d<=5)/\d.toNat < m):=Spec.ofR_pre wg (bs,p,d)
theorem QN (m:Nat) (bs:List Int) (p:Int) (d:Int):(ib m).ne [.ref (rdC bs p),.d (.one (.int .i64 d))]=(∃ k:Int × Int × ByteArray × (List ByteArray) × (List T) × Int,drT (nb d.toNat) (.mk k.1 k.2.1 k.2.2.1 k.2.2.2.1 k.2.2.2.2.1)/\p<=k.2.2.2.2.2/\k.2.2.2.2.2<=p+vb d.toNat):=Spec.ofR_ne wg (bs,p,d)
theorem qT (m:Nat) (bs:List Int) (p:Int) (d:Int) (F:List AV->List AV->Prop):(ib m).all [.ref (rdC bs p),.d (.one (.int .i64 d))] F=(∀ (k:Int) (n:Int) (s:ByteArray) (ks:List ByteArray) (l:List T) (q:Int),(drT (nb d.toNat) (.mk k n s ks l)/\p<=q/\q<=p+vb d.toNat)->F [.ag [.c (.int .i64 k),.c (.int .i64 n),.c (.str s),.o 1 (aa ks),.c (.row 5 (ai l))]] [.ref (rdC bs q),.gone]):=by
 refine (Spec.ofR_all wg (bs,p,d) F).trans (propext ⟨fun h k n s ks l q hr=>h (k,n,s,ks,l,q) hr,fun h k hr=>?_⟩)
 exact h k.1 k.2.1 k.2.2.1 k.2.2.2.1 k.2.2.2.2.1 k.2.2.2.2.2 hr
theorem Ei (m:Nat) (bs:List Int) (p d:Int):(ib m).ne [.ref (rdC bs p),.d (.one (.int .i64 d))]=True:=by
 rw[QN]
 have:=lE d.toNat
 have:=mD d.toNat
 exact eq_true ⟨(0,0,⟨#[]⟩,[],[],p),(lD (k:=0) (n:=0) (s:=⟨#[]⟩) (by unfold i64;omega) (by unfold i64;omega) (by decide)).mono (by omega),Int.le_refl _,by show p<=p+vb d.toNat;omega⟩
set_option maxHeartbeats 4000000 in
theorem QO (m:Nat) (hS:Sound Tryz.prog 92 (ib m)):Sound Tryz.prog 92 (ib (m+1)):=by
 have hW:Sound Tryz.prog 92 (ib m).weak:=hS.weak (by
  rintro ds r o _ ⟨i,k,_,_,rfl,_⟩ x hx
  rw[List.mem_singleton] at hx;subst hx
  simp[AV.dt,Pt.dt,dV,iL])
 refine ec (GOK.cons (l:=[(93,spLeaf),(92,(ib m).weak)]) fx fy (GOK.cons Eb Ec (GOK.cons we hW GOK.nil))) Tryz.func92 (c:=Tryz.f92.body.getD .skip) rfl (n:=64) rfl QL QM (fun _=>by simp) ?_
 ·rintro⟨bs,p,d⟩ ⟨⟨hb,h1,h2,h3,h4⟩,h5⟩
  change byt bs at hb
  simp only at h1 h2 h3 h4 h5
  by_cases c1:d<=1
  ·have a1:(d<=1)=True:=eq_true c1
   have hv:=lE d.toNat
   have hn:=mD d.toNat
   simp only[wd,rg,go_sem,seval,Prod.fst,a1,de,df,dg,↓bo,bo,vZ,wb,wc,↓mC,mC]
   repeat' (first|with_reducible assumption|with_reducible refine And.intro ?_ ?_|intro _)
   all_goals first|omega|skip
   rename_i k n s ks l q hq
   exact⟨(k,n,s,ks,l,q),⟨hq.1.mono (by omega),hq.2.1,by show q<=p+vb d.toNat;omega⟩,⟨rfl,rfl,rfl,rfl,rfl⟩,rfl⟩
  ·have a1:(d<=1)=False:=eq_false c1
   obtain⟨e,he⟩:∃ e,d.toNat=e+1:=⟨d.toNat-1,by omega⟩
   have he':(d-1).toNat=e:=by omega
   rw[he] at h2 h5
   have hv:=lE e
   have hv':vb (e+1)=20+5*vb e:=rfl
   have hn:=mD e
   have hn':nb (e+1)=1+4*nb e:=by
    obtain⟨e',rfl⟩:∃ e',e=e'+1:=⟨e-1,by omega⟩
    rfl
   rw[hv'] at h2
   simp only[wd,rg,go_sem,seval,Prod.fst,a1,de,df,dg,↓bo,bo,vZ,wb,wc,↓mC,mC]
   repeat' (first|with_reducible assumption|with_reducible refine And.intro ?_ ?_|intro _)
   all_goals first|omega|skip
   ·rename_i k n s ks l q hq
    exact⟨(k,n,s,ks,l,q),⟨hq.1.mono (by rw[he];omega),by show p<=q;omega,by show q<=p+vb d.toNat;rw[he];omega⟩,⟨rfl,rfl,rfl,rfl,rfl⟩,rfl⟩
   ·refine aZ (ι:=Nat × Int × List ByteArray × List T) (fun i=>4-i.1)
     (fun i=>i.1<=4/\p+2<=i.2.1/\i.2.1<=p+2+i.1+i.1*vb e/\i.2.2.1.length<=i.1/\(∀ s ∈ i.2.2.1,(s.size:Int)<=1000)/\i.2.2.2.length<=i.1/\bn 1000 i.2.2.2/\av i.2.2.2<=i.1*nb e)
     (fun i=>⟨[(0,.q (.box 64 0)),(1,.q (.c (.int .i64 d))),(4,.q (.box 4 0)),(5,.q (.box 5 0)),(6,.q (.c (.int .i64 i.1)))],
      [(64,(rdC bs i.2.1).map .c),(4,[.c (.int .i64 0),.c (.int .i64 0),.c (.str ⟨#[]⟩),.z 1,.z 5]),(5,[.c (.int .i64 6),.c (.int .i64 0),.c (.str ⟨#[]⟩),.own 36,.own 45])],
      [(36,1,aa i.2.2.1),(45,5,ai i.2.2.2)]⟩) (0,p+1+1,[],[]) ⟨by simp,by show p+2<=p+1+1;omega,by show p+1+1<=p+2+((0:Nat):Int)+((0:Nat):Int)*vb e;simp;omega,by simp,by simp,by simp,trivial,by simp[av]⟩ ?_ ?_
    ·refine (Le.ownB (b:=5) (j:=3) (d:=36) (sz:=1) (qs:=[.c (.int .i64 6),.c (.int .i64 0),.c (.str ⟨#[]⟩),.z 1,.z 5]) (by decide) (by simp) rfl (by simp[Q.killO,rdC]) (by simp[PV.map,Q.killO])).trans
      ((Le.ownB (b:=5) (j:=4) (d:=45) (sz:=5) (qs:=[.c (.int .i64 6),.c (.int .i64 0),.c (.str ⟨#[]⟩),.own 36,.z 5]) (by decide) (by simp[upd]) rfl (by simp[upd,del,Q.killO,rdC]) (by simp[PV.map,Q.killO])).trans (Le.of_eq (by simp[upd,del,aa,ai])))
    ·rintro⟨i,q,ks,l⟩ ⟨g1,g2,g3,g4,g5,g6,g7,g8⟩
     simp only at g1 g2 g3 g4 g5 g6 g7 g8
     rcases Nat.lt_or_ge i 4 with hlt|hge
     ·have b1:((i:Int) < 4)=True:=eq_true (by omega)
      have b2:(i:Int)*vb e<=3*vb e:=Int.mul_le_mul_of_nonneg_right (by omega) (by omega)
      have c2:(i:Int)*nb e<=3*nb e:=Int.mul_le_mul_of_nonneg_right (by omega) (by omega)
      have b3:((i+1:Nat):Int)*vb e=i*vb e+vb e:=by rw[Int.natCast_add,Int.add_mul];simp
      have c3:((i+1:Nat):Int)*nb e=i*nb e+nb e:=by rw[Int.natCast_add,Int.add_mul];simp
      obtain⟨x,b4,b5⟩:∃ x,(aa [⟨#[97]⟩,⟨#[98]⟩,⟨#[99]⟩,⟨#[100]⟩]).getD i []=[C.str x]/\(x.size:Int)<=1000:=by
       rcases i with _|_|_|_|i
       ·exact⟨_,rfl,by decide⟩
       ·exact⟨_,rfl,by decide⟩
       ·exact⟨_,rfl,by decide⟩
       ·exact⟨_,rfl,by decide⟩
       ·omega
      simp only[rg,go_sem,seval,Prod.fst,b1,b4,QG,bw,bU,de,df,dg,↓bo,bo,tF,oc,tH,↓tG,AV.weak,Pt.toC,Eg,Eh,Ei,↓qT,qT,he']
      repeat' (first|with_reducible assumption|with_reducible refine And.intro ?_ ?_|intro _)
      all_goals first|omega|skip
      ·rename_i k n s ks' l' q' hd _ _
       refine⟨(i+1,q',ks++[x],l++[.mk k n s ks' l']),⟨by show i+1<=4;omega,by show p+2<=q';omega,by show q'<=p+2+((i+1:Nat):Int)+((i+1:Nat):Int)*vb e;omega,by simp;omega,?_,by simp;omega,Ay g7 ⟨hd.1.1,trivial⟩,?_⟩,by show 4-(i+1) < 4-i;omega,?_⟩
       ·intro y hy
        rcases List.mem_append.1 hy with hy|hy
        ·exact g5 y hy
        ·simp at hy;rw[hy];exact b5
       ·show av (l++_)<=((i+1:Nat):Int)*nb e
        rw[Az]
        have:=hd.1.2
        simp only[av];omega
       ·exact Le.of_eq (by simp[nZ,lF,aa,ai,T.enc])
      ·refine⟨(i+1,q+1,ks,l),⟨by show i+1<=4;omega,by show p+2<=q+1;omega,by show q+1<=p+2+((i+1:Nat):Int)+((i+1:Nat):Int)*vb e;omega,by show ks.length<=i+1;omega,g5,by show l.length<=i+1;omega,g7,by show av l<=((i+1:Nat):Int)*nb e;omega⟩,by show 4-(i+1) < 4-i;omega,Le.of_eq (by simp)⟩
     ·have b1:((i:Int) < 4)=False:=eq_false (by omega)
      have b2:(i:Int)*vb e<=4*vb e:=Int.mul_le_mul_of_nonneg_right (by omega) (by omega)
      have c2:(i:Int)*nb e<=4*nb e:=Int.mul_le_mul_of_nonneg_right (by omega) (by omega)
      simp only[rg,go_sem,seval,Prod.fst,b1]
      repeat' (first|with_reducible assumption|with_reducible refine And.intro ?_ ?_|intro _)
      all_goals first|omega|skip
      have hh:drT (nb d.toNat) (.mk 6 0 ⟨#[]⟩ ks l):=Ee (by unfold i64;omega) (by unfold i64;omega) (by decide) (by omega) g5 (by omega) g7 (by rw[he];omega)
      exact⟨(6,0,⟨#[]⟩,ks,l,q),⟨hh,by show p<=q;omega,by show q<=p+vb d.toNat;rw[he];omega⟩,⟨rfl,rfl,rfl,rfl,rfl⟩,rfl⟩
   ·rename_i r hr
    refine aZ (ι:=Nat × Nat × Int × List T) (fun i=>i.1)
     (fun i=>i.1+i.2.1<=3/\p+3<=i.2.2.1/\i.2.2.1<=p+3+i.2.1*vb e/\i.2.2.2.length<=i.2.1/\bn 1000 i.2.2.2/\av i.2.2.2<=i.2.1*nb e)
     (fun i=>⟨[(0,.q (.box 64 0)),(1,.q (.c (.int .i64 d))),(4,.q (.box 4 0)),(5,.q (.box 5 0)),(7,.q (.c (.int .i64 i.1)))],
      [(64,(rdC bs i.2.2.1).map .c),(4,[.c (.int .i64 0),.c (.int .i64 0),.c (.str ⟨#[]⟩),.z 1,.z 5]),(5,[.c (.int .i64 5),.c (.int .i64 0),.c (.str ⟨#[]⟩),.z 1,.own 61])],
      [(61,5,ai i.2.2.2)]⟩) (r.toNat,0,p+1+1+1,[]) ⟨by show r.toNat+0<=3;omega,by show p+3<=p+1+1+1;omega,by show p+1+1+1<=p+3+((0:Nat):Int)*vb e;simp;omega,by simp,trivial,by simp[av]⟩ ?_ ?_
    ·refine (Le.ownB (b:=5) (j:=4) (d:=61) (sz:=5) (qs:=[.c (.int .i64 5),.c (.int .i64 0),.c (.str ⟨#[]⟩),.z 1,.z 5]) (by decide) (by simp) rfl (by simp[Q.killO,rdC]) (by simp[PV.map,Q.killO])).trans (Le.of_eq ?_)
     have:((r.toNat:Nat):Int)=r:=by omega
     simp[upd,del,ai,this]
    ·rintro⟨i,j,q,l⟩ ⟨g1,g2,g3,g4,g5,g6⟩
     simp only at g1 g2 g3 g4 g5 g6
     rcases Nat.eq_zero_or_pos i with h0|hpos
     ·have b1:((i:Int) > 0)=False:=eq_false (by omega)
      have b2:(j:Int)*vb e<=3*vb e:=Int.mul_le_mul_of_nonneg_right (by omega) (by omega)
      have c2:(j:Int)*nb e<=3*nb e:=Int.mul_le_mul_of_nonneg_right (by omega) (by omega)
      have b1':((0:Int) < i)=False:=eq_false (by omega)
      simp only[rg,go_sem,seval,Prod.fst,b1,b1']
      repeat' (first|with_reducible assumption|with_reducible refine And.intro ?_ ?_|intro _)
      all_goals first|omega|skip
      have hh:drT (nb d.toNat) (.mk 5 0 ⟨#[]⟩ [] l):=Ee (by unfold i64;omega) (by unfold i64;omega) (by decide) (by simp) (by simp) (by omega) g5 (by rw[he];omega)
      exact⟨(5,0,⟨#[]⟩,[],l,q),⟨hh,by show p<=q;omega,by show q<=p+vb d.toNat;rw[he];omega⟩,⟨rfl,rfl,rfl,rfl,rfl⟩,rfl⟩
     ·have b1:((0:Int) < i)=True:=eq_true (by omega)
      have b2:(j:Int)*vb e<=2*vb e:=Int.mul_le_mul_of_nonneg_right (by omega) (by omega)
      have c2:(j:Int)*nb e<=2*nb e:=Int.mul_le_mul_of_nonneg_right (by omega) (by omega)
      have b3:((j+1:Nat):Int)*vb e=j*vb e+vb e:=by rw[Int.natCast_add,Int.add_mul];simp
      have c3:((j+1:Nat):Int)*nb e=j*nb e+nb e:=by rw[Int.natCast_add,Int.add_mul];simp
      simp only[rg,go_sem,seval,Prod.fst,b1,bU,de,df,dg,↓bo,bo,tF,oc,tH,↓tG,AV.weak,Pt.toC,Eg,Eh,Ei,↓qT,qT,he']
      repeat' (first|with_reducible assumption|with_reducible refine And.intro ?_ ?_|intro _)
      all_goals first|omega|skip
      ·rename_i k n s ks' l' q' hd _ _
       refine⟨(i-1,j+1,q',l++[.mk k n s ks' l']),⟨by show i-1+(j+1)<=3;omega,by show p+3<=q';omega,by show q'<=p+3+((j+1:Nat):Int)*vb e;omega,by simp;omega,Ay g5 ⟨hd.1.1,trivial⟩,?_⟩,by show i-1 < i;omega,?_⟩
       ·show av (l++_)<=((j+1:Nat):Int)*nb e
        rw[Az]
        have:=hd.1.2
        simp only[av];omega
       ·have:((i-1:Nat):Int)=i-1:=by omega
        exact Le.of_eq (by simp[lF,ai,T.enc,this])
def spValF :Spec:=Spec.ofR (ι:=(List Int) × Int × Int) (κ:=Int × Int × ByteArray × (List ByteArray) × (List T) × Int) [true,false] (fun i=>[.ref (rdC i.1 i.2.1),.d (.one (.int .i64 i.2.2))]) (fun i=>byt i.1/\0<=i.2.1/\i.2.1+vb i.2.2.toNat<=1099511627776/\-1<=i.2.2/\i.2.2<=5) (fun i k=>drT (nb i.2.2.toNat) (.mk k.1 k.2.1 k.2.2.1 k.2.2.2.1 k.2.2.2.2.1)/\i.2.1<=k.2.2.2.2.2/\k.2.2.2.2.2<=i.2.1+vb i.2.2.toNat) (fun i k=>[.ag [.c (.int .i64 k.1),.c (.int .i64 k.2.1),.c (.str k.2.2.1),.o 1 (aa k.2.2.2.1),.c (.row 5 (ai k.2.2.2.2.1))]]) (fun i k=>[.ref (rdC i.1 k.2.2.2.2.2),.gone])
theorem wh:∀ i j:(List Int) × Int × Int,(fun (i:(List Int) × Int × Int)=>([.ref (rdC i.1 i.2.1),.d (.one (.int .i64 i.2.2))]:List AV)) i=(fun (i:(List Int) × Int × Int)=>([.ref (rdC i.1 i.2.1),.d (.one (.int .i64 i.2.2))]:List AV)) j->i=j:=by
 rintro⟨bs,p,d⟩ ⟨bs',p',d'⟩ h
 simp only[Prod.mk.injEq]
 simpa [ap,T.enc_eq,aq,F.enc_eq,ar,Tk.enc_eq,au,Gn.enc_eq,ao,dn,and_assoc] using h
theorem Ej :(spValF).md=[true,false]:=rfl
theorem Ek  (bs:List Int) (p:Int) (d:Int):(spValF).pre [.ref (rdC bs p),.d (.one (.int .i64 d))]=(byt bs/\0<=p/\p+vb d.toNat<=1099511627776/\-1<=d/\d<=5):=Spec.ofR_pre wh (bs,p,d)
theorem QP  (bs:List Int) (p:Int) (d:Int):(spValF).ne [.ref (rdC bs p),.d (.one (.int .i64 d))]=(∃ k:Int × Int × ByteArray × (List ByteArray) × (List T) × Int,drT (nb d.toNat) (.mk k.1 k.2.1 k.2.2.1 k.2.2.2.1 k.2.2.2.2.1)/\p<=k.2.2.2.2.2/\k.2.2.2.2.2<=p+vb d.toNat):=Spec.ofR_ne wh (bs,p,d)
theorem qU  (bs:List Int) (p:Int) (d:Int) (F:List AV->List AV->Prop):(spValF).all [.ref (rdC bs p),.d (.one (.int .i64 d))] F=(∀ (k:Int) (n:Int) (s:ByteArray) (ks:List ByteArray) (l:List T) (q:Int),(drT (nb d.toNat) (.mk k n s ks l)/\p<=q/\q<=p+vb d.toNat)->F [.ag [.c (.int .i64 k),.c (.int .i64 n),.c (.str s),.o 1 (aa ks),.c (.row 5 (ai l))]] [.ref (rdC bs q),.gone]):=by
 refine (Spec.ofR_all wh (bs,p,d) F).trans (propext ⟨fun h k n s ks l q hr=>h (k,n,s,ks,l,q) hr,fun h k hr=>?_⟩)
 exact h k.1 k.2.1 k.2.2.1 k.2.2.2.1 k.2.2.2.2.1 k.2.2.2.2.2 hr
theorem El (bs:List Int) (p d:Int):spValF.ne [.ref (rdC bs p),.d (.one (.int .i64 d))]=True:=by
 rw[QP]
 have:=lE d.toNat
 have:=mD d.toNat
 exact eq_true ⟨(0,0,⟨#[]⟩,[],[],p),(lD (k:=0) (n:=0) (s:=⟨#[]⟩) (by unfold i64;omega) (by unfold i64;omega) (by decide)).mono (by omega),Int.le_refl _,by show p<=p+vb d.toNat;omega⟩
theorem l1Val_all:Sound Tryz.prog 92 spValF:=Sound.allR (fun i=>i.2.2.toNat) (fun k=>by
 induction k with
 | zero=>exact Sound.noneR
 | succ k ih=>exact QO k ih)
def Em:X:=(.seq (.reg [xS 2 (.alloc xV)] none [0,2]) (.seq (.reg [xM 4 0,xM 5 0,xS 6 (.callr 38 [(.t 5),(xK 4)]),xS 7 (.bin false .add (xK 1) (.t 6)),xS 8 (.callr 92 [(.t 4),(.t 7)]),xS 3 (.alloc xV),xW 3 8 5] none [0,2,3]) (.seq (.seq (.reg [xS 9 (.load (.t 3) (some 5)),xS 10 (.callb 49 [(.t 9)]),xS 11 (.not (.t 10))] none [0,2,3,11]) (.cond (.t 11) (.seq (.reg [xM 12 0,xS 13 (.callr 93 [(.t 12)]),xW 2 13 5] none [2]) .ret) .skip)) (.seq (.reg [xS 14 (.load (.t 3) (some 5)),xW 2 14 5] none [2]) .ret))))
theorem QQ:al Tryz.prog 15 (Tryz.f71.body.getD .skip) Em=true:=by kernel_rfl
theorem QR:am Tryz.prog Tryz.f71.results.toList [.cell 2 (some 5)]=true:=by kernel_rfl
theorem QS:aw Tryz.prog 71=true:=by kernel_rfl
theorem En {d:Nat} (h:d<=4):vb d<=15620:=by
 rcases d with _|_|_|_|_|d
 ·decide
 ·decide
 ·decide
 ·decide
 ·decide
 ·omega
theorem QT:∀ ds r o,spValF.pre ds->spValF.may ds r o->∀ x ∈ r,x.dt:=by
 rintro ds r o _ ⟨i,k,_,_,rfl,_⟩ x hx
 rw[List.mem_singleton] at hx;subst hx
 simp[AV.dt,Pt.dt,dV,iL]
def spSome :Spec:=Spec.ofR (ι:=(List Int) × Int) (κ:=Int × Int × ByteArray × (List ByteArray) × (List T) × Int) [true] (fun i=>[.ref (rdC i.1 i.2)]) (fun i=>byt i.1/\0<=i.2/\i.2+16000<=1099511627776) (fun i k=>drT 15620 (.mk k.1 k.2.1 k.2.2.1 k.2.2.2.1 k.2.2.2.2.1)/\i.2<=k.2.2.2.2.2/\k.2.2.2.2.2<=i.2+16000) (fun i k=>[.ag [.c (.int .i64 k.1),.c (.int .i64 k.2.1),.c (.str k.2.2.1),.o 1 (aa k.2.2.2.1),.c (.row 5 (ai k.2.2.2.2.1))]]) (fun i k=>[.ref (rdC i.1 k.2.2.2.2.2)])
theorem wi:∀ i j:(List Int) × Int,(fun (i:(List Int) × Int)=>([.ref (rdC i.1 i.2)]:List AV)) i=(fun (i:(List Int) × Int)=>([.ref (rdC i.1 i.2)]:List AV)) j->i=j:=by
 rintro⟨bs,p⟩ ⟨bs',p'⟩ h
 simp only[Prod.mk.injEq]
 simpa [ap,T.enc_eq,aq,F.enc_eq,ar,Tk.enc_eq,au,Gn.enc_eq,ao,dn,and_assoc] using h
theorem QU :(spSome).md=[true]:=rfl
theorem QV  (bs:List Int) (p:Int):(spSome).pre [.ref (rdC bs p)]=(byt bs/\0<=p/\p+16000<=1099511627776):=Spec.ofR_pre wi (bs,p)
theorem QW  (bs:List Int) (p:Int):(spSome).ne [.ref (rdC bs p)]=(∃ k:Int × Int × ByteArray × (List ByteArray) × (List T) × Int,drT 15620 (.mk k.1 k.2.1 k.2.2.1 k.2.2.2.1 k.2.2.2.2.1)/\p<=k.2.2.2.2.2/\k.2.2.2.2.2<=p+16000):=Spec.ofR_ne wi (bs,p)
theorem Eo  (bs:List Int) (p:Int) (F:List AV->List AV->Prop):(spSome).all [.ref (rdC bs p)] F=(∀ (k:Int) (n:Int) (s:ByteArray) (ks:List ByteArray) (l:List T) (q:Int),(drT 15620 (.mk k n s ks l)/\p<=q/\q<=p+16000)->F [.ag [.c (.int .i64 k),.c (.int .i64 n),.c (.str s),.o 1 (aa ks),.c (.row 5 (ai l))]] [.ref (rdC bs q)]):=by
 refine (Spec.ofR_all wi (bs,p) F).trans (propext ⟨fun h k n s ks l q hr=>h (k,n,s,ks,l,q) hr,fun h k hr=>?_⟩)
 exact h k.1 k.2.1 k.2.2.1 k.2.2.2.1 k.2.2.2.2.1 k.2.2.2.2.2 hr
theorem QX (bs:List Int) (p:Int):spSome.ne [.ref (rdC bs p)]=True:=by
 rw[QW]
 exact eq_true ⟨(0,0,⟨#[]⟩,[],[],p),(lD (k:=0) (n:=0) (s:=⟨#[]⟩) (by unfold i64;omega) (by unfold i64;omega) (by decide)).mono (by omega),Int.le_refl _,by show p<=p+16000;omega⟩
theorem QY (k n:Int) (s:ByteArray) (ks:List ByteArray) (l:List T):DV.agg [C.int .i64 k,C.int .i64 n,C.str s,C.row 1 (aa ks),C.row 5 (ai l)]=DV.agg (T.mk k n s ks l).enc:=rfl
set_option maxHeartbeats 4000000 in
theorem QZ:Sound Tryz.prog 71 spSome:=by
 refine ec (GOK.cons (l:=[(93,spLeaf),(92,spValF),(49,iQ)]) fx fy (GOK.cons Eb Ec (GOK.cons we l1Val_all (GOK.cons AH AN GOK.nil)))) Tryz.func71 (c:=Tryz.f71.body.getD .skip) rfl (n:=15) rfl QQ QR (fun _=>by simp) ?_
 ·rintro⟨bs,p⟩ ⟨hb,h1,h2⟩
  change byt bs at hb
  simp only at h1 h2
  have hl:∀ m:Int,(0<=m/\m < 4)->vb (1+m).toNat<=15620/\nb (1+m).toNat<=15620:=fun m hm=>⟨En (by omega),Int.le_trans (Ef _) (En (by omega))⟩
  simp only[Em,rg,go_sem,seval,Prod.fst,de,df,dg,↓bo,bo,vZ,wb,wc,↓mC,mC,Ej,Ek,El,↓qU,qU,AI,AJ,AK,AL,AM,QY]
  repeat' (first|with_reducible assumption|with_reducible refine And.intro ?_ ?_|intro _)
  all_goals first|omega|skip
  all_goals
   have hl':=hl _ (by assumption)
   clear hl
   first|omega|exact (‹drT _ _/\_›).1.fit|skip
  ·have:=(‹drT _ _/\_›).1.2.1
   omega
  ·rename_i k n s ks l q hd
   exact⟨(k,n,s,ks,l,q),⟨hd.1.mono (by omega),by show p<=q;omega,by show q<=p+16000;omega⟩,⟨rfl,rfl,rfl,rfl,rfl⟩,rfl⟩
  ·rename_i k n s ks l q hd _ _
   exact⟨(k,n,s,ks,l,q),⟨hd.1.mono (by omega),by show p<=q;omega,by show q<=p+16000;omega⟩,⟨rfl,rfl,rfl,rfl,rfl⟩,rfl⟩
end Go.Proofs.Pw
