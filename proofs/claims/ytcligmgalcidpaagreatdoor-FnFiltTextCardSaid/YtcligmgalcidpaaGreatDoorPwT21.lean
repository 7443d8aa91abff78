/- What is a filter that is ok: the program's functions. -/
import Derived.Test.YtcligmgalcidpaaGreatDoorPwT10
import Derived.Test.YtcligmgalcidpaaGreatDoorPwT18
import Derived.Test.YtcligmgalcidpaaGreatDoorPwT17
import Derived.Test.YtcligmgalcidpaaGreatDoorPwT20
import Derived.Test.YtcligmgalcidpaaGreatDoorPwT19
import Derived.Lib.SplitLaws
set_option linter.unusedSimpArgs false
set_option linter.unusedVariables false
set_option linter.unusedSectionVars false
set_option maxRecDepth 20000
namespace Go.Proofs.Pw
variable [Globs]
def rq:X:=(.seq (.reg [xS 1 (.box (.t 0) (some 9)),xS 2 (.mv (.k (.c (.bool false))))] none [1]) (.seq (.seq (.reg [xS 3 (.fa (.t 1) 0),xL 4 3] none [1,4]) (.block 0 (.seq (.seq (.reg [xS 6 (.bin false .eql (.t 4) (xK 1)),xM 5 6] none [1,4,5]) (.cond (.t 5) .skip (.seq (.reg [xS 7 (.bin false .eql (.t 4) (xK 3)),xM 5 7] none [1,4,5]) (.cond (.t 5) .skip (.seq (.reg [xS 8 (.bin false .eql (.t 4) (xK 4)),xM 5 8] none [1,4,5]) (.cond (.t 5) .skip (.seq (.reg [xS 9 (.bin false .eql (.t 4) (xK 5)),xM 5 9] none [1,4,5]) (.cond (.t 5) .skip (.reg [xS 10 (.bin false .eql (.t 4) (xK 18)),xM 5 10] none [1,4,5]))))))))) (.cond (.t 5) (.seq (.reg [xS 2 (.mv (.k (.c (.bool true))))] none [2]) .ret) (.seq (.seq (.reg [xS 12 (.bin false .eql (.t 4) (xK 6)),xM 11 12] none [1,4,11]) (.cond (.t 11) .skip (.reg [xS 13 (.bin false .eql (.t 4) (xK 7)),xM 11 13] none [1,4,11]))) (.cond (.t 11) (.seq (.reg [xS 14 (.fa (.t 1) 8),xL 15 14,xS 16 (.ia (.t 15) (xK 0) 9),xS 17 (.load (.t 16) (some 9)),xS 18 (.call 58 [(.t 17)]),xM 19 18,xG 20 19 (.fa (.t 1) 8),xG 21 19 (.load (.t 20) none),xG 22 19 (.ia (.t 21) (xK 1) 9),xG 23 19 (.load (.t 22) (some 9)),xG 24 19 (.call 58 [(.t 23)]),xS 25 (.pick (.t 19) (.t 24) (.k (.c (.bool false)))),xM 2 25] none [2]) .ret) (.seq (.reg [xS 27 (.bin false .eql (.t 4) (xK 8)),xM 26 27] none [1,26]) (.cond (.t 26) (.seq (.reg [xS 28 (.fa (.t 1) 8),xL 29 28,xS 30 (.ia (.t 29) (xK 1) 9),xS 31 (.load (.t 30) (some 9)),xS 32 (.call 58 [(.t 31)]),xM 33 32,xG 34 33 (.fa (.t 1) 8),xG 35 33 (.load (.t 34) none),xG 36 33 (.ia (.t 35) (xK 2) 9),xG 37 33 (.load (.t 36) (some 9)),xG 38 33 (.call 58 [(.t 37)]),xS 39 (.pick (.t 33) (.t 38) (.k (.c (.bool false)))),xM 2 39] none [2]) .ret) .skip)))))))) (.seq (.reg [xS 2 (.mv (.k (.c (.bool false))))] none [2]) .ret)))
theorem Tp:al Tryz.prog 40 (Tryz.f58.body.getD .skip) rq=true:=by kernel_rfl
theorem Tq:am Tryz.prog Tryz.f58.results.toList [.tmp 2]=true:=by kernel_rfl
theorem FI:aw Tryz.prog 58=true:=by kernel_rfl
def FJ:X:=(.seq (.reg [xS 3 (.box (.t 0) (some 9)),xS 6 (.mv (.k (.c (.bool false))))] none [1,2,3]) (.seq (.reg [xM 10 2,xS 11 (.nilc (.t 10)),xL 12 11,xS 13 (.bin false .sub (.t 12) (xK 1)),xS 14 (.nilc (.t 10)),⟨none,none,.st (.t 14) (.t 13) none⟩] none [1,2,3]) (.seq (.seq (.reg [xM 15 2,xS 16 (.nilc (.t 15)),xL 17 16,xS 18 (.bin false .lss (.t 17) (xK 0)),xM 19 18,xH 20 19 (.mv (.t 1)),xH 21 19 (.bin false .gtr (.t 20) (xK 7)),xS 22 (.pick (.t 19) (.k (.c (.bool true))) (.t 21)),xM 23 22,xH 24 23 (.fa (.t 3) 0),xH 25 23 (.load (.t 24) none),xH 26 23 (.call 54 [(.t 25),(xK 1),(xK 21)]),xH 27 23 (.not (.t 26)),xS 28 (.pick (.t 23) (.k (.c (.bool true))) (.t 27)),xM 29 28,xH 30 29 (.fa (.t 3) 8),xH 31 29 (.load (.t 30) none),xH 32 29 (.len (.t 31) false),xH 33 29 (.glb 1),xH 34 29 (.fa (.t 3) 0),xH 35 29 (.load (.t 34) none),xH 36 29 (.ia (.t 33) (.t 35) 1),xH 37 29 (.load (.t 36) none),xH 38 29 (.bin false .neq (.t 32) (.t 37)),xS 39 (.pick (.t 29) (.k (.c (.bool true))) (.t 38))] (some 23) [1,2,3,39]) (.cond (.t 39) (.seq (.reg [xS 6 (.mv (.k (.c (.bool false))))] none [6]) .ret) .skip)) (.seq (.reg [xS 40 (.fa (.t 3) 0),xL 41 40,xS 42 (.bin false .eql (.t 41) (xK 3)),xM 43 42,xH 44 43 (.fa (.t 3) 0),xH 45 43 (.load (.t 44) none),xH 46 43 (.bin false .eql (.t 45) (xK 21)),xS 47 (.pick (.t 43) (.k (.c (.bool true))) (.t 46)),xM 7 47] none [1,2,3,7]) (.seq (.seq (.reg [xS 48 (.fa (.t 3) 0),xL 49 48,xS 50 (.bin false .neq (.t 49) (xK 4)),xM 51 50,xG 52 51 (.fa (.t 3) 1),xG 53 51 (.load (.t 52) none),xG 54 51 (.bin false .neq (.t 53) (xK 0)),xS 55 (.pick (.t 51) (.t 54) (.k (.c (.bool false)))),xM 56 55,xH 57 56 (.mv (.t 7)),xH 58 56 (.not (.t 57)),xH 59 56 (.mv (.t 58)),xG 60 59 (.fa (.t 3) 2),xG 61 59 (.load (.t 60) none),xG 62 59 (.bin false .neq (.t 61) (.k (.c (.str ⟨#[]⟩)))),xH 63 56 (.pick (.t 59) (.t 62) (.k (.c (.bool false)))),xS 64 (.pick (.t 56) (.k (.c (.bool true))) (.t 63)),xM 65 64,xH 66 65 (.fa (.t 3) 0),xH 67 65 (.load (.t 66) none),xH 68 65 (.bin false .neq (.t 67) (xK 2)),xH 69 65 (.mv (.t 68)),xG 70 69 (.fa (.t 3) 3),xG 71 69 (.load (.t 70) (some 5)),xG 72 69 (.call 55 [(.t 71)]),xG 73 69 (.not (.t 72)),xH 74 65 (.pick (.t 69) (.t 73) (.k (.c (.bool false)))),xS 75 (.pick (.t 65) (.k (.c (.bool true))) (.t 74))] none [1,2,3,75]) (.cond (.t 75) (.seq (.reg [xS 6 (.mv (.k (.c (.bool false))))] none [6]) .ret) .skip)) (.seq (.seq (.reg [xS 76 (.fa (.t 3) 1),xL 77 76,xS 78 (.call 54 [(.t 77),(.k (.c (.int .i64 (-60)))),(xK 59)]),xS 79 (.not (.t 78)),xM 80 79,xH 81 80 (.fa (.t 3) 2),xH 82 80 (.load (.t 81) none),xH 83 80 (.call 56 [(.t 82)]),xH 84 80 (.not (.t 83)),xS 85 (.pick (.t 80) (.k (.c (.bool true))) (.t 84)),xM 86 85,xH 87 86 (.fa (.t 3) 3),xH 88 86 (.load (.t 87) (some 5)),xH 89 86 (.call 57 [(.t 88)]),xH 90 86 (.not (.t 89)),xS 91 (.pick (.t 86) (.k (.c (.bool true))) (.t 90))] none [1,2,3,91]) (.cond (.t 91) (.seq (.reg [xS 6 (.mv (.k (.c (.bool false))))] none [6]) .ret) .skip)) (.seq (.seq (.reg [xS 92 (.fa (.t 3) 8),xL 93 92,xS 94 (.len (.t 93) false),xS 95 (.mv (xK 0))] none [1,2,3,93,94,95]) (.block 0 (.loop (.seq (.reg [xS 96 (.bin false .lss (.t 95) (.t 94))] none [1,2,3,93,94,95,96]) (.seq (.cond (.t 96) .skip (.exit 0)) (.seq (.block 1 (.seq (.reg [xS 97 (.ia (.t 93) (.t 95) 9),xS 98 (.load (.t 97) (some 9)),xS 9 (.alloc xF),xW 9 98 9] none [1,2,3,9,93,94,95]) (.seq (.reg [xS 99 (.load (.t 9) (some 9)),xM 100 1,xS 101 (.bin false .add (.t 100) (xK 1)),xM 102 2,xS 103 (.call 27 [(.t 99),(.t 101),(.t 102)]),xS 104 (.not (.t 103))] none [1,2,3,93,94,95,104]) (.cond (.t 104) (.seq (.reg [xS 6 (.mv (.k (.c (.bool false))))] none [6]) .ret) .skip)))) (.reg [xS 105 (.bin false .add (.t 95) (xK 1)),xM 95 105] none [1,2,3,93,94,95]))))))) (.seq (.reg [xS 106 (.fa (.t 3) 0),xL 107 106,xS 108 (.bin false .neq (.t 107) (xK 20)),xM 109 108,xH 110 109 (.fa (.t 3) 8),xH 111 109 (.load (.t 110) none),xH 112 109 (.ia (.t 111) (xK 0) 9),xH 113 109 (.load (.t 112) (some 9)),xH 114 109 (.call 58 [(.t 113)]),xS 115 (.pick (.t 109) (.k (.c (.bool true))) (.t 114)),xM 6 115] none [6]) .ret))))))))
theorem Ts:al Tryz.prog 116 (Tryz.f27.body.getD .skip) FJ=true:=by kernel_rfl
theorem Tt:am Tryz.prog Tryz.f27.results.toList [.tmp 6]=true:=by kernel_rfl
theorem FK:aw Tryz.prog 27=true:=by kernel_rfl
def FL:X:=(.seq (.reg [xS 1 (.box (.t 0) (some 9)),xS 2 (.mv (.k (.c (.bool false))))] none [1]) (.seq (.reg [xS 3 (.alloc [(.c (.int .i64 0))]),⟨none,none,.st (.t 3) (xK 16) none⟩] none [1,3]) (.seq (.reg [xS 4 (.load (.t 1) (some 9)),xS 5 (.call 27 [(.t 4),(xK 1),(.t 3)]),xM 2 5] none [2]) .ret)))
theorem Tu:al Tryz.prog 6 (Tryz.f11.body.getD .skip) FL=true:=by kernel_rfl
theorem Tv:am Tryz.prog Tryz.f11.results.toList [.tmp 2]=true:=by kernel_rfl
theorem FM:aw Tryz.prog 11=true:=by kernel_rfl
noncomputable def ik (k:Nat):Spec:=Spec.of (ι:=F) [false] (fun i=>[.d (.agg i.enc)]) (fun i=>(i.fit 140737488355328/\dp i)/\SizeOf.sizeOf i < k) (fun i=>[.d (.one (.bool (decide (cS i))))]) (fun _=>[.gone])
theorem rz:∀ i j:F,(fun (i:F)=>([.d (.agg i.enc)]:List AV)) i=(fun (i:F)=>([.d (.agg i.enc)]:List AV)) j->i=j:=by
 intro t t' h
 simpa [ap,T.enc_eq,aq,F.enc_eq,ar,Tk.enc_eq,au,Gn.enc_eq,ao] using h
theorem FN (k:Nat):(ik k).md=[false]:=rfl
theorem wF (k:Nat) (t:F):(ik k).pre [.d (.agg t.enc)]=((t.fit 140737488355328/\dp t)/\SizeOf.sizeOf t < k):=Spec.of_pre' rz t
theorem FO (k:Nat):(ik k).alts=none:=rfl
theorem wG (k:Nat) (t:F):(ik k).res [.d (.agg t.enc)]=[.d (.one (.bool (decide (cS t))))]:=Spec.of_res rz t
theorem wH (k:Nat) (t:F):(ik k).out [.d (.agg t.enc)]=[.gone]:=Spec.of_out rz t
theorem Tw (k:Nat) (hS:Sound Tryz.prog 58 (ik k)):Sound Tryz.prog 58 (ik (k+1)):=by
 refine aQ (GOK.cons FI hS GOK.nil) Tryz.func58 (c:=Tryz.f58.body.getD .skip) rfl (n:=40) rfl Tp Tq (fun _=>by simp) ?_ ?_
 ·exact rz
 ·rintro t ⟨⟨h1,h2⟩,h4⟩
  obtain⟨kk,n,s,v,l⟩:=t
  obtain⟨vk,vn,vs,vks,vl⟩:=v
  simp only[F.fit,dp] at h1 h2
  obtain⟨_,_,f1,f2,f3,f4⟩:=h1
  obtain⟨g1,g2⟩:=h2
  generalize hv:T.mk vk vn vs vks vl=v at *
  have e3 : SizeOf.sizeOf l < k := by have e : SizeOf.sizeOf (F.mk kk n s v l) < k + 1 := h4
                                      rw[F.mk.sizeOf_spec] at e;omega
  clear h4
  have e6:v.enc=[.int .i64 vk,.int .i64 vn,.str vs,.row 1 (aa vks),.row 5 (ai vl)]:=by rw[<-hv];rfl
  have hF:cS (F.mk kk n s v l) ↔ ((kk=1\/kk=3\/kk=4\/kk=5\/kk=18)\/((kk=6\/kk=7)/\bD l 0/\bD l 1)\/(kk=8/\bD l 1/\bD l 2)):=by simp only[cS]
  have hk2:kk=6\/kk=7->l.length=2:=fun h=>by
   have:aP kk=2:=by rcases h with rfl|rfl <;> decide
   omega
  have hk3:kk=8->l.length=3:=fun h=>by
   have:aP kk=3:=by subst h;decide
   omega
  by_cases hz:2<=l.length
  ·obtain⟨x0,i0,_,m0⟩:=aU (l:=l) (i:=0) (by omega)
   obtain⟨x1,i1,_,m1⟩:=aU (l:=l) (i:=1) (by omega)
   have a0:=cI i0
   have a1:=cI i1
   have w0:=lJ i0
   have w1:=lJ i1
   have l0:=F.enc_len x0
   have l1:=F.enc_len x1
   have s0:=bK m0
   have s1:=bK m1
   have t0:=dN f4 x0 m0
   have t1:=dN f4 x1 m1
   have u0:=gW.1 g2 x0 m0
   have u1:=gW.1 g2 x1 m1
   have z0:(0:Int).toNat=0:=rfl
   have z1:(1:Int).toNat=1:=rfl
   have z2:(2:Int).toNat=2:=rfl
   by_cases h3:3<=l.length
   ·obtain⟨x2,i2,_,m2⟩:=aU (l:=l) (i:=2) (by omega)
    have a2:=cI i2
    have w2:=lJ i2
    have l2:=F.enc_len x2
    have s2:=bK m2
    have t2:=dN f4 x2 m2
    have u2:=gW.1 g2 x2 m2
    rw[w0,w1,w2] at hF
    simp only[rq,F.enc,e6,go_sem,seval,rg,z0,z1,z2,a0,a1,a2,l0,l1,l2,FN,wF,FO,wG,wH]
    repeat' (first|with_reducible assumption|with_reducible refine And.intro ?_ ?_|intro _)
    all_goals first|omega|(grind;done)|skip
   ·have h8:(kk=8)=False:=by simp;intro h;have:=hk3 h;omega
    rw[w0,w1] at hF
    simp only[rq,F.enc,e6,go_sem,seval,rg,z0,z1,z2,a0,a1,l0,l1,h8,FN,wF,FO,wG,wH]
    repeat' (first|with_reducible assumption|with_reducible refine And.intro ?_ ?_|intro _)
    all_goals first|omega|(grind;done)|skip
  ·have h6:(kk=6)=False:=by simp;intro h;have:=hk2 (.inl h);omega
   have h7:(kk=7)=False:=by simp;intro h;have:=hk2 (.inr h);omega
   have h8:(kk=8)=False:=by simp;intro h;have:=hk3 h;omega
   simp only[rq,F.enc,e6,go_sem,seval,rg,h6,h7,h8]
   repeat' (first|with_reducible assumption|with_reducible refine And.intro ?_ ?_|intro _)
   all_goals first|omega|(grind;done)|skip
theorem Tx:∀ k,Sound Tryz.prog 58 (ik k):=fun k=>Nat.rec Sound.none (fun k ih=>Tw k ih) k
noncomputable def spLookD:Spec:=Spec.of (ι:=Option F) [false] (fun i=>match i with|some t=>[.d (.agg t.enc)]|none=>[.d (.agg [])]) (fun i=>match i with|some t=>t.fit 140737488355328/\dp t|none=>False) (fun i=>match i with|some t=>[.d (.one (.bool (decide (cS t))))]|none=>[.d (.one (.bool (decide False)))]) (fun _=>[.gone])
theorem mK:∀ i j:Option F,(fun i:Option F=>(match i with|some t=>[.d (.agg t.enc)]|none=>[.d (.agg [])]:List AV)) i=(fun i:Option F=>(match i with|some t=>[.d (.agg t.enc)]|none=>[.d (.agg [])]:List AV)) j->i=j:=by
 intro i j h
 cases i with
 | none =>
   cases j with
   | none=>rfl
   | some t=>have:=congrArg List.length (show []=t.enc by simpa using h);rw[F.enc_len] at this;simp at this
 | some t =>
   cases j with
   | none=>have:=congrArg List.length (show t.enc=[] by simpa using h);rw[F.enc_len] at this;simp at this
   | some t'=>simpa [F.enc_eq] using h
theorem FP:spLookD.md=[false]:=rfl
theorem FQ:spLookD.alts=none:=rfl
theorem Ty (t:F):spLookD.pre [.d (.agg t.enc)]=(t.fit 140737488355328/\dp t):=Spec.of_pre' mK (some t)
theorem FR (t:F):spLookD.res [.d (.agg t.enc)]=[.d (.one (.bool (decide (cS t))))]:=Spec.of_res mK (some t)
theorem FS (t:F):spLookD.out [.d (.agg t.enc)]=[.gone]:=Spec.of_out mK (some t)
theorem Tz:spLookD.pre [.d (.agg [])]=False:=Spec.of_pre' mK none
theorem TA:spLookD.res [.d (.agg [])]=[.d (.one (.bool (decide False)))]:=Spec.of_res mK none
theorem TB:spLookD.out [.d (.agg [])]=[.gone]:=Spec.of_out mK none
theorem TC:Sound Tryz.prog 58 spLookD:=by
 rintro ds ⟨i,rfl,hi⟩ w S vs fps hG hS hF ha hA
 cases i with
 | none=>exact hi.elim
 | some t =>
   have hp:(ik (SizeOf.sizeOf t+1)).pre [.d (.agg t.enc)]:=by
    rw[wF];exact⟨hi,Nat.lt_succ_self _⟩
   refine (Tx (SizeOf.sizeOf t+1) [.d (.agg t.enc)] hp w S vs fps hG hS hF ha hA).mono ?_
   rintro e w' ⟨r,o,hro,rest⟩
   obtain⟨rfl,rfl⟩:=(Spec.may_none rfl).1 hro
   rw[wG,wH] at rest
   exact⟨_,_,(Spec.may_none rfl).2 ⟨(FR t).symm,(FS t).symm⟩,rest⟩
noncomputable def il (k:Nat):Spec:=Spec.of (ι:=F × Int × Int) [false,false,true] (fun i=>[.d (.agg i.1.enc),.d (.one (.int .i64 i.2.1)),.ref [.int .i64 i.2.2]]) (fun i=>(i.1.fit 140737488355328/\0<=i.2.1/\i.2.1<=8/\0<=i.2.2/\i.2.2<=1000)/\SizeOf.sizeOf i.1 < k) (fun i=>[.d (.one (.bool (decide ((aV i.1 i.2.1 i.2.2).1=true))))]) (fun i=>[.gone,.gone,.ref [.int .i64 (aV i.1 i.2.1 i.2.2).2]])
theorem rA:∀ i j:F × Int × Int,(fun (i:F × Int × Int)=>([.d (.agg i.1.enc),.d (.one (.int .i64 i.2.1)),.ref [.int .i64 i.2.2]]:List AV)) i=(fun (i:F × Int × Int)=>([.d (.agg i.1.enc),.d (.one (.int .i64 i.2.1)),.ref [.int .i64 i.2.2]]:List AV)) j->i=j:=by
 rintro⟨t,d,left⟩ ⟨t',d',left'⟩ h
 simp only[Prod.mk.injEq]
 simpa [ap,T.enc_eq,aq,F.enc_eq,ar,Tk.enc_eq,au,Gn.enc_eq,ao] using h
theorem TD (k:Nat):(il k).md=[false,false,true]:=rfl
theorem TE (k:Nat) (t:F) (d:Int) (left:Int):(il k).pre [.d (.agg t.enc),.d (.one (.int .i64 d)),.ref [.int .i64 left]]=((t.fit 140737488355328/\0<=d/\d<=8/\0<=left/\left<=1000)/\SizeOf.sizeOf t < k):=Spec.of_pre' rA (t,d,left)
theorem TF (k:Nat):(il k).alts=none:=rfl
theorem TG (k:Nat) (t:F) (d:Int) (left:Int):(il k).res [.d (.agg t.enc),.d (.one (.int .i64 d)),.ref [.int .i64 left]]=[.d (.one (.bool (decide ((aV t d left).1=true))))]:=Spec.of_res rA (t,d,left)
theorem TH (k:Nat) (t:F) (d:Int) (left:Int):(il k).out [.d (.agg t.enc),.d (.one (.int .i64 d)),.ref [.int .i64 left]]=[.gone,.gone,.ref [.int .i64 (aV t d left).2]]:=Spec.of_out rA (t,d,left)
set_option maxHeartbeats 2000000 in
theorem TI (hG:get? 1 Globs.G=some dq) (k:Nat) (hS:Sound Tryz.prog 27 (il k)):Sound Tryz.prog 27 (il (k+1)):=by
 refine aQ (GOK.cons (l:=[(56,iR),(57,ka),(55,ku),(58,spLookD),(27,il k)]) AP Bc (GOK.cons AR Bd (GOK.cons AW Be (GOK.cons PQ Qt (GOK.cons FI TC (GOK.cons FK hS GOK.nil)))))) Tryz.func27 (c:=Tryz.f27.body.getD .skip) rfl (n:=116) rfl Ts Tt (fun _=>by simp) ?_ ?_
 ·exact rA
 ·rintro⟨t,d,left⟩ ⟨⟨h1,h2,h3,h3',h3''⟩,h4⟩
  obtain⟨kk,n,s,v,l⟩:=t
  obtain⟨vk,vn,vs,vks,vl⟩:=v
  simp only[F.fit] at h1
  obtain⟨_,_,f1,f2,f3,f4⟩:=h1
  simp only at h2 h3 h3' h3''
  generalize hv:T.mk vk vn vs vks vl=v at *
  have e3 : SizeOf.sizeOf l < k := by have e : SizeOf.sizeOf (F.mk kk n s v l) < k + 1 := h4
                                      rw[F.mk.sizeOf_spec] at e;omega
  clear h4
  have e6:v.enc=[.int .i64 vk,.int .i64 vn,.str vs,.row 1 (aa vks),.row 5 (ai vl)]:=by rw[<-hv];rfl
  have hH:kb kk n s v l ↔ (1<=kk/\kk<=21/\aP kk=l.length/\((kk=4\/n=0)/\((kk=3\/kk=21)\/s=⟨#[]⟩)/\(kk=2\/v=T.zero))/\-60<=n/\n<=59/\okS s/\(okI v 1 60).1=true):=Iff.rfl
  have hneg:¬ (1<=left/\d<=7/\kb kk n s v l)->(aV (F.mk kk n s v l) d left).1=false/\left-1=(aV (F.mk kk n s v l) d left).2:=fun h=>by simp only[aV];rw[if_neg h];exact⟨rfl,rfl⟩
  have hpos:(1<=left/\d<=7/\kb kk n s v l)->aV (F.mk kk n s v l) d left=(if (bO l (d+1) (left-1)).1=true then (decide (kk=20->bD l 0),(bO l (d+1) (left-1)).2) else (false,(bO l (d+1) (left-1)).2)):=fun h=>by simp only[aV];rw[if_pos h]
  generalize hres:aV (F.mk kk n s v l) d left=R at *
  clear hres
  have p1:=Qp v
  have p2:=Qr v
  have p3:=Qs v
  have q1:=ua v
  have q2:=ud v
  have q3:=ue v
  rw[e6] at p1 p2 p3 q1 q2 q3
  obtain⟨m,hm,hmk⟩:∃ m,((ktab.map fun m=>[C.int .i64 m]).getD kk.toNat []).getD 0 (.int .i64 0)=C.int .i64 m/\(1<=kk/\kk<=21->m=aP kk/\0 < ((ktab.map fun m=>[C.int .i64 m]).getD kk.toNat []).length/\kk.toNat < 22):=by
   by_cases h:kk.toNat < 22
   ·rw[Bi h]
    refine⟨_,rfl,fun h'=>⟨?_,by simp,h⟩⟩
    have:=Bj ⟨kk.toNat,h⟩ (by simp only;omega)
    simp only at this
    rw[this];congr 1;omega
   ·rw[MV h]
    exact⟨0,rfl,fun h'=>by omega⟩
  have hm':=hm
  have hlen:=Bk
  simp only[FJ,F.enc,e6,go_sem,seval,rg,hG,dq,hm',hlen,AX,AY,AZ,Ba,Bb,tT,tU,tV,tW,tX,Qo,Qq,p1,p2,p3,tZ,uc,q1,q2,q3]
  repeat' (first|with_reducible assumption|with_reducible refine And.intro ?_ ?_|intro _)
  all_goals first|omega|(grind;done)|skip
  have hh:1<=left/\d<=7/\kb kk n s v l:=by grind
  have hpos':=hpos hh
  have hk:kk=20->l.length=2:=fun h=>by
   have e:aP kk=2:=by subst h;decide
   have:=hh.2.2.2.2.1
   omega
  have hd:1<=left/\d<=7:=⟨hh.1,hh.2.1⟩
  clear hH hneg hpos p1 p2 p3 q1 q2 q3 hm hm' hmk hlen hh
  repeat (rename_i hx;clear hx)
  refine aZ (ι:=Nat × Int) (fun i=>l.length-i.1) (fun i=>i.1<=l.length/\0<=i.2/\i.2<=left-1/\bO l (d+1) (left-1)=bO (l.drop i.1) (d+1) i.2/\fo (l.take i.1))
   (fun i=>⟨[(1,.q (.c (.int .i64 d))),(2,.q (.box 118 0)),(3,.q (.box 3 0)),(93,.q (.c (.row 9 (aB l)))),(94,.q (.c (.int .i64 l.length))),(95,.q (.c (.int .i64 i.1)))],[(118,[.c (.int .i64 i.2)]),(3,[.c (.int .i64 kk),.c (.int .i64 n),.c (.str s),.c (.int .i64 vk),.c (.int .i64 vn),.c (.str vs),.c (.row 1 (aa vks)),.c (.row 5 (ai vl)),.c (.row 9 (aB l))])],[]⟩) (0,left-1) ⟨Nat.zero_le _,by simp only;omega,by simp only;omega,by simp only[List.drop_zero],by simp[fo]⟩ (Le.refl _) ?_
  rintro⟨i,m⟩ ⟨hi,hm,hm',heq,hkd⟩
  simp only at hi hm hm' heq hkd
  have hln:(l.length:Int)<=140737488355328:=f3
  rcases Nat.lt_or_ge i l.length with hlt|hge
  ·obtain⟨t,ht,hdr,hmem⟩:=aU hlt
   have a1:=cI ht
   have a2:((i:Int) < (l.length:Int))=True:=by simp;omega
   have a3:=dN f4 t hmem
   have a4:=bK hmem
   have a6:=F.enc_len t
   have a7:=ug t (d+1) m
   rw[hdr] at heq
   simp only[bO] at heq
   have hfalse:¬ (aV t (d+1) m).1=true->R.1=false/\R.2=(aV t (d+1) m).2:=fun hc=>by
    rw[if_neg hc] at heq
    rw[heq] at hpos'
    rw[hpos'];simp
   simp only[go_sem,seval,rg,a1,a2,a6,TD,TE,TF,TG,TH]
   repeat' (first|with_reducible assumption|with_reducible refine And.intro ?_ ?_|intro _)
   all_goals first|omega|skip
   ·rename_i hc hR
    rw[(hfalse hc).1] at hR;cases hR
   ·rename_i hc
    exact (hfalse hc).2.symm
   ·have hc':(aV t (d+1) m).1=true:=Classical.byContradiction (by assumption)
    rw[if_pos hc'] at heq
    refine⟨(i+1,(aV t (d+1) m).2),⟨by simp only;omega,(a7.2 hc').1,by simp only;omega,heq,?_⟩,by simp only;omega,Le.sub (fun _ h=>h) (fun _ h=>List.mem_append_left [_] h) (fun _ h=>h)⟩
    rw[gW]
    intro y hy
    simp only at hy
    rw[List.take_add_one,ht] at hy
    rcases List.mem_append.1 hy with hy|hy
    ·exact gW.1 hkd y hy
    ·simp at hy;subst hy;exact (a7.2 hc').2
  ·have a2:((i:Int) < (l.length:Int))=False:=by simp;omega
   rw[List.drop_eq_nil_of_le hge] at heq
   rw[List.take_of_length_le hge] at hkd
   simp only[bO] at heq
   rw[heq] at hpos'
   simp only[if_true] at hpos'
   have z0:(0:Int).toNat=0:=rfl
   cases l with
   | nil =>
     have h20:(kk=20)=False:=by simp;intro h;have:=hk h;simp at this
     simp only[go_sem,seval,rg,a2,z0,aB,h20,FP,FQ,Tz,TA,TB,hpos']
     repeat' (first|with_reducible assumption|with_reducible refine And.intro ?_ ?_|intro _)
     all_goals first|omega|(grind;done)|skip
   | cons x r =>
     have a6:=F.enc_len x
     have a7:=dN f4 x (by simp)
     have a8:=gW.1 hkd x (by simp)
     have a9:bD (x::r) 0=cS x:=by simp[bD]
     simp only[go_sem,seval,rg,a2,z0,aB,a6,FP,Ty,FQ,FR,FS,hpos',a9]
     repeat' (first|with_reducible assumption|with_reducible refine And.intro ?_ ?_|intro _)
     all_goals first|omega|(grind;done)|skip
theorem TJ (hG:get? 1 Globs.G=some dq):∀ k,Sound Tryz.prog 27 (il k):=fun k=>Nat.rec Sound.none (fun k ih=>TI hG k ih) k
noncomputable def mL :Spec:=Spec.of (ι:=F × Int × Int) [false,false,true] (fun i=>[.d (.agg i.1.enc),.d (.one (.int .i64 i.2.1)),.ref [.int .i64 i.2.2]]) (fun i=>i.1.fit 140737488355328/\0<=i.2.1/\i.2.1<=8/\0<=i.2.2/\i.2.2<=1000) (fun i=>[.d (.one (.bool (decide ((aV i.1 i.2.1 i.2.2).1=true))))]) (fun i=>[.gone,.gone,.ref [.int .i64 (aV i.1 i.2.1 i.2.2).2]])
theorem wI:∀ i j:F × Int × Int,(fun (i:F × Int × Int)=>([.d (.agg i.1.enc),.d (.one (.int .i64 i.2.1)),.ref [.int .i64 i.2.2]]:List AV)) i=(fun (i:F × Int × Int)=>([.d (.agg i.1.enc),.d (.one (.int .i64 i.2.1)),.ref [.int .i64 i.2.2]]:List AV)) j->i=j:=by
 rintro⟨t,d,left⟩ ⟨t',d',left'⟩ h
 simp only[Prod.mk.injEq]
 simpa [ap,T.enc_eq,aq,F.enc_eq,ar,Tk.enc_eq,au,Gn.enc_eq,ao] using h
theorem TK :(mL).md=[false,false,true]:=rfl
theorem TL  (t:F) (d:Int) (left:Int):(mL).pre [.d (.agg t.enc),.d (.one (.int .i64 d)),.ref [.int .i64 left]]=(t.fit 140737488355328/\0<=d/\d<=8/\0<=left/\left<=1000):=Spec.of_pre' wI (t,d,left)
theorem TN :(mL).alts=none:=rfl
theorem TO  (t:F) (d:Int) (left:Int):(mL).res [.d (.agg t.enc),.d (.one (.int .i64 d)),.ref [.int .i64 left]]=[.d (.one (.bool (decide ((aV t d left).1=true))))]:=Spec.of_res wI (t,d,left)
theorem TP  (t:F) (d:Int) (left:Int):(mL).out [.d (.agg t.enc),.d (.one (.int .i64 d)),.ref [.int .i64 left]]=[.gone,.gone,.ref [.int .i64 (aV t d left).2]]:=Spec.of_out wI (t,d,left)
theorem TQ (hG:get? 1 Globs.G=some dq):Sound Tryz.prog 27 mL:=Sound.all (μ:=fun i=>SizeOf.sizeOf i.1) (TJ hG)
noncomputable def kS :Spec:=Spec.of (ι:=F) [false] (fun i=>[.d (.agg i.enc)]) (fun i=>i.fit 140737488355328) (fun i=>[.d (.one (.bool (decide ((aV i 1 16).1=true))))]) (fun _=>[.gone])
theorem rB:∀ i j:F,(fun (i:F)=>([.d (.agg i.enc)]:List AV)) i=(fun (i:F)=>([.d (.agg i.enc)]:List AV)) j->i=j:=by
 intro t t' h
 simpa [ap,T.enc_eq,aq,F.enc_eq,ar,Tk.enc_eq,au,Gn.enc_eq,ao] using h
theorem mM :(kS).md=[false]:=rfl
theorem mN  (t:F):(kS).pre [.d (.agg t.enc)]=(t.fit 140737488355328):=Spec.of_pre' rB t
theorem mO :(kS).alts=none:=rfl
theorem mP  (t:F):(kS).res [.d (.agg t.enc)]=[.d (.one (.bool (decide ((aV t 1 16).1=true))))]:=Spec.of_res rB t
theorem mQ  (t:F):(kS).out [.d (.agg t.enc)]=[.gone]:=Spec.of_out rB t
theorem FT (hG:get? 1 Globs.G=some dq):Sound Tryz.prog 11 kS:=by
 refine aQ (GOK.cons FK (TQ hG) GOK.nil) Tryz.func11 (c:=Tryz.f11.body.getD .skip) rfl (n:=6) rfl Tu Tv (fun _=>by simp) ?_ ?_
 ·exact rB
 ·intro t h1
  have a6:=F.enc_len t
  simp only[FL,go_sem,seval,rg,a6,TK,TL,TN,TO,TP]
  repeat' (first|with_reducible assumption|with_reducible refine And.intro ?_ ?_|intro _)
  all_goals first|omega|skip
end Go.Proofs.Pw
namespace Go.Proofs.Pw
variable [Globs]
def FU:X:=(.seq (.reg [xS 0 (.mv (.k (.z 1)))] none []) (.seq (.reg [xS 1 (.bsl 1 [((.k (.c (.str ⟨#[]⟩))),none),((.k (.c (.str ⟨#[46]⟩))),none),((.k (.c (.str ⟨#[]⟩))),none),((.k (.c (.str ⟨#[]⟩))),none),((.k (.c (.str ⟨#[]⟩))),none),((.k (.c (.str ⟨#[91,93]⟩))),none),((.k (.c (.str ⟨#[112,105,112,101]⟩))),none),((.k (.c (.str ⟨#[98,111,116,104]⟩))),none),((.k (.c (.str ⟨#[105,102]⟩))),none),((.k (.c (.str ⟨#[97,100,100]⟩))),none),((.k (.c (.str ⟨#[108,101,115,115]⟩))),none),((.k (.c (.str ⟨#[115,97,109,101]⟩))),none),((.k (.c (.str ⟨#[114,111,119]⟩))),none),((.k (.c (.str ⟨#[108,101,110]⟩))),none),((.k (.c (.str ⟨#[107,101,121,115]⟩))),none),((.k (.c (.str ⟨#[110,111,116]⟩))),none),((.k (.c (.str ⟨#[101,108,115,101]⟩))),none),((.k (.c (.str ⟨#[116,114,121]⟩))),none),((.k (.c (.str ⟨#[110,111,110,101]⟩))),none),((.k (.c (.str ⟨#[98,97,100]⟩))),none),((.k (.c (.str ⟨#[116,117,114,110]⟩))),none),((.k (.c (.str ⟨#[]⟩))),none)]),xM 0 1] none [0]) .ret))
theorem TS:al Tryz.prog 2 (Tryz.f76.body.getD .skip) FU=true:=by kernel_rfl
theorem TT:am Tryz.prog Tryz.f76.results.toList [.tmp 0]=true:=by kernel_rfl
theorem TU:aw Tryz.prog 76=true:=by kernel_rfl
def mR:X:=(.seq (.reg [xS 1 (.box (.t 0) (some 9)),xS 2 (.mv (.k (.c (.str ⟨#[]⟩))))] none [1]) (.seq (.seq (.reg [xS 3 (.fa (.t 1) 0),xL 4 3] none [1,4]) (.block 0 (.seq (.reg [xS 6 (.bin false .eql (.t 4) (xK 2)),xM 5 6] none [1,4,5]) (.cond (.t 5) (.seq (.reg [xS 7 (.fa (.t 1) 3),xS 8 (.load (.t 7) (some 5)),xS 9 (.call 74 [(.t 8)]),xS 10 (.bin false .add (.k (.c (.str ⟨#[61]⟩))) (.t 9)),xM 2 10] none [2]) .ret) (.seq (.reg [xS 12 (.bin false .eql (.t 4) (xK 3)),xM 11 12] none [1,4,11]) (.cond (.t 11) (.seq (.reg [xS 13 (.fa (.t 1) 2),xL 14 13,xS 15 (.bin false .add (.k (.c (.str ⟨#[46]⟩))) (.t 14)),xS 16 (.bin false .add (.t 15) (.k (.c (.str ⟨#[58]⟩)))),xM 2 16] none [2]) .ret) (.seq (.reg [xS 18 (.bin false .eql (.t 4) (xK 4)),xM 17 18] none [1,4,17]) (.cond (.t 17) (.seq (.reg [xS 19 (.fa (.t 1) 1),xL 20 19,xS 21 (.call 75 [(.t 20)]),xS 22 (.bin false .add (.k (.c (.str ⟨#[91]⟩))) (.t 21)),xS 23 (.bin false .add (.t 22) (.k (.c (.str ⟨#[93]⟩)))),xM 2 23] none [2]) .ret) (.seq (.reg [xS 25 (.bin false .eql (.t 4) (xK 21)),xM 24 25] none [1,24]) (.cond (.t 24) (.seq (.reg [xS 26 (.fa (.t 1) 2),xL 27 26,xS 28 (.bin false .add (.k (.c (.str ⟨#[109,97,107,101,58]⟩))) (.t 27)),xM 2 28] none [2]) .ret) .skip)))))))))) (.seq (.reg [xS 29 (.call 76 []),xS 30 (.fa (.t 1) 0),xL 31 30,xS 32 (.ia (.t 29) (.t 31) 1),xL 33 32,xM 2 33] (some 3) [2]) .ret)))
theorem TV:al Tryz.prog 34 (Tryz.f45.body.getD .skip) mR=true:=by kernel_rfl
theorem TW:am Tryz.prog Tryz.f45.results.toList [.tmp 2]=true:=by kernel_rfl
theorem TX:aw Tryz.prog 45=true:=by kernel_rfl
def FV:X:=(.seq (.reg [xS 1 (.box (.t 0) (some 9)),xS 2 (.mv (.k (.c (.str ⟨#[]⟩))))] none [1]) (.seq (.reg [xS 5 (.load (.t 1) (some 9)),xS 6 (.call 45 [(.t 5)]),xM 3 6] none [1,3]) (.seq (.seq (.reg [xS 4 (.mv (xK 0))] none [1,3,4]) (.block 0 (.loop (.seq (.seq (.reg [xM 7 4,xS 8 (.fa (.t 1) 8),xL 9 8,xS 10 (.len (.t 9) false),xS 11 (.bin false .lss (.t 7) (.t 10))] none [1,3,4,11]) (.cond (.t 11) .skip (.exit 0))) (.seq (.block 1 (.reg [xM 14 3,xS 15 (.bin false .add (.t 14) (.k (.c (.str ⟨#[32]⟩)))),xS 16 (.fa (.t 1) 8),xL 17 16,xM 18 4,xS 19 (.ia (.t 17) (.t 18) 9),xS 20 (.load (.t 19) (some 9)),xS 21 (.call 21 [(.t 20)]),xS 22 (.bin false .add (.t 15) (.t 21)),xM 3 22] none [1,3,4])) (.reg [xM 12 4,xS 13 (.bin false .add (.t 12) (xK 1)),xM 4 13] none [1,3,4])))))) (.seq (.reg [xM 23 3,xM 2 23] none [2]) .ret))))
theorem TY:al Tryz.prog 24 (Tryz.f21.body.getD .skip) FV=true:=by kernel_rfl
theorem TZ:am Tryz.prog Tryz.f21.results.toList [.tmp 2]=true:=by kernel_rfl
theorem FW:aw Tryz.prog 21=true:=by kernel_rfl
def wJ:X:=(.seq (.reg [xS 1 (.box (.t 0) (some 9)),xS 2 (.mv (.k (.c (.str ⟨#[]⟩))))] none [1]) (.seq (.seq (.reg [xS 3 (.load (.t 1) (some 9)),xS 4 (.call 9 [(.t 3)]),xS 5 (.not (.t 4))] none [1,5]) (.cond (.t 5) (.seq (.reg [xS 2 (.mv (.k (.c (.str ⟨#[]⟩))))] none [2]) .ret) .skip)) (.seq (.reg [xS 6 (.load (.t 1) (some 9)),xS 7 (.call 21 [(.t 6)]),xM 2 7] none [2]) .ret)))
theorem Ua:al Tryz.prog 8 (Tryz.f8.body.getD .skip) wJ=true:=by kernel_rfl
theorem Uc:am Tryz.prog Tryz.f8.results.toList [.tmp 2]=true:=by kernel_rfl
theorem Ud:aw Tryz.prog 8=true:=by kernel_rfl
def mS:X:=(.seq (.reg [xS 1 (.box (.t 0) (some 9)),xS 2 (.mv (.k (.c (.str ⟨#[]⟩))))] none [1]) (.seq (.reg [xS 6 (.glb 0),xS 7 (.fa (.t 1) 0),xL 8 7,xS 9 (.ia (.t 6) (.t 8) 1),xL 10 9,xM 3 10] none [1,3]) (.seq (.seq (.reg [xS 11 (.fa (.t 1) 0),xL 12 11] none [1,3,12]) (.block 0 (.seq (.reg [xS 14 (.bin false .eql (.t 12) (xK 2)),xM 13 14] none [1,3,12,13]) (.cond (.t 13) (.reg [xS 15 (.fa (.t 1) 3),xS 16 (.load (.t 15) (some 5)),xS 17 (.call 43 [(.t 16)]),xS 18 (.bin false .add (.k (.c (.str ⟨#[61]⟩))) (.t 17)),xM 3 18] none [1,3]) (.seq (.reg [xS 20 (.bin false .eql (.t 12) (xK 3)),xM 19 20] none [1,3,12,19]) (.cond (.t 19) (.reg [xS 21 (.fa (.t 1) 2),xL 22 21,xS 23 (.bin false .add (.k (.c (.str ⟨#[46]⟩))) (.t 22)),xS 24 (.bin false .add (.t 23) (.k (.c (.str ⟨#[58]⟩)))),xM 3 24] none [1,3]) (.seq (.reg [xS 26 (.bin false .eql (.t 12) (xK 4)),xM 25 26] none [1,3,12,25]) (.cond (.t 25) (.reg [xS 27 (.fa (.t 1) 1),xL 28 27,xS 29 (.call 44 [(.t 28)]),xS 30 (.bin false .add (.k (.c (.str ⟨#[91]⟩))) (.t 29)),xS 31 (.bin false .add (.t 30) (.k (.c (.str ⟨#[93]⟩)))),xM 3 31] none [1,3]) (.seq (.reg [xS 33 (.bin false .eql (.t 12) (xK 21)),xM 32 33] none [1,3,32]) (.cond (.t 32) (.reg [xS 34 (.fa (.t 1) 2),xL 35 34,xS 36 (.bin false .add (.k (.c (.str ⟨#[109,97,107,101,58]⟩))) (.t 35)),xM 3 36] none [1,3]) .skip)))))))))) (.seq (.seq (.reg [xS 37 (.fa (.t 1) 8),xL 38 37,xS 39 (.len (.t 38) false),xS 40 (.mv (xK 0))] none [3,38,39,40]) (.block 1 (.loop (.seq (.reg [xS 41 (.bin false .lss (.t 40) (.t 39))] none [3,38,39,40,41]) (.seq (.cond (.t 41) .skip (.exit 1)) (.seq (.block 2 (.seq (.reg [xS 42 (.ia (.t 38) (.t 40) 9),xS 43 (.load (.t 42) (some 9)),xS 5 (.alloc xF),xW 5 43 9] none [3,5,38,39,40]) (.reg [xM 44 3,xS 45 (.load (.t 5) (some 9)),xS 46 (.call 20 [(.t 45)]),xS 47 (.bin false .add (.k (.c (.str ⟨#[32]⟩))) (.t 46)),xS 48 (.bin false .add (.t 44) (.t 47)),xM 3 48] none [3,38,39,40]))) (.reg [xS 49 (.bin false .add (.t 40) (xK 1)),xM 40 49] none [3,38,39,40]))))))) (.seq (.reg [xM 50 3,xM 2 50] none [2]) .ret)))))
theorem Ue:al Tryz.prog 51 (Tryz.f20.body.getD .skip) mS=true:=by kernel_rfl
theorem Uf:am Tryz.prog Tryz.f20.results.toList [.tmp 2]=true:=by kernel_rfl
theorem FX:aw Tryz.prog 20=true:=by kernel_rfl
def wK:X:=(.seq (.reg [xS 1 (.box (.t 0) (some 9)),xS 2 (.mv (.k (.c (.str ⟨#[]⟩))))] none [1]) (.seq (.seq (.reg [xS 3 (.load (.t 1) (some 9)),xS 4 (.call 11 [(.t 3)]),xS 5 (.not (.t 4))] none [1,5]) (.cond (.t 5) (.seq (.reg [xS 2 (.mv (.k (.c (.str ⟨#[]⟩))))] none [2]) .ret) .skip)) (.seq (.reg [xS 6 (.load (.t 1) (some 9)),xS 7 (.call 20 [(.t 6)]),xM 2 7] none [2]) .ret)))
theorem Ug:al Tryz.prog 8 (Tryz.f7.body.getD .skip) wK=true:=by kernel_rfl
theorem Uh:am Tryz.prog Tryz.f7.results.toList [.tmp 2]=true:=by kernel_rfl
theorem FY:aw Tryz.prog 7=true:=by kernel_rfl
theorem Ui:C.row 1 [[C.str ⟨#[]⟩],[C.str ⟨#[46]⟩],[C.str ⟨#[]⟩],[C.str ⟨#[]⟩],[C.str ⟨#[]⟩],[C.str ⟨#[91,93]⟩],[C.str ⟨#[112,105,112,101]⟩],[C.str ⟨#[98,111,116,104]⟩],[C.str ⟨#[105,102]⟩],[C.str ⟨#[97,100,100]⟩],[C.str ⟨#[108,101,115,115]⟩],[C.str ⟨#[115,97,109,101]⟩],[C.str ⟨#[114,111,119]⟩],[C.str ⟨#[108,101,110]⟩],[C.str ⟨#[107,101,121,115]⟩],[C.str ⟨#[110,111,116]⟩],[C.str ⟨#[101,108,115,101]⟩],[C.str ⟨#[116,114,121]⟩],[C.str ⟨#[110,111,110,101]⟩],[C.str ⟨#[98,97,100]⟩],[C.str ⟨#[116,117,114,110]⟩],[C.str ⟨#[]⟩]]=C.row 1 (aa wtab):=rfl
theorem mT:wtab.length=22:=rfl
noncomputable def kT :Spec:=Spec.of (ι:=Unit) [] (fun _=>[]) (fun i=>i=i) (fun _=>[.d (.one (.row 1 (aa wtab)))]) (fun _=>[])
theorem wL:∀ i j:Unit,(fun (i:Unit)=>([]:List AV)) i=(fun (i:Unit)=>([]:List AV)) j->i=j:=by
 intro _ _ _
 rfl
theorem Uj :(kT).md=[]:=rfl
theorem Uk  (u:Unit):(kT).pre []=(u=u):=Spec.of_pre' wL u
theorem Ul :(kT).alts=none:=rfl
theorem Um  (u:Unit):(kT).res []=[.d (.one (.row 1 (aa wtab)))]:=Spec.of_res wL u
theorem Un  (u:Unit):(kT).out []=[]:=Spec.of_out wL u
theorem Uo:Sound Tryz.prog 76 kT:=by
 refine aQ GOK.nil Tryz.func76 (c:=Tryz.f76.body.getD .skip) rfl (n:=2) rfl TS TT (fun _=>by simp) ?_ ?_
 ·intro a b _;rfl
 ·intro u _
  simp only[FU,rg,go_sem,seval,Prod.fst,Ui]
  try rfl
noncomputable def spHead :Spec:=Spec.of (ι:=Int × Int × ByteArray × Int × Int × ByteArray × (List ByteArray) × (List T) × (List Pw.F)) [false] (fun i=>[.d (.agg (Pw.F.mk i.1 i.2.1 i.2.2.1 (.mk i.2.2.2.1 i.2.2.2.2.1 i.2.2.2.2.2.1 i.2.2.2.2.2.2.1 i.2.2.2.2.2.2.2.1) i.2.2.2.2.2.2.2.2).enc)]) (fun i=>eM (Pw.F.mk i.1 i.2.1 i.2.2.1 (.mk i.2.2.2.1 i.2.2.2.2.1 i.2.2.2.2.2.1 i.2.2.2.2.2.2.1 i.2.2.2.2.2.2.2.1) i.2.2.2.2.2.2.2.2)) (fun i=>[.d (.one (.str (aI i.1 i.2.1 i.2.2.1 (.mk i.2.2.2.1 i.2.2.2.2.1 i.2.2.2.2.2.1 i.2.2.2.2.2.2.1 i.2.2.2.2.2.2.2.1))))]) (fun _=>[.gone])
theorem rC:∀ i j:Int × Int × ByteArray × Int × Int × ByteArray × (List ByteArray) × (List T) × (List Pw.F),(fun (i:Int × Int × ByteArray × Int × Int × ByteArray × (List ByteArray) × (List T) × (List Pw.F))=>([.d (.agg (Pw.F.mk i.1 i.2.1 i.2.2.1 (.mk i.2.2.2.1 i.2.2.2.2.1 i.2.2.2.2.2.1 i.2.2.2.2.2.2.1 i.2.2.2.2.2.2.2.1) i.2.2.2.2.2.2.2.2).enc)]:List AV)) i=(fun (i:Int × Int × ByteArray × Int × Int × ByteArray × (List ByteArray) × (List T) × (List Pw.F))=>([.d (.agg (Pw.F.mk i.1 i.2.1 i.2.2.1 (.mk i.2.2.2.1 i.2.2.2.2.1 i.2.2.2.2.2.1 i.2.2.2.2.2.2.1 i.2.2.2.2.2.2.2.1) i.2.2.2.2.2.2.2.2).enc)]:List AV)) j->i=j:=by
 rintro⟨k,n,s,vk,vn,vs,vks,vl,l⟩ ⟨k',n',s',vk',vn',vs',vks',vl',l'⟩ h
 simp only[Prod.mk.injEq]
 simpa [ap,T.enc_eq,aq,F.enc_eq,ar,Tk.enc_eq,au,Gn.enc_eq,ao,and_assoc] using h
theorem Uq :(spHead).md=[false]:=rfl
theorem Ur  (k:Int) (n:Int) (s:ByteArray) (vk:Int) (vn:Int) (vs:ByteArray) (vks:List ByteArray) (vl:List T) (l:List Pw.F):(spHead).pre [.d (.agg (Pw.F.mk k n s (.mk vk vn vs vks vl) l).enc)]=(eM (Pw.F.mk k n s (.mk vk vn vs vks vl) l)):=Spec.of_pre' rC (k,n,s,vk,vn,vs,vks,vl,l)
theorem Us :(spHead).alts=none:=rfl
theorem Ut  (k:Int) (n:Int) (s:ByteArray) (vk:Int) (vn:Int) (vs:ByteArray) (vks:List ByteArray) (vl:List T) (l:List Pw.F):(spHead).res [.d (.agg (Pw.F.mk k n s (.mk vk vn vs vks vl) l).enc)]=[.d (.one (.str (aI k n s (.mk vk vn vs vks vl))))]:=Spec.of_res rC (k,n,s,vk,vn,vs,vks,vl,l)
theorem Uu  (k:Int) (n:Int) (s:ByteArray) (vk:Int) (vn:Int) (vs:ByteArray) (vks:List ByteArray) (vl:List T) (l:List Pw.F):(spHead).out [.d (.agg (Pw.F.mk k n s (.mk vk vn vs vks vl) l).enc)]=[.gone]:=Spec.of_out rC (k,n,s,vk,vn,vs,vks,vl,l)
theorem FZ (vk vn:Int) (vs:ByteArray) (vks:List ByteArray) (vl:List T):DV.agg [C.int .i64 vk,C.int .i64 vn,C.str vs,C.row 1 (aa vks),C.row 5 (ai vl)]=DV.agg (T.mk vk vn vs vks vl).enc:=rfl
theorem Uv:Sound Tryz.prog 45 spHead:=by
 refine aQ (GOK.cons (l:=[(75,kt),(76,kT)]) Ds PA (GOK.cons vE Dy (GOK.cons TU Uo GOK.nil))) Tryz.func45 (c:=Tryz.f45.body.getD .skip) rfl (n:=34) rfl TV TW (fun _=>by simp) ?_ ?_
 ·exact rC
 ·rintro⟨k,n,s,vk,vn,vs,vks,vl,l⟩ h
  change eM (F.mk k n s (.mk vk vn vs vks vl) l) at h
  obtain⟨⟨d,h1⟩,h2⟩:=h
  simp only[aM] at h1
  obtain⟨f1,f2,f3,f4,f5,f6,f7,f8,f9⟩:=h1
  have f10:=lM (show 0<=aP k by omega)
  have f11:=f4.2
  have f12:go (T.mk vk vn vs vks vl):=vI f7
  have f13:=mj f12
  have f14:=lU (n:=n) (by omega) (by omega)
  have q1:(ByteArray.mk #[61]).size=1:=rfl
  have q2:(ByteArray.mk #[46]).size=1:=rfl
  have q3:(ByteArray.mk #[58]).size=1:=rfl
  have q4:(ByteArray.mk #[91]).size=1:=rfl
  have q5:(ByteArray.mk #[93]).size=1:=rfl
  have q6:(ByteArray.mk #[109,97,107,101,58]).size=5:=rfl
  by_cases c2:k=2
  ·subst c2
   simp only[mR,F.enc,T.enc,List.cons_append,List.nil_append,rg,go_sem,seval,Prod.fst,FZ,q1,aI,vK,vL,vM,vN,vO]
   repeat' (first|with_reducible assumption|with_reducible refine And.intro ?_ ?_|intro _)
   all_goals first|omega|with_reducible assumption|simp
  by_cases c3:k=3
  ·subst c3
   simp only[mR,F.enc,T.enc,List.cons_append,List.nil_append,rg,go_sem,seval,Prod.fst,q2,q3,ByteArray.size_append,aI]
   repeat' (first|with_reducible assumption|with_reducible refine And.intro ?_ ?_|intro _)
   all_goals first|omega|with_reducible assumption|simp
  by_cases c4:k=4
  ·subst c4
   simp only[mR,F.enc,T.enc,List.cons_append,List.nil_append,rg,go_sem,seval,Prod.fst,q4,q5,ByteArray.size_append,aI,Dt,Du,Dv,Dw,Dx]
   repeat' (first|with_reducible assumption|with_reducible refine And.intro ?_ ?_|intro _)
   all_goals first|omega|with_reducible assumption|simp
  by_cases c5:k=21
  ·subst c5
   simp only[mR,F.enc,T.enc,List.cons_append,List.nil_append,rg,go_sem,seval,Prod.fst,q6,aI]
   repeat' (first|with_reducible assumption|with_reducible refine And.intro ?_ ?_|intro _)
   all_goals first|omega|with_reducible assumption|simp
  have a2:(k=2)=False:=eq_false c2
  have a3:(k=3)=False:=eq_false c3
  have a4:(k=4)=False:=eq_false c4
  have a5:(k=21)=False:=eq_false c5
  have a6:=dm (BN (i:=k.toNat) (by omega))
  simp only[mR,F.enc,T.enc,List.cons_append,List.nil_append,rg,go_sem,seval,Prod.fst,a2,a3,a4,a5,a6,bw,mT,aI,if_false,Uj,Ul,Uk (),Um (),Un ()]
  repeat' (first|with_reducible assumption|with_reducible refine And.intro ?_ ?_|intro _)
  all_goals first|omega|with_reducible assumption|skip
theorem Uw (t:F):spHead.pre [.d (.agg t.enc)]=eM t:=by
 obtain⟨k,n,s,⟨vk,vn,vs,vks,vl⟩,l⟩:=t
 exact Ur k n s vk vn vs vks vl l
def F.hd:F->ByteArray
 | .mk k n s v _=>aI k n s v
theorem Ux (t:F):spHead.res [.d (.agg t.enc)]=[.d (.one (.str t.hd))]:=by
 obtain⟨k,n,s,⟨vk,vn,vs,vks,vl⟩,l⟩:=t
 exact Ut k n s vk vn vs vks vl l
theorem Uy (t:F):spHead.out [.d (.agg t.enc)]=[.gone]:=by
 obtain⟨k,n,s,⟨vk,vn,vs,vks,vl⟩,l⟩:=t
 exact Uu k n s vk vn vs vks vl l
theorem q32:(ByteArray.mk #[32]).size=1:=rfl
noncomputable def eu (k:Nat):Spec:=Spec.of (ι:=F) [false] (fun i=>[.d (.agg i.enc)]) (fun i=>(eM i)/\SizeOf.sizeOf i < k) (fun i=>[.d (.one (.str (aN i)))]) (fun _=>[.gone])
theorem oD:∀ i j:F,(fun (i:F)=>([.d (.agg i.enc)]:List AV)) i=(fun (i:F)=>([.d (.agg i.enc)]:List AV)) j->i=j:=by
 intro t t' h
 simpa [ap,T.enc_eq,aq,F.enc_eq,ar,Tk.enc_eq,au,Gn.enc_eq,ao,and_assoc] using h
theorem mU (k:Nat):(eu k).md=[false]:=rfl
theorem mV (k:Nat) (t:F):(eu k).pre [.d (.agg t.enc)]=((eM t)/\SizeOf.sizeOf t < k):=Spec.of_pre' oD t
theorem mW (k:Nat):(eu k).alts=none:=rfl
theorem mX (k:Nat) (t:F):(eu k).res [.d (.agg t.enc)]=[.d (.one (.str (aN t)))]:=Spec.of_res oD t
theorem mY (k:Nat) (t:F):(eu k).out [.d (.agg t.enc)]=[.gone]:=Spec.of_out oD t
theorem Uz (k n:Int) (s:ByteArray) (l:List F) (vk vn:Int) (vs:ByteArray) (vks:List ByteArray) (vl:List T):DV.agg [C.int .i64 k,C.int .i64 n,C.str s,C.int .i64 vk,C.int .i64 vn,C.str vs,C.row 1 (aa vks),C.row 5 (ai vl),C.row 9 (aB l)]=DV.agg (F.mk k n s (.mk vk vn vs vks vl) l).enc:=rfl
set_option maxHeartbeats 2000000 in
theorem UA (k:Nat) (hS:Sound Tryz.prog 21 (eu k)):Sound Tryz.prog 21 (eu (k+1)):=by
 refine aQ (GOK.cons (l:=[(21,eu k)]) TX Uv (GOK.cons FW hS GOK.nil)) Tryz.func21 (c:=Tryz.f21.body.getD .skip) rfl (n:=24) rfl TY TZ (fun _=>by simp) ?_ ?_
 ·exact oD
 ·rintro t ⟨h1,h4⟩
  have hh:=h1
  have hT:=gX h1
  obtain⟨kk,n,s,v,l⟩:=t
  have hkid:=fun t ht=>BS h1 (t:=t) ht
  obtain⟨⟨d,h1⟩,h2⟩:=h1
  have e3 : SizeOf.sizeOf l < k := by have e : SizeOf.sizeOf (F.mk kk n s v l) < k + 1 := h4
                                      rw[F.mk.sizeOf_spec] at e;omega
  clear h4
  simp only[aM] at h1
  obtain⟨f1,f2,f3,f4,f5,f6,f7,f8,f9⟩:=h1
  simp only[aJ] at h2
  have f10:=lM (show 0<=aP kk by omega)
  have f14:=uv l
  have hb:=qk (s:=s) (v:=v) (show 0<=kk/\kk<=21 by omega) ⟨f5,f6⟩ f4.2 f7
  have hz:∀ i,(aI kk n s v++aY (l.take i)).size<=40000:=fun i=>by
   have a:=ql (BR f8 i)
   have b:=uw l i
   rw[ByteArray.size_append];omega
  obtain⟨vk,vn,vs,vks,vl⟩:=v
  simp only[FV,F.enc,T.enc,List.cons_append,List.nil_append,rg,go_sem,seval,Prod.fst,Uz,Uq,Us,Uw,Ux,Uy]
  repeat' (first|with_reducible assumption|with_reducible refine And.intro ?_ ?_|intro _)
  all_goals first|omega|with_reducible assumption|skip
  refine aZ (ι:=Nat) (fun i=>l.length-i) (fun i=>i<=l.length)
   (fun i=>⟨[(1,.q (.box 1 0)),(3,.q (.c (.str (aI kk n s (.mk vk vn vs vks vl)++aY (l.take i))))),(4,.q (.c (.int .i64 i)))],
    [(1,[.c (.int .i64 kk),.c (.int .i64 n),.c (.str s),.c (.int .i64 vk),.c (.int .i64 vn),.c (.str vs),.c (.row 1 (aa vks)),.c (.row 5 (ai vl)),.c (.row 9 (aB l))])],[]⟩) 0 (Nat.zero_le _) (Le.of_eq (by simp[aY,iT,F.hd])) ?_
  intro i hi
  rcases Nat.lt_or_ge i l.length with hlt|hge
  ·obtain⟨t,ht,_,hmem⟩:=aU hlt
   have a1:=cI ht
   have a2:((i:Int) < (l.length:Int))=True:=by simp;omega
   have a4:=bK hmem
   have a5:=hkid t hmem
   have a6:=F.enc_len t
   have a7:=gX a5
   have a8:=hz i
   have a9:=lV ht
   rw[ByteArray.size_append] at a8
   simp only[rg,go_sem,seval,Prod.fst,a1,a2,a6,bC,q32,ByteArray.size_append,mU,mV,mW,mX,mY]
   repeat' (first|with_reducible assumption|with_reducible refine And.intro ?_ ?_|intro _)
   all_goals first|omega|with_reducible assumption|skip
   refine⟨i+1,hlt,by omega,Le.of_eq ?_⟩
   rw[a9]
   simp[dP]
  ·have a2:((i:Int) < (l.length:Int))=False:=by simp;omega
   have a3:l.take i=l:=List.take_of_length_le hge
   simp only[rg,go_sem,seval,Prod.fst,a2,a3,bC,aN]
theorem UB (k:Nat):Sound Tryz.prog 21 (eu k):=by
 induction k with
 | zero=>exact Sound.none
 | succ k ih=>exact UA k ih
noncomputable def im :Spec:=Spec.of (ι:=F) [false] (fun i=>[.d (.agg i.enc)]) (fun i=>eM i) (fun i=>[.d (.one (.str (aN i)))]) (fun _=>[.gone])
theorem wM:∀ i j:F,(fun (i:F)=>([.d (.agg i.enc)]:List AV)) i=(fun (i:F)=>([.d (.agg i.enc)]:List AV)) j->i=j:=by
 intro t t' h
 simpa [ap,T.enc_eq,aq,F.enc_eq,ar,Tk.enc_eq,au,Gn.enc_eq,ao,and_assoc] using h
theorem Ga :(im).md=[false]:=rfl
theorem Gb  (t:F):(im).pre [.d (.agg t.enc)]=(eM t):=Spec.of_pre' wM t
theorem Gc :(im).alts=none:=rfl
theorem Gd  (t:F):(im).res [.d (.agg t.enc)]=[.d (.one (.str (aN t)))]:=Spec.of_res wM t
theorem Ge  (t:F):(im).out [.d (.agg t.enc)]=[.gone]:=Spec.of_out wM t
theorem UC:Sound Tryz.prog 21 im:=Sound.all (μ:=fun t=>SizeOf.sizeOf t) UB
noncomputable def fH :Spec:=Spec.of (ι:=F) [false] (fun i=>[.d (.agg i.enc)]) (fun i=>i.fit 140737488355328/\bW i/\aJ i<=1048577) (fun i=>[.d (.one (.str (cy i)))]) (fun _=>[.gone])
theorem oE:∀ i j:F,(fun (i:F)=>([.d (.agg i.enc)]:List AV)) i=(fun (i:F)=>([.d (.agg i.enc)]:List AV)) j->i=j:=by
 intro t t' h
 simpa [ap,T.enc_eq,aq,F.enc_eq,ar,Tk.enc_eq,au,Gn.enc_eq,ao,and_assoc] using h
theorem gw :(fH).md=[false]:=rfl
theorem gx  (t:F):(fH).pre [.d (.agg t.enc)]=(t.fit 140737488355328/\bW t/\aJ t<=1048577):=Spec.of_pre' oE t
theorem gy :(fH).alts=none:=rfl
theorem gz  (t:F):(fH).res [.d (.agg t.enc)]=[.d (.one (.str (cy t)))]:=Spec.of_res oE t
theorem gA  (t:F):(fH).out [.d (.agg t.enc)]=[.gone]:=Spec.of_out oE t
theorem UD:Sound Tryz.prog 8 fH:=by
 refine aQ (GOK.cons (l:=[(21,im)]) wB wE (GOK.cons FW UC GOK.nil)) Tryz.func8 (c:=Tryz.f8.body.getD .skip) rfl (n:=8) rfl Ua Uc (fun _=>by simp) ?_ ?_
 ·exact oE
 ·rintro t ⟨h1,h2,h3⟩
  by_cases c:okF t
  ·have h4:=uz c
   simp only[wJ,rg,go_sem,seval,Prod.fst,F.enc_len,c,cy,if_true,gq,gr,gt,gu,gv,Ga,Gb,Gc,Gd,Ge]
   repeat' (first|with_reducible assumption|with_reducible refine And.intro ?_ ?_|intro _)
   all_goals first|omega|with_reducible assumption|skip
  ·simp only[wJ,rg,go_sem,seval,Prod.fst,F.enc_len,c,cy,if_false,gq,gr,gt,gu,gv]
   repeat' (first|with_reducible assumption|with_reducible refine And.intro ?_ ?_|intro _)
   all_goals first|omega|with_reducible assumption|skip
set_option maxHeartbeats 2000000 in
theorem UE (hK:tabK) (hW:get? 0 Globs.G=some cf) (k:Nat) (hS:Sound Tryz.prog 20 (eu k)):Sound Tryz.prog 20 (eu (k+1)):=by
 refine aQ (GOK.cons (l:=[(20,eu k),(43,gp)]) BT (BW hK) (GOK.cons (l:=[(43,gp)]) FX hS (GOK.cons vF (DA hK) GOK.nil))) Tryz.func20 (c:=Tryz.f20.body.getD .skip) rfl (n:=51) rfl Ue Uf (fun _=>by simp) ?_ ?_
 ·exact oD
 ·rintro t ⟨h1,h4⟩
  have hT:=gX h1
  obtain⟨kk,n,s,v,l⟩:=t
  have hkid:=fun t ht=>BS h1 (t:=t) ht
  obtain⟨⟨d,h1⟩,h2⟩:=h1
  have e3 : SizeOf.sizeOf l < k := by have e : SizeOf.sizeOf (F.mk kk n s v l) < k + 1 := h4
                                      rw[F.mk.sizeOf_spec] at e;omega
  clear h4
  simp only[aM] at h1
  obtain⟨f1,f2,f3,f4,f5,f6,f7,f8,f9⟩:=h1
  simp only[aJ] at h2
  have f10:=lM (show 0<=aP kk by omega)
  have f14:=uv l
  have f11:=f4.2
  have f12:go v:=vI f7
  have f13:=mj f12
  have f15:=lU (n:=n) (by omega) (by omega)
  have hb:=qk (s:=s) (v:=v) (show 0<=kk/\kk<=21 by omega) ⟨f5,f6⟩ f4.2 f7
  have hz:∀ i,(aI kk n s v++aY (l.take i)).size<=40000:=fun i=>by
   have a:=ql (BR f8 i)
   have b:=uw l i
   rw[ByteArray.size_append];omega
  obtain⟨vk,vn,vs,vks,vl⟩:=v
  have q1:(ByteArray.mk #[61]).size=1:=rfl
  have q2:(ByteArray.mk #[46]).size=1:=rfl
  have q3:(ByteArray.mk #[58]).size=1:=rfl
  have q4:(ByteArray.mk #[91]).size=1:=rfl
  have q5:(ByteArray.mk #[93]).size=1:=rfl
  have q6:(ByteArray.mk #[109,97,107,101,58]).size=5:=rfl
  have a6:=dm (BN (i:=kk.toNat) (by omega))
  have i64n:i64 n:=by unfold i64;omega
  by_cases c2:kk=2
  ·subst c2
   have a7:(aa wtab).getD 2 []=[C.str ⟨#[]⟩]:=rfl
   simp only[mS,F.enc,T.enc,List.cons_append,List.nil_append,rg,go_sem,seval,Prod.fst,hW,cf,a7,bw,mT,bC,FZ,q1,vK,vL,vM,vN,vO]
   repeat' (first|with_reducible assumption|with_reducible refine And.intro ?_ ?_|intro _)
   all_goals first|omega|with_reducible assumption|skip
   refine aZ (ι:=Nat) (fun i=>l.length-i) (fun i=>i<=l.length)
    (fun i=>⟨[(3,.q (.c (.str (aI 2 n s (.mk vk vn vs vks vl)++aY (l.take i))))),(38,.q (.c (.row 9 (aB l)))),(39,.q (.c (.int .i64 l.length))),(40,.q (.c (.int .i64 i)))],
     [],[]⟩) 0 (Nat.zero_le _) ?_ ?_
   ·exact Le.sub (by simp[aY,iT,aI]) (by simp) (by simp)
   intro i hi
   rcases Nat.lt_or_ge i l.length with hlt|hge
   ·obtain⟨t,ht,_,hmem⟩:=aU hlt
    have a1:=cI ht
    have a2:((i:Int) < (l.length:Int))=True:=by simp;omega
    have a4:=bK hmem
    have a5:=hkid t hmem
    have a6:=F.enc_len t
    have a7:=gX a5
    have a8:=hz i
    have a9:=lV ht
    rw[ByteArray.size_append] at a8
    simp only[rg,go_sem,seval,Prod.fst,a1,a2,a6,bC,q32,ByteArray.size_append,mU,mV,mW,mX,mY]
    repeat' (first|with_reducible assumption|with_reducible refine And.intro ?_ ?_|intro _)
    all_goals first|omega|with_reducible assumption|skip
    refine⟨i+1,hlt,by omega,?_⟩
    rw[a9]
    exact Le.sub (by simp[dP]) (by simp) (by simp)
   ·have a2:((i:Int) < (l.length:Int))=False:=by simp;omega
    have a3:l.take i=l:=List.take_of_length_le hge
    simp only[rg,go_sem,seval,Prod.fst,a2,a3,bC,aN]
  by_cases c3:kk=3
  ·subst c3
   have a7:(aa wtab).getD 3 []=[C.str ⟨#[]⟩]:=rfl
   simp only[mS,F.enc,T.enc,List.cons_append,List.nil_append,rg,go_sem,seval,Prod.fst,hW,cf,a7,bw,mT,bC,q2,q3,ByteArray.size_append]
   repeat' (first|with_reducible assumption|with_reducible refine And.intro ?_ ?_|intro _)
   all_goals first|omega|with_reducible assumption|skip
   refine aZ (ι:=Nat) (fun i=>l.length-i) (fun i=>i<=l.length)
    (fun i=>⟨[(3,.q (.c (.str (aI 3 n s (.mk vk vn vs vks vl)++aY (l.take i))))),(38,.q (.c (.row 9 (aB l)))),(39,.q (.c (.int .i64 l.length))),(40,.q (.c (.int .i64 i)))],
     [],[]⟩) 0 (Nat.zero_le _) ?_ ?_
   ·exact Le.sub (by simp[aY,iT,aI]) (by simp) (by simp)
   intro i hi
   rcases Nat.lt_or_ge i l.length with hlt|hge
   ·obtain⟨t,ht,_,hmem⟩:=aU hlt
    have a1:=cI ht
    have a2:((i:Int) < (l.length:Int))=True:=by simp;omega
    have a4:=bK hmem
    have a5:=hkid t hmem
    have a6:=F.enc_len t
    have a7:=gX a5
    have a8:=hz i
    have a9:=lV ht
    rw[ByteArray.size_append] at a8
    simp only[rg,go_sem,seval,Prod.fst,a1,a2,a6,bC,q32,ByteArray.size_append,mU,mV,mW,mX,mY]
    repeat' (first|with_reducible assumption|with_reducible refine And.intro ?_ ?_|intro _)
    all_goals first|omega|with_reducible assumption|skip
    refine⟨i+1,hlt,by omega,?_⟩
    rw[a9]
    exact Le.sub (by simp[dP]) (by simp) (by simp)
   ·have a2:((i:Int) < (l.length:Int))=False:=by simp;omega
    have a3:l.take i=l:=List.take_of_length_le hge
    simp only[rg,go_sem,seval,Prod.fst,a2,a3,bC,aN]
  by_cases c4:kk=4
  ·subst c4
   have a7:(aa wtab).getD 4 []=[C.str ⟨#[]⟩]:=rfl
   simp only[mS,F.enc,T.enc,List.cons_append,List.nil_append,rg,go_sem,seval,Prod.fst,hW,cf,a7,bw,mT,bC,q4,q5,ByteArray.size_append,BU,BV,uB,uC,uD]
   repeat' (first|with_reducible assumption|with_reducible refine And.intro ?_ ?_|intro _)
   all_goals first|omega|with_reducible assumption|skip
   refine aZ (ι:=Nat) (fun i=>l.length-i) (fun i=>i<=l.length)
    (fun i=>⟨[(3,.q (.c (.str (aI 4 n s (.mk vk vn vs vks vl)++aY (l.take i))))),(38,.q (.c (.row 9 (aB l)))),(39,.q (.c (.int .i64 l.length))),(40,.q (.c (.int .i64 i)))],
     [],[]⟩) 0 (Nat.zero_le _) ?_ ?_
   ·exact Le.sub (by simp[aY,iT,aI]) (by simp) (by simp)
   intro i hi
   rcases Nat.lt_or_ge i l.length with hlt|hge
   ·obtain⟨t,ht,_,hmem⟩:=aU hlt
    have a1:=cI ht
    have a2:((i:Int) < (l.length:Int))=True:=by simp;omega
    have a4:=bK hmem
    have a5:=hkid t hmem
    have a6:=F.enc_len t
    have a7:=gX a5
    have a8:=hz i
    have a9:=lV ht
    rw[ByteArray.size_append] at a8
    simp only[rg,go_sem,seval,Prod.fst,a1,a2,a6,bC,q32,ByteArray.size_append,mU,mV,mW,mX,mY]
    repeat' (first|with_reducible assumption|with_reducible refine And.intro ?_ ?_|intro _)
    all_goals first|omega|with_reducible assumption|skip
    refine⟨i+1,hlt,by omega,?_⟩
    rw[a9]
    exact Le.sub (by simp[dP]) (by simp) (by simp)
   ·have a2:((i:Int) < (l.length:Int))=False:=by simp;omega
    have a3:l.take i=l:=List.take_of_length_le hge
    simp only[rg,go_sem,seval,Prod.fst,a2,a3,bC,aN]
  by_cases c21:kk=21
  ·subst c21
   have a7:(aa wtab).getD 21 []=[C.str ⟨#[]⟩]:=rfl
   simp only[mS,F.enc,T.enc,List.cons_append,List.nil_append,rg,go_sem,seval,Prod.fst,hW,cf,a7,bw,mT,bC,q6]
   repeat' (first|with_reducible assumption|with_reducible refine And.intro ?_ ?_|intro _)
   all_goals first|omega|with_reducible assumption|skip
   refine aZ (ι:=Nat) (fun i=>l.length-i) (fun i=>i<=l.length)
    (fun i=>⟨[(3,.q (.c (.str (aI 21 n s (.mk vk vn vs vks vl)++aY (l.take i))))),(38,.q (.c (.row 9 (aB l)))),(39,.q (.c (.int .i64 l.length))),(40,.q (.c (.int .i64 i)))],
     [],[]⟩) 0 (Nat.zero_le _) ?_ ?_
   ·exact Le.sub (by simp[aY,iT,aI]) (by simp) (by simp)
   intro i hi
   rcases Nat.lt_or_ge i l.length with hlt|hge
   ·obtain⟨t,ht,_,hmem⟩:=aU hlt
    have a1:=cI ht
    have a2:((i:Int) < (l.length:Int))=True:=by simp;omega
    have a4:=bK hmem
    have a5:=hkid t hmem
    have a6:=F.enc_len t
    have a7:=gX a5
    have a8:=hz i
    have a9:=lV ht
    rw[ByteArray.size_append] at a8
    simp only[rg,go_sem,seval,Prod.fst,a1,a2,a6,bC,q32,ByteArray.size_append,mU,mV,mW,mX,mY]
    repeat' (first|with_reducible assumption|with_reducible refine And.intro ?_ ?_|intro _)
    all_goals first|omega|with_reducible assumption|skip
    refine⟨i+1,hlt,by omega,?_⟩
    rw[a9]
    exact Le.sub (by simp[dP]) (by simp) (by simp)
   ·have a2:((i:Int) < (l.length:Int))=False:=by simp;omega
    have a3:l.take i=l:=List.take_of_length_le hge
    simp only[rg,go_sem,seval,Prod.fst,a2,a3,bC,aN]
  have b2:(kk=2)=False:=eq_false c2
  have b3:(kk=3)=False:=eq_false c3
  have b4:(kk=4)=False:=eq_false c4
  have b5:(kk=21)=False:=eq_false c21
  ·simp only[mS,F.enc,T.enc,List.cons_append,List.nil_append,rg,go_sem,seval,Prod.fst,hW,cf,a6,b2,b3,b4,b5,bw,mT,bC]
   repeat' (first|with_reducible assumption|with_reducible refine And.intro ?_ ?_|intro _)
   all_goals first|omega|with_reducible assumption|skip
   refine aZ (ι:=Nat) (fun i=>l.length-i) (fun i=>i<=l.length)
    (fun i=>⟨[(3,.q (.c (.str (aI kk n s (.mk vk vn vs vks vl)++aY (l.take i))))),(38,.q (.c (.row 9 (aB l)))),(39,.q (.c (.int .i64 l.length))),(40,.q (.c (.int .i64 i)))],
     [],[]⟩) 0 (Nat.zero_le _) ?_ ?_
   ·exact Le.sub (by simp[aY,iT,aI,c2,c3,c4,c21]) (by simp) (by simp)
   intro i hi
   rcases Nat.lt_or_ge i l.length with hlt|hge
   ·obtain⟨t,ht,_,hmem⟩:=aU hlt
    have a1:=cI ht
    have a2:((i:Int) < (l.length:Int))=True:=by simp;omega
    have a4:=bK hmem
    have a5:=hkid t hmem
    have a6:=F.enc_len t
    have a7:=gX a5
    have a8:=hz i
    have a9:=lV ht
    rw[ByteArray.size_append] at a8
    simp only[rg,go_sem,seval,Prod.fst,a1,a2,a6,bC,q32,ByteArray.size_append,mU,mV,mW,mX,mY]
    repeat' (first|with_reducible assumption|with_reducible refine And.intro ?_ ?_|intro _)
    all_goals first|omega|with_reducible assumption|skip
    refine⟨i+1,hlt,by omega,?_⟩
    rw[a9]
    exact Le.sub (by simp[dP]) (by simp) (by simp)
   ·have a2:((i:Int) < (l.length:Int))=False:=by simp;omega
    have a3:l.take i=l:=List.take_of_length_le hge
    simp only[rg,go_sem,seval,Prod.fst,a2,a3,bC,aN]
theorem UF (hK:tabK) (hW:get? 0 Globs.G=some cf) (k:Nat):Sound Tryz.prog 20 (eu k):=by
 induction k with
 | zero=>exact Sound.none
 | succ k ih=>exact UE hK hW k ih
theorem UG (hK:tabK) (hW:get? 0 Globs.G=some cf):Sound Tryz.prog 20 im:=Sound.all (μ:=fun t=>SizeOf.sizeOf t) (UF hK hW)
theorem Gf (hK:tabK) (hW:get? 0 Globs.G=some cf) (hG:get? 1 Globs.G=some dq):Sound Tryz.prog 7 fH:=by
 refine aQ (GOK.cons (l:=[(20,im)]) FM (FT hG) (GOK.cons FX (UG hK hW) GOK.nil)) Tryz.func7 (c:=Tryz.f7.body.getD .skip) rfl (n:=8) rfl Ug Uh (fun _=>by simp) ?_ ?_
 ·exact oE
 ·rintro t ⟨h1,h2,h3⟩
  by_cases c:okF t
  ·have h4:=uz c
   have e:((aV t 1 16).1=true)=True:=eq_true ((qg t).2 c)
   simp only[wK,rg,go_sem,seval,Prod.fst,F.enc_len,e,c,cy,if_true,mM,mN,mO,mP,mQ,Ga,Gb,Gc,Gd,Ge]
   repeat' (first|with_reducible assumption|with_reducible refine And.intro ?_ ?_|intro _)
   all_goals first|omega|with_reducible assumption|skip
  ·have e:((aV t 1 16).1=true)=False:=eq_false (fun h=>c ((qg t).1 h))
   simp only[wK,rg,go_sem,seval,Prod.fst,F.enc_len,e,c,cy,if_false,mM,mN,mO,mP,mQ]
   repeat' (first|with_reducible assumption|with_reducible refine And.intro ?_ ?_|intro _)
   all_goals first|omega|with_reducible assumption|skip
end Go.Proofs.Pw
namespace Go.Proofs.Pw
open Go.RowKit
variable [Globs]
theorem UH:aw Tryz.prog 25=true:=by kernel_rfl
theorem UI:aw Tryz.prog 82=true:=by kernel_rfl
def oF [Globs]:Prop:=∃ m:Int,(2,C.int .i64 m) ∈ Globs.G
theorem rD:∀ (s:List UInt8) (k:Nat),Lib.count s [32]=k->Lib.splitK [32] 0 k s=bH s
 | [],k,h=>by
   rw[Lib.count_miss (by simp[Lib.index])] at h
   subst h;rfl
 | c::r,k,h=>by
   by_cases e:c=32
   ·subst e
    rw[Lib.count_cons_eq] at h
    obtain⟨j,rfl⟩:∃ j,k=j+1:=⟨k-1,by omega⟩
    have hix:Lib.index (32::r) [32]=((0:Nat):Int):=by rw[Lib.index];simp[List.isPrefixOf]
    rw[Lib.splitK,hix,bH,if_pos rfl,if_neg (by decide)]
    have:=rD r j (by omega)
    rw[<-this];simp
   ·rw[Lib.count_cons_ne c 32 r e] at h
    have hp:([32]:List UInt8).isPrefixOf (c::r)=false:=by simp[List.isPrefixOf,Ne.symm e]
    have hix:Lib.index (c::r) [32]=if Lib.index r [32] == -1 then -1 else Lib.index r [32]+1:=by rw[Lib.index,hp];simp
    cases k with
    | zero =>
      have:=rD r 0 h
      rw[Lib.splitK] at this ⊢
      rw[bH,if_neg e,<-this]
    | succ j =>
      have ih:=rD r (j+1) h
      have hm:Lib.index r [32]≠-1:=fun m=>by rw[Lib.count_miss m] at h;omega
      have hge:=Lib.index_ge r [32]
      obtain⟨i,hi⟩:∃ i:Nat,Lib.index r [32]=i:=⟨(Lib.index r [32]).toNat,by omega⟩
      have hix':Lib.index (c::r) [32]=((i+1:Nat):Int):=by rw[hix,if_neg (fun e=>hm (beq_iff_eq.1 e)),hi];omega
      have n1:¬ (((i:Nat):Int) == -1)=true:=fun e=>by have:=beq_iff_eq.1 e;omega
      have n2:¬ (((i+1:Nat):Int) == -1)=true:=fun e=>by have:=beq_iff_eq.1 e;omega
      rw[Lib.splitK,hi,if_neg n1] at ih
      rw[Lib.splitK,hix',if_neg n2,bH,if_neg e,<-ih]
      simp
theorem Gg (s:ByteArray):Lib.splitB ⟨#[32]⟩ 0 (Lib.countB s ⟨#[32]⟩) s=aR s:=by
 have h:=Lib.splitB_data ⟨#[32]⟩ 0 (Lib.countB s ⟨#[32]⟩) s
 have e:(⟨#[32]⟩:ByteArray).data.toList=[32]:=rfl
 rw[e,rD _ _ rfl] at h
 have h2:=ET (Lib.splitB ⟨#[32]⟩ 0 (Lib.countB s ⟨#[32]⟩) s)
 rw[<-h2]
 exact congrArg (List.map bL) h
theorem UJ (s:ByteArray):(aR s).length=Lib.countB s ⟨#[32]⟩+1:=by
 rw[<-Gg];exact Lib.splitB_all ⟨#[32]⟩ (by decide) 0 _ s rfl
noncomputable def mZ :Spec:=Spec.of (ι:=ByteArray) [false,false] (fun i=>[.d (.one (.str i)),.d (.one (.str ⟨#[32]⟩))]) (fun i=>ab 1000000 i.size) (fun i=>[.d (.one (.row 1 (aa (aR i))))]) (fun _=>[.gone,.gone])
theorem wN:∀ i j:ByteArray,(fun (i:ByteArray)=>([.d (.one (.str i)),.d (.one (.str ⟨#[32]⟩))]:List AV)) i=(fun (i:ByteArray)=>([.d (.one (.str i)),.d (.one (.str ⟨#[32]⟩))]:List AV)) j->i=j:=by
 intro s s' h
 simpa [ap,T.enc_eq,aq,F.enc_eq,ar,Tk.enc_eq,au,Gn.enc_eq,ao,and_assoc] using h
theorem wO :(mZ).md=[false,false]:=rfl
theorem wP  (s:ByteArray):(mZ).pre [.d (.one (.str s)),.d (.one (.str ⟨#[32]⟩))]=(ab 1000000 s.size):=Spec.of_pre' wN s
theorem rE :(mZ).alts=none:=rfl
theorem rF  (s:ByteArray):(mZ).res [.d (.one (.str s)),.d (.one (.str ⟨#[32]⟩))]=[.d (.one (.row 1 (aa (aR s))))]:=Spec.of_res wN s
theorem rG  (s:ByteArray):(mZ).out [.d (.one (.str s)),.d (.one (.str ⟨#[32]⟩))]=[.gone,.gone]:=Spec.of_out wN s
theorem UK (hM:oF):Sound Tryz.prog 25 mZ:=by
 rintro args ⟨s,rfl,hn⟩ w S vs fps hG hS hF ha hA
 simp only[ab] at hn
 obtain⟨m,hm⟩:=hM
 cases hA with
 | cons h1 h2 =>
   cases h2 with
   | cons h2 h3 =>
     cases h3
     obtain⟨hr1,hf1⟩:=h1
     obtain⟨hr2,hf2⟩:=h2
     cases hr1
     cases hr2
     obtain⟨_,u,e1,r1⟩:=hG.1 _ _ hm
     cases r1
     refine (Tryz.strings_Split s ⟨#[32]⟩ m w (by omega) e1 (by decide)).mono ?_
     rintro e w' ⟨rfl,rfl⟩
     rw[Gg,<-UJ]
     have hsz:∀ o:Obj,(w.alloc o).heap.size=w.heap.size+1:=fun o=>by show (w.heap.push _).size=_;simp
     have hnew:(w.alloc (.cells ((aR s).map Value.string).toArray 9)).heap[w.heap.size]?=some (.cells ((aR s).map Value.string).toArray 9):=by
      show (w.heap.push _)[w.heap.size]?=_
      simp
     have hget:∀ {i j:Nat} {e:List C} {c:C},(aa (aR s))[i]?=some e->e[j]?=some c->∃ x,(aR s)[i]?=some x/\j=0/\c=.str x:=fun {i j e c} he hj=>by
      unfold aa at he
      rw[List.getElem?_map] at he
      obtain⟨x,hx,rfl⟩:=Option.map_eq_some_iff.1 he
      cases j with
      | zero=>simp at hj;exact⟨x,hx,rfl,hj.symm⟩
      | succ j=>simp at hj
     have hrow:Rep (w.alloc (.cells ((aR s).map Value.string).toArray 9)) (fun g=>S g\/g=w.heap.size) (.row 1 (aa (aR s))) (.slice (some ⟨w.heap.size,0,none⟩) (aR s).length (aR s).length):=by
      have hl:(aa (aR s)).length=(aR s).length:=bw _
      have hh:=Rep.row (w:=w.alloc (.cells ((aR s).map Value.string).toArray 9)) (S:=fun g=>S g\/g=w.heap.size) 1 (aa (aR s)) ⟨w.heap.size,0,none⟩ (aR s).length (fun i=>Value.string ((aR s).getD i ⟨#[]⟩)) (by omega) (.inr rfl) ?_ ?_ ?_
      ·rw[hl] at hh;exact hh
      ·intro i e he
       unfold aa at he
       rw[List.getElem?_map] at he
       obtain⟨x,_,rfl⟩:=Option.map_eq_some_iff.1 he
       rfl
      ·intro i j e c he hj
       obtain⟨x,hx,hj0,rfl⟩:=hget he hj
       subst hj0
       have ha:(({ block:=w.heap.size,off:=0 }:Addr).add (i*1+0))=⟨w.heap.size,i,none⟩:=by
        unfold Addr.add
        split
        ·have:i=0:=by omega
         subst this;rfl
        ·simp
       rw[ha]
       have hi:((aR s).map Value.string).toArray[i]?=some (Value.string x):=by simp[hx]
       have hd:(aR s).getD (i*1+0) ⟨#[]⟩=x:=by simp[List.getD_eq_getElem?_getD,hx]
       rw[hd]
       unfold World.cell?
       rw[hnew]
       exact hi
      ·intro i j e c he hj
       obtain⟨x,hx,hj0,rfl⟩:=hget he hj
       subst hj0
       have:(aR s).getD (i*1+0) ⟨#[]⟩=x:=by simp[List.getD_eq_getElem?_getD,hx]
       rw[this];exact .str x
     refine⟨_,_,(Spec.may_none rE).2 ⟨(rF s).symm,(rG s).symm⟩,_,fun g=>S g\/g=w.heap.size,[fun _=>False],_,rfl,⟨hrow,fun _ h=>h⟩,.cons hf1 (.cons hf2 .nil),?_,?_,?_,?_,Fr.below _ ((Below.refl _ _).alloc (Nat.le_refl _) _)⟩
     ·rintro g (h|rfl)
      ·exact .inl h
      ·exact .inr (.inl (Nat.le_refl _))
     ·rintro g (h|rfl)
      ·have:=hS g h;rw[hsz];omega
      ·rw[hsz];omega
     ·refine uT ?_
      simp only[List.cons_append,List.nil_append,List.mem_cons,List.not_mem_nil,or_false]
      rintro q (rfl|rfl|rfl) g
      ·exact id
      ·exact hf1 g
      ·exact hf2 g
     ·rintro g ⟨q,hq,hg⟩
      simp only[List.cons_append,List.nil_append,List.mem_cons,List.not_mem_nil,or_false] at hq
      rcases hq with rfl|rfl|rfl
      ·exact hg.elim
      ·exact (hf1 g hg).elim
      ·exact (hf2 g hg).elim
noncomputable def jo :Spec:=Spec.of (ι:=ByteArray) [false,false] (fun i=>[.d (.one (.str i)),.d (.one (.str ⟨#[58]⟩))]) (fun i=>ab 1000000 i.size) (fun i=>[.d (.one (.str (bL (jm (tL i)))))]) (fun _=>[.gone,.gone])
theorem wQ:∀ i j:ByteArray,(fun (i:ByteArray)=>([.d (.one (.str i)),.d (.one (.str ⟨#[58]⟩))]:List AV)) i=(fun (i:ByteArray)=>([.d (.one (.str i)),.d (.one (.str ⟨#[58]⟩))]:List AV)) j->i=j:=by
 intro s s' h
 simpa [ap,T.enc_eq,aq,F.enc_eq,ar,Tk.enc_eq,au,Gn.enc_eq,ao,and_assoc] using h
theorem UL :(jo).md=[false,false]:=rfl
theorem UM  (s:ByteArray):(jo).pre [.d (.one (.str s)),.d (.one (.str ⟨#[58]⟩))]=(ab 1000000 s.size):=Spec.of_pre' wQ s
theorem Gi :(jo).alts=none:=rfl
theorem Gj  (s:ByteArray):(jo).res [.d (.one (.str s)),.d (.one (.str ⟨#[58]⟩))]=[.d (.one (.str (bL (jm (tL s)))))]:=Spec.of_res wQ s
theorem Gk  (s:ByteArray):(jo).out [.d (.one (.str s)),.d (.one (.str ⟨#[58]⟩))]=[.gone,.gone]:=Spec.of_out wQ s
theorem UN:Sound Tryz.prog 82 jo:=by
 rintro args ⟨s,rfl,hn⟩ w S vs fps hG hS hF ha hA
 simp only[ab] at hn
 cases hA with
 | cons h1 h2 =>
   cases h2 with
   | cons h2 h3 =>
     cases h3
     obtain⟨hr1,hf1⟩:=h1
     obtain⟨hr2,hf2⟩:=h2
     cases hr1
     cases hr2
     refine (Tryz.strings_TrimSuffix s ⟨#[58]⟩ w (by omega)).mono ?_
     rintro e w' ⟨rfl,rfl⟩
     refine⟨_,_,(Spec.may_none Gi).2 ⟨(Gj s).symm,(Gk s).symm⟩,qz (rfs:=[fun _=>False]) ⟨.str _,fun _ h=>h⟩ ?_ (.cons hf1 (.cons hf2 .nil)) hS (Below.refl _ _)⟩
     simp only[List.cons_append,List.nil_append,List.mem_cons,List.not_mem_nil,or_false]
     rintro q (rfl|rfl|rfl) g
     ·exact id
     ·exact hf1 g
     ·exact hf2 g
end Go.Proofs.Pw
namespace Go.Proofs.Pw
theorem UO (l:List UInt8):(jm l).length<=l.length:=by
 unfold jm Lib.trimSuffix
 split <;> simp
theorem Gm (k:Int):bG k<=3:=by
 unfold bG
 by_cases h:k.toNat < 22
 ·have:∀ i:Fin 22,(ktab.getD i.val 0).toNat<=3:=by decide
  exact this ⟨k.toNat,h⟩
 ·have:ktab.getD k.toNat 0=0:=by
   rw[List.getD_eq_getElem?_getD,List.getElem?_eq_none (show ktab.length<=k.toNat by show 22<=_;omega)];rfl
  rw[this];simp
def hdB (B:Int) (h:Hd):Prop:=(0<=h.1/\h.1<=21)/\i64 h.2.1/\(h.2.2.1.size:Int)<=B/\okT h.2.2.2
theorem Gp {B:Int} {w:ByteArray} (h:(w.size:Int)<=B):hdB B (hdI w):=by
 have hz:((⟨#[]⟩:ByteArray).size)=0:=rfl
 have hl:(tL w).length=w.size:=fY w
 have i0:i64 0:=by unfold i64;omega
 have hB:(((⟨#[]⟩:ByteArray).size:Nat):Int)<=B:=by rw[hz];omega
 letI:Globs:=⟨[],[]⟩
 have hr:=uk (x:=w) (l:=wtab.tail) (i:=0)
 have hr2:wtab.tail.length=21:=rfl
 rw[hr2] at hr
 unfold hdI
 split
 ·exact⟨by simp,i0,hB,OS _⟩
 split
 ·refine⟨by simp,i0,?_,fG⟩
  simp only;rw[ft,List.length_drop];omega
 split
 ·refine⟨by simp,i0,?_,fG⟩
  have:=UO ((tL w).drop 1)
  simp only[List.length_drop] at this ⊢;rw[ft];omega
 split
 ·exact⟨by simp,CD _,hB,fG⟩
 ·exact⟨by simp only;omega,i0,hB,fG⟩
def fB (B:Int) (m:Nat) (t:F):Prop:=t.fit B/\bW t/\aJ t<=m
def fBL (B:Int) (m:Nat) (l:List F):Prop:=bu B l/\eK l/\aD l<=m
theorem Gq {B:Int} {m:Nat} {h:Hd} {l:List F} (hB:1000<=B) (hh:hdB B h) (hl:fBL B m l) (h3:l.length<=3):fB B (1+m) (eV h l):=by
 obtain⟨k,n,s,v⟩:=h
 obtain⟨⟨h1,h2⟩,h4,h5,h6⟩:=hh
 obtain⟨g1,g2,g3⟩:=hl
 simp only at h1 h2 h4 h5 h6
 refine⟨⟨by unfold i64;omega,h4,h5,T.fit_mono (by omega) (Nl h6),by unfold ab;omega,g1⟩,?_,?_⟩
 ·simp only[eV,bW];exact⟨by have:=lQ h6;omega,g2⟩
 ·simp only[eV,aJ];omega
theorem Gr {B:Int} {m:Nat} (hB:1000<=B) (hm:1<=m):fB B m F0:=by
 have:=Gq (B:=B) (m:=0) (h:=(0,0,⟨#[]⟩,T.zero)) (l:=[]) hB ⟨by simp,by show i64 0;unfold i64;omega,by show ((0:Nat):Int)<=B;omega,fG⟩ ⟨trivial,trivial,by simp[aD]⟩ (by simp)
 exact⟨this.1,this.2.1,by have:=this.2.2;unfold F0;simp only[eV,T.zero] at this;omega⟩
theorem Gs {B:Int} {f:List ByteArray->F × List ByteArray} {M:Nat} (hf:∀ ws:List ByteArray,(∀ w ∈ ws,(w.size:Int)<=B)->(f ws).2 <:+ ws/\fB B M (f ws).1) :
 ∀ (n:Nat) (ws:List ByteArray),(∀ w ∈ ws,(w.size:Int)<=B)->(cm f n ws).2 <:+ ws/\(cm f n ws).1.length=n/\fBL B (n*M) (cm f n ws).1
 | 0,ws,_=>⟨List.suffix_refl _,rfl,trivial,trivial,by simp[cm,aD]⟩
 | n+1,ws,h=>by
   obtain⟨h1,h2,h3,h4⟩:=hf ws h
   obtain⟨g1,g2,g3,g4,g5⟩:=Gs hf n (f ws).2 (fun w hw=>h w (h1.subset hw))
   refine⟨g1.trans h1,by rw[cm];simp[g2],⟨h2,g3⟩,⟨h3,g4⟩,?_⟩
   simp only[cm,aD]
   rw[Nat.succ_mul];omega
theorem wR {B:Int} (hB:1000<=B):∀ (d:Nat) (ws:List ByteArray),(∀ w ∈ ws,(w.size:Int)<=B)->(rdF d ws).2 <:+ ws/\fB B (4 ^ d) (rdF d ws).1
 | 0,ws,_=>⟨List.nil_suffix,Gr hB (by simp)⟩
 | d+1,[],_=>⟨List.nil_suffix,Gr hB (Nat.one_le_pow _ _ (by omega))⟩
 | d+1,w::ws,h=>by
   obtain⟨g1,g2,g3⟩:=Gs (wR hB d) (bG (hdI w).1) ws (fun x hx=>h x (List.mem_cons_of_mem _ hx))
   have hk:=Gm (hdI w).1
   have:=Gq hB (Gp (h w (by simp))) g3 (by omega)
   refine⟨g1.trans (List.suffix_cons _ _),this.1,this.2.1,?_⟩
   have h2:=this.2.2
   have h3:bG (hdI w).1*4 ^ d<=3*4 ^ d:=Nat.mul_le_mul_right _ hk
   have h4:1<=4 ^ d:=Nat.one_le_pow _ _ (by omega)
   have h5:4 ^ (d+1)=4*4 ^ d:=by rw[Nat.pow_succ];omega
   rw[rdF]
   simp only at h2 ⊢
   omega
end Go.Proofs.Pw
