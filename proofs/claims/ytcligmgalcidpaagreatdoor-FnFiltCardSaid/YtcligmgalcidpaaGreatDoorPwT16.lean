/- The reference's reader of trees: its small functions. -/
import Derived.Test.YtcligmgalcidpaaGreatDoorPwT15
import Derived.Test.YtcligmgalcidpaaGreatDoorPwT10
set_option linter.unusedSimpArgs false
set_option linter.unusedVariables false
set_option linter.unusedSectionVars false
set_option maxRecDepth 20000
namespace Go.Proofs.Pw
variable [Globs]
def xc:X:=(.seq (.reg [xS 6 (.mv (.k (.c (.bool false))))] none [0,1,2]) (.seq (.reg [xM 7 1,xS 8 (.bin false .geq (.t 7) (xK 0)),xM 9 8,xG 10 9 (.mv (.t 1)),xG 11 9 (.mv (.t 0)),xG 12 9 (.len (.t 11) true),xG 13 9 (.bin false .lss (.t 10) (.t 12)),xS 14 (.pick (.t 9) (.t 13) (.k (.c (.bool false)))),xM 15 14,xG 16 15 (.mv (.t 0)),xG 17 15 (.mv (.t 1)),xG 18 15 (.idx (.t 16) (.t 17)),xG 19 15 (.mv (.t 2)),xG 20 15 (.bin false .eql (.t 18) (.t 19)),xS 21 (.pick (.t 15) (.t 20) (.k (.c (.bool false)))),xM 6 21] none [6]) .ret))
theorem RI:ao Tryz.prog 22 (Tryz.f131.body.getD .skip) xc=true:=by kernel_rfl
theorem RJ:ap Tryz.prog Tryz.f131.results.toList [.tmp 6]=true:=by kernel_rfl
theorem xd:ax Tryz.prog 131=true:=by kernel_rfl
def Fp:X:=(.seq (.reg [xS 4 (.mv (xK 0))] none [0,1]) (.seq (.block 0 (.loop (.seq (.seq (.reg [xM 5 1,xM 6 0,xS 7 (.len (.t 6) true),xS 8 (.bin false .lss (.t 5) (.t 7)),xM 9 8,xG 10 9 (.mv (.t 0)),xG 11 9 (.mv (.t 1)),xG 12 9 (.idx (.t 10) (.t 11)),xG 13 9 (.bin false .geq (.t 12) (.k (.c (.int .u8 97)))),xS 14 (.pick (.t 9) (.t 13) (.k (.c (.bool false)))),xM 15 14,xG 16 15 (.mv (.t 0)),xG 17 15 (.mv (.t 1)),xG 18 15 (.idx (.t 16) (.t 17)),xG 19 15 (.bin false .leq (.t 18) (.k (.c (.int .u8 122)))),xS 20 (.pick (.t 15) (.t 19) (.k (.c (.bool false))))] none [0,1,20]) (.cond (.t 20) .skip (.exit 0))) (.block 1 (.reg [xM 21 1,xS 22 (.bin false .add (.t 21) (xK 1)),xM 1 22] none [0,1]))))) (.seq (.reg [xM 23 1,xM 4 23] none [4]) .ret)))
theorem RK:ao Tryz.prog 24 (Tryz.f130.body.getD .skip) Fp=true:=by kernel_rfl
theorem RL:ap Tryz.prog Tryz.f130.results.toList [.tmp 4]=true:=by kernel_rfl
theorem xf:ax Tryz.prog 130=true:=by kernel_rfl
def gf:X:=(.seq (.reg [xS 2 (.mv (xK 0)),xS 3 (.mv (.k (.c (.bool false))))] none [0]) (.seq (.reg [xM 7 0,xS 8 (.len (.t 7) true),xS 9 (.bin false .gtr (.t 8) (xK 0)),xM 10 9,xG 11 10 (.mv (.t 0)),xG 12 10 (.idx (.t 11) (xK 0)),xG 13 10 (.bin false .eql (.t 12) (.k (.c (.int .u8 45)))),xS 14 (.pick (.t 10) (.t 13) (.k (.c (.bool false)))),xM 4 14] none [0,4]) (.seq (.seq (.reg [xM 15 4] none [0,4,15]) (.cond (.t 15) (.reg [xM 16 0,xS 17 (.sub (.t 16) (some (xK 1)) none 0),xM 0 17] none [0,4]) .skip)) (.seq (.seq (.reg [xM 18 0,xS 19 (.len (.t 18) true),xS 20 (.bin false .eql (.t 19) (xK 0)),xM 21 20,xH 22 21 (.mv (.t 0)),xH 23 21 (.len (.t 22) true),xH 24 21 (.bin false .gtr (.t 23) (xK 17)),xS 25 (.pick (.t 21) (.k (.c (.bool true))) (.t 24)),xM 26 25,xH 27 26 (.mv (.t 0)),xH 28 26 (.idx (.t 27) (xK 0)),xH 29 26 (.bin false .eql (.t 28) (.k (.c (.int .u8 48)))),xH 30 26 (.mv (.t 29)),xG 31 30 (.mv (.t 0)),xG 32 30 (.len (.t 31) true),xG 33 30 (.bin false .gtr (.t 32) (xK 1)),xG 34 30 (.mv (.t 33)),xH 35 34 (.mv (.t 4)),xG 36 30 (.pick (.t 34) (.k (.c (.bool true))) (.t 35)),xH 37 26 (.pick (.t 30) (.t 36) (.k (.c (.bool false)))),xS 38 (.pick (.t 26) (.k (.c (.bool true))) (.t 37))] none [0,4,38]) (.cond (.t 38) (.seq (.reg [xS 2 (.mv (xK 0)),xS 3 (.mv (.k (.c (.bool false))))] none [2,3]) .ret) .skip)) (.seq (.reg [xS 5 (.mv (xK 0))] none [0,4,5]) (.seq (.seq (.reg [xS 6 (.mv (xK 0))] none [0,4,5,6]) (.block 0 (.loop (.seq (.seq (.reg [xM 39 6,xM 40 0,xS 41 (.len (.t 40) true),xS 42 (.bin false .lss (.t 39) (.t 41))] none [0,4,5,6,42]) (.cond (.t 42) .skip (.exit 0))) (.seq (.block 1 (.seq (.seq (.reg [xM 45 0,xM 46 6,xS 47 (.idx (.t 45) (.t 46)),xS 48 (.bin false .lss (.t 47) (.k (.c (.int .u8 48)))),xM 49 48,xH 50 49 (.mv (.t 0)),xH 51 49 (.mv (.t 6)),xH 52 49 (.idx (.t 50) (.t 51)),xH 53 49 (.bin false .gtr (.t 52) (.k (.c (.int .u8 57)))),xS 54 (.pick (.t 49) (.k (.c (.bool true))) (.t 53))] none [0,4,5,6,54]) (.cond (.t 54) (.seq (.reg [xS 2 (.mv (xK 0)),xS 3 (.mv (.k (.c (.bool false))))] none [2,3]) .ret) .skip)) (.reg [xM 55 5,xS 56 (.bin false .mul (.t 55) (xK 10)),xM 57 0,xM 58 6,xS 59 (.idx (.t 57) (.t 58)),xS 60 (.bin false .sub (.t 59) (.k (.c (.int .u8 48)))),xS 61 (.conv .i64 (.t 60)),xS 62 (.bin false .add (.t 56) (.t 61)),xM 5 62] none [0,4,5,6]))) (.reg [xM 43 6,xS 44 (.bin false .add (.t 43) (xK 1)),xM 6 44] none [0,4,5,6])))))) (.seq (.seq (.reg [xM 63 4] none [5,63]) (.cond (.t 63) (.reg [xM 64 5,xS 65 (.bin false .sub (xK 0) (.t 64)),xM 5 65] none [5]) .skip)) (.seq (.reg [xM 66 5,xM 2 66,xS 3 (.mv (.k (.c (.bool true))))] none [2,3]) .ret))))))))
theorem RM:ao Tryz.prog 67 (Tryz.f90.body.getD .skip) gf=true:=by kernel_rfl
theorem RN:ap Tryz.prog Tryz.f90.results.toList [.tmp 2,.tmp 3]=true:=by kernel_rfl
theorem Fq:ax Tryz.prog 90=true:=by kernel_rfl
def pt:X:=(.seq (.reg [xS 4 (.alloc xV),xS 5 (.mv (xK 0))] none [0,1,4]) (.seq (.reg [xM 7 0,xM 8 1,xS 9 (.call 130 [(.t 7),(.t 8)]),xM 6 9] none [0,1,4,6]) (.seq (.seq (.reg [xM 10 0,xM 11 1,xM 12 6,xS 13 (.sub (.t 10) (some (.t 11)) (some (.t 12)) 0)] none [4,6,13]) (.block 0 (.seq (.reg [xS 15 (.bin false .eql (.t 13) (.k (.c (.str ⟨#[110,117,108,108]⟩)))),xM 14 15] none [4,6,13,14]) (.cond (.t 14) (.seq (.reg [xS 16 (.build xV []),xM 17 6,xW 4 16 5,xM 5 17] none [4,5]) .ret) (.seq (.reg [xS 19 (.bin false .eql (.t 13) (.k (.c (.str ⟨#[102,97,108,115,101]⟩)))),xM 18 19] none [4,6,13,18]) (.cond (.t 18) (.seq (.reg [xS 20 (.build xV [(0,(xK 1),none)]),xM 21 6,xW 4 20 5,xM 5 21] none [4,5]) .ret) (.seq (.reg [xS 23 (.bin false .eql (.t 13) (.k (.c (.str ⟨#[116,114,117,101]⟩)))),xM 22 23] none [4,6,22]) (.cond (.t 22) (.seq (.reg [xS 24 (.build xV [(0,(xK 2),none)]),xM 25 6,xW 4 24 5,xM 5 25] none [4,5]) .ret) .skip)))))))) (.seq (.reg [xS 26 (.build xV []),xW 4 26 5,xS 5 (.mv (.k (.c (.int .i64 (-1)))))] none [4,5]) .ret))))
theorem RO:ao Tryz.prog 27 (Tryz.f132.body.getD .skip) pt=true:=by kernel_rfl
theorem RP:ap Tryz.prog Tryz.f132.results.toList [.cell 4 (some 5),.tmp 5]=true:=by kernel_rfl
theorem RQ:ax Tryz.prog 132=true:=by kernel_rfl
def xg:X:=(.seq (.reg [xS 4 (.alloc xV),xS 5 (.mv (xK 0))] none [0,1,4]) (.seq (.reg [xM 9 1,xM 6 9] none [0,1,4,6]) (.seq (.seq (.reg [xM 10 0,xM 11 6,xS 12 (.call 131 [(.t 10),(.t 11),(.k (.c (.int .u8 45)))])] none [0,1,4,6,12]) (.cond (.t 12) (.reg [xM 13 6,xS 14 (.bin false .add (.t 13) (xK 1)),xM 6 14] none [0,1,4,6]) .skip)) (.seq (.block 0 (.loop (.seq (.seq (.reg [xM 15 6,xM 16 0,xS 17 (.len (.t 16) true),xS 18 (.bin false .lss (.t 15) (.t 17)),xM 19 18,xG 20 19 (.mv (.t 0)),xG 21 19 (.mv (.t 6)),xG 22 19 (.idx (.t 20) (.t 21)),xG 23 19 (.bin false .geq (.t 22) (.k (.c (.int .u8 48)))),xS 24 (.pick (.t 19) (.t 23) (.k (.c (.bool false)))),xM 25 24,xG 26 25 (.mv (.t 0)),xG 27 25 (.mv (.t 6)),xG 28 25 (.idx (.t 26) (.t 27)),xG 29 25 (.bin false .leq (.t 28) (.k (.c (.int .u8 57)))),xS 30 (.pick (.t 25) (.t 29) (.k (.c (.bool false))))] none [0,1,4,6,30]) (.cond (.t 30) .skip (.exit 0))) (.block 1 (.reg [xM 31 6,xS 32 (.bin false .add (.t 31) (xK 1)),xM 6 32] none [0,1,4,6]))))) (.seq (.reg [xM 34 0,xM 35 1,xM 36 6,xS 37 (.sub (.t 34) (some (.t 35)) (some (.t 36)) 0),xS 38 (.call 90 [(.t 37)]),xM 33 38,xS 39 (.ext (.t 33) 0),xS 40 (.ext (.t 33) 1),xM 7 39,xM 8 40] none [4,6,7,8]) (.seq (.seq (.reg [xM 41 8,xS 42 (.not (.t 41))] none [4,6,7,42]) (.cond (.t 42) (.seq (.reg [xS 43 (.build xV []),xW 4 43 5,xS 5 (.mv (.k (.c (.int .i64 (-1)))))] none [4,5]) .ret) .skip)) (.seq (.reg [xM 44 7,xS 45 (.build xV [(0,(xK 3),none),(1,(.t 44),none)]),xM 46 6,xW 4 45 5,xM 5 46] none [4,5]) .ret)))))))
theorem RR:ao Tryz.prog 47 (Tryz.f133.body.getD .skip) xg=true:=by kernel_rfl
theorem RS:ap Tryz.prog Tryz.f133.results.toList [.cell 4 (some 5),.tmp 5]=true:=by kernel_rfl
theorem RT:ax Tryz.prog 133=true:=by kernel_rfl
theorem Fs {l:List UInt8} {a:Nat} {c x:UInt8} (h:l[a]?=some x):atB l a c=decide (x=c):=by
 unfold atB;rw[h]
 by_cases e:x=c
 ·subst e;simp
 ·simp[e]
theorem RU {l:List UInt8} {a:Nat} {c:UInt8} (h:l.length<=a):atB l a c=false:=by
 unfold atB;rw[List.getElem?_eq_none h];rfl
theorem RW (x:UInt8) (c:Int) (h:0<=c/\c<=255):((x.toNat:Int)=c)=(x=c.toNat.toUInt8):=propext (by
 constructor
 ·intro e
  have:c.toNat=x.toNat:=by omega
  rw[this];simp
 ·intro e
  have h2:(c.toNat.toUInt8).toNat=c.toNat:=by
   rw[Nat.toUInt8,UInt8.toNat_ofNat']
   omega
  rw[e,h2];omega)
noncomputable def gW :Spec:=Spec.of (ι:=ByteArray × Int × Int) [false,false,false] (fun i=>[.d (.one (.str i.1)),.d (.one (.int .i64 i.2.1)),.d (.one (.int .u8 i.2.2))]) (fun i=>aa 1000000 i.1.size/\0<=i.2.1/\0<=i.2.2/\i.2.2<=255) (fun i=>[.d (.one (.bool (atB (tL i.1) i.2.1.toNat i.2.2.toNat.toUInt8)))]) (fun _=>[.gone,.gone,.gone])
theorem rY:∀ i j:ByteArray × Int × Int,(fun (i:ByteArray × Int × Int)=>([.d (.one (.str i.1)),.d (.one (.int .i64 i.2.1)),.d (.one (.int .u8 i.2.2))]:List AV)) i=(fun (i:ByteArray × Int × Int)=>([.d (.one (.str i.1)),.d (.one (.int .i64 i.2.1)),.d (.one (.int .u8 i.2.2))]:List AV)) j->i=j:=by
 rintro⟨s,a,c⟩ ⟨s',a',c'⟩ h
 simp only[Prod.mk.injEq]
 simpa [ar,T.enc_eq,au,F.enc_eq,av,Tk.enc_eq,aw,Gn.enc_eq,aq,Int.natCast_inj] using h
theorem dn :(gW).md=[false,false,false]:=rfl
theorem dp  (s:ByteArray) (a:Int) (c:Int):(gW).pre [.d (.one (.str s)),.d (.one (.int .i64 a)),.d (.one (.int .u8 c))]=(aa 1000000 s.size/\0<=a/\0<=c/\c<=255):=Spec.of_pre' rY (s,a,c)
theorem dq :(gW).alts=none:=rfl
theorem du  (s:ByteArray) (a:Int) (c:Int):(gW).res [.d (.one (.str s)),.d (.one (.int .i64 a)),.d (.one (.int .u8 c))]=[.d (.one (.bool (atB (tL s) a.toNat c.toNat.toUInt8)))]:=Spec.of_res rY (s,a,c)
theorem dz  (s:ByteArray) (a:Int) (c:Int):(gW).out [.d (.one (.str s)),.d (.one (.int .i64 a)),.d (.one (.int .u8 c))]=[.gone,.gone,.gone]:=Spec.of_out rY (s,a,c)
theorem xh:Sound Tryz.prog 131 gW:=by
 refine aL GOK.nil Tryz.func131 (c:=Tryz.f131.body.getD .skip) rfl (n:=22) rfl RI RJ (fun _=>by simp) ?_ ?_
 ·exact rY
 ·rintro⟨s,a,c⟩ ⟨h1,h2,h3,h4⟩
  simp only[aa] at h1 h2 h3 h4
  have a0:(0<=a)=True:=eq_true h2
  rcases Nat.lt_or_ge a.toNat s.size with hlt|hge
  ·obtain⟨x,b1,b2,_,_⟩:=eR hlt
   have a1:(a < (s.size:Int))=True:=eq_true (by omega)
   have b3:=Fs (c:=c.toNat.toUInt8) b1
   have b4:=RW x c ⟨h3,h4⟩
   simp only[xc,rg,go_sem,seval,Prod.fst,a0,a1,b2,b3,b4]
   repeat' (first|with_reducible assumption|with_reducible refine And.intro ?_ ?_|intro _)
   all_goals first|omega|skip
  ·have a1:(a < (s.size:Int))=False:=eq_false (by omega)
   have b3:=RU (l:=tL s) (a:=a.toNat) (c:=c.toNat.toUInt8) (by rw[cI];exact hge)
   simp only[xc,rg,go_sem,seval,Prod.fst,a0,a1,b3]
   repeat' (first|with_reducible assumption|with_reducible refine And.intro ?_ ?_|intro _)
   all_goals first|omega|skip
theorem nh {p:UInt8->Bool} {l:List UInt8} {a:Nat} (h:l.length<=a\/∃ c r,l.drop a=c::r/\p c=false):al p l a=a:=by
 unfold al
 rcases h with h|⟨c,r,h1,h2⟩
 ·rw[List.drop_eq_nil_of_le h];rfl
 ·rw[h1,List.takeWhile_cons_of_neg (by rw[h2];simp)];rfl
theorem xi {p:UInt8->Bool} {l:List UInt8} {a:Nat} {c:UInt8} (h1:l.drop a=c::l.drop (a+1)) (h2:p c=true):al p l a=al p l (a+1):=by
 unfold al
 rw[h1,List.takeWhile_cons_of_pos h2,List.length_cons];omega
noncomputable def jZ :Spec:=Spec.of (ι:=ByteArray × Nat) [false,false] (fun i=>[.d (.one (.str i.1)),.d (.one (.int .i64 (i.2:Int)))]) (fun i=>aa 1000000 i.1.size/\i.2<=i.1.size) (fun i=>[.d (.one (.int .i64 (al aj (tL i.1) i.2:Int)))]) (fun _=>[.gone,.gone])
theorem rZ:∀ i j:ByteArray × Nat,(fun (i:ByteArray × Nat)=>([.d (.one (.str i.1)),.d (.one (.int .i64 (i.2:Int)))]:List AV)) i=(fun (i:ByteArray × Nat)=>([.d (.one (.str i.1)),.d (.one (.int .i64 (i.2:Int)))]:List AV)) j->i=j:=by
 rintro⟨s,a⟩ ⟨s',a'⟩ h
 simp only[Prod.mk.injEq]
 simpa [ar,T.enc_eq,au,F.enc_eq,av,Tk.enc_eq,aw,Gn.enc_eq,aq,Int.natCast_inj] using h
theorem gj :(jZ).md=[false,false]:=rfl
theorem gk  (s:ByteArray) (a:Nat):(jZ).pre [.d (.one (.str s)),.d (.one (.int .i64 (a:Int)))]=(aa 1000000 s.size/\a<=s.size):=Spec.of_pre' rZ (s,a)
theorem gn :(jZ).alts=none:=rfl
theorem gp  (s:ByteArray) (a:Nat):(jZ).res [.d (.one (.str s)),.d (.one (.int .i64 (a:Int)))]=[.d (.one (.int .i64 (al aj (tL s) a:Int)))]:=Spec.of_res rZ (s,a)
theorem gq  (s:ByteArray) (a:Nat):(jZ).out [.d (.one (.str s)),.d (.one (.int .i64 (a:Int)))]=[.gone,.gone]:=Spec.of_out rZ (s,a)
theorem xj:Sound Tryz.prog 130 jZ:=by
 refine aL GOK.nil Tryz.func130 (c:=Tryz.f130.body.getD .skip) rfl (n:=24) rfl RK RL (fun _=>by simp) ?_ ?_
 ·exact rZ
 ·rintro⟨s,a⟩ ⟨h1,h2⟩
  simp only[aa] at h1 h2
  have hl:=cI s
  simp only[Fp,rg,go_sem,seval,Prod.fst]
  repeat' (first|with_reducible assumption|with_reducible refine And.intro ?_ ?_|intro _)
  all_goals first|omega|skip
  refine aS (ι:=Nat) (fun i=>s.size-i) (fun i=>i<=s.size/\al aj (tL s) i=al aj (tL s) a)
   (fun i=>⟨[(0,.q (.c (.str s))),(1,.q (.c (.int .i64 (i:Int))))],[],[]⟩) a ⟨h2,rfl⟩ (Le.sub (by simp) (by simp) (by simp)) ?_
  rintro i ⟨g1,g2⟩
  rcases Nat.lt_or_ge i s.size with hlt|hge
  ·obtain⟨x,b1,b2,_,b4⟩:=eR hlt
   have a1:((i:Int) < (s.size:Int))=True:=eq_true (by omega)
   by_cases hx:aj x=true
   ·have hx':=hx
    unfold aj at hx'
    simp only[decide_eq_true_eq] at hx'
    have a2:((97:Int)<=x.toNat)=True:=eq_true (by omega)
    have a3:((x.toNat:Int)<=122)=True:=eq_true (by omega)
    simp only[rg,go_sem,seval,Prod.fst,a1,b2,a2,a3,Int.toNat_natCast]
    repeat' (first|with_reducible assumption|with_reducible refine And.intro ?_ ?_|intro _)
    all_goals first|omega|skip
    exact⟨i+1,⟨by omega,by rw[<-xi b4 hx];exact g2⟩,by omega,Le.sub (by simp) (by simp) (by simp)⟩
   ·have hx':aj x=false:=by simpa using hx
    have a5:=nh (p:=aj) (l:=tL s) (a:=i) (.inr ⟨x,_,b4,hx'⟩)
    rw[g2] at a5
    unfold aj at hx'
    simp only[decide_eq_false_iff_not] at hx'
    by_cases hx2:97<=x.toNat
    ·have a2:((97:Int)<=x.toNat)=True:=eq_true (by omega)
     have a3:((x.toNat:Int)<=122)=False:=eq_false (by omega)
     simp only[rg,go_sem,seval,Prod.fst,a1,b2,a2,a3,a5,Int.toNat_natCast]
     repeat' (first|with_reducible assumption|with_reducible refine And.intro ?_ ?_|intro _)
     all_goals first|omega|skip
    ·have a2:((97:Int)<=x.toNat)=False:=eq_false (by omega)
     simp only[rg,go_sem,seval,Prod.fst,a1,b2,a2,a5,Int.toNat_natCast]
     repeat' (first|with_reducible assumption|with_reducible refine And.intro ?_ ?_|intro _)
     all_goals first|omega|skip
  ·have a1:((i:Int) < (s.size:Int))=False:=eq_false (by omega)
   have a5:=nh (p:=aj) (l:=tL s) (a:=i) (.inl (by omega))
   rw[g2] at a5
   simp only[rg,go_sem,seval,Prod.fst,a1,a5,Int.toNat_natCast]
   repeat' (first|with_reducible assumption|with_reducible refine And.intro ?_ ?_|intro _)
   all_goals first|omega|skip
theorem Ft {m:List UInt8} {i:Nat} {x:UInt8} (h:m[i]?=some x):dv (m.take (i+1))=dv (m.take i)*10+(x.toNat-48):=by
 rw[List.take_add_one,h]
 exact rI _ _
theorem sa {m:List UInt8} {i:Nat} {x:UInt8} (h:m[i]?=some x):x ∈ m:=List.mem_of_getElem? h
theorem RY {s:List UInt8} (h:s.head?=some 45):bN s=if jT true s.tail then some (-(dv s.tail:Int)) else none:=by
 unfold bN;rw[if_pos h]
theorem Fu {s:List UInt8} (h:s.head?≠some 45):bN s=if jT false s then some (dv s:Int) else none:=by
 unfold bN;rw[if_neg h]
theorem xk {l:List UInt8} {x:UInt8} (h:l[0]?=some x):l.head?=some x:=by rw[List.head?_eq_getElem?];exact h
noncomputable def iP :Spec:=Spec.of (ι:=ByteArray) [false] (fun i=>[.d (.one (.str i))]) (fun i=>aa 1000000 i.size) (fun i=>[.d (.one (.int .i64 ((bN (tL i)).getD 0))),.d (.one (.bool (bN (tL i)).isSome))]) (fun _=>[.gone])
theorem sc:∀ i j:ByteArray,(fun (i:ByteArray)=>([.d (.one (.str i))]:List AV)) i=(fun (i:ByteArray)=>([.d (.one (.str i))]:List AV)) j->i=j:=by
 intro s s' h
 simpa [ar,T.enc_eq,au,F.enc_eq,av,Tk.enc_eq,aw,Gn.enc_eq,aq,Int.natCast_inj] using h
theorem eS :(iP).md=[false]:=rfl
theorem eT  (s:ByteArray):(iP).pre [.d (.one (.str s))]=(aa 1000000 s.size):=Spec.of_pre' sc s
theorem eU :(iP).alts=none:=rfl
theorem eV  (s:ByteArray):(iP).res [.d (.one (.str s))]=[.d (.one (.int .i64 ((bN (tL s)).getD 0))),.d (.one (.bool (bN (tL s)).isSome))]:=Spec.of_res sc s
theorem eW  (s:ByteArray):(iP).out [.d (.one (.str s))]=[.gone]:=Spec.of_out sc s
set_option maxHeartbeats 2000000 in
theorem Fv:Sound Tryz.prog 90 iP:=by
 refine aL GOK.nil Tryz.func90 (c:=Tryz.f90.body.getD .skip) rfl (n:=67) rfl RM RN (fun _=>by simp) ?_ ?_
 ·exact sc
 ·intro s h1
  simp only[aa] at h1
  have hl:=cI s
  rcases Nat.eq_zero_or_pos s.size with h0|hpos
  ·have a0:((0:Int) < (s.size:Int))=False:=eq_false (by omega)
   have a1:((s.size:Int)=0)=True:=eq_true (by omega)
   have hs:tL s=[]:=List.eq_nil_of_length_eq_zero (by omega)
   have e:bN (tL s)=none:=by
    rw[hs,Fu (by simp),if_neg (fun k=>k.1 rfl)]
   simp only[gf,rg,go_sem,seval,Prod.fst,a0,a1,e,Option.getD_none,Option.isSome_none]
   repeat' (first|with_reducible assumption|with_reducible refine And.intro ?_ ?_|intro _)
   all_goals first|omega|skip
  have a0:((0:Int) < (s.size:Int))=True:=eq_true (by omega)
  obtain⟨x,b1,b2,_,b4⟩:=eR hpos
  have hh:=xk b1
  by_cases c0:x=45
  ·subst c0
   have d1:((45:UInt8).toNat:Int)=45:=rfl
   have hR:=RY hh
   have hm:tL (s.extract 1 s.size)=(tL s).tail:=by rw[rS];simp
   have hz:(s.extract 1 s.size).size=s.size-1:=by rw[<-cI,hm,List.length_tail,hl]
   have hmin:Min.min s.size s.size-1=s.size-1:=by omega
   generalize hg:s.extract 1 s.size=m at *
   rw[<-hm] at hR
   have hlm:=cI m
   rw[hz] at hlm
   by_cases c1:s.size-1=0
   ·have a1:((m.size:Int)=0)=True:=eq_true (by omega)
    have hn:tL m=[]:=List.eq_nil_of_length_eq_zero (by omega)
    rw[if_neg (fun k=>k.1 hn)] at hR
    simp only[gf,rg,go_sem,seval,Prod.fst,a0,b2,d1,hg,a1,hR,Option.getD_none,Option.isSome_none]
    repeat' (first|with_reducible assumption|with_reducible refine And.intro ?_ ?_|intro _)
    all_goals first|omega|skip
   have a1:((m.size:Int)=0)=False:=eq_false (by omega)
   by_cases c2:17 < s.size-1
   ·have a2:((17:Int) < (m.size:Int))=True:=eq_true (by omega)
    rw[if_neg (fun k=>by have:=k.2.1;omega)] at hR
    simp only[gf,rg,go_sem,seval,Prod.fst,a0,b2,d1,hg,a1,a2,hR,Option.getD_none,Option.isSome_none]
    repeat' (first|with_reducible assumption|with_reducible refine And.intro ?_ ?_|intro _)
    all_goals first|omega|skip
   have a2:((17:Int) < (m.size:Int))=False:=eq_false (by omega)
   obtain⟨y,e1,e2,_,e4⟩:=eR (s:=m) (i:=0) (by omega)
   by_cases c3:y=48
   ·subst c3
    have d2:((48:UInt8).toNat:Int)=48:=rfl
    rw[if_neg (fun k=>k.2.2.1 ⟨xk e1,.inr rfl⟩)] at hR
    by_cases c4:1 < s.size-1
    ·have a3:((1:Int) < (m.size:Int))=True:=eq_true (by omega)
     simp only[gf,rg,go_sem,seval,Prod.fst,a0,b2,d1,hg,a1,a2,e2,d2,a3,hR,Option.getD_none,Option.isSome_none]
     repeat' (first|with_reducible assumption|with_reducible refine And.intro ?_ ?_|intro _)
     all_goals first|omega|skip
    ·have a3:((1:Int) < (m.size:Int))=False:=eq_false (by omega)
     simp only[gf,rg,go_sem,seval,Prod.fst,a0,b2,d1,hg,a1,a2,e2,d2,a3,hR,Option.getD_none,Option.isSome_none]
     repeat' (first|with_reducible assumption|with_reducible refine And.intro ?_ ?_|intro _)
     all_goals first|omega|skip
   have a4:((y.toNat:Int)=48)=False:=eq_false (fun e=>c3 (UInt8.toNat_inj.1 (by have:(48:UInt8).toNat=48:=rfl;omega)))
   have hN:(∀ b ∈ tL m,bh b=true)->jT true (tL m):=fun k=>⟨fun e=>by rw[e] at hlm;simp at hlm;omega,by omega,fun k=>by rw[xk e1] at k;exact c3 (Option.some.inj k.1),k⟩
   simp only[gf,rg,go_sem,seval,Prod.fst,a0,b2,d1,hg,a1,a2,e2,a4]
   repeat' (first|with_reducible assumption|with_reducible refine And.intro ?_ ?_|intro _)
   all_goals first|omega|skip
   refine aS (ι:=Nat) (fun i=>m.size-i) (fun i=>i<=m.size/\∀ b ∈ (tL m).take i,bh b=true)
    (fun i=>⟨[(0,.q (.c (.str m))),(4,.q (.c (.bool true))),(5,.q (.c (.int .i64 (dv ((tL m).take i):Int)))),(6,.q (.c (.int .i64 (i:Int))))],[],[]⟩) 0 ⟨Nat.zero_le _,by simp⟩ (Le.sub (by simp[dv]) (by simp) (by simp)) ?_
   rintro i ⟨g1,g2⟩
   have hd:=wM ((tL m).take i) g2
   have hp:10 ^ ((tL m).take i).length<=10 ^ 17:=Nat.pow_le_pow_right (by omega) (by rw[List.length_take];omega)
   rcases Nat.lt_or_ge i m.size with hlt|hge
   ·obtain⟨z,k1,k2,_,k4⟩:=eR hlt
    have a5:((i:Int) < (m.size:Int))=True:=eq_true (by omega)
    have hz2:z.toNat < 256:=UInt8.toNat_lt z
    have k5:=Ft k1
    have hp2:i < 17->10 ^ ((tL m).take i).length<=10 ^ 16:=fun hi=>Nat.pow_le_pow_right (by omega) (by rw[List.length_take];omega)
    have hp3:=hp2 (by omega)
    by_cases c5:z.toNat < 48
    ·have a6:((z.toNat:Int) < 48)=True:=eq_true (by omega)
     rw[if_neg (fun k=>by have:=k.2.2.2 z (sa k1);unfold bh at this;simp at this;omega)] at hR
     simp only[rg,go_sem,seval,Prod.fst,a5,k2,a6,hR,Int.toNat_natCast,Option.getD_none,Option.isSome_none]
     repeat' (first|with_reducible assumption|with_reducible refine And.intro ?_ ?_|intro _)
     all_goals first|omega|skip
    have a6:((z.toNat:Int) < 48)=False:=eq_false (by omega)
    by_cases c6:57 < z.toNat
    ·have a7:((57:Int) < (z.toNat:Int))=True:=eq_true (by omega)
     rw[if_neg (fun k=>by have:=k.2.2.2 z (sa k1);unfold bh at this;simp at this;omega)] at hR
     simp only[rg,go_sem,seval,Prod.fst,a5,k2,a6,a7,hR,Int.toNat_natCast,Option.getD_none,Option.isSome_none]
     repeat' (first|with_reducible assumption|with_reducible refine And.intro ?_ ?_|intro _)
     all_goals first|omega|skip
    have a7:((57:Int) < (z.toNat:Int))=False:=eq_false (by omega)
    simp only[rg,go_sem,seval,Prod.fst,a5,k2,a6,a7,Int.toNat_natCast]
    repeat' (first|with_reducible assumption|with_reducible refine And.intro ?_ ?_|intro _)
    all_goals first|omega|skip
    refine⟨i+1,⟨by omega,fun b hb=>?_⟩,by omega,Le.sub (by
     have k6:((dv ((tL m).take (i+1)):Nat):Int)=(dv ((tL m).take i):Int)*10+((z.toNat:Int)-48):=by rw[k5];omega
     simp[k6]) (by simp) (by simp)⟩
    rw[List.take_add_one,k1] at hb
    rcases List.mem_append.1 hb with hb|hb
    ·exact g2 b hb
    ·simp only[Option.toList_some,List.mem_singleton] at hb
     subst hb;unfold bh;simp;omega
   ·have a5:((i:Int) < (m.size:Int))=False:=eq_false (by omega)
    have k0:(tL m).take i=tL m:=List.take_of_length_le (by omega)
    rw[k0] at g2 hd hp
    rw[if_pos (hN g2)] at hR
    simp only[rg,go_sem,seval,Prod.fst,a5,k0,hR,Option.getD_some,Option.isSome_some]
    repeat' (first|with_reducible assumption|with_reducible refine And.intro ?_ ?_|intro _)
    all_goals first|omega|skip
  ·have d1:((x.toNat:Int)=45)=False:=eq_false (fun e=>c0 (UInt8.toNat_inj.1 (by have:(45:UInt8).toNat=45:=rfl;omega)))
   have hR:=Fu (s:=tL s) (by rw[hh];intro e;exact c0 (Option.some.inj e))
   have a1:((s.size:Int)=0)=False:=eq_false (by omega)
   by_cases c2:17 < s.size
   ·have a2:((17:Int) < (s.size:Int))=True:=eq_true (by omega)
    rw[if_neg (fun k=>by have:=k.2.1;omega)] at hR
    simp only[gf,rg,go_sem,seval,Prod.fst,a0,b2,d1,a1,a2,hR,Option.getD_none,Option.isSome_none]
    repeat' (first|with_reducible assumption|with_reducible refine And.intro ?_ ?_|intro _)
    all_goals first|omega|skip
   have a2:((17:Int) < (s.size:Int))=False:=eq_false (by omega)
   by_cases c3:x=48/\1 < s.size
   ·obtain⟨rfl,c4⟩:=c3
    have d2:((48:UInt8).toNat:Int)=48:=rfl
    have d3:((48:Int)=45)=False:=eq_false (by omega)
    rw[if_neg (fun k=>k.2.2.1 ⟨hh,.inl (by omega)⟩)] at hR
    have a3:((1:Int) < (s.size:Int))=True:=eq_true (by omega)
    simp only[gf,rg,go_sem,seval,Prod.fst,a0,b2,d2,d3,a1,a2,a3,hR,Option.getD_none,Option.isSome_none]
    repeat' (first|with_reducible assumption|with_reducible refine And.intro ?_ ?_|intro _)
    all_goals first|omega|skip
   have hN0:¬ ((tL s).head?=some 48/\(1 < (tL s).length\/false=true)):=fun k=>by
    rw[hh] at k
    rcases k.2 with k2|k2
    ·exact c3 ⟨Option.some.inj k.1,by omega⟩
    ·cases k2
   have hN:(∀ b ∈ tL s,bh b=true)->jT false (tL s):=fun k=>⟨fun e=>by rw[e] at hl;simp at hl;omega,by omega,hN0,k⟩
   have key:∀ i,i<=s.size->(∀ b ∈ (tL s).take i,bh b=true)->dv ((tL s).take i) < 100000000000000000/\(i < s.size->dv ((tL s).take i) < 10000000000000000):=fun i hi k=>by
    have hd:=wM ((tL s).take i) k
    have hp:10 ^ ((tL s).take i).length<=10 ^ 17:=Nat.pow_le_pow_right (by omega) (by rw[List.length_take];omega)
    refine⟨by omega,fun hlt=>?_⟩
    have hp:10 ^ ((tL s).take i).length<=10 ^ 16:=Nat.pow_le_pow_right (by omega) (by rw[List.length_take];omega)
    omega
   by_cases c4:x=48
   ·have c5:¬ 1 < s.size:=fun k=>c3 ⟨c4,k⟩
    subst c4
    have d2:((48:UInt8).toNat:Int)=48:=rfl
    have d3:((48:Int)=45)=False:=eq_false (by omega)
    have a3:((1:Int) < (s.size:Int))=False:=eq_false (by omega)
    have hs:tL s=[48]:=by
     have e5:(tL s).length=1:=by omega
     match ht:tL s,e5 with
     | [w],_=>rw[ht] at b1;simp at b1;rw[b1]
    have hR2:bN (tL s)=some 0:=by
     rw[hR,if_pos (hN (by rw[hs];intro b hb;simp at hb;subst hb;rfl)),hs];rfl
    simp only[gf,rg,go_sem,seval,Prod.fst,a0,b2,d2,d3,a1,a2,a3,hR2]
    repeat' (first|with_reducible assumption|with_reducible refine And.intro ?_ ?_|intro _)
    all_goals first|omega|skip
    refine aS (ι:=Nat) (fun i=>1-i) (fun i=>i<=1)
     (fun i=>⟨[(0,.q (.c (.str s))),(4,.q (.c (.bool false))),(5,.q (.c (.int .i64 0))),(6,.q (.c (.int .i64 (i:Int))))],[],[]⟩) 0 (by omega) (Le.sub (by simp) (by simp) (by simp)) ?_
    intro i hi
    rcases Nat.lt_or_ge i 1 with hlt|hge
    ·have:i=0:=by omega
     subst this
     have a5:((0:Int) < (s.size:Int))=True:=eq_true (by omega)
     simp only[rg,go_sem,seval,Prod.fst,a5,b2,d2,Int.toNat_natCast]
     repeat' (first|with_reducible assumption|with_reducible refine And.intro ?_ ?_|intro _)
     all_goals first|omega|skip
     exact⟨1,by omega,by omega,Le.sub (by simp) (by simp) (by simp)⟩
    ·have a5:((i:Int) < (s.size:Int))=False:=eq_false (by omega)
     simp only[rg,go_sem,seval,Prod.fst,a5,Option.getD_some,Option.isSome_some]
     repeat' (first|with_reducible assumption|with_reducible refine And.intro ?_ ?_|intro _)
     all_goals first|omega|skip
   have a4:((x.toNat:Int)=48)=False:=eq_false (fun e=>c4 (UInt8.toNat_inj.1 (by have:(48:UInt8).toNat=48:=rfl;omega)))
   simp only[gf,rg,go_sem,seval,Prod.fst,a0,b2,d1,a1,a2,a4]
   repeat' (first|with_reducible assumption|with_reducible refine And.intro ?_ ?_|intro _)
   all_goals first|omega|skip
   refine aS (ι:=Nat) (fun i=>s.size-i) (fun i=>i<=s.size/\∀ b ∈ (tL s).take i,bh b=true)
    (fun i=>⟨[(0,.q (.c (.str s))),(4,.q (.c (.bool false))),(5,.q (.c (.int .i64 (dv ((tL s).take i):Int)))),(6,.q (.c (.int .i64 (i:Int))))],[],[]⟩) 0 ⟨Nat.zero_le _,by simp⟩ (Le.sub (by simp[dv]) (by simp) (by simp)) ?_
   rintro i ⟨g1,g2⟩
   obtain⟨hd,hd2⟩:=key i g1 g2
   rcases Nat.lt_or_ge i s.size with hlt|hge
   ·obtain⟨z,k1,k2,_,k4⟩:=eR hlt
    have a5:((i:Int) < (s.size:Int))=True:=eq_true (by omega)
    have hz2:z.toNat < 256:=UInt8.toNat_lt z
    have k5:=Ft k1
    have hd3:=hd2 hlt
    by_cases c5:z.toNat < 48
    ·have a6:((z.toNat:Int) < 48)=True:=eq_true (by omega)
     rw[if_neg (fun k=>by have:=k.2.2.2 z (sa k1);unfold bh at this;simp at this;omega)] at hR
     simp only[rg,go_sem,seval,Prod.fst,a5,k2,a6,hR,Int.toNat_natCast,Option.getD_none,Option.isSome_none]
     repeat' (first|with_reducible assumption|with_reducible refine And.intro ?_ ?_|intro _)
     all_goals first|omega|skip
    have a6:((z.toNat:Int) < 48)=False:=eq_false (by omega)
    by_cases c6:57 < z.toNat
    ·have a7:((57:Int) < (z.toNat:Int))=True:=eq_true (by omega)
     rw[if_neg (fun k=>by have:=k.2.2.2 z (sa k1);unfold bh at this;simp at this;omega)] at hR
     simp only[rg,go_sem,seval,Prod.fst,a5,k2,a6,a7,hR,Int.toNat_natCast,Option.getD_none,Option.isSome_none]
     repeat' (first|with_reducible assumption|with_reducible refine And.intro ?_ ?_|intro _)
     all_goals first|omega|skip
    have a7:((57:Int) < (z.toNat:Int))=False:=eq_false (by omega)
    simp only[rg,go_sem,seval,Prod.fst,a5,k2,a6,a7,Int.toNat_natCast]
    repeat' (first|with_reducible assumption|with_reducible refine And.intro ?_ ?_|intro _)
    all_goals first|omega|skip
    refine⟨i+1,⟨by omega,fun b hb=>?_⟩,by omega,Le.sub (by
     have k6:((dv ((tL s).take (i+1)):Nat):Int)=(dv ((tL s).take i):Int)*10+((z.toNat:Int)-48):=by rw[k5];omega
     simp[k6]) (by simp) (by simp)⟩
    rw[List.take_add_one,k1] at hb
    rcases List.mem_append.1 hb with hb|hb
    ·exact g2 b hb
    ·simp only[Option.toList_some,List.mem_singleton] at hb
     subst hb;unfold bh;simp;omega
   ·have a5:((i:Int) < (s.size:Int))=False:=eq_false (by omega)
    have k0:(tL s).take i=tL s:=List.take_of_length_le (by omega)
    rw[k0] at g2 hd
    rw[if_pos (hN g2)] at hR
    simp only[rg,go_sem,seval,Prod.fst,a5,k0,hR,Option.getD_some,Option.isSome_some]
    repeat' (first|with_reducible assumption|with_reducible refine And.intro ?_ ?_|intro _)
    all_goals first|omega|skip
end Go.Proofs.Pw
namespace Go.Proofs.Pw
variable [Globs]
def pu:X:=(.seq (.reg [xS 10 (.alloc xV),xS 11 (.mv (xK 0))] none [0,1,2,3,4,10]) (.seq (.reg [xM 16 2,xS 17 (.build xV [(0,(.t 16),none)]),xS 12 (.alloc xV),xW 12 17 5] none [0,1,2,3,4,10,12]) (.seq (.seq (.reg [xM 18 0,xM 19 1,xM 20 3,xS 21 (.call 131 [(.t 18),(.t 19),(.t 20)])] none [0,1,2,3,4,10,12,21]) (.cond (.t 21) (.seq (.reg [xS 22 (.load (.t 12) (some 5)),xM 23 1,xS 24 (.bin false .add (.t 23) (xK 1)),xW 10 22 5,xM 11 24] none [10,11]) .ret) .skip)) (.seq (.block 0 (.loop (.seq (.seq (.reg [xS 25 (.fa (.t 12) 4),xL 26 25,xS 27 (.len (.t 26) false),xS 28 (.bin false .leq (.t 27) (xK 60))] none [0,1,2,3,4,10,12,28]) (.cond (.t 28) .skip (.exit 0))) (.block 1 (.seq (.seq (.reg [xM 29 2,xS 30 (.bin false .eql (.t 29) (xK 6))] none [0,1,2,3,4,10,12,30]) (.cond (.t 30) (.seq (.reg [xM 31 0,xM 32 1,xS 33 (.call 130 [(.t 31),(.t 32)]),xM 13 33] none [0,1,2,3,4,10,12,13]) (.seq (.seq (.reg [xM 34 0,xM 35 13,xS 36 (.call 131 [(.t 34),(.t 35),(.k (.c (.int .u8 58)))]),xS 37 (.not (.t 36))] none [0,1,2,3,4,10,12,13,37]) (.cond (.t 37) (.seq (.reg [xS 38 (.load (.t 12) (some 5)),xW 10 38 5,xS 11 (.mv (.k (.c (.int .i64 (-1)))))] none [10,11]) .ret) .skip)) (.seq (.reg [xS 39 (.fa (.t 12) 3),xL 40 39,xM 41 0,xM 42 1,xM 43 13,xS 44 (.sub (.t 41) (some (.t 42)) (some (.t 43)) 0),xS 45 (.bsl 1 [((.t 44),none)]),xS 46 (.app (.t 40) (.t 45) 1 16 []),xS 47 (.fa (.t 12) 3),⟨none,none,.st (.t 47) (.t 46) none⟩] (some 7) [0,2,3,4,10,12,13]) (.reg [xM 48 13,xS 49 (.bin false .add (.t 48) (xK 1)),xM 1 49] none [0,1,2,3,4,10,12])))) .skip)) (.seq (.reg [xM 51 0,xM 52 1,xM 53 4,xS 54 (.call 109 [(.t 51),(.t 52),(.t 53)]),xM 50 54,xS 55 (.ext (.t 50) 0),xS 56 (.ext (.t 50) 1),xS 14 (.alloc xV),xW 14 55 5,xM 15 56] none [0,2,3,4,10,12,14,15]) (.seq (.seq (.reg [xM 57 15,xS 58 (.bin false .lss (.t 57) (xK 0))] none [0,2,3,4,10,12,14,15,58]) (.cond (.t 58) (.seq (.reg [xS 59 (.load (.t 12) (some 5)),xW 10 59 5,xS 11 (.mv (.k (.c (.int .i64 (-1)))))] none [10,11]) .ret) .skip)) (.seq (.reg [xS 60 (.fa (.t 12) 4),xL 61 60,xS 62 (.load (.t 14) (some 5)),xS 63 (.bsl 5 [((.t 62),(some 5))]),xS 64 (.app (.t 61) (.t 63) 5 80 []),xS 65 (.fa (.t 12) 4),⟨none,none,.st (.t 65) (.t 64) none⟩] none [0,2,3,4,10,12,15]) (.seq (.seq (.reg [xM 66 0,xM 67 15,xM 68 3,xS 69 (.call 131 [(.t 66),(.t 67),(.t 68)])] none [0,2,3,4,10,12,15,69]) (.cond (.t 69) (.seq (.reg [xS 70 (.load (.t 12) (some 5)),xM 71 15,xS 72 (.bin false .add (.t 71) (xK 1)),xW 10 70 5,xM 11 72] none [10,11]) .ret) .skip)) (.seq (.seq (.reg [xM 73 0,xM 74 15,xS 75 (.call 131 [(.t 73),(.t 74),(.k (.c (.int .u8 44)))]),xS 76 (.not (.t 75))] none [0,2,3,4,10,12,15,76]) (.cond (.t 76) (.seq (.reg [xS 77 (.load (.t 12) (some 5)),xW 10 77 5,xS 11 (.mv (.k (.c (.int .i64 (-1)))))] none [10,11]) .ret) .skip)) (.reg [xM 78 15,xS 79 (.bin false .add (.t 78) (xK 1)),xM 1 79] none [0,1,2,3,4,10,12]))))))))))) (.seq (.reg [xS 80 (.load (.t 12) (some 5)),xW 10 80 5,xS 11 (.mv (.k (.c (.int .i64 (-1)))))] none [10,11]) .ret)))))
theorem RZ:ao Tryz.prog 81 (Tryz.f129.body.getD .skip) pu=true:=by kernel_rfl
theorem Sa:ap Tryz.prog Tryz.f129.results.toList [.cell 10 (some 5),.tmp 11]=true:=by kernel_rfl
theorem Sb:ax Tryz.prog 129=true:=by kernel_rfl
def gX:X:=(.seq (.reg [xS 6 (.alloc xV),xS 7 (.mv (xK 0))] none [0,1,2,6]) (.seq (.seq (.reg [xM 9 1,xM 10 0,xS 11 (.len (.t 10) true),xS 12 (.bin false .geq (.t 9) (.t 11)),xM 13 12,xH 14 13 (.mv (.t 2)),xH 15 13 (.bin false .lss (.t 14) (xK 1)),xS 16 (.pick (.t 13) (.k (.c (.bool true))) (.t 15))] none [0,1,2,6,16]) (.cond (.t 16) (.seq (.reg [xS 17 (.build xV []),xW 6 17 5,xS 7 (.mv (.k (.c (.int .i64 (-1)))))] none [6,7]) .ret) .skip)) (.seq (.block 0 (.seq (.reg [xM 19 0,xM 20 1,xS 21 (.idx (.t 19) (.t 20)),xS 22 (.bin false .eql (.t 21) (.k (.c (.int .u8 91)))),xM 18 22] none [0,1,2,6,18]) (.cond (.t 18) (.seq (.reg [xM 23 0,xM 24 1,xS 25 (.bin false .add (.t 24) (xK 1)),xM 26 2,xS 27 (.bin false .sub (.t 26) (xK 1)),xS 28 (.call 129 [(.t 23),(.t 25),(xK 5),(.k (.c (.int .u8 93))),(.t 27)]),xS 29 (.ext (.t 28) 0),xS 30 (.ext (.t 28) 1),xW 6 29 5,xM 7 30] none [6,7]) .ret) (.seq (.reg [xM 32 0,xM 33 1,xS 34 (.idx (.t 32) (.t 33)),xS 35 (.bin false .eql (.t 34) (.k (.c (.int .u8 123)))),xM 31 35] none [0,1,2,6,31]) (.cond (.t 31) (.seq (.reg [xM 36 0,xM 37 1,xS 38 (.bin false .add (.t 37) (xK 1)),xM 39 2,xS 40 (.bin false .sub (.t 39) (xK 1)),xS 41 (.call 129 [(.t 36),(.t 38),(xK 6),(.k (.c (.int .u8 125))),(.t 40)]),xS 42 (.ext (.t 41) 0),xS 43 (.ext (.t 41) 1),xW 6 42 5,xM 7 43] none [6,7]) .ret) (.seq (.reg [xM 45 0,xM 46 1,xS 47 (.idx (.t 45) (.t 46)),xS 48 (.bin false .eql (.t 47) (.k (.c (.int .u8 39)))),xM 44 48] none [0,1,6,44]) (.cond (.t 44) (.seq (.reg [xM 49 0,xM 50 1,xS 51 (.bin false .add (.t 50) (xK 1)),xS 52 (.call 130 [(.t 49),(.t 51)]),xM 8 52] none [0,1,6,8]) (.seq (.seq (.reg [xM 53 0,xM 54 8,xS 55 (.call 131 [(.t 53),(.t 54),(.k (.c (.int .u8 39)))]),xS 56 (.not (.t 55))] none [0,1,6,8,56]) (.cond (.t 56) (.seq (.reg [xS 57 (.build xV []),xW 6 57 5,xS 7 (.mv (.k (.c (.int .i64 (-1)))))] none [6,7]) .ret) .skip)) (.seq (.reg [xM 58 0,xM 59 1,xS 60 (.bin false .add (.t 59) (xK 1)),xM 61 8,xS 62 (.sub (.t 58) (some (.t 60)) (some (.t 61)) 0),xS 63 (.build xV [(0,(xK 4),none),(2,(.t 62),none)]),xM 64 8,xS 65 (.bin false .add (.t 64) (xK 1)),xW 6 63 5,xM 7 65] none [6,7]) .ret))) (.seq (.reg [xM 67 0,xM 68 1,xS 69 (.idx (.t 67) (.t 68)),xS 70 (.bin false .geq (.t 69) (.k (.c (.int .u8 97)))),xM 71 70,xG 72 71 (.mv (.t 0)),xG 73 71 (.mv (.t 1)),xG 74 71 (.idx (.t 72) (.t 73)),xG 75 71 (.bin false .leq (.t 74) (.k (.c (.int .u8 122)))),xS 76 (.pick (.t 71) (.t 75) (.k (.c (.bool false)))),xM 66 76] none [0,1,6,66]) (.cond (.t 66) (.seq (.reg [xM 77 0,xM 78 1,xS 79 (.call 132 [(.t 77),(.t 78)]),xS 80 (.ext (.t 79) 0),xS 81 (.ext (.t 79) 1),xW 6 80 5,xM 7 81] none [6,7]) .ret) .skip))))))))) (.seq (.reg [xM 82 0,xM 83 1,xS 84 (.call 133 [(.t 82),(.t 83)]),xS 85 (.ext (.t 84) 0),xS 86 (.ext (.t 84) 1),xW 6 85 5,xM 7 86] none [6,7]) .ret))))
theorem Sc:ao Tryz.prog 87 (Tryz.f109.body.getD .skip) gX=true:=by kernel_rfl
theorem Sd:ap Tryz.prog Tryz.f109.results.toList [.cell 6 (some 5),.tmp 7]=true:=by kernel_rfl
theorem Fw:ax Tryz.prog 109=true:=by kernel_rfl
theorem sd (x:List UInt8) (a:Array UInt8):(bL x=⟨a⟩)=(x=a.toList):=propext ⟨fun h=>by
 have:=congrArg (fun b:ByteArray=>b.data.toList) h
 rw[iG] at this
 exact this,fun h=>by rw[h];unfold bL;rfl⟩
theorem w1:(#[110,117,108,108]:Array UInt8).toList=[110,117,108,108]:=rfl
theorem w2:(#[102,97,108,115,101]:Array UInt8).toList=[102,97,108,115,101]:=rfl
theorem w3:(#[116,114,117,101]:Array UInt8).toList=[116,114,117,101]:=rfl
theorem u45:(45:Nat).toUInt8=45:=rfl
theorem u39:(39:Nat).toUInt8=39:=rfl
theorem u44:(44:Nat).toUInt8=44:=rfl
theorem u58:(58:Nat).toUInt8=58:=rfl
theorem u93:(93:Nat).toUInt8=93:=rfl
theorem pv:(125:Nat).toUInt8=125:=rfl
theorem i45:(45:Int).toNat=45:=rfl
theorem i39:(39:Int).toNat=39:=rfl
theorem i44:(44:Int).toNat=44:=rfl
theorem i58:(58:Int).toNat=58:=rfl
theorem i93:(93:Int).toNat=93:=rfl
theorem px:(125:Int).toNat=125:=rfl
noncomputable def iQ :Spec:=Spec.of (ι:=ByteArray × Nat) [false,false] (fun i=>[.d (.one (.str i.1)),.d (.one (.int .i64 (i.2:Int)))]) (fun i=>aa 1000000 i.1.size/\i.2<=i.1.size) (fun i=>[.d (.agg (psW (tL i.1) i.2).1.enc),.d (.one (.int .i64 (psW (tL i.1) i.2).2))]) (fun _=>[.gone,.gone])
theorem se:∀ i j:ByteArray × Nat,(fun (i:ByteArray × Nat)=>([.d (.one (.str i.1)),.d (.one (.int .i64 (i.2:Int)))]:List AV)) i=(fun (i:ByteArray × Nat)=>([.d (.one (.str i.1)),.d (.one (.int .i64 (i.2:Int)))]:List AV)) j->i=j:=by
 rintro⟨s,a⟩ ⟨s',a'⟩ h
 simp only[Prod.mk.injEq]
 simpa [ar,T.enc_eq,au,F.enc_eq,av,Tk.enc_eq,aw,Gn.enc_eq,aq,Int.natCast_inj,and_assoc] using h
theorem Se :(iQ).md=[false,false]:=rfl
theorem Sf  (s:ByteArray) (a:Nat):(iQ).pre [.d (.one (.str s)),.d (.one (.int .i64 (a:Int)))]=(aa 1000000 s.size/\a<=s.size):=Spec.of_pre' se (s,a)
theorem Sg :(iQ).alts=none:=rfl
theorem Sh  (s:ByteArray) (a:Nat):(iQ).res [.d (.one (.str s)),.d (.one (.int .i64 (a:Int)))]=[.d (.agg (psW (tL s) a).1.enc),.d (.one (.int .i64 (psW (tL s) a).2))]:=Spec.of_res se (s,a)
theorem Si  (s:ByteArray) (a:Nat):(iQ).out [.d (.one (.str s)),.d (.one (.int .i64 (a:Int)))]=[.gone,.gone]:=Spec.of_out se (s,a)
theorem Sj:Sound Tryz.prog 132 iQ:=by
 refine aL (GOK.cons xf xj GOK.nil) Tryz.func132 (c:=Tryz.f132.body.getD .skip) rfl (n:=27) rfl RO RP (fun _=>by simp) ?_ ?_
 ·exact se
 ·rintro⟨s,a⟩ ⟨h1,h2⟩
  simp only[aa] at h1 h2
  have hl:=cI s
  have hu:=eQ (p:=aj) (l:=tL s) (a:=a) (by omega)
  have z1:ae []=[]:=rfl
  have z2:ak []=[]:=rfl
  by_cases c1:sub (tL s) a (al aj (tL s) a)=[110,117,108,108]
  ·have a1:=eq_true c1
   have e:psW (tL s) a=(T.zero,(al aj (tL s) a:Int)):=by unfold psW;rw[if_pos c1]
   simp only[pt,rg,go_sem,seval,Prod.fst,bI,sd,w1,w2,w3,Int.toNat_natCast,a1,e,T.zero,T.enc,z1,z2,gj,gk,gn,gp,gq]
   repeat' (first|with_reducible assumption|with_reducible refine And.intro ?_ ?_|intro _)
   all_goals first|omega|(unfold aa;omega)|skip
  have a1:=eq_false c1
  by_cases c2:sub (tL s) a (al aj (tL s) a)=[102,97,108,115,101]
  ·have a2:=eq_true c2
   have e:psW (tL s) a=(.mk 1 0 ⟨#[]⟩ [] [],(al aj (tL s) a:Int)):=by unfold psW;rw[if_neg c1,if_pos c2]
   simp only[pt,rg,go_sem,seval,Prod.fst,bI,sd,w1,w2,w3,Int.toNat_natCast,a1,a2,e,T.zero,T.enc,z1,z2,gj,gk,gn,gp,gq]
   repeat' (first|with_reducible assumption|with_reducible refine And.intro ?_ ?_|intro _)
   all_goals first|omega|(unfold aa;omega)|skip
  have a2:=eq_false c2
  by_cases c3:sub (tL s) a (al aj (tL s) a)=[116,114,117,101]
  ·have a3:=eq_true c3
   have e:psW (tL s) a=(.mk 2 0 ⟨#[]⟩ [] [],(al aj (tL s) a:Int)):=by unfold psW;rw[if_neg c1,if_neg c2,if_pos c3]
   simp only[pt,rg,go_sem,seval,Prod.fst,bI,sd,w1,w2,w3,Int.toNat_natCast,a1,a2,a3,e,T.zero,T.enc,z1,z2,gj,gk,gn,gp,gq]
   repeat' (first|with_reducible assumption|with_reducible refine And.intro ?_ ?_|intro _)
   all_goals first|omega|(unfold aa;omega)|skip
  have a3:=eq_false c3
  have e:psW (tL s) a=(T.zero,-1):=by unfold psW;rw[if_neg c1,if_neg c2,if_neg c3]
  simp only[pt,rg,go_sem,seval,Prod.fst,bI,sd,w1,w2,w3,Int.toNat_natCast,a1,a2,a3,e,T.zero,T.enc,z1,z2,gj,gk,gn,gp,gq]
  repeat' (first|with_reducible assumption|with_reducible refine And.intro ?_ ?_|intro _)
  all_goals first|omega|(unfold aa;omega)|skip
noncomputable def gY :Spec:=Spec.of (ι:=ByteArray × Nat) [false,false] (fun i=>[.d (.one (.str i.1)),.d (.one (.int .i64 (i.2:Int)))]) (fun i=>aa 1000000 i.1.size/\i.2<=i.1.size) (fun i=>[.d (.agg (psN (tL i.1) i.2).1.enc),.d (.one (.int .i64 (psN (tL i.1) i.2).2))]) (fun _=>[.gone,.gone])
theorem sf:∀ i j:ByteArray × Nat,(fun (i:ByteArray × Nat)=>([.d (.one (.str i.1)),.d (.one (.int .i64 (i.2:Int)))]:List AV)) i=(fun (i:ByteArray × Nat)=>([.d (.one (.str i.1)),.d (.one (.int .i64 (i.2:Int)))]:List AV)) j->i=j:=by
 rintro⟨s,a⟩ ⟨s',a'⟩ h
 simp only[Prod.mk.injEq]
 simpa [ar,T.enc_eq,au,F.enc_eq,av,Tk.enc_eq,aw,Gn.enc_eq,aq,Int.natCast_inj,and_assoc] using h
theorem Fx :(gY).md=[false,false]:=rfl
theorem Fy  (s:ByteArray) (a:Nat):(gY).pre [.d (.one (.str s)),.d (.one (.int .i64 (a:Int)))]=(aa 1000000 s.size/\a<=s.size):=Spec.of_pre' sf (s,a)
theorem Fz :(gY).alts=none:=rfl
theorem FA  (s:ByteArray) (a:Nat):(gY).res [.d (.one (.str s)),.d (.one (.int .i64 (a:Int)))]=[.d (.agg (psN (tL s) a).1.enc),.d (.one (.int .i64 (psN (tL s) a).2))]:=Spec.of_res sf (s,a)
theorem FB  (s:ByteArray) (a:Nat):(gY).out [.d (.one (.str s)),.d (.one (.int .i64 (a:Int)))]=[.gone,.gone]:=Spec.of_out sf (s,a)
theorem Sk {l:List UInt8} {a:Nat} (h:atB l a 45=true):cd l a=al bh l (a+1):=by unfold cd;rw[if_pos h]
theorem Sl {l:List UInt8} {a:Nat} (h:atB l a 45=false):cd l a=al bh l a:=by unfold cd;rw[h];rfl
set_option maxHeartbeats 1000000 in
theorem Sn:Sound Tryz.prog 133 gY:=by
 refine aL (GOK.cons (l:=[(90,iP)]) xd xh (GOK.cons Fq Fv GOK.nil)) Tryz.func133 (c:=Tryz.f133.body.getD .skip) rfl (n:=47) rfl RR RS (fun _=>by simp) ?_ ?_
 ·exact sf
 ·rintro⟨s,a⟩ ⟨h1,h2⟩
  simp only[aa] at h1 h2
  have hl:=cI s
  have hu:=wL (l:=tL s) (a:=a) (by omega)
  have z1:ae []=[]:=rfl
  have z2:ak []=[]:=rfl
  have hsz:=iK (l:=tL s) (a:=a) hu.2
  by_cases c0:atB (tL s) a 45=true
  ·have hb:=bH c0
   have hE:=Sk c0
   simp only[xg,rg,go_sem,seval,Prod.fst,i45,u45,Int.toNat_natCast,c0,dn,dp,dq,du,dz]
   repeat' (first|with_reducible assumption|with_reducible refine And.intro ?_ ?_|intro _)
   all_goals first|omega|(unfold aa;omega)|skip
   refine aS (ι:=Nat) (fun i=>s.size-i) (fun i=>a<=i/\i<=s.size/\al bh (tL s) i=cd (tL s) a)
    (fun i=>⟨[(0,.q (.c (.str s))),(1,.q (.c (.int .i64 (a:Int)))),(4,.q (.box 4 0)),(6,.q (.c (.int .i64 (i:Int))))],[(4,[.c (.int .i64 0),.c (.int .i64 0),.c (.str ⟨#[]⟩),.z 1,.z 5])],[]⟩) (a+1) ⟨by omega,by omega,hE.symm⟩ (Le.sub (by simp) (by simp) (by simp)) ?_
   rintro i ⟨g0,g1,g2⟩
   rcases Nat.lt_or_ge i s.size with hlt|hge
   ·obtain⟨x,b1,b2,_,b4⟩:=eR hlt
    have a1:((i:Int) < (s.size:Int))=True:=eq_true (by omega)
    by_cases hx:bh x=true
    ·have hx':=hx
     unfold bh at hx'
     simp only[decide_eq_true_eq] at hx'
     have a2:((48:Int)<=x.toNat)=True:=eq_true (by omega)
     have a3:((x.toNat:Int)<=57)=True:=eq_true (by omega)
     simp only[rg,go_sem,seval,Prod.fst,a1,b2,a2,a3,Int.toNat_natCast]
     repeat' (first|with_reducible assumption|with_reducible refine And.intro ?_ ?_|intro _)
     all_goals first|omega|skip
     exact⟨i+1,⟨by omega,by omega,by rw[<-xi b4 hx];exact g2⟩,by omega,Le.sub (by simp) (by simp) (by simp)⟩
    ·have hx':bh x=false:=by simpa using hx
     have a5:=nh (p:=bh) (l:=tL s) (a:=i) (.inr ⟨x,_,b4,hx'⟩)
     rw[g2] at a5
     unfold bh at hx'
     simp only[decide_eq_false_iff_not] at hx'
     cases hn:bN (sub (tL s) a (cd (tL s) a)) with
     | none =>
       have e:psN (tL s) a=(T.zero,-1):=by unfold psN;rw[hn]
       rw[a5] at hn hsz
       by_cases hx2:48<=x.toNat
       ·have a2:((48:Int)<=x.toNat)=True:=eq_true (by omega)
        have a3:((x.toNat:Int)<=57)=False:=eq_false (by omega)
        simp only[rg,go_sem,seval,Prod.fst,a1,b2,a2,a3,bI,de,bM,hn,e,T.zero,T.enc,z1,z2,Int.toNat_natCast,Option.getD_none,Option.isSome_none,eS,eT,eU,eV,eW]
        repeat' (first|with_reducible assumption|with_reducible refine And.intro ?_ ?_|intro _)
        all_goals first|omega|(unfold aa;omega)|skip
       ·have a2:((48:Int)<=x.toNat)=False:=eq_false (by omega)
        simp only[rg,go_sem,seval,Prod.fst,a1,b2,a2,bI,de,bM,hn,e,T.zero,T.enc,z1,z2,Int.toNat_natCast,Option.getD_none,Option.isSome_none,eS,eT,eU,eV,eW]
        repeat' (first|with_reducible assumption|with_reducible refine And.intro ?_ ?_|intro _)
        all_goals first|omega|(unfold aa;omega)|skip
     | some v =>
       have e:psN (tL s) a=(.mk 3 v ⟨#[]⟩ [] [],(cd (tL s) a:Int)):=by unfold psN;rw[hn]
       rw[a5] at hn e hsz
       by_cases hx2:48<=x.toNat
       ·have a2:((48:Int)<=x.toNat)=True:=eq_true (by omega)
        have a3:((x.toNat:Int)<=57)=False:=eq_false (by omega)
        simp only[rg,go_sem,seval,Prod.fst,a1,b2,a2,a3,bI,de,bM,hn,e,T.zero,T.enc,z1,z2,Int.toNat_natCast,Option.getD_some,Option.isSome_some,eS,eT,eU,eV,eW]
        repeat' (first|with_reducible assumption|with_reducible refine And.intro ?_ ?_|intro _)
        all_goals first|omega|(unfold aa;omega)|skip
       ·have a2:((48:Int)<=x.toNat)=False:=eq_false (by omega)
        simp only[rg,go_sem,seval,Prod.fst,a1,b2,a2,bI,de,bM,hn,e,T.zero,T.enc,z1,z2,Int.toNat_natCast,Option.getD_some,Option.isSome_some,eS,eT,eU,eV,eW]
        repeat' (first|with_reducible assumption|with_reducible refine And.intro ?_ ?_|intro _)
        all_goals first|omega|(unfold aa;omega)|skip
   ·have a1:((i:Int) < (s.size:Int))=False:=eq_false (by omega)
    have a5:=nh (p:=bh) (l:=tL s) (a:=i) (.inl (by omega))
    rw[g2] at a5
    cases hn:bN (sub (tL s) a (cd (tL s) a)) with
    | none =>
      have e:psN (tL s) a=(T.zero,-1):=by unfold psN;rw[hn]
      rw[a5] at hn hsz
      simp only[rg,go_sem,seval,Prod.fst,a1,bI,de,bM,hn,e,T.zero,T.enc,z1,z2,Int.toNat_natCast,Option.getD_none,Option.isSome_none,eS,eT,eU,eV,eW]
      repeat' (first|with_reducible assumption|with_reducible refine And.intro ?_ ?_|intro _)
      all_goals first|omega|(unfold aa;omega)|skip
    | some v =>
      have e:psN (tL s) a=(.mk 3 v ⟨#[]⟩ [] [],(cd (tL s) a:Int)):=by unfold psN;rw[hn]
      rw[a5] at hn e hsz
      simp only[rg,go_sem,seval,Prod.fst,a1,bI,de,bM,hn,e,T.zero,T.enc,z1,z2,Int.toNat_natCast,Option.getD_some,Option.isSome_some,eS,eT,eU,eV,eW]
      repeat' (first|with_reducible assumption|with_reducible refine And.intro ?_ ?_|intro _)
      all_goals first|omega|(unfold aa;omega)|skip
  ·have c0:atB (tL s) a 45=false:=by simpa using c0
   have hE:=Sl c0
   simp only[xg,rg,go_sem,seval,Prod.fst,i45,u45,Int.toNat_natCast,c0,dn,dp,dq,du,dz]
   repeat' (first|with_reducible assumption|with_reducible refine And.intro ?_ ?_|intro _)
   all_goals first|omega|(unfold aa;omega)|skip
   refine aS (ι:=Nat) (fun i=>s.size-i) (fun i=>a<=i/\i<=s.size/\al bh (tL s) i=cd (tL s) a)
    (fun i=>⟨[(0,.q (.c (.str s))),(1,.q (.c (.int .i64 (a:Int)))),(4,.q (.box 4 0)),(6,.q (.c (.int .i64 (i:Int))))],[(4,[.c (.int .i64 0),.c (.int .i64 0),.c (.str ⟨#[]⟩),.z 1,.z 5])],[]⟩) a ⟨by omega,by omega,hE.symm⟩ (Le.sub (by simp) (by simp) (by simp)) ?_
   rintro i ⟨g0,g1,g2⟩
   rcases Nat.lt_or_ge i s.size with hlt|hge
   ·obtain⟨x,b1,b2,_,b4⟩:=eR hlt
    have a1:((i:Int) < (s.size:Int))=True:=eq_true (by omega)
    by_cases hx:bh x=true
    ·have hx':=hx
     unfold bh at hx'
     simp only[decide_eq_true_eq] at hx'
     have a2:((48:Int)<=x.toNat)=True:=eq_true (by omega)
     have a3:((x.toNat:Int)<=57)=True:=eq_true (by omega)
     simp only[rg,go_sem,seval,Prod.fst,a1,b2,a2,a3,Int.toNat_natCast]
     repeat' (first|with_reducible assumption|with_reducible refine And.intro ?_ ?_|intro _)
     all_goals first|omega|skip
     exact⟨i+1,⟨by omega,by omega,by rw[<-xi b4 hx];exact g2⟩,by omega,Le.sub (by simp) (by simp) (by simp)⟩
    ·have hx':bh x=false:=by simpa using hx
     have a5:=nh (p:=bh) (l:=tL s) (a:=i) (.inr ⟨x,_,b4,hx'⟩)
     rw[g2] at a5
     unfold bh at hx'
     simp only[decide_eq_false_iff_not] at hx'
     cases hn:bN (sub (tL s) a (cd (tL s) a)) with
     | none =>
       have e:psN (tL s) a=(T.zero,-1):=by unfold psN;rw[hn]
       rw[a5] at hn hsz
       by_cases hx2:48<=x.toNat
       ·have a2:((48:Int)<=x.toNat)=True:=eq_true (by omega)
        have a3:((x.toNat:Int)<=57)=False:=eq_false (by omega)
        simp only[rg,go_sem,seval,Prod.fst,a1,b2,a2,a3,bI,de,bM,hn,e,T.zero,T.enc,z1,z2,Int.toNat_natCast,Option.getD_none,Option.isSome_none,eS,eT,eU,eV,eW]
        repeat' (first|with_reducible assumption|with_reducible refine And.intro ?_ ?_|intro _)
        all_goals first|omega|(unfold aa;omega)|skip
       ·have a2:((48:Int)<=x.toNat)=False:=eq_false (by omega)
        simp only[rg,go_sem,seval,Prod.fst,a1,b2,a2,bI,de,bM,hn,e,T.zero,T.enc,z1,z2,Int.toNat_natCast,Option.getD_none,Option.isSome_none,eS,eT,eU,eV,eW]
        repeat' (first|with_reducible assumption|with_reducible refine And.intro ?_ ?_|intro _)
        all_goals first|omega|(unfold aa;omega)|skip
     | some v =>
       have e:psN (tL s) a=(.mk 3 v ⟨#[]⟩ [] [],(cd (tL s) a:Int)):=by unfold psN;rw[hn]
       rw[a5] at hn e hsz
       by_cases hx2:48<=x.toNat
       ·have a2:((48:Int)<=x.toNat)=True:=eq_true (by omega)
        have a3:((x.toNat:Int)<=57)=False:=eq_false (by omega)
        simp only[rg,go_sem,seval,Prod.fst,a1,b2,a2,a3,bI,de,bM,hn,e,T.zero,T.enc,z1,z2,Int.toNat_natCast,Option.getD_some,Option.isSome_some,eS,eT,eU,eV,eW]
        repeat' (first|with_reducible assumption|with_reducible refine And.intro ?_ ?_|intro _)
        all_goals first|omega|(unfold aa;omega)|skip
       ·have a2:((48:Int)<=x.toNat)=False:=eq_false (by omega)
        simp only[rg,go_sem,seval,Prod.fst,a1,b2,a2,bI,de,bM,hn,e,T.zero,T.enc,z1,z2,Int.toNat_natCast,Option.getD_some,Option.isSome_some,eS,eT,eU,eV,eW]
        repeat' (first|with_reducible assumption|with_reducible refine And.intro ?_ ?_|intro _)
        all_goals first|omega|(unfold aa;omega)|skip
   ·have a1:((i:Int) < (s.size:Int))=False:=eq_false (by omega)
    have a5:=nh (p:=bh) (l:=tL s) (a:=i) (.inl (by omega))
    rw[g2] at a5
    cases hn:bN (sub (tL s) a (cd (tL s) a)) with
    | none =>
      have e:psN (tL s) a=(T.zero,-1):=by unfold psN;rw[hn]
      rw[a5] at hn hsz
      simp only[rg,go_sem,seval,Prod.fst,a1,bI,de,bM,hn,e,T.zero,T.enc,z1,z2,Int.toNat_natCast,Option.getD_none,Option.isSome_none,eS,eT,eU,eV,eW]
      repeat' (first|with_reducible assumption|with_reducible refine And.intro ?_ ?_|intro _)
      all_goals first|omega|(unfold aa;omega)|skip
    | some v =>
      have e:psN (tL s) a=(.mk 3 v ⟨#[]⟩ [] [],(cd (tL s) a:Int)):=by unfold psN;rw[hn]
      rw[a5] at hn e hsz
      simp only[rg,go_sem,seval,Prod.fst,a1,bI,de,bM,hn,e,T.zero,T.enc,z1,z2,Int.toNat_natCast,Option.getD_some,Option.isSome_some,eS,eT,eU,eV,eW]
      repeat' (first|with_reducible assumption|with_reducible refine And.intro ?_ ?_|intro _)
      all_goals first|omega|(unfold aa;omega)|skip
end Go.Proofs.Pw
