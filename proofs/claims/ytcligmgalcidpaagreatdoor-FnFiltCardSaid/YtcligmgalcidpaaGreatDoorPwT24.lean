/- Drawing: filters that are ok, or bent. -/
import Derived.Test.YtcligmgalcidpaaGreatDoorPwT23
import Derived.Test.YtcligmgalcidpaaGreatDoorPwT21
import Derived.Test.YtcligmgalcidpaaGreatDoorPwT18
import Derived.Test.YtcligmgalcidpaaGreatDoorPwT12
import Derived.Test.YtcligmgalcidpaaGreatDoorPwT9
import Derived.ProofKit
import Derived.ChangeOld
import Derived.Below
import Derived.Carry
import Derived.SizedLaws
import Derived.ChangeArms
import Derived.ChangeVars
import Derived.WalkSmall
import Derived.ChangeSlices
import Derived.Test.YtcligmgalcidpaaGreatDoorPwT10
import Derived.LaidHandle
import Derived.Lib.LaidTab
import Derived.LaidMore
import Derived.LaidLaws
import Derived.Handed
set_option linter.unusedSimpArgs false
set_option linter.unusedVariables false
set_option linter.unusedSectionVars false
set_option maxRecDepth 20000
namespace Go.Proofs.Pw
variable [Globs]
def JP:X:=(.seq (.reg [xS 2 (.alloc xF)] none [0,2]) (.seq (.reg [xM 4 0,xM 5 0,xS 6 (.callr 38 [(.t 5),(xK 4)]),xS 7 (.bin false .add (xK 1) (.t 6)),xS 8 (.callr 69 [(.t 4),(.t 7)]),xS 3 (.alloc xF),xW 3 8 9] none [0,2,3]) (.seq (.seq (.reg [xS 9 (.load (.t 3) (some 9)),xS 10 (.callb 9 [(.t 9)]),xS 11 (.not (.t 10))] none [0,2,3,11]) (.cond (.t 11) (.seq (.reg [xM 12 0,xS 13 (.callr 70 [(.t 12)]),xW 2 13 9] none [2]) .ret) .skip)) (.seq (.reg [xS 14 (.load (.t 3) (some 9)),xW 2 14 9] none [2]) .ret))))
theorem aau:ao Tryz.prog 15 (Tryz.f40.body.getD .skip) JP=true:=by kernel_rfl
theorem aav:ap Tryz.prog Tryz.f40.results.toList [.cell 2 (some 9)]=true:=by kernel_rfl
theorem aaw:ax Tryz.prog 40=true:=by kernel_rfl
def JQ:X:=(.seq (.reg [xS 2 (.alloc xF)] none [0,2]) (.seq (.reg [xM 5 0,xS 6 (.callr 40 [(.t 5)]),xS 3 (.alloc xF),xW 3 6 9] none [0,2,3]) (.seq (.seq (.reg [xM 7 0,xS 8 (.callr 38 [(.t 7),(xK 60)])] none [0,2,3,8]) (.block 0 (.seq (.reg [xS 10 (.bin false .eql (.t 8) (xK 0)),xM 9 10] none [0,2,3,8,9]) (.cond (.t 9) (.reg [xM 11 0,xS 12 (.bsl 1 [((xK 0),none),((xK 22),none),((xK 6),none),((xK 1),none),((xK 20),none)]),xS 13 (.callr 41 [(.t 11),(.t 12)]),xS 14 (.fa (.t 3) 0),⟨none,none,.st (.t 14) (.t 13) none⟩] none [2,3]) (.seq (.reg [xS 16 (.bin false .eql (.t 8) (xK 1)),xM 15 16] none [0,2,3,8,15]) (.cond (.t 15) (.reg [xM 17 0,xS 18 (.bsl 1 [((xK 1),none),((xK 60),none),((.k (.c (.int .i64 (-61)))),none)]),xS 19 (.callr 41 [(.t 17),(.t 18)]),xS 20 (.fa (.t 3) 1),⟨none,none,.st (.t 20) (.t 19) none⟩] none [2,3]) (.seq (.reg [xS 22 (.bin false .eql (.t 8) (xK 2)),xM 21 22] none [0,2,3,8,21]) (.cond (.t 21) (.reg [xM 23 0,xS 24 (.bsl 1 [((.k (.c (.str ⟨#[65]⟩))),none),((.k (.c (.str ⟨#[97,98,99,100,101,102,103,104,105,106,107,108,109]⟩))),none),((.k (.c (.str ⟨#[97]⟩))),none)]),xS 25 (.callr 39 [(.t 23),(.t 24)]),xS 26 (.fa (.t 3) 2),⟨none,none,.st (.t 26) (.t 25) none⟩] none [2,3]) (.seq (.reg [xS 28 (.bin false .eql (.t 8) (xK 3)),xM 27 28] none [0,2,3,8,27]) (.cond (.t 27) (.reg [xM 29 0,xS 30 (.callr 42 [(.t 29)]),xS 31 (.fa (.t 3) 3),xW 31 30 5] none [2,3]) (.seq (.reg [xS 33 (.bin false .eql (.t 8) (xK 4)),xM 32 33] none [2,3,32]) (.cond (.t 32) (.seq (.reg [xS 4 (.mv (xK 0))] none [2,3,4]) (.block 1 (.loop (.seq (.seq (.reg [xM 34 4,xS 35 (.bin false .lss (.t 34) (xK 7))] none [2,3,4,35]) (.cond (.t 35) .skip (.exit 1))) (.seq (.block 2 (.reg [xS 38 (.load (.t 3) (some 9)),xS 39 (.bsl 9 [((.t 38),(some 9))]),xS 40 (.build xF [(0,(xK 17),none),(8,(.t 39),none)]),xW 3 40 9] none [2,3,4])) (.reg [xM 36 4,xS 37 (.bin false .add (.t 36) (xK 1)),xM 4 37] none [2,3,4])))))) .skip)))))))))))) (.seq (.reg [xS 41 (.load (.t 3) (some 9)),xW 2 41 9] none [2]) .ret))))
theorem aax:ao Tryz.prog 42 (Tryz.f18.body.getD .skip) JQ=true:=by kernel_rfl
theorem aay:ap Tryz.prog Tryz.f18.results.toList [.cell 2 (some 9)]=true:=by kernel_rfl
theorem JR:ax Tryz.prog 18=true:=by kernel_rfl
set_option maxHeartbeats 2000000 in
theorem aaz:Sound Tryz.prog 40 spSomeF:=by
 refine dY (GOK.cons (l:=[(70,spLeafF),(69,spFiltF),(9,gw)]) fz fC (GOK.cons (l:=[(69,spFiltF),(9,gw)]) JK JM (GOK.cons zH aap (GOK.cons sO sT GOK.nil)))) Tryz.func40 (c:=Tryz.f40.body.getD .skip) rfl (n:=15) rfl aau aav (fun _=>by simp) ?_
 ·rintro⟨bs,p⟩ ⟨hb,h1,h2⟩
  change byt bs at hb
  simp only at h1 h2
  have hl:∀ m:Int,(0<=m/\m < 4)->fb (1+m).toNat<=140000:=fun m hm=>YC (by omega)
  simp only[JP,rg,go_sem,seval,Prod.fst,F.enc_len,cU,cV,cW,↓bn,bn,zJ,zK,zL,↓oc,oc,aal,aam,aao,↓JN,JN,iX,iY,iZ,ja,jb]
  repeat' (first|with_reducible assumption|with_reducible refine And.intro ?_ ?_|intro _)
  all_goals first|omega|skip
  all_goals
   have hl':=hl _ (by assumption)
   clear hl
   first|omega|exact (‹drF _ _/\_›).1.fit|exact (‹drF _ _/\_›).1.2.1|(have:=(‹drF _ _/\_›).1.2.2;omega)|skip
  all_goals
   rename_i hd
   first
    | exact eC rfl rfl rfl hd.1 (by omega) (by omega)
    | exact eC rfl rfl rfl (‹drF _ _/\_›).1 (by omega) (by omega)
theorem od {M A m:Int} {bs:List Int} {p q k n vk vn:Int} {s vs:ByteArray} {vks:List ByteArray} {vl:List T} {l:List F} {K L R:List (List C)} (hK:ae vks=K) (hL:ak vl=L) (hR:aD l=R) (h:drFW m (F.mk k n s (T.mk vk vn vs vks vl) l)) (hm:m<=M) (hq:p<=q/\q<=p+A):∃ i:DrI,
 (drFW M (F.mk i.1 i.2.1 i.2.2.1 (T.mk i.2.2.2.1 i.2.2.2.2.1 i.2.2.2.2.2.1 i.2.2.2.2.2.2.1 i.2.2.2.2.2.2.2.1) i.2.2.2.2.2.2.2.2.1)/\p<=i.2.2.2.2.2.2.2.2.2/\i.2.2.2.2.2.2.2.2.2<=p+A) /\
 (i.1=k/\i.2.1=n/\i.2.2.1=s/\i.2.2.2.1=vk/\i.2.2.2.2.1=vn/\i.2.2.2.2.2.1=vs/\ae i.2.2.2.2.2.2.1=K/\ak i.2.2.2.2.2.2.2.1=L/\aD i.2.2.2.2.2.2.2.2.1=R)/\rdC bs q=rdC bs i.2.2.2.2.2.2.2.2.2:=by
 subst hK hL hR
 exact⟨(k,n,s,vk,vn,vs,vks,vl,l,q),⟨h.mono hm,hq⟩,⟨rfl,rfl,rfl,rfl,rfl,rfl,rfl,rfl,rfl⟩,rfl⟩
theorem tN {m:Int} {k n k' n':Int} {s s':ByteArray} {v v':T} {l:List F} (h:drFW m (.mk k n s v l)) (hk:i64 k') (hn:i64 n'/\-1000<=n'/\n'<=1000) (hs:(s'.size:Int)<=100000) (hv:v'.fit 100000) (hv':aB v'<=1048577):drFW m (.mk k' n' s' v' l):=by
 obtain⟨⟨_,_,_,_,h5,h6⟩,h7,h8⟩:=h
 simp only[cf,aX] at h7 h8
 exact⟨⟨hk,hn.1,hs,hv,h5,h6⟩,by simp only[cf];exact⟨hv',h7.2⟩,by simpa only [aX] using h8.1,hn.2⟩
theorem tO {m:Int} {k n:Int} {s:ByteArray} {v:T} {l:List F} (h:drFW m (.mk k n s v l)):i64 k/\(i64 n/\-1000<=n/\n<=1000)/\(s.size:Int)<=100000/\v.fit 100000/\aB v<=1048577:=by
 obtain⟨⟨h1,h2,h3,h4,h5,h6⟩,h7,h8⟩:=h
 simp only[cf] at h7
 exact⟨h1,⟨h2,h8.2⟩,h3,h4,h7.1⟩
theorem aaA {m:Int} {f:F} (h:drFW m f):drFW (m+1) (.mk 17 0 ⟨#[]⟩ (.mk 0 0 ⟨#[]⟩ [] []) [f]):=by
 refine⟨⟨by unfold i64;omega,by unfold i64;omega,by unfold aa;decide,T.fit_mono (by decide) eB.1,by unfold aa;simp,h.1,trivial⟩,?_,?_,by show (-1000:Int)<=0/\(0:Int)<=1000;omega⟩
 ·simp only[cf,bT]
  exact⟨by have:=eB.2;show aB T.zero<=_;omega,h.2.1,trivial⟩
 ·have:=h.2.2.1
  simp only[aX,aI] at this ⊢;omega
def spBentF :Spec:=Spec.ofR (ι:=(List Int) × Int) (κ:=Int × Int × ByteArray × Int × Int × ByteArray × (List ByteArray) × (List T) × (List Pw.F) × Int) [true] (fun i=>[.ref (rdC i.1 i.2)]) (fun i=>byt i.1/\0<=i.2/\i.2+200000<=1099511627776) (fun i k=>drFW 140010 (Pw.F.mk k.1 k.2.1 k.2.2.1 (.mk k.2.2.2.1 k.2.2.2.2.1 k.2.2.2.2.2.1 k.2.2.2.2.2.2.1 k.2.2.2.2.2.2.2.1) k.2.2.2.2.2.2.2.2.1)/\i.2<=k.2.2.2.2.2.2.2.2.2/\k.2.2.2.2.2.2.2.2.2<=i.2+200000) (fun i k=>[.d (.agg (Pw.F.mk k.1 k.2.1 k.2.2.1 (.mk k.2.2.2.1 k.2.2.2.2.1 k.2.2.2.2.2.1 k.2.2.2.2.2.2.1 k.2.2.2.2.2.2.2.1) k.2.2.2.2.2.2.2.2.1).enc)]) (fun i k=>[.ref (rdC i.1 k.2.2.2.2.2.2.2.2.2)])
theorem zP:∀ i j:(List Int) × Int,(fun (i:(List Int) × Int)=>([.ref (rdC i.1 i.2)]:List AV)) i=(fun (i:(List Int) × Int)=>([.ref (rdC i.1 i.2)]:List AV)) j->i=j:=by
 rintro⟨bs,p⟩ ⟨bs',p'⟩ h
 simp only[Prod.mk.injEq]
 simpa [ar,T.enc_eq,au,F.enc_eq,av,Tk.enc_eq,aw,Gn.enc_eq,aq,dG,and_assoc] using h
theorem JS :(spBentF).md=[true]:=rfl
theorem JT  (bs:List Int) (p:Int):(spBentF).pre [.ref (rdC bs p)]=(byt bs/\0<=p/\p+200000<=1099511627776):=Spec.ofR_pre zP (bs,p)
theorem aaB  (bs:List Int) (p:Int):(spBentF).ne [.ref (rdC bs p)]=(∃ k:Int × Int × ByteArray × Int × Int × ByteArray × (List ByteArray) × (List T) × (List Pw.F) × Int,drFW 140010 (Pw.F.mk k.1 k.2.1 k.2.2.1 (.mk k.2.2.2.1 k.2.2.2.2.1 k.2.2.2.2.2.1 k.2.2.2.2.2.2.1 k.2.2.2.2.2.2.2.1) k.2.2.2.2.2.2.2.2.1)/\p<=k.2.2.2.2.2.2.2.2.2/\k.2.2.2.2.2.2.2.2.2<=p+200000):=Spec.ofR_ne zP (bs,p)
theorem tP  (bs:List Int) (p:Int) (F:List AV->List AV->Prop):(spBentF).all [.ref (rdC bs p)] F=(∀ (k:Int) (n:Int) (s:ByteArray) (vk:Int) (vn:Int) (vs:ByteArray) (vks:List ByteArray) (vl:List T) (l:List Pw.F) (q:Int),(drFW 140010 (Pw.F.mk k n s (.mk vk vn vs vks vl) l)/\p<=q/\q<=p+200000)->F [.d (.agg (Pw.F.mk k n s (.mk vk vn vs vks vl) l).enc)] [.ref (rdC bs q)]):=by
 refine (Spec.ofR_all zP (bs,p) F).trans (propext ⟨fun h k n s vk vn vs vks vl l q hr=>h (k,n,s,vk,vn,vs,vks,vl,l,q) hr,fun h k hr=>?_⟩)
 exact h k.1 k.2.1 k.2.2.1 k.2.2.2.1 k.2.2.2.2.1 k.2.2.2.2.2.1 k.2.2.2.2.2.2.1 k.2.2.2.2.2.2.2.1 k.2.2.2.2.2.2.2.2.1 k.2.2.2.2.2.2.2.2.2 hr
theorem JU (bs:List Int) (p:Int):spBentF.ne [.ref (rdC bs p)]=True:=by
 rw[aaB]
 exact eq_true ⟨(0,0,⟨#[]⟩,0,0,⟨#[]⟩,[],[],[],p),((ig (k:=0) (n:=0) (s:=⟨#[]⟩) (by unfold i64;omega) (by unfold i64;omega) (by decide)).mono (by omega)).w,Int.le_refl _,by show p<=p+200000;omega⟩
set_option maxHeartbeats 4000000 in
theorem JV:Sound Tryz.prog 18 spBentF:=by
 refine dY (GOK.cons (l:=[(39,spDof),(41,spDnum),(42,spBent),(40,spSomeF)]) fz fC (GOK.cons (l:=[(41,spDnum),(42,spBent),(40,spSomeF)]) lJ lK (GOK.cons (l:=[(42,spBent),(40,spSomeF)]) nA nB (GOK.cons Vc Vh (GOK.cons aaw aaz GOK.nil))))) Tryz.func18 (c:=Tryz.f18.body.getD .skip) rfl (n:=42) rfl aax aay (fun _=>by simp) ?_
 ·rintro⟨bs,p⟩ ⟨hb,h1,h2⟩
  change byt bs at hb
  simp only at h1 h2
  simp only[JQ,rg,go_sem,seval,Prod.fst,pE,sw,ye,aT,F.enc,T.enc,List.cons_append,List.nil_append,cU,cV,cW,↓bn,bn,kr,kt,ku,↓dA,dA,lL,lM,lN,↓ej,ej,Vd,Ve,Vg,↓GL,GL,aaq,aar,aat,↓JO,JO]
  repeat' (first|with_reducible assumption|with_reducible refine And.intro ?_ ?_|intro _)
  all_goals first|omega|skip
  ·rename_i k n s vk vn vs vks vl l q hd m _ _ x hx
   simp only[List.mem_cons,List.not_mem_nil,or_false] at hx
   obtain⟨z1,z2,z3,z4,z5⟩:=tO hd.1.w
   exact od rfl rfl rfl (tN hd.1.w (by unfold i64;omega) z2 z3 z4 z5) (by omega) (by omega)
  ·rename_i k n s vk vn vs vks vl l q hd m _ _ _ x hx
   simp only[List.mem_cons,List.not_mem_nil,or_false] at hx
   obtain⟨z1,z2,z3,z4,z5⟩:=tO hd.1.w
   exact od rfl rfl rfl (tN hd.1.w z1 (by unfold i64;omega) z3 z4 z5) (by omega) (by omega)
  ·rename_i k n s vk vn vs vks vl l q hd m _ _ _ _ x hx
   simp only[List.mem_cons,List.not_mem_nil,or_false] at hx
   obtain⟨z1,z2,z3,z4,z5⟩:=tO hd.1.w
   exact od rfl rfl rfl (tN hd.1.w z1 z2 (by rcases hx with rfl|rfl|rfl <;> decide) z4 z5) (by omega) (by omega)
  ·rename_i k n s vk vn vs vks vl l q hd m _ _ _ _ _ k' n' s' ks' l' q' hw
   obtain⟨z1,z2,z3,z4,z5⟩:=tO hd.1.w
   exact od rfl rfl rfl (tN hd.1.w z1 z2 z3 hw.1.1 (by have:=hw.1.2.1;omega)) (by omega) (by omega)
  ·rename_i k n s vk vn vs vks vl l q hd m _ _ _ _ _ _
   refine aS (ι:=Nat × Int × Int × ByteArray × Int × Int × ByteArray × List ByteArray × List T × List Pw.F) (fun i=>7-i.1)
    (fun i=>i.1<=7/\drFW (140000+i.1) (.mk i.2.1 i.2.2.1 i.2.2.2.1 (.mk i.2.2.2.2.1 i.2.2.2.2.2.1 i.2.2.2.2.2.2.1 i.2.2.2.2.2.2.2.1 i.2.2.2.2.2.2.2.2.1) i.2.2.2.2.2.2.2.2.2))
    (fun i=>⟨[(2,.q (.box 2 0)),(3,.q (.box 3 0)),(4,.q (.c (.int .i64 i.1)))],
     [(42,(rdC bs (q+1)).map .c),(2,[.c (.int .i64 0),.c (.int .i64 0),.c (.str ⟨#[]⟩),.c (.int .i64 0),.c (.int .i64 0),.c (.str ⟨#[]⟩),.z 1,.z 5,.z 9]),(3,[.c (.int .i64 i.2.1),.c (.int .i64 i.2.2.1),.c (.str i.2.2.2.1),.c (.int .i64 i.2.2.2.2.1),.c (.int .i64 i.2.2.2.2.2.1),.c (.str i.2.2.2.2.2.2.1),.c (.row 1 (ae i.2.2.2.2.2.2.2.1)),.c (.row 5 (ak i.2.2.2.2.2.2.2.2.1)),.c (.row 9 (aD i.2.2.2.2.2.2.2.2.2))])],
     []⟩) (0,k,n,s,vk,vn,vs,vks,vl,l) ⟨by simp,hd.1.w.mono (by simp)⟩ (Le.of_eq (by simp)) ?_
   rintro⟨i,k,n,s,vk,vn,vs,vks,vl,l⟩ ⟨g1,g2⟩
   simp only at g1 g2
   rcases Nat.lt_or_ge i 7 with hlt|hge
   ·have b1:((i:Int) < 7)=True:=eq_true (by omega)
    simp only[rg,go_sem,seval,Prod.fst,b1]
    repeat' (first|with_reducible assumption|with_reducible refine And.intro ?_ ?_|intro _)
    all_goals first|omega|skip
    refine⟨(i+1,17,0,⟨#[]⟩,0,0,⟨#[]⟩,[],[],[.mk k n s (.mk vk vn vs vks vl) l]),⟨by show i+1<=7;omega,(aaA g2).mono (by simp only[Int.natCast_add];omega)⟩,by show 7-(i+1) < 7-i;omega,Le.bx ?_⟩
    intro p hp
    simp only[List.mem_cons,List.not_mem_nil,or_false] at hp
    rcases hp with rfl|rfl|rfl
    ·exact⟨_,by simp,All2.qrefl _⟩
    ·exact⟨_,by simp,All2.qrefl _⟩
    ·refine⟨_,List.mem_cons_of_mem _ (List.mem_cons_of_mem _ (List.mem_cons_self ..)),?_⟩
     exact .cons (QLe.refl _) (.cons (QLe.refl _) (.cons (QLe.refl _) (.cons (QLe.refl _) (.cons (QLe.refl _) (.cons (QLe.refl _) (.cons (QLe.z 1) (.cons (QLe.z 5) (.cons (QLe.full _ _) .nil))))))))
   ·have b1:((i:Int) < 7)=False:=eq_false (by omega)
    simp only[rg,go_sem,seval,Prod.fst,b1]
    repeat' (first|with_reducible assumption|with_reducible refine And.intro ?_ ?_|intro _)
    all_goals first|omega|skip
    exact od rfl rfl rfl g2 (by omega) (by omega)
  ·rename_i k n s vk vn vs vks vl l q hd m _ _ _ _ _ _
   exact od rfl rfl rfl hd.1.w (by omega) (by omega)
def tQ :Spec:=Spec.ofR (ι:=(List Int)) (κ:=Int × Int × ByteArray × Int × Int × ByteArray × (List ByteArray) × (List T) × (List Pw.F)) [false] (fun i=>[.d (.one (.row 1 (aG .u8 i)))]) (fun i=>(∀ b ∈ i,0<=b/\b<=255)/\aa 140737488355328 i.length) (fun i k=>drFW 140010 (Pw.F.mk k.1 k.2.1 k.2.2.1 (.mk k.2.2.2.1 k.2.2.2.2.1 k.2.2.2.2.2.1 k.2.2.2.2.2.2.1 k.2.2.2.2.2.2.2.1) k.2.2.2.2.2.2.2.2)) (fun i k=>[.d (.agg (Pw.F.mk k.1 k.2.1 k.2.2.1 (.mk k.2.2.2.1 k.2.2.2.2.1 k.2.2.2.2.2.1 k.2.2.2.2.2.2.1 k.2.2.2.2.2.2.2.1) k.2.2.2.2.2.2.2.2).enc)]) (fun i k=>[.gone])
theorem JW:∀ i j:(List Int),(fun (i:(List Int))=>([.d (.one (.row 1 (aG .u8 i)))]:List AV)) i=(fun (i:(List Int))=>([.d (.one (.row 1 (aG .u8 i)))]:List AV)) j->i=j:=by
 intro bs bs' h
 simpa [ar,T.enc_eq,au,F.enc_eq,av,Tk.enc_eq,aw,Gn.enc_eq,aq,dG,and_assoc] using h
theorem aaC :(tQ).md=[false]:=rfl
theorem aaD  (bs:List Int):(tQ).pre [.d (.one (.row 1 (aG .u8 bs)))]=((∀ b ∈ bs,0<=b/\b<=255)/\aa 140737488355328 bs.length):=Spec.ofR_pre JW bs
theorem JX  (bs:List Int) (F:List AV->List AV->Prop):(tQ).all [.d (.one (.row 1 (aG .u8 bs)))] F=(∀ (k:Int) (n:Int) (s:ByteArray) (vk:Int) (vn:Int) (vs:ByteArray) (vks:List ByteArray) (vl:List T) (l:List Pw.F),(drFW 140010 (Pw.F.mk k n s (.mk vk vn vs vks vl) l))->F [.d (.agg (Pw.F.mk k n s (.mk vk vn vs vks vl) l).enc)] [.gone]):=by
 refine (Spec.ofR_all JW bs F).trans (propext ⟨fun h k n s vk vn vs vks vl l hr=>h (k,n,s,vk,vn,vs,vks,vl,l) hr,fun h k hr=>?_⟩)
 exact h k.1 k.2.1 k.2.2.1 k.2.2.2.1 k.2.2.2.2.1 k.2.2.2.2.2.1 k.2.2.2.2.2.2.1 k.2.2.2.2.2.2.2.1 k.2.2.2.2.2.2.2.2 hr
end Go.Proofs.Pw
namespace Go.Proofs.Pw
variable [Globs]
def JY:X:=(.seq (.reg [xS 2 (.alloc xF)] none [0,2]) (.seq (.reg [xM 3 0,xS 4 (.call 19 [(.t 3)]),xS 5 (.callr 18 [(.t 4)]),xW 2 5 9] none [2]) .ret))
theorem aaE:ao Tryz.prog 6 (Tryz.f6.body.getD .skip) JY=true:=by kernel_rfl
theorem aaF:ap Tryz.prog Tryz.f6.results.toList [.cell 2 (some 9)]=true:=by kernel_rfl
theorem aaG:ax Tryz.prog 6=true:=by kernel_rfl
def JZ:X:=(.seq (.reg [xS 2 (.mv (.k (.c (.str ⟨#[]⟩))))] none [0]) (.seq (.reg [xM 6 0,xS 7 (.call 19 [(.t 6)]),xM 3 7] none [3]) (.seq (.reg [xM 8 3,xS 9 (.callr 18 [(.t 8)]),xS 10 (.call 8 [(.t 9)]),xM 4 10] none [3,4]) (.seq (.seq (.reg [xM 11 4,xS 12 (.len (.t 11) true),xS 13 (.bin false .eql (.t 12) (xK 0)),xM 14 13,xH 15 14 (.mv (.t 3)),xH 16 14 (.callr 38 [(.t 15),(xK 2)]),xH 17 14 (.bin false .eql (.t 16) (xK 0)),xS 18 (.pick (.t 14) (.k (.c (.bool true))) (.t 17))] none [3,4,18]) (.cond (.t 18) (.seq (.reg [xM 19 4,xM 2 19] none [2]) .ret) .skip)) (.seq (.reg [xM 20 3,xM 21 4,xS 22 (.len (.t 21) true),xS 23 (.callr 38 [(.t 20),(.t 22)]),xM 5 23] none [3,4,5]) (.seq (.mix [xM 24 4,xM 25 5,xS 26 (.sub (.t 24) none (some (.t 25)) 0),xM 27 3,xS 28 (.bsl 1 [((.k (.c (.str ⟨#[]⟩))),none),((.k (.c (.str ⟨#[32]⟩))),none),((.k (.c (.str ⟨#[46,32]⟩))),none),((.k (.c (.str ⟨#[48]⟩))),none),((.k (.c (.str ⟨#[91,93]⟩))),none),((.k (.c (.str ⟨#[112,105,112,101,32]⟩))),none),((.k (.c (.str ⟨#[58]⟩))),none)]),xS 29 (.callr 39 [(.t 27),(.t 28)]),xS 30 (.bin false .add (.t 26) (.t 29)),xM 31 4,xM 32 5,xM 33 3,xS 34 (.callr 38 [(.t 33),(xK 2)]),xS 35 (.bin false .add (.t 32) (.t 34)),xS 36 (.sub (.t 31) (some (.t 35)) none 0)] [xS 37 (.bin false .add (.t 30) (.t 36)),xM 2 37] [[],[],[],[],[],[2],[],[],[],[],[2],[],[]] [2]) .ret))))))
theorem aaH:ao Tryz.prog 38 (Tryz.f17.body.getD .skip) JZ=true:=by kernel_rfl
theorem aaI:ap Tryz.prog Tryz.f17.results.toList [.tmp 2]=true:=by kernel_rfl
theorem aaJ:ax Tryz.prog 17=true:=by kernel_rfl
theorem aaK:Sound Tryz.prog 6 tQ:=by
 refine dY (GOK.cons (l:=[(18,spBentF)]) GM GS (GOK.cons JR JV GOK.nil)) Tryz.func6 (c:=Tryz.f6.body.getD .skip) rfl (n:=6) rfl aaE aaF (fun _=>by simp) ?_
 ·rintro bs ⟨hb,h1⟩
  have hy:=GT hb
  simp only[JY,rg,go_sem,seval,Prod.fst,F.enc_len,GN,GO,GP,GQ,GR,JS,JT,JU,↓tP,tP]
  repeat' (first|with_reducible assumption|with_reducible refine And.intro ?_ ?_|intro _)
  all_goals first|omega|skip
  rename_i k n s vk vn vs vks vl l q hd
  exact⟨(k,n,s,vk,vn,vs,vks,vl,l),hd.1,rfl⟩
theorem Ka (t:Pw.F):(cj t).size<=40000:=by
 unfold cj
 split
 ·rename_i h;exact iH (wo h)
 ·show (0:Nat)<=_;omega
theorem Kb {m:Int} {t:Pw.F} (h:drFW m t) (hm:m<=1048577):t.fit 140737488355328/\cf t/\aX t<=1048577:=by
 obtain⟨h1,h2,h3,_⟩:=h
 exact⟨F.fit_mono (by decide) h1,h2,by omega⟩
def og :Spec:=Spec.ofR (ι:=(List Int)) (κ:=ByteArray) [false] (fun i=>[.d (.one (.row 1 (aG .u8 i)))]) (fun i=>(∀ b ∈ i,0<=b/\b<=255)/\aa 140737488355328 i.length) (fun i k=>(k.size:Int)<=100000) (fun i k=>[.d (.one (.str k))]) (fun i k=>[.gone])
theorem zQ:∀ i j:(List Int),(fun (i:(List Int))=>([.d (.one (.row 1 (aG .u8 i)))]:List AV)) i=(fun (i:(List Int))=>([.d (.one (.row 1 (aG .u8 i)))]:List AV)) j->i=j:=by
 intro bs bs' h
 simpa [ar,T.enc_eq,au,F.enc_eq,av,Tk.enc_eq,aw,Gn.enc_eq,aq] using h
theorem tR :(og).md=[false]:=rfl
theorem tS  (bs:List Int):(og).pre [.d (.one (.row 1 (aG .u8 bs)))]=((∀ b ∈ bs,0<=b/\b<=255)/\aa 140737488355328 bs.length):=Spec.ofR_pre zQ bs
theorem zR  (bs:List Int):(og).ne [.d (.one (.row 1 (aG .u8 bs)))]=(∃ k:ByteArray,(k.size:Int)<=100000):=Spec.ofR_ne zQ bs
theorem kI  (bs:List Int) (F:List AV->List AV->Prop):(og).all [.d (.one (.row 1 (aG .u8 bs)))] F=(∀ (s:ByteArray),((s.size:Int)<=100000)->F [.d (.one (.str s))] [.gone]):=by
 refine (Spec.ofR_all zQ bs F).trans (propext ⟨fun h s hr=>h s hr,fun h k hr=>?_⟩)
 exact h k hr
theorem aaL (a b c d e f g:ByteArray):C.row 1 [[C.str a],[C.str b],[C.str c],[C.str d],[C.str e],[C.str f],[C.str g]]=C.row 1 (ae [a,b,c,d,e,f,g]):=rfl
set_option maxHeartbeats 1000000 in
theorem aaM:Sound Tryz.prog 17 og:=by
 refine dY (GOK.cons (l:=[(18,spBentF),(8,fE),(38,spPick),(39,spDof)]) GM GS (GOK.cons JR JV (GOK.cons Iu IE (GOK.cons (l:=[(39,spDof)]) fz fC (GOK.cons lJ lK GOK.nil))))) Tryz.func17 (c:=Tryz.f17.body.getD .skip) rfl (n:=38) rfl aaH aaI (fun _=>by simp) ?_
 ·rintro bs ⟨hb,h1⟩
  have hy:=GT hb
  have u7:∀ x:ByteArray,x ∈ [(⟨#[]⟩:ByteArray),⟨#[32]⟩,⟨#[46,32]⟩,⟨#[48]⟩,⟨#[91,93]⟩,⟨#[112,105,112,101,32]⟩,⟨#[58]⟩]\/False->x.size<=5:=fun x hx=>by
   simp only[List.mem_cons,List.not_mem_nil,or_false] at hx
   rcases hx with rfl|rfl|rfl|rfl|rfl|rfl|rfl <;> decide
  simp only[JZ,rg,go_sem,seval,Prod.fst,F.enc_len,GN,GO,GP,GQ,GR,JS,JT,JU,↓tP,tP]
  repeat' (first|with_reducible assumption|with_reducible refine And.intro ?_ ?_|intro _)
  all_goals first|omega|skip
  rename_i k n s vk vn vs vks vl l q hd
  generalize hT:Pw.F.mk k n s (T.mk vk vn vs vks vl) l=t at *
  have hv:=Ka t
  have hf:=Kb hd.1 (by decide)
  have hq:=hd.2
  by_cases c0:(cj t).size=0
  ·have a0:(((cj t).size:Int)=0)=True:=eq_true (by omega)
   simp only[rg,go_sem,seval,Prod.fst,F.enc_len,a0,er,et,eu,ez,eA,cU,cV,cW,↓bn,bn]
   repeat' (first|with_reducible assumption|with_reducible refine And.intro ?_ ?_|intro _)
   all_goals first|omega|exact hf.1|exact hf.2.1|exact hf.2.2|skip
   exact⟨_,by omega,rfl⟩
  ·have a0:(((cj t).size:Int)=0)=False:=eq_false (by omega)
   simp only[rg,go_sem,seval,Prod.fst,F.enc_len,a0,aaL,er,et,eu,ez,eA,cU,cV,cW,↓bn,bn,kr,kt,ku,↓dA,dA]
   repeat' (first|with_reducible assumption|with_reducible refine And.intro ?_ ?_|intro _)
   all_goals first|omega|exact hf.1|exact hf.2.1|exact hf.2.2|skip
   ·exact⟨_,by omega,rfl⟩
   ·rename_i x hx
    have e1:=u7 x hx
    simp only[ByteArray.size_extract]
    omega
   ·rename_i x hx _ _
    have e1:=u7 x hx
    simp only[ByteArray.size_extract]
    omega
   ·rename_i x hx _ _ _
    have e1:=u7 x hx
    exact⟨_,by simp only[ByteArray.size_append,ByteArray.size_extract];omega,rfl⟩
end Go.Proofs.Pw
namespace Go.Proofs.Pw
variable [Globs]
def Kc:X:=(.seq (.reg [xS 2 (.box (.t 0) (some 9)),xS 3 (.box (.t 1) (some 9)),xS 4 (.mv (.k (.c (.bool false))))] none [2,3]) (.seq (.reg [xS 5 (.fa (.t 2) 0),xL 6 5,xS 7 (.fa (.t 3) 0),xL 8 7,xS 9 (.bin false .eql (.t 6) (.t 8)),xM 10 9,xG 11 10 (.fa (.t 2) 1),xG 12 10 (.load (.t 11) none),xG 13 10 (.fa (.t 3) 1),xG 14 10 (.load (.t 13) none),xG 15 10 (.bin false .eql (.t 12) (.t 14)),xS 16 (.pick (.t 10) (.t 15) (.k (.c (.bool false)))),xM 17 16,xG 18 17 (.fa (.t 2) 2),xG 19 17 (.load (.t 18) none),xG 20 17 (.fa (.t 3) 2),xG 21 17 (.load (.t 20) none),xG 22 17 (.bin false .eql (.t 19) (.t 21)),xS 23 (.pick (.t 17) (.t 22) (.k (.c (.bool false)))),xM 24 23,xG 25 24 (.fa (.t 2) 3),xG 26 24 (.load (.t 25) (some 5)),xG 27 24 (.fa (.t 3) 3),xG 28 24 (.load (.t 27) (some 5)),xG 29 24 (.call 28 [(.t 26),(.t 28)]),xS 30 (.pick (.t 24) (.t 29) (.k (.c (.bool false)))),xM 31 30,xG 32 31 (.fa (.t 2) 8),xG 33 31 (.load (.t 32) none),xG 34 31 (.fa (.t 3) 8),xG 35 31 (.load (.t 34) none),xG 36 31 (.call 29 [(.t 33),(.t 35),(.k (.c (.fn 12)))]),xS 37 (.pick (.t 31) (.t 36) (.k (.c (.bool false)))),xM 4 37] none [4]) .ret))
theorem aaN:ao Tryz.prog 38 (Tryz.f12.body.getD .skip) Kc=true:=by kernel_rfl
theorem aaO:ap Tryz.prog Tryz.f12.results.toList [.tmp 4]=true:=by kernel_rfl
theorem Kd:ax Tryz.prog 12=true:=by kernel_rfl
def zS:X:=(.seq (.reg [xS 6 (.mv (.k (.c (.bool false))))] none [0,1,2]) (.seq (.seq (.reg [xM 10 0,xS 11 (.len (.t 10) false),xM 12 1,xS 13 (.len (.t 12) false),xS 14 (.bin false .neq (.t 11) (.t 13))] none [0,1,2,14]) (.cond (.t 14) (.seq (.reg [xS 6 (.mv (.k (.c (.bool false))))] none [6]) .ret) .skip)) (.seq (.seq (.reg [xM 15 0,xS 16 (.len (.t 15) false),xS 17 (.mv (xK 0))] none [1,2,15,16,17]) (.block 0 (.loop (.seq (.reg [xS 18 (.bin false .lss (.t 17) (.t 16))] none [1,2,15,16,17,18]) (.seq (.cond (.t 18) .skip (.exit 0)) (.seq (.block 1 (.seq (.reg [xM 19 17,xS 20 (.ia (.t 15) (.t 17) 9),xS 21 (.load (.t 20) (some 9)),xS 8 (.alloc xF),xM 7 19,xW 8 21 9] none [1,2,7,8,15,16,17]) (.seq (.reg [xM 22 1,xM 23 7,xS 24 (.ia (.t 22) (.t 23) 9),xS 25 (.load (.t 24) (some 9)),xS 9 (.alloc xF),xW 9 25 9] none [1,2,8,9,15,16,17]) (.seq (.reg [xM 26 2,xS 27 (.load (.t 8) (some 9)),xS 28 (.load (.t 9) (some 9)),xS 29 (.calli (.t 26) [(.t 27),(.t 28)]),xS 30 (.not (.t 29))] none [1,2,15,16,17,30]) (.cond (.t 30) (.seq (.reg [xS 6 (.mv (.k (.c (.bool false))))] none [6]) .ret) .skip))))) (.reg [xS 31 (.bin false .add (.t 17) (xK 1)),xM 17 31] none [1,2,15,16,17]))))))) (.seq (.reg [xS 6 (.mv (.k (.c (.bool true))))] none [6]) .ret))))
theorem aaP:ao Tryz.prog 32 (Tryz.f29.body.getD .skip) zS=true:=by kernel_rfl
theorem aaQ:ap Tryz.prog Tryz.f29.results.toList [.tmp 6]=true:=by kernel_rfl
theorem aaR:ax Tryz.prog 29=true:=by kernel_rfl
noncomputable def kJ (k:Nat):Spec:=Spec.of (ι:=F × F) [false,false] (fun i=>[.d (.agg i.1.enc),.d (.agg i.2.enc)]) (fun i=>(i.1.fit 140737488355328/\i.2.fit 140737488355328)/\SizeOf.sizeOf i.1 < k) (fun i=>[.d (.one (.bool (decide (i.1=i.2))))]) (fun _=>[.gone,.gone])
theorem tT:∀ i j:F × F,(fun (i:F × F)=>([.d (.agg i.1.enc),.d (.agg i.2.enc)]:List AV)) i=(fun (i:F × F)=>([.d (.agg i.1.enc),.d (.agg i.2.enc)]:List AV)) j->i=j:=by
 rintro⟨a,b⟩ ⟨a',b'⟩ h
 simp only[Prod.mk.injEq]
 simpa [ar,T.enc_eq,au,F.enc_eq,av,Tk.enc_eq,aw,Gn.enc_eq,aq] using h
theorem Ke (k:Nat):(kJ k).md=[false,false]:=rfl
theorem Kf (k:Nat) (a:F) (b:F):(kJ k).pre [.d (.agg a.enc),.d (.agg b.enc)]=((a.fit 140737488355328/\b.fit 140737488355328)/\SizeOf.sizeOf a < k):=Spec.of_pre' tT (a,b)
theorem Kg (k:Nat):(kJ k).alts=none:=rfl
theorem Kh (k:Nat) (a:F) (b:F):(kJ k).res [.d (.agg a.enc),.d (.agg b.enc)]=[.d (.one (.bool (decide (a=b))))]:=Spec.of_res tT (a,b)
theorem Ki (k:Nat) (a:F) (b:F):(kJ k).out [.d (.agg a.enc),.d (.agg b.enc)]=[.gone,.gone]:=Spec.of_out tT (a,b)
noncomputable def jm (k:Nat):Spec:=Spec.of (ι:=(List Pw.F) × (List Pw.F)) [false,false,false] (fun i=>[.d (.one (.row 9 (aD i.1))),.d (.one (.row 9 (aD i.2))),.d (.one (.fn 12))]) (fun i=>(aa 140737488355328 i.1.length/\bG 140737488355328 i.1/\aa 140737488355328 i.2.length/\bG 140737488355328 i.2)/\SizeOf.sizeOf i.1 < k) (fun i=>[.d (.one (.bool (decide (i.1=i.2))))]) (fun _=>[.gone,.gone,.gone])
theorem tU:∀ i j:(List Pw.F) × (List Pw.F),(fun (i:(List Pw.F) × (List Pw.F))=>([.d (.one (.row 9 (aD i.1))),.d (.one (.row 9 (aD i.2))),.d (.one (.fn 12))]:List AV)) i=(fun (i:(List Pw.F) × (List Pw.F))=>([.d (.one (.row 9 (aD i.1))),.d (.one (.row 9 (aD i.2))),.d (.one (.fn 12))]:List AV)) j->i=j:=by
 rintro⟨a,b⟩ ⟨a',b'⟩ h
 simp only[Prod.mk.injEq]
 simpa [ar,T.enc_eq,au,F.enc_eq,av,Tk.enc_eq,aw,Gn.enc_eq,aq] using h
theorem aaS (k:Nat):(jm k).md=[false,false,false]:=rfl
theorem aaT (k:Nat) (a:List Pw.F) (b:List Pw.F):(jm k).pre [.d (.one (.row 9 (aD a))),.d (.one (.row 9 (aD b))),.d (.one (.fn 12))]=((aa 140737488355328 a.length/\bG 140737488355328 a/\aa 140737488355328 b.length/\bG 140737488355328 b)/\SizeOf.sizeOf a < k):=Spec.of_pre' tU (a,b)
theorem aaU (k:Nat):(jm k).alts=none:=rfl
theorem aaV (k:Nat) (a:List Pw.F) (b:List Pw.F):(jm k).res [.d (.one (.row 9 (aD a))),.d (.one (.row 9 (aD b))),.d (.one (.fn 12))]=[.d (.one (.bool (decide (a=b))))]:=Spec.of_res tU (a,b)
theorem aaW (k:Nat) (a:List Pw.F) (b:List Pw.F):(jm k).out [.d (.one (.row 9 (aD a))),.d (.one (.row 9 (aD b))),.d (.one (.fn 12))]=[.gone,.gone,.gone]:=Spec.of_out tU (a,b)
theorem aaX (k:Nat) (hS:Sound Tryz.prog 29 (jm k)):Sound Tryz.prog 12 (kJ (k+1)):=by
 refine aL (GOK.cons (l:=[(29,jm k)]) xY Gv (GOK.cons aaR hS GOK.nil)) Tryz.func12 (c:=Tryz.f12.body.getD .skip) rfl (n:=38) rfl aaN aaO (fun _=>by simp) ?_ ?_
 ·exact tT
 ·rintro⟨a,b⟩ ⟨⟨h1,h2⟩,h4⟩
  obtain⟨kk,n,s,v,l⟩:=a
  obtain⟨vk,vn,vs,vks,vl⟩:=v
  obtain⟨kk',n',s',v',l'⟩:=b
  obtain⟨vk',vn',vs',vks',vl'⟩:=v'
  have p1:=Gr (T.mk vk vn vs vks vl) (T.mk vk' vn' vs' vks' vl')
  have p2:=Gt (T.mk vk vn vs vks vl) (T.mk vk' vn' vs' vks' vl')
  have p3:=Gu (T.mk vk vn vs vks vl) (T.mk vk' vn' vs' vks' vl')
  generalize hv:T.mk vk vn vs vks vl=v at *
  generalize hv':T.mk vk' vn' vs' vks' vl'=v' at *
  have q:v.enc=[.int .i64 vk,.int .i64 vn,.str vs,.row 1 (ae vks),.row 5 (ak vl)]:=by rw[<-hv];rfl
  have q':v'.enc=[.int .i64 vk',.int .i64 vn',.str vs',.row 1 (ae vks'),.row 5 (ak vl')]:=by rw[<-hv'];rfl
  simp only[F.fit] at h1 h2
  obtain⟨_,_,f1,f2,f3,f4⟩:=h1
  obtain⟨_,_,g1,g2,g3,g4⟩:=h2
  have e3 : SizeOf.sizeOf l < k := by have e : SizeOf.sizeOf (F.mk kk n s v l) < k + 1 := h4
                                      rw[F.mk.sizeOf_spec] at e;omega
  clear h4
  simp only[q,q'] at p1 p2 p3
  simp only[Kc,F.enc,q,q',List.cons_append,List.nil_append,go_sem,seval,rg,F.mk.injEq,p1,p2,p3,Gq,Gs,aaS,aaT,aaU,aaV,aaW]
  repeat' (first|with_reducible assumption|with_reducible refine And.intro ?_ ?_|intro _)
  all_goals first|omega|(grind;done)|skip
theorem aaY (k:Nat) (hS:Sound Tryz.prog 12 (kJ k)):Sound Tryz.prog 29 (jm (k+1)):=by
 refine aL (GOK.cons Kd hS GOK.nil) Tryz.func29 (c:=Tryz.f29.body.getD .skip) rfl (n:=32) rfl aaP aaQ (fun _=>by simp) ?_ ?_
 ·exact tU
 ·rintro⟨a,b⟩ ⟨h1,h3⟩
  simp only at h3
  simp only[aa] at h1
  have fa:=dZ h1.2.1
  have fb:=dZ h1.2.2.2
  by_cases hl:a.length=b.length
  ·have b1:((a.length:Int)=(b.length:Int))=True:=by simp[hl]
   simp only[zS,rg,go_sem,seval,b1]
   refine aS (ι:=Nat) (fun i=>a.length-i) (fun i=>i<=a.length/\a.take i=b.take i)
    (fun i=>⟨[(1,.q (.c (.row 9 (aD b)))),(2,.q (.c (.fn 12))),(15,.q (.c (.row 9 (aD a)))),(16,.q (.c (.int .i64 a.length))),(17,.q (.c (.int .i64 i)))],[],[]⟩) 0 ⟨Nat.zero_le _,rfl⟩ (Le.refl _) ?_
   rintro i ⟨hi,heq⟩
   rcases Nat.lt_or_ge i a.length with hlt|hge
   ·obtain⟨s,hs,_,hmem⟩:=aY hlt
    obtain⟨s',hs',_,hmem'⟩:=aY (l:=b) (i:=i) (by omega)
    have a1:=cQ hs
    have a1':=cQ hs'
    have a2:((i:Int) < (a.length:Int))=True:=by simp;omega
    have a3:((i:Int) < (b.length:Int))=True:=by simp;omega
    have a4:=fa s hmem
    have a5:=fb s' hmem'
    have a6:=F.enc_len s
    have a6':=F.enc_len s'
    have a8:=bZ hmem
    by_cases hc:s=s'
    ·have c1:(s=s')=True:=by simp[hc]
     simp only[go_sem,seval,rg,a1,a1',a2,a3,a6,a6',c1,Ke,Kf,Kg,Kh,Ki]
     repeat' (first|with_reducible assumption|with_reducible refine And.intro ?_ ?_|intro _)
     all_goals first|omega|skip
     exact⟨i+1,⟨by omega,oV hs (hc ▸ hs') heq⟩,by omega,Le.sub (fun _ h=>h) (fun _ h=>by cases h) (fun _ h=>h)⟩
    ·have c1:(s=s')=False:=by simp[hc]
     simp only[go_sem,seval,rg,a1,a1',a2,a3,a6,a6',c1,Ke,Kf,Kg,Kh,Ki]
     repeat' (first|with_reducible assumption|with_reducible refine And.intro ?_ ?_|intro _)
     all_goals first|omega|skip
     rename_i h;exact oT hs hs' hc h
   ·have a2:((i:Int) < (a.length:Int))=False:=by simp;omega
    have hie:i=a.length:=by omega
    subst hie
    simp only[go_sem,seval,a2]
    exact oW hl heq
  ·have b1:((a.length:Int)=(b.length:Int))=False:=by simp;omega
   simp only[zS,rg,go_sem,seval,b1]
   exact fun e=>hl (by rw[e])
theorem aaZ (k:Nat):Sound Tryz.prog 12 (kJ k)/\Sound Tryz.prog 29 (jm k):=by
 induction k with
 | zero=>exact⟨Sound.none,Sound.none⟩
 | succ k ih=>exact⟨aaX k ih.2,aaY k ih.1⟩
noncomputable def ma :Spec:=Spec.of (ι:=F × F) [false,false] (fun i=>[.d (.agg i.1.enc),.d (.agg i.2.enc)]) (fun i=>i.1.fit 140737488355328/\i.2.fit 140737488355328) (fun i=>[.d (.one (.bool (decide (i.1=i.2))))]) (fun _=>[.gone,.gone])
theorem zT:∀ i j:F × F,(fun (i:F × F)=>([.d (.agg i.1.enc),.d (.agg i.2.enc)]:List AV)) i=(fun (i:F × F)=>([.d (.agg i.1.enc),.d (.agg i.2.enc)]:List AV)) j->i=j:=by
 rintro⟨a,b⟩ ⟨a',b'⟩ h
 simp only[Prod.mk.injEq]
 simpa [ar,T.enc_eq,au,F.enc_eq,av,Tk.enc_eq,aw,Gn.enc_eq,aq] using h
theorem zU :(ma).md=[false,false]:=rfl
theorem zV  (a:F) (b:F):(ma).pre [.d (.agg a.enc),.d (.agg b.enc)]=(a.fit 140737488355328/\b.fit 140737488355328):=Spec.of_pre' zT (a,b)
theorem zW :(ma).alts=none:=rfl
theorem zX  (a:F) (b:F):(ma).res [.d (.agg a.enc),.d (.agg b.enc)]=[.d (.one (.bool (decide (a=b))))]:=Spec.of_res zT (a,b)
theorem zY  (a:F) (b:F):(ma).out [.d (.agg a.enc),.d (.agg b.enc)]=[.gone,.gone]:=Spec.of_out zT (a,b)
theorem aa0:Sound Tryz.prog 12 ma:=Sound.all (μ:=fun i=>SizeOf.sizeOf i.1) (fun k=>(aaZ k).1)
end Go.Proofs.Pw
namespace Go.Proofs.Pw
def bytes (bs:List Int):Prop:=(∀ b ∈ bs,0<=b/\b<=255)/\aa 140737488355328 bs.length
end Go.Proofs.Pw
namespace Go.Proofs.Pw
variable [Globs]
def Kj:X:=(.seq (.reg [xS 4 (.mv (.k (.c (.bool false))))] none [0,1]) (.seq (.seq (.reg [xM 14 0,xS 15 (.len (.t 14) false),xS 16 (.bin false .gtr (.t 15) (xK 1048576)),xM 17 16,xH 18 17 (.mv (.t 1)),xH 19 17 (.len (.t 18) false),xH 20 17 (.bin false .gtr (.t 19) (xK 1048576)),xS 21 (.pick (.t 17) (.k (.c (.bool true))) (.t 20))] none [0,1,21]) (.cond (.t 21) (.seq (.reg [xS 4 (.mv (.k (.c (.bool true))))] none [4]) .ret) .skip)) (.seq (.reg [xM 22 0,xS 23 (.callr 6 [(.t 22)]),xS 5 (.alloc xF),xW 5 23 9] none [1,5]) (.seq (.reg [xS 24 (.load (.t 5) (some 9)),xS 25 (.call 7 [(.t 24)]),xM 6 25] none [1,5,6]) (.seq (.reg [xM 27 6,xS 28 (.call 10 [(.t 27)]),xM 26 28,xS 29 (.ext (.t 26) 0),xS 30 (.ext (.t 26) 1),xS 7 (.alloc xF),xW 7 29 9,xM 8 30] none [1,5,6,7,8]) (.seq (.seq (.reg [xM 31 6,xS 32 (.load (.t 5) (some 9)),xS 33 (.call 8 [(.t 32)]),xS 34 (.bin false .neq (.t 31) (.t 33)),xM 35 34,xH 36 35 (.load (.t 5) (some 9)),xH 37 35 (.call 11 [(.t 36)]),xH 38 35 (.load (.t 5) (some 9)),xH 39 35 (.call 9 [(.t 38)]),xH 40 35 (.bin true .neq (.t 37) (.t 39)),xS 41 (.pick (.t 35) (.k (.c (.bool true))) (.t 40)),xM 42 41,xH 43 42 (.mv (.t 8)),xH 44 42 (.load (.t 5) (some 9)),xH 45 42 (.call 9 [(.t 44)]),xH 46 42 (.mv (.t 45)),xG 47 46 (.mv (.t 6)),xG 48 46 (.len (.t 47) true),xG 49 46 (.bin false .leq (.t 48) (xK 6000)),xH 50 42 (.pick (.t 46) (.t 49) (.k (.c (.bool false)))),xH 51 42 (.bin true .neq (.t 43) (.t 50)),xS 52 (.pick (.t 42) (.k (.c (.bool true))) (.t 51)),xM 53 52,xH 54 53 (.mv (.t 8)),xH 55 53 (.mv (.t 54)),xG 56 55 (.load (.t 7) (some 9)),xG 57 55 (.load (.t 5) (some 9)),xG 58 55 (.call 12 [(.t 56),(.t 57)]),xG 59 55 (.not (.t 58)),xH 60 53 (.pick (.t 55) (.t 59) (.k (.c (.bool false)))),xS 61 (.pick (.t 53) (.k (.c (.bool true))) (.t 60))] (some 27) [1,61]) (.cond (.t 61) (.seq (.reg [xS 4 (.mv (.k (.c (.bool false))))] none [4]) .ret) .skip)) (.seq (.reg [xM 62 1,xS 63 (.callr 17 [(.t 62)]),xM 9 63] none [9]) (.seq (.reg [xM 65 9,xS 66 (.call 10 [(.t 65)]),xM 64 66,xS 67 (.ext (.t 64) 0),xS 68 (.ext (.t 64) 1),xS 10 (.alloc xF),xW 10 67 9,xM 11 68] none [9,10,11]) (.seq (.reg [xM 70 9,xS 71 (.call 13 [(.t 70)]),xM 69 71,xS 72 (.ext (.t 69) 0),xS 73 (.ext (.t 69) 1),xS 12 (.alloc xF),xW 12 72 9,xM 13 73] none [9,10,11,13]) (.seq (.reg [xM 74 11,xM 75 13,xS 76 (.bin true .eql (.t 74) (.t 75)),xM 77 76,xG 78 77 (.mv (.t 11)),xG 79 77 (.not (.t 78)),xG 80 77 (.mv (.t 79)),xH 81 80 (.load (.t 10) (some 9)),xH 82 80 (.call 7 [(.t 81)]),xH 83 80 (.mv (.t 9)),xH 84 80 (.bin false .eql (.t 82) (.t 83)),xH 85 80 (.mv (.t 84)),xG 86 85 (.load (.t 10) (some 9)),xG 87 85 (.call 11 [(.t 86)]),xH 88 80 (.pick (.t 85) (.t 87) (.k (.c (.bool false)))),xG 89 77 (.pick (.t 80) (.k (.c (.bool true))) (.t 88)),xS 90 (.pick (.t 77) (.t 89) (.k (.c (.bool false)))),xM 4 90] none [4]) .ret))))))))))
theorem aa1:ao Tryz.prog 91 (Tryz.f5.body.getD .skip) Kj=true:=by kernel_rfl
theorem aa2:ap Tryz.prog Tryz.f5.results.toList [.tmp 4]=true:=by kernel_rfl
theorem aa3 {A:Pw.F} (h:okF A) (hs:(bi A).size<=6000):fOk (bi A)/\fT (bi A)=A:=by
 obtain⟨h1,h2⟩:=sH h rfl
 have h3:fOk (bi A):=⟨h1,hs⟩
 exact⟨h3,(tG h3).trans h2⟩
theorem aa4:¬ fOk ⟨#[]⟩:=fun h=>Jq h.1
theorem zZ {x:ByteArray} (h:fOk x):okF (fT x)/\cj (fT x)=x/\(fT x).fit 140737488355328/\cf (fT x)/\aX (fT x)<=1048577:=by
 obtain⟨h1,h2⟩:=VR h.1
 have e:=tG h
 obtain⟨_,f1,f2,f3⟩:=tu (B:=6000) (by decide) 7 (aM x) (fun w hw=>by have:=sJ hw;have:=h.2;omega)
 have e2:=HC h.1
 rw[e]
 refine⟨h1,by unfold cj;rw[if_pos h1];exact h2,?_,?_,?_⟩
 ·rw[e2];exact F.fit_mono (by decide) f1
 ·rw[e2];exact f2
 ·have h4:((4 ^ 7:Nat):Int)<=1048577:=by decide
  rw[e2];omega
noncomputable def Aa :Spec:=Spec.of (ι:=(List Int) × (List Int)) [false,false] (fun i=>[.d (.one (.row 1 (aG .u8 i.1))),.d (.one (.row 1 (aG .u8 i.2)))]) (fun i=>bytes i.1/\bytes i.2) (fun _=>[.d (.one (.bool true))]) (fun _=>[.gone,.gone])
theorem Ab:∀ i j:(List Int) × (List Int),(fun (i:(List Int) × (List Int))=>([.d (.one (.row 1 (aG .u8 i.1))),.d (.one (.row 1 (aG .u8 i.2)))]:List AV)) i=(fun (i:(List Int) × (List Int))=>([.d (.one (.row 1 (aG .u8 i.1))),.d (.one (.row 1 (aG .u8 i.2)))]:List AV)) j->i=j:=by
 rintro⟨a,b⟩ ⟨a',b'⟩ h
 simp only[Prod.mk.injEq]
 simpa [ar,T.enc_eq,au,F.enc_eq,av,Tk.enc_eq,aw,Gn.enc_eq,aq] using h
theorem aa5  (a:List Int) (b:List Int):(Aa).pre [.d (.one (.row 1 (aG .u8 a))),.d (.one (.row 1 (aG .u8 b)))]=(bytes a/\bytes b):=Spec.of_pre' Ab (a,b)
theorem aa6  (a:List Int) (b:List Int):(Aa).res [.d (.one (.row 1 (aG .u8 a))),.d (.one (.row 1 (aG .u8 b)))]=[.d (.one (.bool true))]:=Spec.of_res Ab (a,b)
set_option maxHeartbeats 4000000 in
theorem aa7 (hM:pM) (hE:ei) (hK:tabK) (hW:get? 0 Globs.G=some cv) (hG:get? 1 Globs.G=some dI):Sound Tryz.prog 5 Aa:=by
 refine aL (GOK.cons (l:=[(7,fE),(8,fE),(10,ji),(13,ji),(11,lV),(9,gw),(12,ma),(17,og)]) aaG aaK (GOK.cons Iw (IF hK hW hG) (GOK.cons Iu IE (GOK.cons Zr (Zy hM hE hK hW hG) (GOK.cons ZN ZV (GOK.cons Ih (Io hG) (GOK.cons sO sT (GOK.cons Kd aa0 (GOK.cons aaJ aaM GOK.nil))))))))) Tryz.func5 (c:=Tryz.f5.body.getD .skip) rfl (n:=91) rfl aa1 aa2 (fun _=>by simp) ?_ ?_
 ·exact Ab
 ·rintro⟨a,b⟩ ⟨h1,h2⟩
  simp only[bytes,aa] at h1 h2
  simp only[Kj,rg,go_sem,seval,Prod.fst,fm,F.enc_len,aaC,aaD,↓JX,JX,tR,tS,↓kI,kI]
  repeat' (first|with_reducible assumption|with_reducible refine And.intro ?_ ?_|intro _)
  all_goals first|omega|skip
  ·exact (h1.1 _ (by assumption)).1
  ·exact (h1.1 _ (by assumption)).2
  ·unfold aa;omega
  rename_i k n s vk vn vs vks vl l hd
  generalize hA:Pw.F.mk k n s (T.mk vk vn vs vks vl) l=A at *
  clear hA
  obtain⟨a1,a2,a3⟩:=Kb hd (by decide)
  have fA:=F.enc_len A
  have hv:=Ka A
  have oA:((aZ A 1 16).1=true)=okF A:=propext (rq A)
  have oU:∀ u,((aZ u 1 16).1=true)=okF u:=fun u=>propext (rq u)
  by_cases c0:okF A
  ·have e0:okF A=True:=eq_true c0
   have e1:cj A=bi A:=by unfold cj;rw[if_pos c0]
   rw[e1] at hv
   by_cases c6:(bi A).size<=6000
   ·obtain⟨g1,g2⟩:=aa3 c0 c6
    have e2:fOk (bi A)=True:=eq_true g1
    have e3:(((bi A).size:Int)<=6000)=True:=eq_true (by omega)
    simp only[rg,go_sem,seval,Prod.fst,fA,fm,oA,e0,e1,e2,e3,g2,er,et,eu,ez,eA,jj,jl,hY,ib,ic,gx,gy,gz,gA,gB,iX,iY,iZ,ja,jb,zU,zV,zW,zX,zY,tR,tS,zR,↓kI,kI]
    repeat' (first|with_reducible assumption|with_reducible refine And.intro ?_ ?_|intro _)
    all_goals first|omega|(unfold aa;omega)|exact a1|exact a2|exact a3|exact (h2.1 _ (by assumption)).1|exact (h2.1 _ (by assumption)).2|skip
    rename_i x hx _
    by_cases c1:fOk x
    ·obtain⟨g3,g4,g5,g6,g7⟩:=zZ c1
     have e4:fOk x=True:=eq_true c1
     have e5:okF (fT x)=True:=eq_true g3
     have e7:=F.enc_len (fT x)
     have e8:=oU (fT x)
     simp only[rg,go_sem,seval,Prod.fst,e4,e5,g4,e7,e8,er,et,eu,ez,eA,jj,jl,hY,ib,ic,gx,gy,gz,gA,gB]
     repeat' (first|with_reducible assumption|with_reducible refine And.intro ?_ ?_|intro _)
     all_goals first|omega|(unfold aa;omega)|exact g5|exact g6|exact g7|skip
    ·have e4:fOk x=False:=eq_false c1
     have e7:=F.enc_len (fT x)
     simp only[rg,go_sem,seval,Prod.fst,e4,e7,er,et,eu,ez,eA,jj,jl,hY,ib,ic,gx,gy,gz,gA,gB]
     repeat' (first|with_reducible assumption|with_reducible refine And.intro ?_ ?_|intro _)
     all_goals first|omega|(unfold aa;omega)|skip
   ·have e2:fOk (bi A)=False:=eq_false fun h=>c6 h.2
    have e3:(((bi A).size:Int)<=6000)=False:=eq_false (by omega)
    have e9:=F.enc_len (fT (bi A))
    simp only[rg,go_sem,seval,Prod.fst,fA,fm,oA,e0,e1,e2,e3,e9,er,et,eu,ez,eA,jj,jl,hY,ib,ic,gx,gy,gz,gA,gB,iX,iY,iZ,ja,jb,zU,zV,zW,zX,zY,tR,tS,zR,↓kI,kI]
    repeat' (first|with_reducible assumption|with_reducible refine And.intro ?_ ?_|intro _)
    all_goals first|omega|(unfold aa;omega)|exact a1|exact a2|exact a3|exact (h2.1 _ (by assumption)).1|exact (h2.1 _ (by assumption)).2|skip
    rename_i x hx _
    by_cases c1:fOk x
    ·obtain⟨g3,g4,g5,g6,g7⟩:=zZ c1
     have e4:fOk x=True:=eq_true c1
     have e5:okF (fT x)=True:=eq_true g3
     have e7:=F.enc_len (fT x)
     have e8:=oU (fT x)
     simp only[rg,go_sem,seval,Prod.fst,e4,e5,g4,e7,e8,er,et,eu,ez,eA,jj,jl,hY,ib,ic,gx,gy,gz,gA,gB]
     repeat' (first|with_reducible assumption|with_reducible refine And.intro ?_ ?_|intro _)
     all_goals first|omega|(unfold aa;omega)|exact g5|exact g6|exact g7|skip
    ·have e4:fOk x=False:=eq_false c1
     have e7:=F.enc_len (fT x)
     simp only[rg,go_sem,seval,Prod.fst,e4,e7,er,et,eu,ez,eA,jj,jl,hY,ib,ic,gx,gy,gz,gA,gB]
     repeat' (first|with_reducible assumption|with_reducible refine And.intro ?_ ?_|intro _)
     all_goals first|omega|(unfold aa;omega)|skip
  ·have e0:okF A=False:=eq_false c0
   have e1:cj A=⟨#[]⟩:=by unfold cj;rw[if_neg c0]
   have e2:fOk (⟨#[]⟩:ByteArray)=False:=eq_false aa4
   have e9:=F.enc_len (fT ⟨#[]⟩)
   simp only[rg,go_sem,seval,Prod.fst,fA,fm,oA,e0,e1,e2,e9,er,et,eu,ez,eA,jj,jl,hY,ib,ic,gx,gy,gz,gA,gB,iX,iY,iZ,ja,jb,zU,zV,zW,zX,zY,tR,tS,zR,↓kI,kI]
   repeat' (first|with_reducible assumption|with_reducible refine And.intro ?_ ?_|intro _)
   all_goals first|omega|(unfold aa;omega)|exact a1|exact a2|exact a3|exact (h2.1 _ (by assumption)).1|exact (h2.1 _ (by assumption)).2|skip
   ·show aa 140737488355328 0;unfold aa;omega
   rename_i x hx _
   by_cases c1:fOk x
   ·obtain⟨g3,g4,g5,g6,g7⟩:=zZ c1
    have e4:fOk x=True:=eq_true c1
    have e5:okF (fT x)=True:=eq_true g3
    have e7:=F.enc_len (fT x)
    have e8:=oU (fT x)
    simp only[rg,go_sem,seval,Prod.fst,e4,e5,g4,e7,e8,er,et,eu,ez,eA,jj,jl,hY,ib,ic,gx,gy,gz,gA,gB]
    repeat' (first|with_reducible assumption|with_reducible refine And.intro ?_ ?_|intro _)
    all_goals first|omega|(unfold aa;omega)|exact g5|exact g6|exact g7|skip
   ·have e4:fOk x=False:=eq_false c1
    have e7:=F.enc_len (fT x)
    simp only[rg,go_sem,seval,Prod.fst,e4,e7,er,et,eu,ez,eA,jj,jl,hY,ib,ic,gx,gy,gz,gA,gB]
    repeat' (first|with_reducible assumption|with_reducible refine And.intro ?_ ?_|intro _)
    all_goals first|omega|(unfold aa;omega)|skip
end Go.Proofs.Pw
namespace Go.Proofs.Pw
open Go.RowKit
def Old (w:World) (g:Nat):Prop:=g < w.heap.size
theorem oh {w:World} {a:Addr} {v:Value} (h:w.cell? a=some v):a.block < w.heap.size:=by
 unfold World.cell? at h
 rcases Nat.lt_or_ge a.block w.heap.size with hlt|hge
 ·exact hlt
 ·rw[Array.getElem?_eq_none hge] at h;simp at h
theorem Kk {k:IntKind} {w:World} {a:Option Addr} {len cap:Nat} {zs:List Int}
 (h:(a=none/\len=0/\cap=0/\zs=[])\/∃ x,a=some x/\len<=cap/\cap<=maxLen/\zs.length=cap/\(∀ i,i < zs.length->w.cell? (x.add i)=some (.int k (zs.getD i 0)))/\∀ n ∈ zs,(Lit.int k n).wf=true) :
 Rep w (Old w) (.row 1 (aG k (zs.take len))) (.slice a len cap)/\(zs.take len).length=len/\∀ n ∈ zs.take len,(Lit.int k n).wf=true:=by
 rcases h with ⟨rfl,rfl,rfl,rfl⟩|⟨x,rfl,hl,hm,hz,hc,hw⟩
 ·exact⟨.nil ..,rfl,by simp⟩
 ·have hlen:(zs.take len).length=len:=by simp;omega
  refine⟨?_,hlen,fun n hn=>hw n (List.mem_of_mem_take hn)⟩
  rcases Nat.eq_zero_or_pos len with h0|h0
  ·subst h0;exact .nil ..
  ·have key:∀ (i j:Nat) e c,(aG k (zs.take len))[i]?=some e->e[j]?=some c->j=0/\i < zs.length/\c=.int k (zs.getD i 0):=fun i j e c he hj=>by
    simp only[aG,List.getElem?_map,Option.map_eq_some_iff] at he
    obtain⟨n,hn,rfl⟩:=he
    rw[List.getElem?_take] at hn
    split at hn
    ·cases j with
     | zero=>simp at hj;subst hj;exact⟨rfl,(List.getElem?_eq_some_iff.1 hn).1,by simp[hn]⟩
     | succ j=>simp at hj
    ·cases hn
   have hel:(aG k (zs.take len)).length=len:=by rw[fm,hlen]
   have:=Rep.row (w:=w) (S:=Old w) 1 (aG k (zs.take len)) x cap (fun i=>.int k (zs.getD i 0)) (by omega) (by
    have:=oh (hc 0 (by omega));rwa [jn] at this) (fun i e he=>by
     simp only[aG,List.getElem?_map,Option.map_eq_some_iff] at he
     obtain⟨n,_,rfl⟩:=he;rfl) (fun i j e c he hj=>by
     obtain⟨rfl,h1,_⟩:=key i j e c he hj
     simpa using hc i h1) (fun i j e c he hj=>by
     obtain⟨rfl,h1,rfl⟩:=key i j e c he hj
     simpa using Rep.int k (zs.getD i 0))
   rwa [hel] at this
theorem aa8 [Globs] {P:Program} {f:FuncId} {sp:Spec} (h:Sound P f sp) {args:List AV} (hp:sp.pre args) (ha:sp.alts=none) (hr:sp.res args=[.d (.one (.bool true))]) {W:World} {vs:List Value} (hG:Gl W (Old W))
 (hA:All3 (RepA W (Old W)) args vs (args.map fun _=>fun _=>False)):Calls P f vs.toArray W fun e w'=>e=.returned (.bool true)/\Below W.heap.size W w':=by
 refine (h args hp W (Old W) vs _ hG (fun _ h=>h) (fun g hg=>absurd hg da) mo hA).mono ?_
 rintro e w' ⟨r,o,hro,v,S',rfs,fps',rfl,g1,_,_,_,_,_,g8⟩
 obtain⟨rfl,rfl⟩:=(Spec.may_none ha).1 hro
 rw[hr] at g1
 refine⟨?_,⟨g8.os,g8.tape,g8.output,g8.size,fun k hk=>g8.block k hk da⟩⟩
 cases rfs with
 | nil=>exact absurd rfl g1.1
 | cons fp r=>cases r with
   | nil =>
     obtain⟨g1,_⟩:=g1
     cases g1;rfl
   | cons _ _=>exact absurd rfl g1.1
end Go.Proofs.Pw
namespace Go.Proofs.Pw
open Go.RowKit Go.ChangeShapes Go.WideShapes
section
variable {H:Type} {enc:TypeId × Value->H} {P:Program} {W W':World} {spare:Nat->Bool} {held:Bool}
theorem aa9 (hl:laidOutB P=true) (hb:Below W.heap.size W W'):∀ {ts:List TypeId} {vs:List Value} {ds:List (DataW H)} {p:List MemPlace},DataW.TrodAll enc P W 0 (fun _=>true) true ts vs ds p ->
 (ts.all fun t=>P.readableRec t && decide (t < P.types.size))=true->(∀ x ∈ p,x.block < W.heap.size)->DataW.TrodAll enc P W' 0 (fun b=>decide (b < W.heap.size)) true ts vs ds p:=by
 intro ts
 induction ts with
 | nil =>
   intro vs ds p h _ _
   cases vs <;> cases ds <;> first|exact h|exact h.elim
 | cons t ts ih =>
   intro vs ds p h hr hp
   obtain⟨v,vs',d,ds',p1,q,rfl,rfl,rfl,h1,h2⟩:=trodAll_cons h
   simp only[List.all_cons,Bool.and_eq_true,decide_eq_true_eq] at hr
   exact⟨p1,q,Below.trod hl hr.1.1 hr.1.2 h1 hb (fun x hx=>hp x (by simp[hx])),ih h2 hr.2 (fun x hx=>hp x (by simp[hx])),rfl⟩
theorem aba (hl:laidOutB P=true) (hb:Below W.heap.size W W'):∀ {ns:List String} {gs:List (DataW H)} {p:List MemPlace},DataW.TrodVars enc P W (fun _=>true) ns gs p ->
 (ns.all fun n=>match P.globalNamed n with|some g=>(match P.globals[g]? with|some x=>P.readableRec x.type && decide (x.type < P.types.size)|none=>false)|none=>false)=true->(∀ x ∈ p,x.block < W.heap.size) ->
 DataW.TrodVars enc P W' (fun b=>decide (b < W.heap.size)) ns gs p:=by
 intro ns
 induction ns with
 | nil =>
   intro gs p h _ _
   cases gs <;> first|exact h|exact h.elim
 | cons n ns ih =>
   intro gs p h hr hp
   cases gs with
   | nil=>exact h.elim
   | cons d gs =>
     obtain⟨g,t,cs,fuel,p1,q,hg,ht,hv,hd,h2,rfl⟩:=h
     simp only[List.all_cons,Bool.and_eq_true,hg] at hr
     obtain⟨hr2,hr3⟩:=hr
     have hr1:g < W.heap.size:=by
      unfold World.var? at hv
      simp only[hg,Option.bind_some] at hv
      split at hv
      ·rename_i h1;exact (Array.getElem?_eq_some_iff.1 h1).1
      ·cases hv
     simp only[Option.map_eq_some_iff] at ht
     obtain⟨x,hx,rfl⟩:=ht
     simp only[hx,Bool.and_eq_true,decide_eq_true_eq] at hr2
     have hk:DataW.Trod enc P W 0 (fun _=>true) true x.type (.agg cs) d p1:=⟨fuel,hd⟩
     obtain⟨fuel',hd'⟩:=Below.trod hl hr2.1 hr2.2 hk hb (fun y hy=>hp y (by simp[hy]))
     exact⟨g,x.type,cs,fuel',p1,q,hg,by rw[hx];rfl,var?_below hb hg hr1 hv,hd',ih h2 hr3 (fun y hy=>hp y (by simp[hy])),rfl⟩
theorem abb {f:Func} {s:ChangeSpec} {args:Array Value} {ds gs:List (DataW H)} {before:List MemPlace} {rt:TypeId} (hl:laidOutB P=true)
 (hW:DataW.Whole enc P f.params.toList s.vars false W args.toList ds gs before) (hrt:f.resultTypes.toList=[rt]) (hrb:P.underlying rt=some .bool) (hsz:f.resultTypes.size=1)
 (hfn:s.fn H (ds++gs)={ results:=[.lit (.bool true)],args:=ds,vars:=gs })
 (hp:(f.params.toList.all fun t=>P.readableRec t && decide (t < P.types.size))=true)
 (hv:(s.vars.all fun n=>match P.globalNamed n with|some g=>(match P.globals[g]? with|some x=>P.readableRec x.type && decide (x.type < P.types.size)|none=>false)|none=>false)=true)
 (hb:Below W.heap.size W W'):s.post enc P f false true false false W args (.bool true) W':=by
 have hlt:=hW.lt
 have hW':=hW
 obtain⟨p,q,hA,hV,rfl,hfz,hnd⟩:=hW
 refine⟨ds,gs,_,[],p,q,hW',?_,?_,?_,hb.frame _,fun h=>by cases h⟩
 ·rw[hfn,hrt,hsz]
  exact trodAll_mk1 (shut_bool hrb _)
 ·rw[hfn];exact aa9 hl hb hA hp (fun x hx=>hlt x (by simp[hx]))
 ·rw[hfn];exact aba hl hb hV hv (fun x hx=>hlt x (by simp[hx]))
end
end Go.Proofs.Pw
namespace Go.Proofs.Pw
open Go.RowKit Go.ChangeShapes Go.WideShapes
section
variable {H:Type} {enc:TypeId × Value->H} {P:Program} {W:World}
theorem abc {n:Int} (h:(Lit.int .u8 n).wf=true):0<=n/\n<=255:=by
 simp only[Lit.wf,Bool.and_eq_true,decide_eq_true_eq] at h
 simp only[IntKind.min,IntKind.max,IntKind.signed,IntKind.bits] at h
 simp at h;omega
theorem Kl {held:Bool} {r:Reach} {base:Nat} {ts:List TypeId} {ds:List (DataW H)} {j:Nat} {t e:TypeId} {v:Value} {d:DataW H} {p:List MemPlace} (hu:P.underlying t=some (.slice e)) (he:P.underlying e=some (.int .u8)) (hc:P.cellsOf e=1) (hby:0 < P.bytesOf e)
 (hval:Value.okWide P W r base t v) (h:DataW.Trod enc P W 0 (fun _=>true) held t v d p) (hz:(DataW.weightsEach P ts ds).all (·<=reachBytes)=true) (ht:ts[j]?=some t) (hd:ds[j]?=some d) :
 ∃ l:List Int,RepA W (Old W) (.d (.one (.row 1 (aG .u8 l)))) v (fun _=>False)/\bytes l:=by
 obtain⟨a,len,cap,rfl⟩:=okWide_slice hu hval
 obtain⟨fuel,h⟩:=h
 rcases open_ints hu he hc h with ⟨h1,h2⟩|⟨x,l,c,zs,hcs,_,hl,hm,hz',hx,hcell,hwz⟩
 ·simp only[Value.cells,List.cons.injEq,and_true] at h1
  cases h1
  refine⟨[],⟨.nil ..,fun _ h=>h⟩,by simp,by unfold aa;simp⟩
 ·simp only[Value.cells,List.cons.injEq,and_true] at hcs
  cases hcs
  simp only[Prod.mk.injEq] at hx
  obtain⟨rfl,rfl⟩:=hx
  obtain⟨k1,k2,k3⟩:=Kk (k:=.u8) (w:=W) (a:=some x) (len:=len) (cap:=cap) (zs:=zs) (.inr ⟨x,rfl,hl,hm,by simpa using hz',hcell,hwz⟩)
  refine⟨zs.take len,⟨k1,fun _ h=>h⟩,fun b hb=>abc (k3 b hb),?_⟩
  have k4:=sized_slice hz ht hd hu
  have k5:(lits (H:=H) .u8 (zs.take len)).length<=reachBytes:=by
   refine Nat.le_trans (Nat.le_trans (Nat.le_add_right _ (lits (H:=H) .u8 (zs.drop len)).length) ?_) k4
   exact Nat.le_mul_of_pos_right _ hby
  have:=reachBytes_lt
  simp only[lits,List.length_map] at k5
  unfold aa;omega
end
end Go.Proofs.Pw
namespace Go.Proofs.Pw
open Go.RowKit Go.ChangeShapes Go.WideShapes
theorem abd {H:Type} {k:IntKind}:∀ {a b:List Int},lits (H:=H) k a=lits k b->a=b:=by
 intro a
 induction a with
 | nil=>intro b h;cases b with
   | nil=>rfl
   | cons _ _=>simp[lits] at h
 | cons x a ih=>intro b h;cases b with
   | nil=>simp[lits] at h
   | cons y b =>
     simp only[lits,List.map_cons,List.cons.injEq,DataW.lit.injEq,Lit.int.injEq,true_and] at h
     rw[h.1,ih h.2]
theorem abe {P:Program} {W:World} {nm:String} {d:DataW Unit} {ns:List Int} {r:List (String × DataW Unit)} {ps:List MemPlace} {g:Nat} {t e:TypeId} {k:IntKind} (hg:P.globalNamed nm=some g) (ht:(P.globals[g]?).map (·.type)=some t)
 (hu:P.underlying t=some (.slice e)) (he:P.underlying e=some (.int k)) (hc:P.cellsOf e=1) (hd:d=.slice (lits k ns) []) (h:DataW.LaidVars P W ((nm,d)::r) ps) :
 (Old W g/\∃ u,W.cell? ⟨g,0,none⟩=some u/\Rep W (Old W) (.row 1 (aG k ns)) u)/\∃ ps',DataW.LaidVars P W r ps':=by
 obtain⟨g',t',cs,fuel,p,q,hg',ht',hv,htr,hr,_⟩:=h
 obtain rfl:=Option.some.inj (hg.symm.trans hg')
 obtain rfl:=Option.some.inj (ht.symm.trans ht')
 refine⟨?_,q,hr⟩
 subst hd
 rcases open_ints hu he hc htr with ⟨_,hx⟩|⟨x,l,c,zs,hcs,_,hl,hm,hz,hx,hcell,hwz⟩
 ·simp at hx
 ·simp only[Prod.mk.injEq,DataW.slice.injEq] at hx
  have hns:=abd hx.1.1
  have h0:W.cell? ⟨g,0,none⟩=some (.slice (some x) l c):=by
   have:=World.var?_cell hg hv 0
   rw[Array.eq_one_of_toList hcs] at this
   simpa using this
  have hrep:=(Kk (w:=W) (a:=some x) (len:=l) (cap:=c) (zs:=zs) (.inr ⟨x,rfl,hl,hm,by simpa using hz,hcell,hwz⟩)).1
  rw[<-hns] at hrep
  exact⟨oh h0,_,h0,hrep⟩
end Go.Proofs.Pw
namespace Go.Proofs.Pw
open Go.RowKit Go.ChangeShapes Go.WideShapes
theorem mb {P:Program} {W:World} {x:String × DataW Unit} {r:List (String × DataW Unit)} {ps:List MemPlace} (h:DataW.LaidVars P W (x::r) ps):∃ ps',DataW.LaidVars P W r ps':=by
 obtain⟨g',t',cs,fuel,p,q,hg',ht',hv,htr,hr,_⟩:=h
 exact⟨q,hr⟩
theorem abf {P:Program} {W:World} {nm:String} {d:DataW Unit} {ns:List Int} {r:List (String × DataW Unit)} {ps:List MemPlace} {g n:Nat} {t e:TypeId} {k:IntKind} (hg:P.globalNamed nm=some g) (ht:(P.globals[g]?).map (·.type)=some t)
 (hu:P.underlying t=some (.array n e)) (he:P.underlying e=some (.int k)) (hc:P.cellsOf e=1) (hct:P.cellsOf t=n) (hd:d=Lib.tabData k ns) (h:DataW.LaidVars P W ((nm,d)::r) ps) :
 Old W g/\∃ ty x,W.heap[g]?=some (.cells (ns.map fun z=>Value.int k z).toArray ty x):=by
 obtain⟨g',t',cs,fuel,p,q,hg',ht',hv,htr,hr,_⟩:=h
 obtain rfl:=Option.some.inj (hg.symm.trans hg')
 obtain rfl:=Option.some.inj (ht.symm.trans ht')
 subst hd
 have hcs:=Lib.cells_of_tab hu he hc hct htr
 have hcs':cs=(ns.map fun z=>Value.int k z).toArray:=by rw[<-hcs]
 unfold World.var? at hv
 rw[hg] at hv
 simp only[Option.bind_some] at hv
 split at hv
 ·rename_i cs' ty x hh
  cases hv
  refine⟨?_,ty,x,by rw[hh,hcs']⟩
  rcases Nat.lt_or_ge g W.heap.size with h|h
  ·exact h
  ·rw[Array.getElem?_eq_none h] at hh;cases hh
 ·cases hv
theorem abg {P:Program} {W:World} {nm:String} {d:DataW Unit} {ws:List ByteArray} {r:List (String × DataW Unit)} {ps:List MemPlace} {g:Nat} {t e:TypeId} (hg:P.globalNamed nm=some g) (ht:(P.globals[g]?).map (·.type)=some t)
 (hu:P.underlying t=some (.slice e)) (he:P.underlying e=some .string) (hc:P.cellsOf e=1) (h0:0 < ws.length) (hd:d=.slice (ws.map fun s=>.lit (.string s.data.toList)) []) (h:DataW.LaidVars P W ((nm,d)::r) ps) :
 Old W g/\∃ u,W.cell? ⟨g,0,none⟩=some u/\Rep W (Old W) (.row 1 (ae ws)) u:=by
 obtain⟨g',t',cs,fuel,p,q,hg',ht',hv,htr,hr,_⟩:=h
 obtain rfl:=Option.some.inj (hg.symm.trans hg')
 obtain rfl:=Option.some.inj (ht.symm.trans ht')
 subst hd
 obtain⟨a,cap,hcs,hle,hcell⟩:=open_row hu hc htr
 rw[List.length_map] at hcs hle
 have key:∀ (i:Nat) s,ws[i]?=some s->W.cell? (a.add i)=some (.string s):=fun i s hs=>by
  obtain⟨v,n,q',hv',htv⟩:=hcell i (.lit (.string s.data.toList)) (by simp[hs])
  obtain⟨s',hs1,hs2,_⟩:=DataW.trod_string he htv
  simp only[List.cons.injEq,and_true] at hs1
  simp only[Prod.mk.injEq,DataW.lit.injEq,Lit.string.injEq] at hs2
  rw[hv',hs1]
  have e:s'=s:=by
   have:=hs2.1
   cases s;cases s'
   simp at this
   rw[this]
  rw[e]
 have hcc:=World.var?_cell hg hv 0
 rw[Array.eq_one_of_toList hcs] at hcc
 have hcc':W.cell? ⟨g,0,none⟩=some (.slice (some a) ws.length cap):=by simpa using hcc
 refine⟨oh hcc',_,hcc',?_⟩
 have hl:(ae ws).length=ws.length:=aT ws
 have hk:∀ (i j:Nat) e' c,(ae ws)[i]?=some e'->e'[j]?=some c->∃ s,ws[i]?=some s/\j=0/\c=.str s:=fun i j e' c he' hj=>by
  simp only[ae,List.getElem?_map,Option.map_eq_some_iff] at he'
  obtain⟨s,hs,rfl⟩:=he'
  cases j with
  | zero=>simp at hj;exact⟨s,hs,rfl,hj.symm⟩
  | succ j=>simp at hj
 have:=Rep.row (w:=W) (S:=Old W) 1 (ae ws) a cap (fun i=>.string (ws.getD i ⟨#[]⟩)) (by omega) (by
  have:=oh (key 0 ws[0] (by simp[h0]));rwa [jn] at this) (fun i e' he'=>by
   simp only[ae,List.getElem?_map,Option.map_eq_some_iff] at he'
   obtain⟨s,_,rfl⟩:=he';rfl) (fun i j e' c he' hj=>by
   obtain⟨s,h1,rfl,rfl⟩:=hk i j e' c he' hj
   have:=key i s h1
   simp only[Nat.mul_one,Nat.add_zero]
   rw[this]
   simp[List.getD,h1]) (fun i j e' c he' hj=>by
   obtain⟨s,h1,rfl,rfl⟩:=hk i j e' c he' hj
   have e2:ws.getD (i*1+0) ⟨#[]⟩=s:=by simp[List.getD,h1]
   simp only[e2]
   exact Rep.str s)
 rwa [hl] at this
end Go.Proofs.Pw
namespace Go.Proofs.Pw
open Go.RowKit Go.ChangeShapes Go.WideShapes
theorem Km {P:Program} {W:World} {nm name:String} {d:DataW Unit} {r:List (String × DataW Unit)} {ps:List MemPlace} {g:Nat} {t:TypeId} {ms:Array (String × TypeId)} (hg:P.globalNamed nm=some g) (ht:(P.globals[g]?).map (·.type)=some t)
 (hu:P.underlying t=some (.interface ms)) (h:DataW.LaidVars P W ((nm,.iface name d)::r) ps) :
 Old W g/\∃ u,W.cell? ⟨g,0,none⟩=some u/\Rep W (Old W) .ifc u:=by
 obtain⟨g',t',cs,fuel,p,q,hg',ht',hv,htr,hr,_⟩:=h
 obtain rfl:=Option.some.inj (hg.symm.trans hg')
 obtain rfl:=Option.some.inj (ht.symm.trans ht')
 obtain⟨_,u,v,hcs,_,_⟩:=iface_of_trod hu htr
 have hcc:=World.var?_cell hg hv 0
 rw[Array.eq_one_of_toList hcs] at hcc
 have hcc':W.cell? ⟨g,0,none⟩=some (.iface u v):=by simpa using hcc
 exact⟨oh hcc',_,hcc',.ifc _ _⟩
end Go.Proofs.Pw
namespace Go.Proofs.Pw
open Go
theorem abh {H:Type} {enc:TypeId × Value->H} {C:Checked} {os:Os} {f:FuncId} {fn:Func} {s:ChangeSpec} {X:World->Array Value->Prop}
 (hX:∀ (w w':World) (args:Array Value),w.heap=w'.heap->X w args->X w' args)
 (own:ownKnob C.prog.godebug=none) (started:os.Started) (noInit:C.prog.inits.idxOf? f=none) (hfn:C.prog.funcs[f]?=some fn)
 (witness:∃ (w:World) (tape:Tape) (i:Input),w.os=os/\(w.forCall tape i).Shaped C.prog/\i.vars=[]/\Input.okWide C.prog (w.forCall tape i) .any w.heap.size f i /\
  ((s.pre enc C.prog fn [] false (w.forCall tape i).memory i.args/\X (w.forCall tape i).memory i.args)/\sizedMet enc C.prog fn (OpenSpec.ofChange s) false (w.forCall tape i).memory i.args)/\({}:Assume).holds C.prog (lone (Frame.enter C.prog f i.args .normal) [] (w.forCall tape i)))
 (run:∀ (W:World) (base:Nat) (args:Array Value) (ds gs:List (DataW H)) (before:List MemPlace),
  (∀ (j:Nat) t v,fn.params[j]?=some t->args[j]?=some v->Value.okWide C.prog W .any base t v) ->
  DataW.Whole enc C.prog fn.params.toList s.vars false W args.toList ds gs before ->
  (DataW.weightsEach C.prog (fn.params.toList++s.plain.varTypes C.prog) (ds++gs)).all (·<=reachBytes)=true->X W args->W.ShapedOpen C.prog ->
  Calls C.prog f args W fun e W'=>∃ v,e=.returned v/\s.post enc C.prog fn false true false false W args v W') :
 ReturnsInHanded {} C os f .any (fun w args=>(s.pre enc C.prog fn [] false w args/\X w args)/\sizedMet enc C.prog fn (OpenSpec.ofChange s) false w args) (s.post enc C.prog fn false true false false):=by
 refine returnsInHanded_of_calls own started noInit witness ?_
 intro w tape i _ hsh _ ⟨_,_,_,fn',hfn',_,_,_,_,hval⟩ ⟨⟨⟨ds,gs,before,hw,_⟩,hx⟩,hz⟩ _
 cases Option.some.inj (hfn'.symm.trans hfn)
 refine (run (w.forCall tape i) w.heap.size i.args ds gs before hval (DataW.Whole.of_heap (w':=w.forCall tape i) (by rfl) hw) (hz.weights hw) (hX _ _ _ (by rfl) hx) hsh).mono ?_
 rintro e W' ⟨v,rfl,hp⟩
 exact ChangeSpec.post_blind hp
end Go.Proofs.Pw
