/- Drawing: filters that are ok, or bent. -/
import Derived.Test.YtcligmgalcidpaaGreatDoorPwT23
import Derived.Test.YtcligmgalcidpaaGreatDoorPwT21
import Derived.Test.YtcligmgalcidpaaGreatDoorPwT18
import Derived.Test.YtcligmgalcidpaaGreatDoorPwT12
import Derived.Test.YtcligmgalcidpaaGreatDoorPwT9
import Derived.ProofKit
import Derived.ChangeOld
import Derived.Below
import Derived.Carry
import Derived.SizedLaws
import Derived.ChangeArms
import Derived.ChangeVars
import Derived.WalkSmall
import Derived.ChangeSlices
import Derived.Test.YtcligmgalcidpaaGreatDoorPwT10
import Derived.LaidHandle
set_option linter.unusedSimpArgs false
set_option linter.unusedVariables false
set_option linter.unusedSectionVars false
set_option maxRecDepth 20000
namespace Go.Proofs.Pw
variable [Globs]
def Hb:X:=(.seq (.reg [xS 2 (.alloc xF)] none [0,2]) (.seq (.reg [xM 4 0,xM 5 0,xS 6 (.callr 38 [(.t 5),(xK 4)]),xS 7 (.bin false .add (xK 1) (.t 6)),xS 8 (.callr 69 [(.t 4),(.t 7)]),xS 3 (.alloc xF),xW 3 8 9] none [0,2,3]) (.seq (.seq (.reg [xS 9 (.load (.t 3) (some 9)),xS 10 (.callb 9 [(.t 9)]),xS 11 (.not (.t 10))] none [0,2,3,11]) (.cond (.t 11) (.seq (.reg [xM 12 0,xS 13 (.callr 70 [(.t 12)]),xW 2 13 9] none [2]) .ret) .skip)) (.seq (.reg [xS 14 (.load (.t 3) (some 9)),xW 2 14 9] none [2]) .ret))))
theorem WA:al Tryz.prog 15 (Tryz.f40.body.getD .skip) Hb=true:=by kernel_rfl
theorem WB:am Tryz.prog Tryz.f40.results.toList [.cell 2 (some 9)]=true:=by kernel_rfl
theorem WC:aw Tryz.prog 40=true:=by kernel_rfl
def Hc:X:=(.seq (.reg [xS 2 (.alloc xF)] none [0,2]) (.seq (.reg [xM 5 0,xS 6 (.callr 40 [(.t 5)]),xS 3 (.alloc xF),xW 3 6 9] none [0,2,3]) (.seq (.seq (.reg [xM 7 0,xS 8 (.callr 38 [(.t 7),(xK 60)])] none [0,2,3,8]) (.block 0 (.seq (.reg [xS 10 (.bin false .eql (.t 8) (xK 0)),xM 9 10] none [0,2,3,8,9]) (.cond (.t 9) (.reg [xM 11 0,xS 12 (.bsl 1 [((xK 0),none),((xK 22),none),((xK 6),none),((xK 1),none),((xK 20),none)]),xS 13 (.callr 41 [(.t 11),(.t 12)]),xS 14 (.fa (.t 3) 0),⟨none,none,.st (.t 14) (.t 13) none⟩] none [2,3]) (.seq (.reg [xS 16 (.bin false .eql (.t 8) (xK 1)),xM 15 16] none [0,2,3,8,15]) (.cond (.t 15) (.reg [xM 17 0,xS 18 (.bsl 1 [((xK 1),none),((xK 60),none),((.k (.c (.int .i64 (-61)))),none)]),xS 19 (.callr 41 [(.t 17),(.t 18)]),xS 20 (.fa (.t 3) 1),⟨none,none,.st (.t 20) (.t 19) none⟩] none [2,3]) (.seq (.reg [xS 22 (.bin false .eql (.t 8) (xK 2)),xM 21 22] none [0,2,3,8,21]) (.cond (.t 21) (.reg [xM 23 0,xS 24 (.bsl 1 [((.k (.c (.str ⟨#[65]⟩))),none),((.k (.c (.str ⟨#[97,98,99,100,101,102,103,104,105,106,107,108,109]⟩))),none),((.k (.c (.str ⟨#[97]⟩))),none)]),xS 25 (.callr 39 [(.t 23),(.t 24)]),xS 26 (.fa (.t 3) 2),⟨none,none,.st (.t 26) (.t 25) none⟩] none [2,3]) (.seq (.reg [xS 28 (.bin false .eql (.t 8) (xK 3)),xM 27 28] none [0,2,3,8,27]) (.cond (.t 27) (.reg [xM 29 0,xS 30 (.callr 42 [(.t 29)]),xS 31 (.fa (.t 3) 3),xW 31 30 5] none [2,3]) (.seq (.reg [xS 33 (.bin false .eql (.t 8) (xK 4)),xM 32 33] none [2,3,32]) (.cond (.t 32) (.seq (.reg [xS 4 (.mv (xK 0))] none [2,3,4]) (.block 1 (.loop (.seq (.seq (.reg [xM 34 4,xS 35 (.bin false .lss (.t 34) (xK 7))] none [2,3,4,35]) (.cond (.t 35) .skip (.exit 1))) (.seq (.block 2 (.reg [xS 38 (.load (.t 3) (some 9)),xS 39 (.bsl 9 [((.t 38),(some 9))]),xS 40 (.build xF [(0,(xK 17),none),(8,(.t 39),none)]),xW 3 40 9] none [2,3,4])) (.reg [xM 36 4,xS 37 (.bin false .add (.t 36) (xK 1)),xM 4 37] none [2,3,4])))))) .skip)))))))))))) (.seq (.reg [xS 41 (.load (.t 3) (some 9)),xW 2 41 9] none [2]) .ret))))
theorem WD:al Tryz.prog 42 (Tryz.f18.body.getD .skip) Hc=true:=by kernel_rfl
theorem WE:am Tryz.prog Tryz.f18.results.toList [.cell 2 (some 9)]=true:=by kernel_rfl
theorem WF:aw Tryz.prog 18=true:=by kernel_rfl
set_option maxHeartbeats 2000000 in
theorem WG:Sound Tryz.prog 40 spSomeF:=by
 refine ec (GOK.cons (l:=[(70,spLeafF),(69,spFiltF),(9,ij)]) fx fy (GOK.cons (l:=[(69,spFiltF),(9,ij)]) GW GY (GOK.cons xq Wv (GOK.cons wB wE GOK.nil)))) Tryz.func40 (c:=Tryz.f40.body.getD .skip) rfl (n:=15) rfl WA WB (fun _=>by simp) ?_
 ·rintro⟨bs,p⟩ ⟨hb,h1,h2⟩
  change byt bs at hb
  simp only at h1 h2
  have hl:∀ m:Int,(0<=m/\m < 4)->fb (1+m).toNat<=140000:=fun m hm=>Vc (by omega)
  simp only[Hb,rg,go_sem,seval,Prod.fst,F.enc_len,de,df,dg,↓bo,bo,xt,xu,xv,↓nh,nh,Wr,Ws,Wu,↓GZ,GZ,gq,gr,gt,gu,gv]
  repeat' (first|with_reducible assumption|with_reducible refine And.intro ?_ ?_|intro _)
  all_goals first|omega|skip
  all_goals
   have hl':=hl _ (by assumption)
   clear hl
   first|omega|exact (‹drF _ _/\_›).1.fit|exact wZ (‹drF _ _/\_›).1.2.1|(have:=(‹drF _ _/\_›).1.2.2;omega)|skip
  all_goals
   rename_i hd
   first
    | exact dU rfl rfl rfl hd.1 (by omega) (by omega)
    | exact dU rfl rfl rfl (‹drF _ _/\_›).1 (by omega) (by omega)
theorem ni {M A m:Int} {bs:List Int} {p q k n vk vn:Int} {s vs:ByteArray} {vks:List ByteArray} {vl:List T} {l:List F} {K L R:List (List C)} (hK:aa vks=K) (hL:ai vl=L) (hR:aB l=R) (h:drFW m (F.mk k n s (T.mk vk vn vs vks vl) l)) (hm:m<=M) (hq:p<=q/\q<=p+A):∃ i:DrI,
 (drFW M (F.mk i.1 i.2.1 i.2.2.1 (T.mk i.2.2.2.1 i.2.2.2.2.1 i.2.2.2.2.2.1 i.2.2.2.2.2.2.1 i.2.2.2.2.2.2.2.1) i.2.2.2.2.2.2.2.2.1)/\p<=i.2.2.2.2.2.2.2.2.2/\i.2.2.2.2.2.2.2.2.2<=p+A) /\
 (i.1=k/\i.2.1=n/\i.2.2.1=s/\i.2.2.2.1=vk/\i.2.2.2.2.1=vn/\i.2.2.2.2.2.1=vs/\aa i.2.2.2.2.2.2.1=K/\ai i.2.2.2.2.2.2.2.1=L/\aB i.2.2.2.2.2.2.2.2.1=R)/\rdC bs q=rdC bs i.2.2.2.2.2.2.2.2.2:=by
 subst hK hL hR
 exact⟨(k,n,s,vk,vn,vs,vks,vl,l,q),⟨h.mono hm,hq⟩,⟨rfl,rfl,rfl,rfl,rfl,rfl,rfl,rfl,rfl⟩,rfl⟩
theorem rS {m:Int} {k n k' n':Int} {s s':ByteArray} {v v':T} {l:List F} (h:drFW m (.mk k n s v l)) (hk:i64 k') (hn:i64 n'/\-1000<=n'/\n'<=1000) (hs:(s'.size:Int)<=100000) (hv:v'.fit 100000) (hv':aA v'<=1048577):drFW m (.mk k' n' s' v' l):=by
 obtain⟨⟨_,_,_,_,h5,h6⟩,h7,h8⟩:=h
 simp only[bW,aJ] at h7 h8
 exact⟨⟨hk,hn.1,hs,hv,h5,h6⟩,by simp only[bW];exact⟨hv',h7.2⟩,by simpa only [aJ] using h8.1,hn.2,h8.2.2⟩
theorem rT {m:Int} {k n:Int} {s:ByteArray} {v:T} {l:List F} (h:drFW m (.mk k n s v l)):i64 k/\(i64 n/\-1000<=n/\n<=1000)/\(s.size:Int)<=100000/\v.fit 100000/\aA v<=1048577:=by
 obtain⟨⟨h1,h2,h3,h4,h5,h6⟩,h7,h8⟩:=h
 simp only[bW] at h7
 exact⟨h1,⟨h2,h8.2.1⟩,h3,h4,h7.1⟩
theorem WH {m:Int} {f:F} (h:drF m f):drF (m+1) (.mk 17 0 ⟨#[]⟩ (.mk 0 0 ⟨#[]⟩ [] []) [f]) :=
 nc (by unfold i64;omega) (by unfold i64;omega) (by decide) cU.1 (by have:=cU.2;show aA T.zero<=_;omega) (by simp) ⟨h.1,trivial⟩ (by simp only[bM];exact⟨h.2.1,trivial⟩) (by have:=h.2.2.1;simp only[aD];omega)
def spBentF :Spec:=Spec.ofR (ι:=(List Int) × Int) (κ:=Int × Int × ByteArray × Int × Int × ByteArray × (List ByteArray) × (List T) × (List Pw.F) × Int) [true] (fun i=>[.ref (rdC i.1 i.2)]) (fun i=>byt i.1/\0<=i.2/\i.2+200000<=1099511627776) (fun i k=>drFW 140010 (Pw.F.mk k.1 k.2.1 k.2.2.1 (.mk k.2.2.2.1 k.2.2.2.2.1 k.2.2.2.2.2.1 k.2.2.2.2.2.2.1 k.2.2.2.2.2.2.2.1) k.2.2.2.2.2.2.2.2.1)/\i.2<=k.2.2.2.2.2.2.2.2.2/\k.2.2.2.2.2.2.2.2.2<=i.2+200000) (fun i k=>[.d (.agg (Pw.F.mk k.1 k.2.1 k.2.2.1 (.mk k.2.2.2.1 k.2.2.2.2.1 k.2.2.2.2.2.1 k.2.2.2.2.2.2.1 k.2.2.2.2.2.2.2.1) k.2.2.2.2.2.2.2.2.1).enc)]) (fun i k=>[.ref (rdC i.1 k.2.2.2.2.2.2.2.2.2)])
theorem xC:∀ i j:(List Int) × Int,(fun (i:(List Int) × Int)=>([.ref (rdC i.1 i.2)]:List AV)) i=(fun (i:(List Int) × Int)=>([.ref (rdC i.1 i.2)]:List AV)) j->i=j:=by
 rintro⟨bs,p⟩ ⟨bs',p'⟩ h
 simp only[Prod.mk.injEq]
 simpa [ap,T.enc_eq,aq,F.enc_eq,ar,Tk.enc_eq,au,Gn.enc_eq,ao,dn,and_assoc] using h
theorem WI :(spBentF).md=[true]:=rfl
theorem WJ  (bs:List Int) (p:Int):(spBentF).pre [.ref (rdC bs p)]=(byt bs/\0<=p/\p+200000<=1099511627776):=Spec.ofR_pre xC (bs,p)
theorem WK  (bs:List Int) (p:Int):(spBentF).ne [.ref (rdC bs p)]=(∃ k:Int × Int × ByteArray × Int × Int × ByteArray × (List ByteArray) × (List T) × (List Pw.F) × Int,drFW 140010 (Pw.F.mk k.1 k.2.1 k.2.2.1 (.mk k.2.2.2.1 k.2.2.2.2.1 k.2.2.2.2.2.1 k.2.2.2.2.2.2.1 k.2.2.2.2.2.2.2.1) k.2.2.2.2.2.2.2.2.1)/\p<=k.2.2.2.2.2.2.2.2.2/\k.2.2.2.2.2.2.2.2.2<=p+200000):=Spec.ofR_ne xC (bs,p)
theorem He  (bs:List Int) (p:Int) (F:List AV->List AV->Prop):(spBentF).all [.ref (rdC bs p)] F=(∀ (k:Int) (n:Int) (s:ByteArray) (vk:Int) (vn:Int) (vs:ByteArray) (vks:List ByteArray) (vl:List T) (l:List Pw.F) (q:Int),(drFW 140010 (Pw.F.mk k n s (.mk vk vn vs vks vl) l)/\p<=q/\q<=p+200000)->F [.d (.agg (Pw.F.mk k n s (.mk vk vn vs vks vl) l).enc)] [.ref (rdC bs q)]):=by
 refine (Spec.ofR_all xC (bs,p) F).trans (propext ⟨fun h k n s vk vn vs vks vl l q hr=>h (k,n,s,vk,vn,vs,vks,vl,l,q) hr,fun h k hr=>?_⟩)
 exact h k.1 k.2.1 k.2.2.1 k.2.2.2.1 k.2.2.2.2.1 k.2.2.2.2.2.1 k.2.2.2.2.2.2.1 k.2.2.2.2.2.2.2.1 k.2.2.2.2.2.2.2.2.1 k.2.2.2.2.2.2.2.2.2 hr
theorem WL (bs:List Int) (p:Int):spBentF.ne [.ref (rdC bs p)]=True:=by
 rw[WK]
 exact eq_true ⟨(0,0,⟨#[]⟩,0,0,⟨#[]⟩,[],[],[],p),((gD (k:=0) (n:=0) (s:=⟨#[]⟩) (by unfold i64;omega) (by unfold i64;omega) (by decide)).mono (by omega)).w,Int.le_refl _,by show p<=p+200000;omega⟩
set_option maxHeartbeats 4000000 in
theorem WM:Sound Tryz.prog 18 spBentF:=by
 refine ec (GOK.cons (l:=[(39,spDof),(41,spDnum),(42,spBent),(40,spSomeF)]) fx fy (GOK.cons (l:=[(41,spDnum),(42,spBent),(40,spSomeF)]) my mA (GOK.cons (l:=[(42,spBent),(40,spSomeF)]) mz mB (GOK.cons Rd Ri (GOK.cons WC WG GOK.nil))))) Tryz.func18 (c:=Tryz.f18.body.getD .skip) rfl (n:=42) rfl WD WE (fun _=>by simp) ?_
 ·rintro⟨bs,p⟩ ⟨hb,h1,h2⟩
  change byt bs at hb
  simp only at h1 h2
  simp only[Hc,rg,go_sem,seval,Prod.fst,oz,qS,vX,bw,F.enc,T.enc,List.cons_append,List.nil_append,de,df,dg,↓bo,bo,kv,kw,kz,↓dS,dS,kC,kD,kE,↓dT,dT,Re,Rf,Rh,↓Eq,Eq,Ww,Wx,Wz,↓Ha,Ha]
  repeat' (first|with_reducible assumption|with_reducible refine And.intro ?_ ?_|intro _)
  all_goals first|omega|skip
  ·rename_i k n s vk vn vs vks vl l q hd m _ _ x hx
   simp only[List.mem_cons,List.not_mem_nil,or_false] at hx
   obtain⟨z1,z2,z3,z4,z5⟩:=rT hd.1.w
   exact ni rfl rfl rfl (rS hd.1.w (by unfold i64;omega) z2 z3 z4 z5) (by omega) (by omega)
  ·rename_i k n s vk vn vs vks vl l q hd m _ _ _ x hx
   simp only[List.mem_cons,List.not_mem_nil,or_false] at hx
   obtain⟨z1,z2,z3,z4,z5⟩:=rT hd.1.w
   exact ni rfl rfl rfl (rS hd.1.w z1 (by unfold i64;omega) z3 z4 z5) (by omega) (by omega)
  ·rename_i k n s vk vn vs vks vl l q hd m _ _ _ _ x hx
   simp only[List.mem_cons,List.not_mem_nil,or_false] at hx
   obtain⟨z1,z2,z3,z4,z5⟩:=rT hd.1.w
   exact ni rfl rfl rfl (rS hd.1.w z1 z2 (by rcases hx with rfl|rfl|rfl <;> decide) z4 z5) (by omega) (by omega)
  ·rename_i k n s vk vn vs vks vl l q hd m _ _ _ _ _ k' n' s' ks' l' q' hw
   obtain⟨z1,z2,z3,z4,z5⟩:=rT hd.1.w
   exact ni rfl rfl rfl (rS hd.1.w z1 z2 z3 hw.1.1 (by have:=hw.1.2.1;omega)) (by omega) (by omega)
  ·rename_i k n s vk vn vs vks vl l q hd m _ _ _ _ _ _
   refine aZ (ι:=Nat × Int × Int × ByteArray × Int × Int × ByteArray × List ByteArray × List T × List Pw.F) (fun i=>7-i.1)
    (fun i=>i.1<=7/\drF (140000+i.1) (.mk i.2.1 i.2.2.1 i.2.2.2.1 (.mk i.2.2.2.2.1 i.2.2.2.2.2.1 i.2.2.2.2.2.2.1 i.2.2.2.2.2.2.2.1 i.2.2.2.2.2.2.2.2.1) i.2.2.2.2.2.2.2.2.2))
    (fun i=>⟨[(2,.q (.box 2 0)),(3,.q (.box 3 0)),(4,.q (.c (.int .i64 i.1)))],
     [(42,(rdC bs (q+1)).map .c),(2,[.c (.int .i64 0),.c (.int .i64 0),.c (.str ⟨#[]⟩),.c (.int .i64 0),.c (.int .i64 0),.c (.str ⟨#[]⟩),.z 1,.z 5,.z 9]),(3,[.c (.int .i64 i.2.1),.c (.int .i64 i.2.2.1),.c (.str i.2.2.2.1),.c (.int .i64 i.2.2.2.2.1),.c (.int .i64 i.2.2.2.2.2.1),.c (.str i.2.2.2.2.2.2.1),.c (.row 1 (aa i.2.2.2.2.2.2.2.1)),.c (.row 5 (ai i.2.2.2.2.2.2.2.2.1)),.c (.row 9 (aB i.2.2.2.2.2.2.2.2.2))])],
     []⟩) (0,k,n,s,vk,vn,vs,vks,vl,l) ⟨by simp,hd.1.mono (by simp)⟩ (Le.of_eq (by simp)) ?_
   rintro⟨i,k,n,s,vk,vn,vs,vks,vl,l⟩ ⟨g1,g2⟩
   simp only at g1 g2
   rcases Nat.lt_or_ge i 7 with hlt|hge
   ·have b1:((i:Int) < 7)=True:=eq_true (by omega)
    simp only[rg,go_sem,seval,Prod.fst,b1]
    repeat' (first|with_reducible assumption|with_reducible refine And.intro ?_ ?_|intro _)
    all_goals first|omega|skip
    refine⟨(i+1,17,0,⟨#[]⟩,0,0,⟨#[]⟩,[],[],[.mk k n s (.mk vk vn vs vks vl) l]),⟨by show i+1<=7;omega,(WH g2).mono (by simp only[Int.natCast_add];omega)⟩,by show 7-(i+1) < 7-i;omega,Le.bx ?_⟩
    intro p hp
    simp only[List.mem_cons,List.not_mem_nil,or_false] at hp
    rcases hp with rfl|rfl|rfl
    ·exact⟨_,by simp,All2.qrefl _⟩
    ·exact⟨_,by simp,All2.qrefl _⟩
    ·refine⟨_,List.mem_cons_of_mem _ (List.mem_cons_of_mem _ (List.mem_cons_self ..)),?_⟩
     exact .cons (QLe.refl _) (.cons (QLe.refl _) (.cons (QLe.refl _) (.cons (QLe.refl _) (.cons (QLe.refl _) (.cons (QLe.refl _) (.cons (QLe.z 1) (.cons (QLe.z 5) (.cons (QLe.full _ _) .nil))))))))
   ·have b1:((i:Int) < 7)=False:=eq_false (by omega)
    simp only[rg,go_sem,seval,Prod.fst,b1]
    repeat' (first|with_reducible assumption|with_reducible refine And.intro ?_ ?_|intro _)
    all_goals first|omega|skip
    exact ni rfl rfl rfl g2.w (by omega) (by omega)
  ·rename_i k n s vk vn vs vks vl l q hd m _ _ _ _ _ _
   exact ni rfl rfl rfl hd.1.w (by omega) (by omega)
def rU :Spec:=Spec.ofR (ι:=(List Int)) (κ:=Int × Int × ByteArray × Int × Int × ByteArray × (List ByteArray) × (List T) × (List Pw.F)) [false] (fun i=>[.d (.one (.row 1 (aF .u8 i)))]) (fun i=>(∀ b ∈ i,0<=b/\b<=255)/\ab 140737488355328 i.length) (fun i k=>drFW 140010 (Pw.F.mk k.1 k.2.1 k.2.2.1 (.mk k.2.2.2.1 k.2.2.2.2.1 k.2.2.2.2.2.1 k.2.2.2.2.2.2.1 k.2.2.2.2.2.2.2.1) k.2.2.2.2.2.2.2.2)) (fun i k=>[.d (.agg (Pw.F.mk k.1 k.2.1 k.2.2.1 (.mk k.2.2.2.1 k.2.2.2.2.1 k.2.2.2.2.2.1 k.2.2.2.2.2.2.1 k.2.2.2.2.2.2.2.1) k.2.2.2.2.2.2.2.2).enc)]) (fun i k=>[.gone])
theorem Hf:∀ i j:(List Int),(fun (i:(List Int))=>([.d (.one (.row 1 (aF .u8 i)))]:List AV)) i=(fun (i:(List Int))=>([.d (.one (.row 1 (aF .u8 i)))]:List AV)) j->i=j:=by
 intro bs bs' h
 simpa [ap,T.enc_eq,aq,F.enc_eq,ar,Tk.enc_eq,au,Gn.enc_eq,ao,dn,and_assoc] using h
theorem WN :(rU).md=[false]:=rfl
theorem WO  (bs:List Int):(rU).pre [.d (.one (.row 1 (aF .u8 bs)))]=((∀ b ∈ bs,0<=b/\b<=255)/\ab 140737488355328 bs.length):=Spec.ofR_pre Hf bs
theorem Hg  (bs:List Int) (F:List AV->List AV->Prop):(rU).all [.d (.one (.row 1 (aF .u8 bs)))] F=(∀ (k:Int) (n:Int) (s:ByteArray) (vk:Int) (vn:Int) (vs:ByteArray) (vks:List ByteArray) (vl:List T) (l:List Pw.F),(drFW 140010 (Pw.F.mk k n s (.mk vk vn vs vks vl) l))->F [.d (.agg (Pw.F.mk k n s (.mk vk vn vs vks vl) l).enc)] [.gone]):=by
 refine (Spec.ofR_all Hf bs F).trans (propext ⟨fun h k n s vk vn vs vks vl l hr=>h (k,n,s,vk,vn,vs,vks,vl,l) hr,fun h k hr=>?_⟩)
 exact h k.1 k.2.1 k.2.2.1 k.2.2.2.1 k.2.2.2.2.1 k.2.2.2.2.2.1 k.2.2.2.2.2.2.1 k.2.2.2.2.2.2.2.1 k.2.2.2.2.2.2.2.2 hr
end Go.Proofs.Pw
namespace Go.Proofs.Pw
variable [Globs]
def Hh:X:=(.seq (.reg [xS 2 (.alloc xF)] none [0,2]) (.seq (.reg [xM 3 0,xS 4 (.call 19 [(.t 3)]),xS 5 (.callr 18 [(.t 4)]),xW 2 5 9] none [2]) .ret))
theorem WP:al Tryz.prog 6 (Tryz.f6.body.getD .skip) Hh=true:=by kernel_rfl
theorem WQ:am Tryz.prog Tryz.f6.results.toList [.cell 2 (some 9)]=true:=by kernel_rfl
theorem WR:aw Tryz.prog 6=true:=by kernel_rfl
theorem WS:Sound Tryz.prog 6 rU:=by
 refine ec (GOK.cons (l:=[(18,spBentF)]) Rl Rr (GOK.cons WF WM GOK.nil)) Tryz.func6 (c:=Tryz.f6.body.getD .skip) rfl (n:=6) rfl WP WQ (fun _=>by simp) ?_
 ·rintro bs ⟨hb,h1⟩
  have hy:=Rs hb
  simp only[Hh,rg,go_sem,seval,Prod.fst,F.enc_len,Rm,Rn,Ro,Rp,Rq,WI,WJ,WL,↓He,He]
  repeat' (first|with_reducible assumption|with_reducible refine And.intro ?_ ?_|intro _)
  all_goals first|omega|skip
  rename_i k n s vk vn vs vks vl l q hd
  exact⟨(k,n,s,vk,vn,vs,vks,vl,l),hd.1,rfl⟩
theorem Hi (t:Pw.F):(cy t).size<=40000:=by
 unfold cy
 split
 ·rename_i h;exact gX (uz h)
 ·show (0:Nat)<=_;omega
theorem Hj {m:Int} {t:Pw.F} (h:drFW m t) (hm:m<=1048577):t.fit 140737488355328/\bW t/\aJ t<=1048577:=by
 obtain⟨h1,h2,h3,_⟩:=h
 exact⟨F.fit_mono (by decide) h1,h2,by omega⟩
end Go.Proofs.Pw
namespace Go.Proofs.Pw
variable [Globs]
def Hk:X:=(.seq (.reg [xS 2 (.box (.t 0) (some 9)),xS 3 (.box (.t 1) (some 9)),xS 4 (.mv (.k (.c (.bool false))))] none [2,3]) (.seq (.reg [xS 5 (.fa (.t 2) 0),xL 6 5,xS 7 (.fa (.t 3) 0),xL 8 7,xS 9 (.bin false .eql (.t 6) (.t 8)),xM 10 9,xG 11 10 (.fa (.t 2) 1),xG 12 10 (.load (.t 11) none),xG 13 10 (.fa (.t 3) 1),xG 14 10 (.load (.t 13) none),xG 15 10 (.bin false .eql (.t 12) (.t 14)),xS 16 (.pick (.t 10) (.t 15) (.k (.c (.bool false)))),xM 17 16,xG 18 17 (.fa (.t 2) 2),xG 19 17 (.load (.t 18) none),xG 20 17 (.fa (.t 3) 2),xG 21 17 (.load (.t 20) none),xG 22 17 (.bin false .eql (.t 19) (.t 21)),xS 23 (.pick (.t 17) (.t 22) (.k (.c (.bool false)))),xM 24 23,xG 25 24 (.fa (.t 2) 3),xG 26 24 (.load (.t 25) (some 5)),xG 27 24 (.fa (.t 3) 3),xG 28 24 (.load (.t 27) (some 5)),xG 29 24 (.call 28 [(.t 26),(.t 28)]),xS 30 (.pick (.t 24) (.t 29) (.k (.c (.bool false)))),xM 31 30,xG 32 31 (.fa (.t 2) 8),xG 33 31 (.load (.t 32) none),xG 34 31 (.fa (.t 3) 8),xG 35 31 (.load (.t 34) none),xG 36 31 (.call 29 [(.t 33),(.t 35),(.k (.c (.fn 12)))]),xS 37 (.pick (.t 31) (.t 36) (.k (.c (.bool false)))),xM 4 37] none [4]) .ret))
theorem WT:al Tryz.prog 38 (Tryz.f12.body.getD .skip) Hk=true:=by kernel_rfl
theorem WU:am Tryz.prog Tryz.f12.results.toList [.tmp 4]=true:=by kernel_rfl
theorem Hl:aw Tryz.prog 12=true:=by kernel_rfl
def xD:X:=(.seq (.reg [xS 6 (.mv (.k (.c (.bool false))))] none [0,1,2]) (.seq (.seq (.reg [xM 10 0,xS 11 (.len (.t 10) false),xM 12 1,xS 13 (.len (.t 12) false),xS 14 (.bin false .neq (.t 11) (.t 13))] none [0,1,2,14]) (.cond (.t 14) (.seq (.reg [xS 6 (.mv (.k (.c (.bool false))))] none [6]) .ret) .skip)) (.seq (.seq (.reg [xM 15 0,xS 16 (.len (.t 15) false),xS 17 (.mv (xK 0))] none [1,2,15,16,17]) (.block 0 (.loop (.seq (.reg [xS 18 (.bin false .lss (.t 17) (.t 16))] none [1,2,15,16,17,18]) (.seq (.cond (.t 18) .skip (.exit 0)) (.seq (.block 1 (.seq (.reg [xM 19 17,xS 20 (.ia (.t 15) (.t 17) 9),xS 21 (.load (.t 20) (some 9)),xS 8 (.alloc xF),xM 7 19,xW 8 21 9] none [1,2,7,8,15,16,17]) (.seq (.reg [xM 22 1,xM 23 7,xS 24 (.ia (.t 22) (.t 23) 9),xS 25 (.load (.t 24) (some 9)),xS 9 (.alloc xF),xW 9 25 9] none [1,2,8,9,15,16,17]) (.seq (.reg [xM 26 2,xS 27 (.load (.t 8) (some 9)),xS 28 (.load (.t 9) (some 9)),xS 29 (.calli (.t 26) [(.t 27),(.t 28)]),xS 30 (.not (.t 29))] none [1,2,15,16,17,30]) (.cond (.t 30) (.seq (.reg [xS 6 (.mv (.k (.c (.bool false))))] none [6]) .ret) .skip))))) (.reg [xS 31 (.bin false .add (.t 17) (xK 1)),xM 17 31] none [1,2,15,16,17]))))))) (.seq (.reg [xS 6 (.mv (.k (.c (.bool true))))] none [6]) .ret))))
theorem WV:al Tryz.prog 32 (Tryz.f29.body.getD .skip) xD=true:=by kernel_rfl
theorem WW:am Tryz.prog Tryz.f29.results.toList [.tmp 6]=true:=by kernel_rfl
theorem WX:aw Tryz.prog 29=true:=by kernel_rfl
noncomputable def jr (k:Nat):Spec:=Spec.of (ι:=F × F) [false,false] (fun i=>[.d (.agg i.1.enc),.d (.agg i.2.enc)]) (fun i=>(i.1.fit 140737488355328/\i.2.fit 140737488355328)/\SizeOf.sizeOf i.1 < k) (fun i=>[.d (.one (.bool (decide (i.1=i.2))))]) (fun _=>[.gone,.gone])
theorem rV:∀ i j:F × F,(fun (i:F × F)=>([.d (.agg i.1.enc),.d (.agg i.2.enc)]:List AV)) i=(fun (i:F × F)=>([.d (.agg i.1.enc),.d (.agg i.2.enc)]:List AV)) j->i=j:=by
 rintro⟨a,b⟩ ⟨a',b'⟩ h
 simp only[Prod.mk.injEq]
 simpa [ap,T.enc_eq,aq,F.enc_eq,ar,Tk.enc_eq,au,Gn.enc_eq,ao] using h
theorem Hm (k:Nat):(jr k).md=[false,false]:=rfl
theorem Hn (k:Nat) (a:F) (b:F):(jr k).pre [.d (.agg a.enc),.d (.agg b.enc)]=((a.fit 140737488355328/\b.fit 140737488355328)/\SizeOf.sizeOf a < k):=Spec.of_pre' rV (a,b)
theorem Ho (k:Nat):(jr k).alts=none:=rfl
theorem Hp (k:Nat) (a:F) (b:F):(jr k).res [.d (.agg a.enc),.d (.agg b.enc)]=[.d (.one (.bool (decide (a=b))))]:=Spec.of_res rV (a,b)
theorem Hq (k:Nat) (a:F) (b:F):(jr k).out [.d (.agg a.enc),.d (.agg b.enc)]=[.gone,.gone]:=Spec.of_out rV (a,b)
noncomputable def iu (k:Nat):Spec:=Spec.of (ι:=(List Pw.F) × (List Pw.F)) [false,false,false] (fun i=>[.d (.one (.row 9 (aB i.1))),.d (.one (.row 9 (aB i.2))),.d (.one (.fn 12))]) (fun i=>(ab 140737488355328 i.1.length/\bu 140737488355328 i.1/\ab 140737488355328 i.2.length/\bu 140737488355328 i.2)/\SizeOf.sizeOf i.1 < k) (fun i=>[.d (.one (.bool (decide (i.1=i.2))))]) (fun _=>[.gone,.gone,.gone])
theorem rW:∀ i j:(List Pw.F) × (List Pw.F),(fun (i:(List Pw.F) × (List Pw.F))=>([.d (.one (.row 9 (aB i.1))),.d (.one (.row 9 (aB i.2))),.d (.one (.fn 12))]:List AV)) i=(fun (i:(List Pw.F) × (List Pw.F))=>([.d (.one (.row 9 (aB i.1))),.d (.one (.row 9 (aB i.2))),.d (.one (.fn 12))]:List AV)) j->i=j:=by
 rintro⟨a,b⟩ ⟨a',b'⟩ h
 simp only[Prod.mk.injEq]
 simpa [ap,T.enc_eq,aq,F.enc_eq,ar,Tk.enc_eq,au,Gn.enc_eq,ao] using h
theorem WY (k:Nat):(iu k).md=[false,false,false]:=rfl
theorem WZ (k:Nat) (a:List Pw.F) (b:List Pw.F):(iu k).pre [.d (.one (.row 9 (aB a))),.d (.one (.row 9 (aB b))),.d (.one (.fn 12))]=((ab 140737488355328 a.length/\bu 140737488355328 a/\ab 140737488355328 b.length/\bu 140737488355328 b)/\SizeOf.sizeOf a < k):=Spec.of_pre' rW (a,b)
theorem Xa (k:Nat):(iu k).alts=none:=rfl
theorem Xb (k:Nat) (a:List Pw.F) (b:List Pw.F):(iu k).res [.d (.one (.row 9 (aB a))),.d (.one (.row 9 (aB b))),.d (.one (.fn 12))]=[.d (.one (.bool (decide (a=b))))]:=Spec.of_res rW (a,b)
theorem Xc (k:Nat) (a:List Pw.F) (b:List Pw.F):(iu k).out [.d (.one (.row 9 (aB a))),.d (.one (.row 9 (aB b))),.d (.one (.fn 12))]=[.gone,.gone,.gone]:=Spec.of_out rW (a,b)
theorem Xd (k:Nat) (hS:Sound Tryz.prog 29 (iu k)):Sound Tryz.prog 12 (jr (k+1)):=by
 refine aQ (GOK.cons (l:=[(29,iu k)]) vR DX (GOK.cons WX hS GOK.nil)) Tryz.func12 (c:=Tryz.f12.body.getD .skip) rfl (n:=38) rfl WT WU (fun _=>by simp) ?_ ?_
 ·exact rV
 ·rintro⟨a,b⟩ ⟨⟨h1,h2⟩,h4⟩
  obtain⟨kk,n,s,v,l⟩:=a
  obtain⟨vk,vn,vs,vks,vl⟩:=v
  obtain⟨kk',n',s',v',l'⟩:=b
  obtain⟨vk',vn',vs',vks',vl'⟩:=v'
  have p1:=DS (T.mk vk vn vs vks vl) (T.mk vk' vn' vs' vks' vl')
  have p2:=DU (T.mk vk vn vs vks vl) (T.mk vk' vn' vs' vks' vl')
  have p3:=DW (T.mk vk vn vs vks vl) (T.mk vk' vn' vs' vks' vl')
  generalize hv:T.mk vk vn vs vks vl=v at *
  generalize hv':T.mk vk' vn' vs' vks' vl'=v' at *
  have q:v.enc=[.int .i64 vk,.int .i64 vn,.str vs,.row 1 (aa vks),.row 5 (ai vl)]:=by rw[<-hv];rfl
  have q':v'.enc=[.int .i64 vk',.int .i64 vn',.str vs',.row 1 (aa vks'),.row 5 (ai vl')]:=by rw[<-hv'];rfl
  simp only[F.fit] at h1 h2
  obtain⟨_,_,f1,f2,f3,f4⟩:=h1
  obtain⟨_,_,g1,g2,g3,g4⟩:=h2
  have e3 : SizeOf.sizeOf l < k := by have e : SizeOf.sizeOf (F.mk kk n s v l) < k + 1 := h4
                                      rw[F.mk.sizeOf_spec] at e;omega
  clear h4
  simp only[q,q'] at p1 p2 p3
  simp only[Hk,F.enc,q,q',List.cons_append,List.nil_append,go_sem,seval,rg,F.mk.injEq,p1,p2,p3,DR,DT,WY,WZ,Xa,Xb,Xc]
  repeat' (first|with_reducible assumption|with_reducible refine And.intro ?_ ?_|intro _)
  all_goals first|omega|(grind;done)|skip
theorem Xe (k:Nat) (hS:Sound Tryz.prog 12 (jr k)):Sound Tryz.prog 29 (iu (k+1)):=by
 refine aQ (GOK.cons Hl hS GOK.nil) Tryz.func29 (c:=Tryz.f29.body.getD .skip) rfl (n:=32) rfl WV WW (fun _=>by simp) ?_ ?_
 ·exact rW
 ·rintro⟨a,b⟩ ⟨h1,h3⟩
  simp only at h3
  simp only[ab] at h1
  have fa:=dN h1.2.1
  have fb:=dN h1.2.2.2
  by_cases hl:a.length=b.length
  ·have b1:((a.length:Int)=(b.length:Int))=True:=by simp[hl]
   simp only[xD,rg,go_sem,seval,b1]
   refine aZ (ι:=Nat) (fun i=>a.length-i) (fun i=>i<=a.length/\a.take i=b.take i)
    (fun i=>⟨[(1,.q (.c (.row 9 (aB b)))),(2,.q (.c (.fn 12))),(15,.q (.c (.row 9 (aB a)))),(16,.q (.c (.int .i64 a.length))),(17,.q (.c (.int .i64 i)))],[],[]⟩) 0 ⟨Nat.zero_le _,rfl⟩ (Le.refl _) ?_
   rintro i ⟨hi,heq⟩
   rcases Nat.lt_or_ge i a.length with hlt|hge
   ·obtain⟨s,hs,_,hmem⟩:=aU hlt
    obtain⟨s',hs',_,hmem'⟩:=aU (l:=b) (i:=i) (by omega)
    have a1:=cI hs
    have a1':=cI hs'
    have a2:((i:Int) < (a.length:Int))=True:=by simp;omega
    have a3:((i:Int) < (b.length:Int))=True:=by simp;omega
    have a4:=fa s hmem
    have a5:=fb s' hmem'
    have a6:=F.enc_len s
    have a6':=F.enc_len s'
    have a8:=bK hmem
    by_cases hc:s=s'
    ·have c1:(s=s')=True:=by simp[hc]
     simp only[go_sem,seval,rg,a1,a1',a2,a3,a6,a6',c1,Hm,Hn,Ho,Hp,Hq]
     repeat' (first|with_reducible assumption|with_reducible refine And.intro ?_ ?_|intro _)
     all_goals first|omega|skip
     exact⟨i+1,⟨by omega,nV hs (hc ▸ hs') heq⟩,by omega,Le.sub (fun _ h=>h) (fun _ h=>by cases h) (fun _ h=>h)⟩
    ·have c1:(s=s')=False:=by simp[hc]
     simp only[go_sem,seval,rg,a1,a1',a2,a3,a6,a6',c1,Hm,Hn,Ho,Hp,Hq]
     repeat' (first|with_reducible assumption|with_reducible refine And.intro ?_ ?_|intro _)
     all_goals first|omega|skip
     rename_i h;exact nU hs hs' hc h
   ·have a2:((i:Int) < (a.length:Int))=False:=by simp;omega
    have hie:i=a.length:=by omega
    subst hie
    simp only[go_sem,seval,a2]
    exact nW hl heq
  ·have b1:((a.length:Int)=(b.length:Int))=False:=by simp;omega
   simp only[xD,rg,go_sem,seval,b1]
   exact fun e=>hl (by rw[e])
theorem Xf (k:Nat):Sound Tryz.prog 12 (jr k)/\Sound Tryz.prog 29 (iu k):=by
 induction k with
 | zero=>exact⟨Sound.none,Sound.none⟩
 | succ k ih=>exact⟨Xd k ih.2,Xe k ih.1⟩
noncomputable def kX :Spec:=Spec.of (ι:=F × F) [false,false] (fun i=>[.d (.agg i.1.enc),.d (.agg i.2.enc)]) (fun i=>i.1.fit 140737488355328/\i.2.fit 140737488355328) (fun i=>[.d (.one (.bool (decide (i.1=i.2))))]) (fun _=>[.gone,.gone])
theorem xE:∀ i j:F × F,(fun (i:F × F)=>([.d (.agg i.1.enc),.d (.agg i.2.enc)]:List AV)) i=(fun (i:F × F)=>([.d (.agg i.1.enc),.d (.agg i.2.enc)]:List AV)) j->i=j:=by
 rintro⟨a,b⟩ ⟨a',b'⟩ h
 simp only[Prod.mk.injEq]
 simpa [ap,T.enc_eq,aq,F.enc_eq,ar,Tk.enc_eq,au,Gn.enc_eq,ao] using h
theorem rX :(kX).md=[false,false]:=rfl
theorem rY  (a:F) (b:F):(kX).pre [.d (.agg a.enc),.d (.agg b.enc)]=(a.fit 140737488355328/\b.fit 140737488355328):=Spec.of_pre' xE (a,b)
theorem rZ :(kX).alts=none:=rfl
theorem sa  (a:F) (b:F):(kX).res [.d (.agg a.enc),.d (.agg b.enc)]=[.d (.one (.bool (decide (a=b))))]:=Spec.of_res xE (a,b)
theorem sc  (a:F) (b:F):(kX).out [.d (.agg a.enc),.d (.agg b.enc)]=[.gone,.gone]:=Spec.of_out xE (a,b)
theorem Xg:Sound Tryz.prog 12 kX:=Sound.all (μ:=fun i=>SizeOf.sizeOf i.1) (fun k=>(Xf k).1)
end Go.Proofs.Pw
namespace Go.Proofs.Pw
def bytes (bs:List Int):Prop:=(∀ b ∈ bs,0<=b/\b<=255)/\ab 140737488355328 bs.length
end Go.Proofs.Pw
namespace Go.Proofs.Pw
variable [Globs]
theorem xI {A:Pw.F} (h:okF A) (hs:(aN A).size<=6000):fOk (aN A)/\fT (aN A)=A:=by
 obtain⟨h1,h2⟩:=Fb h rfl
 have h3:fOk (aN A):=⟨h1,hs⟩
 exact⟨h3,(GT h3).trans h2⟩
end Go.Proofs.Pw
namespace Go.Proofs.Pw
variable [Globs]
def Hr:X:=(.seq (.reg [xS 4 (.mv (.k (.c (.bool false))))] none [0,1]) (.seq (.seq (.reg [xM 14 0,xS 15 (.len (.t 14) false),xS 16 (.bin false .gtr (.t 15) (xK 1048576)),xM 17 16,xH 18 17 (.mv (.t 1)),xH 19 17 (.len (.t 18) false),xH 20 17 (.bin false .gtr (.t 19) (xK 1048576)),xS 21 (.pick (.t 17) (.k (.c (.bool true))) (.t 20))] none [0,1,21]) (.cond (.t 21) (.seq (.reg [xS 4 (.mv (.k (.c (.bool true))))] none [4]) .ret) .skip)) (.seq (.reg [xM 22 0,xS 23 (.callr 6 [(.t 22)]),xS 5 (.alloc xF),xW 5 23 9] none [1,5]) (.seq (.reg [xM 24 1,xS 25 (.callr 6 [(.t 24)]),xS 6 (.alloc xF),xW 6 25 9] none [5,6]) (.seq (.reg [xS 26 (.load (.t 5) (some 9)),xS 27 (.call 7 [(.t 26)]),xM 7 27] none [5,6,7]) (.seq (.seq (.reg [xM 28 7,xS 29 (.load (.t 5) (some 9)),xS 30 (.call 8 [(.t 29)]),xS 31 (.bin false .neq (.t 28) (.t 30)),xM 32 31,xH 33 32 (.load (.t 5) (some 9)),xH 34 32 (.call 9 [(.t 33)]),xH 35 32 (.not (.t 34)),xS 36 (.pick (.t 32) (.k (.c (.bool true))) (.t 35)),xM 37 36,xH 38 37 (.load (.t 6) (some 9)),xH 39 37 (.call 9 [(.t 38)]),xH 40 37 (.not (.t 39)),xS 41 (.pick (.t 37) (.k (.c (.bool true))) (.t 40))] none [5,6,7,41]) (.cond (.t 41) (.seq (.reg [xM 42 7,xS 43 (.load (.t 5) (some 9)),xS 44 (.call 8 [(.t 43)]),xS 45 (.bin false .eql (.t 42) (.t 44)),xM 4 45] none [4]) .ret) .skip)) (.seq (.reg [xS 46 (.load (.t 5) (some 9)),xS 47 (.bsl 9 [((.t 46),(some 9))]),xS 48 (.build xF [(0,(xK 17),none),(8,(.t 47),none)]),xS 8 (.alloc xF),xW 8 48 9] none [5,6,7,8]) (.seq (.reg [xS 49 (.load (.t 5) (some 9)),xS 50 (.load (.t 6) (some 9)),xS 51 (.bsl 9 [((.t 49),(some 9)),((.t 50),(some 9))]),xS 52 (.build xF [(0,(xK 6),none),(8,(.t 51),none)]),xS 9 (.alloc xF),xW 9 52 9] none [6,7,8,9]) (.seq (.reg [xM 54 7,xS 55 (.bin false .add (.k (.c (.str ⟨#[116,114,121,32]⟩))) (.t 54)),xS 56 (.call 10 [(.t 55)]),xM 53 56,xS 57 (.ext (.t 53) 0),xS 58 (.ext (.t 53) 1),xS 10 (.alloc xF),xW 10 57 9,xM 11 58] none [6,7,8,9,10,11]) (.seq (.reg [xM 60 7,xS 61 (.bin false .add (.k (.c (.str ⟨#[112,105,112,101,32]⟩))) (.t 60)),xS 62 (.bin false .add (.t 61) (.k (.c (.str ⟨#[32]⟩)))),xS 63 (.load (.t 6) (some 9)),xS 64 (.call 7 [(.t 63)]),xS 65 (.bin false .add (.t 62) (.t 64)),xS 66 (.call 10 [(.t 65)]),xM 59 66,xS 67 (.ext (.t 59) 0),xS 68 (.ext (.t 59) 1),xS 12 (.alloc xF),xW 12 67 9,xM 13 68] none [8,9,10,11,12,13]) (.seq (.reg [xM 69 11,xS 70 (.load (.t 8) (some 9)),xS 71 (.call 11 [(.t 70)]),xS 72 (.bin true .eql (.t 69) (.t 71)),xM 73 72,xG 74 73 (.mv (.t 11)),xG 75 73 (.not (.t 74)),xG 76 73 (.mv (.t 75)),xH 77 76 (.load (.t 10) (some 9)),xH 78 76 (.load (.t 8) (some 9)),xH 79 76 (.call 12 [(.t 77),(.t 78)]),xG 80 73 (.pick (.t 76) (.k (.c (.bool true))) (.t 79)),xS 81 (.pick (.t 73) (.t 80) (.k (.c (.bool false)))),xM 82 81,xG 83 82 (.mv (.t 13)),xG 84 82 (.load (.t 9) (some 9)),xG 85 82 (.call 11 [(.t 84)]),xG 86 82 (.bin true .eql (.t 83) (.t 85)),xS 87 (.pick (.t 82) (.t 86) (.k (.c (.bool false)))),xM 88 87,xG 89 88 (.mv (.t 13)),xG 90 88 (.not (.t 89)),xG 91 88 (.mv (.t 90)),xH 92 91 (.load (.t 12) (some 9)),xH 93 91 (.load (.t 9) (some 9)),xH 94 91 (.call 12 [(.t 92),(.t 93)]),xG 95 88 (.pick (.t 91) (.k (.c (.bool true))) (.t 94)),xS 96 (.pick (.t 88) (.t 95) (.k (.c (.bool false)))),xM 4 96] none [4]) .ret)))))))))))
theorem Xh:al Tryz.prog 97 (Tryz.f3.body.getD .skip) Hr=true:=by kernel_rfl
theorem Xi:am Tryz.prog Tryz.f3.results.toList [.tmp 4]=true:=by kernel_rfl
theorem Xj (f:F):aJ (.mk 17 0 ⟨#[]⟩ (.mk 0 0 ⟨#[]⟩ [] []) [f])=aJ f+1:=by simp only[aJ,aD];omega
theorem Xk (f g:F):aJ (.mk 6 0 ⟨#[]⟩ (.mk 0 0 ⟨#[]⟩ [] []) [f,g])=aJ f+aJ g+1:=by simp only[aJ,aD];omega
theorem Xl {f:F} (h:f.fit 140737488355328):(F.mk 17 0 ⟨#[]⟩ (.mk 0 0 ⟨#[]⟩ [] []) [f]).fit 140737488355328 :=
 ⟨by unfold i64;omega,by unfold i64;omega,by unfold ab;decide,T.fit_mono (by decide) cU.1,by unfold ab;simp,h,trivial⟩
theorem Xm {f g:F} (h:f.fit 140737488355328) (h':g.fit 140737488355328):(F.mk 6 0 ⟨#[]⟩ (.mk 0 0 ⟨#[]⟩ [] []) [f,g]).fit 140737488355328 :=
 ⟨by unfold i64;omega,by unfold i64;omega,by unfold ab;decide,T.fit_mono (by decide) cU.1,by unfold ab;simp,h,h',trivial⟩
theorem Xn (a:F):DV.agg [C.int .i64 17,C.int .i64 0,C.str ⟨#[]⟩,C.int .i64 0,C.int .i64 0,C.str ⟨#[]⟩,C.row 1 [],C.row 5 [],C.row 9 [a.enc]]=DV.agg (F.mk 17 0 ⟨#[]⟩ (.mk 0 0 ⟨#[]⟩ [] []) [a]).enc:=rfl
theorem Xo (a b:F):DV.agg [C.int .i64 6,C.int .i64 0,C.str ⟨#[]⟩,C.int .i64 0,C.int .i64 0,C.str ⟨#[]⟩,C.row 1 [],C.row 5 [],C.row 9 [a.enc,b.enc]]=DV.agg (F.mk 6 0 ⟨#[]⟩ (.mk 0 0 ⟨#[]⟩ [] []) [a,b]).enc:=rfl
theorem Xp (a:F):aN (F.mk 17 0 ⟨#[]⟩ (.mk 0 0 ⟨#[]⟩ [] []) [a])=(⟨#[116,114,121,32]⟩:ByteArray)++aN a:=er (by
 have h0:tL (aI 17 0 ⟨#[]⟩ (.mk 0 0 ⟨#[]⟩ [] []))=[116,114,121]:=rfl
 have h1:tL (⟨#[116,114,121,32]⟩:ByteArray)=[116,114,121,32]:=rfl
 have h2:tL (⟨#[32]⟩:ByteArray)=[32]:=rfl
 have h3:tL (⟨#[]⟩:ByteArray)=[]:=rfl
 simp only[aN,aY,cg,h0,h1,h2,h3,List.append_nil,List.cons_append,List.nil_append])
theorem Xq (a b:F):aN (F.mk 6 0 ⟨#[]⟩ (.mk 0 0 ⟨#[]⟩ [] []) [a,b])=(⟨#[112,105,112,101,32]⟩:ByteArray)++aN a++⟨#[32]⟩++aN b:=er (by
 have h0:tL (aI 6 0 ⟨#[]⟩ (.mk 0 0 ⟨#[]⟩ [] []))=[112,105,112,101]:=rfl
 have h1:tL (⟨#[112,105,112,101,32]⟩:ByteArray)=[112,105,112,101,32]:=rfl
 have h2:tL (⟨#[32]⟩:ByteArray)=[32]:=rfl
 have h3:tL (⟨#[]⟩:ByteArray)=[]:=rfl
 simp only[aN,aY,cg,h0,h1,h2,h3,List.append_nil,List.cons_append,List.nil_append,List.append_assoc])
theorem Xr {k n:Int} {s:ByteArray} {v:T} (hk:0<=k/\k<=21) (hn:-60<=n/\n < 60) (hs:s.size<=12) (hv:okT v) (h2:aA v<=5):(aI k n s v).size<=190:=by
 have h1:=om hv.1
 have h3:=lU (n:=n) (by omega) (by omega)
 have h4:=BO ⟨k.toNat,by omega⟩
 simp only at h4
 have e1:(ByteArray.mk #[61]).size=1:=rfl
 have e2:(ByteArray.mk #[46]).size=1:=rfl
 have e3:(ByteArray.mk #[58]).size=1:=rfl
 have e4:(ByteArray.mk #[91]).size=1:=rfl
 have e5:(ByteArray.mk #[93]).size=1:=rfl
 have e6:(ByteArray.mk #[109,97,107,101,58]).size=5:=rfl
 unfold aI
 repeat' split
 all_goals try simp only[ByteArray.size_append,e1,e2,e3,e4,e5,e6]
 all_goals omega
mutual
theorem Hs:∀ {t:F} {d:Int},aM t d->io t->((aN t).size:Int)+1<=200*aJ t
 | .mk k n s v l,d,h,ht=>by
   simp only[aM] at h
   simp only[io] at ht
   obtain⟨h1,h2,h3,h4,h5,h6,h7,h8,h9⟩:=h
   have h10:=lM (show 0<=aP k by omega)
   have a:=Xr (s:=s) (v:=v) (show 0<=k/\k<=21 by omega) ⟨h5,h6⟩ h4.2 h7 ht.1
   have b:=Ht h8 ht.2
   have c:=fX l 0
   simp only[aN,aJ,ByteArray.size_append];omega
theorem Ht:∀ {l:List F} {d:Int},ba l d->bM l->((aY l).size:Int)<=200*aD l
 | [],_,_,_=>by simp[aY,aD,ByteArray.size]
 | t::l,d,h,ht=>by
   simp only[ba] at h
   simp only[bM] at ht
   have h1:=Hs h.1 ht.1
   have h2:=Ht h.2 ht.2
   have e1:(ByteArray.mk #[32]).size=1:=rfl
   simp only[aY,aD,ByteArray.size_append,e1];omega
end
theorem Hu {A:F} (ok:okF A) (hk:bM A.kids):(aJ A=1/\(aN A).size<=2402)\/((aN A).size:Int)+1<=200*aJ A:=by
 obtain⟨k,n,s,v,l⟩:=A
 have hf:=ok.1
 have hh:=mG hf
 obtain⟨g1,g2,⟨_,_,g5⟩,_,_⟩:=hh
 by_cases c:k=2
 ·left
  have hf':=hf
  simp only[aM] at hf'
  obtain⟨h1,h2,h3,h4,h5,h6,h7,h8,h9⟩:=hf'
  have e0:aP 2=0:=by decide
  rw[c,e0] at h2
  have hl:l=[]:=by
   cases l with
   | nil=>rfl
   | cons x r=>simp at h2;omega
  subst hl
  have a:=qk (s:=s) (v:=v) (show 0<=k/\k<=21 by omega) ⟨h5,h6⟩ h4.2 h7
  refine⟨by simp[aJ,aD],?_⟩
  simp only[aN,aY,ByteArray.size_append]
  have:(⟨#[]⟩:ByteArray).size=0:=rfl
  omega
 ·right
  have hv:=g5.resolve_left c
  subst hv
  exact Hs hf (by simp only[io];exact⟨by rw[cU.2];omega,hk⟩)
theorem xJ {A:F} (h:okF A):aJ A<=16:=by rw[<-og _ _ h.1];exact h.2
theorem Xs {A:F} (h:okF A):aM (F.mk 17 0 ⟨#[]⟩ (.mk 0 0 ⟨#[]⟩ [] []) [A]) 8:=by
 simp only[aM,ba]
 exact⟨by omega,by show aP 17=1;decide,⟨.inr rfl,.inr rfl,.inr rfl⟩,nY,by omega,by omega,fG,⟨h.1,trivial⟩,fun h=>by omega⟩
theorem Xt {A B:F} (h:okF A) (h':okF B):aM (F.mk 6 0 ⟨#[]⟩ (.mk 0 0 ⟨#[]⟩ [] []) [A,B]) 8:=by
 simp only[aM,ba]
 exact⟨by omega,by show aP 6=2;decide,⟨.inr rfl,.inr rfl,.inr rfl⟩,nY,by omega,by omega,fG,⟨h.1,h'.1,trivial⟩,fun h=>by omega⟩
theorem Hv {t:F} (h:aM t 8) (hs:(aN t).size<=6000):fOk (aN t)=okF t:=propext ⟨fun ⟨⟨u,h1,h2⟩,_⟩=>by
 have:=(wo u (x:=[]) (y:=[]) h1.1 h trivial trivial (by rw[h2])).1
 exact this ▸ h1,fun k=>(xI k hs).1⟩
noncomputable def xN :Spec:=Spec.of (ι:=(List Int) × (List Int)) [false,false] (fun i=>[.d (.one (.row 1 (aF .u8 i.1))),.d (.one (.row 1 (aF .u8 i.2)))]) (fun i=>bytes i.1/\bytes i.2) (fun _=>[.d (.one (.bool true))]) (fun _=>[.gone,.gone])
theorem xO:∀ i j:(List Int) × (List Int),(fun (i:(List Int) × (List Int))=>([.d (.one (.row 1 (aF .u8 i.1))),.d (.one (.row 1 (aF .u8 i.2)))]:List AV)) i=(fun (i:(List Int) × (List Int))=>([.d (.one (.row 1 (aF .u8 i.1))),.d (.one (.row 1 (aF .u8 i.2)))]:List AV)) j->i=j:=by
 rintro⟨a,b⟩ ⟨a',b'⟩ h
 simp only[Prod.mk.injEq]
 simpa [ap,T.enc_eq,aq,F.enc_eq,ar,Tk.enc_eq,au,Gn.enc_eq,ao] using h
theorem Xu  (a:List Int) (b:List Int):(xN).pre [.d (.one (.row 1 (aF .u8 a))),.d (.one (.row 1 (aF .u8 b)))]=(bytes a/\bytes b):=Spec.of_pre' xO (a,b)
theorem Xv  (a:List Int) (b:List Int):(xN).res [.d (.one (.row 1 (aF .u8 a))),.d (.one (.row 1 (aF .u8 b)))]=[.d (.one (.bool true))]:=Spec.of_res xO (a,b)
set_option maxHeartbeats 4000000 in
theorem Xw (hM:oF) (hE:dR) (hK:tabK) (hW:get? 0 Globs.G=some cf) (hG:get? 1 Globs.G=some dq):Sound Tryz.prog 3 xN:=by
 refine aQ (GOK.cons (l:=[(7,fH),(8,fH),(9,ij),(10,kW),(11,kS),(12,kX)]) WR WS (GOK.cons FY (Gf hK hW hG) (GOK.cons Ud UD (GOK.cons wB wE (GOK.cons VR (Wb hM hE hK hW hG) (GOK.cons FM (FT hG) (GOK.cons Hl Xg GOK.nil))))))) Tryz.func3 (c:=Tryz.f3.body.getD .skip) rfl (n:=97) rfl Xh Xi (fun _=>by simp) ?_ ?_
 ·exact xO
 ·rintro⟨a,b⟩ ⟨h1,h2⟩
  simp only[bytes,ab] at h1 h2
  simp only[Hr,rg,go_sem,seval,Prod.fst,gR,F.enc_len,WN,WO,↓Hg,Hg]
  repeat' (first|with_reducible assumption|with_reducible refine And.intro ?_ ?_|intro _)
  all_goals first|omega|skip
  ·exact (h1.1 _ (by assumption)).1
  ·exact (h1.1 _ (by assumption)).2
  ·unfold ab;omega
  ·exact (h2.1 _ (by assumption)).1
  ·exact (h2.1 _ (by assumption)).2
  ·unfold ab;omega
  rename_i k n s vk vn vs vks vl l hd k3 n3 s3 vk3 vn3 vs3 vks3 vl3 l3 hd3
  generalize hA:Pw.F.mk k n s (T.mk vk vn vs vks vl) l=A at *
  generalize hC:Pw.F.mk k3 n3 s3 (T.mk vk3 vn3 vs3 vks3 vl3) l3=B at *
  clear hA hC
  obtain⟨a1,a2,a3⟩:=Hj hd (by decide)
  obtain⟨b1,b2,b3⟩:=Hj hd3 (by decide)
  have kA:=hd.2.2.2.2
  have kB:=hd3.2.2.2.2
  have fA:=F.enc_len A
  have fB:=F.enc_len B
  have vA:=Hi A
  have vB:=Hi B
  by_cases cA:okF A
  ·by_cases cB:okF B
   ·have eA:okF A=True:=eq_true cA
    have eB:okF B=True:=eq_true cB
    have xA:cy A=aN A:=by unfold cy;rw[if_pos cA]
    have xB:cy B=aN B:=by unfold cy;rw[if_pos cB]
    rw[xA] at vA
    rw[xB] at vB
    have q1:(ByteArray.mk #[116,114,121,32]).size=4:=rfl
    have q2:(ByteArray.mk #[112,105,112,101,32]).size=5:=rfl
    have q3:(ByteArray.mk #[32]).size=1:=rfl
    have dA:=Hu cA kA
    have dB:=Hu cB kB
    have sA:=xJ cA
    have sB:=xJ cB
    have w1:=Xp A
    have w2:=Xq A B
    have n1:=Xj A
    have n2:=Xk A B
    have m1:=Xl a1
    have m2:=Xm a1 b1
    have p1:=Xs cA
    have p2:=Xt cA cB
    have fTR:=Xn A
    have fPI:=Xo A B
    generalize hT:F.mk 17 0 ⟨#[]⟩ (.mk 0 0 ⟨#[]⟩ [] []) [A]=TR at *
    generalize hP:F.mk 6 0 ⟨#[]⟩ (.mk 0 0 ⟨#[]⟩ [] []) [A,B]=PI at *
    clear hT hP
    have l1:=congrArg ByteArray.size w1
    have l2:=congrArg ByteArray.size w2
    simp only[ByteArray.size_append,q1,q2,q3] at l1 l2
    have oT:((aV TR 1 16).1=true)=okF TR:=propext (qg TR)
    have oP:((aV PI 1 16).1=true)=okF PI:=propext (qg PI)
    have zT:(aN TR).size<=6000:=by omega
    have gT:=Hv p1 zT
    have zP:okF PI->(aN PI).size<=6000:=fun h=>by have:=xJ h;omega
    have gP:fOk (aN PI)=okF PI:=by
     by_cases c:(aN PI).size<=6000
     ·exact Hv p2 c
     ·exact propext ⟨fun h=>absurd h.2 c,fun h=>absurd (zP h) c⟩
    have f1:=F.enc_len (fT (aN TR))
    have f2:=F.enc_len (fT (aN PI))
    have y1:=fun h=>(xI (A:=TR) h zT).2
    have y2:=fun h=>(xI (A:=PI) h (zP h)).2
    have w2':=w2.symm
    have w1':=w1.symm
    by_cases cT:okF TR
    ·have eT:okF TR=True:=eq_true cT
     have hT:=y1 cT
     have lT:=F.enc_len TR
     by_cases cP:okF PI
     ·have eP:okF PI=True:=eq_true cP
      have hP:=y2 cP
      have lP:=F.enc_len PI
      simp only[rg,go_sem,seval,Prod.fst,fA,fB,lT,lP,fTR,fPI,xA,xB,eA,eB,oT,oP,w1',w2',gT,gP,eT,eP,hT,hP,q1,q2,q3,ByteArray.size_append,gw,gx,gy,gz,gA,gq,gr,gt,gu,gv,rQ,rR,oI,oJ,oK,mM,mN,mO,mP,mQ,rX,rY,rZ,sa,sc]
      repeat' (first|with_reducible assumption|with_reducible refine And.intro ?_ ?_|intro _)
      all_goals first|omega|(unfold ab;omega)|with_reducible assumption|skip
     ·have eP:okF PI=False:=eq_false cP
      simp only[rg,go_sem,seval,Prod.fst,fA,fB,lT,f2,fTR,fPI,xA,xB,eA,eB,oT,oP,w1',w2',gT,gP,eT,eP,hT,q1,q2,q3,ByteArray.size_append,gw,gx,gy,gz,gA,gq,gr,gt,gu,gv,rQ,rR,oI,oJ,oK,mM,mN,mO,mP,mQ,rX,rY,rZ,sa,sc]
      repeat' (first|with_reducible assumption|with_reducible refine And.intro ?_ ?_|intro _)
      all_goals first|omega|(unfold ab;omega)|with_reducible assumption|skip
    ·have eT:okF TR=False:=eq_false cT
     by_cases cP:okF PI
     ·have eP:okF PI=True:=eq_true cP
      have hP:=y2 cP
      have lP:=F.enc_len PI
      simp only[rg,go_sem,seval,Prod.fst,fA,fB,f1,lP,fTR,fPI,xA,xB,eA,eB,oT,oP,w1',w2',gT,gP,eT,eP,hP,q1,q2,q3,ByteArray.size_append,gw,gx,gy,gz,gA,gq,gr,gt,gu,gv,rQ,rR,oI,oJ,oK,mM,mN,mO,mP,mQ,rX,rY,rZ,sa,sc]
      repeat' (first|with_reducible assumption|with_reducible refine And.intro ?_ ?_|intro _)
      all_goals first|omega|(unfold ab;omega)|with_reducible assumption|skip
     ·have eP:okF PI=False:=eq_false cP
      simp only[rg,go_sem,seval,Prod.fst,fA,fB,f1,f2,fTR,fPI,xA,xB,eA,eB,oT,oP,w1',w2',gT,gP,eT,eP,q1,q2,q3,ByteArray.size_append,gw,gx,gy,gz,gA,gq,gr,gt,gu,gv,rQ,rR,oI,oJ,oK,mM,mN,mO,mP,mQ,rX,rY,rZ,sa,sc]
      repeat' (first|with_reducible assumption|with_reducible refine And.intro ?_ ?_|intro _)
      all_goals first|omega|(unfold ab;omega)|with_reducible assumption|skip
   ·have eA:okF A=True:=eq_true cA
    have eB:okF B=False:=eq_false cB
    simp only[rg,go_sem,seval,Prod.fst,fA,fB,eA,eB,gw,gx,gy,gz,gA,gq,gr,gt,gu,gv]
    repeat' (first|with_reducible assumption|with_reducible refine And.intro ?_ ?_|intro _)
    all_goals first|omega|with_reducible assumption|skip
  ·have eA:okF A=False:=eq_false cA
   by_cases cB:okF B
   ·have eB:okF B=True:=eq_true cB
    simp only[rg,go_sem,seval,Prod.fst,fA,fB,eA,eB,gw,gx,gy,gz,gA,gq,gr,gt,gu,gv]
    repeat' (first|with_reducible assumption|with_reducible refine And.intro ?_ ?_|intro _)
    all_goals first|omega|with_reducible assumption|skip
   ·have eB:okF B=False:=eq_false cB
    simp only[rg,go_sem,seval,Prod.fst,fA,fB,eA,eB,gw,gx,gy,gz,gA,gq,gr,gt,gu,gv]
    repeat' (first|with_reducible assumption|with_reducible refine And.intro ?_ ?_|intro _)
    all_goals first|omega|with_reducible assumption|skip
end Go.Proofs.Pw
namespace Go.Proofs.Pw
open Go.RowKit
def Old (w:World) (g:Nat):Prop:=g < w.heap.size
theorem nj {w:World} {a:Addr} {v:Value} (h:w.cell? a=some v):a.block < w.heap.size:=by
 unfold World.cell? at h
 rcases Nat.lt_or_ge a.block w.heap.size with hlt|hge
 ·exact hlt
 ·rw[Array.getElem?_eq_none hge] at h;simp at h
theorem Hw {k:IntKind} {w:World} {a:Option Addr} {len cap:Nat} {zs:List Int}
 (h:(a=none/\len=0/\cap=0/\zs=[])\/∃ x,a=some x/\len<=cap/\cap<=maxLen/\zs.length=cap/\(∀ i,i < zs.length->w.cell? (x.add i)=some (.int k (zs.getD i 0)))/\∀ n ∈ zs,(Lit.int k n).wf=true) :
 Rep w (Old w) (.row 1 (aF k (zs.take len))) (.slice a len cap)/\(zs.take len).length=len/\∀ n ∈ zs.take len,(Lit.int k n).wf=true:=by
 rcases h with ⟨rfl,rfl,rfl,rfl⟩|⟨x,rfl,hl,hm,hz,hc,hw⟩
 ·exact⟨.nil ..,rfl,by simp⟩
 ·have hlen:(zs.take len).length=len:=by simp;omega
  refine⟨?_,hlen,fun n hn=>hw n (List.mem_of_mem_take hn)⟩
  rcases Nat.eq_zero_or_pos len with h0|h0
  ·subst h0;exact .nil ..
  ·have key:∀ (i j:Nat) e c,(aF k (zs.take len))[i]?=some e->e[j]?=some c->j=0/\i < zs.length/\c=.int k (zs.getD i 0):=fun i j e c he hj=>by
    simp only[aF,List.getElem?_map,Option.map_eq_some_iff] at he
    obtain⟨n,hn,rfl⟩:=he
    rw[List.getElem?_take] at hn
    split at hn
    ·cases j with
     | zero=>simp at hj;subst hj;exact⟨rfl,(List.getElem?_eq_some_iff.1 hn).1,by simp[hn]⟩
     | succ j=>simp at hj
    ·cases hn
   have hel:(aF k (zs.take len)).length=len:=by rw[gR,hlen]
   have:=Rep.row (w:=w) (S:=Old w) 1 (aF k (zs.take len)) x cap (fun i=>.int k (zs.getD i 0)) (by omega) (by
    have:=nj (hc 0 (by omega));rwa [iv] at this) (fun i e he=>by
     simp only[aF,List.getElem?_map,Option.map_eq_some_iff] at he
     obtain⟨n,_,rfl⟩:=he;rfl) (fun i j e c he hj=>by
     obtain⟨rfl,h1,_⟩:=key i j e c he hj
     simpa using hc i h1) (fun i j e c he hj=>by
     obtain⟨rfl,h1,rfl⟩:=key i j e c he hj
     simpa using Rep.int k (zs.getD i 0))
   rwa [hel] at this
theorem Xx [Globs] {P:Program} {f:FuncId} {sp:Spec} (h:Sound P f sp) {args:List AV} (hp:sp.pre args) (ha:sp.alts=none) (hr:sp.res args=[.d (.one (.bool true))]) {W:World} {vs:List Value} (hG:Gl W (Old W))
 (hA:All3 (RepA W (Old W)) args vs (args.map fun _=>fun _=>False)):Calls P f vs.toArray W fun e w'=>e=.returned (.bool true)/\Below W.heap.size W w':=by
 refine (h args hp W (Old W) vs _ hG (fun _ h=>h) (fun g hg=>absurd hg cR) li hA).mono ?_
 rintro e w' ⟨r,o,hro,v,S',rfs,fps',rfl,g1,_,_,_,_,_,g8⟩
 obtain⟨rfl,rfl⟩:=(Spec.may_none ha).1 hro
 rw[hr] at g1
 refine⟨?_,⟨g8.os,g8.tape,g8.output,g8.size,fun k hk=>g8.block k hk cR⟩⟩
 cases rfs with
 | nil=>exact absurd rfl g1.1
 | cons fp r=>cases r with
   | nil =>
     obtain⟨g1,_⟩:=g1
     cases g1;rfl
   | cons _ _=>exact absurd rfl g1.1
end Go.Proofs.Pw
namespace Go.Proofs.Pw
open Go.RowKit Go.ChangeShapes Go.WideShapes
section
variable {H:Type} {enc:TypeId × Value->H} {P:Program} {W W':World} {spare:Nat->Bool} {held:Bool}
theorem Xy (hl:laidOutB P=true) (hb:Below W.heap.size W W'):∀ {ts:List TypeId} {vs:List Value} {ds:List (DataW H)} {p:List MemPlace},DataW.TrodAll enc P W 0 (fun _=>true) true ts vs ds p ->
 (ts.all fun t=>P.readableRec t && decide (t < P.types.size))=true->(∀ x ∈ p,x.block < W.heap.size)->DataW.TrodAll enc P W' 0 (fun b=>decide (b < W.heap.size)) true ts vs ds p:=by
 intro ts
 induction ts with
 | nil =>
   intro vs ds p h _ _
   cases vs <;> cases ds <;> first|exact h|exact h.elim
 | cons t ts ih =>
   intro vs ds p h hr hp
   obtain⟨v,vs',d,ds',p1,q,rfl,rfl,rfl,h1,h2⟩:=trodAll_cons h
   simp only[List.all_cons,Bool.and_eq_true,decide_eq_true_eq] at hr
   exact⟨p1,q,Below.trod hl hr.1.1 hr.1.2 h1 hb (fun x hx=>hp x (by simp[hx])),ih h2 hr.2 (fun x hx=>hp x (by simp[hx])),rfl⟩
theorem Xz (hl:laidOutB P=true) (hb:Below W.heap.size W W'):∀ {ns:List String} {gs:List (DataW H)} {p:List MemPlace},DataW.TrodVars enc P W (fun _=>true) ns gs p ->
 (ns.all fun n=>match P.globalNamed n with|some g=>(match P.globals[g]? with|some x=>P.readableRec x.type && decide (x.type < P.types.size)|none=>false)|none=>false)=true->(∀ x ∈ p,x.block < W.heap.size) ->
 DataW.TrodVars enc P W' (fun b=>decide (b < W.heap.size)) ns gs p:=by
 intro ns
 induction ns with
 | nil =>
   intro gs p h _ _
   cases gs <;> first|exact h|exact h.elim
 | cons n ns ih =>
   intro gs p h hr hp
   cases gs with
   | nil=>exact h.elim
   | cons d gs =>
     obtain⟨g,t,cs,fuel,p1,q,hg,ht,hv,hd,h2,rfl⟩:=h
     simp only[List.all_cons,Bool.and_eq_true,hg] at hr
     obtain⟨hr2,hr3⟩:=hr
     have hr1:g < W.heap.size:=by
      unfold World.var? at hv
      simp only[hg,Option.bind_some] at hv
      split at hv
      ·rename_i h1;exact (Array.getElem?_eq_some_iff.1 h1).1
      ·cases hv
     simp only[Option.map_eq_some_iff] at ht
     obtain⟨x,hx,rfl⟩:=ht
     simp only[hx,Bool.and_eq_true,decide_eq_true_eq] at hr2
     have hk:DataW.Trod enc P W 0 (fun _=>true) true x.type (.agg cs) d p1:=⟨fuel,hd⟩
     obtain⟨fuel',hd'⟩:=Below.trod hl hr2.1 hr2.2 hk hb (fun y hy=>hp y (by simp[hy]))
     exact⟨g,x.type,cs,fuel',p1,q,hg,by rw[hx];rfl,var?_below hb hg hr1 hv,hd',ih h2 hr3 (fun y hy=>hp y (by simp[hy])),rfl⟩
theorem XA {f:Func} {s:ChangeSpec} {args:Array Value} {ds gs:List (DataW H)} {before:List MemPlace} {rt:TypeId} (hl:laidOutB P=true)
 (hW:DataW.Whole enc P f.params.toList s.vars false W args.toList ds gs before) (hrt:f.resultTypes.toList=[rt]) (hrb:P.underlying rt=some .bool) (hsz:f.resultTypes.size=1)
 (hfn:s.fn H (ds++gs)={ results:=[.lit (.bool true)],args:=ds,vars:=gs })
 (hp:(f.params.toList.all fun t=>P.readableRec t && decide (t < P.types.size))=true)
 (hv:(s.vars.all fun n=>match P.globalNamed n with|some g=>(match P.globals[g]? with|some x=>P.readableRec x.type && decide (x.type < P.types.size)|none=>false)|none=>false)=true)
 (hb:Below W.heap.size W W'):s.post enc P f false true false false W args (.bool true) W':=by
 have hlt:=hW.lt
 have hW':=hW
 obtain⟨p,q,hA,hV,rfl,hfz,hnd⟩:=hW
 refine⟨ds,gs,_,[],p,q,hW',?_,?_,?_,hb.frame _,fun h=>by cases h⟩
 ·rw[hfn,hrt,hsz]
  exact trodAll_mk1 (shut_bool hrb _)
 ·rw[hfn];exact Xy hl hb hA hp (fun x hx=>hlt x (by simp[hx]))
 ·rw[hfn];exact Xz hl hb hV hv (fun x hx=>hlt x (by simp[hx]))
end
end Go.Proofs.Pw
namespace Go.Proofs.Pw
open Go.RowKit Go.ChangeShapes Go.WideShapes
section
variable {H:Type} {enc:TypeId × Value->H} {P:Program} {W:World}
theorem XB {n:Int} (h:(Lit.int .u8 n).wf=true):0<=n/\n<=255:=by
 simp only[Lit.wf,Bool.and_eq_true,decide_eq_true_eq] at h
 simp only[IntKind.min,IntKind.max,IntKind.signed,IntKind.bits] at h
 simp at h;omega
theorem Hx {held:Bool} {r:Reach} {base:Nat} {ts:List TypeId} {ds:List (DataW H)} {j:Nat} {t e:TypeId} {v:Value} {d:DataW H} {p:List MemPlace} (hu:P.underlying t=some (.slice e)) (he:P.underlying e=some (.int .u8)) (hc:P.cellsOf e=1) (hby:0 < P.bytesOf e)
 (hval:Value.okWide P W r base t v) (h:DataW.Trod enc P W 0 (fun _=>true) held t v d p) (hz:(DataW.weightsEach P ts ds).all (·<=reachBytes)=true) (ht:ts[j]?=some t) (hd:ds[j]?=some d) :
 ∃ l:List Int,RepA W (Old W) (.d (.one (.row 1 (aF .u8 l)))) v (fun _=>False)/\bytes l:=by
 obtain⟨a,len,cap,rfl⟩:=okWide_slice hu hval
 obtain⟨fuel,h⟩:=h
 rcases open_ints hu he hc h with ⟨h1,h2⟩|⟨x,l,c,zs,hcs,_,hl,hm,hz',hx,hcell,hwz⟩
 ·simp only[Value.cells,List.cons.injEq,and_true] at h1
  cases h1
  refine⟨[],⟨.nil ..,fun _ h=>h⟩,by simp,by unfold ab;simp⟩
 ·simp only[Value.cells,List.cons.injEq,and_true] at hcs
  cases hcs
  simp only[Prod.mk.injEq] at hx
  obtain⟨rfl,rfl⟩:=hx
  obtain⟨k1,k2,k3⟩:=Hw (k:=.u8) (w:=W) (a:=some x) (len:=len) (cap:=cap) (zs:=zs) (.inr ⟨x,rfl,hl,hm,by simpa using hz',hcell,hwz⟩)
  refine⟨zs.take len,⟨k1,fun _ h=>h⟩,fun b hb=>XB (k3 b hb),?_⟩
  have k4:=sized_slice hz ht hd hu
  have k5:(lits (H:=H) .u8 (zs.take len)).length<=reachBytes:=by
   refine Nat.le_trans (Nat.le_trans (Nat.le_add_right _ (lits (H:=H) .u8 (zs.drop len)).length) ?_) k4
   exact Nat.le_mul_of_pos_right _ hby
  have:=reachBytes_lt
  simp only[lits,List.length_map] at k5
  unfold ab;omega
end
end Go.Proofs.Pw
namespace Go.Proofs.Pw
open Go.RowKit Go.ChangeShapes Go.WideShapes
theorem XC {H:Type} {k:IntKind}:∀ {a b:List Int},lits (H:=H) k a=lits k b->a=b:=by
 intro a
 induction a with
 | nil=>intro b h;cases b with
   | nil=>rfl
   | cons _ _=>simp[lits] at h
 | cons x a ih=>intro b h;cases b with
   | nil=>simp[lits] at h
   | cons y b =>
     simp only[lits,List.map_cons,List.cons.injEq,DataW.lit.injEq,Lit.int.injEq,true_and] at h
     rw[h.1,ih h.2]
theorem XD {P:Program} {W:World} {nm:String} {d:DataW Unit} {ns:List Int} {r:List (String × DataW Unit)} {ps:List MemPlace} {g:Nat} {t e:TypeId} {k:IntKind} (hg:P.globalNamed nm=some g) (ht:(P.globals[g]?).map (·.type)=some t)
 (hu:P.underlying t=some (.slice e)) (he:P.underlying e=some (.int k)) (hc:P.cellsOf e=1) (hd:d=.slice (lits k ns) []) (h:DataW.LaidVars P W ((nm,d)::r) ps) :
 (Old W g/\∃ u,W.cell? ⟨g,0,none⟩=some u/\Rep W (Old W) (.row 1 (aF k ns)) u)/\∃ ps',DataW.LaidVars P W r ps':=by
 obtain⟨g',t',cs,fuel,p,q,hg',ht',hv,htr,hr,_⟩:=h
 obtain rfl:=Option.some.inj (hg.symm.trans hg')
 obtain rfl:=Option.some.inj (ht.symm.trans ht')
 refine⟨?_,q,hr⟩
 subst hd
 rcases open_ints hu he hc htr with ⟨_,hx⟩|⟨x,l,c,zs,hcs,_,hl,hm,hz,hx,hcell,hwz⟩
 ·simp at hx
 ·simp only[Prod.mk.injEq,DataW.slice.injEq] at hx
  have hns:=XC hx.1.1
  have h0:W.cell? ⟨g,0,none⟩=some (.slice (some x) l c):=by
   have:=World.var?_cell hg hv 0
   rw[Array.eq_one_of_toList hcs] at this
   simpa using this
  have hrep:=(Hw (w:=W) (a:=some x) (len:=l) (cap:=c) (zs:=zs) (.inr ⟨x,rfl,hl,hm,by simpa using hz,hcell,hwz⟩)).1
  rw[<-hns] at hrep
  exact⟨nj h0,_,h0,hrep⟩
end Go.Proofs.Pw
