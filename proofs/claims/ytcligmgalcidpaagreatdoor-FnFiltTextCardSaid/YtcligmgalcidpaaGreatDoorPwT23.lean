/- Filters read from texts, in the reference: heads. -/
import Derived.Test.YtcligmgalcidpaaGreatDoorPwT22
import Derived.Test.YtcligmgalcidpaaGreatDoorPwT19
import Derived.Test.YtcligmgalcidpaaGreatDoorPwT20
set_option linter.unusedSimpArgs false
set_option linter.unusedVariables false
set_option linter.unusedSectionVars false
set_option maxRecDepth 20000
namespace Go.Proofs.Pw
variable [Globs]
end Go.Proofs.Pw
namespace Go.Proofs.Pw
variable [Globs]
end Go.Proofs.Pw
namespace Go.Proofs.Pw
variable [Globs]
def GV:X:=(.seq (.reg [xS 2 (.alloc xF)] none [0,2]) (.seq (.seq (.reg [xM 3 0,xS 4 (.callr 38 [(.t 3),(xK 10)])] none [0,2,4]) (.block 0 (.seq (.seq (.reg [xS 6 (.bin false .eql (.t 4) (xK 0)),xM 5 6] none [0,2,4,5]) (.cond (.t 5) .skip (.reg [xS 7 (.bin false .eql (.t 4) (xK 1)),xM 5 7] none [0,2,4,5]))) (.cond (.t 5) (.seq (.reg [xM 8 0,xM 9 0,xS 10 (.callr 38 [(.t 9),(xK 2)]),xS 11 (.bin false .add (xK 1) (.t 10)),xS 12 (.callr 92 [(.t 8),(.t 11)]),xS 13 (.build xF [(0,(xK 2),none),(3,(.t 12),(some 5))]),xW 2 13 9] none [2]) .ret) (.seq (.seq (.reg [xS 15 (.bin false .eql (.t 4) (xK 2)),xM 14 15] none [0,2,4,14]) (.cond (.t 14) .skip (.reg [xS 16 (.bin false .eql (.t 4) (xK 3)),xM 14 16] none [0,2,4,14]))) (.cond (.t 14) (.seq (.reg [xM 17 0,xS 18 (.bsl 1 [((.k (.c (.str ⟨#[97]⟩))),none),((.k (.c (.str ⟨#[98]⟩))),none),((.k (.c (.str ⟨#[99]⟩))),none),((.k (.c (.str ⟨#[97]⟩))),none)]),xS 19 (.callr 39 [(.t 17),(.t 18)]),xS 20 (.build xF [(0,(xK 3),none),(2,(.t 19),none)]),xW 2 20 9] none [2]) .ret) (.seq (.reg [xS 22 (.bin false .eql (.t 4) (xK 4)),xM 21 22] none [0,2,4,21]) (.cond (.t 21) (.seq (.reg [xM 23 0,xS 24 (.bsl 1 [((xK 0),none),((xK 1),none),((.k (.c (.int .i64 (-1)))),none),((xK 2),none)]),xS 25 (.callr 41 [(.t 23),(.t 24)]),xS 26 (.build xF [(0,(xK 4),none),(1,(.t 25),none)]),xW 2 26 9] none [2]) .ret) (.seq (.seq (.reg [xS 28 (.bin false .eql (.t 4) (xK 5)),xM 27 28] none [0,2,4,27]) (.cond (.t 27) .skip (.reg [xS 29 (.bin false .eql (.t 4) (xK 6)),xM 27 29] none [0,2,4,27]))) (.cond (.t 27) (.seq (.reg [xS 30 (.build xF [(0,(xK 5),none)]),xW 2 30 9] none [2]) .ret) (.seq (.reg [xS 32 (.bin false .eql (.t 4) (xK 7)),xM 31 32] none [0,2,31]) (.cond (.t 31) (.seq (.reg [xM 33 0,xS 34 (.bsl 1 [((xK 13),none),((xK 14),none),((xK 15),none),((xK 18),none),((xK 19),none)]),xS 35 (.callr 41 [(.t 33),(.t 34)]),xS 36 (.build xF [(0,(.t 35),none)]),xW 2 36 9] none [2]) .ret) .skip)))))))))))) (.seq (.reg [xS 37 (.build xF [(0,(xK 1),none)]),xW 2 37 9] none [2]) .ret)))
theorem Wc:al Tryz.prog 38 (Tryz.f70.body.getD .skip) GV=true:=by kernel_rfl
theorem Wd:am Tryz.prog Tryz.f70.results.toList [.cell 2 (some 9)]=true:=by kernel_rfl
theorem GW:aw Tryz.prog 70=true:=by kernel_rfl
def xo:X:=(.seq (.reg [xS 4 (.alloc xF)] none [0,1,4]) (.seq (.seq (.reg [xM 5 1,xS 6 (.bin false .leq (.t 5) (xK 1)),xM 7 6,xH 8 7 (.mv (.t 0)),xH 9 7 (.callr 38 [(.t 8),(xK 3)]),xH 10 7 (.bin false .eql (.t 9) (xK 0)),xS 11 (.pick (.t 7) (.k (.c (.bool true))) (.t 10))] none [0,1,4,11]) (.cond (.t 11) (.seq (.seq (.reg [xM 12 0,xS 13 (.callr 38 [(.t 12),(xK 5)])] none [0,4,13]) (.block 0 (.seq (.reg [xS 15 (.bin false .eql (.t 13) (xK 0)),xM 14 15] none [0,4,13,14]) (.cond (.t 14) (.seq (.reg [xS 16 (.build xF [(0,(xK 1),none)]),xW 4 16 9] none [4]) .ret) (.seq (.seq (.reg [xS 18 (.bin false .eql (.t 13) (xK 1)),xM 17 18] none [0,4,13,17]) (.cond (.t 17) .skip (.reg [xS 19 (.bin false .eql (.t 13) (xK 2)),xM 17 19] none [0,4,13,17]))) (.cond (.t 17) (.seq (.reg [xS 20 (.build xF [(0,(xK 5),none)]),xW 4 20 9] none [4]) .ret) (.seq (.reg [xS 22 (.bin false .eql (.t 13) (xK 3)),xM 21 22] none [0,4,21]) (.cond (.t 21) (.seq (.reg [xM 23 0,xS 24 (.bsl 1 [((xK 0),none),((xK 1),none),((.k (.c (.int .i64 (-1)))),none)]),xS 25 (.callr 41 [(.t 23),(.t 24)]),xS 26 (.build xF [(0,(xK 4),none),(1,(.t 25),none)]),xW 4 26 9] none [4]) .ret) .skip)))))))) (.seq (.reg [xM 27 0,xS 28 (.bsl 1 [((.k (.c (.str ⟨#[97]⟩))),none),((.k (.c (.str ⟨#[98]⟩))),none),((.k (.c (.str ⟨#[99]⟩))),none)]),xS 29 (.callr 39 [(.t 27),(.t 28)]),xS 30 (.build xF [(0,(xK 3),none),(2,(.t 29),none)]),xW 4 30 9] none [4]) .ret)) .skip)) (.seq (.seq (.reg [xM 31 0,xS 32 (.callr 38 [(.t 31),(xK 5)])] none [0,1,4,32]) (.block 1 (.seq (.reg [xS 34 (.bin false .eql (.t 32) (xK 0)),xM 33 34] none [0,1,4,32,33]) (.cond (.t 33) (.seq (.reg [xM 35 0,xM 36 1,xS 37 (.bin false .sub (.t 36) (xK 1)),xS 38 (.callr 91 [(.t 35),(.t 37)]),xM 39 0,xM 40 1,xS 41 (.bin false .sub (.t 40) (xK 1)),xS 42 (.callr 91 [(.t 39),(.t 41)]),xS 43 (.bsl 9 [((.t 38),(some 9)),((.t 42),(some 9))]),xS 44 (.build xF [(0,(xK 7),none),(8,(.t 43),none)]),xW 4 44 9] none [4]) .ret) (.seq (.reg [xS 46 (.bin false .eql (.t 32) (xK 1)),xM 45 46] none [0,1,4,45]) (.cond (.t 45) (.seq (.reg [xM 47 0,xM 48 1,xS 49 (.bin false .sub (.t 48) (xK 1)),xS 50 (.callr 69 [(.t 47),(.t 49)]),xM 51 0,xM 52 1,xS 53 (.bin false .sub (.t 52) (xK 1)),xS 54 (.callr 91 [(.t 51),(.t 53)]),xM 55 0,xM 56 1,xS 57 (.bin false .sub (.t 56) (xK 1)),xS 58 (.callr 91 [(.t 55),(.t 57)]),xS 59 (.bsl 9 [((.t 50),(some 9)),((.t 54),(some 9)),((.t 58),(some 9))]),xS 60 (.build xF [(0,(xK 8),none),(8,(.t 59),none)]),xW 4 60 9] none [4]) .ret) .skip)))))) (.seq (.reg [xM 61 0,xM 62 1,xS 63 (.bin false .sub (.t 62) (xK 1)),xS 64 (.callr 91 [(.t 61),(.t 63)]),xM 65 0,xM 66 1,xS 67 (.bin false .sub (.t 66) (xK 1)),xS 68 (.callr 91 [(.t 65),(.t 67)]),xS 69 (.bsl 9 [((.t 64),(some 9)),((.t 68),(some 9))]),xS 70 (.build xF [(0,(xK 6),none),(8,(.t 69),none)]),xW 4 70 9] none [4]) .ret))))
theorem We:al Tryz.prog 71 (Tryz.f91.body.getD .skip) xo=true:=by kernel_rfl
theorem Wf:am Tryz.prog Tryz.f91.results.toList [.cell 4 (some 9)]=true:=by kernel_rfl
theorem GX:aw Tryz.prog 91=true:=by kernel_rfl
def xp:X:=(.seq (.reg [xS 4 (.alloc xF)] none [0,1,4]) (.seq (.seq (.reg [xM 7 1,xS 8 (.bin false .leq (.t 7) (xK 1)),xM 9 8,xH 10 9 (.mv (.t 0)),xH 11 9 (.callr 38 [(.t 10),(xK 4)]),xH 12 9 (.bin false .eql (.t 11) (xK 0)),xS 13 (.pick (.t 9) (.k (.c (.bool true))) (.t 12))] none [0,1,4,13]) (.cond (.t 13) (.seq (.reg [xM 14 0,xS 15 (.callr 70 [(.t 14)]),xW 4 15 9] none [4]) .ret) .skip)) (.seq (.reg [xM 16 0,xS 17 (.bsl 1 [((xK 6),none),((xK 6),none),((xK 6),none),((xK 7),none),((xK 7),none),((xK 8),none),((xK 9),none),((xK 9),none),((xK 10),none),((xK 11),none),((xK 12),none),((xK 12),none),((xK 16),none),((xK 17),none),((xK 20),none),((xK 21),none)]),xS 18 (.callr 41 [(.t 16),(.t 17)]),xS 19 (.build xF [(0,(.t 18),none)]),xS 5 (.alloc xF),xW 5 19 9] none [0,1,4,5]) (.seq (.seq (.reg [xS 20 (.fa (.t 5) 0),xL 21 20,xS 22 (.bin false .eql (.t 21) (xK 21))] none [0,1,4,5,22]) (.cond (.t 22) (.reg [xM 23 0,xS 24 (.bsl 1 [((.k (.c (.str ⟨#[97]⟩))),none),((.k (.c (.str ⟨#[98]⟩))),none),((.k (.c (.str ⟨#[122]⟩))),none)]),xS 25 (.callr 39 [(.t 23),(.t 24)]),xS 26 (.fa (.t 5) 2),⟨none,none,.st (.t 26) (.t 25) none⟩] none [0,1,4,5]) .skip)) (.seq (.seq (.reg [xS 6 (.mv (xK 0))] none [0,1,4,5,6]) (.block 0 (.loop (.seq (.seq (.reg [xM 27 6,xS 28 (.fa (.t 5) 0),xL 29 28,xS 30 (.call 46 [(.t 29)]),xS 31 (.bin false .lss (.t 27) (.t 30))] none [0,1,4,5,6,31]) (.cond (.t 31) .skip (.exit 0))) (.seq (.block 1 (.seq (.reg [xS 34 (.fa (.t 5) 0),xL 35 34,xS 36 (.bin false .eql (.t 35) (xK 20)),xM 37 36,xG 38 37 (.mv (.t 6)),xG 39 37 (.bin false .eql (.t 38) (xK 0)),xS 40 (.pick (.t 37) (.t 39) (.k (.c (.bool false))))] none [0,1,4,5,6,40]) (.cond (.t 40) (.mix [xS 41 (.fa (.t 5) 8),xL 42 41,xM 43 0,xM 44 1,xS 45 (.bin false .sub (.t 44) (xK 1)),xS 46 (.callr 91 [(.t 43),(.t 45)]),xS 47 (.bsl 9 [((.t 46),(some 9))])] [xS 48 (.app (.t 42) (.t 47) 9 136 []),xS 49 (.fa (.t 5) 8),⟨none,none,.st (.t 49) (.t 48) none⟩] [[],[],[],[],[],[1],[]] [0,1,4,5,6]) (.mix [xS 50 (.fa (.t 5) 8),xL 51 50,xM 52 0,xM 53 1,xS 54 (.bin false .sub (.t 53) (xK 1)),xS 55 (.callr 69 [(.t 52),(.t 54)]),xS 56 (.bsl 9 [((.t 55),(some 9))])] [xS 57 (.app (.t 51) (.t 56) 9 136 []),xS 58 (.fa (.t 5) 8),⟨none,none,.st (.t 58) (.t 57) none⟩] [[],[],[],[],[],[1],[]] [0,1,4,5,6])))) (.reg [xM 32 6,xS 33 (.bin false .add (.t 32) (xK 1)),xM 6 33] none [0,1,4,5,6])))))) (.seq (.reg [xS 59 (.load (.t 5) (some 9)),xW 4 59 9] none [4]) .ret))))))
theorem Wg:al Tryz.prog 60 (Tryz.f69.body.getD .skip) xp=true:=by kernel_rfl
theorem Wh:am Tryz.prog Tryz.f69.results.toList [.cell 4 (some 9)]=true:=by kernel_rfl
theorem xq:aw Tryz.prog 69=true:=by kernel_rfl
theorem Wi (a b c d:Int):C.row 1 [[C.int .i64 a],[C.int .i64 b],[C.int .i64 c],[C.int .i64 d]]=C.row 1 (aF .i64 [a,b,c,d]):=rfl
theorem Wj (a b c d e f g h i j k l m n o p:Int):C.row 1 [[C.int .i64 a],[C.int .i64 b],[C.int .i64 c],[C.int .i64 d],[C.int .i64 e],[C.int .i64 f],[C.int .i64 g],[C.int .i64 h],[C.int .i64 i],[C.int .i64 j],[C.int .i64 k],[C.int .i64 l],[C.int .i64 m],[C.int .i64 n],[C.int .i64 o],[C.int .i64 p]]=C.row 1 (aF .i64 [a,b,c,d,e,f,g,h,i,j,k,l,m,n,o,p]):=rfl
abbrev DrI:=Int × Int × ByteArray × Int × Int × ByteArray × List ByteArray × List T × List F × Int
def DrI.f (i:DrI):F:=.mk i.1 i.2.1 i.2.2.1 (.mk i.2.2.2.1 i.2.2.2.2.1 i.2.2.2.2.2.1 i.2.2.2.2.2.2.1 i.2.2.2.2.2.2.2.1) i.2.2.2.2.2.2.2.2.1
def spLeafF :Spec:=Spec.ofR (ι:=(List Int) × Int) (κ:=Int × Int × ByteArray × Int × Int × ByteArray × (List ByteArray) × (List T) × (List Pw.F) × Int) [true] (fun i=>[.ref (rdC i.1 i.2)]) (fun i=>byt i.1/\0<=i.2/\i.2<=1099511627776-1000) (fun i k=>drF 1 (Pw.F.mk k.1 k.2.1 k.2.2.1 (.mk k.2.2.2.1 k.2.2.2.2.1 k.2.2.2.2.2.1 k.2.2.2.2.2.2.1 k.2.2.2.2.2.2.2.1) k.2.2.2.2.2.2.2.2.1)/\i.2<=k.2.2.2.2.2.2.2.2.2/\k.2.2.2.2.2.2.2.2.2<=i.2+1000) (fun i k=>[.d (.agg (Pw.F.mk k.1 k.2.1 k.2.2.1 (.mk k.2.2.2.1 k.2.2.2.2.1 k.2.2.2.2.2.1 k.2.2.2.2.2.2.1 k.2.2.2.2.2.2.2.1) k.2.2.2.2.2.2.2.2.1).enc)]) (fun i k=>[.ref (rdC i.1 k.2.2.2.2.2.2.2.2.2)])
theorem xr:∀ i j:(List Int) × Int,(fun (i:(List Int) × Int)=>([.ref (rdC i.1 i.2)]:List AV)) i=(fun (i:(List Int) × Int)=>([.ref (rdC i.1 i.2)]:List AV)) j->i=j:=by
 rintro⟨bs,p⟩ ⟨bs',p'⟩ h
 simp only[Prod.mk.injEq]
 simpa [ap,T.enc_eq,aq,F.enc_eq,ar,Tk.enc_eq,au,Gn.enc_eq,ao,dn,and_assoc] using h
theorem xt :(spLeafF).md=[true]:=rfl
theorem xu  (bs:List Int) (p:Int):(spLeafF).pre [.ref (rdC bs p)]=(byt bs/\0<=p/\p<=1099511627776-1000):=Spec.ofR_pre xr (bs,p)
theorem Wk  (bs:List Int) (p:Int):(spLeafF).ne [.ref (rdC bs p)]=(∃ k:Int × Int × ByteArray × Int × Int × ByteArray × (List ByteArray) × (List T) × (List Pw.F) × Int,drF 1 (Pw.F.mk k.1 k.2.1 k.2.2.1 (.mk k.2.2.2.1 k.2.2.2.2.1 k.2.2.2.2.2.1 k.2.2.2.2.2.2.1 k.2.2.2.2.2.2.2.1) k.2.2.2.2.2.2.2.2.1)/\p<=k.2.2.2.2.2.2.2.2.2/\k.2.2.2.2.2.2.2.2.2<=p+1000):=Spec.ofR_ne xr (bs,p)
theorem nh  (bs:List Int) (p:Int) (F:List AV->List AV->Prop):(spLeafF).all [.ref (rdC bs p)] F=(∀ (k:Int) (n:Int) (s:ByteArray) (vk:Int) (vn:Int) (vs:ByteArray) (vks:List ByteArray) (vl:List T) (l:List Pw.F) (q:Int),(drF 1 (Pw.F.mk k n s (.mk vk vn vs vks vl) l)/\p<=q/\q<=p+1000)->F [.d (.agg (Pw.F.mk k n s (.mk vk vn vs vks vl) l).enc)] [.ref (rdC bs q)]):=by
 refine (Spec.ofR_all xr (bs,p) F).trans (propext ⟨fun h k n s vk vn vs vks vl l q hr=>h (k,n,s,vk,vn,vs,vks,vl,l,q) hr,fun h k hr=>?_⟩)
 exact h k.1 k.2.1 k.2.2.1 k.2.2.2.1 k.2.2.2.2.1 k.2.2.2.2.2.1 k.2.2.2.2.2.2.1 k.2.2.2.2.2.2.2.1 k.2.2.2.2.2.2.2.2.1 k.2.2.2.2.2.2.2.2.2 hr
theorem dU {M A m:Int} {bs:List Int} {p q k n vk vn:Int} {s vs:ByteArray} {vks:List ByteArray} {vl:List T} {l:List F} {K L R:List (List C)} (hK:aa vks=K) (hL:ai vl=L) (hR:aB l=R) (h:drF m (F.mk k n s (T.mk vk vn vs vks vl) l)) (hm:m<=M) (hq:p<=q/\q<=p+A):∃ i:DrI,
 (drF M (F.mk i.1 i.2.1 i.2.2.1 (T.mk i.2.2.2.1 i.2.2.2.2.1 i.2.2.2.2.2.1 i.2.2.2.2.2.2.1 i.2.2.2.2.2.2.2.1) i.2.2.2.2.2.2.2.2.1)/\p<=i.2.2.2.2.2.2.2.2.2/\i.2.2.2.2.2.2.2.2.2<=p+A) /\
 (F.mk i.1 i.2.1 i.2.2.1 (T.mk i.2.2.2.1 i.2.2.2.2.1 i.2.2.2.2.2.1 i.2.2.2.2.2.2.1 i.2.2.2.2.2.2.2.1) i.2.2.2.2.2.2.2.2.1).enc=[C.int .i64 k,C.int .i64 n,C.str s,C.int .i64 vk,C.int .i64 vn,C.str vs,C.row 1 K,C.row 5 L,C.row 9 R]/\rdC bs q=rdC bs i.2.2.2.2.2.2.2.2.2:=by
 subst hK hL hR
 exact⟨(k,n,s,vk,vn,vs,vks,vl,l,q),⟨h.mono hm,hq⟩,rfl,rfl⟩
theorem gD {k n:Int} {s:ByteArray} (hk:i64 k) (hn:i64 n/\-1000<=n/\n<=1000) (hs:(s.size:Int)<=1000):drF 1 (.mk k n s (.mk 0 0 ⟨#[]⟩ [] []) []):=xa hk hn hs cU.1 (by have:=cU.2;show aA T.zero<=_;omega)
theorem xv (bs:List Int) (p:Int):spLeafF.ne [.ref (rdC bs p)]=True:=by
 rw[Wk]
 exact eq_true ⟨(0,0,⟨#[]⟩,0,0,⟨#[]⟩,[],[],[],p),xa (k:=0) (n:=0) (s:=⟨#[]⟩) (v:=T.zero) (by unfold i64;omega) (by unfold i64;omega) (by decide) cU.1 (by rw[cU.2];omega),Int.le_refl _,by show p<=p+1000;omega⟩
set_option maxHeartbeats 2000000 in
theorem GY:Sound Tryz.prog 70 spLeafF:=by
 refine ec (GOK.cons (l:=[(39,spDof),(41,spDnum),(92,spValF.weak)]) fx fy (GOK.cons (l:=[(41,spDnum),(92,spValF.weak)]) my mA (GOK.cons (l:=[(92,spValF.weak)]) mz mB (GOK.cons we (l1Val_all.weak QT) GOK.nil)))) Tryz.func70 (c:=Tryz.f70.body.getD .skip) rfl (n:=38) rfl Wc Wd (fun _=>by simp) ?_
 ·rintro⟨bs,p⟩ ⟨hb,h1,h2⟩
  change byt bs at hb
  simp only at h1 h2
  have hl:∀ m:Int,(0<=m/\m < 2)->vb (1+m).toNat<=620/\nb (1+m).toNat<=5:=fun m hm=>by
   have:m=0\/m=1:=by omega
   rcases this with rfl|rfl <;> decide
  simp only[GV,rg,go_sem,seval,Prod.fst,QF,Wi,vX,de,df,dg,↓bo,bo,kv,kw,kz,↓dS,dS,kC,kD,kE,↓dT,dT,tF,oc,tH,↓tG,AV.weak,Pt.toC,Ej,Ek,El,↓qU,qU]
  repeat' (first|with_reducible assumption|with_reducible refine And.intro ?_ ?_|intro _)
  all_goals first|omega|skip
  all_goals try
   have hl':=hl _ (by assumption)
   omega
  all_goals first
   | exact dU (vks:=[]) (vl:=[]) (l:=[]) rfl rfl rfl (gD (by unfold i64;omega) (by unfold i64;omega) (by decide)) (Int.le_refl _) (by omega)
   | (rename_i k n s ks l q hd
      have hl':=hl _ (by assumption)
      exact dU (l:=[]) rfl rfl rfl (xa (by unfold i64;omega) (by unfold i64;omega) (by decide) hd.1.1 (by have:=hd.1.2.1;omega)) (Int.le_refl _) (by omega))
   | (rename_i hx
      simp only[List.mem_cons,List.not_mem_nil,or_false] at hx
      exact dU (vks:=[]) (vl:=[]) (l:=[]) rfl rfl rfl (gD (by unfold i64;omega) (by unfold i64;omega) (by first|decide|(rcases hx with rfl|rfl|rfl|rfl <;> decide))) (Int.le_refl _) (by omega))
   | skip
def bq (m:Nat):Spec:=Spec.ofR (ι:=(List Int) × Int × Int) (κ:=Int × Int × ByteArray × Int × Int × ByteArray × (List ByteArray) × (List T) × (List Pw.F) × Int) [true,false] (fun i=>[.ref (rdC i.1 i.2.1),.d (.one (.int .i64 i.2.2))]) (fun i=>(byt i.1/\0<=i.2.1/\i.2.1+fb i.2.2.toNat<=1099511627776/\-1<=i.2.2/\i.2.2<=5)/\i.2.2.toNat < m) (fun i k=>drF (fb i.2.2.toNat) (Pw.F.mk k.1 k.2.1 k.2.2.1 (.mk k.2.2.2.1 k.2.2.2.2.1 k.2.2.2.2.2.1 k.2.2.2.2.2.2.1 k.2.2.2.2.2.2.2.1) k.2.2.2.2.2.2.2.2.1)/\i.2.1<=k.2.2.2.2.2.2.2.2.2/\k.2.2.2.2.2.2.2.2.2<=i.2.1+fb i.2.2.toNat) (fun i k=>[.d (.agg (Pw.F.mk k.1 k.2.1 k.2.2.1 (.mk k.2.2.2.1 k.2.2.2.2.1 k.2.2.2.2.2.1 k.2.2.2.2.2.2.1 k.2.2.2.2.2.2.2.1) k.2.2.2.2.2.2.2.2.1).enc)]) (fun i k=>[.ref (rdC i.1 k.2.2.2.2.2.2.2.2.2),.gone])
theorem xw:∀ i j:(List Int) × Int × Int,(fun (i:(List Int) × Int × Int)=>([.ref (rdC i.1 i.2.1),.d (.one (.int .i64 i.2.2))]:List AV)) i=(fun (i:(List Int) × Int × Int)=>([.ref (rdC i.1 i.2.1),.d (.one (.int .i64 i.2.2))]:List AV)) j->i=j:=by
 rintro⟨bs,p,d⟩ ⟨bs',p',d'⟩ h
 simp only[Prod.mk.injEq]
 simpa [ap,T.enc_eq,aq,F.enc_eq,ar,Tk.enc_eq,au,Gn.enc_eq,ao,dn,and_assoc] using h
theorem oL (m:Nat):(bq m).md=[true,false]:=rfl
theorem oM (m:Nat) (bs:List Int) (p:Int) (d:Int):(bq m).pre [.ref (rdC bs p),.d (.one (.int .i64 d))]=((byt bs/\0<=p/\p+fb d.toNat<=1099511627776/\-1<=d/\d<=5)/\d.toNat < m):=Spec.ofR_pre xw (bs,p,d)
theorem Wl (m:Nat) (bs:List Int) (p:Int) (d:Int):(bq m).ne [.ref (rdC bs p),.d (.one (.int .i64 d))]=(∃ k:Int × Int × ByteArray × Int × Int × ByteArray × (List ByteArray) × (List T) × (List Pw.F) × Int,drF (fb d.toNat) (Pw.F.mk k.1 k.2.1 k.2.2.1 (.mk k.2.2.2.1 k.2.2.2.2.1 k.2.2.2.2.2.1 k.2.2.2.2.2.2.1 k.2.2.2.2.2.2.2.1) k.2.2.2.2.2.2.2.2.1)/\p<=k.2.2.2.2.2.2.2.2.2/\k.2.2.2.2.2.2.2.2.2<=p+fb d.toNat):=Spec.ofR_ne xw (bs,p,d)
theorem gE (m:Nat) (bs:List Int) (p:Int) (d:Int) (F:List AV->List AV->Prop):(bq m).all [.ref (rdC bs p),.d (.one (.int .i64 d))] F=(∀ (k:Int) (n:Int) (s:ByteArray) (vk:Int) (vn:Int) (vs:ByteArray) (vks:List ByteArray) (vl:List T) (l:List Pw.F) (q:Int),(drF (fb d.toNat) (Pw.F.mk k n s (.mk vk vn vs vks vl) l)/\p<=q/\q<=p+fb d.toNat)->F [.d (.agg (Pw.F.mk k n s (.mk vk vn vs vks vl) l).enc)] [.ref (rdC bs q),.gone]):=by
 refine (Spec.ofR_all xw (bs,p,d) F).trans (propext ⟨fun h k n s vk vn vs vks vl l q hr=>h (k,n,s,vk,vn,vs,vks,vl,l,q) hr,fun h k hr=>?_⟩)
 exact h k.1 k.2.1 k.2.2.1 k.2.2.2.1 k.2.2.2.2.1 k.2.2.2.2.2.1 k.2.2.2.2.2.2.1 k.2.2.2.2.2.2.2.1 k.2.2.2.2.2.2.2.2.1 k.2.2.2.2.2.2.2.2.2 hr
theorem oN (m:Nat) (bs:List Int) (p d:Int):(bq m).ne [.ref (rdC bs p),.d (.one (.int .i64 d))]=True:=by
 rw[Wl]
 have:=kU d.toNat
 exact eq_true ⟨(0,0,⟨#[]⟩,0,0,⟨#[]⟩,[],[],[],p),(gD (k:=0) (n:=0) (s:=⟨#[]⟩) (by unfold i64;omega) (by unfold i64;omega) (by decide)).mono (by omega),Int.le_refl _,by show p<=p+fb d.toNat;omega⟩
theorem Wm {a b:F} {A B m k n:Int} {s:ByteArray} (ha:drF A a) (hb:drF B b) (hk:i64 k) (hn:i64 n/\-1000<=n/\n<=1000) (hs:(s.size:Int)<=1000) (hm:1+(A+B)<=m):drF m (.mk k n s (.mk 0 0 ⟨#[]⟩ [] []) [a,b]) :=
 nc hk hn hs cU.1 (by have:=cU.2;show aA T.zero<=_;omega) (by simp) ⟨ha.1,hb.1,trivial⟩ (by simp only[bM];exact⟨ha.2.1,hb.2.1,trivial⟩) (by have:=ha.2.2;have:=hb.2.2;simp only[aD];omega)
theorem Wn {a b c:F} {A B D m k n:Int} {s:ByteArray} (ha:drF A a) (hb:drF B b) (hc:drF D c) (hk:i64 k) (hn:i64 n/\-1000<=n/\n<=1000) (hs:(s.size:Int)<=1000) (hm:1+(A+B+D)<=m):drF m (.mk k n s (.mk 0 0 ⟨#[]⟩ [] []) [a,b,c]) :=
 nc hk hn hs cU.1 (by have:=cU.2;show aA T.zero<=_;omega) (by simp) ⟨ha.1,hb.1,hc.1,trivial⟩ (by simp only[bM];exact⟨ha.2.1,hb.2.1,hc.2.1,trivial⟩) (by have:=ha.2.2;have:=hb.2.2;have:=hc.2.2;simp only[aD];omega)
set_option maxHeartbeats 4000000 in
theorem Wo (m:Nat) (hL:Sound Tryz.prog 91 (bq m)) (hF:Sound Tryz.prog 69 (bq m)):Sound Tryz.prog 91 (bq (m+1)):=by
 refine ec (GOK.cons (l:=[(39,spDof),(41,spDnum),(91,bq m),(69,bq m)]) fx fy (GOK.cons (l:=[(41,spDnum),(91,bq m),(69,bq m)]) my mA (GOK.cons (l:=[(91,bq m),(69,bq m)]) mz mB (GOK.cons (l:=[(69,bq m)]) GX hL (GOK.cons xq hF GOK.nil))))) Tryz.func91 (c:=Tryz.f91.body.getD .skip) rfl (n:=71) rfl We Wf (fun _=>by simp) ?_
 ·rintro⟨bs,p,d⟩ ⟨⟨hb,h1,h2,h3,h4⟩,h5⟩
  change byt bs at hb
  simp only at h1 h2 h3 h4 h5
  have hv:=kU d.toNat
  by_cases c1:d<=1
  ·have a1:(d<=1)=True:=eq_true c1
   simp only[xo,rg,go_sem,seval,Prod.fst,a1,oz,qS,de,df,dg,↓bo,bo,kv,kw,kz,↓dS,dS,kC,kD,kE,↓dT,dT]
   repeat' (first|with_reducible assumption|with_reducible refine And.intro ?_ ?_|intro _)
   all_goals first|omega|skip
   all_goals first
    | exact dU (vks:=[]) (vl:=[]) (l:=[]) rfl rfl rfl (gD (by unfold i64;omega) (by unfold i64;omega) (by decide)) (by omega) (by omega)
    | (rename_i hx
       simp only[List.mem_cons,List.not_mem_nil,or_false] at hx
       exact dU (vks:=[]) (vl:=[]) (l:=[]) rfl rfl rfl (gD (by unfold i64;omega) (by unfold i64;omega) (by first|decide|(rcases hx with rfl|rfl|rfl <;> decide))) (by omega) (by omega))
    | skip
  ·have a1:(d<=1)=False:=eq_false c1
   obtain⟨e,he⟩:∃ e,d.toNat=e+1:=⟨d.toNat-1,by omega⟩
   have he':(d-1).toNat=e:=by omega
   have hfd:fb d.toNat=1100+3*fb e:=by rw[he];rfl
   have hv2:=kU e
   rw[hfd] at h2 hv
   rw[he] at h5
   simp only[xo,rg,go_sem,seval,Prod.fst,a1,oz,qS,F.enc_len,de,df,dg,↓bo,bo,kv,kw,kz,↓dS,dS,kC,kD,kE,↓dT,dT,oL,oM,oN,↓gE,gE,he']
   rw[hfd]
   repeat' (first|with_reducible assumption|with_reducible refine And.intro ?_ ?_|intro _)
   all_goals first|omega|skip
   all_goals first
    | exact dU (vks:=[]) (vl:=[]) (l:=[]) rfl rfl rfl (gD (by unfold i64;omega) (by unfold i64;omega) (by decide)) (by omega) (by omega)
    | (rename_i hx
       simp only[List.mem_cons,List.not_mem_nil,or_false] at hx
       exact dU (vks:=[]) (vl:=[]) (l:=[]) rfl rfl rfl (gD (by unfold i64;omega) (by unfold i64;omega) (by first|decide|(rcases hx with rfl|rfl|rfl <;> decide))) (by omega) (by omega))
    | skip
   all_goals first
    | (rename_i hd0 _ _ _ _ _ _ _ _ _ _ _ hd1 _ _ _ _ _ _ _ _ _ _ _ hd2
       exact dU (vks:=[]) (vl:=[]) (l:=[_,_,_]) rfl rfl rfl (Wn hd0.1 hd1.1 hd2.1 (by unfold i64;omega) (by unfold i64;omega) (by decide) (by omega)) (Int.le_refl _) (by omega))
    | (rename_i hd1 _ _ _ _ _ _ _ _ _ _ _ hd2
       exact dU (vks:=[]) (vl:=[]) (l:=[_,_]) rfl rfl rfl (Wm hd1.1 hd2.1 (by unfold i64;omega) (by unfold i64;omega) (by decide) (by omega)) (Int.le_refl _) (by omega))
set_option maxHeartbeats 4000000 in
theorem Wp (m:Nat) (hL:Sound Tryz.prog 91 (bq m)) (hF:Sound Tryz.prog 69 (bq m)):Sound Tryz.prog 69 (bq (m+1)):=by
 refine ec (GOK.cons (l:=[(39,spDof),(41,spDnum),(46,ie),(70,spLeafF),(91,bq m),(69,bq m)]) fx fy (GOK.cons (l:=[(41,spDnum),(46,ie),(70,spLeafF),(91,bq m),(69,bq m)]) my mA (GOK.cons (l:=[(46,ie),(70,spLeafF),(91,bq m),(69,bq m)]) mz mB (GOK.cons (l:=[(70,spLeafF),(91,bq m),(69,bq m)]) Ft Fw (GOK.cons (l:=[(91,bq m),(69,bq m)]) GW GY (GOK.cons (l:=[(69,bq m)]) GX hL (GOK.cons xq hF GOK.nil))))))) Tryz.func69 (c:=Tryz.f69.body.getD .skip) rfl (n:=60) rfl Wg Wh (fun _=>by simp) ?_
 ·rintro⟨bs,p,d⟩ ⟨⟨hb,h1,h2,h3,h4⟩,h5⟩
  change byt bs at hb
  simp only at h1 h2 h3 h4 h5
  have hv:=kU d.toNat
  by_cases c1:d<=1
  ·have a1:(d<=1)=True:=eq_true c1
   simp only[xp,rg,go_sem,seval,Prod.fst,a1,F.enc_len,de,df,dg,↓bo,bo,xt,xu,xv,↓nh,nh]
   repeat' (first|with_reducible assumption|with_reducible refine And.intro ?_ ?_|intro _)
   all_goals first|omega|skip
   rename_i k n s vk vn vs vks vl l q hd
   exact⟨(k,n,s,vk,vn,vs,vks,vl,l,q),⟨hd.1.mono (by omega),hd.2.1,by show q<=p+fb d.toNat;omega⟩,rfl,rfl⟩
  ·have a1:(d<=1)=False:=eq_false c1
   obtain⟨e,he⟩:∃ e,d.toNat=e+1:=⟨d.toNat-1,by omega⟩
   have he':(d-1).toNat=e:=by omega
   have hfd:fb d.toNat=1100+3*fb e:=by rw[he];rfl
   have hv2:=kU e
   rw[hfd] at h2 hv
   rw[he] at h5
   simp only[xp,rg,go_sem,seval,Prod.fst,a1,F.enc_len,Wj,oz,de,df,dg,↓bo,bo,xt,xu,xv,↓nh,nh,kv,kw,kz,↓dS,dS,kC,kD,kE,↓dT,dT]
   rw[hfd]
   repeat' (first|with_reducible assumption|with_reducible refine And.intro ?_ ?_|intro _)
   all_goals first|omega|skip
   ·rename_i k n s vk vn vs vks vl l q hd
    exact dU rfl rfl rfl hd.1 (by omega) (by omega)
   ·rename_i kk hk hk21 s0 hs
    simp only[List.mem_cons,List.not_mem_nil,or_false] at hk
    have hK:1<=aP kk/\aP kk<=3/\i64 kk:=by
     rcases hk with rfl|rfl|rfl|rfl|rfl|rfl|rfl|rfl|rfl|rfl|rfl|rfl|rfl|rfl|rfl|rfl <;> (refine⟨?_,?_,?_⟩ <;> first|decide|(unfold i64;omega))
    simp only[List.mem_cons,List.not_mem_nil,or_false] at hs
    have hsz:(s0.size:Int)<=1000:=by rcases hs with rfl|rfl|rfl <;> decide
    refine aZ (ι:=Nat × Int × List Pw.F) (fun i=>4-i.1)
     (fun i=>(i.1:Int)<=aP kk/\p+2<=i.2.1/\i.2.1<=p+10+i.1*fb e/\i.2.2.length=i.1/\bu 1000 i.2.2/\bM i.2.2/\aD i.2.2<=i.1*fb e)
     (fun i=>⟨[(0,.q (.box 60 0)),(1,.q (.c (.int .i64 d))),(4,.q (.box 4 0)),(5,.q (.box 5 0)),(6,.q (.c (.int .i64 i.1)))],
      [(60,(rdC bs i.2.1).map .c),(4,[.c (.int .i64 0),.c (.int .i64 0),.c (.str ⟨#[]⟩),.c (.int .i64 0),.c (.int .i64 0),.c (.str ⟨#[]⟩),.z 1,.z 5,.z 9]),(5,[.c (.int .i64 kk),.c (.int .i64 0),.c (.str s0),.c (.int .i64 0),.c (.int .i64 0),.c (.str ⟨#[]⟩),.z 1,.z 5,.own 48])],
      [(48,9,aB i.2.2)]⟩) (0,p+1+1+1,[]) ⟨by show ((0:Nat):Int)<=_;omega,by show p+2<=p+1+1+1;omega,by show p+1+1+1<=p+10+((0:Nat):Int)*fb e;simp;omega,by simp,trivial,by simp[bM],by simp[aD]⟩ ?_ ?_
    ·refine (Le.ownB (b:=5) (j:=8) (d:=48) (sz:=9) (qs:=[.c (.int .i64 kk),.c (.int .i64 0),.c (.str s0),.c (.int .i64 0),.c (.int .i64 0),.c (.str ⟨#[]⟩),.z 1,.z 5,.z 9]) (by decide) (by simp) rfl (by simp[Q.killO,rdC]) (by simp[PV.map,Q.killO])).trans (Le.of_eq ?_)
     simp[upd,del,aB]
    ·rintro⟨i,q,l⟩ ⟨g1,g2,g3,g4,g5,g6,g7⟩
     simp only at g1 g2 g3 g4 g5 g6 g7
     rcases Int.lt_or_le (i:Int) (aP kk) with hlt|hge
     ·have b1:((i:Int) < aP kk)=True:=eq_true hlt
      have b4:(i:Int)*fb e<=2*fb e:=Int.mul_le_mul_of_nonneg_right (by omega) (by omega)
      have b5:((i+1:Nat):Int)*fb e=i*fb e+fb e:=by rw[Int.natCast_add,Int.add_mul];simp
      have key:∀ (t:F) (q':Int),drF (fb e) t/\q<=q'/\q'<=q+fb e->(((i+1:Nat):Int)<=aP kk/\p+2<=q'/\q'<=p+10+((i+1:Nat):Int)*fb e/\(l++[t]).length=i+1/\bu 1000 (l++[t])/\bM (l++[t])/\aD (l++[t])<=((i+1:Nat):Int)*fb e):=fun t q' ht=>by
       have z:=ht.1.2.2
       refine⟨by omega,by omega,by omega,by simp;omega,Gy g5 ⟨ht.1.1,trivial⟩,Gz g6 (by simp only[bM];exact⟨ht.1.2.1,trivial⟩),?_⟩
       rw[GA];simp only[aD];omega
      by_cases c20:kk=20
      ·exact absurd c20 (by omega)
      ·have b2:(kk=20)=False:=eq_false c20
       simp only[rg,go_sem,seval,Prod.fst,b1,b2,bC,F.enc_len,kL,kM,kN,kO,kP,oL,oM,oN,↓gE,gE,he']
       repeat' (first|with_reducible assumption|with_reducible refine And.intro ?_ ?_|intro _)
       all_goals first|omega|skip
       rename_i k n s vk vn vs vks vl l' q' hd _ _
       refine⟨(i+1,q',l++[.mk k n s (.mk vk vn vs vks vl) l']),key _ _ hd,by show 4-(i+1) < 4-i;omega,Le.of_eq (by simp[oG,aB])⟩
     ·have b1:((i:Int) < aP kk)=False:=eq_false (by omega)
      have b4:(i:Int)*fb e<=3*fb e:=Int.mul_le_mul_of_nonneg_right (by omega) (by omega)
      simp only[rg,go_sem,seval,Prod.fst,b1,kL,kM,kN,kO,kP]
      repeat' (first|with_reducible assumption|with_reducible refine And.intro ?_ ?_|intro _)
      all_goals first|omega|skip
      exact dU (vks:=[]) (vl:=[]) rfl rfl rfl (nc hK.2.2 (by unfold i64;omega) (hsz) cU.1 (by have:=cU.2;show aA T.zero<=_;omega) (by omega) g5 g6 (Int.le_refl _)) (by omega) (by omega)
   ·rename_i kk hk hk21
    simp only[List.mem_cons,List.not_mem_nil,or_false] at hk
    have hK:1<=aP kk/\aP kk<=3/\i64 kk:=by
     rcases hk with rfl|rfl|rfl|rfl|rfl|rfl|rfl|rfl|rfl|rfl|rfl|rfl|rfl|rfl|rfl|rfl <;> (refine⟨?_,?_,?_⟩ <;> first|decide|(unfold i64;omega))
    refine aZ (ι:=Nat × Int × List Pw.F) (fun i=>4-i.1)
     (fun i=>(i.1:Int)<=aP kk/\p+2<=i.2.1/\i.2.1<=p+10+i.1*fb e/\i.2.2.length=i.1/\bu 1000 i.2.2/\bM i.2.2/\aD i.2.2<=i.1*fb e)
     (fun i=>⟨[(0,.q (.box 60 0)),(1,.q (.c (.int .i64 d))),(4,.q (.box 4 0)),(5,.q (.box 5 0)),(6,.q (.c (.int .i64 i.1)))],
      [(60,(rdC bs i.2.1).map .c),(4,[.c (.int .i64 0),.c (.int .i64 0),.c (.str ⟨#[]⟩),.c (.int .i64 0),.c (.int .i64 0),.c (.str ⟨#[]⟩),.z 1,.z 5,.z 9]),(5,[.c (.int .i64 kk),.c (.int .i64 0),.c (.str ⟨#[]⟩),.c (.int .i64 0),.c (.int .i64 0),.c (.str ⟨#[]⟩),.z 1,.z 5,.own 48])],
      [(48,9,aB i.2.2)]⟩) (0,p+1+1,[]) ⟨by show ((0:Nat):Int)<=_;omega,by show p+2<=p+1+1;omega,by show p+1+1<=p+10+((0:Nat):Int)*fb e;simp;omega,by simp,trivial,by simp[bM],by simp[aD]⟩ ?_ ?_
    ·refine (Le.ownB (b:=5) (j:=8) (d:=48) (sz:=9) (qs:=[.c (.int .i64 kk),.c (.int .i64 0),.c (.str ⟨#[]⟩),.c (.int .i64 0),.c (.int .i64 0),.c (.str ⟨#[]⟩),.z 1,.z 5,.z 9]) (by decide) (by simp) rfl (by simp[Q.killO,rdC]) (by simp[PV.map,Q.killO])).trans (Le.of_eq ?_)
     simp[upd,del,aB]
    ·rintro⟨i,q,l⟩ ⟨g1,g2,g3,g4,g5,g6,g7⟩
     simp only at g1 g2 g3 g4 g5 g6 g7
     rcases Int.lt_or_le (i:Int) (aP kk) with hlt|hge
     ·have b1:((i:Int) < aP kk)=True:=eq_true hlt
      have b4:(i:Int)*fb e<=2*fb e:=Int.mul_le_mul_of_nonneg_right (by omega) (by omega)
      have b5:((i+1:Nat):Int)*fb e=i*fb e+fb e:=by rw[Int.natCast_add,Int.add_mul];simp
      have key:∀ (t:F) (q':Int),drF (fb e) t/\q<=q'/\q'<=q+fb e->(((i+1:Nat):Int)<=aP kk/\p+2<=q'/\q'<=p+10+((i+1:Nat):Int)*fb e/\(l++[t]).length=i+1/\bu 1000 (l++[t])/\bM (l++[t])/\aD (l++[t])<=((i+1:Nat):Int)*fb e):=fun t q' ht=>by
       have z:=ht.1.2.2
       refine⟨by omega,by omega,by omega,by simp;omega,Gy g5 ⟨ht.1.1,trivial⟩,Gz g6 (by simp only[bM];exact⟨ht.1.2.1,trivial⟩),?_⟩
       rw[GA];simp only[aD];omega
      by_cases c20:kk=20
      ·have b2:(kk=20)=True:=eq_true c20
       by_cases ci:(i:Int)=0
       ·have b3:((i:Int)=0)=True:=eq_true ci
        simp only[rg,go_sem,seval,Prod.fst,b1,b2,b3,bC,F.enc_len,kL,kM,kN,kO,kP,oL,oM,oN,↓gE,gE,he']
        repeat' (first|with_reducible assumption|with_reducible refine And.intro ?_ ?_|intro _)
        all_goals first|omega|skip
        rename_i k n s vk vn vs vks vl l' q' hd _ _
        refine⟨(i+1,q',l++[.mk k n s (.mk vk vn vs vks vl) l']),key _ _ hd,by show 4-(i+1) < 4-i;omega,Le.of_eq (by simp[oG,aB])⟩
       ·have b3:((i:Int)=0)=False:=eq_false ci
        simp only[rg,go_sem,seval,Prod.fst,b1,b2,b3,bC,F.enc_len,kL,kM,kN,kO,kP,oL,oM,oN,↓gE,gE,he']
        repeat' (first|with_reducible assumption|with_reducible refine And.intro ?_ ?_|intro _)
        all_goals first|omega|skip
        rename_i k n s vk vn vs vks vl l' q' hd _ _
        refine⟨(i+1,q',l++[.mk k n s (.mk vk vn vs vks vl) l']),key _ _ hd,by show 4-(i+1) < 4-i;omega,Le.of_eq (by simp[oG,aB])⟩
      ·have b2:(kk=20)=False:=eq_false c20
       simp only[rg,go_sem,seval,Prod.fst,b1,b2,bC,F.enc_len,kL,kM,kN,kO,kP,oL,oM,oN,↓gE,gE,he']
       repeat' (first|with_reducible assumption|with_reducible refine And.intro ?_ ?_|intro _)
       all_goals first|omega|skip
       rename_i k n s vk vn vs vks vl l' q' hd _ _
       refine⟨(i+1,q',l++[.mk k n s (.mk vk vn vs vks vl) l']),key _ _ hd,by show 4-(i+1) < 4-i;omega,Le.of_eq (by simp[oG,aB])⟩
     ·have b1:((i:Int) < aP kk)=False:=eq_false (by omega)
      have b4:(i:Int)*fb e<=3*fb e:=Int.mul_le_mul_of_nonneg_right (by omega) (by omega)
      simp only[rg,go_sem,seval,Prod.fst,b1,kL,kM,kN,kO,kP]
      repeat' (first|with_reducible assumption|with_reducible refine And.intro ?_ ?_|intro _)
      all_goals first|omega|skip
      exact dU (vks:=[]) (vl:=[]) rfl rfl rfl (nc hK.2.2 (by unfold i64;omega) (by decide) cU.1 (by have:=cU.2;show aA T.zero<=_;omega) (by omega) g5 g6 (Int.le_refl _)) (by omega) (by omega)
theorem Wq:∀ m,Sound Tryz.prog 91 (bq m)/\Sound Tryz.prog 69 (bq m):=fun m=>by
 induction m with
 | zero=>exact⟨Sound.noneR,Sound.noneR⟩
 | succ k ih=>exact⟨Wo k ih.1 ih.2,Wp k ih.1 ih.2⟩
def spFiltF :Spec:=Spec.ofR (ι:=(List Int) × Int × Int) (κ:=Int × Int × ByteArray × Int × Int × ByteArray × (List ByteArray) × (List T) × (List Pw.F) × Int) [true,false] (fun i=>[.ref (rdC i.1 i.2.1),.d (.one (.int .i64 i.2.2))]) (fun i=>byt i.1/\0<=i.2.1/\i.2.1+fb i.2.2.toNat<=1099511627776/\-1<=i.2.2/\i.2.2<=5) (fun i k=>drF (fb i.2.2.toNat) (Pw.F.mk k.1 k.2.1 k.2.2.1 (.mk k.2.2.2.1 k.2.2.2.2.1 k.2.2.2.2.2.1 k.2.2.2.2.2.2.1 k.2.2.2.2.2.2.2.1) k.2.2.2.2.2.2.2.2.1)/\i.2.1<=k.2.2.2.2.2.2.2.2.2/\k.2.2.2.2.2.2.2.2.2<=i.2.1+fb i.2.2.toNat) (fun i k=>[.d (.agg (Pw.F.mk k.1 k.2.1 k.2.2.1 (.mk k.2.2.2.1 k.2.2.2.2.1 k.2.2.2.2.2.1 k.2.2.2.2.2.2.1 k.2.2.2.2.2.2.2.1) k.2.2.2.2.2.2.2.2.1).enc)]) (fun i k=>[.ref (rdC i.1 k.2.2.2.2.2.2.2.2.2),.gone])
theorem xx:∀ i j:(List Int) × Int × Int,(fun (i:(List Int) × Int × Int)=>([.ref (rdC i.1 i.2.1),.d (.one (.int .i64 i.2.2))]:List AV)) i=(fun (i:(List Int) × Int × Int)=>([.ref (rdC i.1 i.2.1),.d (.one (.int .i64 i.2.2))]:List AV)) j->i=j:=by
 rintro⟨bs,p,d⟩ ⟨bs',p',d'⟩ h
 simp only[Prod.mk.injEq]
 simpa [ap,T.enc_eq,aq,F.enc_eq,ar,Tk.enc_eq,au,Gn.enc_eq,ao,dn,and_assoc] using h
theorem Wr :(spFiltF).md=[true,false]:=rfl
theorem Ws  (bs:List Int) (p:Int) (d:Int):(spFiltF).pre [.ref (rdC bs p),.d (.one (.int .i64 d))]=(byt bs/\0<=p/\p+fb d.toNat<=1099511627776/\-1<=d/\d<=5):=Spec.ofR_pre xx (bs,p,d)
theorem Wt  (bs:List Int) (p:Int) (d:Int):(spFiltF).ne [.ref (rdC bs p),.d (.one (.int .i64 d))]=(∃ k:Int × Int × ByteArray × Int × Int × ByteArray × (List ByteArray) × (List T) × (List Pw.F) × Int,drF (fb d.toNat) (Pw.F.mk k.1 k.2.1 k.2.2.1 (.mk k.2.2.2.1 k.2.2.2.2.1 k.2.2.2.2.2.1 k.2.2.2.2.2.2.1 k.2.2.2.2.2.2.2.1) k.2.2.2.2.2.2.2.2.1)/\p<=k.2.2.2.2.2.2.2.2.2/\k.2.2.2.2.2.2.2.2.2<=p+fb d.toNat):=Spec.ofR_ne xx (bs,p,d)
theorem GZ  (bs:List Int) (p:Int) (d:Int) (F:List AV->List AV->Prop):(spFiltF).all [.ref (rdC bs p),.d (.one (.int .i64 d))] F=(∀ (k:Int) (n:Int) (s:ByteArray) (vk:Int) (vn:Int) (vs:ByteArray) (vks:List ByteArray) (vl:List T) (l:List Pw.F) (q:Int),(drF (fb d.toNat) (Pw.F.mk k n s (.mk vk vn vs vks vl) l)/\p<=q/\q<=p+fb d.toNat)->F [.d (.agg (Pw.F.mk k n s (.mk vk vn vs vks vl) l).enc)] [.ref (rdC bs q),.gone]):=by
 refine (Spec.ofR_all xx (bs,p,d) F).trans (propext ⟨fun h k n s vk vn vs vks vl l q hr=>h (k,n,s,vk,vn,vs,vks,vl,l,q) hr,fun h k hr=>?_⟩)
 exact h k.1 k.2.1 k.2.2.1 k.2.2.2.1 k.2.2.2.2.1 k.2.2.2.2.2.1 k.2.2.2.2.2.2.1 k.2.2.2.2.2.2.2.1 k.2.2.2.2.2.2.2.2.1 k.2.2.2.2.2.2.2.2.2 hr
theorem Wu (bs:List Int) (p d:Int):spFiltF.ne [.ref (rdC bs p),.d (.one (.int .i64 d))]=True:=by
 rw[Wt]
 have:=kU d.toNat
 exact eq_true ⟨(0,0,⟨#[]⟩,0,0,⟨#[]⟩,[],[],[],p),(gD (k:=0) (n:=0) (s:=⟨#[]⟩) (by unfold i64;omega) (by unfold i64;omega) (by decide)).mono (by omega),Int.le_refl _,by show p<=p+fb d.toNat;omega⟩
theorem Wv:Sound Tryz.prog 69 spFiltF:=Sound.allR (fun i=>i.2.2.toNat) (fun k=>(Wq k).2)
def spSomeF :Spec:=Spec.ofR (ι:=(List Int) × Int) (κ:=Int × Int × ByteArray × Int × Int × ByteArray × (List ByteArray) × (List T) × (List Pw.F) × Int) [true] (fun i=>[.ref (rdC i.1 i.2)]) (fun i=>byt i.1/\0<=i.2/\i.2+150000<=1099511627776) (fun i k=>drF 140000 (Pw.F.mk k.1 k.2.1 k.2.2.1 (.mk k.2.2.2.1 k.2.2.2.2.1 k.2.2.2.2.2.1 k.2.2.2.2.2.2.1 k.2.2.2.2.2.2.2.1) k.2.2.2.2.2.2.2.2.1)/\i.2<=k.2.2.2.2.2.2.2.2.2/\k.2.2.2.2.2.2.2.2.2<=i.2+150000) (fun i k=>[.d (.agg (Pw.F.mk k.1 k.2.1 k.2.2.1 (.mk k.2.2.2.1 k.2.2.2.2.1 k.2.2.2.2.2.1 k.2.2.2.2.2.2.1 k.2.2.2.2.2.2.2.1) k.2.2.2.2.2.2.2.2.1).enc)]) (fun i k=>[.ref (rdC i.1 k.2.2.2.2.2.2.2.2.2)])
theorem xz:∀ i j:(List Int) × Int,(fun (i:(List Int) × Int)=>([.ref (rdC i.1 i.2)]:List AV)) i=(fun (i:(List Int) × Int)=>([.ref (rdC i.1 i.2)]:List AV)) j->i=j:=by
 rintro⟨bs,p⟩ ⟨bs',p'⟩ h
 simp only[Prod.mk.injEq]
 simpa [ap,T.enc_eq,aq,F.enc_eq,ar,Tk.enc_eq,au,Gn.enc_eq,ao,dn,and_assoc] using h
theorem Ww :(spSomeF).md=[true]:=rfl
theorem Wx  (bs:List Int) (p:Int):(spSomeF).pre [.ref (rdC bs p)]=(byt bs/\0<=p/\p+150000<=1099511627776):=Spec.ofR_pre xz (bs,p)
theorem Wy  (bs:List Int) (p:Int):(spSomeF).ne [.ref (rdC bs p)]=(∃ k:Int × Int × ByteArray × Int × Int × ByteArray × (List ByteArray) × (List T) × (List Pw.F) × Int,drF 140000 (Pw.F.mk k.1 k.2.1 k.2.2.1 (.mk k.2.2.2.1 k.2.2.2.2.1 k.2.2.2.2.2.1 k.2.2.2.2.2.2.1 k.2.2.2.2.2.2.2.1) k.2.2.2.2.2.2.2.2.1)/\p<=k.2.2.2.2.2.2.2.2.2/\k.2.2.2.2.2.2.2.2.2<=p+150000):=Spec.ofR_ne xz (bs,p)
theorem Ha  (bs:List Int) (p:Int) (F:List AV->List AV->Prop):(spSomeF).all [.ref (rdC bs p)] F=(∀ (k:Int) (n:Int) (s:ByteArray) (vk:Int) (vn:Int) (vs:ByteArray) (vks:List ByteArray) (vl:List T) (l:List Pw.F) (q:Int),(drF 140000 (Pw.F.mk k n s (.mk vk vn vs vks vl) l)/\p<=q/\q<=p+150000)->F [.d (.agg (Pw.F.mk k n s (.mk vk vn vs vks vl) l).enc)] [.ref (rdC bs q)]):=by
 refine (Spec.ofR_all xz (bs,p) F).trans (propext ⟨fun h k n s vk vn vs vks vl l q hr=>h (k,n,s,vk,vn,vs,vks,vl,l,q) hr,fun h k hr=>?_⟩)
 exact h k.1 k.2.1 k.2.2.1 k.2.2.2.1 k.2.2.2.2.1 k.2.2.2.2.2.1 k.2.2.2.2.2.2.1 k.2.2.2.2.2.2.2.1 k.2.2.2.2.2.2.2.2.1 k.2.2.2.2.2.2.2.2.2 hr
theorem Wz (bs:List Int) (p:Int):spSomeF.ne [.ref (rdC bs p)]=True:=by
 rw[Wy]
 exact eq_true ⟨(0,0,⟨#[]⟩,0,0,⟨#[]⟩,[],[],[],p),(gD (k:=0) (n:=0) (s:=⟨#[]⟩) (by unfold i64;omega) (by unfold i64;omega) (by decide)).mono (by omega),Int.le_refl _,by show p<=p+150000;omega⟩
end Go.Proofs.Pw
