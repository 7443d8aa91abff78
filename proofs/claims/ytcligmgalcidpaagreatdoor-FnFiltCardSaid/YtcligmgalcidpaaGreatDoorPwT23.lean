/- Filters read from texts, in the reference: heads. -/
import Derived.Test.YtcligmgalcidpaaGreatDoorPwT22
import Derived.Test.YtcligmgalcidpaaGreatDoorPwT19
import Derived.Test.YtcligmgalcidpaaGreatDoorPwT20
set_option linter.unusedSimpArgs false
set_option linter.unusedVariables false
set_option linter.unusedSectionVars false
set_option maxRecDepth 20000
namespace Go.Proofs.Pw
variable [Globs]
def Jv:X:=(.seq (.reg [xS 2 (.alloc xF),xS 3 (.mv (.k (.c (.bool false))))] none [0,2]) (.seq (.seq (.reg [xS 4 (.mv (xK 1))] none [0,2,4]) (.block 0 (.loop (.seq (.seq (.reg [xM 10 4,xS 11 (.bin false .leq (.t 10) (xK 21))] none [0,2,4,11]) (.cond (.t 11) .skip (.exit 0))) (.seq (.block 1 (.seq (.reg [xS 14 (.call 76 []),xM 15 4,xS 16 (.ia (.t 14) (.t 15) 1),xL 17 16,xS 18 (.bin false .neq (.t 17) (.k (.c (.str ⟨#[]⟩)))),xM 19 18,xG 20 19 (.call 76 []),xG 21 19 (.mv (.t 4)),xG 22 19 (.ia (.t 20) (.t 21) 1),xG 23 19 (.load (.t 22) none),xG 24 19 (.mv (.t 0)),xG 25 19 (.bin false .eql (.t 23) (.t 24)),xS 26 (.pick (.t 19) (.t 25) (.k (.c (.bool false))))] none [0,2,4,26]) (.cond (.t 26) (.seq (.reg [xM 27 4,xS 28 (.build xF [(0,(.t 27),none)]),xW 2 28 9,xS 3 (.mv (.k (.c (.bool true))))] none [2,3]) .ret) .skip))) (.reg [xM 12 4,xS 13 (.bin false .add (.t 12) (xK 1)),xM 4 13] none [0,2,4])))))) (.seq (.reg [xM 29 0,xS 30 (.len (.t 29) true),xM 5 30] none [0,2,5]) (.seq (.block 2 (.seq (.reg [xM 32 5,xS 33 (.bin false .gtr (.t 32) (xK 0)),xM 34 33,xG 35 34 (.mv (.t 0)),xG 36 34 (.idx (.t 35) (xK 0)),xG 37 34 (.bin false .eql (.t 36) (.k (.c (.int .u8 61)))),xS 38 (.pick (.t 34) (.t 37) (.k (.c (.bool false)))),xM 31 38] none [0,2,5,31]) (.cond (.t 31) (.seq (.reg [xM 40 0,xS 41 (.sub (.t 40) (some (xK 1)) none 0),xS 42 (.call 89 [(.t 41)]),xM 39 42,xS 43 (.ext (.t 39) 0),xS 44 (.ext (.t 39) 1),xS 6 (.alloc xV),xW 6 43 5,xM 7 44] none [2,6,7]) (.seq (.reg [xS 45 (.load (.t 6) (some 5)),xS 46 (.build xF [(0,(xK 2),none),(3,(.t 45),(some 5))]),xM 47 7,xW 2 46 9,xM 3 47] none [2,3]) .ret)) (.seq (.reg [xM 49 5,xS 50 (.bin false .gtr (.t 49) (xK 1)),xM 51 50,xG 52 51 (.mv (.t 0)),xG 53 51 (.idx (.t 52) (xK 0)),xG 54 51 (.bin false .eql (.t 53) (.k (.c (.int .u8 46)))),xS 55 (.pick (.t 51) (.t 54) (.k (.c (.bool false)))),xM 56 55,xG 57 56 (.mv (.t 0)),xG 58 56 (.mv (.t 5)),xG 59 56 (.bin false .sub (.t 58) (xK 1)),xG 60 56 (.idx (.t 57) (.t 59)),xG 61 56 (.bin false .eql (.t 60) (.k (.c (.int .u8 58)))),xS 62 (.pick (.t 56) (.t 61) (.k (.c (.bool false)))),xM 48 62] none [0,2,5,48]) (.cond (.t 48) (.seq (.reg [xM 63 0,xM 64 5,xS 65 (.bin false .sub (.t 64) (xK 1)),xS 66 (.sub (.t 63) (some (xK 1)) (some (.t 65)) 0),xS 67 (.build xF [(0,(xK 3),none),(2,(.t 66),none)]),xW 2 67 9,xS 3 (.mv (.k (.c (.bool true))))] none [2,3]) .ret) (.seq (.reg [xM 69 5,xS 70 (.bin false .gtr (.t 69) (xK 1)),xM 71 70,xG 72 71 (.mv (.t 0)),xG 73 71 (.idx (.t 72) (xK 0)),xG 74 71 (.bin false .eql (.t 73) (.k (.c (.int .u8 91)))),xS 75 (.pick (.t 71) (.t 74) (.k (.c (.bool false)))),xM 76 75,xG 77 76 (.mv (.t 0)),xG 78 76 (.mv (.t 5)),xG 79 76 (.bin false .sub (.t 78) (xK 1)),xG 80 76 (.idx (.t 77) (.t 79)),xG 81 76 (.bin false .eql (.t 80) (.k (.c (.int .u8 93)))),xS 82 (.pick (.t 76) (.t 81) (.k (.c (.bool false)))),xM 68 82] none [0,2,5,68]) (.cond (.t 68) (.seq (.reg [xM 84 0,xM 85 5,xS 86 (.bin false .sub (.t 85) (xK 1)),xS 87 (.sub (.t 84) (some (xK 1)) (some (.t 86)) 0),xS 88 (.call 90 [(.t 87)]),xM 83 88,xS 89 (.ext (.t 83) 0),xS 90 (.ext (.t 83) 1),xM 8 89,xM 9 90] none [2,8,9]) (.seq (.reg [xM 91 8,xS 92 (.build xF [(0,(xK 4),none),(1,(.t 91),none)]),xM 93 9,xW 2 92 9,xM 3 93] none [2,3]) .ret)) (.seq (.reg [xM 95 5,xS 96 (.bin false .gtr (.t 95) (xK 4)),xM 97 96,xG 98 97 (.mv (.t 0)),xG 99 97 (.sub (.t 98) none (some (xK 5)) 0),xG 100 97 (.bin false .eql (.t 99) (.k (.c (.str ⟨#[109,97,107,101,58]⟩)))),xS 101 (.pick (.t 97) (.t 100) (.k (.c (.bool false)))),xM 94 101] none [0,2,94]) (.cond (.t 94) (.seq (.reg [xM 102 0,xS 103 (.sub (.t 102) (some (xK 5)) none 0),xS 104 (.build xF [(0,(xK 21),none),(2,(.t 103),none)]),xW 2 104 9,xS 3 (.mv (.k (.c (.bool true))))] none [2,3]) .ret) .skip))))))))) (.seq (.reg [xS 105 (.build xF []),xW 2 105 9,xS 3 (.mv (.k (.c (.bool false))))] none [2,3]) .ret)))))
theorem ZE:ao Tryz.prog 106 (Tryz.f61.body.getD .skip) Jv=true:=by kernel_rfl
theorem ZF:ap Tryz.prog Tryz.f61.results.toList [.cell 2 (some 9),.tmp 3]=true:=by kernel_rfl
theorem ZG:ax Tryz.prog 61=true:=by kernel_rfl
theorem Jw {x:ByteArray}:∀ {l:List ByteArray} {i:Nat},ba x i l=-1 ↔ x ∉ l
 | [],i=>by simp[ba]
 | y::r,i=>by
   rw[ba]
   by_cases c:x=y
   ·rw[if_pos c];subst c;simp
   ·rw[if_neg c,Jw];simp[c]
theorem Jx {w:ByteArray} {c:UInt8} {i:Nat} (h:i < w.size):(bE w i=(c.toNat:Int))=((tL w)[i]?=some c):=by
 obtain⟨x,h1,h2,_,_⟩:=eR h
 rw[h1,h2]
 exact propext ⟨fun e=>congrArg some (UInt8.toNat_inj.1 (by omega)),fun e=>by rw[Option.some.inj e]⟩
theorem ZH {w:ByteArray} (h0:¬ (w≠⟨#[]⟩/\w ∈ wtab)):hdS w=if (tL w)[0]?=some 61 then ((2,0,⟨#[]⟩,bQ (bL ((tL w).drop 1))),decide (bw (bL ((tL w).drop 1))))
 else if 1 < (tL w).length/\(tL w)[0]?=some 46/\(tL w)[(tL w).length-1]?=some 58 then ((3,0,bL (sub (tL w) 1 ((tL w).length-1)),T.zero),true)
 else if 1 < (tL w).length/\(tL w)[0]?=some 91/\(tL w)[(tL w).length-1]?=some 93 then ((4,(bN (sub (tL w) 1 ((tL w).length-1))).getD 0,⟨#[]⟩,T.zero),(bN (sub (tL w) 1 ((tL w).length-1))).isSome)
 else if 4 < (tL w).length/\(tL w).take 5=[109,97,107,101,58] then ((21,0,bL ((tL w).drop 5),T.zero),true)
 else ((0,0,⟨#[]⟩,T.zero),false):=by unfold hdS;rw[if_neg h0]
noncomputable def nZ :Spec:=Spec.of (ι:=ByteArray) [false] (fun i=>[.d (.one (.str i))]) (fun i=>aa 1000000 i.size) (fun i=>[.ag (hdP (hdS i).1),.d (.one (.bool (hdS i).2))]) (fun _=>[.gone])
theorem tK:∀ i j:ByteArray,(fun (i:ByteArray)=>([.d (.one (.str i))]:List AV)) i=(fun (i:ByteArray)=>([.d (.one (.str i))]:List AV)) j->i=j:=by
 intro w w' h
 simpa [ar,T.enc_eq,au,F.enc_eq,av,Tk.enc_eq,aw,Gn.enc_eq,aq,and_assoc] using h
theorem Jy :(nZ).md=[false]:=rfl
theorem Jz  (w:ByteArray):(nZ).pre [.d (.one (.str w))]=(aa 1000000 w.size):=Spec.of_pre' tK w
theorem JA :(nZ).alts=none:=rfl
theorem JB  (w:ByteArray):(nZ).res [.d (.one (.str w))]=[.ag (hdP (hdS w).1),.d (.one (.bool (hdS w).2))]:=Spec.of_res tK w
theorem JC  (w:ByteArray):(nZ).out [.d (.one (.str w))]=[.gone]:=Spec.of_out tK w
set_option maxHeartbeats 4000000 in
theorem ZI:Sound Tryz.prog 61 nZ:=by
 refine aL (GOK.cons (l:=[(89,iT),(90,iP)]) Iq Ix (GOK.cons (l:=[(90,iP)]) Vt Vz (GOK.cons Fq Fv GOK.nil))) Tryz.func61 (c:=Tryz.f61.body.getD .skip) rfl (n:=106) rfl ZE ZF (fun _=>by simp) ?_ ?_
 ·exact tK
 ·intro w h1
  change aa 1000000 w.size at h1
  simp only[aa] at h1
  have hl:=cI w
  have z0:T.zero.enc=[.int .i64 0,.int .i64 0,.str ⟨#[]⟩,.row 1 [],.row 5 []]:=rfl
  have z1:(0:Int).toNat=0:=rfl
  have wl:(ae wtab).length=22:=rfl
  simp only[Jv,rg,go_sem,seval,Prod.fst]
  repeat' (first|with_reducible assumption|with_reducible refine And.intro ?_ ?_|intro _)
  all_goals first|omega|skip
  refine aS (ι:=Nat) (fun i=>22-i) (fun i=>1<=i/\i<=22/\(w≠⟨#[]⟩->ba w 0 wtab=ba w i (wtab.drop i)))
   (fun i=>⟨[(0,.q (.c (.str w))),(2,.q (.box 2 0)),(4,.q (.c (.int .i64 (i:Int))))],[(2,[.c (.int .i64 0),.c (.int .i64 0),.c (.str ⟨#[]⟩),.c (.int .i64 0),.c (.int .i64 0),.c (.str ⟨#[]⟩),.z 1,.z 5,.z 9])],[]⟩) 1 ⟨by omega,by omega,fun h=>?_⟩ (Le.of_eq (by simp)) ?_
  ·show ba w 0 wtab=ba w 1 wtab.tail
   show (if w=⟨#[]⟩ then _ else _)=_
   rw[if_neg h];rfl
  rintro i ⟨g1,g2,g3⟩
  rcases Nat.lt_or_ge i 22 with hlt|hge
  ·obtain⟨x,hx,hd,hmem⟩:=aY (l:=wtab) (i:=i) hlt
   have b1:((i:Int)<=21)=True:=eq_true (by omega)
   have a1:=db hx
   rw[hd,ba] at g3
   have go:¬ (x≠⟨#[]⟩/\x=w)->w≠⟨#[]⟩->ba w 0 wtab=ba w (i+1) (wtab.drop (i+1)):=fun h hw=>by
    have:=g3 hw
    rw[if_neg (by intro e;subst e;exact h ⟨hw,rfl⟩)] at this
    exact this
   have nx:¬ (x≠⟨#[]⟩/\x=w)->∃ i':Nat,(1<=i'/\i'<=22/\(w≠⟨#[]⟩->ba w 0 wtab=ba w i' (wtab.drop i')))/\22-i' < 22-i/\i'=i+1:=fun h=>⟨i+1,⟨by omega,by omega,go h⟩,by omega,rfl⟩
   by_cases c1:x=⟨#[]⟩
   ·have b2:=eq_true c1
    simp only[rg,go_sem,seval,Prod.fst,b1,a1,c1,wl,Int.toNat_natCast,sY,ta,sZ (),tc (),td ()]
    repeat' (first|with_reducible assumption|with_reducible refine And.intro ?_ ?_|intro _)
    all_goals first|omega|skip
    obtain⟨i',h2,h3,rfl⟩:=nx (fun h=>h.1 c1)
    exact⟨i+1,h2,h3,Le.sub (by simp) (by simp) (by simp)⟩
   ·have b2:=eq_false c1
    by_cases c2:x=w
    ·have b3:=eq_true c2
     have hw:w≠⟨#[]⟩:=c2 ▸ c1
     have g4:=g3 hw
     rw[if_pos c2.symm] at g4
     have e:hdS w=((ba w 0 wtab,0,⟨#[]⟩,T.zero),true):=by unfold hdS;rw[if_pos ⟨hw,c2 ▸ hmem⟩]
     rw[g4] at e
     simp only[rg,go_sem,seval,Prod.fst,b1,a1,b2,b3,e,hdP,z0,wl,Int.toNat_natCast,sY,ta,sZ (),tc (),td ()]
     repeat' (first|with_reducible assumption|with_reducible refine And.intro ?_ ?_|intro _)
     all_goals first|omega|skip
    ·have b3:=eq_false c2
     simp only[rg,go_sem,seval,Prod.fst,b1,a1,b2,b3,wl,Int.toNat_natCast,sY,ta,sZ (),tc (),td ()]
     repeat' (first|with_reducible assumption|with_reducible refine And.intro ?_ ?_|intro _)
     all_goals first|omega|skip
     obtain⟨i',h2,h3,rfl⟩:=nx (fun h=>c2 h.2)
     exact⟨i+1,h2,h3,Le.sub (by simp) (by simp) (by simp)⟩
  ·obtain rfl:i=22:=by omega
   have hno:¬ (w≠⟨#[]⟩/\w ∈ wtab):=fun h=>(Jw.1 (show ba w 0 wtab=-1 by rw[g3 h.1];rfl)) h.2
   have b21:(((22:Nat):Int)<=21)=False:=eq_false (by omega)
   have eH:=ZH hno
   have i0:∀ c:UInt8,0 < w.size->(bE w 0=(c.toNat:Int))=((tL w)[0]?=some c):=fun c h=>Jx h
   have iL:∀ c:UInt8,0 < w.size->(bE w ((w.size:Int)-1).toNat=(c.toNat:Int))=((tL w)[(tL w).length-1]?=some c):=fun c h=>by
    rw[show ((w.size:Int)-1).toNat=w.size-1 by omega,hl];exact Jx (by omega)
   have e5:((w.size:Int)-1).toNat=w.size-1:=by omega
   have sub_eq:w.extract 1 (w.size-1)=bL (sub (tL w) 1 ((tL w).length-1)):=by rw[bI,hl]
   by_cases h61:(tL w)[0]?=some 61
   ·have d0:0 < w.size:=by
     rcases Nat.eq_zero_or_pos w.size with h|h
     ·rw[List.getElem?_eq_none (by omega)] at h61;cases h61
     ·exact h
    have b0:((0:Int) < (w.size:Int))=True:=eq_true (by omega)
    have f61:(bE w 0=61)=True:=(i0 61 d0).trans (eq_true h61)
    have e:hdS w=((2,0,⟨#[]⟩,bQ (w.extract 1 w.size)),decide (bw (w.extract 1 w.size))):=by rw[eH,if_pos h61,tx]
    generalize hv:bQ (w.extract 1 w.size)=v at *
    have fl:=T.enc_len v
    obtain⟨vk,vn,vs,vks,vl⟩:=v
    simp only[rg,go_sem,seval,Prod.fst,b21,b0,f61,e,hdP,hv,T.enc,z1,Int.toNat_one,GZ,Ha,yr,yu,yv]
    repeat' (first|with_reducible assumption|with_reducible refine And.intro ?_ ?_|intro _)
    all_goals first|omega|(unfold aa;rw[ByteArray.size_extract];omega)|skip
   rw[if_neg h61] at eH
   by_cases d1:1 < w.size
   ·have b0:((0:Int) < (w.size:Int))=True:=eq_true (by omega)
    have b1:((1:Int) < (w.size:Int))=True:=eq_true (by omega)
    have f61:(bE w 0=61)=False:=(i0 61 (by omega)).trans (eq_false h61)
    by_cases n3:(tL w)[0]?=some 46/\(tL w)[(tL w).length-1]?=some 58
    ·have f46:(bE w 0=46)=True:=(i0 46 (by omega)).trans (eq_true n3.1)
     have l58:(bE w ((w.size:Int)-1).toNat=58)=True:=(iL 58 (by omega)).trans (eq_true n3.2)
     rw[if_pos ⟨by omega,n3⟩] at eH
     rw[e5] at l58
     simp only[rg,go_sem,seval,Prod.fst,b21,b0,b1,f61,f46,l58,eH,e5,sub_eq,hdP,z0,z1,Int.toNat_one]
     repeat' (first|with_reducible assumption|with_reducible refine And.intro ?_ ?_|intro _)
     all_goals first|omega|skip
    rw[if_neg (fun q=>n3 q.2)] at eH
    have m3:(bE w 0=46/\bE w (w.size-1)=58)=False:=eq_false fun q=>by
     rw[show (46:Int)=((46:UInt8).toNat:Int) from rfl,i0 46 (by omega),show (58:Int)=((58:UInt8).toNat:Int) from rfl,<-e5,iL 58 (by omega)] at q
     exact n3 q
    by_cases n4:(tL w)[0]?=some 91/\(tL w)[(tL w).length-1]?=some 93
    ·have f91:(bE w 0=91)=True:=(i0 91 (by omega)).trans (eq_true n4.1)
     have l93:(bE w ((w.size:Int)-1).toNat=93)=True:=(iL 93 (by omega)).trans (eq_true n4.2)
     have f46:(bE w 0=46)=False:=(i0 46 (by omega)).trans (eq_false fun h=>by rw[n4.1] at h;cases h)
     rw[if_pos ⟨by omega,n4⟩] at eH
     rw[e5] at l93
     have e6:tL (bL (sub (tL w) 1 ((tL w).length-1)))=sub (tL w) 1 ((tL w).length-1):=de _
     simp only[rg,go_sem,seval,Prod.fst,b21,b0,b1,f61,f46,f91,l93,eH,e5,e6,sub_eq,hdP,z0,z1,Int.toNat_one,eS,eT,eU,eV,eW]
     repeat' (first|with_reducible assumption|with_reducible refine And.intro ?_ ?_|intro _)
     all_goals first|omega|(unfold aa;rw[bM];have:=iK (l:=tL w) (a:=1) (b:=(tL w).length-1) (by omega);omega)|skip
    rw[if_neg (fun q=>n4 q.2)] at eH
    have m4:(bE w 0=91/\bE w (w.size-1)=93)=False:=eq_false fun q=>by
     rw[show (91:Int)=((91:UInt8).toNat:Int) from rfl,i0 91 (by omega),show (93:Int)=((93:UInt8).toNat:Int) from rfl,<-e5,iL 93 (by omega)] at q
     exact n4 q
    have g5:(-9223372036854775808<=(w.size:Int)-1)=True:=eq_true (by omega)
    by_cases d4:4 < w.size
    ·have b4:((4:Int) < (w.size:Int))=True:=eq_true (by omega)
     have q5:(w.extract 0 5=⟨#[109,97,107,101,58]⟩)=((tL w).take 5=[109,97,107,101,58]):=by
      rw[bI]
      have t5:tL ⟨#[109,97,107,101,58]⟩=[109,97,107,101,58]:=rfl
      have t6:sub (tL w) 0 5=(tL w).take 5:=by simp[sub]
      rw[t6]
      exact propext ⟨fun h=>by have:=congrArg tL h;rw[de,t5] at this;exact this,fun h=>eP (by rw[de,t5];exact h)⟩
     by_cases n5:(tL w).take 5=[109,97,107,101,58]
     ·rw[if_pos ⟨by omega,n5⟩] at eH
      rw[<-tx] at eH
      have q6:=q5.trans (eq_true n5)
      simp only[rg,go_sem,seval,Prod.fst,b21,b0,b1,b4,f61,m3,m4,q6,eH,e5,hdP,z0,z1,Int.toNat_one]
      repeat' (first|with_reducible assumption|with_reducible refine And.intro ?_ ?_|intro _)
      all_goals first|omega|skip
     ·rw[if_neg (fun q=>n5 q.2)] at eH
      have q6:=q5.trans (eq_false n5)
      simp only[rg,go_sem,seval,Prod.fst,b21,b0,b1,b4,f61,m3,m4,q6,eH,e5,hdP,z0,z1,Int.toNat_one]
      repeat' (first|with_reducible assumption|with_reducible refine And.intro ?_ ?_|intro _)
      all_goals first|omega|skip
    ·have b4:((4:Int) < (w.size:Int))=False:=eq_false (by omega)
     rw[if_neg (fun q=>by have:=q.1;omega)] at eH
     simp only[rg,go_sem,seval,Prod.fst,b21,b0,b1,b4,f61,m3,m4,eH,e5,hdP,z0,z1,Int.toNat_one]
     repeat' (first|with_reducible assumption|with_reducible refine And.intro ?_ ?_|intro _)
     all_goals first|omega|skip
   ·have b1:((1:Int) < (w.size:Int))=False:=eq_false (by omega)
    have b4:((4:Int) < (w.size:Int))=False:=eq_false (by omega)
    rw[if_neg (fun q=>by have:=q.1;omega),if_neg (fun q=>by have:=q.1;omega),if_neg (fun q=>by have:=q.1;omega)] at eH
    by_cases d0:0 < w.size
    ·have b0:((0:Int) < (w.size:Int))=True:=eq_true (by omega)
     have f61:(bE w 0=61)=False:=(i0 61 d0).trans (eq_false h61)
     simp only[rg,go_sem,seval,Prod.fst,b21,b0,b1,b4,f61,eH,hdP,z0,z1]
     repeat' (first|with_reducible assumption|with_reducible refine And.intro ?_ ?_|intro _)
     all_goals first|omega|skip
    ·have b0:((0:Int) < (w.size:Int))=False:=eq_false (by omega)
     simp only[rg,go_sem,seval,Prod.fst,b21,b0,b1,b4,eH,hdP,z0,z1]
     repeat' (first|with_reducible assumption|with_reducible refine And.intro ?_ ?_|intro _)
     all_goals first|omega|skip
end Go.Proofs.Pw
namespace Go.Proofs.Pw
variable [Globs]
def pQ:X:=(.seq (.reg [xS 6 (.alloc xF),xS 7 (.mv (xK 0))] none [0,1,2,6]) (.seq (.seq (.reg [xM 13 1,xM 14 0,xS 15 (.len (.t 14) false),xS 16 (.bin false .geq (.t 13) (.t 15)),xM 17 16,xH 18 17 (.mv (.t 2)),xH 19 17 (.bin false .lss (.t 18) (xK 1)),xS 20 (.pick (.t 17) (.k (.c (.bool true))) (.t 19))] none [0,1,2,6,20]) (.cond (.t 20) (.seq (.reg [xS 21 (.build xF []),xW 6 21 9,xS 7 (.mv (.k (.c (.int .i64 (-1)))))] none [6,7]) .ret) .skip)) (.seq (.reg [xM 23 0,xM 24 1,xS 25 (.ia (.t 23) (.t 24) 1),xL 26 25,xS 27 (.call 61 [(.t 26)]),xM 22 27,xS 28 (.ext (.t 22) 0),xS 29 (.ext (.t 22) 1),xS 8 (.alloc xF),xW 8 28 9,xM 9 29] none [0,1,2,6,8,9]) (.seq (.seq (.reg [xM 30 9,xS 31 (.not (.t 30))] none [0,1,2,6,8,31]) (.cond (.t 31) (.seq (.reg [xS 32 (.load (.t 8) (some 9)),xW 6 32 9,xS 7 (.mv (.k (.c (.int .i64 (-1)))))] none [6,7]) .ret) .skip)) (.seq (.reg [xM 33 1,xS 34 (.bin false .add (.t 33) (xK 1)),xM 1 34] none [0,1,2,6,8]) (.seq (.seq (.reg [xS 35 (.fa (.t 8) 0),xL 36 35,xS 37 (.call 46 [(.t 36)]),xM 10 37] none [0,1,2,6,8,10]) (.block 0 (.loop (.seq (.seq (.reg [xM 38 10,xS 39 (.bin false .gtr (.t 38) (xK 0))] none [0,1,2,6,8,10,39]) (.cond (.t 39) .skip (.exit 0))) (.seq (.block 1 (.seq (.reg [xM 43 0,xM 44 1,xM 45 2,xS 46 (.bin false .sub (.t 45) (xK 1)),xS 47 (.call 31 [(.t 43),(.t 44),(.t 46)]),xM 42 47,xS 48 (.ext (.t 42) 0),xS 49 (.ext (.t 42) 1),xS 11 (.alloc xF),xW 11 48 9,xM 12 49] none [0,2,6,8,10,11,12]) (.seq (.seq (.reg [xM 50 12,xS 51 (.bin false .lss (.t 50) (xK 0))] none [0,2,6,8,10,11,12,51]) (.cond (.t 51) (.seq (.reg [xS 52 (.load (.t 8) (some 9)),xW 6 52 9,xS 7 (.mv (.k (.c (.int .i64 (-1)))))] none [6,7]) .ret) .skip)) (.seq (.reg [xS 53 (.fa (.t 8) 8),xL 54 53,xS 55 (.load (.t 11) (some 9)),xS 56 (.bsl 9 [((.t 55),(some 9))]),xS 57 (.app (.t 54) (.t 56) 9 136 []),xS 58 (.fa (.t 8) 8),⟨none,none,.st (.t 58) (.t 57) none⟩] none [0,2,6,8,10,12]) (.reg [xM 59 12,xM 1 59] none [0,1,2,6,8,10]))))) (.reg [xM 40 10,xS 41 (.bin false .sub (.t 40) (xK 1)),xM 10 41] none [0,1,2,6,8,10])))))) (.seq (.reg [xS 60 (.load (.t 8) (some 9)),xM 61 1,xW 6 60 9,xM 7 61] none [6,7]) .ret)))))))
theorem ZJ:ao Tryz.prog 62 (Tryz.f31.body.getD .skip) pQ=true:=by kernel_rfl
theorem ZK:ap Tryz.prog Tryz.f31.results.toList [.cell 6 (some 9),.tmp 7]=true:=by kernel_rfl
theorem JD:ax Tryz.prog 31=true:=by kernel_rfl
def pR:X:=(.seq (.reg [xS 2 (.alloc xF),xS 3 (.mv (.k (.c (.bool false))))] none [0,2]) (.seq (.seq (.reg [xM 7 0,xS 8 (.len (.t 7) true),xS 9 (.bin false .gtr (.t 8) (xK 6000))] none [0,2,9]) (.cond (.t 9) (.seq (.reg [xS 10 (.build xF []),xW 2 10 9,xS 3 (.mv (.k (.c (.bool false))))] none [2,3]) .ret) .skip)) (.seq (.reg [xM 11 0,xS 12 (.call 30 [(.t 11),(.k (.c (.int .u8 32)))]),xM 4 12] none [2,4]) (.seq (.reg [xM 14 4,xS 15 (.call 31 [(.t 14),(xK 0),(xK 7)]),xM 13 15,xS 16 (.ext (.t 13) 0),xS 17 (.ext (.t 13) 1),xS 5 (.alloc xF),xW 5 16 9,xM 6 17] none [2,4,5,6]) (.seq (.seq (.reg [xM 18 6,xM 19 4,xS 20 (.len (.t 19) false),xS 21 (.bin false .neq (.t 18) (.t 20)),xM 22 21,xH 23 22 (.load (.t 5) (some 9)),xH 24 22 (.call 9 [(.t 23)]),xH 25 22 (.not (.t 24)),xS 26 (.pick (.t 22) (.k (.c (.bool true))) (.t 25))] none [2,5,26]) (.cond (.t 26) (.seq (.reg [xS 27 (.build xF []),xW 2 27 9,xS 3 (.mv (.k (.c (.bool false))))] none [2,3]) .ret) .skip)) (.seq (.reg [xS 28 (.load (.t 5) (some 9)),xW 2 28 9,xS 3 (.mv (.k (.c (.bool true))))] none [2,3]) .ret))))))
theorem ZL:ao Tryz.prog 29 (Tryz.f13.body.getD .skip) pR=true:=by kernel_rfl
theorem ZM:ap Tryz.prog Tryz.f13.results.toList [.cell 2 (some 9),.tmp 3]=true:=by kernel_rfl
theorem ZN:ax Tryz.prog 13=true:=by kernel_rfl
noncomputable def ie (k:Nat):Spec:=Spec.of (ι:=(List ByteArray) × Nat × Int) [false,false,false] (fun i=>[.d (.one (.row 1 (ae i.1))),.d (.one (.int .i64 (i.2.1:Int))),.d (.one (.int .i64 i.2.2))]) (fun i=>(fF i.1/\i.2.1<=i.1.length/\0<=i.2.2/\i.2.2<=7)/\i.2.2.toNat < k) (fun i=>[.d (.agg (psF i.2.2.toNat i.1 i.2.1).1.enc),.d (.one (.int .i64 (psF i.2.2.toNat i.1 i.2.1).2))]) (fun _=>[.gone,.gone,.gone])
theorem tM:∀ i j:(List ByteArray) × Nat × Int,(fun (i:(List ByteArray) × Nat × Int)=>([.d (.one (.row 1 (ae i.1))),.d (.one (.int .i64 (i.2.1:Int))),.d (.one (.int .i64 i.2.2))]:List AV)) i=(fun (i:(List ByteArray) × Nat × Int)=>([.d (.one (.row 1 (ae i.1))),.d (.one (.int .i64 (i.2.1:Int))),.d (.one (.int .i64 i.2.2))]:List AV)) j->i=j:=by
 rintro⟨ws,a,d⟩ ⟨ws',a',d'⟩ h
 simp only[Prod.mk.injEq]
 simpa [ar,T.enc_eq,au,F.enc_eq,av,Tk.enc_eq,aw,Gn.enc_eq,aq,and_assoc,Int.natCast_inj] using h
theorem JE (k:Nat):(ie k).md=[false,false,false]:=rfl
theorem JF (k:Nat) (ws:List ByteArray) (a:Nat) (d:Int):(ie k).pre [.d (.one (.row 1 (ae ws))),.d (.one (.int .i64 (a:Int))),.d (.one (.int .i64 d))]=((fF ws/\a<=ws.length/\0<=d/\d<=7)/\d.toNat < k):=Spec.of_pre' tM (ws,a,d)
theorem JG (k:Nat):(ie k).alts=none:=rfl
theorem JH (k:Nat) (ws:List ByteArray) (a:Nat) (d:Int):(ie k).res [.d (.one (.row 1 (ae ws))),.d (.one (.int .i64 (a:Int))),.d (.one (.int .i64 d))]=[.d (.agg (psF d.toNat ws a).1.enc),.d (.one (.int .i64 (psF d.toNat ws a).2))]:=Spec.of_res tM (ws,a,d)
theorem JI (k:Nat) (ws:List ByteArray) (a:Nat) (d:Int):(ie k).out [.d (.one (.row 1 (ae ws))),.d (.one (.int .i64 (a:Int))),.d (.one (.int .i64 d))]=[.gone,.gone,.gone]:=Spec.of_out tM (ws,a,d)
theorem ZO (f:Nat->Pw.F × Int) (a:Nat):bB f 0 a=([],(a:Int)):=rfl
theorem fL0 (k n:Int) (s:ByteArray) (vk vn:Int) (vs:ByteArray) (vks:List ByteArray) (vl:List T) (l:List Pw.F):(dP (k,n,s,.mk vk vn vs vks vl) l).enc=[.int .i64 k,.int .i64 n,.str s,.int .i64 vk,.int .i64 vn,.str vs,.row 1 (ae vks),.row 5 (ak vl),.row 9 (aD l)]:=rfl
set_option maxHeartbeats 4000000 in
theorem ZP (k:Nat) (hS:Sound Tryz.prog 31 (ie k)):Sound Tryz.prog 31 (ie (k+1)):=by
 refine aL (GOK.cons (l:=[(46,hJ),(31,ie k)]) ZG ZI (GOK.cons (l:=[(31,ie k)]) yH yI (GOK.cons JD hS GOK.nil))) Tryz.func31 (c:=Tryz.f31.body.getD .skip) rfl (n:=62) rfl ZJ ZK (fun _=>by simp) ?_ ?_
 ·exact tM
 ·rintro⟨ws,a,d⟩ ⟨⟨h1,h2,h3,h4⟩,h5⟩
  simp only at h1 h2 h3 h4 h5
  have hwl:=h1.1
  rcases Nat.lt_or_ge a ws.length with hlt|hge
  ·have b1:((ws.length:Int)<=(a:Int))=False:=eq_false (by omega)
   by_cases c0:d=0
   ·subst c0
    have b0:((0:Int) < 1)=True:=eq_true (by omega)
    have e:psF 0 ws a=(F0,-1):=by rw[psF]
    simp only[pQ,rg,go_sem,seval,Prod.fst,b0,b1,e,pP,aT,Int.toNat_zero]
    repeat' (first|with_reducible assumption|with_reducible refine And.intro ?_ ?_|intro _)
    all_goals first|omega|skip
   obtain⟨d',he⟩:∃ d',d.toNat=d'+1:=⟨d.toNat-1,by omega⟩
   have he':(d-1).toNat=d':=by omega
   have b0:(d < 1)=False:=eq_false (by omega)
   obtain⟨w,hx,hd,hmem⟩:=aY hlt
   have a0:=db hx
   have hw:=h1.2 w hmem
   have hgd:ws.getD a ⟨#[]⟩=w:=by rw[List.getD_eq_getElem?_getD,hx];rfl
   have hok:=za (B:=1000000) hw
   have ho:=yE d' ws
   by_cases c1:(hdS w).2=true
   ·have e:psF (d'+1) ws a=(dP (hdS w).1 (bB (psF d' ws) (aH (hdS w).1.1).toNat (a+1)).1,(bB (psF d' ws) (aH (hdS w).1.1).toNat (a+1)).2):=by rw[psF,if_neg (by omega),hgd,if_pos c1]
    generalize hI:(hdS w).1=hh at *
    obtain⟨kk,m,s,vk,vn,vs,vks,vl⟩:=hh
    obtain⟨⟨o1,o2⟩,o3,o4,o5⟩:=hok
    simp only at o1 o2 o3 o4 o5 e
    have hk3:=IK kk
    have hk0:-1<=aH kk:=by
     unfold aH
     repeat' split
     all_goals omega
    simp only[pQ,rg,go_sem,seval,Prod.fst,b0,b1,he,e,c1,hI,hdP,T.enc,a0,aT,Int.toNat_natCast,Jy,Jz,JA,JB,JC,kA,kB,kC,kD,kE]
    repeat' (first|with_reducible assumption|with_reducible refine And.intro ?_ ?_|intro _)
    all_goals first|omega|(unfold aa;omega)|skip
    refine aS (ι:=List Pw.F × Nat) (fun i=>(aH kk).toNat-i.1.length) (fun i=>i.1.length<=(aH kk).toNat/\i.2<=ws.length/\bB (psF d' ws) (aH kk).toNat (a+1)=(i.1++(bB (psF d' ws) ((aH kk).toNat-i.1.length) i.2).1,(bB (psF d' ws) ((aH kk).toNat-i.1.length) i.2).2))
     (fun i=>⟨[(0,.q (.c (.row 1 (ae ws)))),(1,.q (.c (.int .i64 (i.2:Int)))),(2,.q (.c (.int .i64 d))),(6,.q (.box 6 0)),(8,.q (.box 8 0)),(10,.q (.c (.int .i64 (aH kk-(i.1.length:Int)))))],
      [(6,[.c (.int .i64 0),.c (.int .i64 0),.c (.str ⟨#[]⟩),.c (.int .i64 0),.c (.int .i64 0),.c (.str ⟨#[]⟩),.z 1,.z 5,.z 9]),
       (8,[.c (.int .i64 kk),.c (.int .i64 m),.c (.str s),.c (.int .i64 vk),.c (.int .i64 vn),.c (.str vs),.c (.row 1 (ae vks)),.c (.row 5 (ak vl)),.own 2800008])],
      [(2800008,9,aD i.1)]⟩) ([],a+1) ⟨by simp,by show a+1<=_;omega,by simp⟩ ?_ ?_
    ·exact Le.of_eq (by simp[aD])
    rintro⟨acc,i⟩ ⟨g1,g2,g3⟩
    simp only at g1 g2 g3
    obtain⟨q1,q2,q3⟩:=ho i g2
    rcases Nat.lt_or_ge acc.length (aH kk).toNat with hlt2|hge2
    ·have b2:((0:Int) < aH kk-(acc.length:Int))=True:=eq_true (by omega)
     obtain⟨c,hc⟩:∃ c,(aH kk).toNat-acc.length=c+1:=⟨(aH kk).toNat-acc.length-1,by omega⟩
     rw[hc] at g3
     have hlen:=F.enc_len (psF d' ws i).1
     by_cases c2:(psF d' ws i).2 < 0
     ·have b3:=eq_true c2
      rw[sI c2,List.append_nil] at g3
      simp only[rg,go_sem,seval,Prod.fst,b2,b3,he',hlen,g3,fL0,bK,JE,JF,JG,JH,JI]
      repeat' (first|with_reducible assumption|with_reducible refine And.intro ?_ ?_|intro _)
      all_goals first|omega|exact h1|skip
     ·have b3:=eq_false c2
      rw[pJ c2] at g3
      have q4:=q3 (by omega)
      simp only[rg,go_sem,seval,Prod.fst,b2,b3,he',hlen,bK,JE,JF,JG,JH,JI]
      repeat' (first|with_reducible assumption|with_reducible refine And.intro ?_ ?_|intro _)
      all_goals first|omega|exact h1|skip
      have e7:(aH kk).toNat-(acc++[(psF d' ws i).1]).length=c:=by simp;omega
      have e8:(((psF d' ws i).2.toNat:Nat):Int)=(psF d' ws i).2:=by omega
      refine⟨(acc++[(psF d' ws i).1],(psF d' ws i).2.toNat),⟨by simp;omega,by show (psF d' ws i).2.toNat<=_;omega,?_⟩,by simp;omega,Le.sub (by simp[e8];omega) (by simp) (by simp[nU,aD])⟩
      simp only[e7];rw[g3];simp
    ·have b2:((0:Int) < aH kk-(acc.length:Int))=False:=eq_false (by omega)
     rw[show (aH kk).toNat-acc.length=0 by omega,ZO] at g3
     simp only[List.append_nil] at g3
     simp only[rg,go_sem,seval,Prod.fst,b2,g3,fL0,bK]
     repeat' (first|with_reducible assumption|with_reducible refine And.intro ?_ ?_|intro _)
     all_goals first|omega|skip
   ·have c1':(hdS w).2=false:=Bool.not_eq_true _ |>.mp c1
    have e:psF (d'+1) ws a=(dP (hdS w).1 [],-1):=by rw[psF,if_neg (by omega),hgd,if_neg c1]
    generalize hI:(hdS w).1=hh at *
    obtain⟨kk,m,s,vk,vn,vs,vks,vl⟩:=hh
    have z2:aD []=[]:=rfl
    have z3:dtR []=some []:=rfl
    simp only[pQ,rg,go_sem,seval,Prod.fst,b0,b1,he,e,c1',hI,hdP,T.enc,a0,fL0,z2,z3,aT,Int.toNat_natCast,Jy,Jz,JA,JB,JC]
    repeat' (first|with_reducible assumption|with_reducible refine And.intro ?_ ?_|intro _)
    all_goals first|omega|(unfold aa;omega)|skip
  ·have b1:((ws.length:Int)<=(a:Int))=True:=eq_true (by omega)
   have e:psF d.toNat ws a=(F0,-1):=by
    cases d.toNat with
    | zero=>rw[psF]
    | succ n=>rw[psF,if_pos hge]
   simp only[pQ,rg,go_sem,seval,Prod.fst,b1,e,pP,aT]
   repeat' (first|with_reducible assumption|with_reducible refine And.intro ?_ ?_|intro _)
   all_goals first|omega|skip
theorem ZQ (k:Nat):Sound Tryz.prog 31 (ie k):=by
 induction k with
 | zero=>exact Sound.none
 | succ k ih=>exact ZP k ih
noncomputable def lZ :Spec:=Spec.of (ι:=(List ByteArray) × Nat × Int) [false,false,false] (fun i=>[.d (.one (.row 1 (ae i.1))),.d (.one (.int .i64 (i.2.1:Int))),.d (.one (.int .i64 i.2.2))]) (fun i=>fF i.1/\i.2.1<=i.1.length/\0<=i.2.2/\i.2.2<=7) (fun i=>[.d (.agg (psF i.2.2.toNat i.1 i.2.1).1.enc),.d (.one (.int .i64 (psF i.2.2.toNat i.1 i.2.1).2))]) (fun _=>[.gone,.gone,.gone])
theorem zC:∀ i j:(List ByteArray) × Nat × Int,(fun (i:(List ByteArray) × Nat × Int)=>([.d (.one (.row 1 (ae i.1))),.d (.one (.int .i64 (i.2.1:Int))),.d (.one (.int .i64 i.2.2))]:List AV)) i=(fun (i:(List ByteArray) × Nat × Int)=>([.d (.one (.row 1 (ae i.1))),.d (.one (.int .i64 (i.2.1:Int))),.d (.one (.int .i64 i.2.2))]:List AV)) j->i=j:=by
 rintro⟨ws,a,d⟩ ⟨ws',a',d'⟩ h
 simp only[Prod.mk.injEq]
 simpa [ar,T.enc_eq,au,F.enc_eq,av,Tk.enc_eq,aw,Gn.enc_eq,aq,and_assoc,Int.natCast_inj] using h
theorem zD :(lZ).md=[false,false,false]:=rfl
theorem ZR  (ws:List ByteArray) (a:Nat) (d:Int):(lZ).pre [.d (.one (.row 1 (ae ws))),.d (.one (.int .i64 (a:Int))),.d (.one (.int .i64 d))]=(fF ws/\a<=ws.length/\0<=d/\d<=7):=Spec.of_pre' zC (ws,a,d)
theorem zE :(lZ).alts=none:=rfl
theorem ZS  (ws:List ByteArray) (a:Nat) (d:Int):(lZ).res [.d (.one (.row 1 (ae ws))),.d (.one (.int .i64 (a:Int))),.d (.one (.int .i64 d))]=[.d (.agg (psF d.toNat ws a).1.enc),.d (.one (.int .i64 (psF d.toNat ws a).2))]:=Spec.of_res zC (ws,a,d)
theorem ZT  (ws:List ByteArray) (a:Nat) (d:Int):(lZ).out [.d (.one (.row 1 (ae ws))),.d (.one (.int .i64 (a:Int))),.d (.one (.int .i64 d))]=[.gone,.gone,.gone]:=Spec.of_out zC (ws,a,d)
theorem ZU:Sound Tryz.prog 31 lZ:=Sound.all (μ:=fun i=>i.2.2.toNat) ZQ
set_option maxHeartbeats 1000000 in
theorem ZV:Sound Tryz.prog 13 ji:=by
 refine aL (GOK.cons (l:=[(31,lZ),(9,gw)]) ZB ZD (GOK.cons (l:=[(9,gw)]) JD ZU (GOK.cons sO sT GOK.nil))) Tryz.func13 (c:=Tryz.f13.body.getD .skip) rfl (n:=29) rfl ZL ZM (fun _=>by simp) ?_ ?_
 ·exact tI
 ·intro s h1
  change aa 140737488355328 s.size at h1
  simp only[aa] at h1
  have hz:¬ fOk s->(fT s).enc=[.int .i64 0,.int .i64 0,.str ⟨#[]⟩,.int .i64 0,.int .i64 0,.str ⟨#[]⟩,.row 1 [],.row 5 [],.row 9 []]:=fun h=>by rw[Jp h];rfl
  by_cases c1:6000 < s.size
  ·have e:¬ fOk s:=fun h=>by have:=h.2;omega
   have a3:((6000:Int) < (s.size:Int))=True:=eq_true (by omega)
   have a1:=hz e
   have a2:fOk s=False:=eq_false e
   simp only[pR,rg,go_sem,seval,Prod.fst,a1,a2,a3]
   repeat' (first|with_reducible assumption|with_reducible refine And.intro ?_ ?_|intro _)
   all_goals first|omega|skip
  have a3:((6000:Int) < (s.size:Int))=False:=eq_false (by omega)
  have k7:(7:Int).toNat=7:=rfl
  have w1:=Jr (s:=s) (by omega)
  obtain⟨f1,f2,f3⟩:=IQ (B:=6000) (by decide) (ws:=aM s) (fun w hw=>by have:=sJ hw;omega) 7 0
  have hw1:=w1.1
  have hiff:=HM s
  have hft:=fun h=>VZ (s:=s) h
  have hp:=ZR (aM s) 0 7
  have hr:=ZS (aM s) 0 7
  have ho:=ZT (aM s) 0 7
  simp only[Int.natCast_zero,k7,Nat.zero_le,true_and] at hp hr ho
  generalize hT:(psF 7 (aM s) 0).1=t at *
  generalize hR:(psF 7 (aM s) 0).2=r at *
  have g1:t.fit 140737488355328:=F.fit_mono (by decide) f1
  have g3:aX t<=1048577:=by
   have:((4 ^ 7:Nat):Int)<=1048577:=by decide
   omega
  have fl:=F.enc_len t
  by_cases c2:r=((aM s).length:Int)
  ·have a4:=eq_true c2
   by_cases c3:okF t
   ·have e0:eo s:=hiff.1 ⟨c2,c3⟩
    have e:fOk s:=⟨e0,by omega⟩
    have a1:fT s=t:=(tG e).trans (hft e0)
    have a2:fOk s=True:=eq_true e
    have a5:=eq_true c3
    simp only[pR,rg,go_sem,seval,Prod.fst,a1,a2,a3,a4,a5,fl,aT,zD,zE,hp,hr,ho,zw,zx,zy,zA,zB,iX,iY,iZ,ja,jb]
    repeat' (first|with_reducible assumption|with_reducible refine And.intro ?_ ?_|intro _)
    all_goals first|omega|(unfold aa;omega)|exact w1|exact⟨w1,by omega⟩|exact g1|exact f2|exact g3|skip
   ·have a5:=eq_false c3
    have e:¬ fOk s:=fun h=>c3 (hiff.2 h.1).2
    have a1:=hz e
    have a2:fOk s=False:=eq_false e
    simp only[pR,rg,go_sem,seval,Prod.fst,a1,a2,a3,a4,a5,fl,aT,zD,zE,hp,hr,ho,zw,zx,zy,zA,zB,iX,iY,iZ,ja,jb]
    repeat' (first|with_reducible assumption|with_reducible refine And.intro ?_ ?_|intro _)
    all_goals first|omega|(unfold aa;omega)|exact w1|exact g1|exact f2|exact g3|skip
  ·have a4:=eq_false c2
   have e:¬ fOk s:=fun h=>c2 (hiff.2 h.1).1
   have a1:=hz e
   have a2:fOk s=False:=eq_false e
   simp only[pR,rg,go_sem,seval,Prod.fst,a1,a2,a3,a4,fl,aT,zD,zE,hp,hr,ho,zw,zx,zy,zA,zB,iX,iY,iZ,ja,jb]
   repeat' (first|with_reducible assumption|with_reducible refine And.intro ?_ ?_|intro _)
   all_goals first|omega|(unfold aa;omega)|exact w1|exact g1|exact f2|exact g3|skip
end Go.Proofs.Pw
namespace Go.Proofs.Pw
variable [Globs]
def JJ:X:=(.seq (.reg [xS 2 (.alloc xF)] none [0,2]) (.seq (.seq (.reg [xM 3 0,xS 4 (.callr 38 [(.t 3),(xK 10)])] none [0,2,4]) (.block 0 (.seq (.seq (.reg [xS 6 (.bin false .eql (.t 4) (xK 0)),xM 5 6] none [0,2,4,5]) (.cond (.t 5) .skip (.reg [xS 7 (.bin false .eql (.t 4) (xK 1)),xM 5 7] none [0,2,4,5]))) (.cond (.t 5) (.seq (.reg [xM 8 0,xM 9 0,xS 10 (.callr 38 [(.t 9),(xK 2)]),xS 11 (.bin false .add (xK 1) (.t 10)),xS 12 (.callr 92 [(.t 8),(.t 11)]),xS 13 (.build xF [(0,(xK 2),none),(3,(.t 12),(some 5))]),xW 2 13 9] none [2]) .ret) (.seq (.seq (.reg [xS 15 (.bin false .eql (.t 4) (xK 2)),xM 14 15] none [0,2,4,14]) (.cond (.t 14) .skip (.reg [xS 16 (.bin false .eql (.t 4) (xK 3)),xM 14 16] none [0,2,4,14]))) (.cond (.t 14) (.seq (.reg [xM 17 0,xS 18 (.bsl 1 [((.k (.c (.str ⟨#[97]⟩))),none),((.k (.c (.str ⟨#[98]⟩))),none),((.k (.c (.str ⟨#[99]⟩))),none),((.k (.c (.str ⟨#[97]⟩))),none)]),xS 19 (.callr 39 [(.t 17),(.t 18)]),xS 20 (.build xF [(0,(xK 3),none),(2,(.t 19),none)]),xW 2 20 9] none [2]) .ret) (.seq (.reg [xS 22 (.bin false .eql (.t 4) (xK 4)),xM 21 22] none [0,2,4,21]) (.cond (.t 21) (.seq (.reg [xM 23 0,xS 24 (.bsl 1 [((xK 0),none),((xK 1),none),((.k (.c (.int .i64 (-1)))),none),((xK 2),none)]),xS 25 (.callr 41 [(.t 23),(.t 24)]),xS 26 (.build xF [(0,(xK 4),none),(1,(.t 25),none)]),xW 2 26 9] none [2]) .ret) (.seq (.seq (.reg [xS 28 (.bin false .eql (.t 4) (xK 5)),xM 27 28] none [0,2,4,27]) (.cond (.t 27) .skip (.reg [xS 29 (.bin false .eql (.t 4) (xK 6)),xM 27 29] none [0,2,4,27]))) (.cond (.t 27) (.seq (.reg [xS 30 (.build xF [(0,(xK 5),none)]),xW 2 30 9] none [2]) .ret) (.seq (.reg [xS 32 (.bin false .eql (.t 4) (xK 7)),xM 31 32] none [0,2,31]) (.cond (.t 31) (.seq (.reg [xM 33 0,xS 34 (.bsl 1 [((xK 13),none),((xK 14),none),((xK 15),none),((xK 18),none),((xK 19),none)]),xS 35 (.callr 41 [(.t 33),(.t 34)]),xS 36 (.build xF [(0,(.t 35),none)]),xW 2 36 9] none [2]) .ret) .skip)))))))))))) (.seq (.reg [xS 37 (.build xF [(0,(xK 1),none)]),xW 2 37 9] none [2]) .ret)))
theorem ZW:ao Tryz.prog 38 (Tryz.f70.body.getD .skip) JJ=true:=by kernel_rfl
theorem ZX:ap Tryz.prog Tryz.f70.results.toList [.cell 2 (some 9)]=true:=by kernel_rfl
theorem JK:ax Tryz.prog 70=true:=by kernel_rfl
def zF:X:=(.seq (.reg [xS 4 (.alloc xF)] none [0,1,4]) (.seq (.seq (.reg [xM 5 1,xS 6 (.bin false .leq (.t 5) (xK 1)),xM 7 6,xH 8 7 (.mv (.t 0)),xH 9 7 (.callr 38 [(.t 8),(xK 3)]),xH 10 7 (.bin false .eql (.t 9) (xK 0)),xS 11 (.pick (.t 7) (.k (.c (.bool true))) (.t 10))] none [0,1,4,11]) (.cond (.t 11) (.seq (.seq (.reg [xM 12 0,xS 13 (.callr 38 [(.t 12),(xK 5)])] none [0,4,13]) (.block 0 (.seq (.reg [xS 15 (.bin false .eql (.t 13) (xK 0)),xM 14 15] none [0,4,13,14]) (.cond (.t 14) (.seq (.reg [xS 16 (.build xF [(0,(xK 1),none)]),xW 4 16 9] none [4]) .ret) (.seq (.seq (.reg [xS 18 (.bin false .eql (.t 13) (xK 1)),xM 17 18] none [0,4,13,17]) (.cond (.t 17) .skip (.reg [xS 19 (.bin false .eql (.t 13) (xK 2)),xM 17 19] none [0,4,13,17]))) (.cond (.t 17) (.seq (.reg [xS 20 (.build xF [(0,(xK 5),none)]),xW 4 20 9] none [4]) .ret) (.seq (.reg [xS 22 (.bin false .eql (.t 13) (xK 3)),xM 21 22] none [0,4,21]) (.cond (.t 21) (.seq (.reg [xM 23 0,xS 24 (.bsl 1 [((xK 0),none),((xK 1),none),((.k (.c (.int .i64 (-1)))),none)]),xS 25 (.callr 41 [(.t 23),(.t 24)]),xS 26 (.build xF [(0,(xK 4),none),(1,(.t 25),none)]),xW 4 26 9] none [4]) .ret) .skip)))))))) (.seq (.reg [xM 27 0,xS 28 (.bsl 1 [((.k (.c (.str ⟨#[97]⟩))),none),((.k (.c (.str ⟨#[98]⟩))),none),((.k (.c (.str ⟨#[99]⟩))),none)]),xS 29 (.callr 39 [(.t 27),(.t 28)]),xS 30 (.build xF [(0,(xK 3),none),(2,(.t 29),none)]),xW 4 30 9] none [4]) .ret)) .skip)) (.seq (.seq (.reg [xM 31 0,xS 32 (.callr 38 [(.t 31),(xK 5)])] none [0,1,4,32]) (.block 1 (.seq (.reg [xS 34 (.bin false .eql (.t 32) (xK 0)),xM 33 34] none [0,1,4,32,33]) (.cond (.t 33) (.seq (.reg [xM 35 0,xM 36 1,xS 37 (.bin false .sub (.t 36) (xK 1)),xS 38 (.callr 91 [(.t 35),(.t 37)]),xM 39 0,xM 40 1,xS 41 (.bin false .sub (.t 40) (xK 1)),xS 42 (.callr 91 [(.t 39),(.t 41)]),xS 43 (.bsl 9 [((.t 38),(some 9)),((.t 42),(some 9))]),xS 44 (.build xF [(0,(xK 7),none),(8,(.t 43),none)]),xW 4 44 9] none [4]) .ret) (.seq (.reg [xS 46 (.bin false .eql (.t 32) (xK 1)),xM 45 46] none [0,1,4,45]) (.cond (.t 45) (.seq (.reg [xM 47 0,xM 48 1,xS 49 (.bin false .sub (.t 48) (xK 1)),xS 50 (.callr 69 [(.t 47),(.t 49)]),xM 51 0,xM 52 1,xS 53 (.bin false .sub (.t 52) (xK 1)),xS 54 (.callr 91 [(.t 51),(.t 53)]),xM 55 0,xM 56 1,xS 57 (.bin false .sub (.t 56) (xK 1)),xS 58 (.callr 91 [(.t 55),(.t 57)]),xS 59 (.bsl 9 [((.t 50),(some 9)),((.t 54),(some 9)),((.t 58),(some 9))]),xS 60 (.build xF [(0,(xK 8),none),(8,(.t 59),none)]),xW 4 60 9] none [4]) .ret) .skip)))))) (.seq (.reg [xM 61 0,xM 62 1,xS 63 (.bin false .sub (.t 62) (xK 1)),xS 64 (.callr 91 [(.t 61),(.t 63)]),xM 65 0,xM 66 1,xS 67 (.bin false .sub (.t 66) (xK 1)),xS 68 (.callr 91 [(.t 65),(.t 67)]),xS 69 (.bsl 9 [((.t 64),(some 9)),((.t 68),(some 9))]),xS 70 (.build xF [(0,(xK 6),none),(8,(.t 69),none)]),xW 4 70 9] none [4]) .ret))))
theorem ZY:ao Tryz.prog 71 (Tryz.f91.body.getD .skip) zF=true:=by kernel_rfl
theorem ZZ:ap Tryz.prog Tryz.f91.results.toList [.cell 4 (some 9)]=true:=by kernel_rfl
theorem JL:ax Tryz.prog 91=true:=by kernel_rfl
def zG:X:=(.seq (.reg [xS 4 (.alloc xF)] none [0,1,4]) (.seq (.seq (.reg [xM 7 1,xS 8 (.bin false .leq (.t 7) (xK 1)),xM 9 8,xH 10 9 (.mv (.t 0)),xH 11 9 (.callr 38 [(.t 10),(xK 4)]),xH 12 9 (.bin false .eql (.t 11) (xK 0)),xS 13 (.pick (.t 9) (.k (.c (.bool true))) (.t 12))] none [0,1,4,13]) (.cond (.t 13) (.seq (.reg [xM 14 0,xS 15 (.callr 70 [(.t 14)]),xW 4 15 9] none [4]) .ret) .skip)) (.seq (.reg [xM 16 0,xS 17 (.bsl 1 [((xK 6),none),((xK 6),none),((xK 6),none),((xK 7),none),((xK 7),none),((xK 8),none),((xK 9),none),((xK 9),none),((xK 10),none),((xK 11),none),((xK 12),none),((xK 12),none),((xK 16),none),((xK 17),none),((xK 20),none),((xK 21),none)]),xS 18 (.callr 41 [(.t 16),(.t 17)]),xS 19 (.build xF [(0,(.t 18),none)]),xS 5 (.alloc xF),xW 5 19 9] none [0,1,4,5]) (.seq (.seq (.reg [xS 20 (.fa (.t 5) 0),xL 21 20,xS 22 (.bin false .eql (.t 21) (xK 21))] none [0,1,4,5,22]) (.cond (.t 22) (.reg [xM 23 0,xS 24 (.bsl 1 [((.k (.c (.str ⟨#[97]⟩))),none),((.k (.c (.str ⟨#[98]⟩))),none),((.k (.c (.str ⟨#[122]⟩))),none)]),xS 25 (.callr 39 [(.t 23),(.t 24)]),xS 26 (.fa (.t 5) 2),⟨none,none,.st (.t 26) (.t 25) none⟩] none [0,1,4,5]) .skip)) (.seq (.seq (.reg [xS 6 (.mv (xK 0))] none [0,1,4,5,6]) (.block 0 (.loop (.seq (.seq (.reg [xM 27 6,xS 28 (.fa (.t 5) 0),xL 29 28,xS 30 (.call 46 [(.t 29)]),xS 31 (.bin false .lss (.t 27) (.t 30))] none [0,1,4,5,6,31]) (.cond (.t 31) .skip (.exit 0))) (.seq (.block 1 (.seq (.reg [xS 34 (.fa (.t 5) 0),xL 35 34,xS 36 (.bin false .eql (.t 35) (xK 20)),xM 37 36,xG 38 37 (.mv (.t 6)),xG 39 37 (.bin false .eql (.t 38) (xK 0)),xS 40 (.pick (.t 37) (.t 39) (.k (.c (.bool false))))] none [0,1,4,5,6,40]) (.cond (.t 40) (.mix [xS 41 (.fa (.t 5) 8),xL 42 41,xM 43 0,xM 44 1,xS 45 (.bin false .sub (.t 44) (xK 1)),xS 46 (.callr 91 [(.t 43),(.t 45)]),xS 47 (.bsl 9 [((.t 46),(some 9))])] [xS 48 (.app (.t 42) (.t 47) 9 136 []),xS 49 (.fa (.t 5) 8),⟨none,none,.st (.t 49) (.t 48) none⟩] [[],[],[],[],[],[1],[]] [0,1,4,5,6]) (.mix [xS 50 (.fa (.t 5) 8),xL 51 50,xM 52 0,xM 53 1,xS 54 (.bin false .sub (.t 53) (xK 1)),xS 55 (.callr 69 [(.t 52),(.t 54)]),xS 56 (.bsl 9 [((.t 55),(some 9))])] [xS 57 (.app (.t 51) (.t 56) 9 136 []),xS 58 (.fa (.t 5) 8),⟨none,none,.st (.t 58) (.t 57) none⟩] [[],[],[],[],[],[1],[]] [0,1,4,5,6])))) (.reg [xM 32 6,xS 33 (.bin false .add (.t 32) (xK 1)),xM 6 33] none [0,1,4,5,6])))))) (.seq (.reg [xS 59 (.load (.t 5) (some 9)),xW 4 59 9] none [4]) .ret))))))
theorem aaa:ao Tryz.prog 60 (Tryz.f69.body.getD .skip) zG=true:=by kernel_rfl
theorem aab:ap Tryz.prog Tryz.f69.results.toList [.cell 4 (some 9)]=true:=by kernel_rfl
theorem zH:ax Tryz.prog 69=true:=by kernel_rfl
theorem aac (a b c d:Int):C.row 1 [[C.int .i64 a],[C.int .i64 b],[C.int .i64 c],[C.int .i64 d]]=C.row 1 (aG .i64 [a,b,c,d]):=rfl
theorem aad (a b c d e f g h i j k l m n o p:Int):C.row 1 [[C.int .i64 a],[C.int .i64 b],[C.int .i64 c],[C.int .i64 d],[C.int .i64 e],[C.int .i64 f],[C.int .i64 g],[C.int .i64 h],[C.int .i64 i],[C.int .i64 j],[C.int .i64 k],[C.int .i64 l],[C.int .i64 m],[C.int .i64 n],[C.int .i64 o],[C.int .i64 p]]=C.row 1 (aG .i64 [a,b,c,d,e,f,g,h,i,j,k,l,m,n,o,p]):=rfl
abbrev DrI:=Int × Int × ByteArray × Int × Int × ByteArray × List ByteArray × List T × List F × Int
def DrI.f (i:DrI):F:=.mk i.1 i.2.1 i.2.2.1 (.mk i.2.2.2.1 i.2.2.2.2.1 i.2.2.2.2.2.1 i.2.2.2.2.2.2.1 i.2.2.2.2.2.2.2.1) i.2.2.2.2.2.2.2.2.1
def spLeafF :Spec:=Spec.ofR (ι:=(List Int) × Int) (κ:=Int × Int × ByteArray × Int × Int × ByteArray × (List ByteArray) × (List T) × (List Pw.F) × Int) [true] (fun i=>[.ref (rdC i.1 i.2)]) (fun i=>byt i.1/\0<=i.2/\i.2<=1099511627776-1000) (fun i k=>drF 1 (Pw.F.mk k.1 k.2.1 k.2.2.1 (.mk k.2.2.2.1 k.2.2.2.2.1 k.2.2.2.2.2.1 k.2.2.2.2.2.2.1 k.2.2.2.2.2.2.2.1) k.2.2.2.2.2.2.2.2.1)/\i.2<=k.2.2.2.2.2.2.2.2.2/\k.2.2.2.2.2.2.2.2.2<=i.2+1000) (fun i k=>[.d (.agg (Pw.F.mk k.1 k.2.1 k.2.2.1 (.mk k.2.2.2.1 k.2.2.2.2.1 k.2.2.2.2.2.1 k.2.2.2.2.2.2.1 k.2.2.2.2.2.2.2.1) k.2.2.2.2.2.2.2.2.1).enc)]) (fun i k=>[.ref (rdC i.1 k.2.2.2.2.2.2.2.2.2)])
theorem zI:∀ i j:(List Int) × Int,(fun (i:(List Int) × Int)=>([.ref (rdC i.1 i.2)]:List AV)) i=(fun (i:(List Int) × Int)=>([.ref (rdC i.1 i.2)]:List AV)) j->i=j:=by
 rintro⟨bs,p⟩ ⟨bs',p'⟩ h
 simp only[Prod.mk.injEq]
 simpa [ar,T.enc_eq,au,F.enc_eq,av,Tk.enc_eq,aw,Gn.enc_eq,aq,dG,and_assoc] using h
theorem zJ :(spLeafF).md=[true]:=rfl
theorem zK  (bs:List Int) (p:Int):(spLeafF).pre [.ref (rdC bs p)]=(byt bs/\0<=p/\p<=1099511627776-1000):=Spec.ofR_pre zI (bs,p)
theorem aae  (bs:List Int) (p:Int):(spLeafF).ne [.ref (rdC bs p)]=(∃ k:Int × Int × ByteArray × Int × Int × ByteArray × (List ByteArray) × (List T) × (List Pw.F) × Int,drF 1 (Pw.F.mk k.1 k.2.1 k.2.2.1 (.mk k.2.2.2.1 k.2.2.2.2.1 k.2.2.2.2.2.1 k.2.2.2.2.2.2.1 k.2.2.2.2.2.2.2.1) k.2.2.2.2.2.2.2.2.1)/\p<=k.2.2.2.2.2.2.2.2.2/\k.2.2.2.2.2.2.2.2.2<=p+1000):=Spec.ofR_ne zI (bs,p)
theorem oc  (bs:List Int) (p:Int) (F:List AV->List AV->Prop):(spLeafF).all [.ref (rdC bs p)] F=(∀ (k:Int) (n:Int) (s:ByteArray) (vk:Int) (vn:Int) (vs:ByteArray) (vks:List ByteArray) (vl:List T) (l:List Pw.F) (q:Int),(drF 1 (Pw.F.mk k n s (.mk vk vn vs vks vl) l)/\p<=q/\q<=p+1000)->F [.d (.agg (Pw.F.mk k n s (.mk vk vn vs vks vl) l).enc)] [.ref (rdC bs q)]):=by
 refine (Spec.ofR_all zI (bs,p) F).trans (propext ⟨fun h k n s vk vn vs vks vl l q hr=>h (k,n,s,vk,vn,vs,vks,vl,l,q) hr,fun h k hr=>?_⟩)
 exact h k.1 k.2.1 k.2.2.1 k.2.2.2.1 k.2.2.2.2.1 k.2.2.2.2.2.1 k.2.2.2.2.2.2.1 k.2.2.2.2.2.2.2.1 k.2.2.2.2.2.2.2.2.1 k.2.2.2.2.2.2.2.2.2 hr
theorem eC {M A m:Int} {bs:List Int} {p q k n vk vn:Int} {s vs:ByteArray} {vks:List ByteArray} {vl:List T} {l:List F} {K L R:List (List C)} (hK:ae vks=K) (hL:ak vl=L) (hR:aD l=R) (h:drF m (F.mk k n s (T.mk vk vn vs vks vl) l)) (hm:m<=M) (hq:p<=q/\q<=p+A):∃ i:DrI,
 (drF M (F.mk i.1 i.2.1 i.2.2.1 (T.mk i.2.2.2.1 i.2.2.2.2.1 i.2.2.2.2.2.1 i.2.2.2.2.2.2.1 i.2.2.2.2.2.2.2.1) i.2.2.2.2.2.2.2.2.1)/\p<=i.2.2.2.2.2.2.2.2.2/\i.2.2.2.2.2.2.2.2.2<=p+A) /\
 (F.mk i.1 i.2.1 i.2.2.1 (T.mk i.2.2.2.1 i.2.2.2.2.1 i.2.2.2.2.2.1 i.2.2.2.2.2.2.1 i.2.2.2.2.2.2.2.1) i.2.2.2.2.2.2.2.2.1).enc=[C.int .i64 k,C.int .i64 n,C.str s,C.int .i64 vk,C.int .i64 vn,C.str vs,C.row 1 K,C.row 5 L,C.row 9 R]/\rdC bs q=rdC bs i.2.2.2.2.2.2.2.2.2:=by
 subst hK hL hR
 exact⟨(k,n,s,vk,vn,vs,vks,vl,l,q),⟨h.mono hm,hq⟩,rfl,rfl⟩
theorem ig {k n:Int} {s:ByteArray} (hk:i64 k) (hn:i64 n/\-1000<=n/\n<=1000) (hs:(s.size:Int)<=1000):drF 1 (.mk k n s (.mk 0 0 ⟨#[]⟩ [] []) []):=zj hk hn hs eB.1 (by have:=eB.2;show aB T.zero<=_;omega)
theorem zL (bs:List Int) (p:Int):spLeafF.ne [.ref (rdC bs p)]=True:=by
 rw[aae]
 exact eq_true ⟨(0,0,⟨#[]⟩,0,0,⟨#[]⟩,[],[],[],p),zj (k:=0) (n:=0) (s:=⟨#[]⟩) (v:=T.zero) (by unfold i64;omega) (by unfold i64;omega) (by decide) eB.1 (by rw[eB.2];omega),Int.le_refl _,by show p<=p+1000;omega⟩
set_option maxHeartbeats 2000000 in
theorem JM:Sound Tryz.prog 70 spLeafF:=by
 refine dY (GOK.cons (l:=[(39,spDof),(41,spDnum),(92,spValF.weak)]) fz fC (GOK.cons (l:=[(41,spDnum),(92,spValF.weak)]) lJ lK (GOK.cons (l:=[(92,spValF.weak)]) nA nB (GOK.cons yk (l1Val_all.weak UT) GOK.nil)))) Tryz.func70 (c:=Tryz.f70.body.getD .skip) rfl (n:=38) rfl ZW ZX (fun _=>by simp) ?_
 ·rintro⟨bs,p⟩ ⟨hb,h1,h2⟩
  change byt bs at hb
  simp only at h1 h2
  have hl:∀ m:Int,(0<=m/\m < 2)->vb (1+m).toNat<=620:=fun m hm=>by
   have:m=0\/m=1:=by omega
   rcases this with rfl|rfl <;> decide
  simp only[JJ,rg,go_sem,seval,Prod.fst,UE,aac,ye,cU,cV,cW,↓bn,bn,kr,kt,ku,↓dA,dA,lL,lM,lN,↓ej,ej,vr,oZ,vu,↓vt,AV.weak,Pt.toC,GF,GG,GH,↓sA,sA]
  repeat' (first|with_reducible assumption|with_reducible refine And.intro ?_ ?_|intro _)
  all_goals first|omega|skip
  all_goals try
   have hl':=hl _ (by assumption)
   omega
  all_goals first
   | exact eC (vks:=[]) (vl:=[]) (l:=[]) rfl rfl rfl (ig (by unfold i64;omega) (by unfold i64;omega) (by decide)) (Int.le_refl _) (by omega)
   | (rename_i k n s ks l q hd
      have hl':=hl _ (by assumption)
      exact eC (l:=[]) rfl rfl rfl (zj (by unfold i64;omega) (by unfold i64;omega) (by decide) hd.1.1 (by have:=hd.1.2.1;omega)) (Int.le_refl _) (by omega))
   | (rename_i hx
      simp only[List.mem_cons,List.not_mem_nil,or_false] at hx
      exact eC (vks:=[]) (vl:=[]) (l:=[]) rfl rfl rfl (ig (by unfold i64;omega) (by unfold i64;omega) (by first|decide|(rcases hx with rfl|rfl|rfl|rfl <;> decide))) (Int.le_refl _) (by omega))
   | skip
def bD (m:Nat):Spec:=Spec.ofR (ι:=(List Int) × Int × Int) (κ:=Int × Int × ByteArray × Int × Int × ByteArray × (List ByteArray) × (List T) × (List Pw.F) × Int) [true,false] (fun i=>[.ref (rdC i.1 i.2.1),.d (.one (.int .i64 i.2.2))]) (fun i=>(byt i.1/\0<=i.2.1/\i.2.1+fb i.2.2.toNat<=1099511627776/\-1<=i.2.2/\i.2.2<=5)/\i.2.2.toNat < m) (fun i k=>drF (fb i.2.2.toNat) (Pw.F.mk k.1 k.2.1 k.2.2.1 (.mk k.2.2.2.1 k.2.2.2.2.1 k.2.2.2.2.2.1 k.2.2.2.2.2.2.1 k.2.2.2.2.2.2.2.1) k.2.2.2.2.2.2.2.2.1)/\i.2.1<=k.2.2.2.2.2.2.2.2.2/\k.2.2.2.2.2.2.2.2.2<=i.2.1+fb i.2.2.toNat) (fun i k=>[.d (.agg (Pw.F.mk k.1 k.2.1 k.2.2.1 (.mk k.2.2.2.1 k.2.2.2.2.1 k.2.2.2.2.2.1 k.2.2.2.2.2.2.1 k.2.2.2.2.2.2.2.1) k.2.2.2.2.2.2.2.2.1).enc)]) (fun i k=>[.ref (rdC i.1 k.2.2.2.2.2.2.2.2.2),.gone])
theorem zM:∀ i j:(List Int) × Int × Int,(fun (i:(List Int) × Int × Int)=>([.ref (rdC i.1 i.2.1),.d (.one (.int .i64 i.2.2))]:List AV)) i=(fun (i:(List Int) × Int × Int)=>([.ref (rdC i.1 i.2.1),.d (.one (.int .i64 i.2.2))]:List AV)) j->i=j:=by
 rintro⟨bs,p,d⟩ ⟨bs',p',d'⟩ h
 simp only[Prod.mk.injEq]
 simpa [ar,T.enc_eq,au,F.enc_eq,av,Tk.enc_eq,aw,Gn.enc_eq,aq,dG,and_assoc] using h
theorem pS (m:Nat):(bD m).md=[true,false]:=rfl
theorem pT (m:Nat) (bs:List Int) (p:Int) (d:Int):(bD m).pre [.ref (rdC bs p),.d (.one (.int .i64 d))]=((byt bs/\0<=p/\p+fb d.toNat<=1099511627776/\-1<=d/\d<=5)/\d.toNat < m):=Spec.ofR_pre zM (bs,p,d)
theorem aaf (m:Nat) (bs:List Int) (p:Int) (d:Int):(bD m).ne [.ref (rdC bs p),.d (.one (.int .i64 d))]=(∃ k:Int × Int × ByteArray × Int × Int × ByteArray × (List ByteArray) × (List T) × (List Pw.F) × Int,drF (fb d.toNat) (Pw.F.mk k.1 k.2.1 k.2.2.1 (.mk k.2.2.2.1 k.2.2.2.2.1 k.2.2.2.2.2.1 k.2.2.2.2.2.2.1 k.2.2.2.2.2.2.2.1) k.2.2.2.2.2.2.2.2.1)/\p<=k.2.2.2.2.2.2.2.2.2/\k.2.2.2.2.2.2.2.2.2<=p+fb d.toNat):=Spec.ofR_ne zM (bs,p,d)
theorem ii (m:Nat) (bs:List Int) (p:Int) (d:Int) (F:List AV->List AV->Prop):(bD m).all [.ref (rdC bs p),.d (.one (.int .i64 d))] F=(∀ (k:Int) (n:Int) (s:ByteArray) (vk:Int) (vn:Int) (vs:ByteArray) (vks:List ByteArray) (vl:List T) (l:List Pw.F) (q:Int),(drF (fb d.toNat) (Pw.F.mk k n s (.mk vk vn vs vks vl) l)/\p<=q/\q<=p+fb d.toNat)->F [.d (.agg (Pw.F.mk k n s (.mk vk vn vs vks vl) l).enc)] [.ref (rdC bs q),.gone]):=by
 refine (Spec.ofR_all zM (bs,p,d) F).trans (propext ⟨fun h k n s vk vn vs vks vl l q hr=>h (k,n,s,vk,vn,vs,vks,vl,l,q) hr,fun h k hr=>?_⟩)
 exact h k.1 k.2.1 k.2.2.1 k.2.2.2.1 k.2.2.2.2.1 k.2.2.2.2.2.1 k.2.2.2.2.2.2.1 k.2.2.2.2.2.2.2.1 k.2.2.2.2.2.2.2.2.1 k.2.2.2.2.2.2.2.2.2 hr
theorem pU (m:Nat) (bs:List Int) (p d:Int):(bD m).ne [.ref (rdC bs p),.d (.one (.int .i64 d))]=True:=by
 rw[aaf]
 have:=lX d.toNat
 exact eq_true ⟨(0,0,⟨#[]⟩,0,0,⟨#[]⟩,[],[],[],p),(ig (k:=0) (n:=0) (s:=⟨#[]⟩) (by unfold i64;omega) (by unfold i64;omega) (by decide)).mono (by omega),Int.le_refl _,by show p<=p+fb d.toNat;omega⟩
theorem aag {a b:F} {A B m k n:Int} {s:ByteArray} (ha:drF A a) (hb:drF B b) (hk:i64 k) (hn:i64 n/\-1000<=n/\n<=1000) (hs:(s.size:Int)<=1000) (hm:1+(A+B)<=m):drF m (.mk k n s (.mk 0 0 ⟨#[]⟩ [] []) [a,b]) :=
 pN hk hn hs eB.1 (by have:=eB.2;show aB T.zero<=_;omega) (by simp) ⟨ha.1,hb.1,trivial⟩ (by simp only[bT];exact⟨ha.2.1,hb.2.1,trivial⟩) (by have:=ha.2.2;have:=hb.2.2;simp only[aI];omega)
theorem aah {a b c:F} {A B D m k n:Int} {s:ByteArray} (ha:drF A a) (hb:drF B b) (hc:drF D c) (hk:i64 k) (hn:i64 n/\-1000<=n/\n<=1000) (hs:(s.size:Int)<=1000) (hm:1+(A+B+D)<=m):drF m (.mk k n s (.mk 0 0 ⟨#[]⟩ [] []) [a,b,c]) :=
 pN hk hn hs eB.1 (by have:=eB.2;show aB T.zero<=_;omega) (by simp) ⟨ha.1,hb.1,hc.1,trivial⟩ (by simp only[bT];exact⟨ha.2.1,hb.2.1,hc.2.1,trivial⟩) (by have:=ha.2.2;have:=hb.2.2;have:=hc.2.2;simp only[aI];omega)
set_option maxHeartbeats 4000000 in
theorem aai (m:Nat) (hL:Sound Tryz.prog 91 (bD m)) (hF:Sound Tryz.prog 69 (bD m)):Sound Tryz.prog 91 (bD (m+1)):=by
 refine dY (GOK.cons (l:=[(39,spDof),(41,spDnum),(91,bD m),(69,bD m)]) fz fC (GOK.cons (l:=[(41,spDnum),(91,bD m),(69,bD m)]) lJ lK (GOK.cons (l:=[(91,bD m),(69,bD m)]) nA nB (GOK.cons (l:=[(69,bD m)]) JL hL (GOK.cons zH hF GOK.nil))))) Tryz.func91 (c:=Tryz.f91.body.getD .skip) rfl (n:=71) rfl ZY ZZ (fun _=>by simp) ?_
 ·rintro⟨bs,p,d⟩ ⟨⟨hb,h1,h2,h3,h4⟩,h5⟩
  change byt bs at hb
  simp only at h1 h2 h3 h4 h5
  have hv:=lX d.toNat
  by_cases c1:d<=1
  ·have a1:(d<=1)=True:=eq_true c1
   simp only[zF,rg,go_sem,seval,Prod.fst,a1,pE,sw,cU,cV,cW,↓bn,bn,kr,kt,ku,↓dA,dA,lL,lM,lN,↓ej,ej]
   repeat' (first|with_reducible assumption|with_reducible refine And.intro ?_ ?_|intro _)
   all_goals first|omega|skip
   all_goals first
    | exact eC (vks:=[]) (vl:=[]) (l:=[]) rfl rfl rfl (ig (by unfold i64;omega) (by unfold i64;omega) (by decide)) (by omega) (by omega)
    | (rename_i hx
       simp only[List.mem_cons,List.not_mem_nil,or_false] at hx
       exact eC (vks:=[]) (vl:=[]) (l:=[]) rfl rfl rfl (ig (by unfold i64;omega) (by unfold i64;omega) (by first|decide|(rcases hx with rfl|rfl|rfl <;> decide))) (by omega) (by omega))
    | skip
  ·have a1:(d<=1)=False:=eq_false c1
   obtain⟨e,he⟩:∃ e,d.toNat=e+1:=⟨d.toNat-1,by omega⟩
   have he':(d-1).toNat=e:=by omega
   have hfd:fb d.toNat=1100+3*fb e:=by rw[he];rfl
   have hv2:=lX e
   rw[hfd] at h2 hv
   rw[he] at h5
   simp only[zF,rg,go_sem,seval,Prod.fst,a1,pE,sw,F.enc_len,cU,cV,cW,↓bn,bn,kr,kt,ku,↓dA,dA,lL,lM,lN,↓ej,ej,pS,pT,pU,↓ii,ii,he']
   rw[hfd]
   repeat' (first|with_reducible assumption|with_reducible refine And.intro ?_ ?_|intro _)
   all_goals first|omega|skip
   all_goals first
    | exact eC (vks:=[]) (vl:=[]) (l:=[]) rfl rfl rfl (ig (by unfold i64;omega) (by unfold i64;omega) (by decide)) (by omega) (by omega)
    | (rename_i hx
       simp only[List.mem_cons,List.not_mem_nil,or_false] at hx
       exact eC (vks:=[]) (vl:=[]) (l:=[]) rfl rfl rfl (ig (by unfold i64;omega) (by unfold i64;omega) (by first|decide|(rcases hx with rfl|rfl|rfl <;> decide))) (by omega) (by omega))
    | skip
   all_goals first
    | (rename_i hd0 _ _ _ _ _ _ _ _ _ _ _ hd1 _ _ _ _ _ _ _ _ _ _ _ hd2
       exact eC (vks:=[]) (vl:=[]) (l:=[_,_,_]) rfl rfl rfl (aah hd0.1 hd1.1 hd2.1 (by unfold i64;omega) (by unfold i64;omega) (by decide) (by omega)) (Int.le_refl _) (by omega))
    | (rename_i hd1 _ _ _ _ _ _ _ _ _ _ _ hd2
       exact eC (vks:=[]) (vl:=[]) (l:=[_,_]) rfl rfl rfl (aag hd1.1 hd2.1 (by unfold i64;omega) (by unfold i64;omega) (by decide) (by omega)) (Int.le_refl _) (by omega))
set_option maxHeartbeats 4000000 in
theorem aaj (m:Nat) (hL:Sound Tryz.prog 91 (bD m)) (hF:Sound Tryz.prog 69 (bD m)):Sound Tryz.prog 69 (bD (m+1)):=by
 refine dY (GOK.cons (l:=[(39,spDof),(41,spDnum),(46,hJ),(70,spLeafF),(91,bD m),(69,bD m)]) fz fC (GOK.cons (l:=[(41,spDnum),(46,hJ),(70,spLeafF),(91,bD m),(69,bD m)]) lJ lK (GOK.cons (l:=[(46,hJ),(70,spLeafF),(91,bD m),(69,bD m)]) nA nB (GOK.cons (l:=[(70,spLeafF),(91,bD m),(69,bD m)]) yH yI (GOK.cons (l:=[(91,bD m),(69,bD m)]) JK JM (GOK.cons (l:=[(69,bD m)]) JL hL (GOK.cons zH hF GOK.nil))))))) Tryz.func69 (c:=Tryz.f69.body.getD .skip) rfl (n:=60) rfl aaa aab (fun _=>by simp) ?_
 ·rintro⟨bs,p,d⟩ ⟨⟨hb,h1,h2,h3,h4⟩,h5⟩
  change byt bs at hb
  simp only at h1 h2 h3 h4 h5
  have hv:=lX d.toNat
  by_cases c1:d<=1
  ·have a1:(d<=1)=True:=eq_true c1
   simp only[zG,rg,go_sem,seval,Prod.fst,a1,F.enc_len,cU,cV,cW,↓bn,bn,zJ,zK,zL,↓oc,oc]
   repeat' (first|with_reducible assumption|with_reducible refine And.intro ?_ ?_|intro _)
   all_goals first|omega|skip
   rename_i k n s vk vn vs vks vl l q hd
   exact⟨(k,n,s,vk,vn,vs,vks,vl,l,q),⟨hd.1.mono (by omega),hd.2.1,by show q<=p+fb d.toNat;omega⟩,rfl,rfl⟩
  ·have a1:(d<=1)=False:=eq_false c1
   obtain⟨e,he⟩:∃ e,d.toNat=e+1:=⟨d.toNat-1,by omega⟩
   have he':(d-1).toNat=e:=by omega
   have hfd:fb d.toNat=1100+3*fb e:=by rw[he];rfl
   have hv2:=lX e
   rw[hfd] at h2 hv
   rw[he] at h5
   simp only[zG,rg,go_sem,seval,Prod.fst,a1,F.enc_len,aad,pE,cU,cV,cW,↓bn,bn,zJ,zK,zL,↓oc,oc,kr,kt,ku,↓dA,dA,lL,lM,lN,↓ej,ej]
   rw[hfd]
   repeat' (first|with_reducible assumption|with_reducible refine And.intro ?_ ?_|intro _)
   all_goals first|omega|skip
   ·rename_i k n s vk vn vs vks vl l q hd
    exact eC rfl rfl rfl hd.1 (by omega) (by omega)
   ·rename_i kk hk hk21 s0 hs
    simp only[List.mem_cons,List.not_mem_nil,or_false] at hk
    have hK:1<=aH kk/\aH kk<=3/\i64 kk:=by
     rcases hk with rfl|rfl|rfl|rfl|rfl|rfl|rfl|rfl|rfl|rfl|rfl|rfl|rfl|rfl|rfl|rfl <;> (refine⟨?_,?_,?_⟩ <;> first|decide|(unfold i64;omega))
    simp only[List.mem_cons,List.not_mem_nil,or_false] at hs
    have hsz:(s0.size:Int)<=1000:=by rcases hs with rfl|rfl|rfl <;> decide
    refine aS (ι:=Nat × Int × List Pw.F) (fun i=>4-i.1)
     (fun i=>(i.1:Int)<=aH kk/\p+2<=i.2.1/\i.2.1<=p+10+i.1*fb e/\i.2.2.length=i.1/\bG 1000 i.2.2/\bT i.2.2/\aI i.2.2<=i.1*fb e)
     (fun i=>⟨[(0,.q (.box 60 0)),(1,.q (.c (.int .i64 d))),(4,.q (.box 4 0)),(5,.q (.box 5 0)),(6,.q (.c (.int .i64 i.1)))],
      [(60,(rdC bs i.2.1).map .c),(4,[.c (.int .i64 0),.c (.int .i64 0),.c (.str ⟨#[]⟩),.c (.int .i64 0),.c (.int .i64 0),.c (.str ⟨#[]⟩),.z 1,.z 5,.z 9]),(5,[.c (.int .i64 kk),.c (.int .i64 0),.c (.str s0),.c (.int .i64 0),.c (.int .i64 0),.c (.str ⟨#[]⟩),.z 1,.z 5,.own 48])],
      [(48,9,aD i.2.2)]⟩) (0,p+1+1+1,[]) ⟨by show ((0:Nat):Int)<=_;omega,by show p+2<=p+1+1+1;omega,by show p+1+1+1<=p+10+((0:Nat):Int)*fb e;simp;omega,by simp,trivial,by simp[bT],by simp[aI]⟩ ?_ ?_
    ·refine (Le.ownB (b:=5) (j:=8) (d:=48) (sz:=9) (qs:=[.c (.int .i64 kk),.c (.int .i64 0),.c (.str s0),.c (.int .i64 0),.c (.int .i64 0),.c (.str ⟨#[]⟩),.z 1,.z 5,.z 9]) (by decide) (by simp) rfl (by simp[Q.killO,rdC]) (by simp[PV.map,Q.killO])).trans (Le.of_eq ?_)
     simp[upd,del,aD]
    ·rintro⟨i,q,l⟩ ⟨g1,g2,g3,g4,g5,g6,g7⟩
     simp only at g1 g2 g3 g4 g5 g6 g7
     rcases Int.lt_or_le (i:Int) (aH kk) with hlt|hge
     ·have b1:((i:Int) < aH kk)=True:=eq_true hlt
      have b4:(i:Int)*fb e<=2*fb e:=Int.mul_le_mul_of_nonneg_right (by omega) (by omega)
      have b5:((i+1:Nat):Int)*fb e=i*fb e+fb e:=by rw[Int.natCast_add,Int.add_mul];simp
      have key:∀ (t:F) (q':Int),drF (fb e) t/\q<=q'/\q'<=q+fb e->(((i+1:Nat):Int)<=aH kk/\p+2<=q'/\q'<=p+10+((i+1:Nat):Int)*fb e/\(l++[t]).length=i+1/\bG 1000 (l++[t])/\bT (l++[t])/\aI (l++[t])<=((i+1:Nat):Int)*fb e):=fun t q' ht=>by
       have z:=ht.1.2.2
       refine⟨by omega,by omega,by omega,by simp;omega,IU g5 ⟨ht.1.1,trivial⟩,IV g6 (by simp only[bT];exact⟨ht.1.2.1,trivial⟩),?_⟩
       rw[IW];simp only[aI];omega
      by_cases c20:kk=20
      ·exact absurd c20 (by omega)
      ·have b2:(kk=20)=False:=eq_false c20
       simp only[rg,go_sem,seval,Prod.fst,b1,b2,bK,F.enc_len,kA,kB,kC,kD,kE,pS,pT,pU,↓ii,ii,he']
       repeat' (first|with_reducible assumption|with_reducible refine And.intro ?_ ?_|intro _)
       all_goals first|omega|skip
       rename_i k n s vk vn vs vks vl l' q' hd _ _
       refine⟨(i+1,q',l++[.mk k n s (.mk vk vn vs vks vl) l']),key _ _ hd,by show 4-(i+1) < 4-i;omega,Le.of_eq (by simp[nU,aD])⟩
     ·have b1:((i:Int) < aH kk)=False:=eq_false (by omega)
      have b4:(i:Int)*fb e<=3*fb e:=Int.mul_le_mul_of_nonneg_right (by omega) (by omega)
      simp only[rg,go_sem,seval,Prod.fst,b1,kA,kB,kC,kD,kE]
      repeat' (first|with_reducible assumption|with_reducible refine And.intro ?_ ?_|intro _)
      all_goals first|omega|skip
      exact eC (vks:=[]) (vl:=[]) rfl rfl rfl (pN hK.2.2 (by unfold i64;omega) (hsz) eB.1 (by have:=eB.2;show aB T.zero<=_;omega) (by omega) g5 g6 (Int.le_refl _)) (by omega) (by omega)
   ·rename_i kk hk hk21
    simp only[List.mem_cons,List.not_mem_nil,or_false] at hk
    have hK:1<=aH kk/\aH kk<=3/\i64 kk:=by
     rcases hk with rfl|rfl|rfl|rfl|rfl|rfl|rfl|rfl|rfl|rfl|rfl|rfl|rfl|rfl|rfl|rfl <;> (refine⟨?_,?_,?_⟩ <;> first|decide|(unfold i64;omega))
    refine aS (ι:=Nat × Int × List Pw.F) (fun i=>4-i.1)
     (fun i=>(i.1:Int)<=aH kk/\p+2<=i.2.1/\i.2.1<=p+10+i.1*fb e/\i.2.2.length=i.1/\bG 1000 i.2.2/\bT i.2.2/\aI i.2.2<=i.1*fb e)
     (fun i=>⟨[(0,.q (.box 60 0)),(1,.q (.c (.int .i64 d))),(4,.q (.box 4 0)),(5,.q (.box 5 0)),(6,.q (.c (.int .i64 i.1)))],
      [(60,(rdC bs i.2.1).map .c),(4,[.c (.int .i64 0),.c (.int .i64 0),.c (.str ⟨#[]⟩),.c (.int .i64 0),.c (.int .i64 0),.c (.str ⟨#[]⟩),.z 1,.z 5,.z 9]),(5,[.c (.int .i64 kk),.c (.int .i64 0),.c (.str ⟨#[]⟩),.c (.int .i64 0),.c (.int .i64 0),.c (.str ⟨#[]⟩),.z 1,.z 5,.own 48])],
      [(48,9,aD i.2.2)]⟩) (0,p+1+1,[]) ⟨by show ((0:Nat):Int)<=_;omega,by show p+2<=p+1+1;omega,by show p+1+1<=p+10+((0:Nat):Int)*fb e;simp;omega,by simp,trivial,by simp[bT],by simp[aI]⟩ ?_ ?_
    ·refine (Le.ownB (b:=5) (j:=8) (d:=48) (sz:=9) (qs:=[.c (.int .i64 kk),.c (.int .i64 0),.c (.str ⟨#[]⟩),.c (.int .i64 0),.c (.int .i64 0),.c (.str ⟨#[]⟩),.z 1,.z 5,.z 9]) (by decide) (by simp) rfl (by simp[Q.killO,rdC]) (by simp[PV.map,Q.killO])).trans (Le.of_eq ?_)
     simp[upd,del,aD]
    ·rintro⟨i,q,l⟩ ⟨g1,g2,g3,g4,g5,g6,g7⟩
     simp only at g1 g2 g3 g4 g5 g6 g7
     rcases Int.lt_or_le (i:Int) (aH kk) with hlt|hge
     ·have b1:((i:Int) < aH kk)=True:=eq_true hlt
      have b4:(i:Int)*fb e<=2*fb e:=Int.mul_le_mul_of_nonneg_right (by omega) (by omega)
      have b5:((i+1:Nat):Int)*fb e=i*fb e+fb e:=by rw[Int.natCast_add,Int.add_mul];simp
      have key:∀ (t:F) (q':Int),drF (fb e) t/\q<=q'/\q'<=q+fb e->(((i+1:Nat):Int)<=aH kk/\p+2<=q'/\q'<=p+10+((i+1:Nat):Int)*fb e/\(l++[t]).length=i+1/\bG 1000 (l++[t])/\bT (l++[t])/\aI (l++[t])<=((i+1:Nat):Int)*fb e):=fun t q' ht=>by
       have z:=ht.1.2.2
       refine⟨by omega,by omega,by omega,by simp;omega,IU g5 ⟨ht.1.1,trivial⟩,IV g6 (by simp only[bT];exact⟨ht.1.2.1,trivial⟩),?_⟩
       rw[IW];simp only[aI];omega
      by_cases c20:kk=20
      ·have b2:(kk=20)=True:=eq_true c20
       by_cases ci:(i:Int)=0
       ·have b3:((i:Int)=0)=True:=eq_true ci
        simp only[rg,go_sem,seval,Prod.fst,b1,b2,b3,bK,F.enc_len,kA,kB,kC,kD,kE,pS,pT,pU,↓ii,ii,he']
        repeat' (first|with_reducible assumption|with_reducible refine And.intro ?_ ?_|intro _)
        all_goals first|omega|skip
        rename_i k n s vk vn vs vks vl l' q' hd _ _
        refine⟨(i+1,q',l++[.mk k n s (.mk vk vn vs vks vl) l']),key _ _ hd,by show 4-(i+1) < 4-i;omega,Le.of_eq (by simp[nU,aD])⟩
       ·have b3:((i:Int)=0)=False:=eq_false ci
        simp only[rg,go_sem,seval,Prod.fst,b1,b2,b3,bK,F.enc_len,kA,kB,kC,kD,kE,pS,pT,pU,↓ii,ii,he']
        repeat' (first|with_reducible assumption|with_reducible refine And.intro ?_ ?_|intro _)
        all_goals first|omega|skip
        rename_i k n s vk vn vs vks vl l' q' hd _ _
        refine⟨(i+1,q',l++[.mk k n s (.mk vk vn vs vks vl) l']),key _ _ hd,by show 4-(i+1) < 4-i;omega,Le.of_eq (by simp[nU,aD])⟩
      ·have b2:(kk=20)=False:=eq_false c20
       simp only[rg,go_sem,seval,Prod.fst,b1,b2,bK,F.enc_len,kA,kB,kC,kD,kE,pS,pT,pU,↓ii,ii,he']
       repeat' (first|with_reducible assumption|with_reducible refine And.intro ?_ ?_|intro _)
       all_goals first|omega|skip
       rename_i k n s vk vn vs vks vl l' q' hd _ _
       refine⟨(i+1,q',l++[.mk k n s (.mk vk vn vs vks vl) l']),key _ _ hd,by show 4-(i+1) < 4-i;omega,Le.of_eq (by simp[nU,aD])⟩
     ·have b1:((i:Int) < aH kk)=False:=eq_false (by omega)
      have b4:(i:Int)*fb e<=3*fb e:=Int.mul_le_mul_of_nonneg_right (by omega) (by omega)
      simp only[rg,go_sem,seval,Prod.fst,b1,kA,kB,kC,kD,kE]
      repeat' (first|with_reducible assumption|with_reducible refine And.intro ?_ ?_|intro _)
      all_goals first|omega|skip
      exact eC (vks:=[]) (vl:=[]) rfl rfl rfl (pN hK.2.2 (by unfold i64;omega) (by decide) eB.1 (by have:=eB.2;show aB T.zero<=_;omega) (by omega) g5 g6 (Int.le_refl _)) (by omega) (by omega)
theorem aak:∀ m,Sound Tryz.prog 91 (bD m)/\Sound Tryz.prog 69 (bD m):=fun m=>by
 induction m with
 | zero=>exact⟨Sound.noneR,Sound.noneR⟩
 | succ k ih=>exact⟨aai k ih.1 ih.2,aaj k ih.1 ih.2⟩
def spFiltF :Spec:=Spec.ofR (ι:=(List Int) × Int × Int) (κ:=Int × Int × ByteArray × Int × Int × ByteArray × (List ByteArray) × (List T) × (List Pw.F) × Int) [true,false] (fun i=>[.ref (rdC i.1 i.2.1),.d (.one (.int .i64 i.2.2))]) (fun i=>byt i.1/\0<=i.2.1/\i.2.1+fb i.2.2.toNat<=1099511627776/\-1<=i.2.2/\i.2.2<=5) (fun i k=>drF (fb i.2.2.toNat) (Pw.F.mk k.1 k.2.1 k.2.2.1 (.mk k.2.2.2.1 k.2.2.2.2.1 k.2.2.2.2.2.1 k.2.2.2.2.2.2.1 k.2.2.2.2.2.2.2.1) k.2.2.2.2.2.2.2.2.1)/\i.2.1<=k.2.2.2.2.2.2.2.2.2/\k.2.2.2.2.2.2.2.2.2<=i.2.1+fb i.2.2.toNat) (fun i k=>[.d (.agg (Pw.F.mk k.1 k.2.1 k.2.2.1 (.mk k.2.2.2.1 k.2.2.2.2.1 k.2.2.2.2.2.1 k.2.2.2.2.2.2.1 k.2.2.2.2.2.2.2.1) k.2.2.2.2.2.2.2.2.1).enc)]) (fun i k=>[.ref (rdC i.1 k.2.2.2.2.2.2.2.2.2),.gone])
theorem zN:∀ i j:(List Int) × Int × Int,(fun (i:(List Int) × Int × Int)=>([.ref (rdC i.1 i.2.1),.d (.one (.int .i64 i.2.2))]:List AV)) i=(fun (i:(List Int) × Int × Int)=>([.ref (rdC i.1 i.2.1),.d (.one (.int .i64 i.2.2))]:List AV)) j->i=j:=by
 rintro⟨bs,p,d⟩ ⟨bs',p',d'⟩ h
 simp only[Prod.mk.injEq]
 simpa [ar,T.enc_eq,au,F.enc_eq,av,Tk.enc_eq,aw,Gn.enc_eq,aq,dG,and_assoc] using h
theorem aal :(spFiltF).md=[true,false]:=rfl
theorem aam  (bs:List Int) (p:Int) (d:Int):(spFiltF).pre [.ref (rdC bs p),.d (.one (.int .i64 d))]=(byt bs/\0<=p/\p+fb d.toNat<=1099511627776/\-1<=d/\d<=5):=Spec.ofR_pre zN (bs,p,d)
theorem aan  (bs:List Int) (p:Int) (d:Int):(spFiltF).ne [.ref (rdC bs p),.d (.one (.int .i64 d))]=(∃ k:Int × Int × ByteArray × Int × Int × ByteArray × (List ByteArray) × (List T) × (List Pw.F) × Int,drF (fb d.toNat) (Pw.F.mk k.1 k.2.1 k.2.2.1 (.mk k.2.2.2.1 k.2.2.2.2.1 k.2.2.2.2.2.1 k.2.2.2.2.2.2.1 k.2.2.2.2.2.2.2.1) k.2.2.2.2.2.2.2.2.1)/\p<=k.2.2.2.2.2.2.2.2.2/\k.2.2.2.2.2.2.2.2.2<=p+fb d.toNat):=Spec.ofR_ne zN (bs,p,d)
theorem JN  (bs:List Int) (p:Int) (d:Int) (F:List AV->List AV->Prop):(spFiltF).all [.ref (rdC bs p),.d (.one (.int .i64 d))] F=(∀ (k:Int) (n:Int) (s:ByteArray) (vk:Int) (vn:Int) (vs:ByteArray) (vks:List ByteArray) (vl:List T) (l:List Pw.F) (q:Int),(drF (fb d.toNat) (Pw.F.mk k n s (.mk vk vn vs vks vl) l)/\p<=q/\q<=p+fb d.toNat)->F [.d (.agg (Pw.F.mk k n s (.mk vk vn vs vks vl) l).enc)] [.ref (rdC bs q),.gone]):=by
 refine (Spec.ofR_all zN (bs,p,d) F).trans (propext ⟨fun h k n s vk vn vs vks vl l q hr=>h (k,n,s,vk,vn,vs,vks,vl,l,q) hr,fun h k hr=>?_⟩)
 exact h k.1 k.2.1 k.2.2.1 k.2.2.2.1 k.2.2.2.2.1 k.2.2.2.2.2.1 k.2.2.2.2.2.2.1 k.2.2.2.2.2.2.2.1 k.2.2.2.2.2.2.2.2.1 k.2.2.2.2.2.2.2.2.2 hr
theorem aao (bs:List Int) (p d:Int):spFiltF.ne [.ref (rdC bs p),.d (.one (.int .i64 d))]=True:=by
 rw[aan]
 have:=lX d.toNat
 exact eq_true ⟨(0,0,⟨#[]⟩,0,0,⟨#[]⟩,[],[],[],p),(ig (k:=0) (n:=0) (s:=⟨#[]⟩) (by unfold i64;omega) (by unfold i64;omega) (by decide)).mono (by omega),Int.le_refl _,by show p<=p+fb d.toNat;omega⟩
theorem aap:Sound Tryz.prog 69 spFiltF:=Sound.allR (fun i=>i.2.2.toNat) (fun k=>(aak k).2)
def spSomeF :Spec:=Spec.ofR (ι:=(List Int) × Int) (κ:=Int × Int × ByteArray × Int × Int × ByteArray × (List ByteArray) × (List T) × (List Pw.F) × Int) [true] (fun i=>[.ref (rdC i.1 i.2)]) (fun i=>byt i.1/\0<=i.2/\i.2+150000<=1099511627776) (fun i k=>drF 140000 (Pw.F.mk k.1 k.2.1 k.2.2.1 (.mk k.2.2.2.1 k.2.2.2.2.1 k.2.2.2.2.2.1 k.2.2.2.2.2.2.1 k.2.2.2.2.2.2.2.1) k.2.2.2.2.2.2.2.2.1)/\i.2<=k.2.2.2.2.2.2.2.2.2/\k.2.2.2.2.2.2.2.2.2<=i.2+150000) (fun i k=>[.d (.agg (Pw.F.mk k.1 k.2.1 k.2.2.1 (.mk k.2.2.2.1 k.2.2.2.2.1 k.2.2.2.2.2.1 k.2.2.2.2.2.2.1 k.2.2.2.2.2.2.2.1) k.2.2.2.2.2.2.2.2.1).enc)]) (fun i k=>[.ref (rdC i.1 k.2.2.2.2.2.2.2.2.2)])
theorem zO:∀ i j:(List Int) × Int,(fun (i:(List Int) × Int)=>([.ref (rdC i.1 i.2)]:List AV)) i=(fun (i:(List Int) × Int)=>([.ref (rdC i.1 i.2)]:List AV)) j->i=j:=by
 rintro⟨bs,p⟩ ⟨bs',p'⟩ h
 simp only[Prod.mk.injEq]
 simpa [ar,T.enc_eq,au,F.enc_eq,av,Tk.enc_eq,aw,Gn.enc_eq,aq,dG,and_assoc] using h
theorem aaq :(spSomeF).md=[true]:=rfl
theorem aar  (bs:List Int) (p:Int):(spSomeF).pre [.ref (rdC bs p)]=(byt bs/\0<=p/\p+150000<=1099511627776):=Spec.ofR_pre zO (bs,p)
theorem aas  (bs:List Int) (p:Int):(spSomeF).ne [.ref (rdC bs p)]=(∃ k:Int × Int × ByteArray × Int × Int × ByteArray × (List ByteArray) × (List T) × (List Pw.F) × Int,drF 140000 (Pw.F.mk k.1 k.2.1 k.2.2.1 (.mk k.2.2.2.1 k.2.2.2.2.1 k.2.2.2.2.2.1 k.2.2.2.2.2.2.1 k.2.2.2.2.2.2.2.1) k.2.2.2.2.2.2.2.2.1)/\p<=k.2.2.2.2.2.2.2.2.2/\k.2.2.2.2.2.2.2.2.2<=p+150000):=Spec.ofR_ne zO (bs,p)
theorem JO  (bs:List Int) (p:Int) (F:List AV->List AV->Prop):(spSomeF).all [.ref (rdC bs p)] F=(∀ (k:Int) (n:Int) (s:ByteArray) (vk:Int) (vn:Int) (vs:ByteArray) (vks:List ByteArray) (vl:List T) (l:List Pw.F) (q:Int),(drF 140000 (Pw.F.mk k n s (.mk vk vn vs vks vl) l)/\p<=q/\q<=p+150000)->F [.d (.agg (Pw.F.mk k n s (.mk vk vn vs vks vl) l).enc)] [.ref (rdC bs q)]):=by
 refine (Spec.ofR_all zO (bs,p) F).trans (propext ⟨fun h k n s vk vn vs vks vl l q hr=>h (k,n,s,vk,vn,vs,vks,vl,l,q) hr,fun h k hr=>?_⟩)
 exact h k.1 k.2.1 k.2.2.1 k.2.2.2.1 k.2.2.2.2.1 k.2.2.2.2.2.1 k.2.2.2.2.2.2.1 k.2.2.2.2.2.2.2.1 k.2.2.2.2.2.2.2.2.1 k.2.2.2.2.2.2.2.2.2 hr
theorem aat (bs:List Int) (p:Int):spSomeF.ne [.ref (rdC bs p)]=True:=by
 rw[aas]
 exact eq_true ⟨(0,0,⟨#[]⟩,0,0,⟨#[]⟩,[],[],[],p),(ig (k:=0) (n:=0) (s:=⟨#[]⟩) (by unfold i64;omega) (by unfold i64;omega) (by decide)).mono (by omega),Int.le_refl _,by show p<=p+150000;omega⟩
end Go.Proofs.Pw
