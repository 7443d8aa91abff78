/- Drawing: a tree, one in twelve bent. -/
import Derived.Test.YtcligmgalcidpaaGreatDoorPwT18
import Derived.Test.YtcligmgalcidpaaGreatDoorPwT11
import Derived.Test.YtcligmgalcidpaaGreatDoorPwT12
import Derived.Test.YtcligmgalcidpaaGreatDoorPwT10
import Derived.Test.YtcligmgalcidpaaGreatDoorPwT14
import Derived.Test.YtcligmgalcidpaaGreatDoorPwT17
import Derived.Test.YtcligmgalcidpaaGreatDoorPwT15
set_option linter.unusedSimpArgs false
set_option linter.unusedVariables false
set_option linter.unusedSectionVars false
set_option maxRecDepth 20000
namespace Go.Proofs.Pw
variable [Globs]
def Ep:X:=(.seq (.reg [xS 2 (.alloc xV)] none [0,2]) (.seq (.reg [xM 5 0,xS 6 (.callr 71 [(.t 5)]),xS 3 (.alloc xV),xW 3 6 5] none [0,2,3]) (.seq (.seq (.reg [xM 7 0,xS 8 (.callr 38 [(.t 7),(xK 60)])] none [0,2,3,8]) (.block 0 (.seq (.reg [xS 10 (.bin false .eql (.t 8) (xK 0)),xM 9 10] none [0,2,3,8,9]) (.cond (.t 9) (.reg [xM 11 0,xS 12 (.bsl 1 [((.k (.c (.int .i64 (-1)))),none),((xK 7),none),((xK 5),none),((xK 6),none),((xK 3),none)]),xS 13 (.callr 41 [(.t 11),(.t 12)]),xS 14 (.fa (.t 3) 0),⟨none,none,.st (.t 14) (.t 13) none⟩] none [2,3]) (.seq (.reg [xS 16 (.bin false .eql (.t 8) (xK 1)),xM 15 16] none [0,2,3,8,15]) (.cond (.t 15) (.reg [xM 17 0,xS 18 (.bsl 1 [((xK 1),none),((xK 1000001),none),((.k (.c (.int .i64 (-1000001)))),none)]),xS 19 (.callr 41 [(.t 17),(.t 18)]),xS 20 (.fa (.t 3) 1),⟨none,none,.st (.t 20) (.t 19) none⟩] none [2,3]) (.seq (.reg [xS 22 (.bin false .eql (.t 8) (xK 2)),xM 21 22] none [0,2,3,8,21]) (.cond (.t 21) (.reg [xM 23 0,xS 24 (.bsl 1 [((.k (.c (.str ⟨#[65]⟩))),none),((.k (.c (.str ⟨#[97,98,99,100,101,102,103,104,105,106,107,108,109]⟩))),none),((.k (.c (.str ⟨#[97]⟩))),none)]),xS 25 (.callr 39 [(.t 23),(.t 24)]),xS 26 (.fa (.t 3) 2),⟨none,none,.st (.t 26) (.t 25) none⟩] none [2,3]) (.seq (.reg [xS 28 (.bin false .eql (.t 8) (xK 3)),xM 27 28] none [2,3,8,27]) (.cond (.t 27) (.reg [xS 29 (.fa (.t 3) 3),xL 30 29,xS 31 (.bsl 1 [((.k (.c (.str ⟨#[97]⟩))),none)]),xS 32 (.app (.t 30) (.t 31) 1 16 []),xS 33 (.fa (.t 3) 3),⟨none,none,.st (.t 33) (.t 32) none⟩] none [2,3]) (.seq (.reg [xS 35 (.bin false .eql (.t 8) (xK 4)),xM 34 35] none [2,3,34]) (.cond (.t 34) (.seq (.reg [xS 4 (.mv (xK 0))] none [2,3,4]) (.block 1 (.loop (.seq (.seq (.reg [xM 36 4,xS 37 (.bin false .lss (.t 36) (xK 6))] none [2,3,4,37]) (.cond (.t 37) .skip (.exit 1))) (.seq (.block 2 (.reg [xS 40 (.load (.t 3) (some 5)),xS 41 (.bsl 5 [((.t 40),(some 5))]),xS 42 (.build xV [(0,(xK 5),none),(4,(.t 41),none)]),xW 3 42 5] none [2,3,4])) (.reg [xM 38 4,xS 39 (.bin false .add (.t 38) (xK 1)),xM 4 39] none [2,3,4])))))) .skip)))))))))))) (.seq (.reg [xS 43 (.load (.t 3) (some 5)),xW 2 43 5] none [2]) .ret))))
theorem Ra:al Tryz.prog 44 (Tryz.f42.body.getD .skip) Ep=true:=by kernel_rfl
theorem Rb:am Tryz.prog Tryz.f42.results.toList [.cell 2 (some 5)]=true:=by kernel_rfl
theorem Rd:aw Tryz.prog 42=true:=by kernel_rfl
def drW (m:Int) (t:T):Prop:=t.fit 100000/\aA t<=m/\pU 7 t
theorem drW.fit {m:Int} {t:T} (h:drW m t):t.fit 140737488355328:=T.fit_mono (by decide) h.1
theorem drW.mono {m n:Int} (hmn:m<=n) {t:T} (h:drW m t):drW n t:=⟨h.1,Int.le_trans h.2.1 hmn,h.2.2⟩
theorem drT.w {m:Int} {t:T} (h:drT m t):drW m t:=⟨T.fit_mono (by decide) h.1,h.2.1,by obtain⟨k,n,s,ks,l⟩:=t;exact⟨Nat.le_succ_of_le h.2.2.1,Nat.le_succ_of_le h.2.2.2⟩⟩
def spBent :Spec:=Spec.ofR (ι:=(List Int) × Int) (κ:=Int × Int × ByteArray × (List ByteArray) × (List T) × Int) [true] (fun i=>[.ref (rdC i.1 i.2)]) (fun i=>byt i.1/\0<=i.2/\i.2+17000<=1099511627776) (fun i k=>drW 15700 (.mk k.1 k.2.1 k.2.2.1 k.2.2.2.1 k.2.2.2.2.1)/\i.2<=k.2.2.2.2.2/\k.2.2.2.2.2<=i.2+17000) (fun i k=>[.d (.agg (T.mk k.1 k.2.1 k.2.2.1 k.2.2.2.1 k.2.2.2.2.1).enc)]) (fun i k=>[.ref (rdC i.1 k.2.2.2.2.2)])
theorem wj:∀ i j:(List Int) × Int,(fun (i:(List Int) × Int)=>([.ref (rdC i.1 i.2)]:List AV)) i=(fun (i:(List Int) × Int)=>([.ref (rdC i.1 i.2)]:List AV)) j->i=j:=by
 rintro⟨bs,p⟩ ⟨bs',p'⟩ h
 simp only[Prod.mk.injEq]
 simpa [ap,T.enc_eq,aq,F.enc_eq,ar,Tk.enc_eq,au,Gn.enc_eq,ao,dn,and_assoc] using h
theorem Re :(spBent).md=[true]:=rfl
theorem Rf  (bs:List Int) (p:Int):(spBent).pre [.ref (rdC bs p)]=(byt bs/\0<=p/\p+17000<=1099511627776):=Spec.ofR_pre wj (bs,p)
theorem Rg  (bs:List Int) (p:Int):(spBent).ne [.ref (rdC bs p)]=(∃ k:Int × Int × ByteArray × (List ByteArray) × (List T) × Int,drW 15700 (.mk k.1 k.2.1 k.2.2.1 k.2.2.2.1 k.2.2.2.2.1)/\p<=k.2.2.2.2.2/\k.2.2.2.2.2<=p+17000):=Spec.ofR_ne wj (bs,p)
theorem Eq  (bs:List Int) (p:Int) (F:List AV->List AV->Prop):(spBent).all [.ref (rdC bs p)] F=(∀ (k:Int) (n:Int) (s:ByteArray) (ks:List ByteArray) (l:List T) (q:Int),(drW 15700 (.mk k n s ks l)/\p<=q/\q<=p+17000)->F [.d (.agg (T.mk k n s ks l).enc)] [.ref (rdC bs q)]):=by
 refine (Spec.ofR_all wj (bs,p) F).trans (propext ⟨fun h k n s ks l q hr=>h (k,n,s,ks,l,q) hr,fun h k hr=>?_⟩)
 exact h k.1 k.2.1 k.2.2.1 k.2.2.2.1 k.2.2.2.2.1 k.2.2.2.2.2 hr
theorem Rh (bs:List Int) (p:Int):spBent.ne [.ref (rdC bs p)]=True:=by
 rw[Rg]
 exact eq_true ⟨(0,0,⟨#[]⟩,[],[],p),(lD (k:=0) (n:=0) (s:=⟨#[]⟩) (by unfold i64;omega) (by unfold i64;omega) (by decide)).w.mono (by omega),Int.le_refl _,by show p<=p+17000;omega⟩
theorem All2.qrefl:∀ (l:List Q),All2 QLe l l
 | []=>.nil
 | q::l=>.cons (QLe.refl q) (All2.qrefl l)
theorem mE {bs:List Int} {p q k n a:Int} {s:ByteArray} {ks:List ByteArray} {l:List T} (h:drW a (.mk k n s ks l)) (hq:(p<=q/\q<=p+17000)/\a<=15700):∃ i:Int × Int × ByteArray × List ByteArray × List T × Int,
 (drW 15700 (T.mk i.1 i.2.1 i.2.2.1 i.2.2.2.1 i.2.2.2.2.1)/\p<=i.2.2.2.2.2/\i.2.2.2.2.2<=p+17000)/\(T.mk i.1 i.2.1 i.2.2.1 i.2.2.2.1 i.2.2.2.2.1).enc=[C.int .i64 k,C.int .i64 n,C.str s,C.row 1 (aa ks),C.row 5 (ai l)]/\rdC bs q=rdC bs i.2.2.2.2.2 :=
 ⟨(k,n,s,ks,l,q),⟨⟨h.1,Int.le_trans h.2.1 hq.2,h.2.2⟩,hq.1⟩,rfl,rfl⟩
set_option maxHeartbeats 4000000 in
theorem Ri:Sound Tryz.prog 42 spBent:=by
 refine ec (GOK.cons (l:=[(39,spDof),(41,spDnum),(71,spSome)]) fx fy (GOK.cons my mA (GOK.cons mz mB (GOK.cons QS QZ GOK.nil)))) Tryz.func42 (c:=Tryz.f42.body.getD .skip) rfl (n:=44) rfl Ra Rb (fun _=>by simp) ?_
 ·rintro⟨bs,p⟩ ⟨hb,h1,h2⟩
  change byt bs at hb
  simp only at h1 h2
  simp only[Ep,rg,go_sem,seval,Prod.fst,oz,qS,vX,bw,de,df,dg,↓bo,bo,kv,kw,kz,↓dS,dS,kC,kD,kE,↓dT,dT,QU,QV,QX,↓Eo,Eo]
  repeat' (first|with_reducible assumption|with_reducible refine And.intro ?_ ?_|intro _)
  all_goals first|omega|skip
  ·rename_i k n s ks l q hd m _ _ x hx
   simp only[List.mem_cons,List.not_mem_nil,or_false] at hx
   obtain⟨⟨_,z2,z3,z4,z5,z6⟩,z7⟩:=hd.1.w
   exact mE ⟨⟨by unfold i64;omega,z2,z3,z4,z5,z6⟩,z7⟩ (by omega)
  ·rename_i k n s ks l q hd m _ _ _ x hx
   simp only[List.mem_cons,List.not_mem_nil,or_false] at hx
   obtain⟨⟨z1,_,z3,z4,z5,z6⟩,z7⟩:=hd.1.w
   exact mE ⟨⟨z1,by unfold i64;omega,z3,z4,z5,z6⟩,z7⟩ (by omega)
  ·rename_i k n s ks l q hd m _ _ _ _ x hx
   simp only[List.mem_cons,List.not_mem_nil,or_false] at hx
   obtain⟨⟨z1,z2,_,z4,z5,z6⟩,z7⟩:=hd.1.w
   exact mE ⟨⟨z1,z2,by unfold ab;rcases hx with rfl|rfl|rfl <;> decide,z4,z5,z6⟩,z7⟩ (by omega)
  ·have z0:=(‹drT _ _/\_›).1
   have z:cJ 1000 _:=z0.1.2.2.2.1
   have z':=z.1
   unfold ab at z'
   omega
  ·rename_i k n s ks l q hd m _ _ _ _ _ _
   have y4:cJ 1000 _:=hd.1.1.2.2.2.1
   obtain⟨⟨z1,z2,z3,_,z5,z6⟩,z7⟩:=hd.1.w
   have y1:=y4.1
   unfold ab at y1
   have e:aa ks++[[C.str ⟨#[97]⟩]]=aa (ks++[⟨#[97]⟩]):=by simp[aa]
   rw[e]
   refine mE (a:=15620) ⟨⟨z1,z2,z3,⟨by unfold ab;simp;omega,fun y hy=>?_⟩,z5,z6⟩,z7.1,z7.2.1,by have:=hd.1.2.2.2;simp;omega⟩ (by omega)
   rcases List.mem_append.1 hy with hy|hy
   ·have:=y4.2 y hy
    unfold ab at this ⊢;omega
   ·simp at hy;rw[hy];unfold ab;decide
  ·rename_i k n s ks l q hd m _ _ _ _ _ _
   refine aZ (ι:=Nat × Int × Int × ByteArray × List ByteArray × List T) (fun i=>6-i.1)
    (fun i=>i.1<=6/\drW (15620+i.1) (.mk i.2.1 i.2.2.1 i.2.2.2.1 i.2.2.2.2.1 i.2.2.2.2.2))
    (fun i=>⟨[(2,.q (.box 2 0)),(3,.q (.box 3 0)),(4,.q (.c (.int .i64 i.1)))],
     [(44,(rdC bs (q+1)).map .c),(2,[.c (.int .i64 0),.c (.int .i64 0),.c (.str ⟨#[]⟩),.z 1,.z 5]),(3,[.c (.int .i64 i.2.1),.c (.int .i64 i.2.2.1),.c (.str i.2.2.2.1),.c (.row 1 (aa i.2.2.2.2.1)),.c (.row 5 (ai i.2.2.2.2.2))])],
     []⟩) (0,k,n,s,ks,l) ⟨by simp,hd.1.w.mono (by simp)⟩ ?_ ?_
   ·exact (Le.pub 700003 _).trans (Le.of_eq (by simp[St.pub,get?,St.map,PV.map,Q.pub,del,rdC]))
   ·rintro⟨i,k,n,s,ks,l⟩ ⟨g1,g2⟩
    simp only at g1 g2
    rcases Nat.lt_or_ge i 6 with hlt|hge
    ·have b1:((i:Int) < 6)=True:=eq_true (by omega)
     simp only[rg,go_sem,seval,Prod.fst,b1]
     repeat' (first|with_reducible assumption|with_reducible refine And.intro ?_ ?_|intro _)
     all_goals first|omega|skip
     have hh:drW (15620+((i+1:Nat):Int)) (.mk 5 0 ⟨#[]⟩ [] [.mk k n s ks l]):=by
      refine⟨⟨by unfold i64;omega,by unfold i64;omega,by unfold ab;decide,⟨by unfold ab;decide,by simp⟩,by unfold ab;simp,g2.1,trivial⟩,?_,by simp[pU]⟩
      have:=g2.2.1
      simp only[aA,av] at this ⊢
      simp only[Int.natCast_add];omega
     refine⟨(i+1,5,0,⟨#[]⟩,[],[.mk k n s ks l]),⟨by show i+1<=6;omega,hh⟩,by show 6-(i+1) < 6-i;omega,Le.bx ?_⟩
     ·intro p hp
      simp only[List.mem_cons,List.not_mem_nil,or_false] at hp
      rcases hp with rfl|rfl|rfl
      ·exact⟨_,by simp,All2.qrefl _⟩
      ·exact⟨_,by simp,All2.qrefl _⟩
      ·refine⟨_,List.mem_cons_of_mem _ (List.mem_cons_of_mem _ (List.mem_cons_self ..)),?_⟩
       exact .cons (QLe.refl _) (.cons (QLe.refl _) (.cons (QLe.refl _) (.cons (QLe.z 1) (.cons (QLe.full _ _) .nil))))
    ·have b1:((i:Int) < 6)=False:=eq_false (by omega)
     simp only[rg,go_sem,seval,Prod.fst,b1]
     repeat' (first|with_reducible assumption|with_reducible refine And.intro ?_ ?_|intro _)
     all_goals first|omega|skip
     exact mE g2 (by omega)
  ·rename_i k n s ks l q hd m _ _ _ _ _ _
   exact mE hd.1.w (by omega)
end Go.Proofs.Pw
namespace Go.Proofs.Pw
variable [Globs]
def wk:X:=(.seq (.reg [xS 2 (.mv (.k .no))] none [0]) (.seq (.seq (.reg [xM 3 0,xS 4 (.len (.t 3) false),xS 5 (.bin false .gtr (.t 4) (xK 2000))] none [0,5]) (.cond (.t 5) (.reg [xM 6 0,xS 7 (.sub (.t 6) none (some (xK 2000)) 1),xM 0 7] none [0]) .skip)) (.seq (.reg [xM 8 0,xS 9 (.build [(.z 1),(.c (.int .i64 0))] [(0,(.t 8),none)]),xS 10 (.box (.t 9) (some 2)),xM 2 10] none [2]) .ret)))
theorem Rj:al Tryz.prog 11 (Tryz.f19.body.getD .skip) wk=true:=by kernel_rfl
theorem Rk:am Tryz.prog Tryz.f19.results.toList [.tmp 2]=true:=by kernel_rfl
theorem Rl:aw Tryz.prog 19=true:=by kernel_rfl
noncomputable def mF :Spec:=Spec.of (ι:=(List Int)) [false] (fun i=>[.d (.one (.row 1 (aF .u8 i)))]) (fun i=>ab 140737488355328 i.length) (fun i=>[.ref (rdC (i.take 2000) 0)]) (fun _=>[.gone])
theorem qV:∀ i j:(List Int),(fun (i:(List Int))=>([.d (.one (.row 1 (aF .u8 i)))]:List AV)) i=(fun (i:(List Int))=>([.d (.one (.row 1 (aF .u8 i)))]:List AV)) j->i=j:=by
 intro bs bs' h
 simpa [ap,T.enc_eq,aq,F.enc_eq,ar,Tk.enc_eq,au,Gn.enc_eq,ao,dn,and_assoc] using h
theorem Rm :(mF).md=[false]:=rfl
theorem Rn  (bs:List Int):(mF).pre [.d (.one (.row 1 (aF .u8 bs)))]=(ab 140737488355328 bs.length):=Spec.of_pre' qV bs
theorem Ro :(mF).alts=none:=rfl
theorem Rp  (bs:List Int):(mF).res [.d (.one (.row 1 (aF .u8 bs)))]=[.ref (rdC (bs.take 2000) 0)]:=Spec.of_res qV bs
theorem Rq  (bs:List Int):(mF).out [.d (.one (.row 1 (aF .u8 bs)))]=[.gone]:=Spec.of_out qV bs
theorem Rr:Sound Tryz.prog 19 mF:=by
 refine aQ GOK.nil Tryz.func19 (c:=Tryz.f19.body.getD .skip) rfl (n:=11) rfl Rj Rk (fun _=>by simp) ?_ ?_
 ·exact qV
 ·intro bs h1
  simp only[ab] at h1
  by_cases c:(bs.length:Int) > 2000
  ·have a1:((bs.length:Int) > 2000)=True:=eq_true c
   have a2:((2000:Int) < bs.length)=True:=eq_true (by omega)
   simp only[wk,rg,go_sem,seval,Prod.fst,gR,a1,a2]
   repeat' (first|with_reducible assumption|with_reducible refine And.intro ?_ ?_|intro _)
   all_goals first|omega|skip
   simp[rdC,aF,List.map_take]
  ·have a1:((bs.length:Int) > 2000)=False:=eq_false c
   have a2:((2000:Int) < bs.length)=False:=eq_false (by omega)
   have a3:bs.take 2000=bs:=List.take_of_length_le (by omega)
   simp only[wk,rg,go_sem,seval,Prod.fst,gR,a1,a2,a3]
   rfl
theorem Rs {bs:List Int} (h:∀ b ∈ bs,0<=b/\b<=255):byt (bs.take 2000):=⟨fun b hb=>h b (List.mem_of_mem_take hb),by simp;omega⟩
end Go.Proofs.Pw
namespace Go.Proofs.Pw
variable [Globs]
noncomputable instance (x:T) (l:List T):Decidable (x ∈ l):=Classical.propDecidable _
end Go.Proofs.Pw
namespace Go.Proofs.Pw
variable [Globs]
end Go.Proofs.Pw
namespace Go.Proofs.Pw
variable [Globs]
end Go.Proofs.Pw
namespace Go.Proofs.Pw
variable [Globs]
def wl:X:=(.seq (.reg [xS 1 (.box (.t 0) (some 5)),xS 2 (.mv (.k (.c (.str ⟨#[]⟩))))] none [1]) (.seq (.seq (.reg [xS 3 (.load (.t 1) (some 5)),xS 4 (.call 57 [(.t 3)]),xS 5 (.not (.t 4))] none [1,5]) (.cond (.t 5) (.seq (.reg [xS 2 (.mv (.k (.c (.str ⟨#[]⟩))))] none [2]) .ret) .skip)) (.seq (.reg [xS 6 (.load (.t 1) (some 5)),xS 7 (.call 43 [(.t 6)]),xM 2 7] none [2]) .ret)))
theorem Rt:al Tryz.prog 8 (Tryz.f101.body.getD .skip) wl=true:=by kernel_rfl
theorem Ru:am Tryz.prog Tryz.f101.results.toList [.tmp 2]=true:=by kernel_rfl
theorem Rv:aw Tryz.prog 101=true:=by kernel_rfl
theorem q10:(ByteArray.mk #[10]).size=1:=rfl
noncomputable def kF :Spec:=Spec.of (ι:=T) [false] (fun i=>[.d (.agg i.enc)]) (fun i=>i.fit 140737488355328/\aA i<=1048577) (fun i=>[.d (.one (.str (iX i)))]) (fun _=>[.gone])
theorem qW:∀ i j:T,(fun (i:T)=>([.d (.agg i.enc)]:List AV)) i=(fun (i:T)=>([.d (.agg i.enc)]:List AV)) j->i=j:=by
 intro t t' h
 simpa [ap,T.enc_eq,aq,F.enc_eq,ar,Tk.enc_eq,au,Gn.enc_eq,ao,NK,NU,Stp.enc_eq] using h
theorem Er :(kF).md=[false]:=rfl
theorem Es  (t:T):(kF).pre [.d (.agg t.enc)]=(t.fit 140737488355328/\aA t<=1048577):=Spec.of_pre' qW t
theorem Et :(kF).alts=none:=rfl
theorem Eu  (t:T):(kF).res [.d (.agg t.enc)]=[.d (.one (.str (iX t)))]:=Spec.of_res qW t
theorem Ev  (t:T):(kF).out [.d (.agg t.enc)]=[.gone]:=Spec.of_out qW t
theorem Rw (hK:tabK):Sound Tryz.prog 101 kF:=by
 refine aQ (GOK.cons (l:=[(43,gp)]) AW Be (GOK.cons vF (DA hK) GOK.nil)) Tryz.func101 (c:=Tryz.f101.body.getD .skip) rfl (n:=8) rfl Rt Ru (fun _=>by simp) ?_ ?_
 ·exact qW
 ·rintro t ⟨h1,h2⟩
  by_cases c:okT t
  ·have h4:=vI c
   have e:((okI t 1 60).1=true)=True:=eq_true ((qf t).2 c)
   simp only[wl,rg,go_sem,seval,Prod.fst,T.enc_len,e,c,iX,if_true,tZ,ua,uc,ud,ue,vK,vL,vM,vN,vO]
   repeat' (first|with_reducible assumption|with_reducible refine And.intro ?_ ?_|intro _)
   all_goals first|omega|with_reducible assumption|skip
  ·have e:((okI t 1 60).1=true)=False:=eq_false (fun h=>c ((qf t).1 h))
   simp only[wl,rg,go_sem,seval,Prod.fst,T.enc_len,e,c,iX,if_false,tZ,ua,uc,ud,ue]
   repeat' (first|with_reducible assumption|with_reducible refine And.intro ?_ ?_|intro _)
   all_goals first|omega|with_reducible assumption|skip
end Go.Proofs.Pw
namespace Go.Proofs.Pw
variable [Globs]
def oA:X:=(.seq (.reg [xS 2 (.alloc xV),xS 3 (.mv (.k (.c (.bool false))))] none [0,2]) (.seq (.seq (.reg [xM 6 0,xS 7 (.bin false .eql (.t 6) (.k (.c (.str ⟨#[]⟩)))),xM 8 7,xH 9 8 (.mv (.t 0)),xH 10 8 (.len (.t 9) true),xH 11 8 (.bin false .gtr (.t 10) (xK 2500)),xS 12 (.pick (.t 8) (.k (.c (.bool true))) (.t 11))] none [0,2,12]) (.cond (.t 12) (.seq (.reg [xS 13 (.build xV []),xW 2 13 5,xS 3 (.mv (.k (.c (.bool false))))] none [2,3]) .ret) .skip)) (.seq (.reg [xM 14 0,xS 15 (.build [(.c (.str ⟨#[]⟩)),(.c (.int .i64 0))] [(0,(.t 14),none)]),xS 16 (.box (.t 15) (some 2)),xM 4 16] none [0,2,4]) (.seq (.reg [xM 17 4,xS 18 (.callr 100 [(.t 17),(xK 1)]),xS 5 (.alloc xV),xW 5 18 5] none [0,2,5]) (.seq (.seq (.reg [xS 19 (.load (.t 5) (some 5)),xS 20 (.call 101 [(.t 19)]),xM 21 0,xS 22 (.bin false .neq (.t 20) (.t 21))] none [2,5,22]) (.cond (.t 22) (.seq (.reg [xS 23 (.build xV []),xW 2 23 5,xS 3 (.mv (.k (.c (.bool false))))] none [2,3]) .ret) .skip)) (.seq (.reg [xS 24 (.load (.t 5) (some 5)),xS 25 (.call 53 [(.t 24)]),xW 2 25 5,xS 3 (.mv (.k (.c (.bool true))))] none [2,3]) .ret))))))
theorem Rx:al Tryz.prog 26 (Tryz.f81.body.getD .skip) oA=true:=by kernel_rfl
theorem Ry:am Tryz.prog Tryz.f81.results.toList [.cell 2 (some 5),.tmp 3]=true:=by kernel_rfl
theorem Rz:aw Tryz.prog 81=true:=by kernel_rfl
noncomputable def kG :Spec:=Spec.of (ι:=ByteArray) [false] (fun i=>[.d (.one (.str i))]) (fun i=>ab 140737488355328 i.size) (fun i=>[.d (.agg (cl i).enc),.d (.one (.bool (decide (bS i))))]) (fun _=>[.gone])
theorem wm:∀ i j:ByteArray,(fun (i:ByteArray)=>([.d (.one (.str i))]:List AV)) i=(fun (i:ByteArray)=>([.d (.one (.str i))]:List AV)) j->i=j:=by
 intro s s' h
 simpa [ap,T.enc_eq,aq,F.enc_eq,ar,Tk.enc_eq,au,Gn.enc_eq,ao] using h
theorem RA :(kG).md=[false]:=rfl
theorem RB  (s:ByteArray):(kG).pre [.d (.one (.str s))]=(ab 140737488355328 s.size):=Spec.of_pre' wm s
theorem Ew :(kG).alts=none:=rfl
theorem Ey  (s:ByteArray):(kG).res [.d (.one (.str s))]=[.d (.agg (cl s).enc),.d (.one (.bool (decide (bS s))))]:=Spec.of_res wm s
theorem Ez  (s:ByteArray):(kG).out [.d (.one (.str s))]=[.gone]:=Spec.of_out wm s
noncomputable def spReadX :Spec:=Spec.of (ι:=ByteArray) [false] (fun i=>[.d (.one (.str i))]) (fun i=>ab 140737488355328 i.size) (fun i=>[.ag (agX (cl i)),.d (.one (.bool (decide (bS i))))]) (fun _=>[.gone])
theorem qX:∀ i j:ByteArray,(fun (i:ByteArray)=>([.d (.one (.str i))]:List AV)) i=(fun (i:ByteArray)=>([.d (.one (.str i))]:List AV)) j->i=j:=by
 intro s s' h
 simpa [ap,T.enc_eq,aq,F.enc_eq,ar,Tk.enc_eq,au,Gn.enc_eq,ao] using h
theorem RC  (s:ByteArray):(spReadX).pre [.d (.one (.str s))]=(ab 140737488355328 s.size):=Spec.of_pre' qX s
theorem RD :(spReadX).alts=none:=rfl
theorem EA  (s:ByteArray):(spReadX).res [.d (.one (.str s))]=[.ag (agX (cl s)),.d (.one (.bool (decide (bS s))))]:=Spec.of_res qX s
theorem RE  (s:ByteArray):(spReadX).out [.d (.one (.str s))]=[.gone]:=Spec.of_out qX s
theorem EB (t:T):(agX t).map Pt.toC=t.enc:=by cases t;simp[agX,Pt.toC,T.enc,dV,iL,lX]
theorem EC (s:ByteArray):[C.str s,C.int .i64 0]=aH s 0:=rfl
set_option maxHeartbeats 1000000 in
theorem RF (hE:dR) (hK:tabK):Sound Tryz.prog 81 spReadX:=by
 refine aQ (GOK.cons (l:=[(101,kF),(53,jg)]) De (OO hE) (GOK.cons (l:=[(53,jg)]) Rv (Rw hK) (GOK.cons vp Dr GOK.nil))) Tryz.func81 (c:=Tryz.f81.body.getD .skip) rfl (n:=26) rfl Rx Ry (fun _=>by simp) ?_ ?_
 ·exact qX
 ·intro s h1
  change ab 140737488355328 s.size at h1
  simp only[ab] at h1
  have hz:cl s=T.zero->agX (cl s)=[.c (.int .i64 0),.c (.int .i64 0),.c (.str ⟨#[]⟩),.o 1 [],.o 5 []]:=fun h=>by rw[h];rfl
  have q0:(s=⟨#[]⟩)=(s.size=0):=propext ⟨fun h=>by rw[h];rfl,fun h=>ByteArray.ext (Array.eq_empty_of_size_eq_zero h)⟩
  by_cases c0:s.size=0
  ·have e:¬ bS s:=fun h=>(Dk h).1 c0
   have a0:(s=⟨#[]⟩)=True:=by rw[q0];exact eq_true c0
   have a1:=hz (qK e)
   have a2:bS s=False:=eq_false e
   simp only[oA,rg,go_sem,seval,Prod.fst,a0,a1,a2]
   repeat' (first|with_reducible assumption|with_reducible refine And.intro ?_ ?_|intro _)
   all_goals first|omega|skip
  have a0:(s=⟨#[]⟩)=False:=by rw[q0];exact eq_false c0
  by_cases c1:2500 < s.size
  ·have e:¬ bS s:=fun h=>by have:=(Dk h).2;omega
   have a3:((2500:Int) < (s.size:Int))=True:=eq_true (by omega)
   have a1:=hz (qK e)
   have a2:bS s=False:=eq_false e
   simp only[oA,rg,go_sem,seval,Prod.fst,a0,a1,a2,a3]
   repeat' (first|with_reducible assumption|with_reducible refine And.intro ?_ ?_|intro _)
   all_goals first|omega|skip
  have a3:((2500:Int) < (s.size:Int))=False:=eq_false (by omega)
  have hl:=kj s
  have k7:((7:Int)-1).toNat=6:=rfl
  have k6:((6:Int)).toNat=6:=rfl
  obtain⟨r1,r2,r3,r4⟩:=qv 6 (tL s) 0 (Nat.zero_le _)
  have f1:(rdV 6 (tL s) 0).1.fit 140737488355328:=T.fit_mono (by omega) r4
  have f2:(rdV 6 (tL s) 0).1.fit 2000000:=T.fit_mono (by omega) r4
  have f3:aA (rdV 6 (tL s) 0).1<=1048577:=by omega
  have f4:=T.enc_len (rdV 6 (tL s) 0).1
  by_cases c2:bS s
  ·have a2:bS s=True:=eq_true c2
   obtain⟨c3,c4⟩:=(vj s).2 c2
   have a4:iX (rdV 6 (tL s) 0).1=s:=by unfold iX;rw[if_pos c3];exact c4
   have a5:=OR c2
   simp only[oA,rg,go_sem,seval,Prod.fst,a0,a2,a3,a4,a5,k7,k6,f4,Pg,EC,Dg,Dh,Di,↓qI,qI,Er,Es,Et,Eu,Ev,vr,vt,vu,vz,vC,Bool.false_or,Bool.or_true,Bool.not_true,Bool.false_eq_true]
   repeat' (first|with_reducible assumption|with_reducible refine And.intro ?_ ?_|intro _)
   all_goals first|omega|(unfold ab;omega)|skip
  ·have a2:bS s=False:=eq_false c2
   have a1:=hz (qK c2)
   have a4:(iX (rdV 6 (tL s) 0).1=s)=False:=eq_false fun h=>by
    unfold iX at h
    split at h
    ·rename_i c3;exact c2 ((vj s).1 ⟨c3,h⟩)
    ·rw[<-h] at c0;exact c0 rfl
   simp only[oA,rg,go_sem,seval,Prod.fst,a0,a1,a2,a3,a4,k7,k6,f4,EC,Dg,Dh,Di,↓qI,qI,Er,Es,Et,Eu,Ev,vr,vt,vu,vz,vC,Bool.false_or,Bool.or_true,Bool.not_true,Bool.false_eq_true]
   repeat' (first|with_reducible assumption|with_reducible refine And.intro ?_ ?_|intro _)
   all_goals first|omega|(unfold ab;omega)|skip
theorem RG (hE:dR) (hK:tabK):Sound Tryz.prog 81 kG:=by
 have h:=(RF hE hK).weak (by
  rintro ds r o ⟨s,rfl,_⟩ hm x hx
  rw[Spec.may_none RD,EA] at hm
  obtain⟨rfl,_⟩:=hm
  simp only[List.mem_cons,List.not_mem_nil,or_false] at hx
  rcases hx with rfl|rfl
  ·generalize cl s=t
   cases t;simp[AV.dt,Pt.dt,agX,dV,iL,lX]
  ·trivial)
 refine h.mono ?_
 rintro args ⟨s,rfl,hs⟩
 refine⟨(oc spReadX _).trans (RC s) ▸ hs,?_⟩
 rintro r o hm
 have hn:spReadX.weak.alts=none:=rfl
 rw[Spec.may_none hn] at hm
 rw[Spec.may_none Ew,Ey,Ez]
 refine⟨hm.1.trans ?_,hm.2.trans (RE s)⟩
 show (spReadX.res _).map AV.weak=_
 rw[EA]
 simp only[List.map_cons,List.map_nil,AV.weak,EB]
end Go.Proofs.Pw
namespace Go.Proofs.Pw
def eU:List UInt8->Prop
 | []=>True
 | b::_=>b=32
theorem ED {x:List UInt8} (h:eU x):lZ x:=by
 cases x with
 | nil=>trivial
 | cons b x=>exact .inr (.inr (.inr h))
theorem qY:∀ i:Fin 22,6<=i.val->i.val<=20->∀ c ∈ tL (wtab.getD i.val ⟨#[]⟩),97<=c.toNat/\c.toNat<=122:=by decide
theorem RH:∀ i j:Fin 22,6<=i.val->i.val<=20->6<=j.val->j.val<=20->tL (wtab.getD i.val ⟨#[]⟩)=tL (wtab.getD j.val ⟨#[]⟩)->i=j:=by decide
theorem RI:∀ i:Fin 22,6<=i.val->i.val<=20->tL (wtab.getD i.val ⟨#[]⟩)≠[]:=by decide
def kH (k n:Int) (s:ByteArray) (v:T):Prop:=1<=k/\k<=21/\lK k n s v/\okS s/\okT v
theorem RJ {k:Int} (h:0<=aP k):1<=k/\k<=21:=by
 unfold aP at h
 split at h
 ·omega
 split at h
 ·omega
 split at h
 ·omega
 split at h
 ·omega
 ·omega
theorem mG {k n:Int} {s:ByteArray} {v:T} {l:List F} {d:Int} (h:aM (.mk k n s v l) d):kH k n s v:=by
 simp only[aM] at h
 obtain⟨_,h2,h3,h4,_,_,h7,_⟩:=h
 have:=RJ (k:=k) (by omega)
 exact⟨this.1,this.2,h3,h4,h7⟩
def cN (k:Int) (s:ByteArray):List UInt8:=if k=21 then [109,97,107,101,58]++tL s else tL (wtab.getD k.toNat ⟨#[]⟩)
theorem jl (n:Int) (s:ByteArray) (v:T):tL (aI 2 n s v)=61::tL (az v):=by
 unfold aI;rw[if_pos rfl,cg];rfl
theorem fz (n:Int) (s:ByteArray) (v:T):tL (aI 3 n s v)=46::(tL s++[58]):=by
 unfold aI;rw[if_neg (by omega),if_pos rfl,cg,cg];rfl
theorem fC (n:Int) (s:ByteArray) (v:T):tL (aI 4 n s v)=91::(Lib.itoa n++[93]):=by
 unfold aI;rw[if_neg (by omega),if_neg (by omega),if_pos rfl,cg,cg,Ct];rfl
theorem kI (n:Int) (s:ByteArray) (v:T):tL (aI 1 n s v)=[46]:=rfl
theorem kJ (n:Int) (s:ByteArray) (v:T):tL (aI 5 n s v)=[91,93]:=rfl
theorem kK {k:Int} (n:Int) (s:ByteArray) (v:T) (h:6<=k):tL (aI k n s v)=cN k s:=by
 unfold aI cN
 rw[if_neg (by omega),if_neg (by omega),if_neg (by omega)]
 split
 ·rw[cg];rfl
 ·rfl
def lw (c:UInt8):Prop:=bg c\/c=58
theorem wn {k:Int} {s:ByteArray} (h:6<=k/\k<=21) (hs:okS s):∀ c ∈ cN k s,lw c:=by
 intro c hc
 unfold cN at hc
 split at hc
 ·rcases List.mem_append.1 hc with hc|hc
  ·simp only[List.mem_cons,List.not_mem_nil,or_false] at hc
   rcases hc with rfl|rfl|rfl|rfl|rfl
   ·exact .inl (by unfold bg;decide)
   ·exact .inl (by unfold bg;decide)
   ·exact .inl (by unfold bg;decide)
   ·exact .inl (by unfold bg;decide)
   ·exact .inr rfl
  ·exact .inl (cM hs c hc)
 ·exact .inl (qY ⟨k.toNat,by omega⟩ (by show 6<=k.toNat;omega) (by show k.toNat<=20;omega) c hc)
theorem EE {k:Int} {s:ByteArray} (h:6<=k/\k<=21):∃ c r,cN k s=c::r/\bg c:=by
 unfold cN
 split
 ·exact⟨109,_,rfl,by unfold bg;decide⟩
 ·have h1:6<=k.toNat:=by omega
  have h2:k.toNat<=20:=by omega
  obtain⟨c,r,e⟩:=List.exists_cons_of_ne_nil (RI ⟨k.toNat,by omega⟩ h1 h2)
  exact⟨c,r,e,qY ⟨k.toNat,by omega⟩ h1 h2 c (by rw[e];simp)⟩
theorem RK {k k':Int} {s s':ByteArray} (h:6<=k/\k<=21) (h':6<=k'/\k'<=21) (e:cN k s=cN k' s'):k=k'/\(k=21->s=s'):=by
 have no58:∀ {k:Int},6<=k/\k<=21->k≠21->(58:UInt8) ∉ tL (wtab.getD k.toNat ⟨#[]⟩):=fun {k} h hk hm=>by
  have:=qY ⟨k.toNat,by omega⟩ (by show 6<=k.toNat;omega) (by show k.toNat<=20;omega) 58 hm
  revert this;decide
 unfold cN at e
 split at e <;> split at e
 ·rename_i c c'
  exact⟨c.trans c'.symm,fun _=>er (List.append_cancel_left e)⟩
 ·rename_i c c'
  exact absurd (by rw[<-e];simp) (no58 h' c')
 ·rename_i c c'
  exact absurd (by rw[e];simp) (no58 h c)
 ·have:=congrArg Fin.val (RH ⟨k.toNat,by omega⟩ ⟨k'.toNat,by omega⟩ (by show 6<=k.toNat;omega) (by show k.toNat<=20;omega) (by show 6<=k'.toNat;omega) (by show k'.toNat<=20;omega) e)
  simp only at this
  exact⟨by omega,fun c=>absurd c (by assumption)⟩
def ic (k:Int):Int:=if k=2 then 61 else if k=1\/k=3 then 46 else if k=4\/k=5 then 91 else 0
theorem EF {k n:Int} {s:ByteArray} {v:T} (h:kH k n s v):∃ c r,tL (aI k n s v)=c::r/\(if c=61 then (61:Int) else if c=46 then 46 else if c=91 then 91 else 0)=ic k:=by
 obtain⟨h1,h2,_⟩:=h
 by_cases c1:k=1
 ·subst c1;exact⟨_,_,kI n s v,rfl⟩
 by_cases c2:k=2
 ·subst c2;exact⟨_,_,jl n s v,rfl⟩
 by_cases c3:k=3
 ·subst c3;exact⟨_,_,fz n s v,rfl⟩
 by_cases c4:k=4
 ·subst c4;exact⟨_,_,fC n s v,rfl⟩
 by_cases c5:k=5
 ·subst c5;exact⟨_,_,kJ n s v,rfl⟩
 obtain⟨c,r,e,hl⟩:=EE (k:=k) (s:=s) ⟨by omega,h2⟩
 refine⟨c,r,by rw[kK n s v (by omega)];exact e,?_⟩
 have hne:∀ m:UInt8,m.toNat < 97->c≠m:=fun m hm e=>by unfold bg at hl;rw[e] at hl;omega
 rw[if_neg (hne 61 (by decide)),if_neg (hne 46 (by decide)),if_neg (hne 91 (by decide))]
 unfold ic
 rw[if_neg c2,if_neg (by omega),if_neg (by omega)]
theorem RL {k n k' n':Int} {s s':ByteArray} {v v':T} {x y:List UInt8} (ha:kH k n s v) (hb:kH k' n' s' v') (hx:eU x) (hy:eU y) (h:tL (aI k n s v)++x=tL (aI k' n' s' v')++y):(k=k'/\n=n'/\s=s'/\v=v')/\x=y:=by
 have hcls:ic k=ic k':=by
  obtain⟨c,r,e1,e2⟩:=EF ha
  obtain⟨c',r',e1',e2'⟩:=EF hb
  rw[e1,e1'] at h
  simp only[List.cons_append,List.cons.injEq] at h
  rw[h.1] at e2
  exact e2.symm.trans e2'
 obtain⟨a1,a2,⟨a3,a4,a5⟩,a6,a7⟩:=ha
 obtain⟨b1,b2,⟨b3,b4,b5⟩,b6,b7⟩:=hb
 have same:k=k'->x=y->(k=4->n=n')->(k=3\/k=21->s=s')->(k=2->v=v')->(k=k'/\n=n'/\s=s'/\v=v')/\x=y:=fun e exy en es ev=>by
  subst e
  refine⟨⟨rfl,?_,?_,?_⟩,exy⟩
  ·by_cases c:k=4
   ·exact en c
   ·rw[a3.resolve_left c,b3.resolve_left c]
  ·by_cases c:k=3\/k=21
   ·exact es c
   ·rw[a4.resolve_left c,b4.resolve_left c]
  ·by_cases c:k=2
   ·exact ev c
   ·rw[a5.resolve_left c,b5.resolve_left c]
 have stopL:∀ {z:List UInt8},eU z->gY bg z:=fun {z} hz=>by
  cases z with
  | nil=>trivial
  | cons b z=>cases hz;exact oq (by decide)
 have stopW:∀ {z:List UInt8},eU z->gY lw z:=fun {z} hz=>by
  cases z with
  | nil=>trivial
  | cons b z=>cases hz;exact fun h=>h.elim (oq (by decide)) (by decide)
 have hne58:∀ {z w:List UInt8},eU z->z≠58::w:=fun {z w} hz e=>by rw[e] at hz;revert hz;show ¬ ((58:UInt8)=32);decide
 have cases3:∀ {k:Int},1<=k->k<=21->(k=2/\ic k=61)\/((k=1\/k=3)/\ic k=46)\/((k=4\/k=5)/\ic k=91)\/(6<=k/\ic k=0):=fun {k} h1 h2=>by
  unfold ic
  by_cases c2:k=2
  ·exact .inl ⟨c2,if_pos c2⟩
  by_cases c3:k=1\/k=3
  ·exact .inr (.inl ⟨c3,by rw[if_neg c2,if_pos c3]⟩)
  by_cases c4:k=4\/k=5
  ·exact .inr (.inr (.inl ⟨c4,by rw[if_neg c2,if_neg c3,if_pos c4]⟩))
  ·exact .inr (.inr (.inr ⟨by omega,by rw[if_neg c2,if_neg c3,if_neg c4]⟩))
 rcases cases3 a1 a2 with ⟨ck,e⟩|⟨ck,e⟩|⟨ck,e⟩|⟨ck,e⟩ <;> rcases cases3 b1 b2 with ⟨ck',e'⟩|⟨ck',e'⟩|⟨ck',e'⟩|⟨ck',e'⟩ <;> rw[e,e'] at hcls <;> first|(exact absurd hcls (by decide))|skip
 ·subst ck ck'
  rw[jl,jl] at h
  simp only[List.cons_append,List.cons.injEq,true_and] at h
  obtain⟨h1,h2⟩:=qt v a7.1 b7.1 (ED hx) (ED hy) h
  exact same rfl h2 (fun c=>absurd c (by decide)) (fun c=>absurd c (by decide)) (fun _=>h1)
 ·rcases ck with ck|ck <;> rcases ck' with ck'|ck' <;> subst ck ck'
  ·rw[kI,kI] at h
   exact same rfl (List.append_cancel_left h) (fun c=>absurd c (by decide)) (fun c=>absurd c (by decide)) (fun c=>absurd c (by decide))
  ·rw[kI,fz] at h
   simp only[List.cons_append,List.cons.injEq,true_and,List.nil_append,List.append_assoc] at h
   obtain⟨h1,h2⟩:=gZ (P:=bg) (a:=[]) (by simp) (cM b6) (stopL hx) (iZ 58 (by decide) _) (by simpa using h)
   exact absurd h2 (hne58 hx)
  ·rw[kI,fz] at h
   simp only[List.cons_append,List.cons.injEq,true_and,List.nil_append,List.append_assoc] at h
   obtain⟨h1,h2⟩:=gZ (P:=bg) (b:=[]) (cM a6) (by simp) (iZ 58 (by decide) _) (stopL hy) (by simpa using h)
   exact absurd h2.symm (hne58 hy)
  ·rw[fz,fz] at h
   simp only[List.cons_append,List.cons.injEq,true_and,List.nil_append,List.append_assoc] at h
   obtain⟨h1,h2⟩:=gZ (P:=bg) (cM a6) (cM b6) (iZ 58 (by decide) _) (iZ 58 (by decide) _) h
   exact same rfl (List.cons.inj h2).2 (fun c=>absurd c (by decide)) (fun _=>er h1) (fun c=>absurd c (by decide))
 ·have hno:∀ (n:Int) (z w:List UInt8),Lib.itoa n++z≠93::w:=fun n z w e=>by
   obtain⟨c,r,e2⟩:=mb n
   have hc:=ge n c (by rw[e2];simp)
   rw[e2] at e
   simp only[List.cons_append,List.cons.injEq] at e
   rw[e.1] at hc
   revert hc;decide
  have hd:∀ n:Int,∀ c ∈ Lib.itoa n,c≠93:=fun n c hc e=>by
   have:=ge n c hc
   rw[e] at this
   revert this;decide
  rcases ck with ck|ck <;> rcases ck' with ck'|ck' <;> subst ck ck'
  ·rw[fC,fC] at h
   simp only[List.cons_append,List.cons.injEq,true_and,List.nil_append,List.append_assoc] at h
   obtain⟨h1,h2⟩:=gZ (P:=fun c=>c≠93) (hd n) (hd n') (by simp[gY]) (by simp[gY]) h
   exact same rfl (List.cons.inj h2).2 (fun _=>Cs h1) (fun c=>absurd c (by decide)) (fun c=>absurd c (by decide))
  ·rw[fC,kJ] at h
   simp only[List.cons_append,List.cons.injEq,true_and,List.nil_append,List.append_assoc] at h
   exact absurd h (hno n _ _)
  ·rw[fC,kJ] at h
   simp only[List.cons_append,List.cons.injEq,true_and,List.nil_append,List.append_assoc] at h
   exact absurd h.symm (hno n' _ _)
  ·rw[kJ,kJ] at h
   exact same rfl (List.append_cancel_left h) (fun c=>absurd c (by decide)) (fun c=>absurd c (by decide)) (fun c=>absurd c (by decide))
 ·rw[kK _ _ _ ck,kK _ _ _ ck'] at h
  obtain⟨h1,h2⟩:=gZ (wn ⟨ck,a2⟩ a6) (wn ⟨ck',b2⟩ b6) (stopW hx) (stopW hy) h
  obtain⟨h3,h4⟩:=RK ⟨ck,a2⟩ ⟨ck',b2⟩ h1
  exact same h3 h2 (fun c=>by omega) (fun c=>h4 (c.resolve_left (by omega))) (fun c=>by omega)
theorem qZ (l:List F) {x:List UInt8} (hx:eU x):eU (tL (aY l)++x):=by
 cases l with
 | nil=>exact hx
 | cons t l =>
   simp only[aY,cg]
   exact rfl
mutual
theorem wo:∀ (a:F) {b:F} {d d':Int} {x y:List UInt8},aM a d->aM b d'->eU x->eU y->tL (aN a)++x=tL (aN b)++y->a=b/\x=y
 | .mk k n s v l,.mk k' n' s' v' l',d,d',x,y,ha,hb,hx,hy,h=>by
   have oa:=mG ha
   have ob:=mG hb
   simp only[aN,cg,List.append_assoc] at h
   obtain⟨⟨rfl,rfl,rfl,rfl⟩,h1⟩:=RL oa ob (qZ l hx) (qZ l' hy) h
   simp only[aM] at ha hb
   obtain⟨rfl,h2⟩:=EG l (by have:=ha.2.1;have:=hb.2.1;omega) ha.2.2.2.2.2.2.2.1 hb.2.2.2.2.2.2.2.1 hx hy h1
   exact⟨rfl,h2⟩
theorem EG:∀ (l:List F) {l':List F} {d d':Int} {x y:List UInt8},l.length=l'.length->ba l d->ba l' d'->eU x->eU y->tL (aY l)++x=tL (aY l')++y->l=l'/\x=y
 | [],[],_,_,_,_,_,_,_,_,_,h=>⟨rfl,h⟩
 | [],_::_,_,_,_,_,hl,_,_,_,_,_=>by simp at hl
 | _::_,[],_,_,_,_,hl,_,_,_,_,_=>by simp at hl
 | t::l,t'::l',d,d',x,y,hl,ha,hb,hx,hy,h=>by
   simp only[ba] at ha hb
   simp only[aY,cg,List.append_assoc] at h
   obtain⟨rfl,h1⟩:=wo t ha.1 hb.1 (qZ l hx) (qZ l' hy) (List.append_cancel_left h)
   obtain⟨rfl,h2⟩:=EG l (by simpa using hl) ha.2 hb.2 hx hy h1
   exact⟨rfl,h2⟩
end
theorem RM {a b:F} (ha:okF a) (hb:okF b) (h:cy a=cy b):a=b:=by
 unfold cy at h
 rw[if_pos ha,if_pos hb] at h
 have h1:=congrArg tL h
 exact (wo a (x:=[]) (y:=[]) ha.1 hb.1 trivial trivial (by rw[h1])).1
end Go.Proofs.Pw
