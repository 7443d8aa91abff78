/- The reference's reader of trees: brackets, and the whole. -/
import Derived.Test.YtcligmgalcidpaaGreatDoorPwT16
import Derived.Test.YtcligmgalcidpaaGreatDoorPwT15
import Derived.Test.YtcligmgalcidpaaGreatDoorPwT10
import Derived.Test.YtcligmgalcidpaaGreatDoorPwT14
import Derived.Test.YtcligmgalcidpaaGreatDoorPwT11
set_option linter.unusedSimpArgs false
set_option linter.unusedVariables false
set_option linter.unusedSectionVars false
set_option maxRecDepth 20000
namespace Go.Proofs.Pw
variable [Globs]
end Go.Proofs.Pw
namespace Go.Proofs.Pw
def bS (s:ByteArray):Prop:=∃ t,okT t/\az t=s
noncomputable instance (s:ByteArray):Decidable (bS s):=Classical.propDecidable _
noncomputable def cl (s:ByteArray):T:=if h:bS s then Classical.choose h else T.zero
theorem OP {a b:T} (ha:okT a) (hb:okT b) (h:az a=az b):a=b :=
 (qt a (b:=b) (x:=[]) (y:=[]) ha.1 hb.1 trivial trivial (by rw[h])).1
theorem qJ {s:ByteArray} {t:T} (h:okT t) (e:az t=s):bS s/\cl s=t:=by
 have h1:bS s:=⟨t,h,e⟩
 refine⟨h1,?_⟩
 unfold cl
 rw[dif_pos h1]
 have:=Classical.choose_spec h1
 exact OP this.1 h (this.2.trans e.symm)
theorem Dj {s:ByteArray} (h:bS s):okT (cl s)/\az (cl s)=s:=by
 obtain⟨t,h1,h2⟩:=h
 rw[(qJ h1 h2).2];exact⟨h1,h2⟩
theorem qK {s:ByteArray} (h:¬ bS s):cl s=T.zero:=by unfold cl;rw[dif_neg h]
theorem OQ {t:T} (h:okT t):(az t).size≠0/\(az t).size<=2500:=by
 obtain⟨c,r,e,_⟩:=kf h.1
 have h2:=om h.1
 have h3:=lQ h
 have h4:(tL (az t)).length=(az t).size:=fY _
 rw[e] at h4
 simp only[List.length_cons] at h4
 omega
theorem Dk {s:ByteArray} (h:bS s):s.size≠0/\s.size<=2500:=by
 obtain⟨t,h1,h2⟩:=h
 rw[<-h2];exact OQ h1
theorem vj (s:ByteArray):(okT (rdV 6 (tL s) 0).1/\az (rdV 6 (tL s) 0).1=s) ↔ bS s:=by
 refine⟨fun h=>⟨_,h.1,h.2⟩,?_⟩
 rintro⟨t,h1,rfl⟩
 rw[Ob h1]
 exact⟨h1,rfl⟩
theorem OR {s:ByteArray} (h:bS s):cl s=(rdV 6 (tL s) 0).1:=by
 have:=(vj s).2 h
 exact (qJ this.1 this.2).2
theorem OS (s:ByteArray):okT (cl s):=by
 by_cases h:bS s
 ·exact (Dj h).1
 ·rw[qK h];exact⟨by simp[T.zero,aK,aL,nY],by simp[T.zero,cr,bV]⟩
end Go.Proofs.Pw
namespace Go.Proofs.Pw
theorem ou {l w x:List UInt8} {p:UInt8->Bool} {a:Nat} (h:l.drop a=w++x) (hw:∀ c ∈ w,p c=true) (hx:∀ b r,x=b::r->p b=false):cj p l a=a+w.length/\sub l a (cj p l a)=w:=by
 have key:(w++x).takeWhile p=w:=by
  rw[List.takeWhile_append_of_pos hw]
  cases x with
  | nil=>simp
  | cons b r=>rw[List.takeWhile_cons_of_neg (by rw[hx b r rfl];simp),List.append_nil]
 have e1:cj p l a=a+w.length:=by unfold cj;rw[h,key]
 exact⟨e1,by rw[Oe,h,key]⟩
theorem Dl {c:UInt8} (h:bg c):bR c=true:=by unfold bR;simpa [bg] using h
theorem OT {x:List UInt8} (h:ki x):∀ b r,x=b::r->bR b=false:=fun b r e=>by
 subst e
 rcases h with rfl|rfl|rfl <;> rfl
theorem Dm {x:List UInt8} (h:ki x):∀ b r,x=b::r->eN b=false:=fun b r e=>by
 subst e
 rcases h with rfl|rfl|rfl <;> rfl
theorem OU (n:Int):∃ c r,Lib.itoa n=c::r/\(c.toNat=45\/48<=c.toNat/\c.toNat<=57):=by
 obtain⟨c,r,e⟩:=mb n
 exact⟨c,r,e,ge n c (by rw[e];simp)⟩
theorem OV {l x:List UInt8} {a:Nat} {n:Int} (h:l.drop a=Lib.itoa n++x) (hx:ki x):mc l a=a+(Lib.itoa n).length/\sub l a (mc l a)=Lib.itoa n:=by
 have hd:∀ u b,b ∈ Lib.decDigits u->eN b=true:=fun u b hb=>by
  unfold eN;simpa using iY u b hb
 have hE:mc l a=a+(Lib.itoa n).length:=by
  unfold mc
  by_cases c:n < 0
  ·have e:Lib.itoa n=45::Lib.decDigits n.natAbs:=by unfold Lib.itoa;rw[if_pos c]
   rw[e] at h ⊢
   have h2:l.drop (a+1)=Lib.decDigits n.natAbs++x:=bP (w:=[45]) h
   rw[if_pos (eO h),(ou h2 (hd _) (Dm hx)).1]
   simp only[List.length_cons];omega
  ·have e:Lib.itoa n=Lib.decDigits n.toNat:=by unfold Lib.itoa;rw[if_neg c]
   rw[e] at h ⊢
   obtain⟨y,r,e2⟩:=List.exists_cons_of_ne_nil (ke n.toNat)
   have hy:=iY n.toNat y (by rw[e2];simp)
   have h3:atB l a 45=false:=dz (r:=r++x) (c:=y) (by rw[h,e2];rfl) (fun k=>by rw[k] at hy;revert hy;decide)
   rw[h3,if_neg (by simp),(ou h (hd _) (Dm hx)).1]
 refine⟨hE,?_⟩
 unfold sub
 rw[hE,h,Nat.add_sub_cancel_left,List.take_left']
 rfl
theorem ow {l r:List UInt8} {a:Nat} {c:UInt8} (h:l.drop a=c::r):l.getD a 0=c/\a < l.length:=by
 have h1:l[a]?=some c:=by
  have:=congrArg (fun x=>x[0]?) h
  simpa using this
 refine⟨by rw[List.getD_eq_getElem?_getD,h1];rfl,?_⟩
 exact (List.getElem?_eq_some_iff.1 h1).1
theorem OW {c:UInt8} (h:c.toNat=45\/48<=c.toNat/\c.toNat<=57):bR c=false:=by unfold bR;simp;omega
mutual
theorem Dn:∀ (t:T) {d:Nat} {l:List UInt8} {a:Nat} {x:List UInt8},aK t d->aA t<=60->l.drop a=tL (az t)++x->ki x->psV d l a=(t,((a+(tL (az t)).length:Nat):Int))
 | .mk k n s ks ts,0,l,a,x,hf,_,_,_=>by simp only[aK] at hf;have:=hf.1;omega
 | .mk k n s ks ts,d+1,l,a,x,hf,hz,h,hx=>by
   have hk:=oo hf
   simp only[aK] at hf
   obtain⟨_,a2,a3,a4,a5,_,_,a8,a9,a10,a11,a12⟩:=hf
   have ed:((d+1:Nat):Int)-1=(d:Int):=by omega
   rw[ed] at a12
   simp only[aA] at hz
   have hlen:=fZ ts
   rw[ma] at h ⊢
   have word:∀ w:List UInt8,(∀ c ∈ w,bR c=true)->∀ b r,w=b::r->l.drop a=w++x->b≠91->b≠123->b≠39->psV (d+1) l a=psW l a/\sub l a (cj bR l a)=w/\cj bR l a=a+w.length:=fun w hw b r e h n1 n2 n3=>by
    have h':l.drop a=b::(r++x):=by rw[h,e];rfl
    obtain⟨g1,g2⟩:=ow h'
    obtain⟨u1,u2⟩:=ou h hw (OT hx)
    refine⟨?_,u2,u1⟩
    rw[psV,if_neg (by omega),dz h' n1,if_neg (by simp),dz h' n2,if_neg (by simp),dz h' n3,if_neg (by simp),g1,if_pos (hw b (by rw[e];simp))]
   by_cases c0:k=0
   ·subst c0
    have q2:=a2.resolve_left (by omega);have q3:=a3.resolve_left (by omega);have q4:=a4.resolve_left (by omega);have q5:=a5.resolve_left (by omega)
    subst q2 q3 q4 q5
    rw[if_pos rfl] at h ⊢
    obtain⟨e1,e2,e3⟩:=word _ (by decide) _ _ rfl h (by decide) (by decide) (by decide)
    rw[e1];unfold psW;rw[if_pos e2,e3];rfl
   rw[if_neg c0] at h ⊢
   by_cases c1:k=1
   ·subst c1
    have q2:=a2.resolve_left (by omega);have q3:=a3.resolve_left (by omega);have q4:=a4.resolve_left (by omega);have q5:=a5.resolve_left (by omega)
    subst q2 q3 q4 q5
    rw[if_pos rfl] at h ⊢
    obtain⟨e1,e2,e3⟩:=word _ (by decide) _ _ rfl h (by decide) (by decide) (by decide)
    rw[e1];unfold psW;rw[e2,if_neg (by decide),if_pos rfl,e3]
   rw[if_neg c1] at h ⊢
   by_cases c2:k=2
   ·subst c2
    have q2:=a2.resolve_left (by omega);have q3:=a3.resolve_left (by omega);have q4:=a4.resolve_left (by omega);have q5:=a5.resolve_left (by omega)
    subst q2 q3 q4 q5
    rw[if_pos rfl] at h ⊢
    obtain⟨e1,e2,e3⟩:=word _ (by decide) _ _ rfl h (by decide) (by decide) (by decide)
    rw[e1];unfold psW;rw[e2,if_neg (by decide),if_neg (by decide),if_pos rfl,e3]
   rw[if_neg c2] at h ⊢
   by_cases c3:k=3
   ·subst c3
    have q3:=a3.resolve_left (by omega);have q4:=a4.resolve_left (by omega);have q5:=a5.resolve_left (by omega)
    subst q3 q4 q5
    rw[if_pos rfl] at h ⊢
    obtain⟨c,r,e,hc⟩:=OU n
    have hne:∀ m:UInt8,m.toNat≠45->¬ (48<=m.toNat/\m.toNat<=57)->c≠m:=fun m h1 h2 e=>by rw[e] at hc;exact hc.elim h1 h2
    have h':l.drop a=c::(r++x):=by rw[h,e];rfl
    obtain⟨g1,g2⟩:=ow h'
    obtain⟨u1,u2⟩:=OV h hx
    rw[psV,if_neg (by omega),dz h' (hne _ (by decide) (by decide)),if_neg (by simp),dz h' (hne _ (by decide) (by decide)),if_neg (by simp),dz h' (hne _ (by decide) (by decide)),if_neg (by simp),g1,OW hc,if_neg (by simp)]
    unfold psN
    rw[u2,CT a8 a9,u1]
   rw[if_neg c3] at h ⊢
   have q2:=a2.resolve_left c3
   subst q2
   by_cases c4:k=4
   ·subst c4
    have q4:=a4.resolve_left (by omega);have q5:=a5.resolve_left (by omega)
    subst q4 q5
    rw[if_pos rfl] at h ⊢
    have h':l.drop a=39::(tL s++39::x):=by rw[h];simp
    obtain⟨_,g2⟩:=ow h'
    have h2:l.drop (a+1)=tL s++39::x:=bP (w:=[39]) h'
    obtain⟨u1,u2⟩:=ou (p:=bR) h2 (fun c hc=>Dl (cM a10 c hc)) (fun b r e=>by cases e;rfl)
    have h3:=bP h2
    rw[<-u1] at h3
    rw[psV,if_neg (by omega),dz h' (by decide),if_neg (by simp),dz h' (by decide),if_neg (by simp),if_pos (eO h'),if_pos (eO h3),u2,u1,ja]
    simp only[List.length_cons,List.length_append,List.length_nil,Prod.mk.injEq,true_and]
    omega
   rw[if_neg c4] at h ⊢
   have q3:=a3.resolve_left c4
   subst q3
   by_cases c6:k=6
   ·subst c6
    rw[if_pos rfl] at h ⊢
    obtain⟨g1,g2⟩:=a11 rfl
    have ok:∀ s ∈ ks,okS s:=fun s hs=>by
     obtain⟨i,hi⟩:=List.getElem?_of_mem hs
     exact fW g2 hi
    have h':l.drop a=123::(TMj ks ts++125::x):=by rw[h];simp
    obtain⟨_,gl⟩:=ow h'
    have h2:l.drop (a+1)=TMj ks ts++125::x:=bP (w:=[123]) h'
    rw[psV,if_neg (by omega),dz h' (by decide),if_neg (by simp),if_pos (eO h')]
    cases ts with
    | nil =>
      rw[List.length_nil] at g1
      have:=List.eq_nil_of_length_eq_zero g1
      subst this
      rw[if_pos (eO h2)]
      simp[TMj]
    | cons t ts =>
      cases ks with
      | nil=>simp at g1
      | cons z ks =>
        have hno:atB l (a+1) 125=false:=by
         cases hz':tL z with
         | nil =>
           have:l.drop (a+1)=58::(tL (az t)++TM ks ts++125::x):=by rw[h2];simp[TMj,hz']
           exact dz this (by decide)
         | cons b r =>
           have:l.drop (a+1)=b::(r++58::(tL (az t)++TM ks ts++125::x)):=by rw[h2];simp[TMj,hz']
           refine dz this fun e=>?_
           have:=cM (ok z (by simp)) b (by rw[hz'];simp)
           rw[e] at this
           exact oq (by decide) this
        have hr:=Dp (t::ts) (c:=61) (ks:=z::ks) (by simp) (by simp only[List.length_cons] at hlen ⊢;omega) g1 ok a12 (by omega) h2
        rw[hno,if_neg (by simp),hr]
        simp only[List.length_cons,List.length_append,List.length_nil,Prod.mk.injEq,true_and]
        omega
   rw[if_neg c6] at h ⊢
   have q4:=a4.resolve_left c6
   subst q4
   have c5:k=5:=by
    have h0:=hk.1
    have h6:=hk.2
    omega
   subst c5
   have h':l.drop a=91::(TRj ts++93::x):=by rw[h];simp
   obtain⟨_,gl⟩:=ow h'
   have h2:l.drop (a+1)=TRj ts++93::x:=bP (w:=[91]) h'
   rw[psV,if_neg (by omega),if_pos (eO h')]
   cases ts with
   | nil =>
     rw[if_pos (eO h2)]
     simp[TRj]
   | cons t ts =>
     have hno:atB l (a+1) 93=false:=by
      have hft:=a12
      simp only[aL] at hft
      obtain⟨c,r,e,_,hne,_⟩:=kf hft.1
      have:l.drop (a+1)=c::(r++TR ts++93::x):=by rw[h2];simp[TRj,e]
      exact dz this hne
     have hr:=Do (t::ts) (c:=61) (by simp) (by simp only[List.length_cons] at hlen ⊢;omega) a12 (by omega) h2
     rw[hno,if_neg (by simp),hr]
     simp only[List.length_cons,List.length_append,List.length_nil,Prod.mk.injEq,true_and]
     omega
theorem Do:∀ (ts:List T) {d:Nat} {l:List UInt8} {c a:Nat} {x:List UInt8},ts≠[]->ts.length<=c->aL ts d->av ts<=60->l.drop a=TRj ts++93::x->psL (psV d l) l c a=(ts,((a+(TRj ts).length+1:Nat):Int))
 | [],_,_,_,_,_,h,_,_,_,_=>absurd rfl h
 | t::ts,d,l,0,a,x,_,hc,_,_,_=>by simp at hc
 | t::ts,d,l,c+1,a,x,_,hc,hf,hz,h=>by
   simp only[aL] at hf
   simp only[av] at hz
   have hp:=qx t
   have hl:=fZ ts
   simp only[TRj,List.append_assoc] at h
   have h1:=Dn t hf.1 (by omega) h (CJ ts x)
   have h2:=bP h
   have hneg:¬ (((a+(tL (az t)).length:Nat):Int) < 0):=by omega
   simp only[psL,h1,Int.toNat_natCast]
   rw[if_neg hneg]
   cases ts with
   | nil =>
     rw[if_pos (eO h2)]
     simp[TRj,TR]
   | cons u ts =>
     have h3:l.drop (a+(tL (az t)).length+1)=TRj (u::ts)++93::x:=by
      have:l.drop (a+(tL (az t)).length)=[44]++(TRj (u::ts)++93::x):=by rw[h2];simp[TR,TRj]
      exact bP (w:=[44]) this
     have hr:=Do (u::ts) (c:=c) (by simp) (by simpa using hc) hf.2 (by omega) h3
     rw[dz (b:=93) (c:=44) h2 (by decide),if_neg (by simp),if_pos (eO (c:=44) h2),hr]
     simp only[TRj,TR,List.length_append,List.length_cons,Prod.mk.injEq,true_and]
     omega
theorem Dp:∀ (ts:List T) {ks:List ByteArray} {d:Nat} {l:List UInt8} {c a:Nat} {x:List UInt8},ts≠[]->ts.length<=c->ks.length=ts.length->(∀ s ∈ ks,okS s)->aL ts d->av ts<=60->l.drop a=TMj ks ts++125::x->psM (psV d l) l c a=(ks,ts,((a+(TMj ks ts).length+1:Nat):Int))
 | [],_,_,_,_,_,_,h,_,_,_,_,_,_=>absurd rfl h
 | t::ts,_,d,l,0,a,x,_,hc,_,_,_,_,_=>by simp at hc
 | t::ts,[],d,l,c+1,a,x,_,_,hk,_,_,_,_=>by simp at hk
 | t::ts,z::ks,d,l,c+1,a,x,_,hc,hk,ok,hf,hz,h=>by
   simp only[aL] at hf
   simp only[av] at hz
   have hp:=qx t
   have hl:=fZ ts
   have h0:l.drop a=tL z++58::(tL (az t)++(TM ks ts++125::x)):=by rw[h];simp[TMj]
   obtain⟨u1,u2⟩:=ou (p:=bR) h0 (fun c hc=>Dl (cM (ok z (by simp)) c hc)) (fun b r e=>by cases e;rfl)
   have h3:=bP h0
   have h5:l.drop (a+(tL z).length+1)=tL (az t)++(TM ks ts++125::x):=bP (w:=[58]) h3
   have h1:=Dn t hf.1 (by omega) h5 (CK ks ts x)
   have h4:=bP h5
   have hneg:¬ (((a+(tL z).length+1+(tL (az t)).length:Nat):Int) < 0):=by omega
   have u3:sub l a (a+(tL z).length)=tL z:=by rw[<-u1];exact u2
   simp only[psM,u1,u3,h1,Int.toNat_natCast,ja]
   rw[if_pos (eO h3),if_neg hneg]
   cases ts with
   | nil =>
     have hk0:ks=[]:=List.eq_nil_of_length_eq_zero (by simpa using hk)
     subst hk0
     rw[if_pos (eO h4)]
     simp[TMj,TM];omega
   | cons u ts =>
     cases ks with
     | nil=>simp at hk
     | cons z' ks =>
       have h6:l.drop (a+(tL z).length+1+(tL (az t)).length+1)=TMj (z'::ks) (u::ts)++125::x:=by
        have:l.drop (a+(tL z).length+1+(tL (az t)).length)=[44]++(TMj (z'::ks) (u::ts)++125::x):=by rw[h4];simp[TM,TMj]
        exact bP (w:=[44]) this
       have hr:=Dp (u::ts) (ks:=z'::ks) (c:=c) (by simp) (by simpa using hc) (by simpa using hk) (fun s hs=>ok s (List.mem_cons_of_mem _ hs)) hf.2 (by omega) h6
       rw[dz (b:=125) (c:=44) h4 (by decide),if_neg (by simp),if_pos (eO (c:=44) h4),hr]
       simp only[TMj,TM,List.headD_cons,List.tail_cons,List.length_append,List.length_cons,Prod.mk.injEq,true_and]
       omega
end
end Go.Proofs.Pw
namespace Go.Proofs.Pw
variable [Globs]
def Dq:X:=(.seq (.reg [xS 1 (.box (.t 0) (some 5)),xS 2 (.alloc xV)] none [1,2]) (.seq (.reg [xS 6 (.bsl 1 []),xS 7 (.fa (.t 1) 3),xL 8 7,xS 9 (.app (.t 6) (.t 8) 1 16 []),xS 10 (.fa (.t 1) 3),⟨none,none,.st (.t 10) (.t 9) none⟩] none [1,2]) (.seq (.reg [xS 11 (.bsl 5 []),xM 3 11] none [1,2,3]) (.seq (.seq (.reg [xS 12 (.fa (.t 1) 4),xL 13 12,xS 14 (.len (.t 13) false),xS 15 (.mv (xK 0))] none [1,2,3,13,14,15]) (.block 0 (.loop (.seq (.reg [xS 16 (.bin false .lss (.t 15) (.t 14))] none [1,2,3,13,14,15,16]) (.seq (.cond (.t 16) .skip (.exit 0)) (.seq (.block 1 (.seq (.reg [xS 17 (.ia (.t 13) (.t 15) 5),xS 18 (.load (.t 17) (some 5)),xS 5 (.alloc xV),xW 5 18 5] none [1,2,3,5,13,14,15]) (.reg [xM 19 3,xS 20 (.load (.t 5) (some 5)),xS 21 (.call 53 [(.t 20)]),xS 22 (.bslx 5 [((.t 21),(some 5))]),xS 23 (.appx (.t 19) (.t 22) 5 80),xM 3 23] none [1,2,3,13,14,15]))) (.reg [xS 24 (.bin false .add (.t 15) (xK 1)),xM 15 24] none [1,2,3,13,14,15]))))))) (.seq (.reg [xM 25 3,xS 26 (.fa (.t 1) 4),⟨none,none,.st (.t 26) (.t 25) none⟩] none [1,2]) (.seq (.reg [xS 27 (.load (.t 1) (some 5)),xW 2 27 5] none [2]) .ret))))))
theorem OX:al Tryz.prog 28 (Tryz.f53.body.getD .skip) Dq=true:=by kernel_rfl
theorem OY:am Tryz.prog Tryz.f53.results.toList [.cell 2 (some 5)]=true:=by kernel_rfl
theorem vp:aw Tryz.prog 53=true:=by kernel_rfl
noncomputable def jf (k:Nat):Spec:=Spec.of (ι:=T) [false] (fun i=>[.d (.agg i.enc)]) (fun i=>(i.fit 2000000)/\SizeOf.sizeOf i < k) (fun i=>[.ag (agX i)]) (fun _=>[.gone])
theorem qL:∀ i j:T,(fun (i:T)=>([.d (.agg i.enc)]:List AV)) i=(fun (i:T)=>([.d (.agg i.enc)]:List AV)) j->i=j:=by
 intro t t' h
 simpa [ap,T.enc_eq,aq,F.enc_eq,ar,Tk.enc_eq,au,Gn.enc_eq,ao] using h
theorem OZ (k:Nat):(jf k).md=[false]:=rfl
theorem Pa (k:Nat) (t:T):(jf k).pre [.d (.agg t.enc)]=((t.fit 2000000)/\SizeOf.sizeOf t < k):=Spec.of_pre' qL t
theorem Pb (k:Nat):(jf k).alts=none:=rfl
theorem Pc (k:Nat) (t:T):(jf k).res [.d (.agg t.enc)]=[.ag (agX t)]:=Spec.of_res qL t
theorem Pd (k:Nat) (t:T):(jf k).out [.d (.agg t.enc)]=[.gone]:=Spec.of_out qL t
set_option maxHeartbeats 1000000 in
theorem Pe (k:Nat) (hS:Sound Tryz.prog 53 (jf k)):Sound Tryz.prog 53 (jf (k+1)):=by
 refine aQ (GOK.cons vp hS GOK.nil) Tryz.func53 (c:=Tryz.f53.body.getD .skip) rfl (n:=28) rfl OX OY (fun _=>by simp) ?_ ?_
 ·exact qL
 ·rintro t ⟨h1,h4⟩
  obtain⟨kk,n,s,ks,l⟩:=t
  simp only[T.fit,ab,cJ] at h1
  obtain⟨_,_,f1,⟨f2,_⟩,f3,f4⟩:=h1
  have e3 : SizeOf.sizeOf l < k := by have e : SizeOf.sizeOf (T.mk kk n s ks l) < k + 1 := h4
                                      rw[T.mk.sizeOf_spec] at e;omega
  simp only[Dq,T.enc,agX,go_sem,seval,Prod.fst,rg,bw,bU]
  repeat' (first|with_reducible assumption|with_reducible refine And.intro ?_ ?_|intro _)
  all_goals first|omega|skip
  refine aZ (ι:=Nat) (fun i=>l.length-i) (fun i=>i<=l.length)
   (fun i=>⟨[(1,.q (.box 1 0)),(2,.q (.box 2 0)),(3,.q (.own 23)),(13,.q (.c (.row 5 (ai l)))),(14,.q (.c (.int .i64 l.length))),(15,.q (.c (.int .i64 i)))],
    [(1,[.c (.int .i64 kk),.c (.int .i64 n),.c (.str s),.own 9,.c (.row 5 (ai l))]),(2,[.c (.int .i64 0),.c (.int .i64 0),.c (.str ⟨#[]⟩),.z 1,.z 5])],[(9,1,aa ks),(23,5,da (l.take i))]⟩) 0 (Nat.zero_le _) ?_ ?_
  ·refine Le.own (t:=3) (d:=23) (sz:=5) (by decide) (by simp) (by simp[Q.killO]) ?_
   simp[PV.map,Q.killO]
  ·intro i hi
   rcases Nat.lt_or_ge i l.length with hlt|hge
   ·obtain⟨t,ht,_,hmem⟩:=aU hlt
    have a1:=fU ht
    have a2:((i:Int) < (l.length:Int))=True:=by simp;omega
    have a3:=iM f4 t hmem
    have a4:=bK hmem
    have a6:=T.enc_len t
    have a7:(l.take i).length=i:=by simp;omega
    obtain⟨k1,n1,s1,ks1,l1⟩:=t
    simp only[go_sem,seval,Prod.fst,rg,a1,a2,a6,a7,bU,OZ,Pa,Pb,Pc,Pd,agX]
    repeat' (first|with_reducible assumption|with_reducible refine And.intro ?_ ?_|intro _)
    all_goals first|omega|assumption|skip
    refine⟨i+1,by omega,by omega,?_⟩
    rw[NE ht]
    exact Le.sub (by simp) (by simp) (by simp[T.encX])
   ·have a2:((i:Int) < (l.length:Int))=False:=by simp;omega
    simp only[go_sem,seval,Prod.fst,rg,a2,List.take_of_length_le hge,Bool.false_or,Bool.or_true,Bool.not_true,Bool.false_eq_true]
theorem Pf (k:Nat):Sound Tryz.prog 53 (jf k):=by
 induction k with
 | zero=>exact Sound.none
 | succ k ih=>exact Pe k ih
noncomputable def jg :Spec:=Spec.of (ι:=T) [false] (fun i=>[.d (.agg i.enc)]) (fun i=>i.fit 2000000) (fun i=>[.ag (agX i)]) (fun _=>[.gone])
theorem vq:∀ i j:T,(fun (i:T)=>([.d (.agg i.enc)]:List AV)) i=(fun (i:T)=>([.d (.agg i.enc)]:List AV)) j->i=j:=by
 intro t t' h
 simpa [ap,T.enc_eq,aq,F.enc_eq,ar,Tk.enc_eq,au,Gn.enc_eq,ao] using h
theorem vr :(jg).md=[false]:=rfl
theorem vt  (t:T):(jg).pre [.d (.agg t.enc)]=(t.fit 2000000):=Spec.of_pre' vq t
theorem vu :(jg).alts=none:=rfl
theorem vz  (t:T):(jg).res [.d (.agg t.enc)]=[.ag (agX t)]:=Spec.of_res vq t
theorem vC  (t:T):(jg).out [.d (.agg t.enc)]=[.gone]:=Spec.of_out vq t
theorem Dr:Sound Tryz.prog 53 jg:=Sound.all (μ:=fun i=>SizeOf.sizeOf i) Pf
end Go.Proofs.Pw
namespace Go.Proofs.Pw
theorem Pg (t:T):agX t=[.c (.int .i64 t.kind),.c (.int .i64 t.n),.c (.str t.s),.o 1 (aa t.keys),.o 5 (da t.list)]:=by cases t;rfl
theorem zs:T.zero.s=⟨#[]⟩:=rfl
variable [Globs]
end Go.Proofs.Pw
namespace Go.Proofs.Pw
variable [Globs]
def vD:X:=(.seq (.reg [xS 2 (.mv (.k (.c (.str ⟨#[]⟩))))] none [0]) (.seq (.seq (.reg [xM 4 0,xS 5 (.bin false .lss (.t 4) (.k (.c (.int .i64 (-9223372036854775807)))))] none [0,5]) (.cond (.t 5) (.seq (.reg [xS 2 (.mv (.k (.c (.str ⟨#[45,57,50,50,51,51,55,50,48,51,54,56,53,52,55,55,53,56,48,56]⟩))))] none [2]) .ret) .skip)) (.seq (.seq (.reg [xM 6 0,xS 7 (.bin false .lss (.t 6) (xK 0))] none [0,7]) (.cond (.t 7) (.seq (.reg [xM 8 0,xS 9 (.bin false .sub (xK 0) (.t 8)),xS 10 (.call 75 [(.t 9)]),xS 11 (.bin false .add (.k (.c (.str ⟨#[45]⟩))) (.t 10)),xM 2 11] none [2]) .ret) .skip)) (.seq (.reg [xS 3 (.mv (.k (.c (.str ⟨#[]⟩))))] none [0,3]) (.seq (.block 0 (.loop (.seq (.seq (.reg [xM 12 0,xS 13 (.bin false .gtr (.t 12) (xK 9))] none [0,3,13]) (.cond (.t 13) .skip (.exit 0))) (.block 1 (.seq (.reg [xM 14 0,xS 15 (.bin false .rem (.t 14) (xK 10)),xS 16 (.bin false .add (xK 48) (.t 15)),xS 17 (.conv .u8 (.t 16)),xS 18 (.bsl 1 [((.t 17),none)]),xS 19 (.bts (.t 18)),xM 20 3,xS 21 (.bin false .add (.t 19) (.t 20)),xM 3 21] none [0,3]) (.reg [xM 22 0,xS 23 (.bin false .quo (.t 22) (xK 10)),xM 0 23] none [0,3])))))) (.seq (.reg [xM 24 0,xS 25 (.bin false .add (xK 48) (.t 24)),xS 26 (.conv .u8 (.t 25)),xS 27 (.bsl 1 [((.t 26),none)]),xS 28 (.bts (.t 27)),xM 29 3,xS 30 (.bin false .add (.t 28) (.t 29)),xM 2 30] none [2]) .ret))))))
theorem Ph:al Tryz.prog 31 (Tryz.f75.body.getD .skip) vD=true:=by kernel_rfl
theorem Pj:am Tryz.prog Tryz.f75.results.toList [.tmp 2]=true:=by kernel_rfl
theorem vE:aw Tryz.prog 75=true:=by kernel_rfl
def kq:X:=(.seq (.reg [xS 1 (.box (.t 0) (some 5)),xS 2 (.mv (.k (.c (.str ⟨#[]⟩))))] none [1]) (.seq (.seq (.reg [xS 5 (.fa (.t 1) 0),xL 6 5] none [1,6]) (.block 0 (.seq (.reg [xS 8 (.bin false .eql (.t 6) (xK 0)),xM 7 8] none [1,6,7]) (.cond (.t 7) (.seq (.reg [xS 2 (.mv (.k (.c (.str ⟨#[110,117,108,108]⟩))))] none [2]) .ret) (.seq (.reg [xS 10 (.bin false .eql (.t 6) (xK 1)),xM 9 10] none [1,6,9]) (.cond (.t 9) (.seq (.reg [xS 2 (.mv (.k (.c (.str ⟨#[102,97,108,115,101]⟩))))] none [2]) .ret) (.seq (.reg [xS 12 (.bin false .eql (.t 6) (xK 2)),xM 11 12] none [1,6,11]) (.cond (.t 11) (.seq (.reg [xS 2 (.mv (.k (.c (.str ⟨#[116,114,117,101]⟩))))] none [2]) .ret) (.seq (.reg [xS 14 (.bin false .eql (.t 6) (xK 3)),xM 13 14] none [1,6,13]) (.cond (.t 13) (.seq (.reg [xS 15 (.fa (.t 1) 1),xL 16 15,xS 17 (.call 75 [(.t 16)]),xM 2 17] none [2]) .ret) (.seq (.reg [xS 19 (.bin false .eql (.t 6) (xK 4)),xM 18 19] none [1,18]) (.cond (.t 18) (.seq (.reg [xS 20 (.fa (.t 1) 2),xL 21 20,xS 22 (.bin false .add (.k (.c (.str ⟨#[39]⟩))) (.t 21)),xS 23 (.bin false .add (.t 22) (.k (.c (.str ⟨#[39]⟩)))),xM 2 23] none [2]) .ret) .skip)))))))))))) (.seq (.reg [xS 3 (.mv (.k (.c (.str ⟨#[]⟩))))] none [1,3]) (.seq (.seq (.reg [xS 4 (.mv (xK 0))] none [1,3,4]) (.block 1 (.loop (.seq (.seq (.reg [xM 24 4,xS 25 (.fa (.t 1) 4),xL 26 25,xS 27 (.len (.t 26) false),xS 28 (.bin false .lss (.t 24) (.t 27))] none [1,3,4,28]) (.cond (.t 28) .skip (.exit 1))) (.seq (.block 2 (.seq (.seq (.reg [xM 31 4,xS 32 (.bin false .gtr (.t 31) (xK 0))] none [1,3,4,32]) (.cond (.t 32) (.reg [xM 33 3,xS 34 (.bin false .add (.t 33) (.k (.c (.str ⟨#[44]⟩)))),xM 3 34] none [1,3,4]) .skip)) (.seq (.seq (.reg [xS 35 (.fa (.t 1) 0),xL 36 35,xS 37 (.bin false .eql (.t 36) (xK 6))] none [1,3,4,37]) (.cond (.t 37) (.reg [xM 38 3,xS 39 (.fa (.t 1) 3),xL 40 39,xM 41 4,xS 42 (.ia (.t 40) (.t 41) 1),xL 43 42,xS 44 (.bin false .add (.t 38) (.t 43)),xS 45 (.bin false .add (.t 44) (.k (.c (.str ⟨#[58]⟩)))),xM 3 45] none [1,3,4]) .skip)) (.reg [xM 46 3,xS 47 (.fa (.t 1) 4),xL 48 47,xM 49 4,xS 50 (.ia (.t 48) (.t 49) 5),xS 51 (.load (.t 50) (some 5)),xS 52 (.call 74 [(.t 51)]),xS 53 (.bin false .add (.t 46) (.t 52)),xM 3 53] none [1,3,4])))) (.reg [xM 29 4,xS 30 (.bin false .add (.t 29) (xK 1)),xM 4 30] none [1,3,4])))))) (.seq (.seq (.reg [xS 54 (.fa (.t 1) 0),xL 55 54,xS 56 (.bin false .eql (.t 55) (xK 6))] none [3,56]) (.cond (.t 56) (.seq (.reg [xM 57 3,xS 58 (.bin false .add (.k (.c (.str ⟨#[123]⟩))) (.t 57)),xS 59 (.bin false .add (.t 58) (.k (.c (.str ⟨#[125]⟩)))),xM 2 59] none [2]) .ret) .skip)) (.seq (.reg [xM 60 3,xS 61 (.bin false .add (.k (.c (.str ⟨#[91]⟩))) (.t 60)),xS 62 (.bin false .add (.t 61) (.k (.c (.str ⟨#[93]⟩)))),xM 2 62] none [2]) .ret))))))
theorem Pk:al Tryz.prog 63 (Tryz.f74.body.getD .skip) kq=true:=by kernel_rfl
theorem Pl:am Tryz.prog Tryz.f74.results.toList [.tmp 2]=true:=by kernel_rfl
theorem Ds:aw Tryz.prog 74=true:=by kernel_rfl
def kr:X:=(.seq (.reg [xS 1 (.box (.t 0) (some 5)),xS 2 (.mv (.k (.c (.str ⟨#[]⟩))))] none [1]) (.seq (.seq (.reg [xS 7 (.fa (.t 1) 0),xL 8 7] none [1,8]) (.block 0 (.seq (.reg [xS 10 (.bin false .eql (.t 8) (xK 0)),xM 9 10] none [1,8,9]) (.cond (.t 9) (.seq (.reg [xS 2 (.mv (.k (.c (.str ⟨#[110,117,108,108]⟩))))] none [2]) .ret) (.seq (.reg [xS 12 (.bin false .eql (.t 8) (xK 1)),xM 11 12] none [1,8,11]) (.cond (.t 11) (.seq (.reg [xS 2 (.mv (.k (.c (.str ⟨#[102,97,108,115,101]⟩))))] none [2]) .ret) (.seq (.reg [xS 14 (.bin false .eql (.t 8) (xK 2)),xM 13 14] none [1,8,13]) (.cond (.t 13) (.seq (.reg [xS 2 (.mv (.k (.c (.str ⟨#[116,114,117,101]⟩))))] none [2]) .ret) (.seq (.reg [xS 16 (.bin false .eql (.t 8) (xK 3)),xM 15 16] none [1,8,15]) (.cond (.t 15) (.seq (.reg [xS 17 (.fa (.t 1) 1),xL 18 17,xS 19 (.call 44 [(.t 18)]),xM 2 19] none [2]) .ret) (.seq (.reg [xS 21 (.bin false .eql (.t 8) (xK 4)),xM 20 21] none [1,20]) (.cond (.t 20) (.seq (.reg [xS 22 (.fa (.t 1) 2),xL 23 22,xS 24 (.bin false .add (.k (.c (.str ⟨#[39]⟩))) (.t 23)),xS 25 (.bin false .add (.t 24) (.k (.c (.str ⟨#[39]⟩)))),xM 2 25] none [2]) .ret) .skip)))))))))))) (.seq (.reg [xS 26 (.bsl 1 []),xM 3 26] none [1,3]) (.seq (.seq (.reg [xS 27 (.fa (.t 1) 4),xL 28 27,xS 29 (.len (.t 28) false),xS 30 (.mv (xK 0))] none [1,3,28,29,30]) (.block 1 (.loop (.seq (.reg [xS 31 (.bin false .lss (.t 30) (.t 29))] none [1,3,28,29,30,31]) (.seq (.cond (.t 31) .skip (.exit 1)) (.seq (.block 2 (.seq (.reg [xM 32 30,xS 33 (.ia (.t 28) (.t 30) 5),xS 34 (.load (.t 33) (some 5)),xS 5 (.alloc xV),xM 4 32,xW 5 34 5] none [1,3,4,5,28,29,30]) (.seq (.reg [xS 35 (.load (.t 5) (some 5)),xS 36 (.call 43 [(.t 35)]),xM 6 36] none [1,3,4,6,28,29,30]) (.seq (.seq (.reg [xS 37 (.fa (.t 1) 0),xL 38 37,xS 39 (.bin false .eql (.t 38) (xK 6))] none [1,3,4,6,28,29,30,39]) (.cond (.t 39) (.reg [xS 40 (.fa (.t 1) 3),xL 41 40,xM 42 4,xS 43 (.ia (.t 41) (.t 42) 1),xL 44 43,xS 45 (.bin false .add (.t 44) (.k (.c (.str ⟨#[58]⟩)))),xM 46 6,xS 47 (.bin false .add (.t 45) (.t 46)),xM 6 47] none [1,3,6,28,29,30]) .skip)) (.reg [xM 48 3,xM 49 6,xS 50 (.bsl 1 [((.t 49),none)]),xS 51 (.app (.t 48) (.t 50) 1 16 []),xM 3 51] none [1,3,28,29,30]))))) (.reg [xS 52 (.bin false .add (.t 30) (xK 1)),xM 30 52] none [1,3,28,29,30]))))))) (.seq (.seq (.reg [xS 53 (.fa (.t 1) 0),xL 54 53,xS 55 (.bin false .eql (.t 54) (xK 6))] none [3,55]) (.cond (.t 55) (.seq (.reg [xM 56 3,xS 57 (.call 72 [(.t 56),(.k (.c (.str ⟨#[44]⟩)))]),xS 58 (.bin false .add (.k (.c (.str ⟨#[123]⟩))) (.t 57)),xS 59 (.bin false .add (.t 58) (.k (.c (.str ⟨#[125]⟩)))),xM 2 59] none [2]) .ret) .skip)) (.seq (.reg [xM 60 3,xS 61 (.call 72 [(.t 60),(.k (.c (.str ⟨#[44]⟩)))]),xS 62 (.bin false .add (.k (.c (.str ⟨#[91]⟩))) (.t 61)),xS 63 (.bin false .add (.t 62) (.k (.c (.str ⟨#[93]⟩)))),xM 2 63] none [2]) .ret))))))
theorem Pm:al Tryz.prog 64 (Tryz.f43.body.getD .skip) kr=true:=by kernel_rfl
theorem Pn:am Tryz.prog Tryz.f43.results.toList [.tmp 2]=true:=by kernel_rfl
theorem vF:aw Tryz.prog 43=true:=by kernel_rfl
attribute [go_sem] ju fe
theorem vG (n:Int):(fJ [n]).size=1:=rfl
noncomputable def jh (k:Nat):Spec:=Spec.of (ι:=Int) [false] (fun i=>[.d (.one (.int .i64 i))]) (fun i=>(-1000000<=i/\i<=1000000)/\(if i < 0 then 1 else 0) < k) (fun i=>[.d (.one (.str (cK i)))]) (fun _=>[.gone])
theorem qM:∀ i j:Int,(fun (i:Int)=>([.d (.one (.int .i64 i))]:List AV)) i=(fun (i:Int)=>([.d (.one (.int .i64 i))]:List AV)) j->i=j:=by
 intro n n' h
 simpa [ap,T.enc_eq,aq,F.enc_eq,ar,Tk.enc_eq,au,Gn.enc_eq,ao] using h
theorem Po (k:Nat):(jh k).md=[false]:=rfl
theorem Pp (k:Nat) (n:Int):(jh k).pre [.d (.one (.int .i64 n))]=((-1000000<=n/\n<=1000000)/\(if n < 0 then 1 else 0) < k):=Spec.of_pre' qM n
theorem Pq (k:Nat):(jh k).alts=none:=rfl
theorem Ps (k:Nat) (n:Int):(jh k).res [.d (.one (.int .i64 n))]=[.d (.one (.str (cK n)))]:=Spec.of_res qM n
theorem Pu (k:Nat) (n:Int):(jh k).out [.d (.one (.int .i64 n))]=[.gone]:=Spec.of_out qM n
theorem Pv (k:Nat) (hS:Sound Tryz.prog 75 (jh k)):Sound Tryz.prog 75 (jh (k+1)):=by
 refine aQ (GOK.cons vE hS GOK.nil) Tryz.func75 (c:=Tryz.f75.body.getD .skip) rfl (n:=31) rfl Ph Pj (fun _=>by simp) ?_ ?_
 ·exact qM
 ·rintro n ⟨⟨h1,h2⟩,h3⟩
  have a1:(n < -9223372036854775807)=False:=eq_false (by omega)
  by_cases c:n < 0
  ·have a2:(n < 0)=True:=eq_true c
   have e:=Nv c
   have z:=lU (n:=0-n) (by omega) (by omega)
   have e1:(ByteArray.mk #[45]).size=1:=rfl
   have m:(if (0:Int)-n < 0 then 1 else 0) < k:=by rw[if_neg (by omega)];rw[if_pos c] at h3;omega
   simp only[vD,rg,go_sem,seval,a1,a2,e1,Po,Pp,Pq,Ps,Pu]
   repeat' (first|with_reducible assumption|with_reducible refine And.intro ?_ ?_|intro _)
   all_goals first|omega|assumption|exact e|exact e.symm|skip
  ·have a2:(n < 0)=False:=eq_false c
   simp only[vD,rg,go_sem,seval,a1,a2]
   refine aZ (ι:=Int × ByteArray) (fun i=>i.1.toNat) (fun i=>0<=i.1/\i.1<=n/\i.2.size+i.1<=n/\iV i.1.toNat++i.2=cK n)
    (fun i=>⟨[(0,.q (.c (.int .i64 i.1))),(3,.q (.c (.str i.2)))],[],[]⟩) (n,⟨#[]⟩) ⟨by omega,by omega,by simp[ByteArray.size],by rw[Nw (by omega),iT]⟩ (Le.refl _) ?_
   rintro⟨m,out⟩ ⟨g1,g2,g3,g4⟩
   simp only at g1 g2 g3 g4
   by_cases c2:9 < m
   ·have a3:(9 < m)=True:=eq_true c2
    have e1:m.tdiv 10=m / 10:=Int.tdiv_eq_ediv_of_nonneg (by omega)
    have e2:m.tmod 10=m % 10:=Int.tmod_eq_emod_of_nonneg (by omega)
    have e3:(m / 10).toNat=m.toNat / 10:=by omega
    have e4:((48+m.toNat % 10:Nat):Int)=48+m % 10:=by omega
    have e5:=Ny (u:=m.toNat) (by omega) out
    rw[e4,<-e3] at e5
    simp only[rg,go_sem,seval,a3,e1,e2,vG]
    repeat' (first|with_reducible assumption|with_reducible refine And.intro ?_ ?_|intro _)
    all_goals first|omega|skip
    exact⟨(m / 10,fJ [48+m % 10]++out),⟨by omega,by omega,by simp only[ByteArray.size_append,vG];omega,by simp only;rw[<-e5];exact g4⟩,by simp only;omega,Le.refl _⟩
   ·have a3:(9 < m)=False:=eq_false c2
    have e4:((48+m.toNat:Nat):Int)=48+m:=by omega
    have e5:=Nx (u:=m.toNat) (by omega)
    rw[e4] at e5
    rw[e5] at g4
    simp only[rg,go_sem,seval,a3,vG]
    repeat' (first|with_reducible assumption|with_reducible refine And.intro ?_ ?_|intro _)
    all_goals first|omega|exact g4|exact g4.symm|skip
theorem Px (k:Nat):Sound Tryz.prog 75 (jh k):=by
 induction k with
 | zero=>exact Sound.none
 | succ k ih=>exact Pv k ih
noncomputable def kt :Spec:=Spec.of (ι:=Int) [false] (fun i=>[.d (.one (.int .i64 i))]) (fun i=>-1000000<=i/\i<=1000000) (fun i=>[.d (.one (.str (cK i)))]) (fun _=>[.gone])
theorem vH:∀ i j:Int,(fun (i:Int)=>([.d (.one (.int .i64 i))]:List AV)) i=(fun (i:Int)=>([.d (.one (.int .i64 i))]:List AV)) j->i=j:=by
 intro n n' h
 simpa [ap,T.enc_eq,aq,F.enc_eq,ar,Tk.enc_eq,au,Gn.enc_eq,ao] using h
theorem Dt :(kt).md=[false]:=rfl
theorem Du  (n:Int):(kt).pre [.d (.one (.int .i64 n))]=(-1000000<=n/\n<=1000000):=Spec.of_pre' vH n
theorem Dv :(kt).alts=none:=rfl
theorem Dw  (n:Int):(kt).res [.d (.one (.int .i64 n))]=[.d (.one (.str (cK n)))]:=Spec.of_res vH n
theorem Dx  (n:Int):(kt).out [.d (.one (.int .i64 n))]=[.gone]:=Spec.of_out vH n
theorem Dy:Sound Tryz.prog 75 kt:=Sound.all (μ:=fun n=>if n < 0 then 1 else 0) Px
def go (t:T):Prop:=(∃ d,aK t d)/\aA t<=60
theorem vI {t:T} (h:okT t):go t:=⟨⟨_,h.1⟩,lQ h⟩
theorem Dz {k n:Int} {s:ByteArray} {ks:List ByteArray} {l:List T} (h:go (.mk k n s ks l)) {t:T} (ht:t ∈ l):go t:=by
 obtain⟨⟨d,h1⟩,h2⟩:=h
 simp only[aK] at h1
 simp only[aA] at h2
 exact⟨⟨_,tC.1 h1.2.2.2.2.2.2.2.2.2.2.2 t ht⟩,by have:=Ns ht;omega⟩
theorem mj {t:T} (h:go t):(az t).size<=2400:=by
 obtain⟨⟨d,h1⟩,h2⟩:=h
 have:=om h1;omega
noncomputable def et (k:Nat):Spec:=Spec.of (ι:=T) [false] (fun i=>[.d (.agg i.enc)]) (fun i=>(go i)/\SizeOf.sizeOf i < k) (fun i=>[.d (.one (.str (az i)))]) (fun _=>[.gone])
theorem ox:∀ i j:T,(fun (i:T)=>([.d (.agg i.enc)]:List AV)) i=(fun (i:T)=>([.d (.agg i.enc)]:List AV)) j->i=j:=by
 intro t t' h
 simpa [ap,T.enc_eq,aq,F.enc_eq,ar,Tk.enc_eq,au,Gn.enc_eq,ao] using h
theorem ml (k:Nat):(et k).md=[false]:=rfl
theorem mn (k:Nat) (t:T):(et k).pre [.d (.agg t.enc)]=((go t)/\SizeOf.sizeOf t < k):=Spec.of_pre' ox t
theorem mo (k:Nat):(et k).alts=none:=rfl
theorem mq (k:Nat) (t:T):(et k).res [.d (.agg t.enc)]=[.d (.one (.str (az t)))]:=Spec.of_res ox t
theorem mr (k:Nat) (t:T):(et k).out [.d (.agg t.enc)]=[.gone]:=Spec.of_out ox t
set_option maxHeartbeats 2000000 in
theorem Py (k:Nat) (hS:Sound Tryz.prog 74 (et k)):Sound Tryz.prog 74 (et (k+1)):=by
 refine aQ (GOK.cons (l:=[(74,et k)]) vE Dy (GOK.cons Ds hS GOK.nil)) Tryz.func74 (c:=Tryz.f74.body.getD .skip) rfl (n:=63) rfl Pk Pl (fun _=>by simp) ?_ ?_
 ·exact ox
 ·rintro t ⟨h1,h4⟩
  obtain⟨kk,n,s,ks,l⟩:=t
  have hkid:=fun t ht=>Dz h1 (t:=t) ht
  have hT:=mj h1
  obtain⟨⟨d,h1⟩,h2⟩:=h1
  have hks:=BM h1
  have e3 : SizeOf.sizeOf l < k := by have e : SizeOf.sizeOf (T.mk kk n s ks l) < k + 1 := h4
                                      rw[T.mk.sizeOf_spec] at e;omega
  clear h4
  simp only[aK] at h1
  obtain⟨f1,f2,f3,f4,f5,f6,f7,f8,f9,f10,f11,f12⟩:=h1
  have f13:=f10.2
  simp only[aA] at h2
  have f14:=fZ l
  have hz:=fun i=>BL (k:=kk) hks f12 (by omega) i
  have q1:(ByteArray.mk #[39]).size=1:=rfl
  have q2:(ByteArray.mk #[123]).size=1:=rfl
  have q3:(ByteArray.mk #[125]).size=1:=rfl
  have q4:(ByteArray.mk #[91]).size=1:=rfl
  have q5:(ByteArray.mk #[93]).size=1:=rfl
  have q6:(ByteArray.mk #[58]).size=1:=rfl
  have hkk:kk=0\/kk=1\/kk=2\/kk=3\/kk=4\/kk=5\/kk=6:=by omega
  rcases hkk with rfl|rfl|rfl|rfl|rfl|hkk
  ·simp only[kq,T.enc,rg,go_sem,seval,Prod.fst,az]
   repeat' (first|with_reducible assumption|with_reducible refine And.intro ?_ ?_|intro _)
  ·simp only[kq,T.enc,rg,go_sem,seval,Prod.fst,az]
   repeat' (first|with_reducible assumption|with_reducible refine And.intro ?_ ?_|intro _)
   all_goals first|omega|simp
  ·simp only[kq,T.enc,rg,go_sem,seval,Prod.fst,az]
   repeat' (first|with_reducible assumption|with_reducible refine And.intro ?_ ?_|intro _)
   all_goals first|omega|simp
  ·simp only[kq,T.enc,rg,go_sem,seval,Prod.fst,az,Dt,Du,Dv,Dw,Dx]
   repeat' (first|with_reducible assumption|with_reducible refine And.intro ?_ ?_|intro _)
   all_goals first|omega|simp
  ·simp only[kq,T.enc,rg,go_sem,seval,Prod.fst,az,q1]
   repeat' (first|with_reducible assumption|with_reducible refine And.intro ?_ ?_|intro _)
   all_goals first|omega|simp
  have b0:(kk=0)=False:=eq_false (by omega)
  have b1:(kk=1)=False:=eq_false (by omega)
  have b2:(kk=2)=False:=eq_false (by omega)
  have b3:(kk=3)=False:=eq_false (by omega)
  have b4:(kk=4)=False:=eq_false (by omega)
  simp only[kq,T.enc,rg,go_sem,seval,Prod.fst,b0,b1,b2,b3,b4]
  repeat' (first|with_reducible assumption|with_reducible refine And.intro ?_ ?_|intro _)
  all_goals first|omega|skip
  refine aZ (ι:=Nat) (fun i=>l.length-i) (fun i=>i<=l.length)
   (fun i=>⟨[(1,.q (.box 1 0)),(3,.q (.c (.str (bB ((bj kk ks l).take i) ⟨#[44]⟩)))),(4,.q (.c (.int .i64 i)))],
    [(1,[.c (.int .i64 kk),.c (.int .i64 n),.c (.str s),.c (.row 1 (aa ks)),.c (.row 5 (ai l))])],[]⟩) 0 (Nat.zero_le _) (Le.of_eq (by simp[qi])) ?_
  intro i hi
  rcases Nat.lt_or_ge i l.length with hlt|hge
  ·obtain⟨t,ht,_,hmem⟩:=aU hlt
   have a1:=fU ht
   have a2:((i:Int) < (l.length:Int))=True:=by simp;omega
   have a4:=bK hmem
   have a5:=hkid t hmem
   have a6:=T.enc_len t
   have a7:=mj a5
   have a8:=hz i
   have a9:=Nu (uq kk l ks i t ht) (by rw[iU];exact hlt)
   rcases hkk with hkk|hkk
   ·have b5:(kk=6)=False:=eq_false (by omega)
    simp only[b5,if_false] at a9
    by_cases ci:i=0
    ·have c1:((0:Int) < i)=False:=eq_false (by omega)
     rw[if_pos ci] at a9
     subst ci
     simp only[rg,go_sem,seval,Prod.fst,a1,a2,a6,b5,c1,List.take_zero,qi,ol,bU,ml,mn,mo,mq,mr]
     repeat' (first|with_reducible assumption|with_reducible refine And.intro ?_ ?_|intro _)
     all_goals first|omega|with_reducible assumption|(rw[show (#[]:Array UInt8).size=0 from rfl];omega)|skip
     refine⟨0+1,hlt,by omega,Le.of_eq ?_⟩
     rw[a9]
     simp[ol,dP]
    ·have c1:((0:Int) < i)=True:=eq_true (by omega)
     rw[if_neg ci] at a9
     simp only[rg,go_sem,seval,Prod.fst,a1,a2,a6,b5,c1,bU,ut,ByteArray.size_append,ml,mn,mo,mq,mr]
     repeat' (first|with_reducible assumption|with_reducible refine And.intro ?_ ?_|intro _)
     all_goals first|omega|with_reducible assumption|(rw[show (#[]:Array UInt8).size=0 from rfl];omega)|skip
     refine⟨i+1,hlt,by omega,Le.of_eq ?_⟩
     rw[a9]
     simp[dP]
   ·have b5:(kk=6)=True:=eq_true (by omega)
    obtain⟨key,hkey⟩:∃ y,ks[i]?=some y:=⟨ks[i]'(by have:=(f11 hkk).1;omega),List.getElem?_eq_getElem _⟩
    have b6:=dm hkey
    have b7:ks.getD i ⟨#[]⟩=key:=by simp[List.getD,hkey]
    have b8:=hks key (List.mem_of_getElem? hkey)
    have b9:=(f11 hkk).1
    simp only[b5,if_true,b7] at a9
    by_cases ci:i=0
    ·have c1:((0:Int) < i)=False:=eq_false (by omega)
     rw[if_pos ci] at a9
     subst ci
     simp only[rg,go_sem,seval,Prod.fst,a1,a2,a6,b5,b6,c1,q6,List.take_zero,qi,ol,bU,bw,ByteArray.size_append,ml,mn,mo,mq,mr]
     repeat' (first|with_reducible assumption|with_reducible refine And.intro ?_ ?_|intro _)
     all_goals first|omega|with_reducible assumption|(rw[show (#[]:Array UInt8).size=0 from rfl];omega)|skip
     refine⟨0+1,hlt,by omega,Le.of_eq ?_⟩
     rw[a9]
     simp[ol,dP]
    ·have c1:((0:Int) < i)=True:=eq_true (by omega)
     rw[if_neg ci] at a9
     simp only[rg,go_sem,seval,Prod.fst,a1,a2,a6,b5,b6,c1,q6,bU,bw,ut,ByteArray.size_append,ml,mn,mo,mq,mr]
     repeat' (first|with_reducible assumption|with_reducible refine And.intro ?_ ?_|intro _)
     all_goals first|omega|with_reducible assumption|(rw[show (#[]:Array UInt8).size=0 from rfl];omega)|skip
     refine⟨i+1,hlt,by omega,Le.of_eq ?_⟩
     rw[a9]
     simp[dP]
  ·have a2:((i:Int) < (l.length:Int))=False:=by simp;omega
   have a3:(bj kk ks l).take i=bj kk ks l:=List.take_of_length_le (by rw[iU];exact hge)
   have a4:=hz i
   rw[a3] at a4
   rcases hkk with hkk|hkk
   ·have b5:(kk=6)=False:=eq_false (by omega)
    simp only[rg,go_sem,seval,Prod.fst,a2,a3,b5,bU,q4,q5,ByteArray.size_append]
    repeat' (first|with_reducible assumption|with_reducible refine And.intro ?_ ?_|intro _)
    all_goals first|omega|with_reducible assumption|(rw[show (#[]:Array UInt8).size=0 from rfl];omega)|skip
    all_goals (simp only[az,b0,b1,b2,b3,b4,b5,if_false])
   ·have b5:(kk=6)=True:=eq_true (by omega)
    simp only[rg,go_sem,seval,Prod.fst,a2,a3,b5,bU,q2,q3,ByteArray.size_append]
    repeat' (first|with_reducible assumption|with_reducible refine And.intro ?_ ?_|intro _)
    all_goals first|omega|with_reducible assumption|(rw[show (#[]:Array UInt8).size=0 from rfl];omega)|skip
    all_goals (simp only[az,b0,b1,b2,b3,b4,b5,if_false,if_true])
theorem Pz (k:Nat):Sound Tryz.prog 74 (et k):=by
 induction k with
 | zero=>exact Sound.none
 | succ k ih=>exact Py k ih
noncomputable def gp :Spec:=Spec.of (ι:=T) [false] (fun i=>[.d (.agg i.enc)]) (fun i=>go i) (fun i=>[.d (.one (.str (az i)))]) (fun _=>[.gone])
theorem vJ:∀ i j:T,(fun (i:T)=>([.d (.agg i.enc)]:List AV)) i=(fun (i:T)=>([.d (.agg i.enc)]:List AV)) j->i=j:=by
 intro t t' h
 simpa [ap,T.enc_eq,aq,F.enc_eq,ar,Tk.enc_eq,au,Gn.enc_eq,ao] using h
theorem vK :(gp).md=[false]:=rfl
theorem vL  (t:T):(gp).pre [.d (.agg t.enc)]=(go t):=Spec.of_pre' vJ t
theorem vM :(gp).alts=none:=rfl
theorem vN  (t:T):(gp).res [.d (.agg t.enc)]=[.d (.one (.str (az t)))]:=Spec.of_res vJ t
theorem vO  (t:T):(gp).out [.d (.agg t.enc)]=[.gone]:=Spec.of_out vJ t
theorem PA:Sound Tryz.prog 74 gp:=Sound.all (μ:=fun t=>SizeOf.sizeOf t) Pz
set_option maxHeartbeats 2000000 in
theorem PB (hK:tabK) (k:Nat) (hS:Sound Tryz.prog 43 (et k)):Sound Tryz.prog 43 (et (k+1)):=by
 refine aQ (GOK.cons (l:=[(43,et k),(72,spJoin)]) BT (BW hK) (GOK.cons (l:=[(72,spJoin)]) vF hS (GOK.cons Nz NC GOK.nil))) Tryz.func43 (c:=Tryz.f43.body.getD .skip) rfl (n:=64) rfl Pm Pn (fun _=>by simp) ?_ ?_
 ·exact ox
 ·rintro t ⟨h1,h4⟩
  obtain⟨kk,n,s,ks,l⟩:=t
  have hkid:=fun t ht=>Dz h1 (t:=t) ht
  have hT:=mj h1
  obtain⟨⟨d,h1⟩,h2⟩:=h1
  have hks:=BM h1
  have e3 : SizeOf.sizeOf l < k := by have e : SizeOf.sizeOf (T.mk kk n s ks l) < k + 1 := h4
                                      rw[T.mk.sizeOf_spec] at e;omega
  clear h4
  simp only[aK] at h1
  obtain⟨f1,f2,f3,f4,f5,f6,f7,f8,f9,f10,f11,f12⟩:=h1
  have f13:=f10.2
  simp only[aA] at h2
  have f14:=fZ l
  have hz:=fun i=>BL (k:=kk) hks f12 (by omega) i
  have q1:(ByteArray.mk #[39]).size=1:=rfl
  have q2:(ByteArray.mk #[123]).size=1:=rfl
  have q3:(ByteArray.mk #[125]).size=1:=rfl
  have q4:(ByteArray.mk #[91]).size=1:=rfl
  have q5:(ByteArray.mk #[93]).size=1:=rfl
  have q6:(ByteArray.mk #[58]).size=1:=rfl
  have hkk:kk=0\/kk=1\/kk=2\/kk=3\/kk=4\/kk=5\/kk=6:=by omega
  rcases hkk with rfl|rfl|rfl|rfl|rfl|hkk
  ·simp only[kr,T.enc,rg,go_sem,seval,Prod.fst,az]
   repeat' (first|with_reducible assumption|with_reducible refine And.intro ?_ ?_|intro _)
  ·simp only[kr,T.enc,rg,go_sem,seval,Prod.fst,az]
   repeat' (first|with_reducible assumption|with_reducible refine And.intro ?_ ?_|intro _)
   all_goals first|omega|simp
  ·simp only[kr,T.enc,rg,go_sem,seval,Prod.fst,az]
   repeat' (first|with_reducible assumption|with_reducible refine And.intro ?_ ?_|intro _)
   all_goals first|omega|simp
  ·simp only[kr,T.enc,rg,go_sem,seval,Prod.fst,az,BU,BV,uB,uC,uD]
   repeat' (first|with_reducible assumption|with_reducible refine And.intro ?_ ?_|intro _)
   all_goals first|omega|(unfold i64;omega)|simp
  ·simp only[kr,T.enc,rg,go_sem,seval,Prod.fst,az,q1]
   repeat' (first|with_reducible assumption|with_reducible refine And.intro ?_ ?_|intro _)
   all_goals first|omega|simp
  have b0:(kk=0)=False:=eq_false (by omega)
  have b1:(kk=1)=False:=eq_false (by omega)
  have b2:(kk=2)=False:=eq_false (by omega)
  have b3:(kk=3)=False:=eq_false (by omega)
  have b4:(kk=4)=False:=eq_false (by omega)
  simp only[kr,T.enc,rg,go_sem,seval,Prod.fst,b0,b1,b2,b3,b4,bU]
  repeat' (first|with_reducible assumption|with_reducible refine And.intro ?_ ?_|intro _)
  all_goals first|omega|skip
  have hA:(l.length:Int)=l.length:=rfl
  refine aZ (ι:=Nat) (fun i=>l.length-i) (fun i=>i<=l.length)
   (fun i=>⟨[(1,.q (.box 1 0)),(3,.q (.own 51)),(28,.q (.c (.row 5 (ai l)))),(29,.q (.c (.int .i64 l.length))),(30,.q (.c (.int .i64 i)))],
    [(1,[.c (.int .i64 kk),.c (.int .i64 n),.c (.str s),.c (.row 1 (aa ks)),.c (.row 5 (ai l))])],[(51,1,aa ((bj kk ks l).take i))]⟩) 0 (Nat.zero_le _) ?_ ?_
  ·refine Le.own (t:=3) (d:=51) (sz:=1) (by decide) (by simp) (by simp[Q.killO]) ?_
   simp[PV.map,Q.killO,aa]
  intro i hi
  rcases Nat.lt_or_ge i l.length with hlt|hge
  ·obtain⟨t,ht,_,hmem⟩:=aU hlt
   have a1:=fU ht
   have a2:((i:Int) < (l.length:Int))=True:=by simp;omega
   have a4:=bK hmem
   have a5:=hkid t hmem
   have a6:=T.enc_len t
   have a7:=mj a5
   have a9:=uq kk l ks i t ht
   have a10:((bj kk ks l).take i).length=i:=by rw[List.length_take,iU];omega
   rcases hkk with hkk|hkk
   ·have b5:(kk=6)=False:=eq_false (by omega)
    simp only[b5,if_false] at a9
    simp only[rg,go_sem,seval,Prod.fst,a1,a2,a6,a10,b5,bU,bw,ml,mn,mo,mq,mr]
    repeat' (first|with_reducible assumption|with_reducible refine And.intro ?_ ?_|intro _)
    all_goals first|omega|with_reducible assumption|skip
    refine⟨i+1,hlt,by omega,?_⟩
    rw[a9,nZ]
    exact Le.sub (by simp) (by simp) (by simp[aa])
   ·have b5:(kk=6)=True:=eq_true (by omega)
    obtain⟨key,hkey⟩:∃ y,ks[i]?=some y:=⟨ks[i]'(by have:=(f11 hkk).1;omega),List.getElem?_eq_getElem _⟩
    have b6:=dm hkey
    have b7:ks.getD i ⟨#[]⟩=key:=by simp[List.getD,hkey]
    have b8:=hks key (List.mem_of_getElem? hkey)
    have b9:=(f11 hkk).1
    simp only[b5,if_true,b7] at a9
    simp only[rg,go_sem,seval,Prod.fst,a1,a2,a6,a10,b5,b6,q6,bU,bw,ByteArray.size_append,ml,mn,mo,mq,mr]
    repeat' (first|with_reducible assumption|with_reducible refine And.intro ?_ ?_|intro _)
    all_goals first|omega|with_reducible assumption|skip
    refine⟨i+1,hlt,by omega,?_⟩
    rw[a9,nZ]
    exact Le.sub (by simp) (by simp) (by simp[aa])
  ·have a2:((i:Int) < (l.length:Int))=False:=by simp;omega
   have a3:(bj kk ks l).take i=bj kk ks l:=List.take_of_length_le (by rw[iU];exact hge)
   have a4:=hz i
   have a5:=iU kk ks l
   rw[a3] at a4
   rcases hkk with hkk|hkk
   ·have b5:(kk=6)=False:=eq_false (by omega)
    simp only[rg,go_sem,seval,Prod.fst,a2,a3,a5,b5,bU,q4,q5,ByteArray.size_append,ab,BX,BY,uF,uG,uH]
    repeat' (first|with_reducible assumption|with_reducible refine And.intro ?_ ?_|intro _)
    all_goals first|omega|with_reducible assumption|skip
    all_goals (simp only[az,b0,b1,b2,b3,b4,b5,if_false])
   ·have b5:(kk=6)=True:=eq_true (by omega)
    simp only[rg,go_sem,seval,Prod.fst,a2,a3,a5,b5,bU,q2,q3,ByteArray.size_append,ab,BX,BY,uF,uG,uH]
    repeat' (first|with_reducible assumption|with_reducible refine And.intro ?_ ?_|intro _)
    all_goals first|omega|with_reducible assumption|skip
    all_goals (simp only[az,b0,b1,b2,b3,b4,b5,if_false,if_true])
theorem PC (hK:tabK) (k:Nat):Sound Tryz.prog 43 (et k):=by
 induction k with
 | zero=>exact Sound.none
 | succ k ih=>exact PB hK k ih
theorem DA (hK:tabK):Sound Tryz.prog 43 gp:=Sound.all (μ:=fun t=>SizeOf.sizeOf t) (PC hK)
end Go.Proofs.Pw
