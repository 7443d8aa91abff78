/- What is a tree that is ok, told of trees. -/
import Derived.Test.YtcligmgalcidpaaGreatDoorPwT9
import Derived.Test.YtcligmgalcidpaaGreatDoorProg
import Derived.KernelRfl
set_option linter.unusedSimpArgs false
set_option linter.unusedVariables false
set_option linter.unusedSectionVars false
set_option maxRecDepth 20000
namespace Go.Proofs.Pw
def bg (x:UInt8):Prop:=97<=x.toNat/\x.toNat<=122
def okS (s:ByteArray):Prop:=(∀ x ∈ s.data.toList,bg x)/\s.size<=12
noncomputable instance (s:ByteArray):Decidable (okS s):=Classical.propDecidable _
theorem tA {s:ByteArray} {i:Nat} (h:i < s.size):∃ x,s.data.toList[i]?=some x/\dW s i=(x.toNat:Int)/\x ∈ s.data.toList:=by
 have h':i < s.data.toList.length:=by simpa using h
 refine⟨s.data.toList[i],by simp,?_,List.getElem_mem h'⟩
 unfold dW
 rw[List.getD_eq_getElem?_getD,List.getElem?_eq_getElem h'];rfl
theorem LD:∀ (x y:List UInt8),(¬ (Op.bytesLess x y=true\/x=y)) ↔ Op.bytesLess y x=true:=by
 intro x
 induction x with
 | nil=>intro y;cases y <;> simp[Op.bytesLess]
 | cons a x ih =>
   intro y
   cases y with
   | nil=>simp[Op.bytesLess]
   | cons b y =>
     have:=ih y
     simp only[Op.bytesLess,Bool.or_eq_true,decide_eq_true_eq,Bool.and_eq_true,beq_iff_eq,List.cons.injEq]
     have h1:a < b ↔ a.toNat < b.toNat:=UInt8.lt_iff_toNat_lt
     have h2:b < a ↔ b.toNat < a.toNat:=UInt8.lt_iff_toNat_lt
     have h3:a=b ↔ a.toNat=b.toNat:=UInt8.toNat_inj.symm
     rw[h1,h2,h3,eq_comm (a:=b),h3]
     constructor
     ·intro h
      by_cases e:a.toNat=b.toNat
      ·exact .inr ⟨e,this.1 (fun k=>h (k.elim (fun k=>.inl (.inr ⟨e,k⟩)) (fun k=>.inr ⟨e,k⟩)))⟩
      ·refine .inl ?_
       have:¬ a.toNat < b.toNat:=fun k=>h (.inl (.inl k))
       omega
     ·rintro (h|⟨e,h⟩) k
      ·rcases k with (k|⟨k,_⟩)|⟨k,_⟩ <;> omega
      ·refine this.2 h ?_
       rcases k with (k|⟨_,k⟩)|⟨_,k⟩
       ·omega
       ·exact .inl k
       ·exact .inr k
theorem LE {a b:ByteArray} (h:a.toList=b.toList):a=b:=by
 rw[ByteArray.toList_eq,ByteArray.toList_eq] at h
 cases a;cases b;rename_i x y;cases x;cases y;simp_all
theorem nX (a b:ByteArray):(¬ (sl a b\/a=b)) ↔ sl b a:=by
 have:=LD a.toList b.toList
 unfold sl
 rw[<-this]
 constructor
 ·intro h k;exact h (k.imp id LE)
 ·intro h k;exact h (k.imp id (fun e=>by rw[e]))
def lC (ks:List ByteArray) (n:Nat):Prop:=(∀ (j:Nat) k,j < n->ks[j]?=some k->okS k)/\∀ (j:Nat) a b,j+1 < n->ks[j]?=some a->ks[j+1]?=some b->sl a b
def ei (ks:List ByteArray):Prop:=lC ks ks.length
noncomputable instance (ks:List ByteArray):Decidable (ei ks):=Classical.propDecidable _
theorem tB (ks:List ByteArray):lC ks 0:=⟨fun _ _ h=>by omega,fun _ _ _ h=>by omega⟩
theorem Au {ks:List ByteArray} {n:Nat} {k:ByteArray} (h:lC ks n) (hk:ks[n]?=some k) (h1:okS k) (h2:∀ a,0 < n->ks[n-1]?=some a->sl a k):lC ks (n+1):=by
 refine⟨fun j x hj hx=>?_,fun j a b hj ha hb=>?_⟩
 ·by_cases e:j=n
  ·subst e;rw[hk] at hx;cases hx;exact h1
  ·exact h.1 j x (by omega) hx
 ·by_cases e:j+1=n
  ·subst e;rw[hk] at hb;cases hb;exact h2 a (by omega) (by simpa using ha)
  ·exact h.2 j a b (by omega) ha hb
theorem fW {ks:List ByteArray} {n:Nat} {k:ByteArray} (h:ei ks) (hk:ks[n]?=some k):okS k:=h.1 n k (List.getElem?_eq_some_iff.1 hk).1 hk
theorem Av {ks:List ByteArray} {n:Nat} {a k:ByteArray} (h:ei ks) (hn:0 < n) (ha:ks[n-1]?=some a) (hk:ks[n]?=some k):sl a k:=by
 have:=(List.getElem?_eq_some_iff.1 hk).1
 exact h.2 (n-1) a k (by omega) ha (by rw[Nat.sub_add_cancel hn];exact hk)
mutual
def aK:T->Int->Prop
 | .mk k n s ks l,d=>1<=d/\(k=3\/n=0)/\(k=4\/s=⟨#[]⟩)/\(k=6\/ks=[])/\(5<=k\/l=[])/\0<=k/\k<=6/\-1000000<=n/\n<=1000000/\okS s/\(k=6->ks.length=l.length/\ei ks)/\aL l (d-1)
def aL:List T->Int->Prop
 | [],_=>True
 | t::l,d=>aK t d/\aL l d
end
noncomputable instance (t:T) (d:Int):Decidable (aK t d):=Classical.propDecidable _
theorem tC {l:List T} {d:Int}:aL l d ↔ ∀ t ∈ l,aK t d:=by
 induction l with
 | nil=>simp[aL]
 | cons x l ih=>simp[aL,ih]
theorem nY:okS ⟨#[]⟩:=⟨by simp,by decide⟩
mutual
def cr:T->Int->Int
 | .mk _ _ _ _ l,d=>1+bV l d
def bV:List T->Int->Int
 | [],_=>0
 | t::l,d=>if 0 < d then cr t (d-1)+bV l d else 0
end
mutual
def aA:T->Int
 | .mk _ _ _ _ l=>1+av l
def av:List T->Int
 | []=>0
 | t::l=>aA t+av l
end
def okT (t:T):Prop:=aK t 6/\cr t 6<=60
noncomputable instance (t:T):Decidable (okT t):=Classical.propDecidable _
end Go.Proofs.Pw
namespace Go.Proofs.Pw
mutual
theorem tD:∀ (t:T) (d:Int),0<=cr t d/\cr t d<=aA t
 | .mk k n s ks l,d=>by
   have:=gS l d
   simp only[cr,aA];omega
theorem gS:∀ (l:List T) (d:Int),0<=bV l d/\bV l d<=av l
 | [],d=>by simp[bV,av]
 | t::l,d=>by
   have h1:=tD t (d-1)
   have h2:=gS l d
   simp only[bV,av]
   split <;> omega
end
theorem LF {l:List T} {i:Nat} {t:T} (h:l[i]?=some t):aA t<=av l:=by
 induction l generalizing i with
 | nil=>simp at h
 | cons x l ih =>
   have h2:=gS l 0
   have h3:=tD x 0
   cases i with
   | zero=>simp at h;subst h;simp only[av];omega
   | succ i=>have:=ih (by simpa using h);simp only[av];omega
end Go.Proofs.Pw
namespace Go.Proofs.Pw
theorem LG {l:List T} {d:Int} (h:l.length=0):aL l d:=by
 cases l with
 | nil=>simp[aL]
 | cons _ _=>simp at h
end Go.Proofs.Pw
namespace Go.Proofs.Pw
def iO (k n:Int) (s:ByteArray) (ks:List ByteArray) (l:List T):Prop :=
 (k=3\/n=0)/\(k=4\/s=⟨#[]⟩)/\(k=6\/ks.length=0)/\(5<=k\/l.length=0)/\0<=k/\k<=6/\-1000000<=n/\n<=1000000/\okS s/\(k=6->ks.length=l.length)/\ei ks
noncomputable instance (k n:Int) (s:ByteArray) (ks:List ByteArray) (l:List T):Decidable (iO k n s ks l):=Classical.propDecidable _
mutual
noncomputable def okI:T->Int->Int->Bool × Int
 | .mk k n s ks l,d,left=>if 1<=left/\d<=6/\iO k n s ks l then cw l (d+1) (left-1) else (false,left-1)
noncomputable def cw:List T->Int->Int->Bool × Int
 | [],_,left=>(true,left)
 | t::r,d,left=>if (okI t d left).1=true then cw r d (okI t d left).2 else (false,(okI t d left).2)
end
mutual
theorem tE:∀ (t:T) (d left:Int),(okI t d left).2<=left/\((okI t d left).1=true->0<=(okI t d left).2)
 | .mk k n s ks l,d,left=>by
   have:=Aw l (d+1) (left-1)
   simp only[okI]
   split
   ·exact⟨by omega,fun h=>this.2 (by omega) h⟩
   ·exact⟨by simp only;omega,fun h=>by simp at h⟩
theorem Aw:∀ (l:List T) (d left:Int),(cw l d left).2<=left/\(0<=left->(cw l d left).1=true->0<=(cw l d left).2)
 | [],d,left=>by simp[cw]
 | t::r,d,left=>by
   have h1:=tE t d left
   have h2:=Aw r d (okI t d left).2
   simp only[cw]
   split
   ·rename_i h;exact⟨by omega,fun _ h'=>h2.2 (h1.2 h) h'⟩
   ·rename_i h;exact⟨h1.1,fun _ h'=>by simp at h'⟩
end
end Go.Proofs.Pw
namespace Go.Proofs.Pw
def T.zero:T:=.mk 0 0 ⟨#[]⟩ [] []
theorem T.zero_enc:T.zero.enc=[.int .i64 0,.int .i64 0,.str ⟨#[]⟩,.row 1 [],.row 5 []]:=by simp[T.zero,T.enc,aa,ai]
theorem T.zero_fit:T.zero.fit 140737488355328:=by simp[T.zero,T.fit,cJ,ab,i64,bn];decide
end Go.Proofs.Pw
namespace Go.Proofs.Pw
open Go.RowKit
def rdC (bs:List Int) (p:Int):List C:=[.row 1 (aF .u8 bs),.int .i64 p]
theorem dn {a b:List Int} {p q:Int}:rdC a p=rdC b q ↔ a=b/\p=q:=by simp[rdC,ao]
def byt (bs:List Int):Prop:=(∀ b ∈ bs,0<=b/\b<=255)/\bs.length<=2000
mutual
theorem T.fit_mono {A B:Int} (hAB:A<=B):∀ {t:T},t.fit A->t.fit B
 | .mk k n s ks l,h=>by
   simp only[T.fit,cJ,ab] at h ⊢
   obtain⟨h1,h2,h3,⟨h4,h5⟩,h6,h7⟩:=h
   exact⟨h1,h2,by omega,⟨by omega,fun s hs=>by have:=h5 s hs;omega⟩,by omega,Ax hAB h7⟩
theorem Ax {A B:Int} (hAB:A<=B):∀ {l:List T},bn A l->bn B l
 | [],_=>trivial
 | _::_,h=>⟨T.fit_mono hAB h.1,Ax hAB h.2⟩
end
def pU (b:Nat):T->Prop
 | .mk _ _ _ ks l=>l.length<=b/\ks.length<=b
def drT (m:Int) (t:T):Prop:=t.fit 1000/\aA t<=m/\pU 6 t
theorem drT.fit {m:Int} {t:T} (h:drT m t):t.fit 140737488355328:=T.fit_mono (by decide) h.1
theorem drT.mono {m n:Int} (hmn:m<=n) {t:T} (h:drT m t):drT n t:=⟨h.1,Int.le_trans h.2.1 hmn,h.2.2⟩
theorem lD {k n:Int} {s:ByteArray} (hk:i64 k) (hn:i64 n) (hs:(s.size:Int)<=1000):drT 1 (.mk k n s [] []):=by
 refine⟨⟨hk,hn,hs,⟨by simp[ab],by simp⟩,by simp[ab],trivial⟩,?_,by simp[pU]⟩
 simp[aA,av]
def vb:Nat->Int
 | 0=>20
 | k+1=>20+5*vb k
theorem lE:∀ k,20<=vb k
 | 0=>by simp[vb]
 | k+1=>by have:=lE k;simp only[vb];omega
theorem Ay {B:Int} {a b:List T} (h:bn B a) (h':bn B b):bn B (a++b):=by
 induction a with
 | nil=>exact h'
 | cons t a ih=>exact⟨h.1,ih h.2⟩
theorem Az (a b:List T):av (a++b)=av a+av b:=by
 induction a with
 | nil=>simp[av]
 | cons t a ih=>simp only[List.cons_append,av,ih];omega
theorem nZ (a b:List ByteArray):aa (a++b)=aa a++aa b:=by simp[aa]
theorem lF (a b:List T):ai (a++b)=ai a++ai b:=by
 induction a with
 | nil=>simp[ai]
 | cons t a ih=>simp only[List.cons_append,ai,ih]
theorem tF (sp:Spec):sp.weak.md=sp.md:=rfl
theorem oc (sp:Spec) (ds:List AV):sp.weak.pre ds=sp.pre ds:=rfl
theorem tG (sp:Spec) (ds:List AV) (F:List AV->List AV->Prop):sp.weak.all ds F=sp.all ds (fun r o=>F (r.map AV.weak) o):=by
 unfold Spec.all Spec.may Spec.weak
 cases sp.alts with
 | none=>exact propext ⟨fun h r o ⟨hr,ho⟩=>h _ o ⟨by rw[hr],ho⟩,fun h r o ⟨hr,ho⟩=>by rw[hr];exact h _ o ⟨rfl,ho⟩⟩
 | some R=>exact propext ⟨fun h r o hro=>h _ o ⟨r,hro,rfl⟩,fun h r o ⟨r',hr',he⟩=>by rw[he];exact h r' o hr'⟩
theorem tH (sp:Spec) (ds:List AV):sp.weak.ne ds=sp.ne ds:=by
 unfold Spec.ne Spec.may Spec.weak
 cases sp.alts with
 | none=>exact propext ⟨fun ⟨r,o,hr,ho⟩=>⟨_,o,rfl,ho⟩,fun ⟨r,o,hr,ho⟩=>⟨_,o,rfl,ho⟩⟩
 | some R=>exact propext ⟨fun ⟨r,o,r',h,_⟩=>⟨r',o,h⟩,fun ⟨r,o,h⟩=>⟨_,o,r,h,rfl⟩⟩
theorem tI {bs:List Int} (h:byt bs) {i:Nat} (hi:i < bs.length):∃ b,bs[i]?=some b/\(aF .u8 bs).getD i []=[.int .u8 b]/\0<=b/\b<=255:=by
 refine⟨bs[i],by simp[hi],tp (by simp[hi]),h.1 _ (by simp)⟩
section
variable [Globs]
theorem Le.ownB {tm:List (Nat × PV)} {bx:List (Nat × List Q)} {rw_:List (Nat × Nat × List (List C))} {b j d sz:Nat} {qs:List Q} (h0:0 < sz) (hb:(b,qs) ∈ bx) (hj:qs[j]?=some (.z sz))
 (hk:∀ p ∈ bx,∀ q ∈ p.2,q.killO d=q) (ht:∀ p ∈ tm,p.2.map (Q.killO d)=p.2) (hdB:d < aS:=by decide):Le ⟨tm,bx,rw_⟩ ⟨tm,upd b (qs.set j (.own d)) bx,upd d (sz,[]) rw_⟩:=fun X n B w0 ac w M hs=>by
 obtain⟨hB,t,cells,c1,c2,c3⟩:=hs.mem.box b qs hb
 obtain⟨u,u1,u2,A,hz⟩:=c3 j _ hj
 have hpb:∀ g,¬ ae (RV.of u) g:=fun g=>by rw[gG,hz];cases A <;> simp[ax]
 have hm:=Mem.getRow (σ:=⟨tm,bx,rw_⟩) (d:=d) (es:=[]) (v':=RV.of u) hs.mem h0 ⟨.inr ⟨rfl,A,hz⟩,fun _ h=>h.elim⟩ (fun g hg=>absurd hg (hpb g)) (fun g hg=>absurd hg (hpb g)) (fun _ _ _ hg=>absurd hg (hpb _)) (fun _ _ g _ _ hg=>absurd hg (hpb g))
 have hbx:(St.map (Q.killO d) ⟨tm,bx,rw_⟩).bx=bx:=by
  simp only[St.map]
  conv=>rhs;rw[<-List.map_id bx]
  refine List.map_congr_left (fun p hp=>?_)
  obtain⟨i,qs⟩:=p
  simp only[id,Prod.mk.injEq,true_and]
  conv=>rhs;rw[<-List.map_id qs]
  exact List.map_congr_left (fun q hq=>hk _ hp q hq)
 rw[hbx] at hm
 have hin:∀ {i q},(i,q) ∈ upd b (qs.set j (.own d)) bx->∃ q',(i,q') ∈ bx:=fun h=>by
  rcases aE h with ⟨rfl,_⟩|⟨_,h⟩
  ·exact⟨_,hb⟩
  ·exact⟨_,h⟩
 refine⟨M.nr d (RV.of u),hs.size,hs.defs,fun t' p hp=>?_,⟨fun i q h=>?_,hm.row,fun i q i' q' h h' hne=>?_,fun i q i' r h h'=>?_,hm.rr,hm.lt,fun i q h=>?_,hm.sr,hm.gl⟩,hs.fr,hs.hB,hs.sS,hs.sβ,fun i hi hb=>by simp only[Gh.nr];rw[if_neg (by omega)];exact hs.sρ i hi hb⟩
 ·have:=cX (eG (d:=d) (v':=RV.of u) (Up.refl hs.mem.lt) hs.mem.lt) (hs.tm _ _ hp)
  rwa [ht _ hp] at this
 ·rcases aE h with ⟨rfl,rfl⟩|⟨_,h⟩
  ·obtain⟨k1,t',cells',k2,k3,k4⟩:=hm.box _ qs hb
   have hce:cells'=cells:=by
    have e:=k2.symm.trans c1
    simp only[Option.some.injEq] at e
    cases e;rfl
   subst hce
   refine⟨k1,t',_,k2,by rw[List.length_set];exact k3,fun j' q hq=>?_⟩
   by_cases hjj:j=j'
   ·subst hjj
    have hlt:j < qs.length:=(List.getElem?_eq_some_iff.1 hj).1
    rw[List.getElem?_set_self hlt] at hq
    cases hq
    exact⟨u,u1,u2,by simp[Gh.nr],by rw[hz];rfl⟩
   ·rw[List.getElem?_set_ne hjj] at hq
    exact k4 j' q hq
  ·exact hm.box i q h
 ·obtain⟨_,e1⟩:=hin h;obtain⟨_,e2⟩:=hin h'
  exact hm.bb _ _ _ _ e1 e2 hne
 ·obtain⟨_,e1⟩:=hin h
  exact hm.br _ _ _ _ e1 h'
 ·obtain⟨_,e1⟩:=hin h
  exact hm.sb _ _ e1
def QLe (p q:Q):Prop:=∀ w M v,af w M p v->af w M q v
theorem QLe.refl (p:Q):QLe p p:=fun _ _ _ h=>h
theorem QLe.z (sz:Nat):QLe (.z sz) (.c (.row sz [])):=fun _ _ _ h=>by obtain⟨A,rfl⟩:=h;exact .nil sz A 0
theorem QLe.full (sz:Nat) (es:List (List C)):QLe (.full sz es) (.c (.row sz es)):=fun _ _ _ h=>h.1
theorem QLe.no (p:Q):QLe p .no:=fun _ _ _ _=>trivial
theorem Le.bx {tm:List (Nat × PV)} {bx bx':List (Nat × List Q)} {rw_:List (Nat × Nat × List (List C))} (h:∀ p ∈ bx',∃ q,(p.1,q) ∈ bx/\All2 QLe q p.2):Le ⟨tm,bx,rw_⟩ ⟨tm,bx',rw_⟩:=fun X n B w0 ac w M hs=>by
 have hin:∀ {i q},(i,q) ∈ bx'->∃ q',(i,q') ∈ bx:=fun hq=>by obtain⟨q',h1,_⟩:=h _ hq;exact⟨q',h1⟩
 refine⟨M,hs.size,hs.defs,hs.tm,⟨fun i q hq=>?_,hs.mem.row,fun i q j q' h1 h2 hne=>?_,fun i q j r h1 h2=>?_,hs.mem.rr,hs.mem.lt,fun i q h1=>?_,hs.mem.sr,hs.mem.gl⟩,hs.fr,hs.hB,hs.sS,hs.sβ,hs.sρ⟩
 ·obtain⟨q',h1,h2⟩:=h _ hq
  obtain⟨k1,t,cells,k2,k3,k4⟩:=hs.mem.box i q' h1
  refine⟨k1,t,cells,k2,by rw[k3];exact h2.length,fun j x hx=>?_⟩
  have hlt:j < q'.length:=by rw[h2.length];exact (List.getElem?_eq_some_iff.1 hx).1
  obtain⟨u,u1,u2,u3⟩:=k4 j q'[j] (by simp[hlt])
  obtain⟨y,hy,hle⟩:=h2.get j q'[j] (by simp[hlt])
  rw[hx] at hy;cases hy
  exact⟨u,u1,u2,hle _ _ _ u3⟩
 ·obtain⟨_,e1⟩:=hin h1;obtain⟨_,e2⟩:=hin h2
  exact hs.mem.bb _ _ _ _ e1 e2 hne
 ·obtain⟨_,e1⟩:=hin h1
  exact hs.mem.br _ _ _ _ e1 h2
 ·obtain⟨_,e1⟩:=hin h1
  exact hs.mem.sb _ _ e1
theorem LH (σ:St) (cs:List C):dG σ (cs.map .c)=some cs:=by
 induction cs with
 | nil=>rfl
 | cons c cs ih=>simp only[List.map_cons,dG,ih];cases c <;> rfl
end
attribute [go_sem] LH
end Go.Proofs.Pw
namespace Go.Proofs.Pw
variable [Globs]
def AA:X:=(.seq (.reg [xS 2 (.mv (.k (.c (.bool false))))] none [0]) (.seq (.seq (.reg [xS 3 (.mv (xK 0))] none [0,3]) (.block 0 (.loop (.seq (.seq (.reg [xM 4 3,xM 5 0,xS 6 (.len (.t 5) true),xS 7 (.bin false .lss (.t 4) (.t 6))] none [0,3,7]) (.cond (.t 7) .skip (.exit 0))) (.seq (.block 1 (.seq (.reg [xM 10 0,xM 11 3,xS 12 (.idx (.t 10) (.t 11)),xS 13 (.bin false .lss (.t 12) (.k (.c (.int .u8 97)))),xM 14 13,xH 15 14 (.mv (.t 0)),xH 16 14 (.mv (.t 3)),xH 17 14 (.idx (.t 15) (.t 16)),xH 18 14 (.bin false .gtr (.t 17) (.k (.c (.int .u8 122)))),xS 19 (.pick (.t 14) (.k (.c (.bool true))) (.t 18))] none [0,3,19]) (.cond (.t 19) (.seq (.reg [xS 2 (.mv (.k (.c (.bool false))))] none [2]) .ret) .skip))) (.reg [xM 8 3,xS 9 (.bin false .add (.t 8) (xK 1)),xM 3 9] none [0,3])))))) (.seq (.reg [xM 20 0,xS 21 (.len (.t 20) true),xS 22 (.bin false .leq (.t 21) (xK 12)),xM 2 22] none [2]) .ret)))
theorem LI:al Tryz.prog 23 (Tryz.f48.body.getD .skip) AA=true:=by kernel_rfl
theorem LJ:am Tryz.prog Tryz.f48.results.toList [.tmp 2]=true:=by kernel_rfl
theorem tJ:aw Tryz.prog 48=true:=by kernel_rfl
def AB:X:=(.seq (.reg [xS 2 (.mv (.k (.c (.bool false))))] none [0]) (.seq (.seq (.reg [xS 3 (.mv (xK 0))] none [0,3]) (.block 0 (.loop (.seq (.seq (.reg [xM 4 3,xM 5 0,xS 6 (.len (.t 5) false),xS 7 (.bin false .lss (.t 4) (.t 6))] none [0,3,7]) (.cond (.t 7) .skip (.exit 0))) (.seq (.block 1 (.seq (.reg [xM 10 0,xM 11 3,xS 12 (.ia (.t 10) (.t 11) 1),xL 13 12,xS 14 (.call 48 [(.t 13)]),xS 15 (.not (.t 14)),xM 16 15,xH 17 16 (.mv (.t 3)),xH 18 16 (.bin false .gtr (.t 17) (xK 0)),xH 19 16 (.mv (.t 18)),xG 20 19 (.mv (.t 0)),xG 21 19 (.mv (.t 3)),xG 22 19 (.ia (.t 20) (.t 21) 1),xG 23 19 (.load (.t 22) none),xG 24 19 (.mv (.t 0)),xG 25 19 (.mv (.t 3)),xG 26 19 (.bin false .sub (.t 25) (xK 1)),xG 27 19 (.ia (.t 24) (.t 26) 1),xG 28 19 (.load (.t 27) none),xG 29 19 (.bin false .leq (.t 23) (.t 28)),xH 30 16 (.pick (.t 19) (.t 29) (.k (.c (.bool false)))),xS 31 (.pick (.t 16) (.k (.c (.bool true))) (.t 30))] (some 19) [0,3,31]) (.cond (.t 31) (.seq (.reg [xS 2 (.mv (.k (.c (.bool false))))] none [2]) .ret) .skip))) (.reg [xM 8 3,xS 9 (.bin false .add (.t 8) (xK 1)),xM 3 9] none [0,3])))))) (.seq (.reg [xS 2 (.mv (.k (.c (.bool true))))] none [2]) .ret)))
theorem LK:al Tryz.prog 32 (Tryz.f98.body.getD .skip) AB=true:=by kernel_rfl
theorem LL:am Tryz.prog Tryz.f98.results.toList [.tmp 2]=true:=by kernel_rfl
theorem LM:aw Tryz.prog 98=true:=by kernel_rfl
def AC:X:=(.seq (.reg [xS 2 (.box (.t 0) (some 5)),xS 4 (.mv (.k (.c (.bool false))))] none [1,2]) (.seq (.seq (.reg [xM 6 1,xS 7 (.bin false .lss (.t 6) (xK 1)),xM 8 7,xH 9 8 (.fa (.t 2) 0),xH 10 8 (.load (.t 9) none),xH 11 8 (.bin false .neq (.t 10) (xK 3)),xH 12 8 (.mv (.t 11)),xG 13 12 (.fa (.t 2) 1),xG 14 12 (.load (.t 13) none),xG 15 12 (.bin false .neq (.t 14) (xK 0)),xH 16 8 (.pick (.t 12) (.t 15) (.k (.c (.bool false)))),xS 17 (.pick (.t 8) (.k (.c (.bool true))) (.t 16)),xM 18 17,xH 19 18 (.fa (.t 2) 0),xH 20 18 (.load (.t 19) none),xH 21 18 (.bin false .neq (.t 20) (xK 4)),xH 22 18 (.mv (.t 21)),xG 23 22 (.fa (.t 2) 2),xG 24 22 (.load (.t 23) none),xG 25 22 (.bin false .neq (.t 24) (.k (.c (.str ⟨#[]⟩)))),xH 26 18 (.pick (.t 22) (.t 25) (.k (.c (.bool false)))),xS 27 (.pick (.t 18) (.k (.c (.bool true))) (.t 26)),xM 28 27,xH 29 28 (.fa (.t 2) 0),xH 30 28 (.load (.t 29) none),xH 31 28 (.bin false .neq (.t 30) (xK 6)),xH 32 28 (.mv (.t 31)),xG 33 32 (.fa (.t 2) 3),xG 34 32 (.load (.t 33) none),xG 35 32 (.len (.t 34) false),xG 36 32 (.bin false .gtr (.t 35) (xK 0)),xH 37 28 (.pick (.t 32) (.t 36) (.k (.c (.bool false)))),xS 38 (.pick (.t 28) (.k (.c (.bool true))) (.t 37)),xM 39 38,xH 40 39 (.fa (.t 2) 0),xH 41 39 (.load (.t 40) none),xH 42 39 (.bin false .lss (.t 41) (xK 5)),xH 43 39 (.mv (.t 42)),xG 44 43 (.fa (.t 2) 4),xG 45 43 (.load (.t 44) none),xG 46 43 (.len (.t 45) false),xG 47 43 (.bin false .gtr (.t 46) (xK 0)),xH 48 39 (.pick (.t 43) (.t 47) (.k (.c (.bool false)))),xS 49 (.pick (.t 39) (.k (.c (.bool true))) (.t 48))] none [1,2,49]) (.cond (.t 49) (.seq (.reg [xS 4 (.mv (.k (.c (.bool false))))] none [4]) .ret) .skip)) (.seq (.seq (.reg [xS 50 (.fa (.t 2) 0),xL 51 50] none [1,2,51]) (.block 0 (.seq (.seq (.reg [xS 53 (.bin false .eql (.t 51) (xK 0)),xM 52 53] none [1,2,51,52]) (.cond (.t 52) .skip (.seq (.reg [xS 54 (.bin false .eql (.t 51) (xK 1)),xM 52 54] none [1,2,51,52]) (.cond (.t 52) .skip (.reg [xS 55 (.bin false .eql (.t 51) (xK 2)),xM 52 55] none [1,2,51,52]))))) (.cond (.t 52) (.seq (.reg [xS 4 (.mv (.k (.c (.bool true))))] none [4]) .ret) (.seq (.reg [xS 57 (.bin false .eql (.t 51) (xK 3)),xM 56 57] none [1,2,51,56]) (.cond (.t 56) (.seq (.reg [xS 58 (.fa (.t 2) 1),xL 59 58,xS 60 (.bin false .geq (.t 59) (.k (.c (.int .i64 (-1000000))))),xM 61 60,xG 62 61 (.fa (.t 2) 1),xG 63 61 (.load (.t 62) none),xG 64 61 (.bin false .leq (.t 63) (xK 1000000)),xS 65 (.pick (.t 61) (.t 64) (.k (.c (.bool false)))),xM 4 65] none [4]) .ret) (.seq (.reg [xS 67 (.bin false .eql (.t 51) (xK 4)),xM 66 67] none [1,2,51,66]) (.cond (.t 66) (.seq (.reg [xS 68 (.fa (.t 2) 2),xL 69 68,xS 70 (.call 48 [(.t 69)]),xM 4 70] none [4]) .ret) (.seq (.reg [xS 72 (.bin false .eql (.t 51) (xK 6)),xM 71 72] none [1,2,51,71]) (.cond (.t 71) (.seq (.reg [xS 73 (.fa (.t 2) 3),xL 74 73,xS 75 (.len (.t 74) false),xS 76 (.fa (.t 2) 4),xL 77 76,xS 78 (.len (.t 77) false),xS 79 (.bin false .neq (.t 75) (.t 78)),xM 80 79,xH 81 80 (.fa (.t 2) 3),xH 82 80 (.load (.t 81) none),xH 83 80 (.call 98 [(.t 82)]),xH 84 80 (.not (.t 83)),xS 85 (.pick (.t 80) (.k (.c (.bool true))) (.t 84))] none [1,2,85]) (.cond (.t 85) (.seq (.reg [xS 4 (.mv (.k (.c (.bool false))))] none [4]) .ret) .skip)) (.seq (.reg [xS 87 (.bin false .eql (.t 51) (xK 5)),xM 86 87] none [1,2,86]) (.cond (.t 86) .skip (.seq (.reg [xS 4 (.mv (.k (.c (.bool false))))] none [4]) .ret))))))))))))) (.seq (.seq (.reg [xS 5 (.mv (xK 0))] none [1,2,5]) (.block 1 (.loop (.seq (.seq (.reg [xM 88 5,xS 89 (.fa (.t 2) 4),xL 90 89,xS 91 (.len (.t 90) false),xS 92 (.bin false .lss (.t 88) (.t 91))] none [1,2,5,92]) (.cond (.t 92) .skip (.exit 1))) (.seq (.block 2 (.seq (.reg [xS 95 (.fa (.t 2) 4),xL 96 95,xM 97 5,xS 98 (.ia (.t 96) (.t 97) 5),xS 99 (.load (.t 98) (some 5)),xM 100 1,xS 101 (.bin false .sub (.t 100) (xK 1)),xS 102 (.call 78 [(.t 99),(.t 101)]),xS 103 (.not (.t 102))] none [1,2,5,103]) (.cond (.t 103) (.seq (.reg [xS 4 (.mv (.k (.c (.bool false))))] none [4]) .ret) .skip))) (.reg [xM 93 5,xS 94 (.bin false .add (.t 93) (xK 1)),xM 5 94] none [1,2,5])))))) (.seq (.reg [xS 4 (.mv (.k (.c (.bool true))))] none [4]) .ret)))))
theorem LN:al Tryz.prog 104 (Tryz.f78.body.getD .skip) AC=true:=by kernel_rfl
theorem LO:am Tryz.prog Tryz.f78.results.toList [.tmp 4]=true:=by kernel_rfl
theorem AD:aw Tryz.prog 78=true:=by kernel_rfl
def AE:X:=(.seq (.reg [xS 2 (.box (.t 0) (some 5)),xS 4 (.mv (xK 0))] none [1,2]) (.seq (.reg [xS 5 (.mv (xK 1))] none [1,2,5]) (.seq (.seq (.reg [xS 6 (.mv (xK 0))] none [1,2,5,6]) (.block 0 (.loop (.seq (.seq (.reg [xM 7 6,xS 8 (.fa (.t 2) 4),xL 9 8,xS 10 (.len (.t 9) false),xS 11 (.bin false .lss (.t 7) (.t 10)),xM 12 11,xG 13 12 (.mv (.t 1)),xG 14 12 (.bin false .gtr (.t 13) (xK 0)),xS 15 (.pick (.t 12) (.t 14) (.k (.c (.bool false))))] none [1,2,5,6,15]) (.cond (.t 15) .skip (.exit 0))) (.seq (.block 1 (.reg [xM 18 5,xS 19 (.fa (.t 2) 4),xL 20 19,xM 21 6,xS 22 (.ia (.t 20) (.t 21) 5),xS 23 (.load (.t 22) (some 5)),xM 24 1,xS 25 (.bin false .sub (.t 24) (xK 1)),xS 26 (.call 79 [(.t 23),(.t 25)]),xS 27 (.bin false .add (.t 18) (.t 26)),xM 5 27] none [1,2,5,6])) (.reg [xM 16 6,xS 17 (.bin false .add (.t 16) (xK 1)),xM 6 17] none [1,2,5,6])))))) (.seq (.reg [xM 28 5,xM 4 28] none [4]) .ret))))
theorem LP:al Tryz.prog 29 (Tryz.f79.body.getD .skip) AE=true:=by kernel_rfl
theorem LQ:am Tryz.prog Tryz.f79.results.toList [.tmp 4]=true:=by kernel_rfl
theorem AF:aw Tryz.prog 79=true:=by kernel_rfl
def AG:X:=(.seq (.reg [xS 1 (.box (.t 0) (some 5)),xS 2 (.mv (.k (.c (.bool false))))] none [1]) (.seq (.reg [xS 3 (.load (.t 1) (some 5)),xS 4 (.call 78 [(.t 3),(xK 6)]),xM 5 4,xG 6 5 (.load (.t 1) (some 5)),xG 7 5 (.call 79 [(.t 6),(xK 6)]),xG 8 5 (.bin false .leq (.t 7) (xK 60)),xS 9 (.pick (.t 5) (.t 8) (.k (.c (.bool false)))),xM 2 9] none [2]) .ret))
theorem LR:al Tryz.prog 10 (Tryz.f49.body.getD .skip) AG=true:=by kernel_rfl
theorem LS:am Tryz.prog Tryz.f49.results.toList [.tmp 2]=true:=by kernel_rfl
theorem AH:aw Tryz.prog 49=true:=by kernel_rfl
noncomputable def jX :Spec:=Spec.of (ι:=ByteArray) [false] (fun i=>[.d (.one (.str i))]) (fun i=>ab 140737488355328 i.size) (fun i=>[.d (.one (.bool (decide (okS i))))]) (fun _=>[.gone])
theorem pV:∀ i j:ByteArray,(fun (i:ByteArray)=>([.d (.one (.str i))]:List AV)) i=(fun (i:ByteArray)=>([.d (.one (.str i))]:List AV)) j->i=j:=by
 intro s s' h
 simpa [ap,T.enc_eq,aq,F.enc_eq,ar,Tk.enc_eq,au,Gn.enc_eq,ao] using h
theorem tK :(jX).md=[false]:=rfl
theorem tM  (s:ByteArray):(jX).pre [.d (.one (.str s))]=(ab 140737488355328 s.size):=Spec.of_pre' pV s
theorem tN :(jX).alts=none:=rfl
theorem tO  (s:ByteArray):(jX).res [.d (.one (.str s))]=[.d (.one (.bool (decide (okS s))))]:=Spec.of_res pV s
theorem tP  (s:ByteArray):(jX).out [.d (.one (.str s))]=[.gone]:=Spec.of_out pV s
theorem tQ:Sound Tryz.prog 48 jX:=by
 refine aQ GOK.nil Tryz.func48 (c:=Tryz.f48.body.getD .skip) rfl (n:=23) rfl LI LJ (fun _=>by simp) ?_ ?_
 ·exact pV
 ·intro s h1
  simp only[ab] at h1
  simp only[AA,rg,go_sem,seval]
  refine aZ (ι:=Nat) (fun i=>s.size-i) (fun i=>i<=s.size/\∀ x ∈ s.data.toList.take i,bg x)
   (fun i=>⟨[(0,.q (.c (.str s))),(3,.q (.c (.int .i64 i)))],[],[]⟩) 0 ⟨Nat.zero_le _,by simp⟩ (Le.refl _) ?_
  rintro i ⟨hi,hall⟩
  rcases Nat.lt_or_ge i s.size with hlt|hge
  ·obtain⟨x,hx,hb,hmem⟩:=tA hlt
   have a2:((i:Int) < (s.size:Int))=True:=by simp;omega
   simp only[go_sem,seval,rg,a2,hb]
   repeat' (first|with_reducible assumption|with_reducible refine And.intro ?_ ?_|intro _)
   all_goals first|omega|skip
   ·rename_i hc ho
    have:=ho.1 x hmem
    unfold bg at this;omega
   ·rename_i hc _
    refine⟨i+1,⟨by omega,fun y hy=>?_⟩,by omega,Le.refl _⟩
    rw[List.take_add_one,hx] at hy
    rcases List.mem_append.1 hy with hy|hy
    ·exact hall y hy
    ·simp at hy;subst hy;unfold bg;omega
  ·have a2:((i:Int) < (s.size:Int))=False:=by simp;omega
   simp only[go_sem,seval,a2]
   rw[decide_eq_decide]
   unfold okS
   rw[List.take_of_length_le (by simpa using hge)] at hall
   constructor
   ·intro h;omega
   ·intro h;exact⟨hall,by omega⟩
noncomputable def jY :Spec:=Spec.of (ι:=(List ByteArray)) [false] (fun i=>[.d (.one (.row 1 (aa i)))]) (fun i=>cJ 140737488355328 i) (fun i=>[.d (.one (.bool (decide (ei i))))]) (fun _=>[.gone])
theorem pW:∀ i j:(List ByteArray),(fun (i:(List ByteArray))=>([.d (.one (.row 1 (aa i)))]:List AV)) i=(fun (i:(List ByteArray))=>([.d (.one (.row 1 (aa i)))]:List AV)) j->i=j:=by
 intro ks ks' h
 simpa [ap,T.enc_eq,aq,F.enc_eq,ar,Tk.enc_eq,au,Gn.enc_eq,ao] using h
theorem LT :(jY).md=[false]:=rfl
theorem LU  (ks:List ByteArray):(jY).pre [.d (.one (.row 1 (aa ks)))]=(cJ 140737488355328 ks):=Spec.of_pre' pW ks
theorem LV :(jY).alts=none:=rfl
theorem LW  (ks:List ByteArray):(jY).res [.d (.one (.row 1 (aa ks)))]=[.d (.one (.bool (decide (ei ks))))]:=Spec.of_res pW ks
theorem LX  (ks:List ByteArray):(jY).out [.d (.one (.row 1 (aa ks)))]=[.gone]:=Spec.of_out pW ks
theorem LY:Sound Tryz.prog 98 jY:=by
 refine aQ (GOK.cons tJ tQ GOK.nil) Tryz.func98 (c:=Tryz.f98.body.getD .skip) rfl (n:=32) rfl LK LL (fun _=>by simp) ?_ ?_
 ·exact pW
 ·rintro ks ⟨h1,h2⟩
  simp only[ab] at h1
  simp only[AB,rg,go_sem,seval]
  refine aZ (ι:=Nat) (fun i=>ks.length-i) (fun i=>i<=ks.length/\lC ks i)
   (fun i=>⟨[(0,.q (.c (.row 1 (aa ks)))),(3,.q (.c (.int .i64 i)))],[],[]⟩) 0 ⟨Nat.zero_le _,tB ks⟩ (Le.refl _) ?_
  rintro i ⟨hi,hall⟩
  rcases Nat.lt_or_ge i ks.length with hlt|hge
  ·obtain⟨s,hs,_,hmem⟩:=aU hlt
   have a1:=dm hs
   have a2:((i:Int) < (ks.length:Int))=True:=by simp;omega
   have a3:=h2 s hmem
   have a5:((i:Int)-1).toNat=i-1:=by omega
   obtain⟨s',a6,a7⟩:∃ s',(aa ks).getD (i-1) []=[C.str s']/\ks[i-1]?=some s':=by
    obtain⟨s',hs',_,_⟩:=aU (l:=ks) (i:=i-1) (by omega)
    exact⟨s',dm hs',hs'⟩
   simp only[go_sem,seval,rg,a1,a2,a5,a6,tK,tM,tN,tO,tP]
   repeat' (first|with_reducible assumption|with_reducible refine And.intro ?_ ?_|intro _)
   all_goals first|omega|skip
   ·rename_i hc ho
    have e1:=fW ho hs
    rcases hc with hc|⟨hc,h⟩
    ·exact hc e1
    ·exact (nX s s').2 (Av ho (by omega) a7 hs) h
   ·rename_i hc _
    refine⟨i+1,⟨by omega,Au hall hs (Classical.byContradiction fun h=>hc (.inl h)) (fun b hb hb'=>?_)⟩,by omega,Le.refl _⟩
    rw[a7] at hb';cases hb'
    exact (nX s s').1 (fun h=>hc (.inr ⟨by omega,h⟩))
  ·have a2:((i:Int) < (ks.length:Int))=False:=by simp;omega
   simp only[go_sem,seval,a2]
   have:i=ks.length:=by omega
   subst this
   have hall':ei ks:=hall
   exact hall'
noncomputable def gU (k:Nat):Spec:=Spec.of (ι:=T × Int) [false,false] (fun i=>[.d (.agg i.1.enc),.d (.one (.int .i64 i.2))]) (fun i=>(i.1.fit 140737488355328/\-1<=i.2/\i.2<=1000)/\SizeOf.sizeOf i.1 < k) (fun i=>[.d (.one (.bool (decide (aK i.1 i.2))))]) (fun _=>[.gone,.gone])
theorem pX:∀ i j:T × Int,(fun (i:T × Int)=>([.d (.agg i.1.enc),.d (.one (.int .i64 i.2))]:List AV)) i=(fun (i:T × Int)=>([.d (.agg i.1.enc),.d (.one (.int .i64 i.2))]:List AV)) j->i=j:=by
 rintro⟨t,d⟩ ⟨t',d'⟩ h
 simp only[Prod.mk.injEq]
 simpa [ap,T.enc_eq,aq,F.enc_eq,ar,Tk.enc_eq,au,Gn.enc_eq,ao] using h
theorem LZ (k:Nat):(gU k).md=[false,false]:=rfl
theorem Ma (k:Nat) (t:T) (d:Int):(gU k).pre [.d (.agg t.enc),.d (.one (.int .i64 d))]=((t.fit 140737488355328/\-1<=d/\d<=1000)/\SizeOf.sizeOf t < k):=Spec.of_pre' pX (t,d)
theorem Mb (k:Nat):(gU k).alts=none:=rfl
theorem Mc (k:Nat) (t:T) (d:Int):(gU k).res [.d (.agg t.enc),.d (.one (.int .i64 d))]=[.d (.one (.bool (decide (aK t d))))]:=Spec.of_res pX (t,d)
theorem Md (k:Nat) (t:T) (d:Int):(gU k).out [.d (.agg t.enc),.d (.one (.int .i64 d))]=[.gone,.gone]:=Spec.of_out pX (t,d)
set_option maxHeartbeats 1000000 in
theorem Me (k:Nat) (hS:Sound Tryz.prog 78 (gU k)):Sound Tryz.prog 78 (gU (k+1)):=by
 refine aQ (GOK.cons (l:=[(98,jY),(78,gU k)]) tJ tQ (GOK.cons LM LY (GOK.cons AD hS GOK.nil))) Tryz.func78 (c:=Tryz.f78.body.getD .skip) rfl (n:=104) rfl LN LO (fun _=>by simp) ?_ ?_
 ·exact pX
 ·rintro⟨t,d⟩ ⟨⟨h1,h2,h3⟩,h4⟩
  obtain⟨kk,n,s,ks,l⟩:=t
  simp only[T.fit,ab] at h1
  obtain⟨_,_,f1,f2,f3,f4⟩:=h1
  have e3 : SizeOf.sizeOf l < k := by have e : SizeOf.sizeOf (T.mk kk n s ks l) < k + 1 := h4
                                      rw[T.mk.sizeOf_spec] at e;omega
  simp only at h2 h3
  have hF:aK (T.mk kk n s ks l) d ↔ (1<=d/\(kk=3\/n=0)/\(kk=4\/s=⟨#[]⟩)/\(kk=6\/ks.length=0)/\(5<=kk\/l.length=0)/\0<=kk/\kk<=6/\-1000000<=n/\n<=1000000/\okS s/\(kk=6->ks.length=l.length/\ei ks)/\aL l (d-1)):=by
   simp only[aK,List.length_eq_zero_iff]
  have hN:=nY
  have f1':ab 140737488355328 s.size:=f1
  have hL:l.length=0->aL l (d-1):=LG
  simp only[AC,T.enc,go_sem,seval,rg,tK,tM,tN,tO,tP,LT,LU,LV,LW,LX]
  repeat' (first|with_reducible assumption|with_reducible refine And.intro ?_ ?_|intro _)
  all_goals first|omega|(grind;done)|skip
  all_goals
   have hb:aK (T.mk kk n s ks l) d ↔ aL l (d-1):=by grind
   have hd:1<=d:=by omega
   clear hF hN hL
   repeat (rename_i hx;clear hx)
   refine aZ (ι:=Nat) (fun i=>l.length-i) (fun i=>i<=l.length/\∀ t ∈ l.take i,aK t (d-1))
    (fun i=>⟨[(1,.q (.c (.int .i64 d))),(2,.q (.box 2 0)),(5,.q (.c (.int .i64 i)))],[(2,[.c (.int .i64 kk),.c (.int .i64 n),.c (.str s),.c (.row 1 (aa ks)),.c (.row 5 (ai l))])],[]⟩) 0 ⟨Nat.zero_le _,by simp⟩ (Le.refl _) ?_
   rintro i ⟨hi,hall⟩
   rcases Nat.lt_or_ge i l.length with hlt|hge
   ·obtain⟨t,ht,_,hmem⟩:=aU hlt
    have a1:=fU ht
    have a2:((i:Int) < (l.length:Int))=True:=by simp;omega
    have a3:=iM f4 t hmem
    have a4:=bK hmem
    have a6:=T.enc_len t
    simp only[go_sem,seval,rg,a1,a2,a6,LZ,Ma,Mb,Mc,Md]
    repeat' (first|with_reducible assumption|with_reducible refine And.intro ?_ ?_|intro _)
    all_goals first|omega|skip
    ·rename_i hc ho
     exact hc (tC.1 (hb.1 ho) t hmem)
    ·rename_i hc _
     refine⟨i+1,⟨by omega,fun y hy=>?_⟩,by omega,Le.refl _⟩
     rw[List.take_add_one,ht] at hy
     rcases List.mem_append.1 hy with hy|hy
     ·exact hall y hy
     ·simp at hy;subst hy;exact Classical.not_not.1 hc
   ·have a2:((i:Int) < (l.length:Int))=False:=by simp;omega
    simp only[go_sem,seval,rg,a2]
    rw[List.take_of_length_le hge] at hall
    exact hb.2 (tC.2 hall)
noncomputable def iP (k:Nat):Spec:=Spec.of (ι:=T × Int) [false,false] (fun i=>[.d (.agg i.1.enc),.d (.one (.int .i64 i.2))]) (fun i=>(i.1.fit 140737488355328/\aA i.1<=1048577/\-1<=i.2/\i.2<=1000)/\SizeOf.sizeOf i.1 < k) (fun i=>[.d (.one (.int .i64 (cr i.1 i.2)))]) (fun _=>[.gone,.gone])
theorem pY:∀ i j:T × Int,(fun (i:T × Int)=>([.d (.agg i.1.enc),.d (.one (.int .i64 i.2))]:List AV)) i=(fun (i:T × Int)=>([.d (.agg i.1.enc),.d (.one (.int .i64 i.2))]:List AV)) j->i=j:=by
 rintro⟨t,d⟩ ⟨t',d'⟩ h
 simp only[Prod.mk.injEq]
 simpa [ap,T.enc_eq,aq,F.enc_eq,ar,Tk.enc_eq,au,Gn.enc_eq,ao] using h
theorem Mf (k:Nat):(iP k).md=[false,false]:=rfl
theorem Mg (k:Nat) (t:T) (d:Int):(iP k).pre [.d (.agg t.enc),.d (.one (.int .i64 d))]=((t.fit 140737488355328/\aA t<=1048577/\-1<=d/\d<=1000)/\SizeOf.sizeOf t < k):=Spec.of_pre' pY (t,d)
theorem Mh (k:Nat):(iP k).alts=none:=rfl
theorem Mi (k:Nat) (t:T) (d:Int):(iP k).res [.d (.agg t.enc),.d (.one (.int .i64 d))]=[.d (.one (.int .i64 (cr t d)))]:=Spec.of_res pY (t,d)
theorem Mj (k:Nat) (t:T) (d:Int):(iP k).out [.d (.agg t.enc),.d (.one (.int .i64 d))]=[.gone,.gone]:=Spec.of_out pY (t,d)
theorem Mk (k:Nat) (hS:Sound Tryz.prog 79 (iP k)):Sound Tryz.prog 79 (iP (k+1)):=by
 refine aQ (GOK.cons AF hS GOK.nil) Tryz.func79 (c:=Tryz.f79.body.getD .skip) rfl (n:=29) rfl LP LQ (fun _=>by simp) ?_ ?_
 ·exact pY
 ·rintro⟨t,d⟩ ⟨⟨h1,h2,h3,h3'⟩,h4⟩
  obtain⟨kk,n,s,ks,l⟩:=t
  simp only[T.fit,ab] at h1
  obtain⟨_,_,f1,f2,f3,f4⟩:=h1
  have e3 : SizeOf.sizeOf l < k := by have e : SizeOf.sizeOf (T.mk kk n s ks l) < k + 1 := h4
                                      rw[T.mk.sizeOf_spec] at e;omega
  simp only[aA] at h2 h3 h3'
  simp only[AE,T.enc,go_sem,seval,rg,cr]
  refine aZ (ι:=Nat × Int) (fun i=>l.length-i.1) (fun i=>i.1<=l.length/\1<=i.2/\i.2+bV (l.drop i.1) d=1+bV l d/\i.2+av (l.drop i.1)<=1+av l)
   (fun i=>⟨[(1,.q (.c (.int .i64 d))),(2,.q (.box 2 0)),(5,.q (.c (.int .i64 i.2))),(6,.q (.c (.int .i64 i.1)))],[(2,[.c (.int .i64 kk),.c (.int .i64 n),.c (.str s),.c (.row 1 (aa ks)),.c (.row 5 (ai l))])],[]⟩) (0,1) ⟨Nat.zero_le _,by simp,by simp,by simp⟩ (Le.refl _) ?_
  rintro⟨i,m⟩ ⟨hi,hm,hsum,hsz⟩
  simp only at hi hm hsum hsz
  have hz:=fun l=>gS l d
  rcases Nat.lt_or_ge i l.length with hlt|hge
  ·obtain⟨t,ht,hdr,hmem⟩:=aU hlt
   have a1:=fU ht
   have a2:((i:Int) < (l.length:Int))=True:=by simp;omega
   have a3:=iM f4 t hmem
   have a4:=bK hmem
   have a5:=LF ht
   have a6:=T.enc_len t
   have a7:=tD t (d-1)
   have a8:=hz (l.drop (i+1))
   rw[hdr] at hsum hsz
   simp only[bV,av] at hsum hsz
   simp only[go_sem,seval,rg,a1,a2,a6,Mf,Mg,Mh,Mi,Mj]
   repeat' (first|with_reducible assumption|with_reducible refine And.intro ?_ ?_|intro _)
   all_goals first|omega|skip
   ·rename_i hd _ _
    rw[if_pos (by omega)] at hsum
    refine⟨(i+1,m+cr t (d-1)),⟨by simp only;omega,by simp only;omega,by simp only;omega,by simp only;omega⟩,by simp only;omega,Le.refl _⟩
  ·have a2:((i:Int) < (l.length:Int))=False:=by simp;omega
   rw[List.drop_eq_nil_of_le hge] at hsum
   simp only[bV] at hsum
   simp only[go_sem,seval,rg,a2]
   repeat' (first|with_reducible assumption|with_reducible refine And.intro ?_ ?_|intro _)
   all_goals first|omega|skip
theorem Ml:∀ k,Sound Tryz.prog 78 (gU k):=fun k=>Nat.rec Sound.none (fun k ih=>Me k ih) k
theorem Mm:∀ k,Sound Tryz.prog 79 (iP k):=fun k=>Nat.rec Sound.none (fun k ih=>Mk k ih) k
noncomputable def lG :Spec:=Spec.of (ι:=T × Int) [false,false] (fun i=>[.d (.agg i.1.enc),.d (.one (.int .i64 i.2))]) (fun i=>i.1.fit 140737488355328/\-1<=i.2/\i.2<=1000) (fun i=>[.d (.one (.bool (decide (aK i.1 i.2))))]) (fun _=>[.gone,.gone])
theorem tR:∀ i j:T × Int,(fun (i:T × Int)=>([.d (.agg i.1.enc),.d (.one (.int .i64 i.2))]:List AV)) i=(fun (i:T × Int)=>([.d (.agg i.1.enc),.d (.one (.int .i64 i.2))]:List AV)) j->i=j:=by
 rintro⟨t,d⟩ ⟨t',d'⟩ h
 simp only[Prod.mk.injEq]
 simpa [ap,T.enc_eq,aq,F.enc_eq,ar,Tk.enc_eq,au,Gn.enc_eq,ao] using h
theorem Mn :(lG).md=[false,false]:=rfl
theorem Mo  (t:T) (d:Int):(lG).pre [.d (.agg t.enc),.d (.one (.int .i64 d))]=(t.fit 140737488355328/\-1<=d/\d<=1000):=Spec.of_pre' tR (t,d)
theorem Mp :(lG).alts=none:=rfl
theorem Mq  (t:T) (d:Int):(lG).res [.d (.agg t.enc),.d (.one (.int .i64 d))]=[.d (.one (.bool (decide (aK t d))))]:=Spec.of_res tR (t,d)
theorem Mr  (t:T) (d:Int):(lG).out [.d (.agg t.enc),.d (.one (.int .i64 d))]=[.gone,.gone]:=Spec.of_out tR (t,d)
noncomputable def jZ :Spec:=Spec.of (ι:=T × Int) [false,false] (fun i=>[.d (.agg i.1.enc),.d (.one (.int .i64 i.2))]) (fun i=>i.1.fit 140737488355328/\aA i.1<=1048577/\-1<=i.2/\i.2<=1000) (fun i=>[.d (.one (.int .i64 (cr i.1 i.2)))]) (fun _=>[.gone,.gone])
theorem tS:∀ i j:T × Int,(fun (i:T × Int)=>([.d (.agg i.1.enc),.d (.one (.int .i64 i.2))]:List AV)) i=(fun (i:T × Int)=>([.d (.agg i.1.enc),.d (.one (.int .i64 i.2))]:List AV)) j->i=j:=by
 rintro⟨t,d⟩ ⟨t',d'⟩ h
 simp only[Prod.mk.injEq]
 simpa [ap,T.enc_eq,aq,F.enc_eq,ar,Tk.enc_eq,au,Gn.enc_eq,ao] using h
theorem Ms :(jZ).md=[false,false]:=rfl
theorem Mt  (t:T) (d:Int):(jZ).pre [.d (.agg t.enc),.d (.one (.int .i64 d))]=(t.fit 140737488355328/\aA t<=1048577/\-1<=d/\d<=1000):=Spec.of_pre' tS (t,d)
theorem Mu :(jZ).alts=none:=rfl
theorem Mv  (t:T) (d:Int):(jZ).res [.d (.agg t.enc),.d (.one (.int .i64 d))]=[.d (.one (.int .i64 (cr t d)))]:=Spec.of_res tS (t,d)
theorem Mw  (t:T) (d:Int):(jZ).out [.d (.agg t.enc),.d (.one (.int .i64 d))]=[.gone,.gone]:=Spec.of_out tS (t,d)
theorem Mx:Sound Tryz.prog 78 lG:=Sound.all (μ:=fun i=>SizeOf.sizeOf i.1) Ml
theorem My:Sound Tryz.prog 79 jZ:=Sound.all (μ:=fun i=>SizeOf.sizeOf i.1) Mm
noncomputable def iQ :Spec:=Spec.of (ι:=T) [false] (fun i=>[.d (.agg i.enc)]) (fun i=>i.fit 140737488355328/\aA i<=1048577) (fun i=>[.d (.one (.bool (decide (okT i))))]) (fun _=>[.gone])
theorem pZ:∀ i j:T,(fun (i:T)=>([.d (.agg i.enc)]:List AV)) i=(fun (i:T)=>([.d (.agg i.enc)]:List AV)) j->i=j:=by
 intro t t' h
 simpa [ap,T.enc_eq,aq,F.enc_eq,ar,Tk.enc_eq,au,Gn.enc_eq,ao] using h
theorem AI :(iQ).md=[false]:=rfl
theorem AJ  (t:T):(iQ).pre [.d (.agg t.enc)]=(t.fit 140737488355328/\aA t<=1048577):=Spec.of_pre' pZ t
theorem AK :(iQ).alts=none:=rfl
theorem AL  (t:T):(iQ).res [.d (.agg t.enc)]=[.d (.one (.bool (decide (okT t))))]:=Spec.of_res pZ t
theorem AM  (t:T):(iQ).out [.d (.agg t.enc)]=[.gone]:=Spec.of_out pZ t
theorem AN:Sound Tryz.prog 49 iQ:=by
 refine aQ (GOK.cons (l:=[(79,jZ)]) AD Mx (GOK.cons AF My GOK.nil)) Tryz.func49 (c:=Tryz.f49.body.getD .skip) rfl (n:=10) rfl LR LS (fun _=>by simp) ?_ ?_
 ·exact pZ
 ·rintro t ⟨h1,h2⟩
  have a6:=T.enc_len t
  simp only[AG,go_sem,seval,rg,a6,List.length_map,List.drop_zero,Mn,Mo,Mp,Mq,Mr,Ms,Mt,Mu,Mv,Mw]
  repeat' (first|with_reducible assumption|with_reducible refine And.intro ?_ ?_|intro _)
  all_goals first|omega|skip
  exact decide_eq_decide.2 Iff.rfl
end Go.Proofs.Pw
namespace Go.Proofs.Pw
variable [Globs]
def AO:X:=(.seq (.reg [xS 6 (.mv (.k (.c (.bool false))))] none [0,1,2]) (.seq (.reg [xM 7 0,xM 8 1,xS 9 (.bin false .geq (.t 7) (.t 8)),xM 10 9,xG 11 10 (.mv (.t 0)),xG 12 10 (.mv (.t 2)),xG 13 10 (.bin false .leq (.t 11) (.t 12)),xS 14 (.pick (.t 10) (.t 13) (.k (.c (.bool false)))),xM 6 14] none [6]) .ret))
theorem Mz:al Tryz.prog 15 (Tryz.f54.body.getD .skip) AO=true:=by kernel_rfl
theorem MA:am Tryz.prog Tryz.f54.results.toList [.tmp 6]=true:=by kernel_rfl
theorem AP:aw Tryz.prog 54=true:=by kernel_rfl
def AQ:X:=(.seq (.reg [xS 2 (.mv (.k (.c (.bool false))))] none [0]) (.seq (.seq (.reg [xM 4 0,xS 5 (.len (.t 4) true),xS 6 (.mv (xK 0))] none [0,5,6]) (.block 0 (.loop (.seq (.reg [xS 7 (.bin false .lss (.t 6) (.t 5))] none [0,5,6,7]) (.seq (.cond (.t 7) .skip (.exit 0)) (.seq (.block 1 (.seq (.reg [xM 8 6,xM 3 8] none [0,3,5,6]) (.seq (.reg [xM 9 0,xM 10 3,xS 11 (.idx (.t 9) (.t 10)),xS 12 (.bin false .lss (.t 11) (.k (.c (.int .u8 97)))),xM 13 12,xH 14 13 (.mv (.t 0)),xH 15 13 (.mv (.t 3)),xH 16 13 (.idx (.t 14) (.t 15)),xH 17 13 (.bin false .gtr (.t 16) (.k (.c (.int .u8 122)))),xS 18 (.pick (.t 13) (.k (.c (.bool true))) (.t 17))] none [0,5,6,18]) (.cond (.t 18) (.seq (.reg [xS 2 (.mv (.k (.c (.bool false))))] none [2]) .ret) .skip)))) (.reg [xS 19 (.bin false .add (.t 6) (xK 1)),xM 6 19] none [0,5,6]))))))) (.seq (.reg [xM 20 0,xS 21 (.len (.t 20) true),xS 22 (.bin false .leq (.t 21) (xK 12)),xM 2 22] none [2]) .ret)))
theorem MB:al Tryz.prog 23 (Tryz.f56.body.getD .skip) AQ=true:=by kernel_rfl
theorem MC:am Tryz.prog Tryz.f56.results.toList [.tmp 2]=true:=by kernel_rfl
theorem AR:aw Tryz.prog 56=true:=by kernel_rfl
def AS:X:=(.seq (.reg [xS 3 (.box (.t 0) (some 5)),xS 6 (.mv (.k (.c (.bool false))))] none [1,2,3]) (.seq (.reg [xM 11 2,xS 12 (.nilc (.t 11)),xL 13 12,xS 14 (.bin false .sub (.t 13) (xK 1)),xS 15 (.nilc (.t 11)),⟨none,none,.st (.t 15) (.t 14) none⟩] none [1,2,3]) (.seq (.seq (.reg [xM 16 2,xS 17 (.nilc (.t 16)),xL 18 17,xS 19 (.bin false .lss (.t 18) (xK 0)),xM 20 19,xH 21 20 (.mv (.t 1)),xH 22 20 (.bin false .gtr (.t 21) (xK 6)),xS 23 (.pick (.t 20) (.k (.c (.bool true))) (.t 22))] none [1,2,3,23]) (.cond (.t 23) (.seq (.reg [xS 6 (.mv (.k (.c (.bool false))))] none [6]) .ret) .skip)) (.seq (.seq (.reg [xS 24 (.fa (.t 3) 0),xL 25 24,xS 26 (.bin false .neq (.t 25) (xK 3)),xM 27 26,xG 28 27 (.fa (.t 3) 1),xG 29 27 (.load (.t 28) none),xG 30 27 (.bin false .neq (.t 29) (xK 0)),xS 31 (.pick (.t 27) (.t 30) (.k (.c (.bool false)))),xM 32 31,xH 33 32 (.fa (.t 3) 0),xH 34 32 (.load (.t 33) none),xH 35 32 (.bin false .neq (.t 34) (xK 4)),xH 36 32 (.mv (.t 35)),xG 37 36 (.fa (.t 3) 2),xG 38 36 (.load (.t 37) none),xG 39 36 (.bin false .neq (.t 38) (.k (.c (.str ⟨#[]⟩)))),xH 40 32 (.pick (.t 36) (.t 39) (.k (.c (.bool false)))),xS 41 (.pick (.t 32) (.k (.c (.bool true))) (.t 40)),xM 42 41,xH 43 42 (.fa (.t 3) 0),xH 44 42 (.load (.t 43) none),xH 45 42 (.bin false .neq (.t 44) (xK 6)),xH 46 42 (.mv (.t 45)),xG 47 46 (.fa (.t 3) 3),xG 48 46 (.load (.t 47) none),xG 49 46 (.len (.t 48) false),xG 50 46 (.bin false .gtr (.t 49) (xK 0)),xH 51 42 (.pick (.t 46) (.t 50) (.k (.c (.bool false)))),xS 52 (.pick (.t 42) (.k (.c (.bool true))) (.t 51)),xM 53 52,xH 54 53 (.fa (.t 3) 0),xH 55 53 (.load (.t 54) none),xH 56 53 (.bin false .lss (.t 55) (xK 5)),xH 57 53 (.mv (.t 56)),xG 58 57 (.fa (.t 3) 4),xG 59 57 (.load (.t 58) none),xG 60 57 (.len (.t 59) false),xG 61 57 (.bin false .gtr (.t 60) (xK 0)),xH 62 53 (.pick (.t 57) (.t 61) (.k (.c (.bool false)))),xS 63 (.pick (.t 53) (.k (.c (.bool true))) (.t 62))] none [1,2,3,63]) (.cond (.t 63) (.seq (.reg [xS 6 (.mv (.k (.c (.bool false))))] none [6]) .ret) .skip)) (.seq (.seq (.reg [xS 64 (.fa (.t 3) 0),xL 65 64,xS 66 (.call 54 [(.t 65),(xK 0),(xK 6)]),xS 67 (.not (.t 66)),xM 68 67,xH 69 68 (.fa (.t 3) 1),xH 70 68 (.load (.t 69) none),xH 71 68 (.call 54 [(.t 70),(.k (.c (.int .i64 (-1000000)))),(xK 1000000)]),xH 72 68 (.not (.t 71)),xS 73 (.pick (.t 68) (.k (.c (.bool true))) (.t 72)),xM 74 73,xH 75 74 (.fa (.t 3) 2),xH 76 74 (.load (.t 75) none),xH 77 74 (.call 56 [(.t 76)]),xH 78 74 (.not (.t 77)),xS 79 (.pick (.t 74) (.k (.c (.bool true))) (.t 78)),xM 80 79,xH 81 80 (.fa (.t 3) 0),xH 82 80 (.load (.t 81) none),xH 83 80 (.bin false .eql (.t 82) (xK 6)),xH 84 80 (.mv (.t 83)),xG 85 84 (.fa (.t 3) 3),xG 86 84 (.load (.t 85) none),xG 87 84 (.len (.t 86) false),xG 88 84 (.fa (.t 3) 4),xG 89 84 (.load (.t 88) none),xG 90 84 (.len (.t 89) false),xG 91 84 (.bin false .neq (.t 87) (.t 90)),xH 92 80 (.pick (.t 84) (.t 91) (.k (.c (.bool false)))),xS 93 (.pick (.t 80) (.k (.c (.bool true))) (.t 92))] none [1,2,3,93]) (.cond (.t 93) (.seq (.reg [xS 6 (.mv (.k (.c (.bool false))))] none [6]) .ret) .skip)) (.seq (.seq (.reg [xS 94 (.fa (.t 3) 3),xL 95 94,xS 96 (.len (.t 95) false),xS 97 (.mv (xK 0))] none [1,2,3,95,96,97]) (.block 0 (.loop (.seq (.reg [xS 98 (.bin false .lss (.t 97) (.t 96))] none [1,2,3,95,96,97,98]) (.seq (.cond (.t 98) .skip (.exit 0)) (.seq (.block 1 (.seq (.reg [xM 99 97,xS 100 (.ia (.t 95) (.t 97) 1),xL 101 100,xM 7 99,xM 8 101] none [1,2,3,7,8,95,96,97]) (.seq (.reg [xM 102 8,xS 103 (.call 56 [(.t 102)]),xS 104 (.not (.t 103)),xM 105 104,xH 106 105 (.mv (.t 7)),xH 107 105 (.bin false .gtr (.t 106) (xK 0)),xH 108 105 (.mv (.t 107)),xG 109 108 (.fa (.t 3) 3),xG 110 108 (.load (.t 109) none),xG 111 108 (.mv (.t 7)),xG 112 108 (.bin false .sub (.t 111) (xK 1)),xG 113 108 (.ia (.t 110) (.t 112) 1),xG 114 108 (.load (.t 113) none),xG 115 108 (.mv (.t 8)),xG 116 108 (.bin false .geq (.t 114) (.t 115)),xH 117 105 (.pick (.t 108) (.t 116) (.k (.c (.bool false)))),xS 118 (.pick (.t 105) (.k (.c (.bool true))) (.t 117))] none [1,2,3,95,96,97,118]) (.cond (.t 118) (.seq (.reg [xS 6 (.mv (.k (.c (.bool false))))] none [6]) .ret) .skip)))) (.reg [xS 119 (.bin false .add (.t 97) (xK 1)),xM 97 119] none [1,2,3,95,96,97]))))))) (.seq (.seq (.reg [xS 120 (.fa (.t 3) 4),xL 121 120,xS 122 (.len (.t 121) false),xS 123 (.mv (xK 0))] none [1,2,121,122,123]) (.block 2 (.loop (.seq (.reg [xS 124 (.bin false .lss (.t 123) (.t 122))] none [1,2,121,122,123,124]) (.seq (.cond (.t 124) .skip (.exit 2)) (.seq (.block 3 (.seq (.reg [xS 125 (.ia (.t 121) (.t 123) 5),xS 126 (.load (.t 125) (some 5)),xS 10 (.alloc xV),xW 10 126 5] none [1,2,10,121,122,123]) (.seq (.reg [xS 127 (.load (.t 10) (some 5)),xM 128 1,xS 129 (.bin false .add (.t 128) (xK 1)),xM 130 2,xS 131 (.call 88 [(.t 127),(.t 129),(.t 130)]),xS 132 (.not (.t 131))] none [1,2,121,122,123,132]) (.cond (.t 132) (.seq (.reg [xS 6 (.mv (.k (.c (.bool false))))] none [6]) .ret) .skip)))) (.reg [xS 133 (.bin false .add (.t 123) (xK 1)),xM 123 133] none [1,2,121,122,123]))))))) (.seq (.reg [xS 6 (.mv (.k (.c (.bool true))))] none [6]) .ret))))))))
theorem MD:al Tryz.prog 134 (Tryz.f88.body.getD .skip) AS=true:=by kernel_rfl
theorem ME:am Tryz.prog Tryz.f88.results.toList [.tmp 6]=true:=by kernel_rfl
theorem AT:aw Tryz.prog 88=true:=by kernel_rfl
def AU:X:=(.seq (.reg [xS 1 (.box (.t 0) (some 5)),xS 2 (.mv (.k (.c (.bool false))))] none [1]) (.seq (.reg [xS 3 (.alloc [(.c (.int .i64 0))]),⟨none,none,.st (.t 3) (xK 60) none⟩] none [1,3]) (.seq (.reg [xS 4 (.load (.t 1) (some 5)),xS 5 (.call 88 [(.t 4),(xK 1),(.t 3)]),xM 2 5] none [2]) .ret)))
theorem MF:al Tryz.prog 6 (Tryz.f57.body.getD .skip) AU=true:=by kernel_rfl
theorem MG:am Tryz.prog Tryz.f57.results.toList [.tmp 2]=true:=by kernel_rfl
theorem AW:aw Tryz.prog 57=true:=by kernel_rfl
noncomputable def lH :Spec:=Spec.of (ι:=Int × Int × Int) [false,false,false] (fun i=>[.d (.one (.int .i64 i.1)),.d (.one (.int .i64 i.2.1)),.d (.one (.int .i64 i.2.2))]) (fun _=>True) (fun i=>[.d (.one (.bool (decide (i.2.1<=i.1/\i.1<=i.2.2))))]) (fun _=>[.gone,.gone,.gone])
theorem qa:∀ i j:Int × Int × Int,(fun (i:Int × Int × Int)=>([.d (.one (.int .i64 i.1)),.d (.one (.int .i64 i.2.1)),.d (.one (.int .i64 i.2.2))]:List AV)) i=(fun (i:Int × Int × Int)=>([.d (.one (.int .i64 i.1)),.d (.one (.int .i64 i.2.1)),.d (.one (.int .i64 i.2.2))]:List AV)) j->i=j:=by
 rintro⟨n,a,b⟩ ⟨n',a',b'⟩ h
 simp only[Prod.mk.injEq]
 simpa [ap,T.enc_eq,aq,F.enc_eq,ar,Tk.enc_eq,au,Gn.enc_eq,ao] using h
theorem AX :(lH).md=[false,false,false]:=rfl
theorem AY  (n:Int) (a:Int) (b:Int):(lH).pre [.d (.one (.int .i64 n)),.d (.one (.int .i64 a)),.d (.one (.int .i64 b))]=(True):=Spec.of_pre' qa (n,a,b)
theorem AZ :(lH).alts=none:=rfl
theorem Ba  (n:Int) (a:Int) (b:Int):(lH).res [.d (.one (.int .i64 n)),.d (.one (.int .i64 a)),.d (.one (.int .i64 b))]=[.d (.one (.bool (decide (a<=n/\n<=b))))]:=Spec.of_res qa (n,a,b)
theorem Bb  (n:Int) (a:Int) (b:Int):(lH).out [.d (.one (.int .i64 n)),.d (.one (.int .i64 a)),.d (.one (.int .i64 b))]=[.gone,.gone,.gone]:=Spec.of_out qa (n,a,b)
theorem Bc:Sound Tryz.prog 54 lH:=by
 refine aQ GOK.nil Tryz.func54 (c:=Tryz.f54.body.getD .skip) rfl (n:=15) rfl Mz MA (fun _=>by simp) ?_ ?_
 ·exact qa
 ·rintro⟨n,a,b⟩ _
  simp only[AO,go_sem,seval,rg]
  intro h;exact⟨h,h⟩
noncomputable def iR :Spec:=Spec.of (ι:=ByteArray) [false] (fun i=>[.d (.one (.str i))]) (fun i=>ab 140737488355328 i.size) (fun i=>[.d (.one (.bool (decide (okS i))))]) (fun _=>[.gone])
theorem qb:∀ i j:ByteArray,(fun (i:ByteArray)=>([.d (.one (.str i))]:List AV)) i=(fun (i:ByteArray)=>([.d (.one (.str i))]:List AV)) j->i=j:=by
 intro s s' h
 simpa [ap,T.enc_eq,aq,F.enc_eq,ar,Tk.enc_eq,au,Gn.enc_eq,ao] using h
theorem tT :(iR).md=[false]:=rfl
theorem tU  (s:ByteArray):(iR).pre [.d (.one (.str s))]=(ab 140737488355328 s.size):=Spec.of_pre' qb s
theorem tV :(iR).alts=none:=rfl
theorem tW  (s:ByteArray):(iR).res [.d (.one (.str s))]=[.d (.one (.bool (decide (okS s))))]:=Spec.of_res qb s
theorem tX  (s:ByteArray):(iR).out [.d (.one (.str s))]=[.gone]:=Spec.of_out qb s
theorem Bd:Sound Tryz.prog 56 iR:=by
 refine aQ GOK.nil Tryz.func56 (c:=Tryz.f56.body.getD .skip) rfl (n:=23) rfl MB MC (fun _=>by simp) ?_ ?_
 ·exact qb
 ·intro s h1
  simp only[ab] at h1
  simp only[AQ,rg,go_sem,seval]
  refine aZ (ι:=Nat) (fun i=>s.size-i) (fun i=>i<=s.size/\∀ x ∈ s.data.toList.take i,bg x)
   (fun i=>⟨[(0,.q (.c (.str s))),(5,.q (.c (.int .i64 s.size))),(6,.q (.c (.int .i64 i)))],[],[]⟩) 0 ⟨Nat.zero_le _,by simp⟩ (Le.refl _) ?_
  rintro i ⟨hi,hall⟩
  rcases Nat.lt_or_ge i s.size with hlt|hge
  ·obtain⟨x,hx,hb,hmem⟩:=tA hlt
   have a2:((i:Int) < (s.size:Int))=True:=by simp;omega
   simp only[go_sem,seval,rg,a2,hb]
   repeat' (first|with_reducible assumption|with_reducible refine And.intro ?_ ?_|intro _)
   all_goals first|omega|skip
   ·rename_i hc ho
    have:=ho.1 x hmem
    unfold bg at this;omega
   ·rename_i hc _
    refine⟨i+1,⟨by omega,fun y hy=>?_⟩,by omega,Le.refl _⟩
    rw[List.take_add_one,hx] at hy
    rcases List.mem_append.1 hy with hy|hy
    ·exact hall y hy
    ·simp at hy;subst hy;unfold bg;omega
  ·have a2:((i:Int) < (s.size:Int))=False:=by simp;omega
   simp only[go_sem,seval,a2]
   rw[decide_eq_decide]
   unfold okS
   rw[List.take_of_length_le (by simpa using hge)] at hall
   constructor
   ·intro h;omega
   ·intro h;exact⟨hall,by omega⟩
noncomputable def gV (k:Nat):Spec:=Spec.of (ι:=T × Int × Int) [false,false,true] (fun i=>[.d (.agg i.1.enc),.d (.one (.int .i64 i.2.1)),.ref [.int .i64 i.2.2]]) (fun i=>(i.1.fit 140737488355328/\0<=i.2.1/\i.2.1<=7/\0<=i.2.2/\i.2.2<=1000)/\SizeOf.sizeOf i.1 < k) (fun i=>[.d (.one (.bool (decide ((okI i.1 i.2.1 i.2.2).1=true))))]) (fun i=>[.gone,.gone,.ref [.int .i64 (okI i.1 i.2.1 i.2.2).2]])
theorem qc:∀ i j:T × Int × Int,(fun (i:T × Int × Int)=>([.d (.agg i.1.enc),.d (.one (.int .i64 i.2.1)),.ref [.int .i64 i.2.2]]:List AV)) i=(fun (i:T × Int × Int)=>([.d (.agg i.1.enc),.d (.one (.int .i64 i.2.1)),.ref [.int .i64 i.2.2]]:List AV)) j->i=j:=by
 rintro⟨t,d,left⟩ ⟨t',d',left'⟩ h
 simp only[Prod.mk.injEq]
 simpa [ap,T.enc_eq,aq,F.enc_eq,ar,Tk.enc_eq,au,Gn.enc_eq,ao] using h
theorem MH (k:Nat):(gV k).md=[false,false,true]:=rfl
theorem MI (k:Nat) (t:T) (d:Int) (left:Int):(gV k).pre [.d (.agg t.enc),.d (.one (.int .i64 d)),.ref [.int .i64 left]]=((t.fit 140737488355328/\0<=d/\d<=7/\0<=left/\left<=1000)/\SizeOf.sizeOf t < k):=Spec.of_pre' qc (t,d,left)
theorem MJ (k:Nat):(gV k).alts=none:=rfl
theorem MK (k:Nat) (t:T) (d:Int) (left:Int):(gV k).res [.d (.agg t.enc),.d (.one (.int .i64 d)),.ref [.int .i64 left]]=[.d (.one (.bool (decide ((okI t d left).1=true))))]:=Spec.of_res qc (t,d,left)
theorem ML (k:Nat) (t:T) (d:Int) (left:Int):(gV k).out [.d (.agg t.enc),.d (.one (.int .i64 d)),.ref [.int .i64 left]]=[.gone,.gone,.ref [.int .i64 (okI t d left).2]]:=Spec.of_out qc (t,d,left)
set_option maxHeartbeats 1000000 in
theorem MM (k:Nat) (hS:Sound Tryz.prog 88 (gV k)):Sound Tryz.prog 88 (gV (k+1)):=by
 refine aQ (GOK.cons (l:=[(56,iR),(88,gV k)]) AP Bc (GOK.cons AR Bd (GOK.cons AT hS GOK.nil))) Tryz.func88 (c:=Tryz.f88.body.getD .skip) rfl (n:=134) rfl MD ME (fun _=>by simp) ?_ ?_
 ·exact qc
 ·rintro⟨t,d,left⟩ ⟨⟨h1,h2,h3,h3',h3''⟩,h4⟩
  obtain⟨kk,n,s,ks,l⟩:=t
  simp only[T.fit,ab,cJ] at h1
  obtain⟨_,_,f1,⟨f2,f2'⟩,f3,f4⟩:=h1
  have e3 : SizeOf.sizeOf l < k := by have e : SizeOf.sizeOf (T.mk kk n s ks l) < k + 1 := h4
                                      rw[T.mk.sizeOf_spec] at e;omega
  simp only at h2 h3 h3' h3''
  have f1':ab 140737488355328 s.size:=f1
  have hH:iO kk n s ks l ↔ ((kk=3\/n=0)/\(kk=4\/s=⟨#[]⟩)/\(kk=6\/ks.length=0)/\(5<=kk\/l.length=0)/\0<=kk/\kk<=6/\-1000000<=n/\n<=1000000/\okS s/\(kk=6->ks.length=l.length)/\ei ks):=Iff.rfl
  have hneg:¬ (1<=left/\d<=6/\iO kk n s ks l)->(okI (T.mk kk n s ks l) d left).1=false/\left-1=(okI (T.mk kk n s ks l) d left).2:=fun h=>by simp only[okI];rw[if_neg h];exact⟨rfl,rfl⟩
  have hpos:(1<=left/\d<=6/\iO kk n s ks l)->okI (T.mk kk n s ks l) d left=cw l (d+1) (left-1):=fun h=>by simp only[okI];rw[if_pos h]
  generalize hres:okI (T.mk kk n s ks l) d left=R at *
  clear hres
  simp only[AS,T.enc,go_sem,seval,rg,AX,AY,AZ,Ba,Bb,tT,tU,tV,tW,tX]
  repeat' (first|with_reducible assumption|with_reducible refine And.intro ?_ ?_|intro _)
  all_goals first|omega|(grind;done)|skip
  have hb:ei ks->1<=left/\d<=6/\iO kk n s ks l:=by grind
  have hb':¬ ei ks->¬ (1<=left/\d<=6/\iO kk n s ks l):=by grind
  have hd:1<=left/\d<=6:=by omega
  clear hH
  repeat (rename_i hx;clear hx)
  refine aZ (ι:=Nat) (fun i=>ks.length-i) (fun i=>i<=ks.length/\lC ks i)
   (fun i=>⟨[(1,.q (.c (.int .i64 d))),(2,.q (.box 136 0)),(3,.q (.box 3 0)),(95,.q (.c (.row 1 (aa ks)))),(96,.q (.c (.int .i64 ks.length))),(97,.q (.c (.int .i64 i)))],[(136,[.c (.int .i64 (left-1))]),(3,[.c (.int .i64 kk),.c (.int .i64 n),.c (.str s),.c (.row 1 (aa ks)),.c (.row 5 (ai l))])],[]⟩) 0 ⟨Nat.zero_le _,tB ks⟩ (Le.refl _) ?_
  rintro i ⟨hi,hall⟩
  rcases Nat.lt_or_ge i ks.length with hlt|hge
  ·obtain⟨t,ht,_,hmem⟩:=aU hlt
   have a1:=dm ht
   have a2:((i:Int) < (ks.length:Int))=True:=by simp;omega
   have a3:ab 140737488355328 t.size:=f2' t hmem
   have a5:((i:Int)-1).toNat=i-1:=by omega
   obtain⟨s',a6,a7⟩:∃ s',(aa ks).getD (i-1) []=[C.str s']/\ks[i-1]?=some s':=by
    obtain⟨s',hs',_,_⟩:=aU (l:=ks) (i:=i-1) (by omega)
    exact⟨s',dm hs',hs'⟩
   have hbad:¬ okS t\/0 < (i:Int)/\¬ sl s' t->R.1=false/\left-1=R.2:=fun h=>hneg (hb' (fun ho=>by
    rcases h with h|⟨h,h'⟩
    ·exact h (fW ho ht)
    ·exact h' (Av ho (by omega) a7 ht)))
   simp only[go_sem,seval,rg,a1,a2,a5,a6,tT,tU,tV,tW,tX]
   repeat' (first|with_reducible assumption|with_reducible refine And.intro ?_ ?_|intro _)
   all_goals first|omega|skip
   all_goals first|(rename_i hc;exact (hbad hc).2)|skip
   ·rename_i hc hR
    rw[(hbad hc).1] at hR;cases hR
   ·rename_i hc _
    refine⟨i+1,⟨by omega,Au hall ht (Classical.byContradiction fun h=>hc (.inl h)) (fun b hb hb'=>?_)⟩,by omega,Le.refl _⟩
    rw[a7] at hb';cases hb'
    exact Classical.byContradiction fun h=>hc (.inr ⟨by omega,h⟩)
  ·have a2:((i:Int) < (ks.length:Int))=False:=by simp;omega
   have hie:i=ks.length:=by omega
   subst hie
   have hpos':=hpos (hb hall)
   simp only[go_sem,seval,rg,a2]
   clear hneg hpos hb hb'
   refine aZ (ι:=Nat × Int) (fun i=>l.length-i.1) (fun i=>i.1<=l.length/\0<=i.2/\i.2<=left-1/\R=cw (l.drop i.1) (d+1) i.2)
    (fun i=>⟨[(1,.q (.c (.int .i64 d))),(2,.q (.box 136 0)),(121,.q (.c (.row 5 (ai l)))),(122,.q (.c (.int .i64 l.length))),(123,.q (.c (.int .i64 i.1)))],[(136,[.c (.int .i64 i.2)]),(3,[.c (.int .i64 kk),.c (.int .i64 n),.c (.str s),.c (.row 1 (aa ks)),.c (.row 5 (ai l))])],[]⟩) (0,left-1) ⟨Nat.zero_le _,by simp only;omega,by simp only;omega,by simpa using hpos'⟩ (Le.refl _) ?_
   rintro⟨i,m⟩ ⟨hi,hm,hm',heq⟩
   simp only at hi hm hm' heq
   rcases Nat.lt_or_ge i l.length with hlt|hge
   ·obtain⟨t,ht,hdr,hmem⟩:=aU hlt
    have a1:=fU ht
    have a2:((i:Int) < (l.length:Int))=True:=by simp;omega
    have a3:=iM f4 t hmem
    have a4:=bK hmem
    have a6:=T.enc_len t
    have a7:=tE t (d+1) m
    rw[hdr] at heq
    simp only[cw] at heq
    simp only[go_sem,seval,rg,a1,a2,a6,MH,MI,MJ,MK,ML]
    repeat' (first|with_reducible assumption|with_reducible refine And.intro ?_ ?_|intro _)
    all_goals first|omega|skip
    ·rename_i hc hR
     rw[if_neg hc] at heq
     rw[heq] at hR;cases hR
    ·rename_i hc
     rw[if_neg hc] at heq
     rw[heq]
    ·rename_i hc _
     rw[if_pos (Classical.not_not.1 hc)] at heq
     exact⟨(i+1,(okI t (d+1) m).2),⟨by simp only;omega,a7.2 (Classical.not_not.1 hc),by simp only;omega,heq⟩,by simp only;omega,Le.sub (fun _ h=>h) (fun _ h=>List.mem_append_left [_] h) (fun _ h=>h)⟩
   ·have a2:((i:Int) < (l.length:Int))=False:=by simp;omega
    rw[List.drop_eq_nil_of_le hge] at heq
    simp only[cw] at heq
    subst heq
    simp only[go_sem,seval,rg,a2]
theorem MN:∀ k,Sound Tryz.prog 88 (gV k):=fun k=>Nat.rec Sound.none (fun k ih=>MM k ih) k
noncomputable def lI :Spec:=Spec.of (ι:=T × Int × Int) [false,false,true] (fun i=>[.d (.agg i.1.enc),.d (.one (.int .i64 i.2.1)),.ref [.int .i64 i.2.2]]) (fun i=>i.1.fit 140737488355328/\0<=i.2.1/\i.2.1<=7/\0<=i.2.2/\i.2.2<=1000) (fun i=>[.d (.one (.bool (decide ((okI i.1 i.2.1 i.2.2).1=true))))]) (fun i=>[.gone,.gone,.ref [.int .i64 (okI i.1 i.2.1 i.2.2).2]])
theorem tY:∀ i j:T × Int × Int,(fun (i:T × Int × Int)=>([.d (.agg i.1.enc),.d (.one (.int .i64 i.2.1)),.ref [.int .i64 i.2.2]]:List AV)) i=(fun (i:T × Int × Int)=>([.d (.agg i.1.enc),.d (.one (.int .i64 i.2.1)),.ref [.int .i64 i.2.2]]:List AV)) j->i=j:=by
 rintro⟨t,d,left⟩ ⟨t',d',left'⟩ h
 simp only[Prod.mk.injEq]
 simpa [ap,T.enc_eq,aq,F.enc_eq,ar,Tk.enc_eq,au,Gn.enc_eq,ao] using h
theorem MO :(lI).md=[false,false,true]:=rfl
theorem MP  (t:T) (d:Int) (left:Int):(lI).pre [.d (.agg t.enc),.d (.one (.int .i64 d)),.ref [.int .i64 left]]=(t.fit 140737488355328/\0<=d/\d<=7/\0<=left/\left<=1000):=Spec.of_pre' tY (t,d,left)
theorem MQ :(lI).alts=none:=rfl
theorem MR  (t:T) (d:Int) (left:Int):(lI).res [.d (.agg t.enc),.d (.one (.int .i64 d)),.ref [.int .i64 left]]=[.d (.one (.bool (decide ((okI t d left).1=true))))]:=Spec.of_res tY (t,d,left)
theorem MS  (t:T) (d:Int) (left:Int):(lI).out [.d (.agg t.enc),.d (.one (.int .i64 d)),.ref [.int .i64 left]]=[.gone,.gone,.ref [.int .i64 (okI t d left).2]]:=Spec.of_out tY (t,d,left)
theorem MT:Sound Tryz.prog 88 lI:=Sound.all (μ:=fun i=>SizeOf.sizeOf i.1) MN
noncomputable def ka :Spec:=Spec.of (ι:=T) [false] (fun i=>[.d (.agg i.enc)]) (fun i=>i.fit 140737488355328) (fun i=>[.d (.one (.bool (decide ((okI i 1 60).1=true))))]) (fun _=>[.gone])
theorem qd:∀ i j:T,(fun (i:T)=>([.d (.agg i.enc)]:List AV)) i=(fun (i:T)=>([.d (.agg i.enc)]:List AV)) j->i=j:=by
 intro t t' h
 simpa [ap,T.enc_eq,aq,F.enc_eq,ar,Tk.enc_eq,au,Gn.enc_eq,ao] using h
theorem tZ :(ka).md=[false]:=rfl
theorem ua  (t:T):(ka).pre [.d (.agg t.enc)]=(t.fit 140737488355328):=Spec.of_pre' qd t
theorem uc :(ka).alts=none:=rfl
theorem ud  (t:T):(ka).res [.d (.agg t.enc)]=[.d (.one (.bool (decide ((okI t 1 60).1=true))))]:=Spec.of_res qd t
theorem ue  (t:T):(ka).out [.d (.agg t.enc)]=[.gone]:=Spec.of_out qd t
theorem Be:Sound Tryz.prog 57 ka:=by
 refine aQ (GOK.cons AT MT GOK.nil) Tryz.func57 (c:=Tryz.f57.body.getD .skip) rfl (n:=6) rfl MF MG (fun _=>by simp) ?_ ?_
 ·exact qd
 ·intro t h1
  have a6:=T.enc_len t
  simp only[AU,go_sem,seval,rg,a6,MO,MP,MQ,MR,MS]
  repeat' (first|with_reducible assumption|with_reducible refine And.intro ?_ ?_|intro _)
  all_goals first|omega|skip
end Go.Proofs.Pw
namespace Go.Proofs.Pw
variable [Globs]
end Go.Proofs.Pw
namespace Go.Proofs.Pw
def aP (k:Int):Int :=
 if k=1\/k=2\/k=3\/k=4\/k=5\/k=13\/k=14\/k=15\/k=18\/k=19 then 0
 else if k=12\/k=17\/k=21 then 1
 else if k=6\/k=7\/k=9\/k=10\/k=11\/k=16\/k=20 then 2
 else if k=8 then 3 else -1
mutual
def cS:F->Prop
 | .mk k _ _ _ l=>(k=1\/k=3\/k=4\/k=5\/k=18)\/((k=6\/k=7)/\bD l 0/\bD l 1)\/(k=8/\bD l 1/\bD l 2)
def bD:List F->Nat->Prop
 | [],_=>False
 | t::_,0=>cS t
 | _::r,n+1=>bD r n
end
noncomputable instance (f:F):Decidable (cS f):=Classical.propDecidable _
theorem lJ {l:List F} {i:Nat} {t:F} (h:l[i]?=some t):bD l i=cS t:=by
 induction l generalizing i with
 | nil=>simp at h
 | cons x l ih =>
   cases i with
   | zero=>simp at h;subst h;simp[bD]
   | succ i=>simp only[bD];exact ih (by simpa using h)
mutual
def dp:F->Prop
 | .mk k _ _ _ l=>aP k=l.length/\fo l
def fo:List F->Prop
 | []=>True
 | t::l=>dp t/\fo l
end
theorem gW {l:List F}:fo l ↔ ∀ t ∈ l,dp t:=by
 induction l with
 | nil=>simp[fo]
 | cons x l ih=>simp[fo,ih]
def lK (k n:Int) (s:ByteArray) (v:T):Prop:=(k=4\/n=0)/\((k=3\/k=21)\/s=⟨#[]⟩)/\(k=2\/v=T.zero)
noncomputable instance (k n:Int) (s:ByteArray) (v:T):Decidable (lK k n s v):=Classical.propDecidable _
mutual
def aM:F->Int->Prop
 | .mk k n s v l,d=>1<=d/\aP k=l.length/\lK k n s v/\okS s/\-60<=n/\n < 60/\okT v/\ba l (d-1)/\(k=20->bD l 0)
def ba:List F->Int->Prop
 | [],_=>True
 | t::l,d=>aM t d/\ba l d
end
noncomputable instance (t:F) (d:Int):Decidable (aM t d):=Classical.propDecidable _
theorem od {l:List F} {d:Int}:ba l d ↔ ∀ t ∈ l,aM t d:=by
 induction l with
 | nil=>simp[ba]
 | cons x l ih=>simp[ba,ih]
mutual
theorem Bf:∀ {t:F} {d:Int},aM t d->dp t
 | .mk k n s v l,d,h=>by
   simp only[aM] at h
   exact⟨h.2.1,Bg h.2.2.2.2.2.2.2.1⟩
theorem Bg:∀ {l:List F} {d:Int},ba l d->fo l
 | [],_,_=>trivial
 | t::l,d,h=>by
   simp only[ba] at h
   exact⟨Bf h.1,Bg h.2⟩
end
mutual
def ej:F->Int->Int
 | .mk _ _ _ _ l,d=>1+eo l d
def eo:List F->Int->Int
 | [],_=>0
 | t::l,d=>if 0 < d then ej t (d-1)+eo l d else 0
end
mutual
def aJ:F->Int
 | .mk _ _ _ _ l=>1+aD l
def aD:List F->Int
 | []=>0
 | t::l=>aJ t+aD l
end
def okF (t:F):Prop:=aM t 7/\ej t 7<=16
noncomputable instance (t:F):Decidable (okF t):=Classical.propDecidable _
mutual
def bW:F->Prop
 | .mk _ _ _ v l=>aA v<=1048577/\eK l
def eK:List F->Prop
 | []=>True
 | t::l=>bW t/\eK l
end
theorem MU {l:List F}:eK l ↔ ∀ t ∈ l,bW t:=by
 induction l with
 | nil=>simp[eK]
 | cons x l ih=>simp[eK,ih]
mutual
theorem uf:∀ (t:F) (d:Int),0<=ej t d/\ej t d<=aJ t
 | .mk k n s v l,d=>by
   have:=fX l d
   simp only[ej,aJ];omega
theorem fX:∀ (l:List F) (d:Int),0<=eo l d/\eo l d<=aD l
 | [],d=>by simp[eo,aD]
 | t::l,d=>by
   have h1:=uf t (d-1)
   have h2:=fX l d
   simp only[eo,aD]
   split <;> omega
end
theorem Bh {l:List F} {i:Nat} {t:F} (h:l[i]?=some t):aJ t<=aD l:=by
 induction l generalizing i with
 | nil=>simp at h
 | cons x l ih =>
   have h2:=fX l 0
   have h3:=uf x 0
   cases i with
   | zero=>simp at h;subst h;simp only[aD];omega
   | succ i=>have:=ih (by simpa using h);simp only[aD];omega
end Go.Proofs.Pw
namespace Go.Proofs.Pw
def lL:F->Prop
 | .mk k n s v _=>lK k n s v
noncomputable instance (f:F):Decidable (lL f):=Classical.propDecidable _
end Go.Proofs.Pw
namespace Go.Proofs.Pw
def ktab:List Int:=[0,0,0,0,0,0,2,2,3,2,2,2,1,0,0,0,2,1,0,0,2,1]
def dq:C:=.row 1 (ktab.map fun m=>[.int .i64 m])
theorem Bi {i:Nat} (h:i < 22):(ktab.map fun m=>[C.int .i64 m]).getD i []=[C.int .i64 (ktab.getD i 0)]:=by
 have h':i < ktab.length:=h
 simp[List.getD_eq_getElem?_getD,List.getElem?_map,List.getElem?_eq_getElem h']
theorem MV {i:Nat} (h:¬ i < 22):(ktab.map fun m=>[C.int .i64 m]).getD i []=[]:=by
 rw[List.getD_eq_getElem?_getD,List.getElem?_eq_none (by rw[List.length_map];exact Nat.le_of_not_lt h)];rfl
theorem Bj:∀ i:Fin 22,1<=i.val->ktab.getD i.val 0=aP (i.val:Int):=by decide
theorem Bk:(ktab.map fun m=>[C.int .i64 m]).length=22:=rfl
def kb (k n:Int) (s:ByteArray) (v:T) (l:List F):Prop :=
 1<=k/\k<=21/\aP k=l.length/\lK k n s v/\-60<=n/\n<=59/\okS s/\(okI v 1 60).1=true
noncomputable instance (k n:Int) (s:ByteArray) (v:T) (l:List F):Decidable (kb k n s v l):=Classical.propDecidable _
noncomputable instance (k:Int) (l:List F):Decidable (k=20->bD l 0):=Classical.propDecidable _
mutual
noncomputable def aV:F->Int->Int->Bool × Int
 | .mk k n s v l,d,left=>if 1<=left/\d<=7/\kb k n s v l then (if (bO l (d+1) (left-1)).1=true then (decide (k=20->bD l 0),(bO l (d+1) (left-1)).2) else (false,(bO l (d+1) (left-1)).2)) else (false,left-1)
noncomputable def bO:List F->Int->Int->Bool × Int
 | [],_,left=>(true,left)
 | t::r,d,left=>if (aV t d left).1=true then bO r d (aV t d left).2 else (false,(aV t d left).2)
end
mutual
theorem ug:∀ (t:F) (d left:Int),(aV t d left).2<=left/\((aV t d left).1=true->0<=(aV t d left).2/\dp t)
 | .mk k n s v l,d,left=>by
   have h:=Bl l (d+1) (left-1)
   simp only[aV,dp]
   split
   ·rename_i hc
    split
    ·rename_i hr
     exact⟨by simp only;omega,fun _=>⟨(h.2 (by omega) hr).1,hc.2.2.2.2.1,(h.2 (by omega) hr).2⟩⟩
    ·exact⟨by simp only;omega,fun h=>by simp at h⟩
   ·exact⟨by simp only;omega,fun h=>by simp at h⟩
theorem Bl:∀ (l:List F) (d left:Int),(bO l d left).2<=left/\(0<=left->(bO l d left).1=true->0<=(bO l d left).2/\fo l)
 | [],d,left=>by simp[bO,fo]
 | t::r,d,left=>by
   have h1:=ug t d left
   have h2:=Bl r d (aV t d left).2
   simp only[bO,fo]
   split
   ·rename_i h;exact⟨by omega,fun _ h'=>⟨(h2.2 (h1.2 h).1 h').1,(h1.2 h).2,(h2.2 (h1.2 h).1 h').2⟩⟩
   ·rename_i h;exact⟨h1.1,fun _ h'=>by simp at h'⟩
end
end Go.Proofs.Pw
