/- What is a generator that is ok. -/
import Derived.Test.YtcligmgalcidpaaGreatDoorPwT10
import Derived.Test.YtcligmgalcidpaaGreatDoorProg
import Derived.KernelRfl
set_option linter.unusedSimpArgs false
set_option linter.unusedVariables false
set_option linter.unusedSectionVars false
set_option maxRecDepth 20000
namespace Go.Proofs.Pw
def PT (t:Tk):Prop:=okT t.v/\t.todo.length<=40/\∀ f ∈ t.todo,okF f
def PU (g:Gn):Prop:=0<=g.fuel/\g.fuel<=400/\0<=g.code/\g.code<=3/\(g.code=0\/g.tasks.length=0)/\g.tasks.length<=2000/\∀ t ∈ g.tasks,PT t
noncomputable instance (g:Gn):Decidable (PU g):=Classical.propDecidable _
def PW (t:Tk):Prop:=(okI t.v 1 60).1=true/\t.todo.length<=40/\∀ f ∈ t.todo,(aZ f 1 16).1=true
def PX (g:Gn):Prop:=0<=g.fuel/\g.fuel<=400/\0<=g.code/\g.code<=3/\(g.code=0\/g.tasks.length=0)/\g.tasks.length<=2000/\∀ t ∈ g.tasks,PW t
noncomputable instance (g:Gn):Decidable (PX g):=Classical.propDecidable _
mutual
theorem Dh:∀ (t:T) (d left:Int),0<=d->(okI t d left).1=true->aO t (7-d)/\(okI t d left).2=left-aB t
 | .mk k n s ks l,d,left,hd,h=>by
   simp only[okI] at h ⊢
   split at h
   ·rename_i hc
    rw[if_pos hc]
    obtain⟨h1,h2,h3,h4,h5,h6,h7,h8,h9,h10,h11,h12,h13⟩:=hc
    have:=Di l (d+1) (left-1) (by omega) h
    simp only[aO,aB]
    refine⟨⟨by omega,h3,h4,h5.imp id (fun h=>List.eq_nil_of_length_eq_zero h),h6.imp id (fun h=>List.eq_nil_of_length_eq_zero h),h7,h8,h9,h10,h11,fun hk=>⟨h12 hk,h13⟩,?_⟩,by omega⟩
    rw[show 7-d-1=7-(d+1) by omega];exact this.1
   ·cases h
theorem Di:∀ (l:List T) (d left:Int),0<=d->(cF l d left).1=true->aP l (7-d)/\(cF l d left).2=left-az l
 | [],d,left,_,_=>by simp[cF,aP,az]
 | t::r,d,left,hd,h=>by
   simp only[cF] at h ⊢
   split at h
   ·rename_i hc
    rw[if_pos hc]
    have h1:=Dh t d left hd hc
    have h2:=Di r d _ hd h
    simp only[aP,az]
    exact⟨⟨h1.1,h2.1⟩,by omega⟩
   ·cases h
end
end Go.Proofs.Pw
namespace Go.Proofs.Pw
mutual
theorem Dj:∀ (t:T) (d left:Int),0<=d->aO t (7-d)->aB t<=left->(okI t d left).1=true/\(okI t d left).2=left-aB t
 | .mk k n s ks l,d,left,hd,h,hs=>by
   simp only[aO,aB] at h hs
   obtain⟨h1,h2,h3,h4,h5,h6,h7,h8,h9,h10,h11,h12⟩:=h
   have hz:=(iz l 0)
   have hk:eL ks:=by
    rcases h4 with h4|h4
    ·exact (h11 h4).2
    ·subst h4;exact vg []
   have hc:1<=left/\d<=6/\jG k n s ks l:=⟨by omega,by omega,h2,h3,h4.imp id (fun h=>by rw[h];rfl),h5.imp id (fun h=>by rw[h];rfl),h6,h7,h8,h9,h10,fun h=>(h11 h).1,hk⟩
   have:=Dk l (d+1) (left-1) (by omega) (by rw[show 7-(d+1)=7-d-1 by omega];exact h12) (by omega)
   simp only[okI,aB]
   rw[if_pos hc]
   exact⟨this.1,by omega⟩
theorem Dk:∀ (l:List T) (d left:Int),0<=d->aP l (7-d)->az l<=left->(cF l d left).1=true/\(cF l d left).2=left-az l
 | [],d,left,_,_,_=>by simp[cF,az]
 | t::r,d,left,hd,h,hs=>by
   simp only[aP,az] at h hs
   have hz:=(iz r 0)
   have h1:=Dj t d left hd h.1 (by omega)
   have h2:=Dk r d (okI t d left).2 hd h.2 (by omega)
   simp only[cF,az]
   rw[if_pos h1.1]
   exact⟨h2.1,by omega⟩
end
mutual
theorem vY:∀ (t:T) (d:Int),aO t d->cB t d=aB t
 | .mk k n s ks l,d,h=>by
   simp only[aO] at h
   simp only[cB,aB]
   have:=Dl l d h.2.2.2.2.2.2.2.2.2.2.2
   omega
theorem Dl:∀ (l:List T) (d:Int),aP l (d-1)->co l d=az l
 | [],d,_=>by simp[co,az]
 | t::l,d,h=>by
   simp only[aP] at h
   have h1:=vY t (d-1) h.1
   have h2:=Dl l d h.2
   have h3:0 < d:=by
    cases t with
    | mk k n s ks r=>have:=h.1;simp only[aO] at this;omega
   simp only[co,az]
   rw[if_pos h3];omega
end
theorem rn (t:T):(okI t 1 60).1=true ↔ okT t:=by
 constructor
 ·intro h
  have h1:=Dh t 1 60 (by omega) h
  have h2:=vq t 1 60
  have h3:=vY t 6 h1.1
  refine⟨h1.1,?_⟩
  have:=h2.2 h
  omega
 ·rintro⟨h1,h2⟩
  have h3:=vY t 6 h1
  exact (Dj t 1 60 (by omega) h1 (by omega)).1
end Go.Proofs.Pw
namespace Go.Proofs.Pw
mutual
theorem Dm:∀ (t:F) (d left:Int),0<=d->(aZ t d left).1=true->aU t (8-d)/\(aZ t d left).2=left-aX t
 | .mk k n s v l,d,left,hd,h=>by
   simp only[aZ] at h ⊢
   split at h
   ·rename_i hc
    rw[if_pos hc]
    split at h
    ·rename_i hr
     rw[if_pos hr]
     obtain⟨h1,h2,h3,h4,h5,h6,h7,h8,h9,h10⟩:=hc
     have:=Dn l (d+1) (left-1) (by omega) hr
     simp only[aU,aX]
     refine⟨⟨by omega,h5,h6,h9,h7,by omega,(rn v).1 h10,?_,by simpa using h⟩,by omega⟩
     rw[show 8-d-1=8-(d+1) by omega];exact this.1
    ·cases h
   ·cases h
theorem Dn:∀ (l:List F) (d left:Int),0<=d->(cg l d left).1=true->bA l (8-d)/\(cg l d left).2=left-aI l
 | [],d,left,_,_=>by simp[cg,bA,aI]
 | t::r,d,left,hd,h=>by
   simp only[cg] at h ⊢
   split at h
   ·rename_i hc
    rw[if_pos hc]
    have h1:=Dm t d left hd hc
    have h2:=Dn r d _ hd h
    simp only[bA,aI]
    exact⟨⟨h1.1,h2.1⟩,by omega⟩
   ·cases h
end
theorem ph {k:Int} (h:0<=aH k):1<=k/\k<=21:=by
 unfold aH at h
 split at h
 ·omega
 ·split at h
  ·omega
  ·split at h
   ·omega
   ·split at h <;> omega
mutual
theorem Do:∀ (t:F) (d left:Int),0<=d->aU t (8-d)->aX t<=left->(aZ t d left).1=true/\(aZ t d left).2=left-aX t
 | .mk k n s v l,d,left,hd,h,hs=>by
   simp only[aU,aX] at h hs
   obtain⟨h1,h2,h3,h4,h5,h6,h7,h8,h9⟩:=h
   have hz:=(iF l 0)
   have hk:=ph (k:=k) (by omega)
   have hc:1<=left/\d<=7/\lu k n s v l:=⟨by omega,by omega,hk.1,hk.2,h2,h3,h5,by omega,h4,(rn v).2 h7⟩
   have:=Dp l (d+1) (left-1) (by omega) (by rw[show 8-(d+1)=8-d-1 by omega];exact h8) (by omega)
   simp only[aZ,aX]
   rw[if_pos hc,if_pos this.1]
   exact⟨by simpa using h9,by simp only;omega⟩
theorem Dp:∀ (l:List F) (d left:Int),0<=d->bA l (8-d)->aI l<=left->(cg l d left).1=true/\(cg l d left).2=left-aI l
 | [],d,left,_,_,_=>by simp[cg,aI]
 | t::r,d,left,hd,h,hs=>by
   simp only[bA,aI] at h hs
   have hz:=(iF r 0)
   have h1:=Do t d left hd h.1 (by omega)
   have h2:=Dp r d (aZ t d left).2 hd h.2 (by omega)
   simp only[cg,aI]
   rw[if_pos h1.1]
   exact⟨h2.1,by omega⟩
end
mutual
theorem ro:∀ (t:F) (d:Int),aU t d->eM t d=aX t
 | .mk k n s v l,d,h=>by
   simp only[aU] at h
   simp only[eM,aX]
   have:=Dq l d h.2.2.2.2.2.2.2.1
   omega
theorem Dq:∀ (l:List F) (d:Int),bA l (d-1)->eN l d=aI l
 | [],d,_=>by simp[eN,aI]
 | t::l,d,h=>by
   simp only[bA] at h
   have h1:=ro t (d-1) h.1
   have h2:=Dq l d h.2
   have h3:0 < d:=by
    cases t with
    | mk k n s v r=>have:=h.1;simp only[aU] at this;omega
   simp only[eN,aI]
   rw[if_pos h3];omega
end
theorem rq (t:F):(aZ t 1 16).1=true ↔ okF t:=by
 constructor
 ·intro h
  have h1:=Dm t 1 16 (by omega) h
  have h2:=vX t 1 16
  have h3:=ro t 7 h1.1
  refine⟨h1.1,?_⟩
  have:=(h2.2 h).1
  omega
 ·rintro⟨h1,h2⟩
  have h3:=ro t 7 h1
  exact (Do t 1 16 (by omega) h1 (by omega)).1
end Go.Proofs.Pw
namespace Go.Proofs.Pw
variable [Globs]
def T.kind:T->Int|.mk k _ _ _ _=>k
def T.n:T->Int|.mk _ n _ _ _=>n
def T.s:T->ByteArray|.mk _ _ s _ _=>s
def T.keys:T->List ByteArray|.mk _ _ _ ks _=>ks
def T.list:T->List T|.mk _ _ _ _ l=>l
def vZ (t:T):Prop:=okT t/\t.kind=5
noncomputable instance (t:T):Decidable (vZ t):=Classical.propDecidable _
end Go.Proofs.Pw
namespace Go.Proofs.Pw
structure IsCmp {α:Type} (f:α->α->Int):Prop where
 rng:∀ a b,f a b=-1\/f a b=0\/f a b=1
 eq:∀ a b,f a b=0 ↔ a=b
 anti:∀ a b,f b a=- f a b
 trans:∀ a b c,f a b=-1->f b c=-1->f a c=-1
def lv (a b:Int):Int:=if a < b then -1 else if b < a then 1 else 0
theorem cmpI_is:IsCmp lv:=by
 refine⟨fun a b=>?_,fun a b=>?_,fun a b=>?_,fun a b c=>?_⟩ <;> simp only[lv] <;> repeat' split
 all_goals omega
theorem rz (a:ByteArray):¬ sl a a:=fun h=>(oX a a).2 h (.inr rfl)
theorem wb {a b:ByteArray} (h:sl a b):¬ sl b a:=fun k=>(oX a b).2 k (.inl h)
theorem Dr (a b:ByteArray):sl a b\/a=b\/sl b a:=by
 by_cases h:sl a b\/a=b
 ·rcases h with h|h
  ·exact .inl h
  ·exact .inr (.inl h)
 ·exact .inr (.inr ((oX a b).1 h))
theorem PY:∀ (x y z:List UInt8),Op.bytesLess x y=true->Op.bytesLess y z=true->Op.bytesLess x z=true:=by
 intro x
 induction x with
 | nil=>intro y z h k;cases y <;> cases z <;> simp[Op.bytesLess] at *
 | cons a x ih =>
   intro y z h k
   cases y with
   | nil=>simp[Op.bytesLess] at h
   | cons b y =>
     cases z with
     | nil=>simp[Op.bytesLess] at k
     | cons c z =>
       simp only[Op.bytesLess,Bool.or_eq_true,decide_eq_true_eq,Bool.and_eq_true,beq_iff_eq] at h k ⊢
       rcases h with h|⟨rfl,h⟩
       ·rcases k with k|⟨rfl,k⟩
        ·exact .inl (UInt8.lt_trans h k)
        ·exact .inl h
       ·rcases k with k|⟨rfl,k⟩
        ·exact .inl k
        ·exact .inr ⟨rfl,ih _ _ h k⟩
theorem PZ {a b c:ByteArray} (h:sl a b) (k:sl b c):sl a c:=PY _ _ _ h k
def fV (a b:ByteArray):Int:=if sl a b then -1 else if sl b a then 1 else 0
theorem cmpS_is:IsCmp fV:=by
 refine⟨fun a b=>?_,fun a b=>?_,fun a b=>?_,fun a b c=>?_⟩ <;> simp only[fV]
 ·repeat' split
  all_goals omega
 ·rcases Dr a b with h|rfl|h
  ·rw[if_pos h];exact⟨fun e=>by omega,fun e=>by subst e;exact absurd h (rz a)⟩
  ·simp[rz]
  ·rw[if_neg (wb h),if_pos h];exact⟨fun e=>by omega,fun e=>by subst e;exact absurd h (rz a)⟩
 ·rcases Dr a b with h|rfl|h
  ·simp[h,wb h]
  ·simp[rz]
  ·simp[h,wb h]
 ·intro h k
  have h':sl a b:=by
   by_cases e:sl a b
   ·exact e
   ·rw[if_neg e] at h;split at h <;> omega
  have k':sl b c:=by
   by_cases e:sl b c
   ·exact e
   ·rw[if_neg e] at k;split at k <;> omega
  rw[if_pos (PZ h' k')]
def bU (a b:Int):Int:=if a=0 then b else a
def cG {α:Type} (f:α->α->Int):List α->List α->Int
 | [],[]=>0
 | [],_::_=>-1
 | _::_,[]=>1
 | a::x,b::y=>bU (f a b) (cG f x y)
structure CmpAt {α:Type} (f:α->α->Int) (a:α):Prop where
 rng:∀ b,f a b=-1\/f a b=0\/f a b=1
 eq:∀ b,f a b=0 ↔ a=b
 anti:∀ b,f b a=- f a b
 trans:∀ b c,f a b=-1->f b c=-1->f a c=-1
theorem IsCmp.at {α:Type} {f:α->α->Int} (h:IsCmp f) (a:α):CmpAt f a:=⟨h.rng a,h.eq a,h.anti a,h.trans a⟩
mutual
def fq:T->T->Int
 | .mk k n s ks l,.mk k' n' s' ks' l'=>bU (lv k k') (bU (lv n n') (bU (fV s s') (bU (cG fV ks ks') (cn l l'))))
def cn:List T->List T->Int
 | [],[]=>0
 | [],_::_=>-1
 | _::_,[]=>1
 | a::x,b::y=>bU (fq a b) (cn x y)
end
theorem mQ {a b:Int} (h:a=-1\/a=0\/a=1) (k:b=-1\/b=0\/b=1):bU a b=-1\/bU a b=0\/bU a b=1:=by
 unfold bU;split <;> assumption
theorem pj {a b:Int}:bU a b=0 ↔ a=0/\b=0:=by
 unfold bU;split <;> simp_all
theorem mR {a b:Int}:bU (-a) (-b)=- bU a b:=by
 unfold bU;split <;> split <;> omega
theorem pm {α β:Type} {f:α->α->Int} {g:β->β->Int} {a b c:α} {x y z:β} (heq:∀ u v,f u v=0 ↔ u=v) (hf:f a b=-1->f b c=-1->f a c=-1) (hg:g x y=-1->g y z=-1->g x z=-1)
 (h:bU (f a b) (g x y)=-1) (k:bU (f b c) (g y z)=-1):bU (f a c) (g x z)=-1:=by
 unfold bU at *
 by_cases h1:f a b=0
 ·have:=(heq a b).1 h1;subst this
  rw[if_pos h1] at h
  by_cases h2:f a c=0
  ·rw[if_pos h2] at k ⊢;exact hg h k
  ·rw[if_neg h2] at k ⊢;exact k
 ·rw[if_neg h1] at h
  by_cases h2:f b c=0
  ·have:=(heq b c).1 h2;subst this
   rw[if_neg h1];exact h
  ·rw[if_neg h2] at k
   have:=hf h k
   rw[if_neg (by omega)];exact this
theorem Qa {α:Type} {f:α->α->Int} (h:IsCmp f):IsCmp (cG f):=by
 have key:∀ a,CmpAt (cG f) a:=by
  intro a
  induction a with
  | nil =>
    refine⟨fun b=>?_,fun b=>?_,fun b=>?_,fun b c=>?_⟩
    ·cases b <;> simp[cG]
    ·cases b <;> simp[cG]
    ·cases b <;> simp[cG]
    ·cases b <;> cases c <;> simp[cG]
  | cons x a ih =>
    refine⟨fun b=>?_,fun b=>?_,fun b=>?_,fun b c=>?_⟩
    ·cases b with
     | nil=>simp[cG]
     | cons y b=>exact mQ (h.rng x y) (ih.rng b)
    ·cases b with
     | nil=>simp[cG]
     | cons y b=>simp only[cG,pj,h.eq,ih.eq,List.cons.injEq]
    ·cases b with
     | nil=>simp[cG]
     | cons y b=>simp only[cG];rw[h.anti x y,ih.anti b,mR]
    ·cases b with
     | nil=>simp[cG]
     | cons y b =>
       cases c with
       | nil=>intro _ k;simp[cG] at k
       | cons z c=>exact fun h1 h2=>pm h.eq (h.trans x y z) (ih.trans b c) h1 h2
 exact⟨fun a=>(key a).rng,fun a=>(key a).eq,fun a=>(key a).anti,fun a=>(key a).trans⟩
theorem cmpK_is:IsCmp (cG fV):=Qa cmpS_is
mutual
theorem Qb:∀ (a:T),CmpAt fq a
 | .mk k n s ks l=>by
   have ih:=Ds l
   refine⟨fun b=>?_,fun b=>?_,fun b=>?_,fun b c=>?_⟩
   ·obtain⟨k',n',s',ks',l'⟩:=b
    exact mQ (cmpI_is.rng _ _) (mQ (cmpI_is.rng _ _) (mQ (cmpS_is.rng _ _) (mQ (cmpK_is.rng _ _) (ih.rng _))))
   ·obtain⟨k',n',s',ks',l'⟩:=b
    simp only[fq,pj,cmpI_is.eq,cmpS_is.eq,cmpK_is.eq,ih.eq,T.mk.injEq]
   ·obtain⟨k',n',s',ks',l'⟩:=b
    simp only[fq]
    rw[cmpI_is.anti k k',cmpI_is.anti n n',cmpS_is.anti s s',cmpK_is.anti ks ks',ih.anti l',mR,mR,mR,mR]
   ·obtain⟨k',n',s',ks',l'⟩:=b
    obtain⟨k2,n2,s2,ks2,l2⟩:=c
    simp only[fq]
    exact pm cmpI_is.eq (cmpI_is.trans _ _ _) (pm (f:=lv) (g:=fun (u v:ByteArray × List ByteArray × List T)=>bU (fV u.1 v.1) (bU (cG fV u.2.1 v.2.1) (cn u.2.2 v.2.2))) (x:=(s,ks,l)) (y:=(s',ks',l')) (z:=(s2,ks2,l2)) cmpI_is.eq (cmpI_is.trans _ _ _)
     (pm (f:=fV) (g:=fun (u v:List ByteArray × List T)=>bU (cG fV u.1 v.1) (cn u.2 v.2)) (x:=(ks,l)) (y:=(ks',l')) (z:=(ks2,l2)) cmpS_is.eq (cmpS_is.trans _ _ _) (pm cmpK_is.eq (cmpK_is.trans _ _ _) (ih.trans _ _))))
     (f:=lv) (g:=fun (u v:Int × ByteArray × List ByteArray × List T)=>bU (lv u.1 v.1) (bU (fV u.2.1 v.2.1) (bU (cG fV u.2.2.1 v.2.2.1) (cn u.2.2.2 v.2.2.2)))) (x:=(n,s,ks,l)) (y:=(n',s',ks',l')) (z:=(n2,s2,ks2,l2))
theorem Ds:∀ (a:List T),CmpAt cn a
 | []=>by
   refine⟨fun b=>?_,fun b=>?_,fun b=>?_,fun b c=>?_⟩
   ·cases b <;> simp[cn]
   ·cases b <;> simp[cn]
   ·cases b <;> simp[cn]
   ·cases b <;> cases c <;> simp[cn]
 | x::a=>by
   have h:=Qb x
   have ih:=Ds a
   refine⟨fun b=>?_,fun b=>?_,fun b=>?_,fun b c=>?_⟩
   ·cases b with
    | nil=>simp[cn]
    | cons y b=>exact mQ (h.rng y) (ih.rng b)
   ·cases b with
    | nil=>simp[cn]
    | cons y b=>simp only[cn,pj,h.eq,ih.eq,List.cons.injEq]
   ·cases b with
    | nil=>simp[cn]
    | cons y b=>simp only[cn];rw[h.anti y,ih.anti b,mR]
   ·cases b with
    | nil=>simp[cn]
    | cons y b =>
      cases c with
      | nil=>intro _ k;simp[cn] at k
      | cons z c =>
        intro h1 h2
        simp only[cn] at *
        unfold bU at *
        by_cases e1:fq x y=0
        ·have:=(h.eq y).1 e1;subst this
         rw[if_pos e1] at h1
         by_cases e2:fq x z=0
         ·rw[if_pos e2] at h2 ⊢;exact ih.trans b c h1 h2
         ·rw[if_neg e2] at h2 ⊢;exact h2
        ·rw[if_neg e1] at h1
         by_cases e2:fq y z=0
         ·have e3:fq x z=-1:=by
           have e4:y=z:=by
            by_cases e5:y=z
            ·exact e5
            ·exact absurd e2 (fun e=>e5 ((Dt y z).1 e))
           subst e4;exact h1
          rw[if_neg (by omega)];exact e3
         ·rw[if_neg e2] at h2
          have:=h.trans y z h1 h2
          rw[if_neg (by omega)];exact this
theorem Dt:∀ (a b:T),fq a b=0 ↔ a=b
 | .mk k n s ks l,.mk k' n' s' ks' l'=>by
   simp only[fq,pj,cmpI_is.eq,cmpS_is.eq,cmpK_is.eq,Du l l',T.mk.injEq]
theorem Du:∀ (a b:List T),cn a b=0 ↔ a=b
 | [],[]=>by simp[cn]
 | [],_::_=>by simp[cn]
 | _::_,[]=>by simp[cn]
 | a::x,b::y=>by simp only[cn,pj,Dt a b,Du x y,List.cons.injEq]
end
theorem IsCmp.le_trans {α:Type} {f:α->α->Int} (h:IsCmp f) {a b c:α} (h1:f a b<=0) (h2:f b c<=0):f a c<=0:=by
 rcases h.rng a b with e|e|e
 ·rcases h.rng b c with e'|e'|e'
  ·have:=h.trans a b c e e';omega
  ·have:=(h.eq b c).1 e';subst this;omega
  ·omega
 ·have:=(h.eq a b).1 e;subst this;exact h2
 ·omega
theorem IsCmp.total {α:Type} {f:α->α->Int} (h:IsCmp f) {a b:α} (h1:¬ f a b<=0):f b a<=0:=by
 have:=h.anti a b;omega
def Dv {α:Type} (f:α->α->Int) (v:α):List α->List α
 | []=>[v]
 | x::l=>if f x v<=0 then x::Dv f v l else v::x::l
def Qc {α:Type} (f:α->α->Int) (l:List α):List α:=l.foldl (fun acc x=>Dv f x acc) []
end Go.Proofs.Pw
namespace Go.Proofs.Pw
variable [Globs]
end Go.Proofs.Pw
namespace Go.Proofs.Pw
variable [Globs]
end Go.Proofs.Pw
namespace Go.Proofs.Pw
variable [Globs]
end Go.Proofs.Pw
namespace Go.Proofs.Pw
variable [Globs]
end Go.Proofs.Pw
namespace Go.Proofs.Pw
variable [Globs]
def Qd (v:T):Prop:=vZ v/\okT ((Qc fq v.list).headD T.zero)
noncomputable instance (t:T):Decidable (Qd t):=Classical.propDecidable _
end Go.Proofs.Pw
namespace Go.Proofs.Pw
variable [Globs]
mutual
theorem Qe {d e:Int} (h:d<=e):∀ {t:T},aO t d->aO t e
 | .mk k n s ks l,hf=>by
   simp only[aO] at hf ⊢
   obtain⟨h1,h2,h3,h4,h5,h6,h7,h8,h9,h10,h11,h12⟩:=hf
   exact⟨by omega,h2,h3,h4,h5,h6,h7,h8,h9,h10,h11,Dw (by omega) h12⟩
theorem Dw {d e:Int} (h:d<=e):∀ {l:List T},aP l d->aP l e
 | [],_=>trivial
 | _::_,hf=>⟨Qe h hf.1,Dw h hf.2⟩
end
mutual
theorem Qf {d e:Int} (h:d<=e):∀ {t:T},aO t d->cB t e=cB t d
 | .mk k n s ks l,hf=>by
   simp only[aO] at hf
   simp only[cB]
   rw[Dx (d:=d) (e:=e) h hf.1 hf.2.2.2.2.2.2.2.2.2.2.2]
theorem Dx {d e:Int} (h:d<=e) (h1:1<=d):∀ {l:List T},aP l (d-1)->co l e=co l d
 | [],_=>by simp[co]
 | t::l,hf=>by
   simp only[co]
   rw[if_pos (by omega),if_pos (by omega),Qf (d:=d-1) (e:=e-1) (by omega) hf.1,Dx h h1 hf.2]
end
end Go.Proofs.Pw
namespace Go.Proofs.Pw
end Go.Proofs.Pw
