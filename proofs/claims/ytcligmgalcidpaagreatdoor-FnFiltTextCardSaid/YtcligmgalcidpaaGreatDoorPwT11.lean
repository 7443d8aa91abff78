/- What is a generator that is ok. -/
import Derived.Test.YtcligmgalcidpaaGreatDoorPwT10
import Derived.Test.YtcligmgalcidpaaGreatDoorProg
import Derived.KernelRfl
set_option linter.unusedSimpArgs false
set_option linter.unusedVariables false
set_option linter.unusedSectionVars false
set_option maxRecDepth 20000
namespace Go.Proofs.Pw
def MW (t:Tk):Prop:=okT t.v/\t.todo.length<=40/\∀ f ∈ t.todo,okF f
def MX (g:Gn):Prop:=0<=g.fuel/\g.fuel<=400/\0<=g.code/\g.code<=3/\(g.code=0\/g.tasks.length=0)/\g.tasks.length<=2000/\∀ t ∈ g.tasks,MW t
noncomputable instance (g:Gn):Decidable (MX g):=Classical.propDecidable _
def MY (t:Tk):Prop:=(okI t.v 1 60).1=true/\t.todo.length<=40/\∀ f ∈ t.todo,(aV f 1 16).1=true
def MZ (g:Gn):Prop:=0<=g.fuel/\g.fuel<=400/\0<=g.code/\g.code<=3/\(g.code=0\/g.tasks.length=0)/\g.tasks.length<=2000/\∀ t ∈ g.tasks,MY t
noncomputable instance (g:Gn):Decidable (MZ g):=Classical.propDecidable _
mutual
theorem Bm:∀ (t:T) (d left:Int),0<=d->(okI t d left).1=true->aK t (7-d)/\(okI t d left).2=left-aA t
 | .mk k n s ks l,d,left,hd,h=>by
   simp only[okI] at h ⊢
   split at h
   ·rename_i hc
    rw[if_pos hc]
    obtain⟨h1,h2,h3,h4,h5,h6,h7,h8,h9,h10,h11,h12,h13⟩:=hc
    have:=Bn l (d+1) (left-1) (by omega) h
    simp only[aK,aA]
    refine⟨⟨by omega,h3,h4,h5.imp id (fun h=>List.eq_nil_of_length_eq_zero h),h6.imp id (fun h=>List.eq_nil_of_length_eq_zero h),h7,h8,h9,h10,h11,fun hk=>⟨h12 hk,h13⟩,?_⟩,by omega⟩
    rw[show 7-d-1=7-(d+1) by omega];exact this.1
   ·cases h
theorem Bn:∀ (l:List T) (d left:Int),0<=d->(cw l d left).1=true->aL l (7-d)/\(cw l d left).2=left-av l
 | [],d,left,_,_=>by simp[cw,aL,av]
 | t::r,d,left,hd,h=>by
   simp only[cw] at h ⊢
   split at h
   ·rename_i hc
    rw[if_pos hc]
    have h1:=Bm t d left hd hc
    have h2:=Bn r d _ hd h
    simp only[aL,av]
    exact⟨⟨h1.1,h2.1⟩,by omega⟩
   ·cases h
end
end Go.Proofs.Pw
namespace Go.Proofs.Pw
mutual
theorem Bo:∀ (t:T) (d left:Int),0<=d->aK t (7-d)->aA t<=left->(okI t d left).1=true/\(okI t d left).2=left-aA t
 | .mk k n s ks l,d,left,hd,h,hs=>by
   simp only[aK,aA] at h hs
   obtain⟨h1,h2,h3,h4,h5,h6,h7,h8,h9,h10,h11,h12⟩:=h
   have hz:=(gS l 0)
   have hk:ei ks:=by
    rcases h4 with h4|h4
    ·exact (h11 h4).2
    ·subst h4;exact tB []
   have hc:1<=left/\d<=6/\iO k n s ks l:=⟨by omega,by omega,h2,h3,h4.imp id (fun h=>by rw[h];rfl),h5.imp id (fun h=>by rw[h];rfl),h6,h7,h8,h9,h10,fun h=>(h11 h).1,hk⟩
   have:=Bp l (d+1) (left-1) (by omega) (by rw[show 7-(d+1)=7-d-1 by omega];exact h12) (by omega)
   simp only[okI,aA]
   rw[if_pos hc]
   exact⟨this.1,by omega⟩
theorem Bp:∀ (l:List T) (d left:Int),0<=d->aL l (7-d)->av l<=left->(cw l d left).1=true/\(cw l d left).2=left-av l
 | [],d,left,_,_,_=>by simp[cw,av]
 | t::r,d,left,hd,h,hs=>by
   simp only[aL,av] at h hs
   have hz:=(gS r 0)
   have h1:=Bo t d left hd h.1 (by omega)
   have h2:=Bp r d (okI t d left).2 hd h.2 (by omega)
   simp only[cw,av]
   rw[if_pos h1.1]
   exact⟨h2.1,by omega⟩
end
mutual
theorem uh:∀ (t:T) (d:Int),aK t d->cr t d=aA t
 | .mk k n s ks l,d,h=>by
   simp only[aK] at h
   simp only[cr,aA]
   have:=Bq l d h.2.2.2.2.2.2.2.2.2.2.2
   omega
theorem Bq:∀ (l:List T) (d:Int),aL l (d-1)->bV l d=av l
 | [],d,_=>by simp[bV,av]
 | t::l,d,h=>by
   simp only[aL] at h
   have h1:=uh t (d-1) h.1
   have h2:=Bq l d h.2
   have h3:0 < d:=by
    cases t with
    | mk k n s ks r=>have:=h.1;simp only[aK] at this;omega
   simp only[bV,av]
   rw[if_pos h3];omega
end
theorem qf (t:T):(okI t 1 60).1=true ↔ okT t:=by
 constructor
 ·intro h
  have h1:=Bm t 1 60 (by omega) h
  have h2:=tE t 1 60
  have h3:=uh t 6 h1.1
  refine⟨h1.1,?_⟩
  have:=h2.2 h
  omega
 ·rintro⟨h1,h2⟩
  have h3:=uh t 6 h1
  exact (Bo t 1 60 (by omega) h1 (by omega)).1
end Go.Proofs.Pw
namespace Go.Proofs.Pw
mutual
theorem Br:∀ (t:F) (d left:Int),0<=d->(aV t d left).1=true->aM t (8-d)/\(aV t d left).2=left-aJ t
 | .mk k n s v l,d,left,hd,h=>by
   simp only[aV] at h ⊢
   split at h
   ·rename_i hc
    rw[if_pos hc]
    split at h
    ·rename_i hr
     rw[if_pos hr]
     obtain⟨h1,h2,h3,h4,h5,h6,h7,h8,h9,h10⟩:=hc
     have:=Bs l (d+1) (left-1) (by omega) hr
     simp only[aM,aJ]
     refine⟨⟨by omega,h5,h6,h9,h7,by omega,(qf v).1 h10,?_,by simpa using h⟩,by omega⟩
     rw[show 8-d-1=8-(d+1) by omega];exact this.1
    ·cases h
   ·cases h
theorem Bs:∀ (l:List F) (d left:Int),0<=d->(bO l d left).1=true->ba l (8-d)/\(bO l d left).2=left-aD l
 | [],d,left,_,_=>by simp[bO,ba,aD]
 | t::r,d,left,hd,h=>by
   simp only[bO] at h ⊢
   split at h
   ·rename_i hc
    rw[if_pos hc]
    have h1:=Br t d left hd hc
    have h2:=Bs r d _ hd h
    simp only[ba,aD]
    exact⟨⟨h1.1,h2.1⟩,by omega⟩
   ·cases h
end
theorem lM {k:Int} (h:0<=aP k):1<=k/\k<=21:=by
 unfold aP at h
 split at h
 ·omega
 ·split at h
  ·omega
  ·split at h
   ·omega
   ·split at h <;> omega
mutual
theorem Bt:∀ (t:F) (d left:Int),0<=d->aM t (8-d)->aJ t<=left->(aV t d left).1=true/\(aV t d left).2=left-aJ t
 | .mk k n s v l,d,left,hd,h,hs=>by
   simp only[aM,aJ] at h hs
   obtain⟨h1,h2,h3,h4,h5,h6,h7,h8,h9⟩:=h
   have hz:=(fX l 0)
   have hk:=lM (k:=k) (by omega)
   have hc:1<=left/\d<=7/\kb k n s v l:=⟨by omega,by omega,hk.1,hk.2,h2,h3,h5,by omega,h4,(qf v).2 h7⟩
   have:=Bu l (d+1) (left-1) (by omega) (by rw[show 8-(d+1)=8-d-1 by omega];exact h8) (by omega)
   simp only[aV,aJ]
   rw[if_pos hc,if_pos this.1]
   exact⟨by simpa using h9,by simp only;omega⟩
theorem Bu:∀ (l:List F) (d left:Int),0<=d->ba l (8-d)->aD l<=left->(bO l d left).1=true/\(bO l d left).2=left-aD l
 | [],d,left,_,_,_=>by simp[bO,aD]
 | t::r,d,left,hd,h,hs=>by
   simp only[ba,aD] at h hs
   have hz:=(fX r 0)
   have h1:=Bt t d left hd h.1 (by omega)
   have h2:=Bu r d (aV t d left).2 hd h.2 (by omega)
   simp only[bO,aD]
   rw[if_pos h1.1]
   exact⟨h2.1,by omega⟩
end
mutual
theorem og:∀ (t:F) (d:Int),aM t d->ej t d=aJ t
 | .mk k n s v l,d,h=>by
   simp only[aM] at h
   simp only[ej,aJ]
   have:=Bv l d h.2.2.2.2.2.2.2.1
   omega
theorem Bv:∀ (l:List F) (d:Int),ba l (d-1)->eo l d=aD l
 | [],d,_=>by simp[eo,aD]
 | t::l,d,h=>by
   simp only[ba] at h
   have h1:=og t (d-1) h.1
   have h2:=Bv l d h.2
   have h3:0 < d:=by
    cases t with
    | mk k n s v r=>have:=h.1;simp only[aM] at this;omega
   simp only[eo,aD]
   rw[if_pos h3];omega
end
theorem qg (t:F):(aV t 1 16).1=true ↔ okF t:=by
 constructor
 ·intro h
  have h1:=Br t 1 16 (by omega) h
  have h2:=ug t 1 16
  have h3:=og t 7 h1.1
  refine⟨h1.1,?_⟩
  have:=(h2.2 h).1
  omega
 ·rintro⟨h1,h2⟩
  have h3:=og t 7 h1
  exact (Bt t 1 16 (by omega) h1 (by omega)).1
end Go.Proofs.Pw
namespace Go.Proofs.Pw
variable [Globs]
def T.kind:T->Int|.mk k _ _ _ _=>k
def T.n:T->Int|.mk _ n _ _ _=>n
def T.s:T->ByteArray|.mk _ _ s _ _=>s
def T.keys:T->List ByteArray|.mk _ _ _ ks _=>ks
def T.list:T->List T|.mk _ _ _ _ l=>l
def ui (t:T):Prop:=okT t/\t.kind=5
noncomputable instance (t:T):Decidable (ui t):=Classical.propDecidable _
end Go.Proofs.Pw
namespace Go.Proofs.Pw
structure IsCmp {α:Type} (f:α->α->Int):Prop where
 rng:∀ a b,f a b=-1\/f a b=0\/f a b=1
 eq:∀ a b,f a b=0 ↔ a=b
 anti:∀ a b,f b a=- f a b
 trans:∀ a b c,f a b=-1->f b c=-1->f a c=-1
def kc (a b:Int):Int:=if a < b then -1 else if b < a then 1 else 0
theorem cmpI_is:IsCmp kc:=by
 refine⟨fun a b=>?_,fun a b=>?_,fun a b=>?_,fun a b c=>?_⟩ <;> simp only[kc] <;> repeat' split
 all_goals omega
theorem qh (a:ByteArray):¬ sl a a:=fun h=>(nX a a).2 h (.inr rfl)
theorem uj {a b:ByteArray} (h:sl a b):¬ sl b a:=fun k=>(nX a b).2 k (.inl h)
theorem Bw (a b:ByteArray):sl a b\/a=b\/sl b a:=by
 by_cases h:sl a b\/a=b
 ·rcases h with h|h
  ·exact .inl h
  ·exact .inr (.inl h)
 ·exact .inr (.inr ((nX a b).1 h))
theorem Na:∀ (x y z:List UInt8),Op.bytesLess x y=true->Op.bytesLess y z=true->Op.bytesLess x z=true:=by
 intro x
 induction x with
 | nil=>intro y z h k;cases y <;> cases z <;> simp[Op.bytesLess] at *
 | cons a x ih =>
   intro y z h k
   cases y with
   | nil=>simp[Op.bytesLess] at h
   | cons b y =>
     cases z with
     | nil=>simp[Op.bytesLess] at k
     | cons c z =>
       simp only[Op.bytesLess,Bool.or_eq_true,decide_eq_true_eq,Bool.and_eq_true,beq_iff_eq] at h k ⊢
       rcases h with h|⟨rfl,h⟩
       ·rcases k with k|⟨rfl,k⟩
        ·exact .inl (UInt8.lt_trans h k)
        ·exact .inl h
       ·rcases k with k|⟨rfl,k⟩
        ·exact .inl k
        ·exact .inr ⟨rfl,ih _ _ h k⟩
theorem Nb {a b c:ByteArray} (h:sl a b) (k:sl b c):sl a c:=Na _ _ _ h k
def fq (a b:ByteArray):Int:=if sl a b then -1 else if sl b a then 1 else 0
theorem cmpS_is:IsCmp fq:=by
 refine⟨fun a b=>?_,fun a b=>?_,fun a b=>?_,fun a b c=>?_⟩ <;> simp only[fq]
 ·repeat' split
  all_goals omega
 ·rcases Bw a b with h|rfl|h
  ·rw[if_pos h];exact⟨fun e=>by omega,fun e=>by subst e;exact absurd h (qh a)⟩
  ·simp[qh]
  ·rw[if_neg (uj h),if_pos h];exact⟨fun e=>by omega,fun e=>by subst e;exact absurd h (qh a)⟩
 ·rcases Bw a b with h|rfl|h
  ·simp[h,uj h]
  ·simp[qh]
  ·simp[h,uj h]
 ·intro h k
  have h':sl a b:=by
   by_cases e:sl a b
   ·exact e
   ·rw[if_neg e] at h;split at h <;> omega
  have k':sl b c:=by
   by_cases e:sl b c
   ·exact e
   ·rw[if_neg e] at k;split at k <;> omega
  rw[if_pos (Nb h' k')]
def bE (a b:Int):Int:=if a=0 then b else a
def cx {α:Type} (f:α->α->Int):List α->List α->Int
 | [],[]=>0
 | [],_::_=>-1
 | _::_,[]=>1
 | a::x,b::y=>bE (f a b) (cx f x y)
structure CmpAt {α:Type} (f:α->α->Int) (a:α):Prop where
 rng:∀ b,f a b=-1\/f a b=0\/f a b=1
 eq:∀ b,f a b=0 ↔ a=b
 anti:∀ b,f b a=- f a b
 trans:∀ b c,f a b=-1->f b c=-1->f a c=-1
theorem IsCmp.at {α:Type} {f:α->α->Int} (h:IsCmp f) (a:α):CmpAt f a:=⟨h.rng a,h.eq a,h.anti a,h.trans a⟩
mutual
def eL:T->T->Int
 | .mk k n s ks l,.mk k' n' s' ks' l'=>bE (kc k k') (bE (kc n n') (bE (fq s s') (bE (cx fq ks ks') (bQ l l'))))
def bQ:List T->List T->Int
 | [],[]=>0
 | [],_::_=>-1
 | _::_,[]=>1
 | a::x,b::y=>bE (eL a b) (bQ x y)
end
theorem lN {a b:Int} (h:a=-1\/a=0\/a=1) (k:b=-1\/b=0\/b=1):bE a b=-1\/bE a b=0\/bE a b=1:=by
 unfold bE;split <;> assumption
theorem oh {a b:Int}:bE a b=0 ↔ a=0/\b=0:=by
 unfold bE;split <;> simp_all
theorem lO {a b:Int}:bE (-a) (-b)=- bE a b:=by
 unfold bE;split <;> split <;> omega
theorem oi {α β:Type} {f:α->α->Int} {g:β->β->Int} {a b c:α} {x y z:β} (heq:∀ u v,f u v=0 ↔ u=v) (hf:f a b=-1->f b c=-1->f a c=-1) (hg:g x y=-1->g y z=-1->g x z=-1)
 (h:bE (f a b) (g x y)=-1) (k:bE (f b c) (g y z)=-1):bE (f a c) (g x z)=-1:=by
 unfold bE at *
 by_cases h1:f a b=0
 ·have:=(heq a b).1 h1;subst this
  rw[if_pos h1] at h
  by_cases h2:f a c=0
  ·rw[if_pos h2] at k ⊢;exact hg h k
  ·rw[if_neg h2] at k ⊢;exact k
 ·rw[if_neg h1] at h
  by_cases h2:f b c=0
  ·have:=(heq b c).1 h2;subst this
   rw[if_neg h1];exact h
  ·rw[if_neg h2] at k
   have:=hf h k
   rw[if_neg (by omega)];exact this
theorem Nc {α:Type} {f:α->α->Int} (h:IsCmp f):IsCmp (cx f):=by
 have key:∀ a,CmpAt (cx f) a:=by
  intro a
  induction a with
  | nil =>
    refine⟨fun b=>?_,fun b=>?_,fun b=>?_,fun b c=>?_⟩
    ·cases b <;> simp[cx]
    ·cases b <;> simp[cx]
    ·cases b <;> simp[cx]
    ·cases b <;> cases c <;> simp[cx]
  | cons x a ih =>
    refine⟨fun b=>?_,fun b=>?_,fun b=>?_,fun b c=>?_⟩
    ·cases b with
     | nil=>simp[cx]
     | cons y b=>exact lN (h.rng x y) (ih.rng b)
    ·cases b with
     | nil=>simp[cx]
     | cons y b=>simp only[cx,oh,h.eq,ih.eq,List.cons.injEq]
    ·cases b with
     | nil=>simp[cx]
     | cons y b=>simp only[cx];rw[h.anti x y,ih.anti b,lO]
    ·cases b with
     | nil=>simp[cx]
     | cons y b =>
       cases c with
       | nil=>intro _ k;simp[cx] at k
       | cons z c=>exact fun h1 h2=>oi h.eq (h.trans x y z) (ih.trans b c) h1 h2
 exact⟨fun a=>(key a).rng,fun a=>(key a).eq,fun a=>(key a).anti,fun a=>(key a).trans⟩
theorem cmpK_is:IsCmp (cx fq):=Nc cmpS_is
mutual
theorem Nd:∀ (a:T),CmpAt eL a
 | .mk k n s ks l=>by
   have ih:=Bx l
   refine⟨fun b=>?_,fun b=>?_,fun b=>?_,fun b c=>?_⟩
   ·obtain⟨k',n',s',ks',l'⟩:=b
    exact lN (cmpI_is.rng _ _) (lN (cmpI_is.rng _ _) (lN (cmpS_is.rng _ _) (lN (cmpK_is.rng _ _) (ih.rng _))))
   ·obtain⟨k',n',s',ks',l'⟩:=b
    simp only[eL,oh,cmpI_is.eq,cmpS_is.eq,cmpK_is.eq,ih.eq,T.mk.injEq]
   ·obtain⟨k',n',s',ks',l'⟩:=b
    simp only[eL]
    rw[cmpI_is.anti k k',cmpI_is.anti n n',cmpS_is.anti s s',cmpK_is.anti ks ks',ih.anti l',lO,lO,lO,lO]
   ·obtain⟨k',n',s',ks',l'⟩:=b
    obtain⟨k2,n2,s2,ks2,l2⟩:=c
    simp only[eL]
    exact oi cmpI_is.eq (cmpI_is.trans _ _ _) (oi (f:=kc) (g:=fun (u v:ByteArray × List ByteArray × List T)=>bE (fq u.1 v.1) (bE (cx fq u.2.1 v.2.1) (bQ u.2.2 v.2.2))) (x:=(s,ks,l)) (y:=(s',ks',l')) (z:=(s2,ks2,l2)) cmpI_is.eq (cmpI_is.trans _ _ _)
     (oi (f:=fq) (g:=fun (u v:List ByteArray × List T)=>bE (cx fq u.1 v.1) (bQ u.2 v.2)) (x:=(ks,l)) (y:=(ks',l')) (z:=(ks2,l2)) cmpS_is.eq (cmpS_is.trans _ _ _) (oi cmpK_is.eq (cmpK_is.trans _ _ _) (ih.trans _ _))))
     (f:=kc) (g:=fun (u v:Int × ByteArray × List ByteArray × List T)=>bE (kc u.1 v.1) (bE (fq u.2.1 v.2.1) (bE (cx fq u.2.2.1 v.2.2.1) (bQ u.2.2.2 v.2.2.2)))) (x:=(n,s,ks,l)) (y:=(n',s',ks',l')) (z:=(n2,s2,ks2,l2))
theorem Bx:∀ (a:List T),CmpAt bQ a
 | []=>by
   refine⟨fun b=>?_,fun b=>?_,fun b=>?_,fun b c=>?_⟩
   ·cases b <;> simp[bQ]
   ·cases b <;> simp[bQ]
   ·cases b <;> simp[bQ]
   ·cases b <;> cases c <;> simp[bQ]
 | x::a=>by
   have h:=Nd x
   have ih:=Bx a
   refine⟨fun b=>?_,fun b=>?_,fun b=>?_,fun b c=>?_⟩
   ·cases b with
    | nil=>simp[bQ]
    | cons y b=>exact lN (h.rng y) (ih.rng b)
   ·cases b with
    | nil=>simp[bQ]
    | cons y b=>simp only[bQ,oh,h.eq,ih.eq,List.cons.injEq]
   ·cases b with
    | nil=>simp[bQ]
    | cons y b=>simp only[bQ];rw[h.anti y,ih.anti b,lO]
   ·cases b with
    | nil=>simp[bQ]
    | cons y b =>
      cases c with
      | nil=>intro _ k;simp[bQ] at k
      | cons z c =>
        intro h1 h2
        simp only[bQ] at *
        unfold bE at *
        by_cases e1:eL x y=0
        ·have:=(h.eq y).1 e1;subst this
         rw[if_pos e1] at h1
         by_cases e2:eL x z=0
         ·rw[if_pos e2] at h2 ⊢;exact ih.trans b c h1 h2
         ·rw[if_neg e2] at h2 ⊢;exact h2
        ·rw[if_neg e1] at h1
         by_cases e2:eL y z=0
         ·have e3:eL x z=-1:=by
           have e4:y=z:=by
            by_cases e5:y=z
            ·exact e5
            ·exact absurd e2 (fun e=>e5 ((Bz y z).1 e))
           subst e4;exact h1
          rw[if_neg (by omega)];exact e3
         ·rw[if_neg e2] at h2
          have:=h.trans y z h1 h2
          rw[if_neg (by omega)];exact this
theorem Bz:∀ (a b:T),eL a b=0 ↔ a=b
 | .mk k n s ks l,.mk k' n' s' ks' l'=>by
   simp only[eL,oh,cmpI_is.eq,cmpS_is.eq,cmpK_is.eq,BA l l',T.mk.injEq]
theorem BA:∀ (a b:List T),bQ a b=0 ↔ a=b
 | [],[]=>by simp[bQ]
 | [],_::_=>by simp[bQ]
 | _::_,[]=>by simp[bQ]
 | a::x,b::y=>by simp only[bQ,oh,Bz a b,BA x y,List.cons.injEq]
end
theorem IsCmp.le_trans {α:Type} {f:α->α->Int} (h:IsCmp f) {a b c:α} (h1:f a b<=0) (h2:f b c<=0):f a c<=0:=by
 rcases h.rng a b with e|e|e
 ·rcases h.rng b c with e'|e'|e'
  ·have:=h.trans a b c e e';omega
  ·have:=(h.eq b c).1 e';subst this;omega
  ·omega
 ·have:=(h.eq a b).1 e;subst this;exact h2
 ·omega
theorem IsCmp.total {α:Type} {f:α->α->Int} (h:IsCmp f) {a b:α} (h1:¬ f a b<=0):f b a<=0:=by
 have:=h.anti a b;omega
def BB {α:Type} (f:α->α->Int) (v:α):List α->List α
 | []=>[v]
 | x::l=>if f x v<=0 then x::BB f v l else v::x::l
def Nf {α:Type} (f:α->α->Int) (l:List α):List α:=l.foldl (fun acc x=>BB f x acc) []
end Go.Proofs.Pw
namespace Go.Proofs.Pw
variable [Globs]
end Go.Proofs.Pw
namespace Go.Proofs.Pw
variable [Globs]
end Go.Proofs.Pw
namespace Go.Proofs.Pw
variable [Globs]
end Go.Proofs.Pw
namespace Go.Proofs.Pw
variable [Globs]
end Go.Proofs.Pw
namespace Go.Proofs.Pw
variable [Globs]
def Ng (v:T):Prop:=ui v/\okT ((Nf eL v.list).headD T.zero)
noncomputable instance (t:T):Decidable (Ng t):=Classical.propDecidable _
end Go.Proofs.Pw
namespace Go.Proofs.Pw
variable [Globs]
mutual
theorem Nh {d e:Int} (h:d<=e):∀ {t:T},aK t d->aK t e
 | .mk k n s ks l,hf=>by
   simp only[aK] at hf ⊢
   obtain⟨h1,h2,h3,h4,h5,h6,h7,h8,h9,h10,h11,h12⟩:=hf
   exact⟨by omega,h2,h3,h4,h5,h6,h7,h8,h9,h10,h11,BC (by omega) h12⟩
theorem BC {d e:Int} (h:d<=e):∀ {l:List T},aL l d->aL l e
 | [],_=>trivial
 | _::_,hf=>⟨Nh h hf.1,BC h hf.2⟩
end
mutual
theorem Ni {d e:Int} (h:d<=e):∀ {t:T},aK t d->cr t e=cr t d
 | .mk k n s ks l,hf=>by
   simp only[aK] at hf
   simp only[cr]
   rw[BD (d:=d) (e:=e) h hf.1 hf.2.2.2.2.2.2.2.2.2.2.2]
theorem BD {d e:Int} (h:d<=e) (h1:1<=d):∀ {l:List T},aL l (d-1)->bV l e=bV l d
 | [],_=>by simp[bV]
 | t::l,hf=>by
   simp only[bV]
   rw[if_pos (by omega),if_pos (by omega),Ni (d:=d-1) (e:=e-1) (by omega) hf.1,BD h h1 hf.2]
end
end Go.Proofs.Pw
namespace Go.Proofs.Pw
end Go.Proofs.Pw
