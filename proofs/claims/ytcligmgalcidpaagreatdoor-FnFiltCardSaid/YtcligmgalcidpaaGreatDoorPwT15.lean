/- What the reference's reader of trees does, as a function: it reads a text just if it is a tree's. -/
import Derived.Test.YtcligmgalcidpaaGreatDoorPwT14
import Derived.Lib.AtoiErrMem
import Derived.Test.YtcligmgalcidpaaGreatDoorPwT10
set_option linter.unusedSimpArgs false
set_option linter.unusedVariables false
set_option linter.unusedSectionVars false
set_option maxRecDepth 20000
namespace Go.Proofs.Pw
def aj (c:UInt8):Bool:=decide (97<=c.toNat/\c.toNat<=122)
def bh (c:UInt8):Bool:=decide (48<=c.toNat/\c.toNat<=57)
def al (p:UInt8->Bool) (l:List UInt8) (a:Nat):Nat:=a+((l.drop a).takeWhile p).length
def atB (l:List UInt8) (a:Nat) (c:UInt8):Bool:=l[a]? == some c
def jT (neg:Bool) (m:List UInt8):Prop:=m≠[]/\m.length<=17/\¬ (m.head?=some 48/\(1 < m.length\/neg=true))/\∀ b ∈ m,bh b=true
noncomputable instance (neg:Bool) (m:List UInt8):Decidable (jT neg m):=Classical.propDecidable _
noncomputable def bN (s:List UInt8):Option Int :=
 if s.head?=some 45 then (if jT true s.tail then some (-(dv s.tail:Int)) else none) else (if jT false s then some (dv s:Int) else none)
def cd (l:List UInt8) (a:Nat):Nat:=al bh l (if atB l a 45 then a+1 else a)
noncomputable def psN (l:List UInt8) (a:Nat):T × Int:=match bN (sub l a (cd l a)) with
 | some n=>(.mk 3 n ⟨#[]⟩ [] [],(cd l a:Int))
 | none=>(T.zero,-1)
def psW (l:List UInt8) (a:Nat):T × Int :=
 if sub l a (al aj l a)=[110,117,108,108] then (T.zero,(al aj l a:Int))
 else if sub l a (al aj l a)=[102,97,108,115,101] then (.mk 1 0 ⟨#[]⟩ [] [],(al aj l a:Int))
 else if sub l a (al aj l a)=[116,114,117,101] then (.mk 2 0 ⟨#[]⟩ [] [],(al aj l a:Int))
 else (T.zero,-1)
def psL (f:Nat->T × Int) (l:List UInt8):Nat->Nat->List T × Int
 | 0,_=>([],-1)
 | c+1,a =>
   if (f a).2 < 0 then ([],-1)
   else if atB l (f a).2.toNat 93 then ([(f a).1],(f a).2+1)
   else if atB l (f a).2.toNat 44 then ((f a).1::(psL f l c ((f a).2.toNat+1)).1,(psL f l c ((f a).2.toNat+1)).2)
   else ([(f a).1],-1)
def psM (f:Nat->T × Int) (l:List UInt8):Nat->Nat->List ByteArray × List T × Int
 | 0,_=>([],[],-1)
 | c+1,a =>
   if atB l (al aj l a) 58 then
    (let k:=bL (sub l a (al aj l a))
    let r:=f (al aj l a+1)
    if r.2 < 0 then ([k],[],-1)
    else if atB l r.2.toNat 125 then ([k],[r.1],r.2+1)
    else if atB l r.2.toNat 44 then (k::(psM f l c (r.2.toNat+1)).1,r.1::(psM f l c (r.2.toNat+1)).2.1,(psM f l c (r.2.toNat+1)).2.2)
    else ([k],[r.1],-1))
   else ([],[],-1)
noncomputable def psV:Nat->List UInt8->Nat->T × Int
 | 0,_,_=>(T.zero,-1)
 | d+1,l,a =>
   if l.length<=a then (T.zero,-1)
   else if atB l a 91 then
    if atB l (a+1) 93 then (.mk 5 0 ⟨#[]⟩ [] [],(a:Int)+2)
    else (.mk 5 0 ⟨#[]⟩ [] (psL (psV d l) l 61 (a+1)).1,(psL (psV d l) l 61 (a+1)).2)
   else if atB l a 123 then
    if atB l (a+1) 125 then (.mk 6 0 ⟨#[]⟩ [] [],(a:Int)+2)
    else (.mk 6 0 ⟨#[]⟩ (psM (psV d l) l 61 (a+1)).1 (psM (psV d l) l 61 (a+1)).2.1,(psM (psV d l) l 61 (a+1)).2.2)
   else if atB l a 39 then
    if atB l (al aj l (a+1)) 39 then (.mk 4 0 (bL (sub l (a+1) (al aj l (a+1)))) [] [],(al aj l (a+1):Int)+1) else (T.zero,-1)
   else if aj (l.getD a 0) then psW l a
   else psN l a
theorem bH {l:List UInt8} {a:Nat} {c:UInt8} (h:atB l a c=true):a < l.length:=by
 unfold atB at h
 rcases Nat.lt_or_ge a l.length with h1|h1
 ·exact h1
 ·rw[List.getElem?_eq_none h1] at h;simp at h
theorem fZ {l:List UInt8} {a:Nat} {c:UInt8} (h:atB l a c=true):l.drop a=c::l.drop (a+1):=by
 have h1:=bH h
 unfold atB at h
 rw[List.getElem?_eq_getElem h1] at h
 simp only[beq_iff_eq,Option.some.injEq] at h
 rw[List.drop_eq_getElem_cons h1,h]
theorem fv {l r:List UInt8} {a:Nat} {c:UInt8} (h:l.drop a=c::r):atB l a c=true:=by
 have h1:l[a]?=some c:=by
  have:=congrArg (fun x=>x[0]?) h
  simpa using this
 unfold atB;rw[h1];simp
theorem dL {l r:List UInt8} {a:Nat} {c b:UInt8} (h:l.drop a=c::r) (hne:c≠b):atB l a b=false:=by
 have h1:l[a]?=some c:=by
  have:=congrArg (fun x=>x[0]?) h
  simpa using this
 unfold atB;rw[h1];simpa using hne
theorem eQ {p:UInt8->Bool} {l:List UInt8} {a:Nat} (h:a<=l.length):a<=al p l a/\al p l a<=l.length:=by
 unfold al
 have:=EB p (l.drop a)
 rw[List.length_drop] at this
 omega
theorem wL {l:List UInt8} {a:Nat} (h:a<=l.length):a<=cd l a/\cd l a<=l.length:=by
 unfold cd
 split
 ·rename_i c
  have:=bH c
  have:=eQ (p:=bh) (l:=l) (a:=a+1) (by omega)
  omega
 ·exact eQ h
theorem EN {P:List UInt8->Prop} (h0:P []) (hs:∀ m c,P m->P (m++[c])) (m:List UInt8):P m:=by
 rw[<-List.reverse_reverse m]
 induction m.reverse with
 | nil=>exact h0
 | cons c r ih=>rw[List.reverse_cons];exact hs _ _ ih
theorem wM:∀ (m:List UInt8),(∀ b ∈ m,bh b=true)->dv m < 10 ^ m.length:=by
 refine EN (fun _=>by simp[dv]) (fun m c ih=>?_)
 ·intro h
  have h1:=ih (fun b hb=>h b (by simp[hb]))
  have h2:=h c (by simp)
  unfold bh at h2
  simp only[decide_eq_true_eq] at h2
  rw[rI,List.length_append,List.length_singleton,Nat.pow_succ]
  omega
theorem EO {neg:Bool} {m:List UInt8} (h:jT neg m):dv m < 100000000000000000:=by
 obtain⟨_,h2,_,h4⟩:=h
 have h1:=wM m h4
 have:10 ^ m.length<=10 ^ 17:=Nat.pow_le_pow_right (by omega) h2
 omega
theorem wN {s:List UInt8} {n:Int} (h:bN s=some n):-100000000000000000 < n/\n < 100000000000000000:=by
 unfold bN at h
 split at h
 ·split at h
  ·rename_i c
   have:=EO c
   cases h;omega
  ·cases h
 ·split at h
  ·rename_i c
   have:=EO c
   cases h;omega
  ·cases h
theorem zero_fit (B:Int) (hB:0<=B):T.zero.fit B:=dK (by unfold i64;omega) (by unfold i64;omega) (by show ((0:Nat):Int)<=_;omega) hB
def iM (l:List UInt8) (a:Nat) (r:T × Int):Prop:=-1<=r.2/\r.2<=l.length/\(0<=r.2->(a:Int) < r.2)/\r.1.fit (l.length+61)
theorem EP {l:List UInt8} {a:Nat} (h:a < l.length):iM l a (psN l a):=by
 unfold psN
 split
 ·rename_i n hn
  obtain⟨h1,h2⟩:=wL (l:=l) (a:=a) (by omega)
  have h3:=wN hn
  refine⟨by simp only;omega,by simp only;omega,fun _=>?_,dK (by unfold i64;omega) (by unfold i64;omega) (by show ((0:Nat):Int)<=_;omega) (by omega)⟩
  simp only
  rcases Nat.lt_or_ge a (cd l a) with h4|h4
  ·omega
  ·exfalso
   have:cd l a=a:=by omega
   rw[this] at hn
   unfold sub at hn
   rw[Nat.sub_self,List.take_zero] at hn
   unfold bN at hn
   rw[if_neg (by simp),if_neg (fun k=>k.1 rfl)] at hn
   cases hn
 ·exact⟨by simp only;omega,by simp only;omega,fun k=>by simp only at k;omega,zero_fit _ (by omega)⟩
theorem EQ {l:List UInt8} {a:Nat} (h:a < l.length):iM l a (psW l a):=by
 obtain⟨h1,h2⟩:=eQ (p:=aj) (l:=l) (a:=a) (by omega)
 have key:∀ w:List UInt8,w≠[]->sub l a (al aj l a)=w->(a:Int) < (al aj l a:Int):=fun w hw e=>by
  rcases Nat.lt_or_ge a (al aj l a) with h4|h4
  ·omega
  ·exfalso
   have:al aj l a=a:=by omega
   rw[this] at e
   unfold sub at e
   rw[Nat.sub_self,List.take_zero] at e
   exact hw e.symm
 have hz:(((⟨#[]⟩:ByteArray).size:Nat):Int)=0:=rfl
 unfold psW
 split
 ·rename_i c;exact⟨by simp only;omega,by simp only;omega,fun _=>key _ (by simp) c,zero_fit _ (by omega)⟩
 split
 ·rename_i c;exact⟨by simp only;omega,by simp only;omega,fun _=>key _ (by simp) c,dK (by unfold i64;omega) (by unfold i64;omega) (by rw[hz];omega) (by omega)⟩
 split
 ·rename_i c;exact⟨by simp only;omega,by simp only;omega,fun _=>key _ (by simp) c,dK (by unfold i64;omega) (by unfold i64;omega) (by rw[hz];omega) (by omega)⟩
 ·exact⟨by simp only;omega,by simp only;omega,fun k=>by simp only at k;omega,zero_fit _ (by omega)⟩
theorem ER {f:Nat->T × Int} {l:List UInt8} (hf:∀ a,a<=l.length->iM l a (f a)):∀ (c a:Nat),a<=l.length->-1<=(psL f l c a).2/\(psL f l c a).2<=l.length/\(0<=(psL f l c a).2->(a:Int) < (psL f l c a).2)/\(psL f l c a).1.length<=c/\bt (l.length+61) (psL f l c a).1
 | 0,a,h=>by simp only[psL];exact⟨by omega,by omega,fun k=>by omega,by simp,trivial⟩
 | c+1,a,h=>by
   obtain⟨h1,h2,h3,h4⟩:=hf a h
   simp only[psL]
   split
   ·exact⟨by simp only;omega,by simp only;omega,fun k=>by simp only at k;omega,by simp,trivial⟩
   rename_i h5
   have h3:=h3 (by omega)
   split
   ·rename_i h6
    have h6:=bH h6
    exact⟨by simp only;omega,by simp only;omega,fun k=>by simp only;omega,by simp,h4,trivial⟩
   split
   ·rename_i h6
    have h6:=bH h6
    obtain⟨g1,g2,g3,g4,g5⟩:=ER hf c ((f a).2.toNat+1) (by omega)
    exact⟨g1,g2,fun k=>by have:=g3 k;omega,by simp only[List.length_cons];omega,h4,g5⟩
   ·exact⟨by simp only;omega,by simp only;omega,fun k=>by simp only at k;omega,by simp,h4,trivial⟩
theorem ES {f:Nat->T × Int} {l:List UInt8} (hf:∀ a,a<=l.length->iM l a (f a)):∀ (c a:Nat),a<=l.length->-1<=(psM f l c a).2.2/\(psM f l c a).2.2<=l.length/\(0<=(psM f l c a).2.2->(a:Int) < (psM f l c a).2.2)/\(psM f l c a).2.1.length<=c/\(psM f l c a).1.length<=c/\bt (l.length+61) (psM f l c a).2.1/\∀ s ∈ (psM f l c a).1,s.size<=l.length
 | 0,a,h=>by simp only[psM];exact⟨by omega,by omega,fun k=>by omega,by simp,by simp,trivial,by simp⟩
 | c+1,a,h=>by
   obtain⟨u1,u2⟩:=eQ (p:=aj) h
   have hk:(bL (sub l a (al aj l a))).size<=l.length:=by rw[bM];exact iK u2
   simp only[psM]
   split
   ·rename_i h0
    have h0:=bH h0
    obtain⟨h1,h2,h3,h4⟩:=hf (al aj l a+1) (by omega)
    split
    ·exact⟨by simp only;omega,by simp only;omega,fun k=>by simp only at k;omega,by simp,by simp,trivial,fun s hs=>by rw[List.mem_singleton] at hs;rw[hs];exact hk⟩
    rename_i h5
    have h3:=h3 (by omega)
    split
    ·rename_i h6
     have h6:=bH h6
     exact⟨by simp only;omega,by simp only;omega,fun k=>by simp only;omega,by simp,by simp,⟨h4,trivial⟩,fun s hs=>by rw[List.mem_singleton] at hs;rw[hs];exact hk⟩
    split
    ·rename_i h6
     have h6:=bH h6
     obtain⟨g1,g2,g3,g4,g5,g6,g7⟩:=ES hf c ((f (al aj l a+1)).2.toNat+1) (by omega)
     refine⟨g1,g2,fun k=>by have:=g3 k;simp only;omega,by simp only[List.length_cons];omega,by simp only[List.length_cons];omega,⟨h4,g6⟩,fun s hs=>?_⟩
     rcases List.mem_cons.1 hs with rfl|hs
     ·exact hk
     ·exact g7 s hs
    ·exact⟨by simp only;omega,by simp only;omega,fun k=>by simp only at k;omega,by simp,by simp,⟨h4,trivial⟩,fun s hs=>by rw[List.mem_singleton] at hs;rw[hs];exact hk⟩
   ·exact⟨by simp only;omega,by simp only;omega,fun k=>by simp only at k;omega,by simp,by simp,trivial,by simp⟩
theorem jU:∀ (d:Nat) (l:List UInt8) (a:Nat),a<=l.length->iM l a (psV d l a)
 | 0,l,a,h=>by
   unfold psV
   exact⟨by simp only;omega,by simp only;omega,fun k=>by simp only at k;omega,zero_fit _ (by omega)⟩
 | d+1,l,a,h=>by
   have hz:(((⟨#[]⟩:ByteArray).size:Nat):Int)=0:=rfl
   unfold psV
   split
   ·exact⟨by simp only;omega,by simp only;omega,fun k=>by simp only at k;omega,zero_fit _ (by omega)⟩
   rename_i ha
   split
   ·split
    ·rename_i c
     have c:=bH c
     exact⟨by simp only;omega,by simp only;omega,fun k=>by simp only;omega,dK (by unfold i64;omega) (by unfold i64;omega) (by rw[hz];omega) (by omega)⟩
    ·obtain⟨g1,g2,g3,g4,g5⟩:=ER (fun a h=>jU d l a h) 61 (a+1) (by omega)
     refine⟨g1,g2,fun k=>by have:=g3 k;simp only;omega,?_⟩
     simp only[T.fit,aa,cA]
     exact⟨by unfold i64;omega,by unfold i64;omega,by rw[hz];omega,⟨by simp;omega,by simp⟩,by omega,g5⟩
   split
   ·split
    ·rename_i c
     have c:=bH c
     exact⟨by simp only;omega,by simp only;omega,fun k=>by simp only;omega,dK (by unfold i64;omega) (by unfold i64;omega) (by rw[hz];omega) (by omega)⟩
    ·obtain⟨g1,g2,g3,g4,g5,g6,g7⟩:=ES (fun a h=>jU d l a h) 61 (a+1) (by omega)
     refine⟨g1,g2,fun k=>by have:=g3 k;simp only;omega,?_⟩
     simp only[T.fit,aa,cA]
     exact⟨by unfold i64;omega,by unfold i64;omega,by rw[hz];omega,⟨by omega,fun s hs=>by have:=g7 s hs;omega⟩,by omega,g6⟩
   split
   ·obtain⟨u1,u2⟩:=eQ (p:=aj) (l:=l) (a:=a+1) (by omega)
    have hk:(bL (sub l (a+1) (al aj l (a+1)))).size<=l.length:=by rw[bM];exact iK u2
    split
    ·rename_i c
     have c:=bH c
     exact⟨by simp only;omega,by simp only;omega,fun k=>by simp only;omega,dK (by unfold i64;omega) (by unfold i64;omega) (by omega) (by omega)⟩
    ·exact⟨by simp only;omega,by simp only;omega,fun k=>by simp only at k;omega,zero_fit _ (by omega)⟩
   split
   ·exact EQ (by omega)
   ·exact EP (by omega)
theorem ET {f:Nat->T × Int} {l:List UInt8} (ho:∀ a,a<=l.length->iM l a (f a)) (hf:∀ a,a<=l.length->0<=(f a).2->aB (f a).1+a<=(f a).2):∀ (c a:Nat),a<=l.length->0<=(psL f l c a).2->az (psL f l c a).1+a<=(psL f l c a).2
 | 0,a,h=>by simp only[psL];intro k;omega
 | c+1,a,h=>by
   obtain⟨h1,h2,h3,h4⟩:=ho a h
   simp only[psL]
   split
   ·intro k;simp only at k;omega
   rename_i h5
   have e1:=hf a h (by omega)
   split
   ·intro _;simp only[az];omega
   split
   ·rename_i h6
    have h6:=bH h6
    intro k
    have:=ET ho hf c ((f a).2.toNat+1) (by omega) k
    simp only[az];omega
   ·intro k;simp only at k;omega
theorem EU {f:Nat->T × Int} {l:List UInt8} (ho:∀ a,a<=l.length->iM l a (f a)) (hf:∀ a,a<=l.length->0<=(f a).2->aB (f a).1+a<=(f a).2):∀ (c a:Nat),a<=l.length->0<=(psM f l c a).2.2->az (psM f l c a).2.1+a<=(psM f l c a).2.2
 | 0,a,h=>by simp only[psM];intro k;omega
 | c+1,a,h=>by
   obtain⟨u1,u2⟩:=eQ (p:=aj) h
   simp only[psM]
   split
   ·rename_i h0
    have h0:=bH h0
    obtain⟨h1,h2,h3,h4⟩:=ho (al aj l a+1) (by omega)
    split
    ·intro k;simp only at k;omega
    rename_i h5
    have e1:=hf (al aj l a+1) (by omega) (by omega)
    split
    ·intro _;simp only[az];omega
    split
    ·rename_i h6
     have h6:=bH h6
     intro k
     have:=EU ho hf c ((f (al aj l a+1)).2.toNat+1) (by omega) k
     simp only[az];omega
    ·intro k;simp only at k;omega
   ·intro k;simp only at k;omega
theorem wO:∀ (d:Nat) (l:List UInt8) (a:Nat),a<=l.length->0<=(psV d l a).2->aB (psV d l a).1+a<=(psV d l a).2
 | 0,l,a,h=>by unfold psV;intro k;simp only at k;omega
 | d+1,l,a,h=>by
   have e1:∀ k:Int,∀ n s,aB (.mk k n s [] [])=1:=fun k n s=>by simp[aB,az]
   have e0:aB T.zero=1:=e1 0 0 _
   unfold psV
   split
   ·intro k;simp only at k;omega
   split
   ·split
    ·intro _;rw[e1];simp only;omega
    ·intro k
     have:=ET (jU d l) (wO d l) 61 (a+1) (by omega) k
     simp only[aB];omega
   split
   ·split
    ·intro _;rw[e1];simp only;omega
    ·intro k
     have:=EU (jU d l) (wO d l) 61 (a+1) (by omega) k
     simp only[aB];omega
   split
   ·obtain⟨u1,u2⟩:=eQ (p:=aj) (l:=l) (a:=a+1) (by omega)
    split
    ·intro _;rw[e1];simp only;omega
    ·intro k;simp only at k;omega
   split
   ·have ho:=EQ (l:=l) (a:=a) (by omega)
    intro k
    have h3:=ho.2.2.1 k
    revert h3 k
    unfold psW
    split
    ·intro k h3;rw[e0];simp only at h3 ⊢;omega
    split
    ·intro k h3;rw[e1];simp only at h3 ⊢;omega
    split
    ·intro k h3;rw[e1];simp only at h3 ⊢;omega
    ·intro k;simp only at k;omega
   ·have ho:=EP (l:=l) (a:=a) (by omega)
    intro k
    have h3:=ho.2.2.1 k
    revert h3 k
    unfold psN
    split
    ·intro k h3;rw[e1];simp only at h3 ⊢;omega
    ·intro k;simp only at k;omega
end Go.Proofs.Pw
namespace Go.Proofs.Pw
theorem QY {l:List UInt8} {a b:Nat} (h:a<=b):l.drop a=sub l a b++l.drop b:=by
 unfold sub
 have:=List.take_append_drop (b-a) (l.drop a)
 rw[List.drop_drop,Nat.add_sub_cancel' h] at this
 exact this.symm
theorem QZ {l:List UInt8} {a b:Nat} (h:b<=l.length):(sub l a b).length=b-a:=by
 unfold sub
 rw[List.length_take,List.length_drop];omega
theorem Ra (p:UInt8->Bool) (l:List UInt8) (a:Nat):sub l a (al p l a)=(l.drop a).takeWhile p:=by
 unfold sub al
 rw[Nat.add_sub_cancel_left]
 exact (List.prefix_iff_eq_take.1 (List.takeWhile_prefix p)).symm
theorem EV (m:List UInt8):m≠[]->(∀ b ∈ m,bh b=true)->¬ (m.head?=some 48/\1 < m.length)->Lib.decDigits (dv m)=m:=by
 refine EN (P:=fun m=>m≠[]->(∀ b ∈ m,bh b=true)->¬ (m.head?=some 48/\1 < m.length)->Lib.decDigits (dv m)=m) (fun h=>absurd rfl h) (fun m c ih=>?_) m
 ·intro _ h hh
  have h2:=h c (by simp)
  unfold bh at h2
  simp only[decide_eq_true_eq] at h2
  have hc:UInt8.ofNat (48+(c.toNat-48))=c:=by
   rw[show 48+(c.toNat-48)=c.toNat by omega];simp
  cases m with
  | nil =>
    have e:dv ([]++[c])=c.toNat-48:=by simp[dv]
    rw[e,Lib.decDigits,dif_pos (by omega),hc];rfl
  | cons b m =>
    have h3:b≠48:=fun e=>hh ⟨by rw[e];rfl,by simp⟩
    have h4:=ih (by simp) (fun x hx=>h x (by simp only[List.mem_append];exact .inl hx)) (fun k=>h3 (by simpa using k.1))
    have h5:dv (b::m)≠0:=fun e=>by
     rw[e,Lib.decDigits,dif_pos (by omega)] at h4
     simp only[List.cons.injEq] at h4
     exact h3 h4.1.symm
    rw[rI,Lib.decDigits,dif_neg (by omega),show (dv (b::m)*10+(c.toNat-48)) / 10=dv (b::m) by omega,h4,show (dv (b::m)*10+(c.toNat-48)) % 10=c.toNat-48 by omega,hc]
theorem EW {s:List UInt8} {n:Int} (h:bN s=some n):Lib.itoa n=s:=by
 unfold bN at h
 split at h
 ·rename_i h0
  split at h
  ·rename_i c
   cases h
   obtain⟨c1,c2,c3,c4⟩:=c
   have c5:s.tail.head?≠some 48:=fun e=>c3 ⟨e,.inr rfl⟩
   have h4:=EV s.tail c1 c4 (fun k=>c5 k.1)
   have h5:dv s.tail≠0:=fun e=>by
    rw[e,Lib.decDigits,dif_pos (by omega)] at h4
    exact c5 (by rw[<-h4];rfl)
   have hs:s=45::s.tail:=by
    cases s with
    | nil=>simp at h0
    | cons x s=>simp at h0;rw[h0];rfl
   unfold Lib.itoa
   rw[if_pos (by omega),show (-(dv s.tail:Int)).natAbs=dv s.tail by omega,h4]
   exact hs.symm
  ·cases h
 ·split at h
  ·rename_i c
   cases h
   obtain⟨c1,c2,c3,c4⟩:=c
   have h4:=EV s c1 c4 (fun k=>c3 ⟨k.1,.inl k.2⟩)
   unfold Lib.itoa
   rw[if_neg (by omega)]
   simpa using h4
  ·cases h
theorem EX (u:Nat):(Lib.decDigits u).head?=some 48->u=0:=by
 induction u using Nat.strongRecOn with
 | _ u ih =>
   intro h
   by_cases c:u < 10
   ·rw[Lib.decDigits,dif_pos c] at h
    have:=lx c
    simp only[List.head?_cons,Option.some.injEq] at h
    rw[h] at this
    have e:(48:UInt8).toNat=48:=rfl
    omega
   ·rw[Lib.decDigits,dif_neg c] at h
    obtain⟨x,r,e⟩:=List.exists_cons_of_ne_nil (ly (u / 10))
    have:=ih (u / 10) (by omega) (by rw[e] at h ⊢;simpa using h)
    omega
theorem EY:∀ (k u:Nat),u < 10 ^ (k+1)->(Lib.decDigits u).length<=k+1
 | 0,u,h=>by rw[Lib.decDigits,dif_pos (by simpa using h)];simp
 | k+1,u,h=>by
   by_cases c:u < 10
   ·rw[Lib.decDigits,dif_pos c];simp
   ·rw[Lib.decDigits,dif_neg c]
    have:=EY k (u / 10) (by rw[Nat.pow_succ] at h;omega)
    simp only[List.length_append,List.length_singleton];omega
theorem EZ {n:Int} (h0:-1000000<=n) (h1:n<=1000000):bN (Lib.itoa n)=some n:=by
 have hl:∀ u:Nat,u<=1000000->(Lib.decDigits u).length<=17:=fun u hu=>by
  have:=EY 6 u (by omega)
  omega
 have hd:∀ u b,b ∈ Lib.decDigits u->bh b=true:=fun u b hb=>by
  unfold bh;simpa using jQ u b hb
 unfold bN Lib.itoa
 by_cases c:n < 0
 ·rw[if_pos c,List.head?_cons,if_pos rfl,List.tail_cons,if_pos ⟨ly _,hl _ (by omega),fun k=>by have:=EX _ k.1;omega,hd _⟩,rJ]
  congr 1;omega
 ·have h45:¬ (Lib.decDigits n.toNat).head?=some 45:=fun e=>by
   have h2:(45:UInt8) ∈ Lib.decDigits n.toNat:=List.mem_of_head? e
   have:=jQ _ _ h2
   revert this;decide
  have hz:¬ ((Lib.decDigits n.toNat).head?=some 48/\(1 < (Lib.decDigits n.toNat).length\/false=true)):=fun k=>by
   have:=EX _ k.1
   rw[this] at k
   rcases k.2 with h|h
   ·rw[Lib.decDigits,dif_pos (by omega)] at h;simp at h
   ·cases h
  rw[if_neg c,if_neg h45,if_pos ⟨ly _,hl _ (by omega),hz,hd _⟩,rJ]
  congr 1;omega
def eats (l:List UInt8) (a:Nat) (w:List UInt8) (q:Int):Prop:=(∃ y,l.drop a=w++y)/\q=a+w.length
theorem eats.rest {l w:List UInt8} {a:Nat} {q:Int} (h:eats l a w q):l.drop a=w++l.drop q.toNat:=by
 obtain⟨⟨y,h1⟩,h2⟩:=h
 rw[h1,show q.toNat=a+w.length by omega,cl h1]
theorem gS (k n:Int) (s:ByteArray):tL (aA (.mk k n s [] []))=if k=0 then [110,117,108,108] else if k=1 then [102,97,108,115,101] else if k=2 then [116,114,117,101] else if k=3 then Lib.itoa n
 else if k=4 then 39::(tL s++[39]) else if k=6 then [123,125] else [91,93]:=by
 rw[fX];rfl
theorem mZ {l:List UInt8} {a b:Nat} {w:List UInt8} (h:a<=b) (hb:b<=l.length) (e:sub l a b=w):eats l a w b:=by
 refine⟨⟨l.drop b,by rw[<-e];exact QY h⟩,?_⟩
 rw[<-e,QZ hb];omega
theorem Rb {l:List UInt8} {a:Nat} (h:a < l.length) (hq:0<=(psN l a).2):eats l a (tL (aA (psN l a).1)) (psN l a).2:=by
 revert hq
 unfold psN
 split
 ·rename_i n hn
  intro _
  obtain⟨h1,h2⟩:=wL (l:=l) (a:=a) (by omega)
  rw[gS]
  exact mZ h1 h2 (EW hn).symm
 ·intro hq;simp only at hq;omega
theorem Rd {l:List UInt8} {a:Nat} (h:a < l.length) (hq:0<=(psW l a).2):eats l a (tL (aA (psW l a).1)) (psW l a).2:=by
 obtain⟨h1,h2⟩:=eQ (p:=aj) (l:=l) (a:=a) (by omega)
 revert hq
 unfold psW
 split
 ·rename_i c;intro _;exact mZ h1 h2 (c.trans (gS 0 0 _).symm)
 split
 ·rename_i c;intro _;exact mZ h1 h2 (c.trans (gS 1 0 _).symm)
 split
 ·rename_i c;intro _;exact mZ h1 h2 (c.trans (gS 2 0 _).symm)
 ·intro hq;simp only at hq;omega
theorem Fa {f:Nat->T × Int} {l:List UInt8} (ho:∀ a,a<=l.length->iM l a (f a)) (hf:∀ a,a<=l.length->0<=(f a).2->eats l a (tL (aA (f a).1)) (f a).2) :
 ∀ (c a:Nat),a<=l.length->0<=(psL f l c a).2->(psL f l c a).1≠[]/\eats l a (TRj (psL f l c a).1++[93]) (psL f l c a).2
 | 0,a,h=>by simp only[psL];intro k;omega
 | c+1,a,h=>by
   obtain⟨h1,h2,h3,h4⟩:=ho a h
   simp only[psL]
   split
   ·intro k;simp only at k;omega
   rename_i h5
   have e1:=hf a h (by omega)
   have e2:=e1.rest
   have e3:=e1.2
   split
   ·rename_i h6
    have h7:=fZ h6
    intro _
    refine⟨by simp,⟨l.drop ((f a).2.toNat+1),?_⟩,?_⟩
    ·rw[e2,h7];simp[TRj,TR]
    ·simp[TRj,TR];omega
   split
   ·rename_i h6
    have h7:=fZ h6
    have h6:=bH h6
    intro k
    obtain⟨g1,⟨y,g2⟩,g3⟩:=Fa ho hf c ((f a).2.toNat+1) (by omega) k
    refine⟨by simp,⟨y,?_⟩,?_⟩
    ·rw[e2,h7,g2]
     obtain⟨u,us,e⟩:=List.exists_cons_of_ne_nil g1
     rw[e];simp[TRj,TR]
    ·obtain⟨u,us,e⟩:=List.exists_cons_of_ne_nil g1
     rw[e] at g3 ⊢
     simp only[TRj,TR,List.length_append,List.length_cons,List.length_nil] at g3 ⊢
     omega
   ·intro k;simp only at k;omega
theorem Fb {f:Nat->T × Int} {l:List UInt8} (ho:∀ a,a<=l.length->iM l a (f a)) (hf:∀ a,a<=l.length->0<=(f a).2->eats l a (tL (aA (f a).1)) (f a).2) :
 ∀ (c a:Nat),a<=l.length->0<=(psM f l c a).2.2->(psM f l c a).2.1≠[]/\(psM f l c a).1.length=(psM f l c a).2.1.length/\eats l a (TMj (psM f l c a).1 (psM f l c a).2.1++[125]) (psM f l c a).2.2
 | 0,a,h=>by simp only[psM];intro k;omega
 | c+1,a,h=>by
   obtain⟨u1,u2⟩:=eQ (p:=aj) h
   simp only[psM]
   split
   ·rename_i h0
    have h8:=fZ h0
    have h0:=bH h0
    have e0:=mZ u1 u2 rfl
    have e9:=e0.rest
    have e10:=e0.2
    obtain⟨h1,h2,h3,h4⟩:=ho (al aj l a+1) (by omega)
    split
    ·intro k;simp only at k;omega
    rename_i h5
    have e1:=hf _ (by omega) (show 0<=(f (al aj l a+1)).2 by omega)
    have e2:=e1.rest
    have e3:=e1.2
    have e4:tL (bL (sub l a (al aj l a)))=sub l a (al aj l a):=iG _
    rw[Int.toNat_natCast,h8,e2] at e9
    split
    ·rename_i h6
     have h7:=fZ h6
     intro _
     refine⟨by simp,rfl,⟨l.drop ((f (al aj l a+1)).2.toNat+1),?_⟩,?_⟩
     ·rw[e9,h7];simp[TMj,TM,e4]
     ·simp[TMj,TM,e4];omega
    split
    ·rename_i h6
     have h7:=fZ h6
     have h6:=bH h6
     intro k
     obtain⟨g1,g4,⟨y,g2⟩,g3⟩:=Fb ho hf c ((f (al aj l a+1)).2.toNat+1) (by omega) k
     refine⟨by simp,by simp only[List.length_cons,g4],⟨y,?_⟩,?_⟩
     ·rw[e9,h7,g2]
      obtain⟨u,us,e⟩:=List.exists_cons_of_ne_nil g1
      rw[e];simp[TMj,TM,e4]
     ·obtain⟨u,us,e⟩:=List.exists_cons_of_ne_nil g1
      rw[e] at g3 ⊢
      simp only[TMj,TM,List.headD_cons,List.tail_cons,List.length_append,List.length_cons,List.length_nil,e4] at g3 ⊢
      omega
    ·intro k;simp only at k;omega
   ·intro k;simp only at k;omega
theorem wP:∀ (d:Nat) (l:List UInt8) (a:Nat),a<=l.length->0<=(psV d l a).2->eats l a (tL (aA (psV d l a).1)) (psV d l a).2
 | 0,l,a,h=>by unfold psV;intro k;simp only at k;omega
 | d+1,l,a,h=>by
   unfold psV
   split
   ·intro k;simp only at k;omega
   rename_i ha
   split
   ·rename_i c0
    have c1:=fZ c0
    split
    ·rename_i c
     have c2:=fZ c
     intro _
     refine⟨⟨l.drop (a+1+1),?_⟩,?_⟩
     ·rw[c1,c2,gS];rfl
     ·rw[gS];simp
    ·intro k
     obtain⟨g1,⟨y,g2⟩,g3⟩:=Fa (jU d l) (wP d l) 61 (a+1) (by have:=bH c0;omega) k
     refine⟨⟨y,?_⟩,?_⟩
     ·rw[c1,g2,fX];simp
     ·rw[fX];simp at g3 ⊢;omega
   split
   ·rename_i _ c0
    have c1:=fZ c0
    split
    ·rename_i c
     have c2:=fZ c
     intro _
     refine⟨⟨l.drop (a+1+1),?_⟩,?_⟩
     ·rw[c1,c2,gS];rfl
     ·rw[gS];simp
    ·intro k
     obtain⟨g1,g4,⟨y,g2⟩,g3⟩:=Fb (jU d l) (wP d l) 61 (a+1) (by have:=bH c0;omega) k
     refine⟨⟨y,?_⟩,?_⟩
     ·rw[c1,g2,fX];simp
     ·rw[fX];simp at g3 ⊢;omega
   split
   ·rename_i _ _ c0
    have c1:=fZ c0
    have c3:=bH c0
    split
    ·rename_i c
     have c2:=fZ c
     intro _
     obtain⟨u1,u2⟩:=eQ (p:=aj) (l:=l) (a:=a+1) (by omega)
     have e0:=mZ u1 u2 rfl
     have e9:=e0.rest
     have e10:=e0.2
     have e4:tL (bL (sub l (a+1) (al aj l (a+1))))=sub l (a+1) (al aj l (a+1)):=iG _
     rw[Int.toNat_natCast,c2] at e9
     refine⟨⟨l.drop (al aj l (a+1)+1),?_⟩,?_⟩
     ·rw[c1,e9,gS,e4];simp
     ·rw[gS,e4];simp;omega
    ·intro k;simp only at k;omega
   split
   ·exact Rd (by omega)
   ·exact Rb (by omega)
end Go.Proofs.Pw
namespace Go.Proofs.Pw
open Go.RowKit
variable [Globs]
theorem Fc:ax Tryz.prog 83=true:=by kernel_rfl
theorem Fd:ax Tryz.prog 80=true:=by kernel_rfl
theorem Re:ax Tryz.prog 141=true:=by kernel_rfl
def ei [Globs]:Prop:=(4,C.ifc) ∈ Globs.G/\(5,C.ifc) ∈ Globs.G
theorem Sound.mono {P:Program} {f:FuncId} {sp sp':Spec} (h:Sound P f sp) (hm:∀ args,sp'.pre args->sp.pre args/\∀ r o,sp.may args r o->sp'.may args r o):Sound P f sp' :=
 fun args hp w S vs fps hG hS hF ha hA=>(h args (hm args hp).1 w S vs fps hG hS hF ha hA).mono (fun _ _ ⟨r,o,h1,h2⟩=>⟨r,o,(hm args hp).2 r o h1,h2⟩)
theorem wQ {S:Nat->Prop}:∀ {l:List (Nat->Prop)},(∀ p ∈ l,∀ g,¬ p g)->Apart S l
 | [],_=>trivial
 | p::l,h=>⟨fun g hg=>absurd hg (h p (by simp) g),fun g hg=>absurd hg (h p (by simp) g),wQ (fun q hq=>h q (by simp[hq]))⟩
theorem rO {w w':World} {S:Nat->Prop} {X:Nat->Prop} {r:List AV} {v:Value} {rfs fps:List (Nat->Prop)} {vs:List Value} {o:List AV} (hr:RepR w' S r v rfs) (he:∀ p ∈ rfs++fps,∀ g,¬ p g) (ho:All3 (RepA w' S) o vs fps)
 (hS:∀ g,S g->g < w.heap.size) (hb:Below w.heap.size w w'):∃ v' S' rfs fps',Ending.returned v=.returned v'/\RepR w' S' r v' rfs/\All3 (RepA w' S') o vs fps' /\
  (∀ g,S' g->S g\/w.heap.size<=g\/X g)/\(∀ g,S' g->g < w'.heap.size) /\
  Apart S' (rfs++fps')/\(∀ g,Any (rfs++fps') g->(w.heap.size<=g\/X g)/\g < w'.heap.size)/\Fr X w.heap.size w w' :=
 ⟨v,S,rfs,fps,rfl,hr,ho,fun g hg=>.inl hg,fun g hg=>Nat.lt_of_lt_of_le (hS g hg) hb.size,wQ he,fun g ⟨p,hp,hg⟩=>absurd hg (he p hp g),Fr.below X hb⟩
noncomputable def na :Spec:=Spec.of (ι:=ByteArray × ByteArray) [false,false] (fun i=>[.d (.one (.str i.1)),.d (.one (.str i.2))]) (fun _=>True) (fun i=>[.d (.one (.bool ((tL i.2).isPrefixOf (tL i.1))))]) (fun _=>[.gone,.gone])
theorem wR:∀ i j:ByteArray × ByteArray,(fun (i:ByteArray × ByteArray)=>([.d (.one (.str i.1)),.d (.one (.str i.2))]:List AV)) i=(fun (i:ByteArray × ByteArray)=>([.d (.one (.str i.1)),.d (.one (.str i.2))]:List AV)) j->i=j:=by
 rintro⟨s,p⟩ ⟨s',p'⟩ h
 simp only[Prod.mk.injEq]
 simpa [ar,T.enc_eq,au,F.enc_eq,av,Tk.enc_eq,aw,Gn.enc_eq,aq] using h
theorem iN :(na).md=[false,false]:=rfl
theorem iO  (s:ByteArray) (p:ByteArray):(na).pre [.d (.one (.str s)),.d (.one (.str p))]=(True):=Spec.of_pre' wR (s,p)
theorem gT :(na).alts=none:=rfl
theorem gU  (s:ByteArray) (p:ByteArray):(na).res [.d (.one (.str s)),.d (.one (.str p))]=[.d (.one (.bool ((tL p).isPrefixOf (tL s))))]:=Spec.of_res wR (s,p)
theorem gV  (s:ByteArray) (p:ByteArray):(na).out [.d (.one (.str s)),.d (.one (.str p))]=[.gone,.gone]:=Spec.of_out wR (s,p)
theorem Fe:Sound Tryz.prog 80 na:=by
 rintro args ⟨⟨s,p⟩,rfl,_⟩ w S vs fps hG hS hF ha hA
 cases hA with
 | cons h1 h2 =>
   cases h2 with
   | cons h2 h3 =>
     cases h3
     obtain⟨hr1,hf1⟩:=h1
     obtain⟨hr2,hf2⟩:=h2
     cases hr1
     cases hr2
     refine (Tryz.strings_HasPrefix s p w).mono ?_
     rintro e w' ⟨rfl,rfl⟩
     refine⟨_,_,(Spec.may_none gT).2 ⟨(gU s p).symm,(gV s p).symm⟩,rO (rfs:=[fun _=>False]) ⟨.bool _,fun _ h=>h⟩ ?_ (.cons hf1 (.cons hf2 .nil)) hS (Below.refl _ _)⟩
     simp only[List.cons_append,List.nil_append,List.mem_cons,List.not_mem_nil,or_false]
     rintro q (rfl|rfl|rfl) g
     ·exact id
     ·exact hf1 g
     ·exact hf2 g
noncomputable def nc :Spec:=Spec.of (ι:=ByteArray × Int) [false,false] (fun i=>[.d (.one (.str i.1)),.d (.one (.int .u8 i.2))]) (fun _=>True) (fun i=>[.d (.one (.int .i64 (Lib.indexByte (tL i.1) i.2.toNat.toUInt8)))]) (fun _=>[.gone,.gone])
theorem wS:∀ i j:ByteArray × Int,(fun (i:ByteArray × Int)=>([.d (.one (.str i.1)),.d (.one (.int .u8 i.2))]:List AV)) i=(fun (i:ByteArray × Int)=>([.d (.one (.str i.1)),.d (.one (.int .u8 i.2))]:List AV)) j->i=j:=by
 rintro⟨s,c⟩ ⟨s',c'⟩ h
 simp only[Prod.mk.injEq]
 simpa [ar,T.enc_eq,au,F.enc_eq,av,Tk.enc_eq,aw,Gn.enc_eq,aq] using h
theorem wT :(nc).md=[false,false]:=rfl
theorem wU  (s:ByteArray) (c:Int):(nc).pre [.d (.one (.str s)),.d (.one (.int .u8 c))]=(True):=Spec.of_pre' wS (s,c)
theorem rP :(nc).alts=none:=rfl
theorem rQ  (s:ByteArray) (c:Int):(nc).res [.d (.one (.str s)),.d (.one (.int .u8 c))]=[.d (.one (.int .i64 (Lib.indexByte (tL s) c.toNat.toUInt8)))]:=Spec.of_res wS (s,c)
theorem rR  (s:ByteArray) (c:Int):(nc).out [.d (.one (.str s)),.d (.one (.int .u8 c))]=[.gone,.gone]:=Spec.of_out wS (s,c)
theorem Rf:Sound Tryz.prog 141 nc:=by
 rintro args ⟨⟨s,c⟩,rfl,_⟩ w S vs fps hG hS hF ha hA
 cases hA with
 | cons h1 h2 =>
   cases h2 with
   | cons h2 h3 =>
     cases h3
     obtain⟨hr1,hf1⟩:=h1
     obtain⟨hr2,hf2⟩:=h2
     cases hr1
     cases hr2
     refine (Tryz.strings_IndexByte s c w).mono ?_
     rintro e w' ⟨rfl,rfl⟩
     refine⟨_,_,(Spec.may_none rP).2 ⟨(rQ s c).symm,(rR s c).symm⟩,rO (rfs:=[fun _=>False]) ⟨.int _ _,fun _ h=>h⟩ ?_ (.cons hf1 (.cons hf2 .nil)) hS (Below.refl _ _)⟩
     simp only[List.cons_append,List.nil_append,List.mem_cons,List.not_mem_nil,or_false]
     rintro q (rfl|rfl|rfl) g
     ·exact id
     ·exact hf1 g
     ·exact hf2 g
noncomputable def spAtoi :Spec:=Spec.of (ι:=ByteArray) [false] (fun i=>[.d (.one (.str i))]) (fun i=>aa 140737488355328 i.size) (fun i=>[.d (.one (.int .i64 (eg (tL i)))),.d (.one .jk)]) (fun _=>[.gone])
theorem wV:∀ i j:ByteArray,(fun (i:ByteArray)=>([.d (.one (.str i))]:List AV)) i=(fun (i:ByteArray)=>([.d (.one (.str i))]:List AV)) j->i=j:=by
 intro s s' h
 simpa [ar,T.enc_eq,au,F.enc_eq,av,Tk.enc_eq,aw,Gn.enc_eq,aq] using h
theorem Ff :(spAtoi).md=[false]:=rfl
theorem Fg  (s:ByteArray):(spAtoi).pre [.d (.one (.str s))]=(aa 140737488355328 s.size):=Spec.of_pre' wV s
theorem wW :(spAtoi).alts=none:=rfl
theorem wX  (s:ByteArray):(spAtoi).res [.d (.one (.str s))]=[.d (.one (.int .i64 (eg (tL s)))),.d (.one .jk)]:=Spec.of_res wV s
theorem wY  (s:ByteArray):(spAtoi).out [.d (.one (.str s))]=[.gone]:=Spec.of_out wV s
theorem Fh (hE:ei):Sound Tryz.prog 83 spAtoi:=by
 rintro args ⟨s,rfl,hn⟩ w S vs fps hG hS hF ha hA
 simp only[aa] at hn
 cases hA with
 | cons h1 h2 =>
   rename_i v fp vs fps
   cases h2
   obtain⟨hr,hfp⟩:=h1
   cases hr
   obtain⟨_,u1,e1,r1⟩:=hG.1 _ _ hE.1
   obtain⟨_,u2,e2,r2⟩:=hG.1 _ _ hE.2
   cases r1 with|ifc t1 p1 =>
   cases r2 with|ifc t2 p2 =>
   have key:∀ (n:Int) (u:Value) (w':World),eg (tL s)=n->u.oneCell'=true->Below w.heap.size w w'->∃ r o,spAtoi.may [.d (.one (.str s))] r o/\∃ v S' rfs fps',Ending.returned (.tuple #[.int .i64 n,u])=.returned v/\RepR w' S' r v rfs/\All3 (RepA w' S') o [.string s] fps' /\
    (∀ g,S' g->S g\/w.heap.size<=g\/Any [fp] g)/\(∀ g,S' g->g < w'.heap.size) /\
    Apart S' (rfs++fps')/\(∀ g,Any (rfs++fps') g->(w.heap.size<=g\/Any [fp] g)/\g < w'.heap.size)/\Fr (Any [fp]) w.heap.size w w':=fun n u w' hn hu hb=>by
    refine⟨_,_,(Spec.may_none wW).2 ⟨(wX s).symm,(wY s).symm⟩,rO (rfs:=[fun _=>False,fun _=>False]) ⟨by simp,[.int .i64 n,u],rfl,.cons ⟨by rw[hn];exact .int _ _,fun _ h=>h⟩ (.cons ⟨.jk _ hu,fun _ h=>h⟩ .nil)⟩ ?_ (.cons hfp .nil) hS hb⟩
    simp only[List.cons_append,List.nil_append,List.mem_cons,List.not_mem_nil,or_false]
    rintro q (rfl|rfl|rfl) g
    ·exact id
    ·exact id
    ·exact hfp g
   cases hat:Lib.atoiAll (tL s) with
   | ok n =>
     refine (Tryz.strconv_Atoi_ok s (by omega) n hat w).mono ?_
     rintro e w' ⟨rfl,h⟩
     refine key n _ w' (by unfold eg;rw[hat]) rfl ?_
     rcases h with rfl|⟨t,rfl⟩
     ·exact Below.refl _ _
     ·exact Lib.bytesWorld_below _ _ _
   | range =>
     refine (Tryz.strconv_Atoi_range s (by omega) hat _ w e2 (.inr ⟨_,_,rfl⟩)).mono ?_
     rintro e w' ⟨N,rfl,_,_,hb⟩
     exact key _ _ w' (by unfold eg;rw[hat];rfl) rfl hb
   | _ =>
     refine (Go.Proofs.Any.strconv_Atoi_syntax Tryz.laysC172 s (by omega) hat _ w e1 (.inr ⟨_,_,rfl⟩)).mono ?_
     rintro e w' ⟨N,rfl,_,_,hb⟩
     exact key 0 _ w' (by unfold eg;rw[hat]) rfl hb
theorem bI (s:ByteArray) (a b:Nat):s.extract a b=bL (sub (tL s) a b):=by
 apply ByteArray.ext
 apply Array.ext'
 simp[bL,sub,tL,ByteArray.data_extract,Array.toList_extract,List.extract]
theorem rS (s:ByteArray) (a:Nat):tL (s.extract a s.size)=(tL s).drop a:=by
 rw[bI]
 show (bL _).data.toList=_
 rw[iG]
 unfold sub tL
 rw[List.take_of_length_le]
 rw[List.length_drop]
 have:s.data.toList.length=s.size:=ft s
 omega
theorem de (l:List UInt8):tL (bL l)=l:=iG l
theorem cI (s:ByteArray):(tL s).length=s.size:=ft s
theorem eR {s:ByteArray} {i:Nat} (h:i < s.size):∃ c,(tL s)[i]?=some c/\bE s i=(c.toNat:Int)/\(bE s i).toNat.toUInt8=c/\(tL s).drop i=c::(tL s).drop (i+1):=by
 obtain⟨x,h1,h2,h3⟩:=vf h
 have h':i < (tL s).length:=by rw[cI];exact h
 refine⟨x,h1,h2,by rw[h2];simp,?_⟩
 rw[List.drop_eq_getElem_cons h']
 have:(tL s)[i]?=some x:=h1
 rw[List.getElem?_eq_getElem h'] at this
 rw[Option.some.inj this]
theorem Fi (l:List UInt8) (c:UInt8):(Lib.indexByte l c < 0) ↔ l.contains c=false:=by
 have h0:∀ l:List UInt8,Lib.indexByte l c=-1\/0<=Lib.indexByte l c:=fun l=>by
  induction l with
  | nil=>exact .inl rfl
  | cons b l ih =>
    simp only[Lib.indexByte]
    split
    ·exact .inr (by omega)
    ·split
     ·exact .inl rfl
     ·rename_i h;simp only[beq_iff_eq] at h;exact .inr (by omega)
 induction l with
 | nil=>simp[Lib.indexByte]
 | cons b l ih =>
   simp only[Lib.indexByte,List.contains_cons,Bool.or_eq_false_iff]
   by_cases e:b=c
   ·subst e;simp
   ·have e1:(b == c)=false:=by simpa using e
    have e2:(c == b)=false:=by simpa using fun k=>e k.symm
    rw[e1,e2]
    simp only[Bool.false_eq_true,if_false,true_and]
    refine Iff.trans ?_ ih
    split
    ·rename_i h;simp only[beq_iff_eq] at h;omega
    ·rename_i h;simp only[beq_iff_eq] at h
     have:=h0 l
     omega
end Go.Proofs.Pw
namespace Go.Proofs.Pw
variable [Globs]
def aN (s:ByteArray) (a:Nat):List C:=[.str s,.int .i64 (a:Int)]
theorem rT {s t:ByteArray} {a b:Nat}:aN s a=aN t b ↔ s=t/\a=b:=by simp only[aN,List.cons.injEq,C.str.injEq,C.int.injEq,true_and,and_true];exact and_congr_right fun _=>by omega
def wZ:X:=(.seq (.reg [xS 4 (.mv (.k (.c (.bool false))))] none [0,1]) (.seq (.seq (.reg [xM 5 0,xS 6 (.nilc (.t 5)),xS 7 (.fa (.t 6) 0),xL 8 7,xM 9 0,xS 10 (.nilc (.t 9)),xS 11 (.fa (.t 10) 1),xL 12 11,xS 13 (.sub (.t 8) (some (.t 12)) none 0),xM 14 1,xS 15 (.call 80 [(.t 13),(.t 14)])] (some 10) [0,1,15]) (.cond (.t 15) (.seq (.reg [xM 16 0,xS 17 (.nilc (.t 16)),xS 18 (.fa (.t 17) 1),xL 19 18,xM 20 1,xS 21 (.len (.t 20) true),xS 22 (.bin false .add (.t 19) (.t 21)),xS 23 (.nilc (.t 16)),xS 24 (.fa (.t 23) 1),⟨none,none,.st (.t 24) (.t 22) none⟩] none []) (.seq (.reg [xS 4 (.mv (.k (.c (.bool true))))] none [4]) .ret)) .skip)) (.seq (.reg [xS 4 (.mv (.k (.c (.bool false))))] none [4]) .ret)))
theorem Rg:ao Tryz.prog 25 (Tryz.f116.body.getD .skip) wZ=true:=by kernel_rfl
theorem Rh:ap Tryz.prog Tryz.f116.results.toList [.tmp 4]=true:=by kernel_rfl
theorem Ri:ax Tryz.prog 116=true:=by kernel_rfl
def Fj:X:=(.seq (.reg [xS 4 (.mv (.k (.c (.str ⟨#[]⟩))))] none [0,1]) (.seq (.reg [xM 6 0,xS 7 (.nilc (.t 6)),xS 8 (.fa (.t 7) 1),xL 9 8,xM 5 9] none [0,1,5]) (.seq (.block 0 (.loop (.seq (.seq (.reg [xM 10 0,xS 11 (.nilc (.t 10)),xS 12 (.fa (.t 11) 1),xL 13 12,xM 14 0,xS 15 (.nilc (.t 14)),xS 16 (.fa (.t 15) 0),xL 17 16,xS 18 (.len (.t 17) true),xS 19 (.bin false .lss (.t 13) (.t 18)),xM 20 19,xG 21 20 (.mv (.t 1)),xG 22 20 (.mv (.t 0)),xG 23 20 (.nilc (.t 22)),xG 24 20 (.fa (.t 23) 0),xG 25 20 (.load (.t 24) none),xG 26 20 (.mv (.t 0)),xG 27 20 (.nilc (.t 26)),xG 28 20 (.fa (.t 27) 1),xG 29 20 (.load (.t 28) none),xG 30 20 (.idx (.t 25) (.t 29)),xG 31 20 (.call 141 [(.t 21),(.t 30)]),xG 32 20 (.bin false .lss (.t 31) (xK 0)),xS 33 (.pick (.t 20) (.t 32) (.k (.c (.bool false))))] (some 21) [0,1,5,33]) (.cond (.t 33) .skip (.exit 0))) (.block 1 (.reg [xM 34 0,xS 35 (.nilc (.t 34)),xS 36 (.fa (.t 35) 1),xL 37 36,xS 38 (.bin false .add (.t 37) (xK 1)),xS 39 (.nilc (.t 34)),xS 40 (.fa (.t 39) 1),⟨none,none,.st (.t 40) (.t 38) none⟩] none [0,1,5]))))) (.seq (.reg [xM 41 0,xS 42 (.nilc (.t 41)),xS 43 (.fa (.t 42) 0),xL 44 43,xM 45 5,xM 46 0,xS 47 (.nilc (.t 46)),xS 48 (.fa (.t 47) 1),xL 49 48,xS 50 (.sub (.t 44) (some (.t 45)) (some (.t 49)) 0),xM 4 50] (some 9) [4]) .ret))))
theorem Rj:ao Tryz.prog 51 (Tryz.f117.body.getD .skip) Fj=true:=by kernel_rfl
theorem Rk:ap Tryz.prog Tryz.f117.results.toList [.tmp 4]=true:=by kernel_rfl
theorem Rl:ax Tryz.prog 117=true:=by kernel_rfl
def ge:X:=(.seq (.reg [xS 4 (.alloc xV)] none [0,1,4]) (.seq (.seq (.reg [xM 10 1,xS 11 (.bin false .gtr (.t 10) (xK 6))] none [0,1,4,11]) (.cond (.t 11) (.seq (.reg [xS 12 (.build xV []),xW 4 12 5] none [4]) .ret) .skip)) (.seq (.block 0 (.seq (.reg [xM 14 0,xS 15 (.callr 116 [(.t 14),(.k (.c (.str ⟨#[110,117,108,108]⟩)))]),xM 13 15] none [0,1,4,13]) (.cond (.t 13) (.seq (.reg [xS 16 (.build xV []),xW 4 16 5] none [4]) .ret) (.seq (.reg [xM 18 0,xS 19 (.callr 116 [(.t 18),(.k (.c (.str ⟨#[102,97,108,115,101]⟩)))]),xM 17 19] none [0,1,4,17]) (.cond (.t 17) (.seq (.reg [xS 20 (.build xV [(0,(xK 1),none)]),xW 4 20 5] none [4]) .ret) (.seq (.reg [xM 22 0,xS 23 (.callr 116 [(.t 22),(.k (.c (.str ⟨#[116,114,117,101]⟩)))]),xM 21 23] none [0,1,4,21]) (.cond (.t 21) (.seq (.reg [xS 24 (.build xV [(0,(xK 2),none)]),xW 4 24 5] none [4]) .ret) (.seq (.reg [xM 26 0,xS 27 (.callr 116 [(.t 26),(.k (.c (.str ⟨#[39]⟩)))]),xM 25 27] none [0,1,4,25]) (.cond (.t 25) (.seq (.reg [xM 28 0,xS 29 (.callr 117 [(.t 28),(.k (.c (.str ⟨#[39]⟩)))]),xS 30 (.build xV [(0,(xK 4),none),(2,(.t 29),none)]),xS 5 (.alloc xV),xW 5 30 5] none [0,4,5]) (.seq (.reg [xM 31 0,xS 32 (.callr 116 [(.t 31),(.k (.c (.str ⟨#[39]⟩)))])] none [4,5]) (.seq (.reg [xS 33 (.load (.t 5) (some 5)),xW 4 33 5] none [4]) .ret))) (.seq (.reg [xM 35 0,xS 36 (.callr 116 [(.t 35),(.k (.c (.str ⟨#[91]⟩)))]),xM 34 36] none [0,1,4,34]) (.cond (.t 34) (.seq (.reg [xS 37 (.bsl 5 []),xS 38 (.build xV [(0,(xK 5),none),(4,(.t 37),none)]),xS 6 (.alloc xV),xW 6 38 5] none [0,1,4,6]) (.seq (.seq (.reg [xM 39 0,xS 40 (.callr 116 [(.t 39),(.k (.c (.str ⟨#[93]⟩)))])] none [0,1,4,6,40]) (.cond (.t 40) (.seq (.reg [xS 41 (.load (.t 6) (some 5)),xW 4 41 5] none [4]) .ret) .skip)) (.seq (.block 1 (.loop (.seq (.seq (.reg [xS 42 (.fa (.t 6) 4),xL 43 42,xS 44 (.len (.t 43) false),xS 45 (.bin false .leq (.t 44) (xK 60))] none [0,1,4,6,45]) (.cond (.t 45) .skip (.exit 1))) (.block 2 (.seq (.mix [xS 46 (.fa (.t 6) 4),xL 47 46,xM 48 0,xM 49 1,xS 50 (.bin false .add (.t 49) (xK 1)),xS 51 (.callr 100 [(.t 48),(.t 50)]),xS 52 (.bsl 5 [((.t 51),(some 5))])] [xS 53 (.app (.t 47) (.t 52) 5 80 []),xS 54 (.fa (.t 6) 4),⟨none,none,.st (.t 54) (.t 53) none⟩] [[],[],[],[],[],[1],[]] [0,1,4,6]) (.seq (.reg [xM 55 0,xS 56 (.callr 116 [(.t 55),(.k (.c (.str ⟨#[44]⟩)))]),xS 57 (.not (.t 56))] none [0,1,4,6,57]) (.cond (.t 57) (.exit 1) .skip))))))) (.seq (.reg [xM 58 0,xS 59 (.callr 116 [(.t 58),(.k (.c (.str ⟨#[93]⟩)))])] none [4,6]) (.seq (.reg [xS 60 (.load (.t 6) (some 5)),xW 4 60 5] none [4]) .ret))))) (.seq (.reg [xM 62 0,xS 63 (.callr 116 [(.t 62),(.k (.c (.str ⟨#[123]⟩)))]),xM 61 63] none [0,1,4,61]) (.cond (.t 61) (.seq (.reg [xS 64 (.bsl 1 []),xS 65 (.bsl 5 []),xS 66 (.build xV [(0,(xK 6),none),(3,(.t 64),none),(4,(.t 65),none)]),xS 7 (.alloc xV),xW 7 66 5] none [0,1,4,7]) (.seq (.seq (.reg [xM 67 0,xS 68 (.callr 116 [(.t 67),(.k (.c (.str ⟨#[125]⟩)))])] none [0,1,4,7,68]) (.cond (.t 68) (.seq (.reg [xS 69 (.load (.t 7) (some 5)),xW 4 69 5] none [4]) .ret) .skip)) (.seq (.block 3 (.loop (.seq (.seq (.reg [xS 70 (.fa (.t 7) 4),xL 71 70,xS 72 (.len (.t 71) false),xS 73 (.bin false .leq (.t 72) (xK 60))] none [0,1,4,7,73]) (.cond (.t 73) .skip (.exit 3))) (.block 4 (.seq (.mix [xS 74 (.fa (.t 7) 3),xL 75 74,xM 76 0,xS 77 (.callr 117 [(.t 76),(.k (.c (.str ⟨#[58]⟩)))]),xS 78 (.bsl 1 [((.t 77),none)])] [xS 79 (.app (.t 75) (.t 78) 1 16 []),xS 80 (.fa (.t 7) 3),⟨none,none,.st (.t 80) (.t 79) none⟩] [[],[],[],[1],[]] [0,1,4,7]) (.seq (.reg [xM 81 0,xS 82 (.callr 116 [(.t 81),(.k (.c (.str ⟨#[58]⟩)))])] none [0,1,4,7]) (.seq (.mix [xS 83 (.fa (.t 7) 4),xL 84 83,xM 85 0,xM 86 1,xS 87 (.bin false .add (.t 86) (xK 1)),xS 88 (.callr 100 [(.t 85),(.t 87)]),xS 89 (.bsl 5 [((.t 88),(some 5))])] [xS 90 (.app (.t 84) (.t 89) 5 80 []),xS 91 (.fa (.t 7) 4),⟨none,none,.st (.t 91) (.t 90) none⟩] [[],[],[],[],[],[1],[]] [0,1,4,7]) (.seq (.reg [xM 92 0,xS 93 (.callr 116 [(.t 92),(.k (.c (.str ⟨#[44]⟩)))]),xS 94 (.not (.t 93))] none [0,1,4,7,94]) (.cond (.t 94) (.exit 3) .skip))))))))) (.seq (.reg [xM 95 0,xS 96 (.callr 116 [(.t 95),(.k (.c (.str ⟨#[125]⟩)))])] none [4,7]) (.seq (.reg [xS 97 (.load (.t 7) (some 5)),xW 4 97 5] none [4]) .ret))))) .skip))))))))))))) (.seq (.reg [xM 99 0,xS 100 (.callr 117 [(.t 99),(.k (.c (.str ⟨#[44,93,125]⟩)))]),xS 101 (.call 83 [(.t 100)]),xM 98 101,xS 102 (.ext (.t 98) 0),xS 103 (.ext (.t 98) 1),xM 8 102,xM 9 103] none [4,8]) (.seq (.reg [xM 104 8,xS 105 (.build xV [(0,(xK 3),none),(1,(.t 104),none)]),xW 4 105 5] none [4]) .ret)))))
theorem Rm:ao Tryz.prog 106 (Tryz.f100.body.getD .skip) ge=true:=by kernel_rfl
theorem Rn:ap Tryz.prog Tryz.f100.results.toList [.cell 4 (some 5)]=true:=by kernel_rfl
theorem Fk:ax Tryz.prog 100=true:=by kernel_rfl
noncomputable def lC :Spec:=Spec.of (ι:=ByteArray × Nat × ByteArray) [true,false] (fun i=>[.ref (aN i.1 i.2.1),.d (.one (.str i.2.2))]) (fun i=>i.2.1<=i.1.size/\aa 1000000 i.1.size/\aa 1000000 i.2.2.size) (fun i=>[.d (.one (.bool (skp (tL i.1) i.2.1 (tL i.2.2))))]) (fun i=>[.ref (aN i.1 (clo (tL i.1) i.2.1 (tL i.2.2))),.gone])
theorem rU:∀ i j:ByteArray × Nat × ByteArray,(fun (i:ByteArray × Nat × ByteArray)=>([.ref (aN i.1 i.2.1),.d (.one (.str i.2.2))]:List AV)) i=(fun (i:ByteArray × Nat × ByteArray)=>([.ref (aN i.1 i.2.1),.d (.one (.str i.2.2))]:List AV)) j->i=j:=by
 rintro⟨s,a,p⟩ ⟨s',a',p'⟩ h
 simp only[Prod.mk.injEq]
 simpa [ar,T.enc_eq,au,F.enc_eq,av,Tk.enc_eq,aw,Gn.enc_eq,aq,rT,and_assoc] using h
theorem dM :(lC).md=[true,false]:=rfl
theorem dN  (s:ByteArray) (a:Nat) (p:ByteArray):(lC).pre [.ref (aN s a),.d (.one (.str p))]=(a<=s.size/\aa 1000000 s.size/\aa 1000000 p.size):=Spec.of_pre' rU (s,a,p)
theorem Ro  (s:ByteArray) (a:Nat) (p:ByteArray):(lC).res [.ref (aN s a),.d (.one (.str p))]=[.d (.one (.bool (skp (tL s) a (tL p))))]:=Spec.of_res rU (s,a,p)
theorem Rp  (s:ByteArray) (a:Nat) (p:ByteArray):(lC).out [.ref (aN s a),.d (.one (.str p))]=[.ref (aN s (clo (tL s) a (tL p))),.gone]:=Spec.of_out rU (s,a,p)
theorem bJ  (s:ByteArray) (a:Nat) (p:ByteArray) (F:List AV->List AV->Prop):(lC).all [.ref (aN s a),.d (.one (.str p))] F=F [.d (.one (.bool (skp (tL s) a (tL p))))] [.ref (aN s (clo (tL s) a (tL p))),.gone]:=by rw[Spec.all_fn rfl,Ro,Rp]
theorem dO  (s:ByteArray) (a:Nat) (p:ByteArray):(lC).ne [.ref (aN s a),.d (.one (.str p))]=True:=Spec.ne_fn rfl _
theorem Rq:Sound Tryz.prog 116 lC:=by
 refine aL (GOK.cons Fd Fe GOK.nil) Tryz.func116 (c:=Tryz.f116.body.getD .skip) rfl (n:=25) rfl Rg Rh (fun _=>by simp) ?_ ?_
 ·exact rU
 ·rintro⟨s,a,p⟩ ⟨h1,h2,h3⟩
  simp only[aa] at h1 h2 h3
  have a1:(tL p).isPrefixOf (tL (s.extract a s.size))=skp (tL s) a (tL p):=by rw[rS];rfl
  have a2:=cI p
  by_cases c:skp (tL s) a (tL p)=true
  ·simp only[wZ,aN,rg,go_sem,seval,Prod.fst,a1,c,clo,a2,if_true,iN,iO,gT,gU,gV]
   repeat' (first|with_reducible assumption|with_reducible refine And.intro ?_ ?_|intro _)
   all_goals first|omega|skip
  ·have c':skp (tL s) a (tL p)=false:=by simpa using c
   simp only[wZ,aN,rg,go_sem,seval,Prod.fst,a1,c',clo,a2,if_false,iN,iO,gT,gU,gV]
   repeat' (first|with_reducible assumption|with_reducible refine And.intro ?_ ?_|intro _)
   all_goals first|omega|skip
theorem Fl {l e:List UInt8} {a:Nat} (h:l.length<=a\/∃ c r,l.drop a=c::r/\e.contains c=true):aQ l e a=a:=by
 unfold aQ
 rcases h with h|⟨c,r,h1,h2⟩
 ·rw[List.drop_eq_nil_of_le h];rfl
 ·rw[h1,List.takeWhile_cons_of_neg (by rw[h2];simp)];rfl
theorem Rr {l e:List UInt8} {a:Nat} {c:UInt8} (h1:l.drop a=c::l.drop (a+1)) (h2:e.contains c=false):aQ l e a=aQ l e (a+1):=by
 unfold aQ
 rw[h1,List.takeWhile_cons_of_pos (by rw[h2];rfl),List.length_cons];omega
noncomputable def jV :Spec:=Spec.of (ι:=ByteArray × Nat × ByteArray) [true,false] (fun i=>[.ref (aN i.1 i.2.1),.d (.one (.str i.2.2))]) (fun i=>i.2.1<=i.1.size/\aa 1000000 i.1.size) (fun i=>[.d (.one (.str (bL (sub (tL i.1) i.2.1 (aQ (tL i.1) (tL i.2.2) i.2.1)))))]) (fun i=>[.ref (aN i.1 (aQ (tL i.1) (tL i.2.2) i.2.1)),.gone])
theorem rV:∀ i j:ByteArray × Nat × ByteArray,(fun (i:ByteArray × Nat × ByteArray)=>([.ref (aN i.1 i.2.1),.d (.one (.str i.2.2))]:List AV)) i=(fun (i:ByteArray × Nat × ByteArray)=>([.ref (aN i.1 i.2.1),.d (.one (.str i.2.2))]:List AV)) j->i=j:=by
 rintro⟨s,a,e⟩ ⟨s',a',e'⟩ h
 simp only[Prod.mk.injEq]
 simpa [ar,T.enc_eq,au,F.enc_eq,av,Tk.enc_eq,aw,Gn.enc_eq,aq,rT,and_assoc] using h
theorem jW :(jV).md=[true,false]:=rfl
theorem jX  (s:ByteArray) (a:Nat) (e:ByteArray):(jV).pre [.ref (aN s a),.d (.one (.str e))]=(a<=s.size/\aa 1000000 s.size):=Spec.of_pre' rV (s,a,e)
theorem Rs  (s:ByteArray) (a:Nat) (e:ByteArray):(jV).res [.ref (aN s a),.d (.one (.str e))]=[.d (.one (.str (bL (sub (tL s) a (aQ (tL s) (tL e) a)))))]:=Spec.of_res rV (s,a,e)
theorem Rt  (s:ByteArray) (a:Nat) (e:ByteArray):(jV).out [.ref (aN s a),.d (.one (.str e))]=[.ref (aN s (aQ (tL s) (tL e) a)),.gone]:=Spec.of_out rV (s,a,e)
theorem dm  (s:ByteArray) (a:Nat) (e:ByteArray) (F:List AV->List AV->Prop):(jV).all [.ref (aN s a),.d (.one (.str e))] F=F [.d (.one (.str (bL (sub (tL s) a (aQ (tL s) (tL e) a)))))] [.ref (aN s (aQ (tL s) (tL e) a)),.gone]:=by rw[Spec.all_fn rfl,Rs,Rt]
theorem jY  (s:ByteArray) (a:Nat) (e:ByteArray):(jV).ne [.ref (aN s a),.d (.one (.str e))]=True:=Spec.ne_fn rfl _
theorem Ru:Sound Tryz.prog 117 jV:=by
 refine aL (GOK.cons Re Rf GOK.nil) Tryz.func117 (c:=Tryz.f117.body.getD .skip) rfl (n:=51) rfl Rj Rk (fun _=>by simp) ?_ ?_
 ·exact rV
 ·rintro⟨s,a,e⟩ ⟨h1,h2⟩
  simp only[aa] at h1 h2
  have hl:=cI s
  have hu:=lA (l:=tL s) (e:=tL e) (a:=a) (by omega)
  rw[hl] at hu
  simp only[Fj,aN,rg,go_sem,seval,Prod.fst]
  repeat' (first|with_reducible assumption|with_reducible refine And.intro ?_ ?_|intro _)
  all_goals first|omega|skip
  refine aS (ι:=Nat) (fun i=>s.size-i) (fun i=>a<=i/\i<=s.size/\aQ (tL s) (tL e) i=aQ (tL s) (tL e) a)
   (fun i=>⟨[(0,.q (.box 51 0)),(1,.q (.c (.str e))),(5,.q (.c (.int .i64 (a:Int))))],[(51,[.c (.str s),.c (.int .i64 (i:Int))])],[]⟩) a ⟨Nat.le_refl _,h1,rfl⟩ (Le.refl _) ?_
  rintro i ⟨g1,g2,g3⟩
  rcases Nat.lt_or_ge i s.size with hlt|hge
  ·obtain⟨c,b1,b2,b3,b4⟩:=eR hlt
   have a1:((i:Int) < (s.size:Int))=True:=eq_true (by omega)
   by_cases hc:(tL e).contains c=true
   ·have a2:(Lib.indexByte (tL e) c < 0)=False:=eq_false (by rw[Fi,hc];simp)
    have a3:=Fl (l:=tL s) (e:=tL e) (a:=i) (.inr ⟨c,_,b4,hc⟩)
    rw[g3] at a3
    simp only[rg,go_sem,seval,Prod.fst,a1,b3,a2,a3,bI,Int.toNat_natCast,wT,wU,rP,rQ,rR]
    repeat' (first|with_reducible assumption|with_reducible refine And.intro ?_ ?_|intro _)
    all_goals first|omega|skip
   ·have hc':(tL e).contains c=false:=by simpa using hc
    have a2:(Lib.indexByte (tL e) c < 0)=True:=eq_true (by rw[Fi,hc'])
    have a3:=Rr (l:=tL s) (e:=tL e) (a:=i) b4 hc'
    simp only[rg,go_sem,seval,Prod.fst,a1,b3,a2,Int.toNat_natCast,wT,wU,rP,rQ,rR]
    repeat' (first|with_reducible assumption|with_reducible refine And.intro ?_ ?_|intro _)
    all_goals first|omega|skip
    exact⟨i+1,⟨by omega,by omega,by rw[<-a3];exact g3⟩,by omega,Le.of_eq (by simp)⟩
  ·have a1:((i:Int) < (s.size:Int))=False:=eq_false (by omega)
   have a3:=Fl (l:=tL s) (e:=tL e) (a:=i) (.inl (by omega))
   rw[g3] at a3
   simp only[rg,go_sem,seval,Prod.fst,a1,a3,bI,Int.toNat_natCast,wT,wU,rP,rQ,rR]
   repeat' (first|with_reducible assumption|with_reducible refine And.intro ?_ ?_|intro _)
   all_goals first|omega|skip
end Go.Proofs.Pw
namespace Go.Proofs.Pw
variable [Globs]
noncomputable def fw (k:Nat):Spec:=Spec.of (ι:=ByteArray × Nat × Int) [true,false] (fun i=>[.ref (aN i.1 i.2.1),.d (.one (.int .i64 i.2.2))]) (fun i=>(i.2.1<=i.1.size/\aa 1000000 i.1.size/\1<=i.2.2/\i.2.2<=7)/\(7-i.2.2).toNat < k) (fun i=>[.d (.agg (rdV (7-i.2.2).toNat (tL i.1) i.2.1).1.enc)]) (fun i=>[.ref (aN i.1 (rdV (7-i.2.2).toNat (tL i.1) i.2.1).2),.gone])
theorem rW:∀ i j:ByteArray × Nat × Int,(fun (i:ByteArray × Nat × Int)=>([.ref (aN i.1 i.2.1),.d (.one (.int .i64 i.2.2))]:List AV)) i=(fun (i:ByteArray × Nat × Int)=>([.ref (aN i.1 i.2.1),.d (.one (.int .i64 i.2.2))]:List AV)) j->i=j:=by
 rintro⟨s,a,n⟩ ⟨s',a',n'⟩ h
 simp only[Prod.mk.injEq]
 simpa [ar,T.enc_eq,au,F.enc_eq,av,Tk.enc_eq,aw,Gn.enc_eq,aq,rT,and_assoc] using h
theorem nd (k:Nat):(fw k).md=[true,false]:=rfl
theorem nf (k:Nat) (s:ByteArray) (a:Nat) (n:Int):(fw k).pre [.ref (aN s a),.d (.one (.int .i64 n))]=((a<=s.size/\aa 1000000 s.size/\1<=n/\n<=7)/\(7-n).toNat < k):=Spec.of_pre' rW (s,a,n)
theorem Rv (k:Nat) (s:ByteArray) (a:Nat) (n:Int):(fw k).res [.ref (aN s a),.d (.one (.int .i64 n))]=[.d (.agg (rdV (7-n).toNat (tL s) a).1.enc)]:=Spec.of_res rW (s,a,n)
theorem Rw (k:Nat) (s:ByteArray) (a:Nat) (n:Int):(fw k).out [.ref (aN s a),.d (.one (.int .i64 n))]=[.ref (aN s (rdV (7-n).toNat (tL s) a).2),.gone]:=Spec.of_out rW (s,a,n)
theorem fx (k:Nat) (s:ByteArray) (a:Nat) (n:Int) (F:List AV->List AV->Prop):(fw k).all [.ref (aN s a),.d (.one (.int .i64 n))] F=F [.d (.agg (rdV (7-n).toNat (tL s) a).1.enc)] [.ref (aN s (rdV (7-n).toNat (tL s) a).2),.gone]:=by rw[Spec.all_fn rfl,Rv,Rw]
theorem ng (k:Nat) (s:ByteArray) (a:Nat) (n:Int):(fw k).ne [.ref (aN s a),.d (.one (.int .i64 n))]=True:=Spec.ne_fn rfl _
theorem fy {l p:List UInt8} {a:Nat} (h:skp l a p=true):clo l a p=a+p.length:=by unfold clo;rw[if_pos h]
theorem bv {l p:List UInt8} {a:Nat} (h:skp l a p=false):clo l a p=a:=by unfold clo;rw[h];rfl
theorem Rx {f:Nat->T × Nat} {l:List UInt8} {c a:Nat} (h:skp l (f a).2 [44]=true):rdL f l (c+1) a=((f a).1::(rdL f l c ((f a).2+1)).1,(rdL f l c ((f a).2+1)).2):=by rw[rdL,if_pos h]
theorem Ry {f:Nat->T × Nat} {l:List UInt8} {c a:Nat} (h:skp l (f a).2 [44]=false):rdL f l (c+1) a=([(f a).1],(f a).2):=by rw[rdL,h];rfl
theorem Rz (f:Nat->T × Nat) (l:List UInt8) (a:Nat):rdL f l 0 a=([],a):=rfl
theorem RA {f:Nat->T × Nat} {l:List UInt8} {c a:Nat} (h:skp l (f (clo l (aQ l [58] a) [58])).2 [44]=true):rdM f l (c+1) a=(bL (sub l a (aQ l [58] a))::(rdM f l c ((f (clo l (aQ l [58] a) [58])).2+1)).1,(f (clo l (aQ l [58] a) [58])).1::(rdM f l c ((f (clo l (aQ l [58] a) [58])).2+1)).2.1,(rdM f l c ((f (clo l (aQ l [58] a) [58])).2+1)).2.2):=by rw[rdM];exact if_pos h
theorem RB {f:Nat->T × Nat} {l:List UInt8} {c a:Nat} (h:skp l (f (clo l (aQ l [58] a) [58])).2 [44]=false):rdM f l (c+1) a=([bL (sub l a (aQ l [58] a))],[(f (clo l (aQ l [58] a) [58])).1],(f (clo l (aQ l [58] a) [58])).2):=by rw[rdM];exact if_neg (by rw[h];simp)
theorem RC (f:Nat->T × Nat) (l:List UInt8) (a:Nat):rdM f l 0 a=([],[],a):=rfl
set_option maxHeartbeats 4000000 in
theorem RD (hE:ei) (k:Nat) (hS:Sound Tryz.prog 100 (fw k)):Sound Tryz.prog 100 (fw (k+1)):=by
 refine aL (GOK.cons (l:=[(117,jV),(83,spAtoi),(100,fw k)]) Ri Rq (GOK.cons (l:=[(83,spAtoi),(100,fw k)]) Rl Ru (GOK.cons (l:=[(100,fw k)]) Fc (Fh hE) (GOK.cons Fk hS GOK.nil)))) Tryz.func100 (c:=Tryz.f100.body.getD .skip) rfl (n:=106) rfl Rm Rn (fun _=>by simp) ?_ ?_
 ·exact rW
 ·rintro⟨s,a,n⟩ ⟨⟨h1,h2,h3,h4⟩,h5⟩
  simp only[aa] at h1 h2 h3 h4 h5
  have hl:=cI s
  have z1:ae []=[]:=rfl
  have z2:ak []=[]:=rfl
  have t1:tL ⟨#[110,117,108,108]⟩=[110,117,108,108]:=rfl
  have t2:tL ⟨#[102,97,108,115,101]⟩=[102,97,108,115,101]:=rfl
  have t3:tL ⟨#[116,114,117,101]⟩=[116,114,117,101]:=rfl
  have t4:tL ⟨#[39]⟩=[39]:=rfl
  have t5:tL ⟨#[91]⟩=[91]:=rfl
  have t6:tL ⟨#[93]⟩=[93]:=rfl
  have t7:tL ⟨#[44]⟩=[44]:=rfl
  have t8:tL ⟨#[123]⟩=[123]:=rfl
  have t9:tL ⟨#[125]⟩=[125]:=rfl
  have t10:tL ⟨#[58]⟩=[58]:=rfl
  have t11:tL ⟨#[44,93,125]⟩=[44,93,125]:=rfl
  have q1:(ByteArray.mk #[110,117,108,108]).size=4:=rfl
  have q2:(ByteArray.mk #[102,97,108,115,101]).size=5:=rfl
  have q3:(ByteArray.mk #[116,114,117,101]).size=4:=rfl
  have q4:(ByteArray.mk #[39]).size=1:=rfl
  have q5:(ByteArray.mk #[91]).size=1:=rfl
  have q6:(ByteArray.mk #[93]).size=1:=rfl
  have q7:(ByteArray.mk #[44]).size=1:=rfl
  have q8:(ByteArray.mk #[123]).size=1:=rfl
  have q9:(ByteArray.mk #[125]).size=1:=rfl
  have q10:(ByteArray.mk #[58]).size=1:=rfl
  by_cases c0:n=7
  ·subst c0
   have b0:((6:Int) < 7)=True:=eq_true (by omega)
   have e:rdV 0 (tL s) a=(T.zero,a):=by rw[rdV]
   simp only[ge,rg,go_sem,seval,Prod.fst,b0,e,T.zero,T.enc,z1,z2]
   repeat' (first|with_reducible assumption|with_reducible refine And.intro ?_ ?_|intro _)
   all_goals first|omega|(unfold aa;omega)|skip
  obtain⟨d,he⟩:∃ d,(7-n).toNat=d+1:=⟨(7-n).toNat-1,by omega⟩
  have he':(7-(n+1)).toNat=d:=by omega
  have b0:((6:Int) < n)=False:=eq_false (by omega)
  generalize hL:tL s=l at *
  have hrd:∀ i,i<=s.size->i<=(rdV d l i).2/\(rdV d l i).2<=s.size:=fun i hi=>by
   have:=rL d l i (by omega)
   exact⟨this.1,by have:=this.2.1;omega⟩
  by_cases c1:skp l a [110,117,108,108]=true
  ·have e:rdV (d+1) l a=(.mk 0 0 ⟨#[]⟩ [] [],a+4):=by rw[rdV,if_pos c1]
   simp only[ge,rg,go_sem,seval,Prod.fst,he,b0,hL,t1,q1,c1,fy c1,e,T.enc,z1,z2,dM,dN,dO,↓bJ,bJ]
   repeat' (first|with_reducible assumption|with_reducible refine And.intro ?_ ?_|intro _)
   all_goals first|omega|(unfold aa;omega)|skip
  have c1:skp l a [110,117,108,108]=false:=by simpa using c1
  by_cases c2:skp l a [102,97,108,115,101]=true
  ·have e:rdV (d+1) l a=(.mk 1 0 ⟨#[]⟩ [] [],a+5):=by rw[rdV,c1,if_neg (by simp),if_pos c2]
   simp only[ge,rg,go_sem,seval,Prod.fst,he,b0,hL,t1,q1,t2,q2,c1,bv c1,c2,fy c2,e,T.enc,z1,z2,dM,dN,dO,↓bJ,bJ]
   repeat' (first|with_reducible assumption|with_reducible refine And.intro ?_ ?_|intro _)
   all_goals first|omega|(unfold aa;omega)|skip
  have c2:skp l a [102,97,108,115,101]=false:=by simpa using c2
  by_cases c3:skp l a [116,114,117,101]=true
  ·have e:rdV (d+1) l a=(.mk 2 0 ⟨#[]⟩ [] [],a+4):=by rw[rdV,c1,if_neg (by simp),c2,if_neg (by simp),if_pos c3]
   simp only[ge,rg,go_sem,seval,Prod.fst,he,b0,hL,t1,q1,t2,q2,t3,q3,c1,bv c1,c2,bv c2,c3,fy c3,e,T.enc,z1,z2,dM,dN,dO,↓bJ,bJ]
   repeat' (first|with_reducible assumption|with_reducible refine And.intro ?_ ?_|intro _)
   all_goals first|omega|(unfold aa;omega)|skip
  have c3:skp l a [116,114,117,101]=false:=by simpa using c3
  by_cases c4:skp l a [39]=true
  ·have e:rdV (d+1) l a=(.mk 4 0 (bL (sub l (a+1) (aQ l [39] (a+1)))) [] [],clo l (aQ l [39] (a+1)) [39]):=by rw[rdV,c1,if_neg (by simp),c2,if_neg (by simp),c3,if_neg (by simp),if_pos c4]
   have k0:=dl c4 (by simp)
   simp only[List.length_cons,List.length_nil] at k0
   have k1:=lA (l:=l) (e:=[39]) (a:=a+1) (by omega)
   simp only[ge,rg,go_sem,seval,Prod.fst,he,b0,hL,t1,q1,t2,q2,t3,q3,t4,q4,c1,bv c1,c2,bv c2,c3,bv c3,c4,fy c4,e,T.enc,z1,z2,List.length_cons,List.length_nil,Nat.zero_add,dM,dN,dO,↓bJ,bJ,jW,jX,jY,↓dm,dm]
   repeat' (first|with_reducible assumption|with_reducible refine And.intro ?_ ?_|intro _)
   all_goals first|omega|(unfold aa;omega)|skip
  have c4:skp l a [39]=false:=by simpa using c4
  by_cases c5:skp l a [91]=true
  ·have k0:=dl c5 (by simp)
   simp only[List.length_cons,List.length_nil] at k0
   by_cases c6:skp l (a+1) [93]=true
   ·have e:rdV (d+1) l a=(.mk 5 0 ⟨#[]⟩ [] [],a+2):=by rw[rdV,c1,if_neg (by simp),c2,if_neg (by simp),c3,if_neg (by simp),c4,if_neg (by simp),if_pos c5,if_pos c6]
    simp only[ge,rg,go_sem,seval,Prod.fst,he,b0,hL,t1,q1,t2,q2,t3,q3,t4,q4,t5,q5,t6,q6,c1,bv c1,c2,bv c2,c3,bv c3,c4,bv c4,c5,fy c5,c6,fy c6,e,T.enc,z1,z2,List.length_cons,List.length_nil,Nat.zero_add,dM,dN,dO,↓bJ,bJ,jW,jX,jY,↓dm,dm]
    repeat' (first|with_reducible assumption|with_reducible refine And.intro ?_ ?_|intro _)
    all_goals first|omega|(unfold aa;omega)|skip
   have c6:skp l (a+1) [93]=false:=by simpa using c6
   have e:rdV (d+1) l a=(.mk 5 0 ⟨#[]⟩ [] (rdL (rdV d l) l 61 (a+1)).1,clo l (rdL (rdV d l) l 61 (a+1)).2 [93]):=by rw[rdV,c1,if_neg (by simp),c2,if_neg (by simp),c3,if_neg (by simp),c4,if_neg (by simp),if_pos c5,c6,if_neg (by simp)]
   simp only[ge,rg,go_sem,seval,Prod.fst,he,b0,hL,t1,q1,t2,q2,t3,q3,t4,q4,t5,q5,t6,q6,c1,bv c1,c2,bv c2,c3,bv c3,c4,bv c4,c5,fy c5,c6,bv c6,List.length_cons,List.length_nil,Nat.zero_add,dM,dN,dO,↓bJ,bJ,jW,jX,jY,↓dm,dm]
   repeat' (first|with_reducible assumption|with_reducible refine And.intro ?_ ?_|intro _)
   all_goals first|omega|(unfold aa;omega)|skip
   refine aS (ι:=List T × Nat) (fun i=>61-i.1.length) (fun i=>i.1.length<=61/\i.2<=s.size/\(rdL (rdV d l) l 61 (a+1)).1=i.1++(rdL (rdV d l) l (61-i.1.length) i.2).1/\(rdL (rdV d l) l 61 (a+1)).2=(rdL (rdV d l) l (61-i.1.length) i.2).2)
    (fun i=>⟨[(0,.q (.box 106 0)),(1,.q (.c (.int .i64 n))),(4,.q (.box 4 0)),(6,.q (.box 6 0))],
     [(106,(aN s i.2).map .c),(4,[.c (.int .i64 0),.c (.int .i64 0),.c (.str ⟨#[]⟩),.z 1,.z 5]),(6,[.c (.int .i64 5),.c (.int .i64 0),.c (.str ⟨#[]⟩),.z 1,.own 53])],
     [(53,5,ak i.1)]⟩) ([],a+1) ⟨by simp,by show a+1<=s.size;omega,rfl,rfl⟩ ?_ ?_
   ·refine (Le.ownB (b:=6) (j:=4) (d:=53) (sz:=5) (qs:=[.c (.int .i64 5),.c (.int .i64 0),.c (.str ⟨#[]⟩),.z 1,.z 5]) (by decide) (by simp) rfl (by simp[Q.killO,aN]) (by simp[PV.map,Q.killO])).trans (Le.sub (by simp[upd,del]) (by simp[upd,del]) (by simp[upd,del,ak]))
   ·rintro⟨acc,i⟩ ⟨g1,g2,g3,g4⟩
    simp only at g1 g2 g3 g4
    have hr:=hrd i g2
    rcases Nat.lt_or_ge acc.length 61 with hlt|hge
    ·have b1:((acc.length:Int)<=60)=True:=eq_true (by omega)
     obtain⟨c,hc⟩:∃ c,61-acc.length=c+1:=⟨60-acc.length,by omega⟩
     rw[hc] at g3 g4
     by_cases c7:skp l (rdV d l i).2 [44]=true
     ·rw[Rx c7] at g3 g4
      have k1:=dl c7 (by simp)
      simp only[List.length_cons,List.length_nil] at k1
      simp only[rg,go_sem,seval,Prod.fst,he',hL,b1,t7,q7,c7,fy c7,bz,T.enc_len,List.length_cons,List.length_nil,Nat.zero_add,dM,dN,dO,↓bJ,bJ,nd,nf,ng,↓fx,fx]
      repeat' (first|with_reducible assumption|with_reducible refine And.intro ?_ ?_|intro _)
      all_goals first|omega|(unfold aa;omega)|skip
      refine⟨(acc++[(rdV d l i).1],(rdV d l i).2+1),⟨by simp;omega,by show (rdV d l i).2+1<=s.size;omega,?_,?_⟩,by simp;omega,Le.sub (by simp) (by simp) (by simp[fo,ak])⟩
      ·have e7:61-(acc++[(rdV d l i).1]).length=c:=by simp;omega
       simp only[e7];rw[g3];simp
      ·have e7:61-(acc++[(rdV d l i).1]).length=c:=by simp;omega
       simp only[e7];exact g4
     ·have c7:skp l (rdV d l i).2 [44]=false:=by simpa using c7
      rw[Ry c7] at g3 g4
      simp only[rg,go_sem,seval,Prod.fst,he',he,hL,e,g3,g4,b1,t6,q6,t7,q7,c7,bv c7,T.enc,z1,z2,fo,ak,bz,T.enc_len,List.length_cons,List.length_nil,Nat.zero_add,dM,dN,dO,↓bJ,bJ,nd,nf,ng,↓fx,fx]
      repeat' (first|with_reducible assumption|with_reducible refine And.intro ?_ ?_|intro _)
      all_goals first|omega|(unfold aa;omega)|skip
    ·have b1:((acc.length:Int)<=60)=False:=eq_false (by omega)
     have hc:61-acc.length=0:=by omega
     rw[hc] at g3 g4
     rw[Rz] at g3 g4
     simp only[List.append_nil] at g3 g4
     simp only[rg,go_sem,seval,Prod.fst,he',he,hL,e,g3,g4,b1,t6,q6,T.enc,z1,z2,bz,T.enc_len,List.length_cons,List.length_nil,Nat.zero_add,dM,dN,dO,↓bJ,bJ,nd,nf,ng,↓fx,fx]
     repeat' (first|with_reducible assumption|with_reducible refine And.intro ?_ ?_|intro _)
     all_goals first|omega|(unfold aa;omega)|skip
  have c5:skp l a [91]=false:=by simpa using c5
  by_cases c8:skp l a [123]=true
  ·have k0:=dl c8 (by simp)
   simp only[List.length_cons,List.length_nil] at k0
   by_cases c6:skp l (a+1) [125]=true
   ·have e:rdV (d+1) l a=(.mk 6 0 ⟨#[]⟩ [] [],a+2):=by rw[rdV,c1,if_neg (by simp),c2,if_neg (by simp),c3,if_neg (by simp),c4,if_neg (by simp),c5,if_neg (by simp),if_pos c8,if_pos c6]
    simp only[ge,rg,go_sem,seval,Prod.fst,he,b0,hL,t1,q1,t2,q2,t3,q3,t4,q4,t5,q5,t8,q8,t9,q9,c1,bv c1,c2,bv c2,c3,bv c3,c4,bv c4,c5,bv c5,c8,fy c8,c6,fy c6,e,T.enc,z1,z2,List.length_cons,List.length_nil,Nat.zero_add,dM,dN,dO,↓bJ,bJ,jW,jX,jY,↓dm,dm]
    repeat' (first|with_reducible assumption|with_reducible refine And.intro ?_ ?_|intro _)
    all_goals first|omega|(unfold aa;omega)|skip
   have c6:skp l (a+1) [125]=false:=by simpa using c6
   have e:rdV (d+1) l a=(.mk 6 0 ⟨#[]⟩ (rdM (rdV d l) l 61 (a+1)).1 (rdM (rdV d l) l 61 (a+1)).2.1,clo l (rdM (rdV d l) l 61 (a+1)).2.2 [125]):=by rw[rdV,c1,if_neg (by simp),c2,if_neg (by simp),c3,if_neg (by simp),c4,if_neg (by simp),c5,if_neg (by simp),if_pos c8,c6,if_neg (by simp)]
   simp only[ge,rg,go_sem,seval,Prod.fst,he,b0,hL,t1,q1,t2,q2,t3,q3,t4,q4,t5,q5,t8,q8,t9,q9,c1,bv c1,c2,bv c2,c3,bv c3,c4,bv c4,c5,bv c5,c8,fy c8,c6,bv c6,List.length_cons,List.length_nil,Nat.zero_add,dM,dN,dO,↓bJ,bJ,jW,jX,jY,↓dm,dm]
   repeat' (first|with_reducible assumption|with_reducible refine And.intro ?_ ?_|intro _)
   all_goals first|omega|(unfold aa;omega)|skip
   refine aS (ι:=List ByteArray × List T × Nat) (fun i=>61-i.2.1.length) (fun i=>i.2.1.length<=61/\i.1.length=i.2.1.length/\i.2.2<=s.size/\(rdM (rdV d l) l 61 (a+1)).1=i.1++(rdM (rdV d l) l (61-i.2.1.length) i.2.2).1/\(rdM (rdV d l) l 61 (a+1)).2.1=i.2.1++(rdM (rdV d l) l (61-i.2.1.length) i.2.2).2.1/\(rdM (rdV d l) l 61 (a+1)).2.2=(rdM (rdV d l) l (61-i.2.1.length) i.2.2).2.2)
    (fun i=>⟨[(0,.q (.box 106 0)),(1,.q (.c (.int .i64 n))),(4,.q (.box 4 0)),(7,.q (.box 7 0))],
     [(106,(aN s i.2.2).map .c),(4,[.c (.int .i64 0),.c (.int .i64 0),.c (.str ⟨#[]⟩),.z 1,.z 5]),(7,[.c (.int .i64 6),.c (.int .i64 0),.c (.str ⟨#[]⟩),.own 79,.own 90])],
     [(79,1,ae i.1),(90,5,ak i.2.1)]⟩) ([],[],a+1) ⟨by simp,rfl,by show a+1<=s.size;omega,rfl,rfl,rfl⟩ ?_ ?_
   ·refine (Le.ownB (b:=7) (j:=3) (d:=79) (sz:=1) (qs:=[.c (.int .i64 6),.c (.int .i64 0),.c (.str ⟨#[]⟩),.z 1,.z 5]) (by decide) (by simp) rfl (by simp[Q.killO,aN]) (by simp[PV.map,Q.killO])).trans
     ((Le.ownB (b:=7) (j:=4) (d:=90) (sz:=5) (qs:=[.c (.int .i64 6),.c (.int .i64 0),.c (.str ⟨#[]⟩),.own 79,.z 5]) (by decide) (by simp[upd]) rfl (by simp[upd,del,Q.killO,aN]) (by simp[PV.map,Q.killO])).trans (Le.sub (by simp[upd,del]) (by simp[upd,del]) (by simp[upd,del,ae,ak])))
   ·rintro⟨ks,acc,i⟩ ⟨g1,g0,g2,g3,g5,g4⟩
    simp only at g0 g1 g2 g3 g4 g5
    have hu:=lA (l:=l) (e:=[58]) (a:=i) (by omega)
    have hw:=pr (l:=l) (p:=[58]) (a:=aQ l [58] i) hu.2 (by simp)
    have hr:=hrd (clo l (aQ l [58] i) [58]) (by omega)
    rcases Nat.lt_or_ge acc.length 61 with hlt|hge
    ·have b1:((acc.length:Int)<=60)=True:=eq_true (by omega)
     obtain⟨c,hc⟩:∃ c,61-acc.length=c+1:=⟨60-acc.length,by omega⟩
     rw[hc] at g3 g4 g5
     by_cases c7:skp l (rdV d l (clo l (aQ l [58] i) [58])).2 [44]=true
     ·rw[RA c7] at g3 g4 g5
      have k1:=dl c7 (by simp)
      simp only[List.length_cons,List.length_nil] at k1
      simp only[rg,go_sem,seval,Prod.fst,he',hL,b1,t7,q7,t10,q10,c7,fy c7,bz,aT,T.enc_len,List.length_cons,List.length_nil,Nat.zero_add,dM,dN,dO,↓bJ,bJ,jW,jX,jY,↓dm,dm,nd,nf,ng,↓fx,fx]
      repeat' (first|with_reducible assumption|with_reducible refine And.intro ?_ ?_|intro _)
      all_goals first|omega|(unfold aa;omega)|skip
      have e7:∀ x:T,61-(acc++[x]).length=c:=fun x=>by simp;omega
      refine⟨(ks++[bL (sub l i (aQ l [58] i))],acc++[(rdV d l (clo l (aQ l [58] i) [58])).1],(rdV d l (clo l (aQ l [58] i) [58])).2+1),⟨by simp;omega,by simp;omega,by show (rdV d l (clo l (aQ l [58] i) [58])).2+1<=s.size;omega,?_,?_,?_⟩,by simp;omega,Le.sub (by simp) (by simp) (by simp[fo,ak,iA,ae])⟩
      ·simp only[e7];rw[g3];simp
      ·simp only[e7];rw[g5];simp
      ·simp only[e7];exact g4
     ·have c7:skp l (rdV d l (clo l (aQ l [58] i) [58])).2 [44]=false:=by simpa using c7
      rw[RB c7] at g3 g4 g5
      simp only[rg,go_sem,seval,Prod.fst,he',he,hL,e,g3,g4,g5,b1,t7,q7,t9,q9,t10,q10,c7,bv c7,T.enc,z1,z2,fo,ak,iA,bz,aT,T.enc_len,List.length_cons,List.length_nil,Nat.zero_add,dM,dN,dO,↓bJ,bJ,jW,jX,jY,↓dm,dm,nd,nf,ng,↓fx,fx]
      repeat' (first|with_reducible assumption|with_reducible refine And.intro ?_ ?_|intro _)
      all_goals first|omega|(unfold aa;omega)|skip
      all_goals simp[ae]
    ·have b1:((acc.length:Int)<=60)=False:=eq_false (by omega)
     have hc:61-acc.length=0:=by omega
     rw[hc] at g3 g4 g5
     rw[RC] at g3 g4 g5
     simp only[List.append_nil] at g3 g4 g5
     simp only[rg,go_sem,seval,Prod.fst,he',he,hL,e,g3,g4,g5,b1,t9,q9,T.enc,z1,z2,bz,T.enc_len,List.length_cons,List.length_nil,Nat.zero_add,dM,dN,dO,↓bJ,bJ,nd,nf,ng,↓fx,fx]
     repeat' (first|with_reducible assumption|with_reducible refine And.intro ?_ ?_|intro _)
     all_goals first|omega|(unfold aa;omega)|skip
  have c8:skp l a [123]=false:=by simpa using c8
  have e:rdV (d+1) l a=(.mk 3 (eg (sub l a (aQ l [44,93,125] a))) ⟨#[]⟩ [] [],aQ l [44,93,125] a):=by rw[rdV,c1,if_neg (by simp),c2,if_neg (by simp),c3,if_neg (by simp),c4,if_neg (by simp),c5,if_neg (by simp),c8,if_neg (by simp)]
  have k1:=lA (l:=l) (e:=[44,93,125]) (a:=a) (by omega)
  have k2:=iK (l:=l) (a:=a) k1.2
  simp only[ge,rg,go_sem,seval,Prod.fst,he,b0,hL,t1,q1,t2,q2,t3,q3,t4,q4,t5,q5,t8,q8,t11,c1,bv c1,c2,bv c2,c3,bv c3,c4,bv c4,c5,bv c5,c8,bv c8,e,T.enc,z1,z2,de,bM,aa,List.length_cons,List.length_nil,Nat.zero_add,dM,dN,dO,↓bJ,bJ,jW,jX,jY,↓dm,dm,Ff,Fg,wW,wX,wY]
  repeat' (first|with_reducible assumption|with_reducible refine And.intro ?_ ?_|intro _)
  all_goals first|omega|(unfold aa;omega)|skip
theorem RE (hE:ei) (k:Nat):Sound Tryz.prog 100 (fw k):=by
 induction k with
 | zero=>exact Sound.none
 | succ k ih=>exact RD hE k ih
noncomputable def lD :Spec:=Spec.of (ι:=ByteArray × Nat × Int) [true,false] (fun i=>[.ref (aN i.1 i.2.1),.d (.one (.int .i64 i.2.2))]) (fun i=>i.2.1<=i.1.size/\aa 1000000 i.1.size/\1<=i.2.2/\i.2.2<=7) (fun i=>[.d (.agg (rdV (7-i.2.2).toNat (tL i.1) i.2.1).1.enc)]) (fun i=>[.ref (aN i.1 (rdV (7-i.2.2).toNat (tL i.1) i.2.1).2),.gone])
theorem xa:∀ i j:ByteArray × Nat × Int,(fun (i:ByteArray × Nat × Int)=>([.ref (aN i.1 i.2.1),.d (.one (.int .i64 i.2.2))]:List AV)) i=(fun (i:ByteArray × Nat × Int)=>([.ref (aN i.1 i.2.1),.d (.one (.int .i64 i.2.2))]:List AV)) j->i=j:=by
 rintro⟨s,a,n⟩ ⟨s',a',n'⟩ h
 simp only[Prod.mk.injEq]
 simpa [ar,T.enc_eq,au,F.enc_eq,av,Tk.enc_eq,aw,Gn.enc_eq,aq,rT,and_assoc] using h
theorem Fm :(lD).md=[true,false]:=rfl
theorem Fn  (s:ByteArray) (a:Nat) (n:Int):(lD).pre [.ref (aN s a),.d (.one (.int .i64 n))]=(a<=s.size/\aa 1000000 s.size/\1<=n/\n<=7):=Spec.of_pre' xa (s,a,n)
theorem RF  (s:ByteArray) (a:Nat) (n:Int):(lD).res [.ref (aN s a),.d (.one (.int .i64 n))]=[.d (.agg (rdV (7-n).toNat (tL s) a).1.enc)]:=Spec.of_res xa (s,a,n)
theorem RG  (s:ByteArray) (a:Nat) (n:Int):(lD).out [.ref (aN s a),.d (.one (.int .i64 n))]=[.ref (aN s (rdV (7-n).toNat (tL s) a).2),.gone]:=Spec.of_out xa (s,a,n)
theorem rX  (s:ByteArray) (a:Nat) (n:Int) (F:List AV->List AV->Prop):(lD).all [.ref (aN s a),.d (.one (.int .i64 n))] F=F [.d (.agg (rdV (7-n).toNat (tL s) a).1.enc)] [.ref (aN s (rdV (7-n).toNat (tL s) a).2),.gone]:=by rw[Spec.all_fn rfl,RF,RG]
theorem Fo  (s:ByteArray) (a:Nat) (n:Int):(lD).ne [.ref (aN s a),.d (.one (.int .i64 n))]=True:=Spec.ne_fn rfl _
theorem RH (hE:ei):Sound Tryz.prog 100 lD:=Sound.all (μ:=fun i=>(7-i.2.2).toNat) (RE hE)
end Go.Proofs.Pw
