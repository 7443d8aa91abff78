/- What the reference's reader of trees does, as a function: it reads a text just if it is a tree's. -/
import Derived.Test.YtcligmgalcidpaaGreatDoorPwT14
import Derived.Lib.AtoiErrMem
import Derived.Test.YtcligmgalcidpaaGreatDoorPwT10
set_option linter.unusedSimpArgs false
set_option linter.unusedVariables false
set_option linter.unusedSectionVars false
set_option maxRecDepth 20000
namespace Go.Proofs.Pw
def bR (c:UInt8):Bool:=decide (97<=c.toNat/\c.toNat<=122)
def eN (c:UInt8):Bool:=decide (48<=c.toNat/\c.toNat<=57)
def cj (p:UInt8->Bool) (l:List UInt8) (a:Nat):Nat:=a+((l.drop a).takeWhile p).length
def atB (l:List UInt8) (a:Nat) (c:UInt8):Bool:=l[a]? == some c
def qy (neg:Bool) (m:List UInt8):Prop:=m≠[]/\m.length<=17/\¬ (m.head?=some 48/\(1 < m.length\/neg=true))/\∀ b ∈ m,eN b=true
noncomputable instance (neg:Bool) (m:List UInt8):Decidable (qy neg m):=Classical.propDecidable _
noncomputable def gf (s:List UInt8):Option Int :=
 if s.head?=some 45 then (if qy true s.tail then some (-(dv s.tail:Int)) else none) else (if qy false s then some (dv s:Int) else none)
def mc (l:List UInt8) (a:Nat):Nat:=cj eN l (if atB l a 45 then a+1 else a)
noncomputable def psN (l:List UInt8) (a:Nat):T × Int:=match gf (sub l a (mc l a)) with
 | some n=>(.mk 3 n ⟨#[]⟩ [] [],(mc l a:Int))
 | none=>(T.zero,-1)
def psW (l:List UInt8) (a:Nat):T × Int :=
 if sub l a (cj bR l a)=[110,117,108,108] then (T.zero,(cj bR l a:Int))
 else if sub l a (cj bR l a)=[102,97,108,115,101] then (.mk 1 0 ⟨#[]⟩ [] [],(cj bR l a:Int))
 else if sub l a (cj bR l a)=[116,114,117,101] then (.mk 2 0 ⟨#[]⟩ [] [],(cj bR l a:Int))
 else (T.zero,-1)
def psL (f:Nat->T × Int) (l:List UInt8):Nat->Nat->List T × Int
 | 0,_=>([],-1)
 | c+1,a =>
   if (f a).2 < 0 then ([],-1)
   else if atB l (f a).2.toNat 93 then ([(f a).1],(f a).2+1)
   else if atB l (f a).2.toNat 44 then ((f a).1::(psL f l c ((f a).2.toNat+1)).1,(psL f l c ((f a).2.toNat+1)).2)
   else ([(f a).1],-1)
def psM (f:Nat->T × Int) (l:List UInt8):Nat->Nat->List ByteArray × List T × Int
 | 0,_=>([],[],-1)
 | c+1,a =>
   if atB l (cj bR l a) 58 then
    (let k:=bL (sub l a (cj bR l a))
    let r:=f (cj bR l a+1)
    if r.2 < 0 then ([k],[],-1)
    else if atB l r.2.toNat 125 then ([k],[r.1],r.2+1)
    else if atB l r.2.toNat 44 then (k::(psM f l c (r.2.toNat+1)).1,r.1::(psM f l c (r.2.toNat+1)).2.1,(psM f l c (r.2.toNat+1)).2.2)
    else ([k],[r.1],-1))
   else ([],[],-1)
noncomputable def psV:Nat->List UInt8->Nat->T × Int
 | 0,_,_=>(T.zero,-1)
 | d+1,l,a =>
   if l.length<=a then (T.zero,-1)
   else if atB l a 91 then
    if atB l (a+1) 93 then (.mk 5 0 ⟨#[]⟩ [] [],(a:Int)+2)
    else (.mk 5 0 ⟨#[]⟩ [] (psL (psV d l) l 61 (a+1)).1,(psL (psV d l) l 61 (a+1)).2)
   else if atB l a 123 then
    if atB l (a+1) 125 then (.mk 6 0 ⟨#[]⟩ [] [],(a:Int)+2)
    else (.mk 6 0 ⟨#[]⟩ (psM (psV d l) l 61 (a+1)).1 (psM (psV d l) l 61 (a+1)).2.1,(psM (psV d l) l 61 (a+1)).2.2)
   else if atB l a 39 then
    if atB l (cj bR l (a+1)) 39 then (.mk 4 0 (bL (sub l (a+1) (cj bR l (a+1)))) [] [],(cj bR l (a+1):Int)+1) else (T.zero,-1)
   else if bR (l.getD a 0) then psW l a
   else psN l a
theorem eO {l r:List UInt8} {a:Nat} {c:UInt8} (h:l.drop a=c::r):atB l a c=true:=by
 have h1:l[a]?=some c:=by
  have:=congrArg (fun x=>x[0]?) h
  simpa using this
 unfold atB;rw[h1];simp
theorem dz {l r:List UInt8} {a:Nat} {c b:UInt8} (h:l.drop a=c::r) (hne:c≠b):atB l a b=false:=by
 have h1:l[a]?=some c:=by
  have:=congrArg (fun x=>x[0]?) h
  simpa using this
 unfold atB;rw[h1];simpa using hne
theorem CO {P:List UInt8->Prop} (h0:P []) (hs:∀ m c,P m->P (m++[c])) (m:List UInt8):P m:=by
 rw[<-List.reverse_reverse m]
 induction m.reverse with
 | nil=>exact h0
 | cons c r ih=>rw[List.reverse_cons];exact hs _ _ ih
theorem Oc:∀ (m:List UInt8),(∀ b ∈ m,eN b=true)->dv m < 10 ^ m.length:=by
 refine CO (fun _=>by simp[dv]) (fun m c ih=>?_)
 ·intro h
  have h1:=ih (fun b hb=>h b (by simp[hb]))
  have h2:=h c (by simp)
  unfold eN at h2
  simp only[decide_eq_true_eq] at h2
  rw[uO,List.length_append,List.length_singleton,Nat.pow_succ]
  omega
theorem CP {neg:Bool} {m:List UInt8} (h:qy neg m):dv m < 100000000000000000:=by
 obtain⟨_,h2,_,h4⟩:=h
 have h1:=Oc m h4
 have:10 ^ m.length<=10 ^ 17:=Nat.pow_le_pow_right (by omega) h2
 omega
theorem Od {s:List UInt8} {n:Int} (h:gf s=some n):-100000000000000000 < n/\n < 100000000000000000:=by
 unfold gf at h
 split at h
 ·split at h
  ·rename_i c
   have:=CP c
   cases h;omega
  ·cases h
 ·split at h
  ·rename_i c
   have:=CP c
   cases h;omega
  ·cases h
theorem zero_fit (B:Int) (hB:0<=B):T.zero.fit B:=hJ (by unfold i64;omega) (by unfold i64;omega) (by show ((0:Nat):Int)<=_;omega) hB
end Go.Proofs.Pw
namespace Go.Proofs.Pw
theorem Oe (p:UInt8->Bool) (l:List UInt8) (a:Nat):sub l a (cj p l a)=(l.drop a).takeWhile p:=by
 unfold sub cj
 rw[Nat.add_sub_cancel_left]
 exact (List.prefix_iff_eq_take.1 (List.takeWhile_prefix p)).symm
theorem CQ (m:List UInt8):m≠[]->(∀ b ∈ m,eN b=true)->¬ (m.head?=some 48/\1 < m.length)->Lib.decDigits (dv m)=m:=by
 refine CO (P:=fun m=>m≠[]->(∀ b ∈ m,eN b=true)->¬ (m.head?=some 48/\1 < m.length)->Lib.decDigits (dv m)=m) (fun h=>absurd rfl h) (fun m c ih=>?_) m
 ·intro _ h hh
  have h2:=h c (by simp)
  unfold eN at h2
  simp only[decide_eq_true_eq] at h2
  have hc:UInt8.ofNat (48+(c.toNat-48))=c:=by
   rw[show 48+(c.toNat-48)=c.toNat by omega];simp
  cases m with
  | nil =>
    have e:dv ([]++[c])=c.toNat-48:=by simp[dv]
    rw[e,Lib.decDigits,dif_pos (by omega),hc];rfl
  | cons b m =>
    have h3:b≠48:=fun e=>hh ⟨by rw[e];rfl,by simp⟩
    have h4:=ih (by simp) (fun x hx=>h x (by simp only[List.mem_append];exact .inl hx)) (fun k=>h3 (by simpa using k.1))
    have h5:dv (b::m)≠0:=fun e=>by
     rw[e,Lib.decDigits,dif_pos (by omega)] at h4
     simp only[List.cons.injEq] at h4
     exact h3 h4.1.symm
    rw[uO,Lib.decDigits,dif_neg (by omega),show (dv (b::m)*10+(c.toNat-48)) / 10=dv (b::m) by omega,h4,show (dv (b::m)*10+(c.toNat-48)) % 10=c.toNat-48 by omega,hc]
theorem Og {s:List UInt8} {n:Int} (h:gf s=some n):Lib.itoa n=s:=by
 unfold gf at h
 split at h
 ·rename_i h0
  split at h
  ·rename_i c
   cases h
   obtain⟨c1,c2,c3,c4⟩:=c
   have c5:s.tail.head?≠some 48:=fun e=>c3 ⟨e,.inr rfl⟩
   have h4:=CQ s.tail c1 c4 (fun k=>c5 k.1)
   have h5:dv s.tail≠0:=fun e=>by
    rw[e,Lib.decDigits,dif_pos (by omega)] at h4
    exact c5 (by rw[<-h4];rfl)
   have hs:s=45::s.tail:=by
    cases s with
    | nil=>simp at h0
    | cons x s=>simp at h0;rw[h0];rfl
   unfold Lib.itoa
   rw[if_pos (by omega),show (-(dv s.tail:Int)).natAbs=dv s.tail by omega,h4]
   exact hs.symm
  ·cases h
 ·split at h
  ·rename_i c
   cases h
   obtain⟨c1,c2,c3,c4⟩:=c
   have h4:=CQ s c1 c4 (fun k=>c3 ⟨k.1,.inl k.2⟩)
   unfold Lib.itoa
   rw[if_neg (by omega)]
   simpa using h4
  ·cases h
theorem CR (u:Nat):(Lib.decDigits u).head?=some 48->u=0:=by
 induction u using Nat.strongRecOn with
 | _ u ih =>
   intro h
   by_cases c:u < 10
   ·rw[Lib.decDigits,dif_pos c] at h
    have:=kd c
    simp only[List.head?_cons,Option.some.injEq] at h
    rw[h] at this
    have e:(48:UInt8).toNat=48:=rfl
    omega
   ·rw[Lib.decDigits,dif_neg c] at h
    obtain⟨x,r,e⟩:=List.exists_cons_of_ne_nil (ke (u / 10))
    have:=ih (u / 10) (by omega) (by rw[e] at h ⊢;simpa using h)
    omega
theorem CS:∀ (k u:Nat),u < 10 ^ (k+1)->(Lib.decDigits u).length<=k+1
 | 0,u,h=>by rw[Lib.decDigits,dif_pos (by simpa using h)];simp
 | k+1,u,h=>by
   by_cases c:u < 10
   ·rw[Lib.decDigits,dif_pos c];simp
   ·rw[Lib.decDigits,dif_neg c]
    have:=CS k (u / 10) (by rw[Nat.pow_succ] at h;omega)
    simp only[List.length_append,List.length_singleton];omega
theorem CT {n:Int} (h0:-1000000<=n) (h1:n<=1000000):gf (Lib.itoa n)=some n:=by
 have hl:∀ u:Nat,u<=1000000->(Lib.decDigits u).length<=17:=fun u hu=>by
  have:=CS 6 u (by omega)
  omega
 have hd:∀ u b,b ∈ Lib.decDigits u->eN b=true:=fun u b hb=>by
  unfold eN;simpa using iY u b hb
 unfold gf Lib.itoa
 by_cases c:n < 0
 ·rw[if_pos c,List.head?_cons,if_pos rfl,List.tail_cons,if_pos ⟨ke _,hl _ (by omega),fun k=>by have:=CR _ k.1;omega,hd _⟩,qr]
  congr 1;omega
 ·have h45:¬ (Lib.decDigits n.toNat).head?=some 45:=fun e=>by
   have h2:(45:UInt8) ∈ Lib.decDigits n.toNat:=List.mem_of_head? e
   have:=iY _ _ h2
   revert this;decide
  have hz:¬ ((Lib.decDigits n.toNat).head?=some 48/\(1 < (Lib.decDigits n.toNat).length\/false=true)):=fun k=>by
   have:=CR _ k.1
   rw[this] at k
   rcases k.2 with h|h
   ·rw[Lib.decDigits,dif_pos (by omega)] at h;simp at h
   ·cases h
  rw[if_neg c,if_neg h45,if_pos ⟨ke _,hl _ (by omega),hz,hd _⟩,qr]
  congr 1;omega
def eats (l:List UInt8) (a:Nat) (w:List UInt8) (q:Int):Prop:=(∃ y,l.drop a=w++y)/\q=a+w.length
theorem eats.rest {l w:List UInt8} {a:Nat} {q:Int} (h:eats l a w q):l.drop a=w++l.drop q.toNat:=by
 obtain⟨⟨y,h1⟩,h2⟩:=h
 rw[h1,show q.toNat=a+w.length by omega,bP h1]
end Go.Proofs.Pw
namespace Go.Proofs.Pw
open Go.RowKit
variable [Globs]
theorem CU:aw Tryz.prog 83=true:=by kernel_rfl
theorem CV:aw Tryz.prog 80=true:=by kernel_rfl
theorem Oh:aw Tryz.prog 141=true:=by kernel_rfl
def dR [Globs]:Prop:=(4,C.ifc) ∈ Globs.G/\(5,C.ifc) ∈ Globs.G
theorem Sound.mono {P:Program} {f:FuncId} {sp sp':Spec} (h:Sound P f sp) (hm:∀ args,sp'.pre args->sp.pre args/\∀ r o,sp.may args r o->sp'.may args r o):Sound P f sp' :=
 fun args hp w S vs fps hG hS hF ha hA=>(h args (hm args hp).1 w S vs fps hG hS hF ha hA).mono (fun _ _ ⟨r,o,h1,h2⟩=>⟨r,o,(hm args hp).2 r o h1,h2⟩)
theorem uT {S:Nat->Prop}:∀ {l:List (Nat->Prop)},(∀ p ∈ l,∀ g,¬ p g)->Apart S l
 | [],_=>trivial
 | p::l,h=>⟨fun g hg=>absurd hg (h p (by simp) g),fun g hg=>absurd hg (h p (by simp) g),uT (fun q hq=>h q (by simp[hq]))⟩
theorem qz {w w':World} {S:Nat->Prop} {X:Nat->Prop} {r:List AV} {v:Value} {rfs fps:List (Nat->Prop)} {vs:List Value} {o:List AV} (hr:RepR w' S r v rfs) (he:∀ p ∈ rfs++fps,∀ g,¬ p g) (ho:All3 (RepA w' S) o vs fps)
 (hS:∀ g,S g->g < w.heap.size) (hb:Below w.heap.size w w'):∃ v' S' rfs fps',Ending.returned v=.returned v'/\RepR w' S' r v' rfs/\All3 (RepA w' S') o vs fps' /\
  (∀ g,S' g->S g\/w.heap.size<=g\/X g)/\(∀ g,S' g->g < w'.heap.size) /\
  Apart S' (rfs++fps')/\(∀ g,Any (rfs++fps') g->(w.heap.size<=g\/X g)/\g < w'.heap.size)/\Fr X w.heap.size w w' :=
 ⟨v,S,rfs,fps,rfl,hr,ho,fun g hg=>.inl hg,fun g hg=>Nat.lt_of_lt_of_le (hS g hg) hb.size,uT he,fun g ⟨p,hp,hg⟩=>absurd hg (he p hp g),Fr.below X hb⟩
noncomputable def me :Spec:=Spec.of (ι:=ByteArray × ByteArray) [false,false] (fun i=>[.d (.one (.str i.1)),.d (.one (.str i.2))]) (fun _=>True) (fun i=>[.d (.one (.bool ((tL i.2).isPrefixOf (tL i.1))))]) (fun _=>[.gone,.gone])
theorem uU:∀ i j:ByteArray × ByteArray,(fun (i:ByteArray × ByteArray)=>([.d (.one (.str i.1)),.d (.one (.str i.2))]:List AV)) i=(fun (i:ByteArray × ByteArray)=>([.d (.one (.str i.1)),.d (.one (.str i.2))]:List AV)) j->i=j:=by
 rintro⟨s,p⟩ ⟨s',p'⟩ h
 simp only[Prod.mk.injEq]
 simpa [ap,T.enc_eq,aq,F.enc_eq,ar,Tk.enc_eq,au,Gn.enc_eq,ao] using h
theorem hO :(me).md=[false,false]:=rfl
theorem hU  (s:ByteArray) (p:ByteArray):(me).pre [.d (.one (.str s)),.d (.one (.str p))]=(True):=Spec.of_pre' uU (s,p)
theorem gj :(me).alts=none:=rfl
theorem gk  (s:ByteArray) (p:ByteArray):(me).res [.d (.one (.str s)),.d (.one (.str p))]=[.d (.one (.bool ((tL p).isPrefixOf (tL s))))]:=Spec.of_res uU (s,p)
theorem gn  (s:ByteArray) (p:ByteArray):(me).out [.d (.one (.str s)),.d (.one (.str p))]=[.gone,.gone]:=Spec.of_out uU (s,p)
theorem CW:Sound Tryz.prog 80 me:=by
 rintro args ⟨⟨s,p⟩,rfl,_⟩ w S vs fps hG hS hF ha hA
 cases hA with
 | cons h1 h2 =>
   cases h2 with
   | cons h2 h3 =>
     cases h3
     obtain⟨hr1,hf1⟩:=h1
     obtain⟨hr2,hf2⟩:=h2
     cases hr1
     cases hr2
     refine (Tryz.strings_HasPrefix s p w).mono ?_
     rintro e w' ⟨rfl,rfl⟩
     refine⟨_,_,(Spec.may_none gj).2 ⟨(gk s p).symm,(gn s p).symm⟩,qz (rfs:=[fun _=>False]) ⟨.bool _,fun _ h=>h⟩ ?_ (.cons hf1 (.cons hf2 .nil)) hS (Below.refl _ _)⟩
     simp only[List.cons_append,List.nil_append,List.mem_cons,List.not_mem_nil,or_false]
     rintro q (rfl|rfl|rfl) g
     ·exact id
     ·exact hf1 g
     ·exact hf2 g
noncomputable def mf :Spec:=Spec.of (ι:=ByteArray × Int) [false,false] (fun i=>[.d (.one (.str i.1)),.d (.one (.int .u8 i.2))]) (fun _=>True) (fun i=>[.d (.one (.int .i64 (Lib.indexByte (tL i.1) i.2.toNat.toUInt8)))]) (fun _=>[.gone,.gone])
theorem uV:∀ i j:ByteArray × Int,(fun (i:ByteArray × Int)=>([.d (.one (.str i.1)),.d (.one (.int .u8 i.2))]:List AV)) i=(fun (i:ByteArray × Int)=>([.d (.one (.str i.1)),.d (.one (.int .u8 i.2))]:List AV)) j->i=j:=by
 rintro⟨s,c⟩ ⟨s',c'⟩ h
 simp only[Prod.mk.injEq]
 simpa [ap,T.enc_eq,aq,F.enc_eq,ar,Tk.enc_eq,au,Gn.enc_eq,ao] using h
theorem uW :(mf).md=[false,false]:=rfl
theorem uX  (s:ByteArray) (c:Int):(mf).pre [.d (.one (.str s)),.d (.one (.int .u8 c))]=(True):=Spec.of_pre' uV (s,c)
theorem qA :(mf).alts=none:=rfl
theorem qB  (s:ByteArray) (c:Int):(mf).res [.d (.one (.str s)),.d (.one (.int .u8 c))]=[.d (.one (.int .i64 (Lib.indexByte (tL s) c.toNat.toUInt8)))]:=Spec.of_res uV (s,c)
theorem qC  (s:ByteArray) (c:Int):(mf).out [.d (.one (.str s)),.d (.one (.int .u8 c))]=[.gone,.gone]:=Spec.of_out uV (s,c)
theorem Oi:Sound Tryz.prog 141 mf:=by
 rintro args ⟨⟨s,c⟩,rfl,_⟩ w S vs fps hG hS hF ha hA
 cases hA with
 | cons h1 h2 =>
   cases h2 with
   | cons h2 h3 =>
     cases h3
     obtain⟨hr1,hf1⟩:=h1
     obtain⟨hr2,hf2⟩:=h2
     cases hr1
     cases hr2
     refine (Tryz.strings_IndexByte s c w).mono ?_
     rintro e w' ⟨rfl,rfl⟩
     refine⟨_,_,(Spec.may_none qA).2 ⟨(qB s c).symm,(qC s c).symm⟩,qz (rfs:=[fun _=>False]) ⟨.int _ _,fun _ h=>h⟩ ?_ (.cons hf1 (.cons hf2 .nil)) hS (Below.refl _ _)⟩
     simp only[List.cons_append,List.nil_append,List.mem_cons,List.not_mem_nil,or_false]
     rintro q (rfl|rfl|rfl) g
     ·exact id
     ·exact hf1 g
     ·exact hf2 g
noncomputable def spAtoi :Spec:=Spec.of (ι:=ByteArray) [false] (fun i=>[.d (.one (.str i))]) (fun i=>ab 140737488355328 i.size) (fun i=>[.d (.one (.int .i64 (dQ (tL i)))),.d (.one .jk)]) (fun _=>[.gone])
theorem uY:∀ i j:ByteArray,(fun (i:ByteArray)=>([.d (.one (.str i))]:List AV)) i=(fun (i:ByteArray)=>([.d (.one (.str i))]:List AV)) j->i=j:=by
 intro s s' h
 simpa [ap,T.enc_eq,aq,F.enc_eq,ar,Tk.enc_eq,au,Gn.enc_eq,ao] using h
theorem CX :(spAtoi).md=[false]:=rfl
theorem CY  (s:ByteArray):(spAtoi).pre [.d (.one (.str s))]=(ab 140737488355328 s.size):=Spec.of_pre' uY s
theorem uZ :(spAtoi).alts=none:=rfl
theorem vd  (s:ByteArray):(spAtoi).res [.d (.one (.str s))]=[.d (.one (.int .i64 (dQ (tL s)))),.d (.one .jk)]:=Spec.of_res uY s
theorem ve  (s:ByteArray):(spAtoi).out [.d (.one (.str s))]=[.gone]:=Spec.of_out uY s
theorem CZ (hE:dR):Sound Tryz.prog 83 spAtoi:=by
 rintro args ⟨s,rfl,hn⟩ w S vs fps hG hS hF ha hA
 simp only[ab] at hn
 cases hA with
 | cons h1 h2 =>
   rename_i v fp vs fps
   cases h2
   obtain⟨hr,hfp⟩:=h1
   cases hr
   obtain⟨_,u1,e1,r1⟩:=hG.1 _ _ hE.1
   obtain⟨_,u2,e2,r2⟩:=hG.1 _ _ hE.2
   cases r1 with|ifc t1 p1 =>
   cases r2 with|ifc t2 p2 =>
   have key:∀ (n:Int) (u:Value) (w':World),dQ (tL s)=n->u.oneCell'=true->Below w.heap.size w w'->∃ r o,spAtoi.may [.d (.one (.str s))] r o/\∃ v S' rfs fps',Ending.returned (.tuple #[.int .i64 n,u])=.returned v/\RepR w' S' r v rfs/\All3 (RepA w' S') o [.string s] fps' /\
    (∀ g,S' g->S g\/w.heap.size<=g\/Any [fp] g)/\(∀ g,S' g->g < w'.heap.size) /\
    Apart S' (rfs++fps')/\(∀ g,Any (rfs++fps') g->(w.heap.size<=g\/Any [fp] g)/\g < w'.heap.size)/\Fr (Any [fp]) w.heap.size w w':=fun n u w' hn hu hb=>by
    refine⟨_,_,(Spec.may_none uZ).2 ⟨(vd s).symm,(ve s).symm⟩,qz (rfs:=[fun _=>False,fun _=>False]) ⟨by simp,[.int .i64 n,u],rfl,.cons ⟨by rw[hn];exact .int _ _,fun _ h=>h⟩ (.cons ⟨.jk _ hu,fun _ h=>h⟩ .nil)⟩ ?_ (.cons hfp .nil) hS hb⟩
    simp only[List.cons_append,List.nil_append,List.mem_cons,List.not_mem_nil,or_false]
    rintro q (rfl|rfl|rfl) g
    ·exact id
    ·exact id
    ·exact hfp g
   cases hat:Lib.atoiAll (tL s) with
   | ok n =>
     refine (Tryz.strconv_Atoi_ok s (by omega) n hat w).mono ?_
     rintro e w' ⟨rfl,h⟩
     refine key n _ w' (by unfold dQ;rw[hat]) rfl ?_
     rcases h with rfl|⟨t,rfl⟩
     ·exact Below.refl _ _
     ·exact Lib.bytesWorld_below _ _ _
   | range =>
     refine (Tryz.strconv_Atoi_range s (by omega) hat _ w e2 (.inr ⟨_,_,rfl⟩)).mono ?_
     rintro e w' ⟨N,rfl,_,_,hb⟩
     exact key _ _ w' (by unfold dQ;rw[hat];rfl) rfl hb
   | _ =>
     refine (Go.Proofs.Any.strconv_Atoi_syntax Tryz.laysC172 s (by omega) hat _ w e1 (.inr ⟨_,_,rfl⟩)).mono ?_
     rintro e w' ⟨N,rfl,_,_,hb⟩
     exact key 0 _ w' (by unfold dQ;rw[hat]) rfl hb
theorem qD (s:ByteArray) (a b:Nat):s.extract a b=bL (sub (tL s) a b):=by
 apply ByteArray.ext
 apply Array.ext'
 simp[bL,sub,tL,ByteArray.data_extract,Array.toList_extract,List.extract]
theorem vf (s:ByteArray) (a:Nat):tL (s.extract a s.size)=(tL s).drop a:=by
 rw[qD]
 show (bL _).data.toList=_
 rw[lS]
 unfold sub tL
 rw[List.take_of_length_le]
 rw[List.length_drop]
 have:s.data.toList.length=s.size:=fY s
 omega
theorem Da (l:List UInt8):tL (bL l)=l:=lS l
theorem kj (s:ByteArray):(tL s).length=s.size:=fY s
theorem Db {s:ByteArray} {i:Nat} (h:i < s.size):∃ c,(tL s)[i]?=some c/\dW s i=(c.toNat:Int)/\(dW s i).toNat.toUInt8=c/\(tL s).drop i=c::(tL s).drop (i+1):=by
 obtain⟨x,h1,h2,h3⟩:=tA h
 have h':i < (tL s).length:=by rw[kj];exact h
 refine⟨x,h1,h2,by rw[h2];simp,?_⟩
 rw[List.drop_eq_getElem_cons h']
 have:(tL s)[i]?=some x:=h1
 rw[List.getElem?_eq_getElem h'] at this
 rw[Option.some.inj this]
theorem Dc (l:List UInt8) (c:UInt8):(Lib.indexByte l c < 0) ↔ l.contains c=false:=by
 have h0:∀ l:List UInt8,Lib.indexByte l c=-1\/0<=Lib.indexByte l c:=fun l=>by
  induction l with
  | nil=>exact .inl rfl
  | cons b l ih =>
    simp only[Lib.indexByte]
    split
    ·exact .inr (by omega)
    ·split
     ·exact .inl rfl
     ·rename_i h;simp only[beq_iff_eq] at h;exact .inr (by omega)
 induction l with
 | nil=>simp[Lib.indexByte]
 | cons b l ih =>
   simp only[Lib.indexByte,List.contains_cons,Bool.or_eq_false_iff]
   by_cases e:b=c
   ·subst e;simp
   ·have e1:(b == c)=false:=by simpa using e
    have e2:(c == b)=false:=by simpa using fun k=>e k.symm
    rw[e1,e2]
    simp only[Bool.false_eq_true,if_false,true_and]
    refine Iff.trans ?_ ih
    split
    ·rename_i h;simp only[beq_iff_eq] at h;omega
    ·rename_i h;simp only[beq_iff_eq] at h
     have:=h0 l
     omega
end Go.Proofs.Pw
namespace Go.Proofs.Pw
variable [Globs]
def aH (s:ByteArray) (a:Nat):List C:=[.str s,.int .i64 (a:Int)]
theorem qE {s t:ByteArray} {a b:Nat}:aH s a=aH t b ↔ s=t/\a=b:=by simp only[aH,List.cons.injEq,C.str.injEq,C.int.injEq,true_and,and_true];exact and_congr_right fun _=>by omega
def vg:X:=(.seq (.reg [xS 4 (.mv (.k (.c (.bool false))))] none [0,1]) (.seq (.seq (.reg [xM 5 0,xS 6 (.nilc (.t 5)),xS 7 (.fa (.t 6) 0),xL 8 7,xM 9 0,xS 10 (.nilc (.t 9)),xS 11 (.fa (.t 10) 1),xL 12 11,xS 13 (.sub (.t 8) (some (.t 12)) none 0),xM 14 1,xS 15 (.call 80 [(.t 13),(.t 14)])] (some 10) [0,1,15]) (.cond (.t 15) (.seq (.reg [xM 16 0,xS 17 (.nilc (.t 16)),xS 18 (.fa (.t 17) 1),xL 19 18,xM 20 1,xS 21 (.len (.t 20) true),xS 22 (.bin false .add (.t 19) (.t 21)),xS 23 (.nilc (.t 16)),xS 24 (.fa (.t 23) 1),⟨none,none,.st (.t 24) (.t 22) none⟩] none []) (.seq (.reg [xS 4 (.mv (.k (.c (.bool true))))] none [4]) .ret)) .skip)) (.seq (.reg [xS 4 (.mv (.k (.c (.bool false))))] none [4]) .ret)))
theorem Oj:al Tryz.prog 25 (Tryz.f116.body.getD .skip) vg=true:=by kernel_rfl
theorem Ok:am Tryz.prog Tryz.f116.results.toList [.tmp 4]=true:=by kernel_rfl
theorem Ol:aw Tryz.prog 116=true:=by kernel_rfl
def Dd:X:=(.seq (.reg [xS 4 (.mv (.k (.c (.str ⟨#[]⟩))))] none [0,1]) (.seq (.reg [xM 6 0,xS 7 (.nilc (.t 6)),xS 8 (.fa (.t 7) 1),xL 9 8,xM 5 9] none [0,1,5]) (.seq (.block 0 (.loop (.seq (.seq (.reg [xM 10 0,xS 11 (.nilc (.t 10)),xS 12 (.fa (.t 11) 1),xL 13 12,xM 14 0,xS 15 (.nilc (.t 14)),xS 16 (.fa (.t 15) 0),xL 17 16,xS 18 (.len (.t 17) true),xS 19 (.bin false .lss (.t 13) (.t 18)),xM 20 19,xG 21 20 (.mv (.t 1)),xG 22 20 (.mv (.t 0)),xG 23 20 (.nilc (.t 22)),xG 24 20 (.fa (.t 23) 0),xG 25 20 (.load (.t 24) none),xG 26 20 (.mv (.t 0)),xG 27 20 (.nilc (.t 26)),xG 28 20 (.fa (.t 27) 1),xG 29 20 (.load (.t 28) none),xG 30 20 (.idx (.t 25) (.t 29)),xG 31 20 (.call 141 [(.t 21),(.t 30)]),xG 32 20 (.bin false .lss (.t 31) (xK 0)),xS 33 (.pick (.t 20) (.t 32) (.k (.c (.bool false))))] (some 21) [0,1,5,33]) (.cond (.t 33) .skip (.exit 0))) (.block 1 (.reg [xM 34 0,xS 35 (.nilc (.t 34)),xS 36 (.fa (.t 35) 1),xL 37 36,xS 38 (.bin false .add (.t 37) (xK 1)),xS 39 (.nilc (.t 34)),xS 40 (.fa (.t 39) 1),⟨none,none,.st (.t 40) (.t 38) none⟩] none [0,1,5]))))) (.seq (.reg [xM 41 0,xS 42 (.nilc (.t 41)),xS 43 (.fa (.t 42) 0),xL 44 43,xM 45 5,xM 46 0,xS 47 (.nilc (.t 46)),xS 48 (.fa (.t 47) 1),xL 49 48,xS 50 (.sub (.t 44) (some (.t 45)) (some (.t 49)) 0),xM 4 50] (some 9) [4]) .ret))))
theorem Om:al Tryz.prog 51 (Tryz.f117.body.getD .skip) Dd=true:=by kernel_rfl
theorem On:am Tryz.prog Tryz.f117.results.toList [.tmp 4]=true:=by kernel_rfl
theorem Oo:aw Tryz.prog 117=true:=by kernel_rfl
def fw:X:=(.seq (.reg [xS 4 (.alloc xV)] none [0,1,4]) (.seq (.seq (.reg [xM 10 1,xS 11 (.bin false .gtr (.t 10) (xK 6))] none [0,1,4,11]) (.cond (.t 11) (.seq (.reg [xS 12 (.build xV []),xW 4 12 5] none [4]) .ret) .skip)) (.seq (.block 0 (.seq (.reg [xM 14 0,xS 15 (.callr 116 [(.t 14),(.k (.c (.str ⟨#[110,117,108,108]⟩)))]),xM 13 15] none [0,1,4,13]) (.cond (.t 13) (.seq (.reg [xS 16 (.build xV []),xW 4 16 5] none [4]) .ret) (.seq (.reg [xM 18 0,xS 19 (.callr 116 [(.t 18),(.k (.c (.str ⟨#[102,97,108,115,101]⟩)))]),xM 17 19] none [0,1,4,17]) (.cond (.t 17) (.seq (.reg [xS 20 (.build xV [(0,(xK 1),none)]),xW 4 20 5] none [4]) .ret) (.seq (.reg [xM 22 0,xS 23 (.callr 116 [(.t 22),(.k (.c (.str ⟨#[116,114,117,101]⟩)))]),xM 21 23] none [0,1,4,21]) (.cond (.t 21) (.seq (.reg [xS 24 (.build xV [(0,(xK 2),none)]),xW 4 24 5] none [4]) .ret) (.seq (.reg [xM 26 0,xS 27 (.callr 116 [(.t 26),(.k (.c (.str ⟨#[39]⟩)))]),xM 25 27] none [0,1,4,25]) (.cond (.t 25) (.seq (.reg [xM 28 0,xS 29 (.callr 117 [(.t 28),(.k (.c (.str ⟨#[39]⟩)))]),xS 30 (.build xV [(0,(xK 4),none),(2,(.t 29),none)]),xS 5 (.alloc xV),xW 5 30 5] none [0,4,5]) (.seq (.reg [xM 31 0,xS 32 (.callr 116 [(.t 31),(.k (.c (.str ⟨#[39]⟩)))])] none [4,5]) (.seq (.reg [xS 33 (.load (.t 5) (some 5)),xW 4 33 5] none [4]) .ret))) (.seq (.reg [xM 35 0,xS 36 (.callr 116 [(.t 35),(.k (.c (.str ⟨#[91]⟩)))]),xM 34 36] none [0,1,4,34]) (.cond (.t 34) (.seq (.reg [xS 37 (.bsl 5 []),xS 38 (.build xV [(0,(xK 5),none),(4,(.t 37),none)]),xS 6 (.alloc xV),xW 6 38 5] none [0,1,4,6]) (.seq (.seq (.reg [xM 39 0,xS 40 (.callr 116 [(.t 39),(.k (.c (.str ⟨#[93]⟩)))])] none [0,1,4,6,40]) (.cond (.t 40) (.seq (.reg [xS 41 (.load (.t 6) (some 5)),xW 4 41 5] none [4]) .ret) .skip)) (.seq (.block 1 (.loop (.seq (.seq (.reg [xS 42 (.fa (.t 6) 4),xL 43 42,xS 44 (.len (.t 43) false),xS 45 (.bin false .leq (.t 44) (xK 60))] none [0,1,4,6,45]) (.cond (.t 45) .skip (.exit 1))) (.block 2 (.seq (.mix [xS 46 (.fa (.t 6) 4),xL 47 46,xM 48 0,xM 49 1,xS 50 (.bin false .add (.t 49) (xK 1)),xS 51 (.callr 100 [(.t 48),(.t 50)]),xS 52 (.bsl 5 [((.t 51),(some 5))])] [xS 53 (.app (.t 47) (.t 52) 5 80 []),xS 54 (.fa (.t 6) 4),⟨none,none,.st (.t 54) (.t 53) none⟩] [[],[],[],[],[],[1],[]] [0,1,4,6]) (.seq (.reg [xM 55 0,xS 56 (.callr 116 [(.t 55),(.k (.c (.str ⟨#[44]⟩)))]),xS 57 (.not (.t 56))] none [0,1,4,6,57]) (.cond (.t 57) (.exit 1) .skip))))))) (.seq (.reg [xM 58 0,xS 59 (.callr 116 [(.t 58),(.k (.c (.str ⟨#[93]⟩)))])] none [4,6]) (.seq (.reg [xS 60 (.load (.t 6) (some 5)),xW 4 60 5] none [4]) .ret))))) (.seq (.reg [xM 62 0,xS 63 (.callr 116 [(.t 62),(.k (.c (.str ⟨#[123]⟩)))]),xM 61 63] none [0,1,4,61]) (.cond (.t 61) (.seq (.reg [xS 64 (.bsl 1 []),xS 65 (.bsl 5 []),xS 66 (.build xV [(0,(xK 6),none),(3,(.t 64),none),(4,(.t 65),none)]),xS 7 (.alloc xV),xW 7 66 5] none [0,1,4,7]) (.seq (.seq (.reg [xM 67 0,xS 68 (.callr 116 [(.t 67),(.k (.c (.str ⟨#[125]⟩)))])] none [0,1,4,7,68]) (.cond (.t 68) (.seq (.reg [xS 69 (.load (.t 7) (some 5)),xW 4 69 5] none [4]) .ret) .skip)) (.seq (.block 3 (.loop (.seq (.seq (.reg [xS 70 (.fa (.t 7) 4),xL 71 70,xS 72 (.len (.t 71) false),xS 73 (.bin false .leq (.t 72) (xK 60))] none [0,1,4,7,73]) (.cond (.t 73) .skip (.exit 3))) (.block 4 (.seq (.mix [xS 74 (.fa (.t 7) 3),xL 75 74,xM 76 0,xS 77 (.callr 117 [(.t 76),(.k (.c (.str ⟨#[58]⟩)))]),xS 78 (.bsl 1 [((.t 77),none)])] [xS 79 (.app (.t 75) (.t 78) 1 16 []),xS 80 (.fa (.t 7) 3),⟨none,none,.st (.t 80) (.t 79) none⟩] [[],[],[],[1],[]] [0,1,4,7]) (.seq (.reg [xM 81 0,xS 82 (.callr 116 [(.t 81),(.k (.c (.str ⟨#[58]⟩)))])] none [0,1,4,7]) (.seq (.mix [xS 83 (.fa (.t 7) 4),xL 84 83,xM 85 0,xM 86 1,xS 87 (.bin false .add (.t 86) (xK 1)),xS 88 (.callr 100 [(.t 85),(.t 87)]),xS 89 (.bsl 5 [((.t 88),(some 5))])] [xS 90 (.app (.t 84) (.t 89) 5 80 []),xS 91 (.fa (.t 7) 4),⟨none,none,.st (.t 91) (.t 90) none⟩] [[],[],[],[],[],[1],[]] [0,1,4,7]) (.seq (.reg [xM 92 0,xS 93 (.callr 116 [(.t 92),(.k (.c (.str ⟨#[44]⟩)))]),xS 94 (.not (.t 93))] none [0,1,4,7,94]) (.cond (.t 94) (.exit 3) .skip))))))))) (.seq (.reg [xM 95 0,xS 96 (.callr 116 [(.t 95),(.k (.c (.str ⟨#[125]⟩)))])] none [4,7]) (.seq (.reg [xS 97 (.load (.t 7) (some 5)),xW 4 97 5] none [4]) .ret))))) .skip))))))))))))) (.seq (.reg [xM 99 0,xS 100 (.callr 117 [(.t 99),(.k (.c (.str ⟨#[44,93,125]⟩)))]),xS 101 (.call 83 [(.t 100)]),xM 98 101,xS 102 (.ext (.t 98) 0),xS 103 (.ext (.t 98) 1),xM 8 102,xM 9 103] none [4,8]) (.seq (.reg [xM 104 8,xS 105 (.build xV [(0,(xK 3),none),(1,(.t 104),none)]),xW 4 105 5] none [4]) .ret)))))
theorem Oq:al Tryz.prog 106 (Tryz.f100.body.getD .skip) fw=true:=by kernel_rfl
theorem Or:am Tryz.prog Tryz.f100.results.toList [.cell 4 (some 5)]=true:=by kernel_rfl
theorem De:aw Tryz.prog 100=true:=by kernel_rfl
noncomputable def ko :Spec:=Spec.of (ι:=ByteArray × Nat × ByteArray) [true,false] (fun i=>[.ref (aH i.1 i.2.1),.d (.one (.str i.2.2))]) (fun i=>i.2.1<=i.1.size/\ab 1000000 i.1.size/\ab 1000000 i.2.2.size) (fun i=>[.d (.one (.bool (skp (tL i.1) i.2.1 (tL i.2.2))))]) (fun i=>[.ref (aH i.1 (clo (tL i.1) i.2.1 (tL i.2.2))),.gone])
theorem qF:∀ i j:ByteArray × Nat × ByteArray,(fun (i:ByteArray × Nat × ByteArray)=>([.ref (aH i.1 i.2.1),.d (.one (.str i.2.2))]:List AV)) i=(fun (i:ByteArray × Nat × ByteArray)=>([.ref (aH i.1 i.2.1),.d (.one (.str i.2.2))]:List AV)) j->i=j:=by
 rintro⟨s,a,p⟩ ⟨s',a',p'⟩ h
 simp only[Prod.mk.injEq]
 simpa [ap,T.enc_eq,aq,F.enc_eq,ar,Tk.enc_eq,au,Gn.enc_eq,ao,qE,and_assoc] using h
theorem dC :(ko).md=[true,false]:=rfl
theorem dD  (s:ByteArray) (a:Nat) (p:ByteArray):(ko).pre [.ref (aH s a),.d (.one (.str p))]=(a<=s.size/\ab 1000000 s.size/\ab 1000000 p.size):=Spec.of_pre' qF (s,a,p)
theorem Ot  (s:ByteArray) (a:Nat) (p:ByteArray):(ko).res [.ref (aH s a),.d (.one (.str p))]=[.d (.one (.bool (skp (tL s) a (tL p))))]:=Spec.of_res qF (s,a,p)
theorem Ou  (s:ByteArray) (a:Nat) (p:ByteArray):(ko).out [.ref (aH s a),.d (.one (.str p))]=[.ref (aH s (clo (tL s) a (tL p))),.gone]:=Spec.of_out qF (s,a,p)
theorem bv  (s:ByteArray) (a:Nat) (p:ByteArray) (F:List AV->List AV->Prop):(ko).all [.ref (aH s a),.d (.one (.str p))] F=F [.d (.one (.bool (skp (tL s) a (tL p))))] [.ref (aH s (clo (tL s) a (tL p))),.gone]:=by rw[Spec.all_fn rfl,Ot,Ou]
theorem dE  (s:ByteArray) (a:Nat) (p:ByteArray):(ko).ne [.ref (aH s a),.d (.one (.str p))]=True:=Spec.ne_fn rfl _
theorem Ov:Sound Tryz.prog 116 ko:=by
 refine aQ (GOK.cons CV CW GOK.nil) Tryz.func116 (c:=Tryz.f116.body.getD .skip) rfl (n:=25) rfl Oj Ok (fun _=>by simp) ?_ ?_
 ·exact qF
 ·rintro⟨s,a,p⟩ ⟨h1,h2,h3⟩
  simp only[ab] at h1 h2 h3
  have a1:(tL p).isPrefixOf (tL (s.extract a s.size))=skp (tL s) a (tL p):=by rw[vf];rfl
  have a2:=kj p
  by_cases c:skp (tL s) a (tL p)=true
  ·simp only[vg,aH,rg,go_sem,seval,Prod.fst,a1,c,clo,a2,if_true,hO,hU,gj,gk,gn]
   repeat' (first|with_reducible assumption|with_reducible refine And.intro ?_ ?_|intro _)
   all_goals first|omega|skip
  ·have c':skp (tL s) a (tL p)=false:=by simpa using c
   simp only[vg,aH,rg,go_sem,seval,Prod.fst,a1,c',clo,a2,if_false,hO,hU,gj,gk,gn]
   repeat' (first|with_reducible assumption|with_reducible refine And.intro ?_ ?_|intro _)
   all_goals first|omega|skip
theorem Df {l e:List UInt8} {a:Nat} (h:l.length<=a\/∃ c r,l.drop a=c::r/\e.contains c=true):aO l e a=a:=by
 unfold aO
 rcases h with h|⟨c,r,h1,h2⟩
 ·rw[List.drop_eq_nil_of_le h];rfl
 ·rw[h1,List.takeWhile_cons_of_neg (by rw[h2];simp)];rfl
theorem Ow {l e:List UInt8} {a:Nat} {c:UInt8} (h1:l.drop a=c::l.drop (a+1)) (h2:e.contains c=false):aO l e a=aO l e (a+1):=by
 unfold aO
 rw[h1,List.takeWhile_cons_of_pos (by rw[h2];rfl),List.length_cons];omega
noncomputable def jb :Spec:=Spec.of (ι:=ByteArray × Nat × ByteArray) [true,false] (fun i=>[.ref (aH i.1 i.2.1),.d (.one (.str i.2.2))]) (fun i=>i.2.1<=i.1.size/\ab 1000000 i.1.size) (fun i=>[.d (.one (.str (bL (sub (tL i.1) i.2.1 (aO (tL i.1) (tL i.2.2) i.2.1)))))]) (fun i=>[.ref (aH i.1 (aO (tL i.1) (tL i.2.2) i.2.1)),.gone])
theorem qG:∀ i j:ByteArray × Nat × ByteArray,(fun (i:ByteArray × Nat × ByteArray)=>([.ref (aH i.1 i.2.1),.d (.one (.str i.2.2))]:List AV)) i=(fun (i:ByteArray × Nat × ByteArray)=>([.ref (aH i.1 i.2.1),.d (.one (.str i.2.2))]:List AV)) j->i=j:=by
 rintro⟨s,a,e⟩ ⟨s',a',e'⟩ h
 simp only[Prod.mk.injEq]
 simpa [ap,T.enc_eq,aq,F.enc_eq,ar,Tk.enc_eq,au,Gn.enc_eq,ao,qE,and_assoc] using h
theorem jc :(jb).md=[true,false]:=rfl
theorem jd  (s:ByteArray) (a:Nat) (e:ByteArray):(jb).pre [.ref (aH s a),.d (.one (.str e))]=(a<=s.size/\ab 1000000 s.size):=Spec.of_pre' qG (s,a,e)
theorem Oz  (s:ByteArray) (a:Nat) (e:ByteArray):(jb).res [.ref (aH s a),.d (.one (.str e))]=[.d (.one (.str (bL (sub (tL s) a (aO (tL s) (tL e) a)))))]:=Spec.of_res qG (s,a,e)
theorem OA  (s:ByteArray) (a:Nat) (e:ByteArray):(jb).out [.ref (aH s a),.d (.one (.str e))]=[.ref (aH s (aO (tL s) (tL e) a)),.gone]:=Spec.of_out qG (s,a,e)
theorem dc  (s:ByteArray) (a:Nat) (e:ByteArray) (F:List AV->List AV->Prop):(jb).all [.ref (aH s a),.d (.one (.str e))] F=F [.d (.one (.str (bL (sub (tL s) a (aO (tL s) (tL e) a)))))] [.ref (aH s (aO (tL s) (tL e) a)),.gone]:=by rw[Spec.all_fn rfl,Oz,OA]
theorem je  (s:ByteArray) (a:Nat) (e:ByteArray):(jb).ne [.ref (aH s a),.d (.one (.str e))]=True:=Spec.ne_fn rfl _
theorem OB:Sound Tryz.prog 117 jb:=by
 refine aQ (GOK.cons Oh Oi GOK.nil) Tryz.func117 (c:=Tryz.f117.body.getD .skip) rfl (n:=51) rfl Om On (fun _=>by simp) ?_ ?_
 ·exact qG
 ·rintro⟨s,a,e⟩ ⟨h1,h2⟩
  simp only[ab] at h1 h2
  have hl:=kj s
  have hu:=kg (l:=tL s) (e:=tL e) (a:=a) (by omega)
  rw[hl] at hu
  simp only[Dd,aH,rg,go_sem,seval,Prod.fst]
  repeat' (first|with_reducible assumption|with_reducible refine And.intro ?_ ?_|intro _)
  all_goals first|omega|skip
  refine aZ (ι:=Nat) (fun i=>s.size-i) (fun i=>a<=i/\i<=s.size/\aO (tL s) (tL e) i=aO (tL s) (tL e) a)
   (fun i=>⟨[(0,.q (.box 51 0)),(1,.q (.c (.str e))),(5,.q (.c (.int .i64 (a:Int))))],[(51,[.c (.str s),.c (.int .i64 (i:Int))])],[]⟩) a ⟨Nat.le_refl _,h1,rfl⟩ (Le.refl _) ?_
  rintro i ⟨g1,g2,g3⟩
  rcases Nat.lt_or_ge i s.size with hlt|hge
  ·obtain⟨c,b1,b2,b3,b4⟩:=Db hlt
   have a1:((i:Int) < (s.size:Int))=True:=eq_true (by omega)
   by_cases hc:(tL e).contains c=true
   ·have a2:(Lib.indexByte (tL e) c < 0)=False:=eq_false (by rw[Dc,hc];simp)
    have a3:=Df (l:=tL s) (e:=tL e) (a:=i) (.inr ⟨c,_,b4,hc⟩)
    rw[g3] at a3
    simp only[rg,go_sem,seval,Prod.fst,a1,b3,a2,a3,qD,Int.toNat_natCast,uW,uX,qA,qB,qC]
    repeat' (first|with_reducible assumption|with_reducible refine And.intro ?_ ?_|intro _)
    all_goals first|omega|skip
   ·have hc':(tL e).contains c=false:=by simpa using hc
    have a2:(Lib.indexByte (tL e) c < 0)=True:=eq_true (by rw[Dc,hc'])
    have a3:=Ow (l:=tL s) (e:=tL e) (a:=i) b4 hc'
    simp only[rg,go_sem,seval,Prod.fst,a1,b3,a2,Int.toNat_natCast,uW,uX,qA,qB,qC]
    repeat' (first|with_reducible assumption|with_reducible refine And.intro ?_ ?_|intro _)
    all_goals first|omega|skip
    exact⟨i+1,⟨by omega,by omega,by rw[<-a3];exact g3⟩,by omega,Le.of_eq (by simp)⟩
  ·have a1:((i:Int) < (s.size:Int))=False:=eq_false (by omega)
   have a3:=Df (l:=tL s) (e:=tL e) (a:=i) (.inl (by omega))
   rw[g3] at a3
   simp only[rg,go_sem,seval,Prod.fst,a1,a3,qD,Int.toNat_natCast,uW,uX,qA,qB,qC]
   repeat' (first|with_reducible assumption|with_reducible refine And.intro ?_ ?_|intro _)
   all_goals first|omega|skip
end Go.Proofs.Pw
namespace Go.Proofs.Pw
variable [Globs]
noncomputable def eQ (k:Nat):Spec:=Spec.of (ι:=ByteArray × Nat × Int) [true,false] (fun i=>[.ref (aH i.1 i.2.1),.d (.one (.int .i64 i.2.2))]) (fun i=>(i.2.1<=i.1.size/\ab 1000000 i.1.size/\1<=i.2.2/\i.2.2<=7)/\(7-i.2.2).toNat < k) (fun i=>[.d (.agg (rdV (7-i.2.2).toNat (tL i.1) i.2.1).1.enc)]) (fun i=>[.ref (aH i.1 (rdV (7-i.2.2).toNat (tL i.1) i.2.1).2),.gone])
theorem qH:∀ i j:ByteArray × Nat × Int,(fun (i:ByteArray × Nat × Int)=>([.ref (aH i.1 i.2.1),.d (.one (.int .i64 i.2.2))]:List AV)) i=(fun (i:ByteArray × Nat × Int)=>([.ref (aH i.1 i.2.1),.d (.one (.int .i64 i.2.2))]:List AV)) j->i=j:=by
 rintro⟨s,a,n⟩ ⟨s',a',n'⟩ h
 simp only[Prod.mk.injEq]
 simpa [ap,T.enc_eq,aq,F.enc_eq,ar,Tk.enc_eq,au,Gn.enc_eq,ao,qE,and_assoc] using h
theorem mg (k:Nat):(eQ k).md=[true,false]:=rfl
theorem mh (k:Nat) (s:ByteArray) (a:Nat) (n:Int):(eQ k).pre [.ref (aH s a),.d (.one (.int .i64 n))]=((a<=s.size/\ab 1000000 s.size/\1<=n/\n<=7)/\(7-n).toNat < k):=Spec.of_pre' qH (s,a,n)
theorem OC (k:Nat) (s:ByteArray) (a:Nat) (n:Int):(eQ k).res [.ref (aH s a),.d (.one (.int .i64 n))]=[.d (.agg (rdV (7-n).toNat (tL s) a).1.enc)]:=Spec.of_res qH (s,a,n)
theorem OD (k:Nat) (s:ByteArray) (a:Nat) (n:Int):(eQ k).out [.ref (aH s a),.d (.one (.int .i64 n))]=[.ref (aH s (rdV (7-n).toNat (tL s) a).2),.gone]:=Spec.of_out qH (s,a,n)
theorem eR (k:Nat) (s:ByteArray) (a:Nat) (n:Int) (F:List AV->List AV->Prop):(eQ k).all [.ref (aH s a),.d (.one (.int .i64 n))] F=F [.d (.agg (rdV (7-n).toNat (tL s) a).1.enc)] [.ref (aH s (rdV (7-n).toNat (tL s) a).2),.gone]:=by rw[Spec.all_fn rfl,OC,OD]
theorem mi (k:Nat) (s:ByteArray) (a:Nat) (n:Int):(eQ k).ne [.ref (aH s a),.d (.one (.int .i64 n))]=True:=Spec.ne_fn rfl _
theorem eS {l p:List UInt8} {a:Nat} (h:skp l a p=true):clo l a p=a+p.length:=by unfold clo;rw[if_pos h]
theorem bm {l p:List UInt8} {a:Nat} (h:skp l a p=false):clo l a p=a:=by unfold clo;rw[h];rfl
theorem OE {f:Nat->T × Nat} {l:List UInt8} {c a:Nat} (h:skp l (f a).2 [44]=true):rdL f l (c+1) a=((f a).1::(rdL f l c ((f a).2+1)).1,(rdL f l c ((f a).2+1)).2):=by rw[rdL,if_pos h]
theorem OF {f:Nat->T × Nat} {l:List UInt8} {c a:Nat} (h:skp l (f a).2 [44]=false):rdL f l (c+1) a=([(f a).1],(f a).2):=by rw[rdL,h];rfl
theorem OG (f:Nat->T × Nat) (l:List UInt8) (a:Nat):rdL f l 0 a=([],a):=rfl
theorem OH {f:Nat->T × Nat} {l:List UInt8} {c a:Nat} (h:skp l (f (clo l (aO l [58] a) [58])).2 [44]=true):rdM f l (c+1) a=(bL (sub l a (aO l [58] a))::(rdM f l c ((f (clo l (aO l [58] a) [58])).2+1)).1,(f (clo l (aO l [58] a) [58])).1::(rdM f l c ((f (clo l (aO l [58] a) [58])).2+1)).2.1,(rdM f l c ((f (clo l (aO l [58] a) [58])).2+1)).2.2):=by rw[rdM];exact if_pos h
theorem OI {f:Nat->T × Nat} {l:List UInt8} {c a:Nat} (h:skp l (f (clo l (aO l [58] a) [58])).2 [44]=false):rdM f l (c+1) a=([bL (sub l a (aO l [58] a))],[(f (clo l (aO l [58] a) [58])).1],(f (clo l (aO l [58] a) [58])).2):=by rw[rdM];exact if_neg (by rw[h];simp)
theorem OJ (f:Nat->T × Nat) (l:List UInt8) (a:Nat):rdM f l 0 a=([],[],a):=rfl
set_option maxHeartbeats 4000000 in
theorem OK (hE:dR) (k:Nat) (hS:Sound Tryz.prog 100 (eQ k)):Sound Tryz.prog 100 (eQ (k+1)):=by
 refine aQ (GOK.cons (l:=[(117,jb),(83,spAtoi),(100,eQ k)]) Ol Ov (GOK.cons (l:=[(83,spAtoi),(100,eQ k)]) Oo OB (GOK.cons (l:=[(100,eQ k)]) CU (CZ hE) (GOK.cons De hS GOK.nil)))) Tryz.func100 (c:=Tryz.f100.body.getD .skip) rfl (n:=106) rfl Oq Or (fun _=>by simp) ?_ ?_
 ·exact qH
 ·rintro⟨s,a,n⟩ ⟨⟨h1,h2,h3,h4⟩,h5⟩
  simp only[ab] at h1 h2 h3 h4 h5
  have hl:=kj s
  have z1:aa []=[]:=rfl
  have z2:ai []=[]:=rfl
  have t1:tL ⟨#[110,117,108,108]⟩=[110,117,108,108]:=rfl
  have t2:tL ⟨#[102,97,108,115,101]⟩=[102,97,108,115,101]:=rfl
  have t3:tL ⟨#[116,114,117,101]⟩=[116,114,117,101]:=rfl
  have t4:tL ⟨#[39]⟩=[39]:=rfl
  have t5:tL ⟨#[91]⟩=[91]:=rfl
  have t6:tL ⟨#[93]⟩=[93]:=rfl
  have t7:tL ⟨#[44]⟩=[44]:=rfl
  have t8:tL ⟨#[123]⟩=[123]:=rfl
  have t9:tL ⟨#[125]⟩=[125]:=rfl
  have t10:tL ⟨#[58]⟩=[58]:=rfl
  have t11:tL ⟨#[44,93,125]⟩=[44,93,125]:=rfl
  have q1:(ByteArray.mk #[110,117,108,108]).size=4:=rfl
  have q2:(ByteArray.mk #[102,97,108,115,101]).size=5:=rfl
  have q3:(ByteArray.mk #[116,114,117,101]).size=4:=rfl
  have q4:(ByteArray.mk #[39]).size=1:=rfl
  have q5:(ByteArray.mk #[91]).size=1:=rfl
  have q6:(ByteArray.mk #[93]).size=1:=rfl
  have q7:(ByteArray.mk #[44]).size=1:=rfl
  have q8:(ByteArray.mk #[123]).size=1:=rfl
  have q9:(ByteArray.mk #[125]).size=1:=rfl
  have q10:(ByteArray.mk #[58]).size=1:=rfl
  by_cases c0:n=7
  ·subst c0
   have b0:((6:Int) < 7)=True:=eq_true (by omega)
   have e:rdV 0 (tL s) a=(T.zero,a):=by rw[rdV]
   simp only[fw,rg,go_sem,seval,Prod.fst,b0,e,T.zero,T.enc,z1,z2]
   repeat' (first|with_reducible assumption|with_reducible refine And.intro ?_ ?_|intro _)
   all_goals first|omega|(unfold ab;omega)|skip
  obtain⟨d,he⟩:∃ d,(7-n).toNat=d+1:=⟨(7-n).toNat-1,by omega⟩
  have he':(7-(n+1)).toNat=d:=by omega
  have b0:((6:Int) < n)=False:=eq_false (by omega)
  generalize hL:tL s=l at *
  have hrd:∀ i,i<=s.size->i<=(rdV d l i).2/\(rdV d l i).2<=s.size:=fun i hi=>by
   have:=qv d l i (by omega)
   exact⟨this.1,by have:=this.2.1;omega⟩
  by_cases c1:skp l a [110,117,108,108]=true
  ·have e:rdV (d+1) l a=(.mk 0 0 ⟨#[]⟩ [] [],a+4):=by rw[rdV,if_pos c1]
   simp only[fw,rg,go_sem,seval,Prod.fst,he,b0,hL,t1,q1,c1,eS c1,e,T.enc,z1,z2,dC,dD,dE,↓bv,bv]
   repeat' (first|with_reducible assumption|with_reducible refine And.intro ?_ ?_|intro _)
   all_goals first|omega|(unfold ab;omega)|skip
  have c1:skp l a [110,117,108,108]=false:=by simpa using c1
  by_cases c2:skp l a [102,97,108,115,101]=true
  ·have e:rdV (d+1) l a=(.mk 1 0 ⟨#[]⟩ [] [],a+5):=by rw[rdV,c1,if_neg (by simp),if_pos c2]
   simp only[fw,rg,go_sem,seval,Prod.fst,he,b0,hL,t1,q1,t2,q2,c1,bm c1,c2,eS c2,e,T.enc,z1,z2,dC,dD,dE,↓bv,bv]
   repeat' (first|with_reducible assumption|with_reducible refine And.intro ?_ ?_|intro _)
   all_goals first|omega|(unfold ab;omega)|skip
  have c2:skp l a [102,97,108,115,101]=false:=by simpa using c2
  by_cases c3:skp l a [116,114,117,101]=true
  ·have e:rdV (d+1) l a=(.mk 2 0 ⟨#[]⟩ [] [],a+4):=by rw[rdV,c1,if_neg (by simp),c2,if_neg (by simp),if_pos c3]
   simp only[fw,rg,go_sem,seval,Prod.fst,he,b0,hL,t1,q1,t2,q2,t3,q3,c1,bm c1,c2,bm c2,c3,eS c3,e,T.enc,z1,z2,dC,dD,dE,↓bv,bv]
   repeat' (first|with_reducible assumption|with_reducible refine And.intro ?_ ?_|intro _)
   all_goals first|omega|(unfold ab;omega)|skip
  have c3:skp l a [116,114,117,101]=false:=by simpa using c3
  by_cases c4:skp l a [39]=true
  ·have e:rdV (d+1) l a=(.mk 4 0 (bL (sub l (a+1) (aO l [39] (a+1)))) [] [],clo l (aO l [39] (a+1)) [39]):=by rw[rdV,c1,if_neg (by simp),c2,if_neg (by simp),c3,if_neg (by simp),if_pos c4]
   have k0:=db c4 (by simp)
   simp only[List.length_cons,List.length_nil] at k0
   have k1:=kg (l:=l) (e:=[39]) (a:=a+1) (by omega)
   simp only[fw,rg,go_sem,seval,Prod.fst,he,b0,hL,t1,q1,t2,q2,t3,q3,t4,q4,c1,bm c1,c2,bm c2,c3,bm c3,c4,eS c4,e,T.enc,z1,z2,List.length_cons,List.length_nil,Nat.zero_add,dC,dD,dE,↓bv,bv,jc,jd,je,↓dc,dc]
   repeat' (first|with_reducible assumption|with_reducible refine And.intro ?_ ?_|intro _)
   all_goals first|omega|(unfold ab;omega)|skip
  have c4:skp l a [39]=false:=by simpa using c4
  by_cases c5:skp l a [91]=true
  ·have k0:=db c5 (by simp)
   simp only[List.length_cons,List.length_nil] at k0
   by_cases c6:skp l (a+1) [93]=true
   ·have e:rdV (d+1) l a=(.mk 5 0 ⟨#[]⟩ [] [],a+2):=by rw[rdV,c1,if_neg (by simp),c2,if_neg (by simp),c3,if_neg (by simp),c4,if_neg (by simp),if_pos c5,if_pos c6]
    simp only[fw,rg,go_sem,seval,Prod.fst,he,b0,hL,t1,q1,t2,q2,t3,q3,t4,q4,t5,q5,t6,q6,c1,bm c1,c2,bm c2,c3,bm c3,c4,bm c4,c5,eS c5,c6,eS c6,e,T.enc,z1,z2,List.length_cons,List.length_nil,Nat.zero_add,dC,dD,dE,↓bv,bv,jc,jd,je,↓dc,dc]
    repeat' (first|with_reducible assumption|with_reducible refine And.intro ?_ ?_|intro _)
    all_goals first|omega|(unfold ab;omega)|skip
   have c6:skp l (a+1) [93]=false:=by simpa using c6
   have e:rdV (d+1) l a=(.mk 5 0 ⟨#[]⟩ [] (rdL (rdV d l) l 61 (a+1)).1,clo l (rdL (rdV d l) l 61 (a+1)).2 [93]):=by rw[rdV,c1,if_neg (by simp),c2,if_neg (by simp),c3,if_neg (by simp),c4,if_neg (by simp),if_pos c5,c6,if_neg (by simp)]
   simp only[fw,rg,go_sem,seval,Prod.fst,he,b0,hL,t1,q1,t2,q2,t3,q3,t4,q4,t5,q5,t6,q6,c1,bm c1,c2,bm c2,c3,bm c3,c4,bm c4,c5,eS c5,c6,bm c6,List.length_cons,List.length_nil,Nat.zero_add,dC,dD,dE,↓bv,bv,jc,jd,je,↓dc,dc]
   repeat' (first|with_reducible assumption|with_reducible refine And.intro ?_ ?_|intro _)
   all_goals first|omega|(unfold ab;omega)|skip
   refine aZ (ι:=List T × Nat) (fun i=>61-i.1.length) (fun i=>i.1.length<=61/\i.2<=s.size/\(rdL (rdV d l) l 61 (a+1)).1=i.1++(rdL (rdV d l) l (61-i.1.length) i.2).1/\(rdL (rdV d l) l 61 (a+1)).2=(rdL (rdV d l) l (61-i.1.length) i.2).2)
    (fun i=>⟨[(0,.q (.box 106 0)),(1,.q (.c (.int .i64 n))),(4,.q (.box 4 0)),(6,.q (.box 6 0))],
     [(106,(aH s i.2).map .c),(4,[.c (.int .i64 0),.c (.int .i64 0),.c (.str ⟨#[]⟩),.z 1,.z 5]),(6,[.c (.int .i64 5),.c (.int .i64 0),.c (.str ⟨#[]⟩),.z 1,.own 53])],
     [(53,5,ai i.1)]⟩) ([],a+1) ⟨by simp,by show a+1<=s.size;omega,rfl,rfl⟩ ?_ ?_
   ·refine (Le.ownB (b:=6) (j:=4) (d:=53) (sz:=5) (qs:=[.c (.int .i64 5),.c (.int .i64 0),.c (.str ⟨#[]⟩),.z 1,.z 5]) (by decide) (by simp) rfl (by simp[Q.killO,aH]) (by simp[PV.map,Q.killO])).trans (Le.sub (by simp[upd,del]) (by simp[upd,del]) (by simp[upd,del,ai]))
   ·rintro⟨acc,i⟩ ⟨g1,g2,g3,g4⟩
    simp only at g1 g2 g3 g4
    have hr:=hrd i g2
    rcases Nat.lt_or_ge acc.length 61 with hlt|hge
    ·have b1:((acc.length:Int)<=60)=True:=eq_true (by omega)
     obtain⟨c,hc⟩:∃ c,61-acc.length=c+1:=⟨60-acc.length,by omega⟩
     rw[hc] at g3 g4
     by_cases c7:skp l (rdV d l i).2 [44]=true
     ·rw[OE c7] at g3 g4
      have k1:=db c7 (by simp)
      simp only[List.length_cons,List.length_nil] at k1
      simp only[rg,go_sem,seval,Prod.fst,he',hL,b1,t7,q7,c7,eS c7,bU,T.enc_len,List.length_cons,List.length_nil,Nat.zero_add,dC,dD,dE,↓bv,bv,mg,mh,mi,↓eR,eR]
      repeat' (first|with_reducible assumption|with_reducible refine And.intro ?_ ?_|intro _)
      all_goals first|omega|(unfold ab;omega)|skip
      refine⟨(acc++[(rdV d l i).1],(rdV d l i).2+1),⟨by simp;omega,by show (rdV d l i).2+1<=s.size;omega,?_,?_⟩,by simp;omega,Le.sub (by simp) (by simp) (by simp[lF,ai])⟩
      ·have e7:61-(acc++[(rdV d l i).1]).length=c:=by simp;omega
       simp only[e7];rw[g3];simp
      ·have e7:61-(acc++[(rdV d l i).1]).length=c:=by simp;omega
       simp only[e7];exact g4
     ·have c7:skp l (rdV d l i).2 [44]=false:=by simpa using c7
      rw[OF c7] at g3 g4
      simp only[rg,go_sem,seval,Prod.fst,he',he,hL,e,g3,g4,b1,t6,q6,t7,q7,c7,bm c7,T.enc,z1,z2,lF,ai,bU,T.enc_len,List.length_cons,List.length_nil,Nat.zero_add,dC,dD,dE,↓bv,bv,mg,mh,mi,↓eR,eR]
      repeat' (first|with_reducible assumption|with_reducible refine And.intro ?_ ?_|intro _)
      all_goals first|omega|(unfold ab;omega)|skip
    ·have b1:((acc.length:Int)<=60)=False:=eq_false (by omega)
     have hc:61-acc.length=0:=by omega
     rw[hc] at g3 g4
     rw[OG] at g3 g4
     simp only[List.append_nil] at g3 g4
     simp only[rg,go_sem,seval,Prod.fst,he',he,hL,e,g3,g4,b1,t6,q6,T.enc,z1,z2,bU,T.enc_len,List.length_cons,List.length_nil,Nat.zero_add,dC,dD,dE,↓bv,bv,mg,mh,mi,↓eR,eR]
     repeat' (first|with_reducible assumption|with_reducible refine And.intro ?_ ?_|intro _)
     all_goals first|omega|(unfold ab;omega)|skip
  have c5:skp l a [91]=false:=by simpa using c5
  by_cases c8:skp l a [123]=true
  ·have k0:=db c8 (by simp)
   simp only[List.length_cons,List.length_nil] at k0
   by_cases c6:skp l (a+1) [125]=true
   ·have e:rdV (d+1) l a=(.mk 6 0 ⟨#[]⟩ [] [],a+2):=by rw[rdV,c1,if_neg (by simp),c2,if_neg (by simp),c3,if_neg (by simp),c4,if_neg (by simp),c5,if_neg (by simp),if_pos c8,if_pos c6]
    simp only[fw,rg,go_sem,seval,Prod.fst,he,b0,hL,t1,q1,t2,q2,t3,q3,t4,q4,t5,q5,t8,q8,t9,q9,c1,bm c1,c2,bm c2,c3,bm c3,c4,bm c4,c5,bm c5,c8,eS c8,c6,eS c6,e,T.enc,z1,z2,List.length_cons,List.length_nil,Nat.zero_add,dC,dD,dE,↓bv,bv,jc,jd,je,↓dc,dc]
    repeat' (first|with_reducible assumption|with_reducible refine And.intro ?_ ?_|intro _)
    all_goals first|omega|(unfold ab;omega)|skip
   have c6:skp l (a+1) [125]=false:=by simpa using c6
   have e:rdV (d+1) l a=(.mk 6 0 ⟨#[]⟩ (rdM (rdV d l) l 61 (a+1)).1 (rdM (rdV d l) l 61 (a+1)).2.1,clo l (rdM (rdV d l) l 61 (a+1)).2.2 [125]):=by rw[rdV,c1,if_neg (by simp),c2,if_neg (by simp),c3,if_neg (by simp),c4,if_neg (by simp),c5,if_neg (by simp),if_pos c8,c6,if_neg (by simp)]
   simp only[fw,rg,go_sem,seval,Prod.fst,he,b0,hL,t1,q1,t2,q2,t3,q3,t4,q4,t5,q5,t8,q8,t9,q9,c1,bm c1,c2,bm c2,c3,bm c3,c4,bm c4,c5,bm c5,c8,eS c8,c6,bm c6,List.length_cons,List.length_nil,Nat.zero_add,dC,dD,dE,↓bv,bv,jc,jd,je,↓dc,dc]
   repeat' (first|with_reducible assumption|with_reducible refine And.intro ?_ ?_|intro _)
   all_goals first|omega|(unfold ab;omega)|skip
   refine aZ (ι:=List ByteArray × List T × Nat) (fun i=>61-i.2.1.length) (fun i=>i.2.1.length<=61/\i.1.length=i.2.1.length/\i.2.2<=s.size/\(rdM (rdV d l) l 61 (a+1)).1=i.1++(rdM (rdV d l) l (61-i.2.1.length) i.2.2).1/\(rdM (rdV d l) l 61 (a+1)).2.1=i.2.1++(rdM (rdV d l) l (61-i.2.1.length) i.2.2).2.1/\(rdM (rdV d l) l 61 (a+1)).2.2=(rdM (rdV d l) l (61-i.2.1.length) i.2.2).2.2)
    (fun i=>⟨[(0,.q (.box 106 0)),(1,.q (.c (.int .i64 n))),(4,.q (.box 4 0)),(7,.q (.box 7 0))],
     [(106,(aH s i.2.2).map .c),(4,[.c (.int .i64 0),.c (.int .i64 0),.c (.str ⟨#[]⟩),.z 1,.z 5]),(7,[.c (.int .i64 6),.c (.int .i64 0),.c (.str ⟨#[]⟩),.own 79,.own 90])],
     [(79,1,aa i.1),(90,5,ai i.2.1)]⟩) ([],[],a+1) ⟨by simp,rfl,by show a+1<=s.size;omega,rfl,rfl,rfl⟩ ?_ ?_
   ·refine (Le.ownB (b:=7) (j:=3) (d:=79) (sz:=1) (qs:=[.c (.int .i64 6),.c (.int .i64 0),.c (.str ⟨#[]⟩),.z 1,.z 5]) (by decide) (by simp) rfl (by simp[Q.killO,aH]) (by simp[PV.map,Q.killO])).trans
     ((Le.ownB (b:=7) (j:=4) (d:=90) (sz:=5) (qs:=[.c (.int .i64 6),.c (.int .i64 0),.c (.str ⟨#[]⟩),.own 79,.z 5]) (by decide) (by simp[upd]) rfl (by simp[upd,del,Q.killO,aH]) (by simp[PV.map,Q.killO])).trans (Le.sub (by simp[upd,del]) (by simp[upd,del]) (by simp[upd,del,aa,ai])))
   ·rintro⟨ks,acc,i⟩ ⟨g1,g0,g2,g3,g5,g4⟩
    simp only at g0 g1 g2 g3 g4 g5
    have hu:=kg (l:=l) (e:=[58]) (a:=i) (by omega)
    have hw:=ot (l:=l) (p:=[58]) (a:=aO l [58] i) hu.2 (by simp)
    have hr:=hrd (clo l (aO l [58] i) [58]) (by omega)
    rcases Nat.lt_or_ge acc.length 61 with hlt|hge
    ·have b1:((acc.length:Int)<=60)=True:=eq_true (by omega)
     obtain⟨c,hc⟩:∃ c,61-acc.length=c+1:=⟨60-acc.length,by omega⟩
     rw[hc] at g3 g4 g5
     by_cases c7:skp l (rdV d l (clo l (aO l [58] i) [58])).2 [44]=true
     ·rw[OH c7] at g3 g4 g5
      have k1:=db c7 (by simp)
      simp only[List.length_cons,List.length_nil] at k1
      simp only[rg,go_sem,seval,Prod.fst,he',hL,b1,t7,q7,t10,q10,c7,eS c7,bU,bw,T.enc_len,List.length_cons,List.length_nil,Nat.zero_add,dC,dD,dE,↓bv,bv,jc,jd,je,↓dc,dc,mg,mh,mi,↓eR,eR]
      repeat' (first|with_reducible assumption|with_reducible refine And.intro ?_ ?_|intro _)
      all_goals first|omega|(unfold ab;omega)|skip
      have e7:∀ x:T,61-(acc++[x]).length=c:=fun x=>by simp;omega
      refine⟨(ks++[bL (sub l i (aO l [58] i))],acc++[(rdV d l (clo l (aO l [58] i) [58])).1],(rdV d l (clo l (aO l [58] i) [58])).2+1),⟨by simp;omega,by simp;omega,by show (rdV d l (clo l (aO l [58] i) [58])).2+1<=s.size;omega,?_,?_,?_⟩,by simp;omega,Le.sub (by simp) (by simp) (by simp[lF,ai,nZ,aa])⟩
      ·simp only[e7];rw[g3];simp
      ·simp only[e7];rw[g5];simp
      ·simp only[e7];exact g4
     ·have c7:skp l (rdV d l (clo l (aO l [58] i) [58])).2 [44]=false:=by simpa using c7
      rw[OI c7] at g3 g4 g5
      simp only[rg,go_sem,seval,Prod.fst,he',he,hL,e,g3,g4,g5,b1,t7,q7,t9,q9,t10,q10,c7,bm c7,T.enc,z1,z2,lF,ai,nZ,bU,bw,T.enc_len,List.length_cons,List.length_nil,Nat.zero_add,dC,dD,dE,↓bv,bv,jc,jd,je,↓dc,dc,mg,mh,mi,↓eR,eR]
      repeat' (first|with_reducible assumption|with_reducible refine And.intro ?_ ?_|intro _)
      all_goals first|omega|(unfold ab;omega)|skip
      all_goals simp[aa]
    ·have b1:((acc.length:Int)<=60)=False:=eq_false (by omega)
     have hc:61-acc.length=0:=by omega
     rw[hc] at g3 g4 g5
     rw[OJ] at g3 g4 g5
     simp only[List.append_nil] at g3 g4 g5
     simp only[rg,go_sem,seval,Prod.fst,he',he,hL,e,g3,g4,g5,b1,t9,q9,T.enc,z1,z2,bU,T.enc_len,List.length_cons,List.length_nil,Nat.zero_add,dC,dD,dE,↓bv,bv,mg,mh,mi,↓eR,eR]
     repeat' (first|with_reducible assumption|with_reducible refine And.intro ?_ ?_|intro _)
     all_goals first|omega|(unfold ab;omega)|skip
  have c8:skp l a [123]=false:=by simpa using c8
  have e:rdV (d+1) l a=(.mk 3 (dQ (sub l a (aO l [44,93,125] a))) ⟨#[]⟩ [] [],aO l [44,93,125] a):=by rw[rdV,c1,if_neg (by simp),c2,if_neg (by simp),c3,if_neg (by simp),c4,if_neg (by simp),c5,if_neg (by simp),c8,if_neg (by simp)]
  have k1:=kg (l:=l) (e:=[44,93,125]) (a:=a) (by omega)
  have k2:=qu (l:=l) (a:=a) k1.2
  simp only[fw,rg,go_sem,seval,Prod.fst,he,b0,hL,t1,q1,t2,q2,t3,q3,t4,q4,t5,q5,t8,q8,t11,c1,bm c1,c2,bm c2,c3,bm c3,c4,bm c4,c5,bm c5,c8,bm c8,e,T.enc,z1,z2,Da,ft,ab,List.length_cons,List.length_nil,Nat.zero_add,dC,dD,dE,↓bv,bv,jc,jd,je,↓dc,dc,CX,CY,uZ,vd,ve]
  repeat' (first|with_reducible assumption|with_reducible refine And.intro ?_ ?_|intro _)
  all_goals first|omega|(unfold ab;omega)|skip
theorem OL (hE:dR) (k:Nat):Sound Tryz.prog 100 (eQ k):=by
 induction k with
 | zero=>exact Sound.none
 | succ k ih=>exact OK hE k ih
noncomputable def kp :Spec:=Spec.of (ι:=ByteArray × Nat × Int) [true,false] (fun i=>[.ref (aH i.1 i.2.1),.d (.one (.int .i64 i.2.2))]) (fun i=>i.2.1<=i.1.size/\ab 1000000 i.1.size/\1<=i.2.2/\i.2.2<=7) (fun i=>[.d (.agg (rdV (7-i.2.2).toNat (tL i.1) i.2.1).1.enc)]) (fun i=>[.ref (aH i.1 (rdV (7-i.2.2).toNat (tL i.1) i.2.1).2),.gone])
theorem vi:∀ i j:ByteArray × Nat × Int,(fun (i:ByteArray × Nat × Int)=>([.ref (aH i.1 i.2.1),.d (.one (.int .i64 i.2.2))]:List AV)) i=(fun (i:ByteArray × Nat × Int)=>([.ref (aH i.1 i.2.1),.d (.one (.int .i64 i.2.2))]:List AV)) j->i=j:=by
 rintro⟨s,a,n⟩ ⟨s',a',n'⟩ h
 simp only[Prod.mk.injEq]
 simpa [ap,T.enc_eq,aq,F.enc_eq,ar,Tk.enc_eq,au,Gn.enc_eq,ao,qE,and_assoc] using h
theorem Dg :(kp).md=[true,false]:=rfl
theorem Dh  (s:ByteArray) (a:Nat) (n:Int):(kp).pre [.ref (aH s a),.d (.one (.int .i64 n))]=(a<=s.size/\ab 1000000 s.size/\1<=n/\n<=7):=Spec.of_pre' vi (s,a,n)
theorem OM  (s:ByteArray) (a:Nat) (n:Int):(kp).res [.ref (aH s a),.d (.one (.int .i64 n))]=[.d (.agg (rdV (7-n).toNat (tL s) a).1.enc)]:=Spec.of_res vi (s,a,n)
theorem ON  (s:ByteArray) (a:Nat) (n:Int):(kp).out [.ref (aH s a),.d (.one (.int .i64 n))]=[.ref (aH s (rdV (7-n).toNat (tL s) a).2),.gone]:=Spec.of_out vi (s,a,n)
theorem qI  (s:ByteArray) (a:Nat) (n:Int) (F:List AV->List AV->Prop):(kp).all [.ref (aH s a),.d (.one (.int .i64 n))] F=F [.d (.agg (rdV (7-n).toNat (tL s) a).1.enc)] [.ref (aH s (rdV (7-n).toNat (tL s) a).2),.gone]:=by rw[Spec.all_fn rfl,OM,ON]
theorem Di  (s:ByteArray) (a:Nat) (n:Int):(kp).ne [.ref (aH s a),.d (.one (.int .i64 n))]=True:=Spec.ne_fn rfl _
theorem OO (hE:dR):Sound Tryz.prog 100 kp:=Sound.all (μ:=fun i=>(7-i.2.2).toNat) (OL hE)
end Go.Proofs.Pw
