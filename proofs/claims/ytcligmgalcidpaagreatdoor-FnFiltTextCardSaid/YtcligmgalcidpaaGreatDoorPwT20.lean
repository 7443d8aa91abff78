/- Filters read from texts: what both programs' readers do, as functions; each reads a text just if it is a filter's. -/
import Derived.Test.YtcligmgalcidpaaGreatDoorPwT17
import Derived.Test.YtcligmgalcidpaaGreatDoorPwT12
import Derived.Test.YtcligmgalcidpaaGreatDoorPwT19
import Derived.Lib.Strings
import Derived.Test.YtcligmgalcidpaaGreatDoorPwT10
import Derived.Test.YtcligmgalcidpaaGreatDoorPwT18
set_option linter.unusedSimpArgs false
set_option linter.unusedVariables false
set_option linter.unusedSectionVars false
set_option maxRecDepth 20000
namespace Go.Proofs.Pw
abbrev Hd:=Int × Int × ByteArray × T
def eV (h:Hd) (l:List F):F:=.mk h.1 h.2.1 h.2.2.1 h.2.2.2 l
def F0:F:=.mk 0 0 ⟨#[]⟩ (.mk 0 0 ⟨#[]⟩ [] []) []
def jm (l:List UInt8):List UInt8:=Lib.trimSuffix l [58]
noncomputable def hdI (w:ByteArray):Hd :=
 if [61].isPrefixOf (tL w) then (2,0,⟨#[]⟩,cl (bL ((tL w).drop 1)))
 else if [109,97,107,101,58].isPrefixOf (tL w) then (21,0,bL ((tL w).drop 5),T.zero)
 else if 1 < (tL w).length/\(tL w)[0]?=some 46 then (3,0,bL (jm ((tL w).drop 1)),T.zero)
 else if 2 < (tL w).length/\(tL w)[0]?=some 91 then (4,dQ (sub (tL w) 1 ((tL w).length-1)),⟨#[]⟩,T.zero)
 else (bA w 0 wtab.tail+1,0,⟨#[]⟩,T.zero)
def bG (k:Int):Nat:=(ktab.getD k.toNat 0).toNat
def cm (f:List ByteArray->F × List ByteArray):Nat->List ByteArray->List F × List ByteArray
 | 0,ws=>([],ws)
 | n+1,ws=>((f ws).1::(cm f n (f ws).2).1,(cm f n (f ws).2).2)
noncomputable def rdF:Nat->List ByteArray->F × List ByteArray
 | 0,_=>(F0,[])
 | _+1,[]=>(F0,[])
 | d+1,w::ws=>(eV (hdI w) (cm (rdF d) (bG (hdI w).1) ws).1,(cm (rdF d) (bG (hdI w).1) ws).2)
mutual
def bT:F->List ByteArray
 | .mk k n s v l=>aI k n s v::bX l
def bX:List F->List ByteArray
 | []=>[]
 | t::l=>bT t++bX l
end
def fD:List ByteArray->List UInt8
 | []=>[]
 | w::ws=>32::(tL w++fD ws)
theorem EH:∀ a b:List ByteArray,fD (a++b)=fD a++fD b
 | [],b=>rfl
 | w::a,b=>by simp[fD,EH a b]
theorem qBl:tL ⟨#[32]⟩=[32]:=rfl
mutual
theorem EI:∀ (t:F),32::tL (aN t)=fD (bT t)
 | .mk k n s v l=>by
   have:=EJ l
   simp only[aN,bT,fD,cg,this]
theorem EJ:∀ (l:List F),tL (aY l)=fD (bX l)
 | []=>rfl
 | t::l=>by
   have h1:=EI t
   have h2:=EJ l
   simp only[aY,bX,EH,cg,qBl,h2,<-h1]
   simp
end
mutual
theorem RN:∀ (t:F),((bT t).length:Int)=aJ t
 | .mk k n s v l=>by have:=EK l;simp only[bT,aJ,List.length_cons];omega
theorem EK:∀ (l:List F),((bX l).length:Int)=aD l
 | []=>by simp[bX,aD]
 | t::l=>by have h1:=RN t;have h2:=EK l;simp only[bX,aD,List.length_append];omega
end
def bH:List UInt8->List (List UInt8)
 | []=>[[]]
 | c::r=>if c=32 then []::bH r else match bH r with
   | []=>[[c]]
   | p::ps=>(c::p)::ps
theorem EL:∀ l,bH l≠[]
 | []=>by simp[bH]
 | c::r=>by
   unfold bH
   split
   ·simp
   ·split <;> simp
def fE:List (List UInt8)->List UInt8
 | []=>[]
 | [p]=>p
 | p::ps=>p++32::fE ps
theorem EM:∀ l,fE (bH l)=l
 | []=>rfl
 | c::r=>by
   have ih:=EM r
   unfold bH
   split
   ·rename_i h
    subst h
    cases e:bH r with
    | nil=>exact absurd e (EL r)
    | cons p ps=>rw[e] at ih;simp[fE,ih]
   ·split
    ·rename_i e;exact absurd e (EL r)
    ·rename_i p ps e
     rw[e] at ih
     cases ps with
     | nil=>simp only[fE] at ih ⊢;rw[ih]
     | cons q qs=>simp only[fE,List.cons_append] at ih ⊢;rw[ih]
theorem EN:∀ (p:List UInt8),(∀ c ∈ p,c≠32)->bH p=[p]
 | [],_=>rfl
 | c::p,h=>by
   unfold bH
   rw[if_neg (h c (by simp)),EN p (fun x hx=>h x (List.mem_cons_of_mem _ hx))]
theorem EO:∀ (p r:List UInt8),(∀ c ∈ p,c≠32)->bH (p++32::r)=p::bH r
 | [],r,_=>by simp[bH]
 | c::p,r,h=>by
   rw[List.cons_append]
   rw[bH,if_neg (h c (by simp)),EO p r (fun x hx=>h x (List.mem_cons_of_mem _ hx))]
theorem EP:∀ (ps:List (List UInt8)),ps≠[]->(∀ p ∈ ps,∀ c ∈ p,c≠32)->bH (fE ps)=ps
 | [],h,_=>absurd rfl h
 | [p],_,h=>EN p (h p (by simp))
 | p::q::ps,_,h=>by
   rw[fE,EO p _ (h p (by simp)),EP (q::ps) (by simp) (fun x hx=>h x (List.mem_cons_of_mem _ hx))]
   simp
def aR (s:ByteArray):List ByteArray:=(bH (tL s)).map bL
theorem EQ:∀ (ws:List ByteArray),ws≠[]->fD ws=32::fE (ws.map tL)
 | [],h=>absurd rfl h
 | [w],_=>by simp[fD,fE]
 | w::x::ws,_=>by
   have:=EQ (x::ws) (by simp)
   rw[fD,this];simp[fE]
theorem ER (t:F):bT t≠[]:=by cases t;simp[bT]
theorem ES (t:F):tL (aN t)=fE ((bT t).map tL):=by
 have h1:=EI t
 rw[EQ _ (ER t)] at h1
 exact (List.cons.inj h1).2
theorem ET (l:List ByteArray):(l.map tL).map bL=l:=by
 rw[List.map_map]
 conv=>rhs;rw[<-List.map_id l]
 exact List.map_congr_left fun x _=>iS x
theorem RO (l:List (List UInt8)):(l.map bL).map tL=l:=by
 rw[List.map_map]
 conv=>rhs;rw[<-List.map_id l]
 exact List.map_congr_left fun x _=>lS x
theorem RP {s:ByteArray} {t:F} (h:bT t=aR s):aN t=s:=by
 apply er
 rw[ES,h,aR,RO,EM]
mutual
theorem oB:∀ (t:T) {d:Int},aK t d->∀ c ∈ tL (az t),c=32->False
| .mk k n s ks l,d,hf,c,hc,e=>by
  have hk:=oo hf
  simp only[aK] at hf
  obtain⟨_,a2,a3,a4,a5,_,_,a8,a9,a10,a11,a12⟩:=hf
  subst e
  rw[ma] at hc
  split at hc
  ·revert hc;decide
  split at hc
  ·revert hc;decide
  split at hc
  ·revert hc;decide
  split at hc
  ·have:=ge n 32 hc
   revert this;decide
  split at hc
  ·simp only[List.mem_cons,List.mem_append,List.not_mem_nil,or_false] at hc
   rcases hc with hc|hc|hc
   ·revert hc;decide
   ·have:=cM a10 32 hc
    revert this;unfold bg;decide
   ·revert hc;decide
  split at hc
  ·rename_i _ _ _ _ _ c6
   obtain⟨g1,g2⟩:=a11 c6
   have ok:∀ s ∈ ks,okS s:=fun s hs=>by
    obtain⟨i,hi⟩:=List.getElem?_of_mem hs
    exact fW g2 hi
   simp only[List.mem_cons,List.mem_append,List.not_mem_nil,or_false] at hc
   rcases hc with hc|hc|hc
   ·revert hc;decide
   ·cases l with
    | nil=>simp[TMj] at hc
    | cons u l =>
      simp only[aL] at a12
      simp only[TMj,List.mem_append,List.mem_cons] at hc
      cases ks with
      | nil=>simp at g1
      | cons z ks =>
        rcases hc with hc|hc|hc|hc
        ·have:=cM (ok z (by simp)) 32 hc
         revert this;unfold bg;decide
        ·revert hc;decide
        ·exact oB u a12.1 32 hc rfl
        ·exact EV l (fun s hs=>ok s (List.mem_cons_of_mem _ hs)) a12.2 (by simpa using hc)
   ·revert hc;decide
  ·simp only[List.mem_cons,List.mem_append,List.not_mem_nil,or_false] at hc
   rcases hc with hc|hc|hc
   ·revert hc;decide
   ·cases l with
    | nil=>simp[TRj] at hc
    | cons u l =>
      simp only[aL] at a12
      simp only[TRj,List.mem_append] at hc
      rcases hc with hc|hc
      ·exact oB u a12.1 32 hc rfl
      ·exact EU l a12.2 hc
   ·revert hc;decide
theorem EU:∀ (l:List T) {d:Int},aL l d->(32:UInt8) ∈ TR l->False
| [],_,_,h=>by simp[TR] at h
| t::l,d,hf,h=>by
  simp only[aL] at hf
  simp only[TR,List.mem_cons,List.mem_append] at h
  rcases h with h|h|h
  ·revert h;decide
  ·exact oB t hf.1 32 h rfl
  ·exact EU l hf.2 h
theorem EV:∀ (l:List T) {ks:List ByteArray} {d:Int},(∀ s ∈ ks,okS s)->aL l d->(32:UInt8) ∈ TM ks l->False
| [],_,_,_,_,h=>by simp[TM] at h
| t::l,ks,d,ok,hf,h=>by
  simp only[aL] at hf
  simp only[TM,List.mem_cons,List.mem_append] at h
  rcases h with h|h|h|h|h
  ·revert h;decide
  ·cases ks with
   | nil=>simp[tL] at h
   | cons z ks =>
     have:=cM (ok z (by simp)) 32 (by simpa using h)
     revert this;unfold bg;decide
  ·revert h;decide
  ·exact oB t hf.1 32 h rfl
  ·exact EV l (fun s hs=>ok s (List.mem_of_mem_tail hs)) hf.2 h
end
theorem RQ {t:T} {d:Int} (hf:aK t d):∀ c ∈ tL (az t),c≠32:=fun c hc e=>oB t hf c hc e
end Go.Proofs.Pw
namespace Go.Proofs.Pw
theorem RR:∀ i:Fin 22,6<=i.val->i.val<=20->bA (wtab.getD i.val ⟨#[]⟩) 0 wtab.tail+1=(i.val:Int):=by decide
theorem mH {c d:UInt8} {p l:List UInt8} (h:c≠d):(c::p).isPrefixOf (d::l)=false:=by simp[List.isPrefixOf,h]
theorem RS (p l:List UInt8):p.isPrefixOf (p++l)=true:=List.isPrefixOf_iff_prefix.2 (List.prefix_append p l)
theorem RT (s:List UInt8):jm (s++[58])=s:=by
 unfold jm Lib.trimSuffix Lib.hasSuffix
 rw[if_pos (List.isSuffixOf_iff_suffix.2 (List.suffix_append s [58]))]
 simp
theorem wq (c:UInt8) (m:List UInt8) (e:UInt8):sub (c::(m++[e])) 1 ((c::(m++[e])).length-1)=m:=by
 unfold sub
 simp
theorem RU {k:Int} (h:6<=k) (h2:k<=20):(58:UInt8) ∉ tL (wtab.getD k.toNat ⟨#[]⟩):=fun hm=>by
 have:=qY ⟨k.toNat,by omega⟩ (by show 6<=k.toNat;omega) (by show k.toNat<=20;omega) 58 hm
 revert this;decide
theorem RW {k n:Int} {s:ByteArray} {v:T} (h:kH k n s v) (hn:-60<=n/\n < 60):hdI (aI k n s v)=(k,n,s,v):=by
 obtain⟨h1,h2,⟨h3,h4,h5⟩,h6,h7⟩:=h
 by_cases c1:k=1
 ·subst c1
  have e1:=h3.resolve_left (by omega)
  have e2:=h4.resolve_left (by omega)
  have e3:=h5.resolve_left (by omega)
  subst e1 e2 e3
  unfold hdI
  rw[kI,if_neg (by decide),if_neg (by decide),if_neg (by simp),if_neg (by simp)]
  rfl
 by_cases c2:k=2
 ·subst c2
  have e1:=h3.resolve_left (by omega)
  have e2:=h4.resolve_left (by omega)
  subst e1 e2
  unfold hdI
  rw[jl,if_pos (by rfl),List.drop_succ_cons,List.drop_zero]
  have:bL (tL (az v))=az v:=iS _
  rw[this,(qJ h7 rfl).2]
 have e3:=h5.resolve_left c2
 by_cases c3:k=3
 ·subst c3
  have e1:=h3.resolve_left (by omega)
  subst e1 e3
  unfold hdI
  rw[fz,mH (by decide),if_neg (by simp),mH (by decide),if_neg (by simp),if_pos ⟨by simp,by simp⟩,List.drop_succ_cons,List.drop_zero,RT,ja]
 by_cases c4:k=4
 ·subst c4
  have e2:=h4.resolve_left (by omega)
  subst e2 e3
  obtain⟨c,r,e⟩:=mb n
  unfold hdI
  rw[fC,mH (by decide),if_neg (by simp),mH (by decide),if_neg (by simp),if_neg (by simp),if_pos ⟨by rw[e];simp,by simp⟩,wq,CI (by omega) (by omega)]
 have e1:=h3.resolve_left c4
 by_cases c5:k=5
 ·subst c5
  have e2:=h4.resolve_left (by omega)
  subst e1 e2 e3
  unfold hdI
  rw[kJ,if_neg (by decide),if_neg (by decide),if_neg (by simp),if_neg (by simp)]
  rfl
 obtain⟨c,r,ew,hl⟩:=EE (k:=k) (s:=s) ⟨by omega,h2⟩
 have hne:∀ m:UInt8,m.toNat < 97->m≠c:=fun m hm e=>by unfold bg at hl;rw[<-e] at hl;omega
 have hw:=kK n s v (show 6<=k by omega)
 by_cases c21:k=21
 ·subst c21
  subst e1 e3
  unfold hdI
  have e8:cN 21 s=[109,97,107,101,58]++tL s:=by unfold cN;rw[if_pos rfl]
  rw[hw,ew,mH (hne _ (by decide)),if_neg (by simp),<-ew,e8,if_pos (RS _ _)]
  have e9:([109,97,107,101,58]++tL s).drop 5=tL s:=rfl
  rw[e9,ja]
 ·have e2:=h4.resolve_left (by omega)
  subst e1 e2 e3
  have hk:k<=20:=by omega
  have e8:cN k ⟨#[]⟩=tL (wtab.getD k.toNat ⟨#[]⟩):=by unfold cN;rw[if_neg c21]
  have hb:aI k 0 ⟨#[]⟩ T.zero=wtab.getD k.toNat ⟨#[]⟩:=er (by rw[hw,e8])
  have hm:[109,97,107,101,58].isPrefixOf (tL (aI k 0 ⟨#[]⟩ T.zero))=false:=by
   cases hp:[109,97,107,101,58].isPrefixOf (tL (aI k 0 ⟨#[]⟩ T.zero)) with
   | false=>rfl
   | true =>
     exfalso
     obtain⟨t,ht⟩:=List.isPrefixOf_iff_prefix.1 hp
     refine RU (by omega) hk (?_:(58:UInt8) ∈ tL (wtab.getD k.toNat ⟨#[]⟩))
     rw[<-hb,<-ht];simp
  have hi:=RR ⟨k.toNat,by omega⟩ (by show 6<=k.toNat;omega) (by show k.toNat<=20;omega)
  simp only at hi
  have h0:(tL (aI k 0 ⟨#[]⟩ T.zero))[0]?=some c:=by rw[hw,ew];rfl
  unfold hdI
  rw[hm,if_neg (show ¬ [61].isPrefixOf (tL (aI k 0 ⟨#[]⟩ T.zero))=true by rw[hw,ew,mH (hne _ (by decide))];simp),if_neg (by simp),if_neg (fun q=>by rw[h0] at q;exact hne 46 (by decide) (Option.some.inj q.2).symm),if_neg (fun q=>by rw[h0] at q;exact hne 91 (by decide) (Option.some.inj q.2).symm),hb,hi]
  have:((k.toNat:Nat):Int)=k:=by omega
  rw[this]
theorem RY {k:Int} (h1:1<=k) (h2:k<=21):(bG k:Int)=aP k/\0<=aP k:=by
 have h:=Bj ⟨k.toNat,by omega⟩ (by show 1<=k.toNat;omega)
 have e:((k.toNat:Nat):Int)=k:=by omega
 simp only[e] at h
 have h3:∀ i:Fin 22,0<=ktab.getD i.val 0:=by decide
 have h4:=h3 ⟨k.toNat,by omega⟩
 simp only at h4
 unfold bG
 omega
mutual
theorem EW:∀ (t:F) {d:Nat} {ws:List ByteArray},aM t d->rdF d (bT t++ws)=(t,ws)
 | .mk k n s v l,0,ws,hf=>by simp only[aM] at hf;have:=hf.1;omega
 | .mk k n s v l,d+1,ws,hf=>by
   have hh:=mG hf
   simp only[aM] at hf
   obtain⟨_,a2,_,_,a5,a6,_,a8,_⟩:=hf
   have ed:((d+1:Nat):Int)-1=(d:Int):=by omega
   rw[ed] at a8
   have hd:=RW hh ⟨a5,a6⟩
   have hk:=(RY hh.1 hh.2.1).1
   have hk2:bG k=l.length:=by omega
   simp only[bT,List.cons_append]
   rw[rdF,hd]
   simp only[hk2]
   rw[EX l a8]
   rfl
theorem EX:∀ (l:List F) {d:Nat} {ws:List ByteArray},ba l d->cm (rdF d) l.length (bX l++ws)=(l,ws)
 | [],_,_,_=>rfl
 | t::l,d,ws,hf=>by
   simp only[ba] at hf
   simp only[bX,List.append_assoc,List.length_cons,cm]
   rw[EW t hf.1]
   simp only
   rw[EX l hf.2]
end
theorem RZ {k n:Int} {s:ByteArray} {v:T} (h:kH k n s v):∀ c ∈ tL (aI k n s v),c≠32:=by
 intro c hc e
 subst e
 obtain⟨h1,h2,_,h6,h7⟩:=h
 by_cases c1:k=1
 ·subst c1;rw[kI] at hc;revert hc;decide
 by_cases c2:k=2
 ·subst c2
  rw[jl] at hc
  rcases List.mem_cons.1 hc with hc|hc
  ·revert hc;decide
  ·exact RQ h7.1 32 hc rfl
 by_cases c3:k=3
 ·subst c3
  rw[fz] at hc
  simp only[List.mem_cons,List.mem_append,List.not_mem_nil,or_false] at hc
  rcases hc with hc|hc|hc
  ·revert hc;decide
  ·have:=cM h6 32 hc
   revert this;unfold bg;decide
  ·revert hc;decide
 by_cases c4:k=4
 ·subst c4
  rw[fC] at hc
  simp only[List.mem_cons,List.mem_append,List.not_mem_nil,or_false] at hc
  rcases hc with hc|hc|hc
  ·revert hc;decide
  ·have:=ge n 32 hc
   revert this;decide
  ·revert hc;decide
 by_cases c5:k=5
 ·subst c5;rw[kJ] at hc;revert hc;decide
 rw[kK n s v (by omega)] at hc
 have:=wn ⟨by omega,h2⟩ h6 32 hc
 revert this;unfold lw bg;decide
mutual
theorem EY:∀ (t:F) {d:Int},aM t d->∀ w ∈ bT t,∀ c ∈ tL w,c≠32
 | .mk k n s v l,d,hf=>by
   have hh:=mG hf
   simp only[aM] at hf
   intro w hw
   simp only[bT,List.mem_cons] at hw
   rcases hw with rfl|hw
   ·exact RZ hh
   ·exact EZ l hf.2.2.2.2.2.2.2.1 w hw
theorem EZ:∀ (l:List F) {d:Int},ba l d->∀ w ∈ bX l,∀ c ∈ tL w,c≠32
 | [],_,_=>by simp[bX]
 | t::l,d,hf=>by
   simp only[ba] at hf
   intro w hw
   simp only[bX,List.mem_append] at hw
   rcases hw with hw|hw
   ·exact EY t hf.1 w hw
   ·exact EZ l hf.2 w hw
end
theorem Fa {t:F} {d:Int} (h:aM t d):aR (aN t)=bT t:=by
 unfold aR
 rw[ES,EP _ (by simpa using ER t) (fun p hp=>by
  obtain⟨w,hw,rfl⟩:=List.mem_map.1 hp
  exact EY t h w hw),ET]
def fF (s:ByteArray):Prop:=∃ t,okF t/\aN t=s
noncomputable instance (s:ByteArray):Decidable (fF s):=Classical.propDecidable _
noncomputable def oC (s:ByteArray):F:=if h:fF s then Classical.choose h else F0
theorem Fb {s:ByteArray} {t:F} (h:okF t) (e:aN t=s):fF s/\oC s=t:=by
 have h1:fF s:=⟨t,h,e⟩
 refine⟨h1,?_⟩
 unfold oC
 rw[dif_pos h1]
 have:=Classical.choose_spec h1
 exact RM this.1 h (by unfold cy;rw[if_pos this.1,if_pos h];exact this.2.trans e.symm)
theorem Fc (s:ByteArray):((rdF 7 (aR s)).2=[]/\okF (rdF 7 (aR s)).1/\aN (rdF 7 (aR s)).1=s) ↔ fF s:=by
 refine⟨fun h=>⟨_,h.2.1,h.2.2⟩,?_⟩
 rintro⟨t,h1,rfl⟩
 rw[Fa h1.1]
 have:=EW t (d:=7) (ws:=[]) h1.1
 rw[List.append_nil] at this
 rw[this]
 exact⟨rfl,h1,rfl⟩
theorem Sa {s:ByteArray} (h:fF s):oC s=(rdF 7 (aR s)).1:=by
 have:=(Fc s).2 h
 exact (Fb this.2.1 this.2.2).2
end Go.Proofs.Pw
namespace Go.Proofs.Pw
theorem fG:okT T.zero:=⟨by simp[T.zero,aK,aL,nY],by simp[T.zero,cr,bV]⟩
noncomputable instance (w:ByteArray):Decidable (w≠⟨#[]⟩/\w ∈ wtab):=Classical.propDecidable _
theorem wu (l:List UInt8):tL (bL l)=l:=lS l
noncomputable def hdS (w:ByteArray):Hd × Bool :=
 if w≠⟨#[]⟩/\w ∈ wtab then ((bA w 0 wtab,0,⟨#[]⟩,T.zero),true)
 else if (tL w)[0]?=some 61 then ((2,0,⟨#[]⟩,cl (bL ((tL w).drop 1))),decide (bS (bL ((tL w).drop 1))))
 else if 1 < (tL w).length/\(tL w)[0]?=some 46/\(tL w)[(tL w).length-1]?=some 58 then ((3,0,bL (sub (tL w) 1 ((tL w).length-1)),T.zero),true)
 else if 1 < (tL w).length/\(tL w)[0]?=some 91/\(tL w)[(tL w).length-1]?=some 93 then ((4,(gf (sub (tL w) 1 ((tL w).length-1))).getD 0,⟨#[]⟩,T.zero),(gf (sub (tL w) 1 ((tL w).length-1))).isSome)
 else if 4 < (tL w).length/\(tL w).take 5=[109,97,107,101,58] then ((21,0,bL ((tL w).drop 5),T.zero),true)
 else ((0,0,⟨#[]⟩,T.zero),false)
theorem Fd {l:List UInt8} {a b:UInt8} (h:1 < l.length) (h1:l[0]?=some a) (h2:l[l.length-1]?=some b):l=a::(sub l 1 (l.length-1)++[b]):=by
 cases l with
 | nil=>simp at h
 | cons x r =>
   simp only[List.getElem?_cons_zero,Option.some.injEq] at h1
   subst h1
   simp only[List.length_cons] at h h2 ⊢
   unfold sub
   rw[List.drop_succ_cons,List.drop_zero,Nat.add_sub_cancel]
   congr 1
   have hr:r≠[]:=by intro e;subst e;simp at h
   have h3:r[r.length-1]?=some b:=by
    have:(x::r)[r.length]?=some b:=by simpa using h2
    obtain⟨m,hm⟩:∃ m,r.length=m+1:=⟨r.length-1,by omega⟩
    rw[hm,List.getElem?_cons_succ] at this
    rw[hm,Nat.add_sub_cancel];exact this
   have h4:=List.take_append_drop (r.length-1) r
   have h5:r.drop (r.length-1)=[b]:=by
    have hl:r.length-1 < r.length:=by omega
    rw[List.getElem?_eq_getElem hl] at h3
    rw[List.drop_eq_getElem_cons hl,Option.some.inj h3]
    rw[List.drop_eq_nil_of_le (by omega)]
   rw[h5] at h4
   exact h4.symm
theorem Sb:∀ w ∈ wtab,w≠⟨#[]⟩->aI (bA w 0 wtab) 0 ⟨#[]⟩ T.zero=w/\1<=bA w 0 wtab/\bA w 0 wtab<=20:=by
 intro w hw hne
 simp only[wtab,List.mem_cons,List.not_mem_nil,or_false] at hw
 rcases hw with rfl|rfl|rfl|rfl|rfl|rfl|rfl|rfl|rfl|rfl|rfl|rfl|rfl|rfl|rfl|rfl|rfl|rfl|rfl|rfl|rfl|rfl <;> first|exact absurd rfl hne|exact⟨rfl,by decide,by decide⟩
theorem Sc {w:ByteArray} (h:(hdS w).2=true):aI (hdS w).1.1 (hdS w).1.2.1 (hdS w).1.2.2.1 (hdS w).1.2.2.2=w/\1<=(hdS w).1.1/\(hdS w).1.1<=21/\okT (hdS w).1.2.2.2/\(hdS w).1.2.2.1.size<=w.size/\i64 (hdS w).1.2.1:=by
 have hz:((⟨#[]⟩:ByteArray).size)=0:=rfl
 have hl:(tL w).length=w.size:=fY w
 have i0:i64 0:=by unfold i64;omega
 revert h
 unfold hdS
 split
 ·rename_i c
  intro _
  obtain⟨h1,h2,h3⟩:=Sb w c.2 c.1
  exact⟨h1,h2,by simp only;omega,fG,Nat.zero_le _,i0⟩
 split
 ·rename_i c
  intro h
  have h1:bS (bL ((tL w).drop 1)):=by simpa using h
  obtain⟨h2,h3⟩:=Dj h1
  refine⟨er ?_,by simp,by simp,h2,Nat.zero_le _,i0⟩
  simp only
  rw[jl,h3,wu]
  cases e:tL w with
  | nil=>rw[e] at c;simp at c
  | cons x r=>rw[e] at c;simp at c;rw[c];simp
 split
 ·rename_i c
  intro _
  refine⟨er ?_,by simp,by simp,fG,?_,i0⟩
  ·simp only
   rw[fz,wu]
   exact (Fd c.1 c.2.1 c.2.2).symm
  ·simp only;rw[ft];have:=qu (l:=tL w) (a:=1) (b:=(tL w).length-1) (by omega);omega
 split
 ·rename_i c
  intro h
  cases hn:gf (sub (tL w) 1 ((tL w).length-1)) with
  | none=>rw[hn] at h;simp at h
  | some n =>
    have h1:=Og hn
    have h2:=Od hn
    refine⟨er ?_,by simp,by simp,fG,Nat.zero_le _,by simp only[Option.getD_some];unfold i64;omega⟩
    simp only[Option.getD_some]
    rw[fC,h1]
    exact (Fd c.1 c.2.1 c.2.2).symm
 split
 ·rename_i c
  intro _
  refine⟨er ?_,by simp,by simp,fG,?_,i0⟩
  ·simp only
   rw[kK _ _ _ (by omega)]
   unfold cN
   rw[if_pos rfl,wu,<-c.2]
   exact List.take_append_drop 5 _
  ·simp only;rw[ft,List.length_drop];omega
 ·intro h;simp at h
theorem Sd:∀ w ∈ wtab,(tL w)[0]?≠some 61:=by decide
theorem Se:∀ w ∈ wtab,(tL w)[0]?=some 46->(tL w).length=1:=by decide
theorem Sf:∀ w ∈ wtab,(tL w)[0]?=some 91->(tL w).length=2:=by decide
theorem Sg:∀ w ∈ wtab,(58:UInt8) ∉ tL w:=by decide
theorem Fe:∀ i:Fin 22,6<=i.val->i.val<=20->bA (wtab.getD i.val ⟨#[]⟩) 0 wtab=(i.val:Int)/\wtab.getD i.val ⟨#[]⟩≠⟨#[]⟩:=by decide
theorem Sh (i:Fin 22) (h1:6<=i.val) (h2:i.val<=20):bA (wtab.getD i.val ⟨#[]⟩) 0 wtab=(i.val:Int)/\wtab.getD i.val ⟨#[]⟩ ∈ wtab/\wtab.getD i.val ⟨#[]⟩≠⟨#[]⟩ :=
 ⟨(Fe i h1 h2).1,by
  have hl:i.val < wtab.length:=i.isLt
  rw[List.getD_eq_getElem?_getD,List.getElem?_eq_getElem hl]
  exact List.getElem_mem hl,(Fe i h1 h2).2⟩
theorem Ff (x:UInt8) (m:List UInt8) (e:UInt8):(x::(m++[e]))[(x::(m++[e])).length-1]?=some e:=by simp
theorem Si {k n:Int} {s:ByteArray} {v:T} (h:kH k n s v) (hn:-60<=n/\n < 60):hdS (aI k n s v)=((k,n,s,v),true):=by
 obtain⟨h1,h2,⟨h3,h4,h5⟩,h6,h7⟩:=h
 by_cases c1:k=1
 ·subst c1
  have e1:=h3.resolve_left (by omega)
  have e2:=h4.resolve_left (by omega)
  have e3:=h5.resolve_left (by omega)
  subst e1 e2 e3
  unfold hdS
  rw[if_pos (by first|exact⟨by decide,by simp[wtab,aI]⟩|exact⟨by decide,List.mem_iff_getElem?.2 ⟨1,rfl⟩⟩|exact⟨by decide,List.mem_iff_getElem?.2 ⟨5,rfl⟩⟩)];rfl
 by_cases c2:k=2
 ·subst c2
  have e1:=h3.resolve_left (by omega)
  have e2:=h4.resolve_left (by omega)
  subst e1 e2
  unfold hdS
  have hb:bL (tL (az v))=az v:=iS _
  obtain⟨g1,g2⟩:=qJ h7 rfl
  rw[if_neg (fun q=>Sd _ q.2 (by rw[jl];rfl)),jl,if_pos (by rfl),List.drop_succ_cons,List.drop_zero,hb,g2]
  simp[g1]
 have e3:=h5.resolve_left c2
 by_cases c3:k=3
 ·subst c3
  have e1:=h3.resolve_left (by omega)
  subst e1 e3
  unfold hdS
  rw[if_neg (fun q=>by have:=Se _ q.2 (by rw[fz];rfl);rw[fz] at this;simp at this),fz,if_neg (by simp),if_pos ⟨by simp,by simp,Ff _ _ _⟩,wq,ja]
 by_cases c4:k=4
 ·subst c4
  have e2:=h4.resolve_left (by omega)
  subst e2 e3
  obtain⟨c,r,e⟩:=mb n
  unfold hdS
  rw[if_neg (fun q=>by have:=Sf _ q.2 (by rw[fC];rfl);rw[fC,e] at this;simp at this),fC,if_neg (by simp),if_neg (by simp),if_pos ⟨by simp,by simp,Ff _ _ _⟩,wq,CT (by omega) (by omega)]
  rfl
 have e1:=h3.resolve_left c4
 by_cases c5:k=5
 ·subst c5
  have e2:=h4.resolve_left (by omega)
  subst e1 e2 e3
  unfold hdS
  rw[if_pos (by first|exact⟨by decide,by simp[wtab,aI]⟩|exact⟨by decide,List.mem_iff_getElem?.2 ⟨1,rfl⟩⟩|exact⟨by decide,List.mem_iff_getElem?.2 ⟨5,rfl⟩⟩)];rfl
 have hw:=kK n s v (show 6<=k by omega)
 by_cases c21:k=21
 ·subst c21
  subst e1 e3
  have e8:cN 21 s=[109,97,107,101,58]++tL s:=by unfold cN;rw[if_pos rfl]
  unfold hdS
  rw[if_neg (fun q=>Sg _ q.2 (by rw[hw,e8];simp)),hw,e8,if_neg (by simp),if_neg (by simp),if_neg (by simp),if_pos ⟨by simp,by simp⟩]
  have e9:([109,97,107,101,58]++tL s).drop 5=tL s:=rfl
  rw[e9,ja]
 ·have e2:=h4.resolve_left (by omega)
  subst e1 e2 e3
  have e8:cN k ⟨#[]⟩=tL (wtab.getD k.toNat ⟨#[]⟩):=by unfold cN;rw[if_neg c21]
  have hb:aI k 0 ⟨#[]⟩ T.zero=wtab.getD k.toNat ⟨#[]⟩:=er (by rw[hw,e8])
  obtain⟨g1,g2,g3⟩:=Sh ⟨k.toNat,by omega⟩ (by show 6<=k.toNat;omega) (by show k.toNat<=20;omega)
  simp only at g1 g2 g3
  unfold hdS
  rw[hb,if_pos ⟨g3,g2⟩,g1]
  have:((k.toNat:Nat):Int)=k:=by omega
  rw[this]
def bY (f:Nat->F × Int):Nat->Nat->List F × Int
 | 0,a=>([],(a:Int))
 | n+1,a=>if (f a).2 < 0 then ([],-1) else ((f a).1::(bY f n (f a).2.toNat).1,(bY f n (f a).2.toNat).2)
noncomputable def psF:Nat->List ByteArray->Nat->F × Int
 | 0,_,_=>(F0,-1)
 | d+1,ws,a =>
   if ws.length<=a then (F0,-1)
   else if (hdS (ws.getD a ⟨#[]⟩)).2=true then (eV (hdS (ws.getD a ⟨#[]⟩)).1 (bY (psF d ws) (aP (hdS (ws.getD a ⟨#[]⟩)).1.1).toNat (a+1)).1,(bY (psF d ws) (aP (hdS (ws.getD a ⟨#[]⟩)).1.1).toNat (a+1)).2)
   else (eV (hdS (ws.getD a ⟨#[]⟩)).1 [],-1)
theorem Fg {f:Nat->F × Int} {n a:Nat} (h:(f a).2 < 0):bY f (n+1) a=([],-1):=by rw[bY,if_pos h]
theorem wv {f:Nat->F × Int} {n a:Nat} (h:¬ (f a).2 < 0):bY f (n+1) a=((f a).1::(bY f n (f a).2.toNat).1,(bY f n (f a).2.toNat).2):=by rw[bY,if_neg h]
def ww (ws:List ByteArray) (a:Nat) (r:F × Int):Prop:=-1<=r.2/\r.2<=ws.length/\(0<=r.2->(a:Int) < r.2)
theorem Fh {f:Nat->F × Int} {ws:List ByteArray} (ho:∀ a,a<=ws.length->ww ws a (f a)):∀ (n a:Nat),a<=ws.length->-1<=(bY f n a).2/\(bY f n a).2<=ws.length/\(0<=(bY f n a).2->(a:Int)<=(bY f n a).2)/\(bY f n a).1.length<=n
 | 0,a,h=>by simp only[bY];exact⟨by omega,by omega,fun _=>by omega,by simp⟩
 | n+1,a,h=>by
   obtain⟨h1,h2,h3⟩:=ho a h
   by_cases c:(f a).2 < 0
   ·rw[Fg c];exact⟨by simp only;omega,by simp only;omega,fun k=>by simp only at k;omega,by simp⟩
   ·rw[wv c]
    obtain⟨g1,g2,g3,g4⟩:=Fh ho n (f a).2.toNat (by omega)
    have:=h3 (by omega)
    exact⟨g1,g2,fun k=>by have:=g3 k;simp only at this ⊢;omega,by simp only[List.length_cons];omega⟩
theorem Fi:∀ (d:Nat) (ws:List ByteArray) (a:Nat),a<=ws.length->ww ws a (psF d ws a)
 | 0,ws,a,h=>by unfold psF;exact⟨by simp only;omega,by simp only;omega,fun k=>by simp only at k;omega⟩
 | d+1,ws,a,h=>by
   unfold psF
   split
   ·exact⟨by simp only;omega,by simp only;omega,fun k=>by simp only at k;omega⟩
   split
   ·obtain⟨g1,g2,g3,_⟩:=Fh (Fi d ws) (aP (hdS (ws.getD a ⟨#[]⟩)).1.1).toNat (a+1) (by omega)
    exact⟨g1,g2,fun k=>by have:=g3 k;simp only at this ⊢;omega⟩
   ·exact⟨by simp only;omega,by simp only;omega,fun k=>by simp only at k;omega⟩
def wx (ws:List ByteArray) (a:Nat) (w:List ByteArray) (q:Int):Prop:=ws.drop a=w++ws.drop q.toNat/\q=a+w.length
theorem Fj {f:Nat->F × Int} {ws:List ByteArray} (ho:∀ a,a<=ws.length->ww ws a (f a)) (hf:∀ a,a<=ws.length->0<=(f a).2->wx ws a (bT (f a).1) (f a).2) :
 ∀ (n a:Nat),a<=ws.length->0<=(bY f n a).2->wx ws a (bX (bY f n a).1) (bY f n a).2
 | 0,a,h,_=>by simp only[bY,bX];exact⟨by simp,by simp⟩
 | n+1,a,h,hq=>by
   obtain⟨h1,h2,h3⟩:=ho a h
   by_cases c:(f a).2 < 0
   ·rw[Fg c] at hq;simp only at hq;omega
   ·rw[wv c] at hq ⊢
    obtain⟨e1,e2⟩:=hf a h (by omega)
    obtain⟨g1,g2⟩:=Fj ho hf n (f a).2.toNat (by omega) hq
    refine⟨?_,?_⟩
    ·simp only[bX];rw[e1,g1,List.append_assoc]
    ·simp only[bX,List.length_append];omega
theorem Fk {ws:List ByteArray} {a:Nat} (h:a < ws.length):ws.drop a=ws.getD a ⟨#[]⟩::ws.drop (a+1):=by
 rw[List.drop_eq_getElem_cons h];simp[List.getD,List.getElem?_eq_getElem h]
theorem Fl:∀ (d:Nat) (ws:List ByteArray) (a:Nat),a<=ws.length->0<=(psF d ws a).2->wx ws a (bT (psF d ws a).1) (psF d ws a).2
 | 0,ws,a,h,hq=>by unfold psF at hq;simp only at hq;omega
 | d+1,ws,a,h,hq=>by
   revert hq
   unfold psF
   split
   ·intro k;simp only at k;omega
   split
   ·rename_i ha hh
    intro k
    obtain⟨e1,_⟩:=Sc hh
    obtain⟨g1,g2⟩:=Fj (Fi d ws) (Fl d ws) (aP (hdS (ws.getD a ⟨#[]⟩)).1.1).toNat (a+1) (by omega) k
    refine⟨?_,?_⟩
    ·rw[Fk (by omega),g1]
     simp only[eV,bT,e1,List.cons_append]
    ·simp only[eV,bT,List.length_cons] at g2 ⊢;omega
   ·intro k;simp only at k;omega
mutual
theorem Fm:∀ (t:F) {d:Nat} {ws r:List ByteArray} {a:Nat},aM t d->ws.drop a=bT t++r->psF d ws a=(t,((a+(bT t).length:Nat):Int))
 | .mk k n s v l,0,ws,r,a,hf,_=>by simp only[aM] at hf;have:=hf.1;omega
 | .mk k n s v l,d+1,ws,r,a,hf,h=>by
   have hh:=mG hf
   simp only[aM] at hf
   obtain⟨_,a2,_,_,a5,a6,_,a8,_⟩:=hf
   have ed:((d+1:Nat):Int)-1=(d:Int):=by omega
   rw[ed] at a8
   have hd:=Si hh ⟨a5,a6⟩
   simp only[bT,List.cons_append] at h ⊢
   have hl:a < ws.length:=by
    rcases Nat.lt_or_ge a ws.length with h1|h1
    ·exact h1
    ·rw[List.drop_eq_nil_of_le h1] at h;cases h
   rw[Fk hl] at h
   obtain⟨e1,e2⟩:=List.cons.inj h
   have hk:(aP k).toNat=l.length:=by omega
   rw[psF,if_neg (by omega),e1,hd,if_pos rfl]
   simp only[hk]
   rw[Fn l a8 e2]
   simp only[eV,List.length_cons,Prod.mk.injEq,true_and]
   omega
theorem Fn:∀ (l:List F) {d:Nat} {ws r:List ByteArray} {a:Nat},ba l d->ws.drop a=bX l++r->bY (psF d ws) l.length a=(l,((a+(bX l).length:Nat):Int))
 | [],_,_,_,_,_,_=>by simp[bY,bX]
 | t::l,d,ws,r,a,hf,h=>by
   simp only[ba] at hf
   simp only[bX,List.append_assoc] at h
   have h1:=Fm t hf.1 h
   have h2:ws.drop (a+(bT t).length)=bX l++r:=by rw[<-List.drop_drop,h,List.drop_left'];rfl
   have h3:=Fn l hf.2 h2
   rw[List.length_cons,wv (by rw[h1];simp only;omega),h1]
   simp only[Int.toNat_natCast]
   rw[h3]
   simp only[bX,List.length_append,Prod.mk.injEq,true_and]
   omega
end
theorem Sj (s:ByteArray):((psF 7 (aR s) 0).2=((aR s).length:Int)/\okF (psF 7 (aR s) 0).1) ↔ fF s:=by
 constructor
 ·rintro⟨h1,h2⟩
  obtain⟨e1,e2⟩:=Fl 7 (aR s) 0 (Nat.zero_le _) (by omega)
  rw[List.drop_zero,h1,Int.toNat_natCast,List.drop_length,List.append_nil] at e1
  exact⟨_,h2,RP e1.symm⟩
 ·rintro⟨t,h1,rfl⟩
  rw[Fa h1.1]
  have:=Fm t (d:=7) (ws:=bT t) (r:=[]) (a:=0) h1.1 (by simp)
  rw[this]
  exact⟨by simp,h1⟩
theorem Fo:∀ l,(bH l).length<=l.length+1
 | []=>by simp[bH]
 | c::r=>by
   have ih:=Fo r
   unfold bH
   split
   ·simp;omega
   ·split
    ·simp
    ·rename_i p ps e;rw[e] at ih;simp at ih ⊢;omega
theorem Sk (s:ByteArray):(aR s).length<=s.size+1:=by
 unfold aR
 rw[List.length_map]
 have:=Fo (tL s)
 have e:(tL s).length=s.size:=fY s
 omega
theorem Fp:∀ l,∀ p ∈ bH l,p.length<=l.length
 | []=>by simp[bH]
 | c::r=>by
   have ih:=Fp r
   intro p hp
   unfold bH at hp
   split at hp
   ·rcases List.mem_cons.1 hp with rfl|hp
    ·simp
    ·have:=ih p hp;simp;omega
   ·split at hp
    ·simp at hp;subst hp;simp
    ·rename_i q qs e
     rcases List.mem_cons.1 hp with rfl|hp
     ·have:=ih q (by rw[e];simp);simp;omega
     ·have:=ih p (by rw[e];simp[hp]);simp;omega
theorem Fq {s w:ByteArray} (h:w ∈ aR s):w.size<=s.size:=by
 unfold aR at h
 obtain⟨p,hp,rfl⟩:=List.mem_map.1 h
 have:=Fp (tL s) p hp
 have e:(tL s).length=s.size:=fY s
 rw[ft];omega
end Go.Proofs.Pw
namespace Go.Proofs.Pw
variable [Globs]
def Fs:X:=(.seq (.reg [xS 2 (.mv (xK 0))] none [0]) (.seq (.seq (.reg [xM 3 0] none [3]) (.block 0 (.seq (.seq (.reg [xS 5 (.bin false .eql (.t 3) (xK 1)),xM 4 5] none [3,4]) (.cond (.t 4) .skip (.seq (.reg [xS 6 (.bin false .eql (.t 3) (xK 2)),xM 4 6] none [3,4]) (.cond (.t 4) .skip (.seq (.reg [xS 7 (.bin false .eql (.t 3) (xK 3)),xM 4 7] none [3,4]) (.cond (.t 4) .skip (.seq (.reg [xS 8 (.bin false .eql (.t 3) (xK 4)),xM 4 8] none [3,4]) (.cond (.t 4) .skip (.seq (.reg [xS 9 (.bin false .eql (.t 3) (xK 5)),xM 4 9] none [3,4]) (.cond (.t 4) .skip (.seq (.reg [xS 10 (.bin false .eql (.t 3) (xK 13)),xM 4 10] none [3,4]) (.cond (.t 4) .skip (.seq (.reg [xS 11 (.bin false .eql (.t 3) (xK 14)),xM 4 11] none [3,4]) (.cond (.t 4) .skip (.seq (.reg [xS 12 (.bin false .eql (.t 3) (xK 15)),xM 4 12] none [3,4]) (.cond (.t 4) .skip (.seq (.reg [xS 13 (.bin false .eql (.t 3) (xK 18)),xM 4 13] none [3,4]) (.cond (.t 4) .skip (.reg [xS 14 (.bin false .eql (.t 3) (xK 19)),xM 4 14] none [3,4]))))))))))))))))))) (.cond (.t 4) (.seq (.reg [xS 2 (.mv (xK 0))] none [2]) .ret) (.seq (.seq (.reg [xS 16 (.bin false .eql (.t 3) (xK 12)),xM 15 16] none [3,15]) (.cond (.t 15) .skip (.seq (.reg [xS 17 (.bin false .eql (.t 3) (xK 17)),xM 15 17] none [3,15]) (.cond (.t 15) .skip (.reg [xS 18 (.bin false .eql (.t 3) (xK 21)),xM 15 18] none [3,15]))))) (.cond (.t 15) (.seq (.reg [xS 2 (.mv (xK 1))] none [2]) .ret) (.seq (.seq (.reg [xS 20 (.bin false .eql (.t 3) (xK 6)),xM 19 20] none [3,19]) (.cond (.t 19) .skip (.seq (.reg [xS 21 (.bin false .eql (.t 3) (xK 7)),xM 19 21] none [3,19]) (.cond (.t 19) .skip (.seq (.reg [xS 22 (.bin false .eql (.t 3) (xK 9)),xM 19 22] none [3,19]) (.cond (.t 19) .skip (.seq (.reg [xS 23 (.bin false .eql (.t 3) (xK 10)),xM 19 23] none [3,19]) (.cond (.t 19) .skip (.seq (.reg [xS 24 (.bin false .eql (.t 3) (xK 11)),xM 19 24] none [3,19]) (.cond (.t 19) .skip (.seq (.reg [xS 25 (.bin false .eql (.t 3) (xK 16)),xM 19 25] none [3,19]) (.cond (.t 19) .skip (.reg [xS 26 (.bin false .eql (.t 3) (xK 20)),xM 19 26] none [3,19]))))))))))))) (.cond (.t 19) (.seq (.reg [xS 2 (.mv (xK 2))] none [2]) .ret) (.seq (.reg [xS 28 (.bin false .eql (.t 3) (xK 8)),xM 27 28] none [27]) (.cond (.t 27) (.seq (.reg [xS 2 (.mv (xK 3))] none [2]) .ret) .skip)))))))))) (.seq (.reg [xS 2 (.mv (.k (.c (.int .i64 (-1)))))] none [2]) .ret)))
theorem Sl:al Tryz.prog 29 (Tryz.f46.body.getD .skip) Fs=true:=by kernel_rfl
theorem Sn:am Tryz.prog Tryz.f46.results.toList [.tmp 2]=true:=by kernel_rfl
theorem Ft:aw Tryz.prog 46=true:=by kernel_rfl
def Fu:X:=(.seq (.reg [xS 1 (.box (.t 0) (some 9)),xS 2 (.mv (.k (.c (.bool false))))] none [1]) (.seq (.reg [xS 4 (.fa (.t 1) 0),xL 5 4,xS 6 (.bin false .eql (.t 5) (xK 3)),xM 7 6,xH 8 7 (.fa (.t 1) 0),xH 9 7 (.load (.t 8) none),xH 10 7 (.bin false .eql (.t 9) (xK 21)),xS 11 (.pick (.t 7) (.k (.c (.bool true))) (.t 10)),xM 3 11] none [1,3]) (.seq (.reg [xS 12 (.fa (.t 1) 0),xL 13 12,xS 14 (.bin false .eql (.t 13) (xK 4)),xM 15 14,xH 16 15 (.fa (.t 1) 1),xH 17 15 (.load (.t 16) none),xH 18 15 (.bin false .eql (.t 17) (xK 0)),xS 19 (.pick (.t 15) (.k (.c (.bool true))) (.t 18)),xM 20 19,xG 21 20 (.mv (.t 3)),xG 22 20 (.mv (.t 21)),xH 23 22 (.fa (.t 1) 2),xH 24 22 (.load (.t 23) none),xH 25 22 (.bin false .eql (.t 24) (.k (.c (.str ⟨#[]⟩)))),xG 26 20 (.pick (.t 22) (.k (.c (.bool true))) (.t 25)),xS 27 (.pick (.t 20) (.t 26) (.k (.c (.bool false)))),xM 28 27,xG 29 28 (.fa (.t 1) 0),xG 30 28 (.load (.t 29) none),xG 31 28 (.bin false .eql (.t 30) (xK 2)),xG 32 28 (.mv (.t 31)),xH 33 32 (.fa (.t 1) 3),xH 34 32 (.load (.t 33) (some 5)),xH 35 32 (.build xV []),xH 36 32 (.call 77 [(.t 34),(.t 35)]),xG 37 28 (.pick (.t 32) (.k (.c (.bool true))) (.t 36)),xS 38 (.pick (.t 28) (.t 37) (.k (.c (.bool false)))),xM 2 38] none [2]) .ret)))
theorem So:al Tryz.prog 39 (Tryz.f47.body.getD .skip) Fu=true:=by kernel_rfl
theorem Sp:am Tryz.prog Tryz.f47.results.toList [.tmp 2]=true:=by kernel_rfl
theorem Sq:aw Tryz.prog 47=true:=by kernel_rfl
def ra:X:=(.seq (.reg [xS 1 (.box (.t 0) (some 9)),xS 2 (.mv (.k (.c (.bool false))))] none [1]) (.seq (.seq (.reg [xS 3 (.fa (.t 1) 0),xL 4 3] none [1,4]) (.block 0 (.seq (.seq (.reg [xS 6 (.bin false .eql (.t 4) (xK 1)),xM 5 6] none [1,4,5]) (.cond (.t 5) .skip (.seq (.reg [xS 7 (.bin false .eql (.t 4) (xK 3)),xM 5 7] none [1,4,5]) (.cond (.t 5) .skip (.seq (.reg [xS 8 (.bin false .eql (.t 4) (xK 4)),xM 5 8] none [1,4,5]) (.cond (.t 5) .skip (.seq (.reg [xS 9 (.bin false .eql (.t 4) (xK 5)),xM 5 9] none [1,4,5]) (.cond (.t 5) .skip (.reg [xS 10 (.bin false .eql (.t 4) (xK 18)),xM 5 10] none [1,4,5]))))))))) (.cond (.t 5) (.seq (.reg [xS 2 (.mv (.k (.c (.bool true))))] none [2]) .ret) (.seq (.seq (.reg [xS 12 (.bin false .eql (.t 4) (xK 6)),xM 11 12] none [1,4,11]) (.cond (.t 11) .skip (.reg [xS 13 (.bin false .eql (.t 4) (xK 7)),xM 11 13] none [1,4,11]))) (.cond (.t 11) (.seq (.reg [xS 14 (.fa (.t 1) 8),xL 15 14,xS 16 (.ia (.t 15) (xK 0) 9),xS 17 (.load (.t 16) (some 9)),xS 18 (.call 50 [(.t 17)]),xM 19 18,xG 20 19 (.fa (.t 1) 8),xG 21 19 (.load (.t 20) none),xG 22 19 (.ia (.t 21) (xK 1) 9),xG 23 19 (.load (.t 22) (some 9)),xG 24 19 (.call 50 [(.t 23)]),xS 25 (.pick (.t 19) (.t 24) (.k (.c (.bool false)))),xM 2 25] none [2]) .ret) (.seq (.reg [xS 27 (.bin false .eql (.t 4) (xK 8)),xM 26 27] none [1,26]) (.cond (.t 26) (.seq (.reg [xS 28 (.fa (.t 1) 8),xL 29 28,xS 30 (.ia (.t 29) (xK 1) 9),xS 31 (.load (.t 30) (some 9)),xS 32 (.call 50 [(.t 31)]),xM 33 32,xG 34 33 (.fa (.t 1) 8),xG 35 33 (.load (.t 34) none),xG 36 33 (.ia (.t 35) (xK 2) 9),xG 37 33 (.load (.t 36) (some 9)),xG 38 33 (.call 50 [(.t 37)]),xS 39 (.pick (.t 33) (.t 38) (.k (.c (.bool false)))),xM 2 39] none [2]) .ret) .skip)))))))) (.seq (.reg [xS 2 (.mv (.k (.c (.bool false))))] none [2]) .ret)))
theorem Sr:al Tryz.prog 40 (Tryz.f50.body.getD .skip) ra=true:=by kernel_rfl
theorem Ss:am Tryz.prog Tryz.f50.results.toList [.tmp 2]=true:=by kernel_rfl
theorem Fv:aw Tryz.prog 50=true:=by kernel_rfl
noncomputable def ie :Spec:=Spec.of (ι:=Int) [false] (fun i=>[.d (.one (.int .i64 i))]) (fun _=>True) (fun i=>[.d (.one (.int .i64 (aP i)))]) (fun _=>[.gone])
theorem rb:∀ i j:Int,(fun (i:Int)=>([.d (.one (.int .i64 i))]:List AV)) i=(fun (i:Int)=>([.d (.one (.int .i64 i))]:List AV)) j->i=j:=by
 intro k k' h
 simpa [ap,T.enc_eq,aq,F.enc_eq,ar,Tk.enc_eq,au,Gn.enc_eq,ao] using h
theorem kL :(ie).md=[false]:=rfl
theorem kM  (k:Int):(ie).pre [.d (.one (.int .i64 k))]=(True):=Spec.of_pre' rb k
theorem kN :(ie).alts=none:=rfl
theorem kO  (k:Int):(ie).res [.d (.one (.int .i64 k))]=[.d (.one (.int .i64 (aP k)))]:=Spec.of_res rb k
theorem kP  (k:Int):(ie).out [.d (.one (.int .i64 k))]=[.gone]:=Spec.of_out rb k
theorem Fw:Sound Tryz.prog 46 ie:=by
 refine aQ GOK.nil Tryz.func46 (c:=Tryz.f46.body.getD .skip) rfl (n:=29) rfl Sl Sn (fun _=>by simp) ?_ ?_
 ·exact rb
 ·intro k _
  simp only[Fs,go_sem,seval,rg,aP]
  repeat' (first|with_reducible assumption|with_reducible refine And.intro ?_ ?_|intro _)
  all_goals first|omega|(grind;done)|skip
noncomputable def kQ :Spec:=Spec.of (ι:=F) [false] (fun i=>[.d (.agg i.enc)]) (fun i=>i.fit 140737488355328) (fun i=>[.d (.one (.bool (decide (lL i))))]) (fun _=>[.gone])
theorem re:∀ i j:F,(fun (i:F)=>([.d (.agg i.enc)]:List AV)) i=(fun (i:F)=>([.d (.agg i.enc)]:List AV)) j->i=j:=by
 intro t t' h
 simpa [ap,T.enc_eq,aq,F.enc_eq,ar,Tk.enc_eq,au,Gn.enc_eq,ao] using h
theorem Su :(kQ).md=[false]:=rfl
theorem Sv  (t:F):(kQ).pre [.d (.agg t.enc)]=(t.fit 140737488355328):=Spec.of_pre' re t
theorem Sw :(kQ).alts=none:=rfl
theorem Sx  (t:F):(kQ).res [.d (.agg t.enc)]=[.d (.one (.bool (decide (lL t))))]:=Spec.of_res re t
theorem Sy  (t:F):(kQ).out [.d (.agg t.enc)]=[.gone]:=Spec.of_out re t
theorem Sz:Sound Tryz.prog 47 kQ:=by
 refine aQ (GOK.cons DC PZ GOK.nil) Tryz.func47 (c:=Tryz.f47.body.getD .skip) rfl (n:=39) rfl So Sp (fun _=>by simp) ?_ ?_
 ·exact re
 ·intro t h1
  obtain⟨kk,n,s,v,l⟩:=t
  obtain⟨vk,vn,vs,vks,vl⟩:=v
  simp only[F.fit] at h1
  obtain⟨_,_,f1,f2,f3,f4⟩:=h1
  generalize hv:T.mk vk vn vs vks vl=v at *
  have e6:v.enc=[.int .i64 vk,.int .i64 vn,.str vs,.row 1 (aa vks),.row 5 (ai vl)]:=by rw[<-hv];rfl
  have p1:=PU v T.zero
  have p2:=PX v T.zero
  have p3:=PY v T.zero
  rw[T.zero_enc,e6] at p1 p2 p3
  have hz:=T.zero_fit
  simp only[Fu,F.enc,e6,go_sem,seval,rg,PT,PW,p1,p2,p3]
  repeat' (first|with_reducible assumption|with_reducible refine And.intro ?_ ?_|intro _)
  all_goals first|omega|(grind [lL,lK];done)|skip
noncomputable def ig (k:Nat):Spec:=Spec.of (ι:=F) [false] (fun i=>[.d (.agg i.enc)]) (fun i=>(i.fit 140737488355328/\dp i)/\SizeOf.sizeOf i < k) (fun i=>[.d (.one (.bool (decide (cS i))))]) (fun _=>[.gone])
theorem rj:∀ i j:F,(fun (i:F)=>([.d (.agg i.enc)]:List AV)) i=(fun (i:F)=>([.d (.agg i.enc)]:List AV)) j->i=j:=by
 intro t t' h
 simpa [ap,T.enc_eq,aq,F.enc_eq,ar,Tk.enc_eq,au,Gn.enc_eq,ao] using h
theorem Fx (k:Nat):(ig k).md=[false]:=rfl
theorem wy (k:Nat) (t:F):(ig k).pre [.d (.agg t.enc)]=((t.fit 140737488355328/\dp t)/\SizeOf.sizeOf t < k):=Spec.of_pre' rj t
theorem Fy (k:Nat):(ig k).alts=none:=rfl
theorem wz (k:Nat) (t:F):(ig k).res [.d (.agg t.enc)]=[.d (.one (.bool (decide (cS t))))]:=Spec.of_res rj t
theorem wA (k:Nat) (t:F):(ig k).out [.d (.agg t.enc)]=[.gone]:=Spec.of_out rj t
theorem SA (k:Nat) (hS:Sound Tryz.prog 50 (ig k)):Sound Tryz.prog 50 (ig (k+1)):=by
 refine aQ (GOK.cons Fv hS GOK.nil) Tryz.func50 (c:=Tryz.f50.body.getD .skip) rfl (n:=40) rfl Sr Ss (fun _=>by simp) ?_ ?_
 ·exact rj
 ·rintro t ⟨⟨h1,h2⟩,h4⟩
  obtain⟨kk,n,s,v,l⟩:=t
  obtain⟨vk,vn,vs,vks,vl⟩:=v
  simp only[F.fit,dp] at h1 h2
  obtain⟨_,_,f1,f2,f3,f4⟩:=h1
  obtain⟨g1,g2⟩:=h2
  generalize hv:T.mk vk vn vs vks vl=v at *
  have e3 : SizeOf.sizeOf l < k := by have e : SizeOf.sizeOf (F.mk kk n s v l) < k + 1 := h4
                                      rw[F.mk.sizeOf_spec] at e;omega
  clear h4
  have e6:v.enc=[.int .i64 vk,.int .i64 vn,.str vs,.row 1 (aa vks),.row 5 (ai vl)]:=by rw[<-hv];rfl
  have hF:cS (F.mk kk n s v l) ↔ ((kk=1\/kk=3\/kk=4\/kk=5\/kk=18)\/((kk=6\/kk=7)/\bD l 0/\bD l 1)\/(kk=8/\bD l 1/\bD l 2)):=by simp only[cS]
  have hk2:kk=6\/kk=7->l.length=2:=fun h=>by
   have:aP kk=2:=by rcases h with rfl|rfl <;> decide
   omega
  have hk3:kk=8->l.length=3:=fun h=>by
   have:aP kk=3:=by subst h;decide
   omega
  by_cases hz:2<=l.length
  ·obtain⟨x0,i0,_,m0⟩:=aU (l:=l) (i:=0) (by omega)
   obtain⟨x1,i1,_,m1⟩:=aU (l:=l) (i:=1) (by omega)
   have a0:=cI i0
   have a1:=cI i1
   have w0:=lJ i0
   have w1:=lJ i1
   have l0:=F.enc_len x0
   have l1:=F.enc_len x1
   have s0:=bK m0
   have s1:=bK m1
   have t0:=dN f4 x0 m0
   have t1:=dN f4 x1 m1
   have u0:=gW.1 g2 x0 m0
   have u1:=gW.1 g2 x1 m1
   have z0:(0:Int).toNat=0:=rfl
   have z1:(1:Int).toNat=1:=rfl
   have z2:(2:Int).toNat=2:=rfl
   by_cases h3:3<=l.length
   ·obtain⟨x2,i2,_,m2⟩:=aU (l:=l) (i:=2) (by omega)
    have a2:=cI i2
    have w2:=lJ i2
    have l2:=F.enc_len x2
    have s2:=bK m2
    have t2:=dN f4 x2 m2
    have u2:=gW.1 g2 x2 m2
    rw[w0,w1,w2] at hF
    simp only[ra,F.enc,e6,go_sem,seval,rg,z0,z1,z2,a0,a1,a2,l0,l1,l2,Fx,wy,Fy,wz,wA]
    repeat' (first|with_reducible assumption|with_reducible refine And.intro ?_ ?_|intro _)
    all_goals first|omega|(grind;done)|skip
   ·have h8:(kk=8)=False:=by simp;intro h;have:=hk3 h;omega
    rw[w0,w1] at hF
    simp only[ra,F.enc,e6,go_sem,seval,rg,z0,z1,z2,a0,a1,l0,l1,h8,Fx,wy,Fy,wz,wA]
    repeat' (first|with_reducible assumption|with_reducible refine And.intro ?_ ?_|intro _)
    all_goals first|omega|(grind;done)|skip
  ·have h6:(kk=6)=False:=by simp;intro h;have:=hk2 (.inl h);omega
   have h7:(kk=7)=False:=by simp;intro h;have:=hk2 (.inr h);omega
   have h8:(kk=8)=False:=by simp;intro h;have:=hk3 h;omega
   simp only[ra,F.enc,e6,go_sem,seval,rg,h6,h7,h8]
   repeat' (first|with_reducible assumption|with_reducible refine And.intro ?_ ?_|intro _)
   all_goals first|omega|(grind;done)|skip
theorem SB:∀ k,Sound Tryz.prog 50 (ig k):=fun k=>Nat.rec Sound.none (fun k ih=>SA k ih) k
noncomputable def spWayD:Spec:=Spec.of (ι:=Option F) [false] (fun i=>match i with|some t=>[.d (.agg t.enc)]|none=>[.d (.agg [])]) (fun i=>match i with|some t=>t.fit 140737488355328/\dp t|none=>False) (fun i=>match i with|some t=>[.d (.one (.bool (decide (cS t))))]|none=>[.d (.one (.bool (decide False)))]) (fun _=>[.gone])
theorem mI:∀ i j:Option F,(fun i:Option F=>(match i with|some t=>[.d (.agg t.enc)]|none=>[.d (.agg [])]:List AV)) i=(fun i:Option F=>(match i with|some t=>[.d (.agg t.enc)]|none=>[.d (.agg [])]:List AV)) j->i=j:=by
 intro i j h
 cases i with
 | none =>
   cases j with
   | none=>rfl
   | some t=>have:=congrArg List.length (show []=t.enc by simpa using h);rw[F.enc_len] at this;simp at this
 | some t =>
   cases j with
   | none=>have:=congrArg List.length (show t.enc=[] by simpa using h);rw[F.enc_len] at this;simp at this
   | some t'=>simpa [F.enc_eq] using h
theorem Fz:spWayD.md=[false]:=rfl
theorem FA:spWayD.alts=none:=rfl
theorem SC (t:F):spWayD.pre [.d (.agg t.enc)]=(t.fit 140737488355328/\dp t):=Spec.of_pre' mI (some t)
theorem FB (t:F):spWayD.res [.d (.agg t.enc)]=[.d (.one (.bool (decide (cS t))))]:=Spec.of_res mI (some t)
theorem FC (t:F):spWayD.out [.d (.agg t.enc)]=[.gone]:=Spec.of_out mI (some t)
theorem SD:spWayD.pre [.d (.agg [])]=False:=Spec.of_pre' mI none
theorem SE:spWayD.res [.d (.agg [])]=[.d (.one (.bool (decide False)))]:=Spec.of_res mI none
theorem SF:spWayD.out [.d (.agg [])]=[.gone]:=Spec.of_out mI none
theorem SG:Sound Tryz.prog 50 spWayD:=by
 rintro ds ⟨i,rfl,hi⟩ w S vs fps hG hS hF ha hA
 cases i with
 | none=>exact hi.elim
 | some t =>
   have hp:(ig (SizeOf.sizeOf t+1)).pre [.d (.agg t.enc)]:=by
    rw[wy];exact⟨hi,Nat.lt_succ_self _⟩
   refine (SB (SizeOf.sizeOf t+1) [.d (.agg t.enc)] hp w S vs fps hG hS hF ha hA).mono ?_
   rintro e w' ⟨r,o,hro,rest⟩
   obtain⟨rfl,rfl⟩:=(Spec.may_none rfl).1 hro
   rw[wz,wA] at rest
   exact⟨_,_,(Spec.may_none rfl).2 ⟨(FB t).symm,(FC t).symm⟩,rest⟩
end Go.Proofs.Pw
namespace Go.Proofs.Pw
variable [Globs]
def FD:X:=(.seq (.reg [xS 2 (.box (.t 0) (some 9)),xS 4 (.mv (.k (.c (.bool false))))] none [1,2]) (.seq (.seq (.reg [xM 6 1,xS 7 (.bin false .lss (.t 6) (xK 1)),xM 8 7,xH 9 8 (.fa (.t 2) 0),xH 10 8 (.load (.t 9) none),xH 11 8 (.call 46 [(.t 10)]),xH 12 8 (.fa (.t 2) 8),xH 13 8 (.load (.t 12) none),xH 14 8 (.len (.t 13) false),xH 15 8 (.bin false .neq (.t 11) (.t 14)),xS 16 (.pick (.t 8) (.k (.c (.bool true))) (.t 15)),xM 17 16,xH 18 17 (.load (.t 2) (some 9)),xH 19 17 (.call 47 [(.t 18)]),xH 20 17 (.not (.t 19)),xS 21 (.pick (.t 17) (.k (.c (.bool true))) (.t 20)),xM 22 21,xH 23 22 (.fa (.t 2) 2),xH 24 22 (.load (.t 23) none),xH 25 22 (.call 48 [(.t 24)]),xH 26 22 (.not (.t 25)),xS 27 (.pick (.t 22) (.k (.c (.bool true))) (.t 26)),xM 28 27,xH 29 28 (.fa (.t 2) 1),xH 30 28 (.load (.t 29) none),xH 31 28 (.bin false .lss (.t 30) (.k (.c (.int .i64 (-60))))),xS 32 (.pick (.t 28) (.k (.c (.bool true))) (.t 31)),xM 33 32,xH 34 33 (.fa (.t 2) 1),xH 35 33 (.load (.t 34) none),xH 36 33 (.bin false .geq (.t 35) (xK 60)),xS 37 (.pick (.t 33) (.k (.c (.bool true))) (.t 36)),xM 38 37,xH 39 38 (.fa (.t 2) 3),xH 40 38 (.load (.t 39) (some 5)),xH 41 38 (.call 49 [(.t 40)]),xH 42 38 (.not (.t 41)),xS 43 (.pick (.t 38) (.k (.c (.bool true))) (.t 42))] (some 9) [1,2,43]) (.cond (.t 43) (.seq (.reg [xS 4 (.mv (.k (.c (.bool false))))] none [4]) .ret) .skip)) (.seq (.seq (.reg [xS 5 (.mv (xK 0))] none [1,2,5]) (.block 0 (.loop (.seq (.seq (.reg [xM 44 5,xS 45 (.fa (.t 2) 8),xL 46 45,xS 47 (.len (.t 46) false),xS 48 (.bin false .lss (.t 44) (.t 47))] none [1,2,5,48]) (.cond (.t 48) .skip (.exit 0))) (.seq (.block 1 (.seq (.reg [xS 51 (.fa (.t 2) 8),xL 52 51,xM 53 5,xS 54 (.ia (.t 52) (.t 53) 9),xS 55 (.load (.t 54) (some 9)),xM 56 1,xS 57 (.bin false .sub (.t 56) (xK 1)),xS 58 (.call 22 [(.t 55),(.t 57)]),xS 59 (.not (.t 58))] none [1,2,5,59]) (.cond (.t 59) (.seq (.reg [xS 4 (.mv (.k (.c (.bool false))))] none [4]) .ret) .skip))) (.reg [xM 49 5,xS 50 (.bin false .add (.t 49) (xK 1)),xM 5 50] none [1,2,5])))))) (.seq (.reg [xS 60 (.fa (.t 2) 0),xL 61 60,xS 62 (.bin false .neq (.t 61) (xK 20)),xM 63 62,xH 64 63 (.fa (.t 2) 8),xH 65 63 (.load (.t 64) none),xH 66 63 (.ia (.t 65) (xK 0) 9),xH 67 63 (.load (.t 66) (some 9)),xH 68 63 (.call 50 [(.t 67)]),xS 69 (.pick (.t 63) (.k (.c (.bool true))) (.t 68)),xM 4 69] none [4]) .ret))))
theorem SH:al Tryz.prog 70 (Tryz.f22.body.getD .skip) FD=true:=by kernel_rfl
theorem SI:am Tryz.prog Tryz.f22.results.toList [.tmp 4]=true:=by kernel_rfl
theorem FE:aw Tryz.prog 22=true:=by kernel_rfl
def FF:X:=(.seq (.reg [xS 2 (.box (.t 0) (some 9)),xS 4 (.mv (xK 0))] none [1,2]) (.seq (.reg [xS 5 (.mv (xK 1))] none [1,2,5]) (.seq (.seq (.reg [xS 6 (.mv (xK 0))] none [1,2,5,6]) (.block 0 (.loop (.seq (.seq (.reg [xM 7 6,xS 8 (.fa (.t 2) 8),xL 9 8,xS 10 (.len (.t 9) false),xS 11 (.bin false .lss (.t 7) (.t 10)),xM 12 11,xG 13 12 (.mv (.t 1)),xG 14 12 (.bin false .gtr (.t 13) (xK 0)),xS 15 (.pick (.t 12) (.t 14) (.k (.c (.bool false))))] none [1,2,5,6,15]) (.cond (.t 15) .skip (.exit 0))) (.seq (.block 1 (.reg [xM 18 5,xS 19 (.fa (.t 2) 8),xL 20 19,xM 21 6,xS 22 (.ia (.t 20) (.t 21) 9),xS 23 (.load (.t 22) (some 9)),xM 24 1,xS 25 (.bin false .sub (.t 24) (xK 1)),xS 26 (.call 23 [(.t 23),(.t 25)]),xS 27 (.bin false .add (.t 18) (.t 26)),xM 5 27] none [1,2,5,6])) (.reg [xM 16 6,xS 17 (.bin false .add (.t 16) (xK 1)),xM 6 17] none [1,2,5,6])))))) (.seq (.reg [xM 28 5,xM 4 28] none [4]) .ret))))
theorem SJ:al Tryz.prog 29 (Tryz.f23.body.getD .skip) FF=true:=by kernel_rfl
theorem SK:am Tryz.prog Tryz.f23.results.toList [.tmp 4]=true:=by kernel_rfl
theorem FG:aw Tryz.prog 23=true:=by kernel_rfl
def FH:X:=(.seq (.reg [xS 1 (.box (.t 0) (some 9)),xS 2 (.mv (.k (.c (.bool false))))] none [1]) (.seq (.reg [xS 3 (.load (.t 1) (some 9)),xS 4 (.call 22 [(.t 3),(xK 7)]),xM 5 4,xG 6 5 (.load (.t 1) (some 9)),xG 7 5 (.call 23 [(.t 6),(xK 7)]),xG 8 5 (.bin false .leq (.t 7) (xK 16)),xS 9 (.pick (.t 5) (.t 8) (.k (.c (.bool false)))),xM 2 9] none [2]) .ret))
theorem SL:al Tryz.prog 10 (Tryz.f9.body.getD .skip) FH=true:=by kernel_rfl
theorem SM:am Tryz.prog Tryz.f9.results.toList [.tmp 2]=true:=by kernel_rfl
theorem wB:aw Tryz.prog 9=true:=by kernel_rfl
noncomputable def ii (k:Nat):Spec:=Spec.of (ι:=F × Int) [false,false] (fun i=>[.d (.agg i.1.enc),.d (.one (.int .i64 i.2))]) (fun i=>(i.1.fit 140737488355328/\bW i.1/\-1<=i.2/\i.2<=1000)/\SizeOf.sizeOf i.1 < k) (fun i=>[.d (.one (.bool (decide (aM i.1 i.2))))]) (fun _=>[.gone,.gone])
theorem rk:∀ i j:F × Int,(fun (i:F × Int)=>([.d (.agg i.1.enc),.d (.one (.int .i64 i.2))]:List AV)) i=(fun (i:F × Int)=>([.d (.agg i.1.enc),.d (.one (.int .i64 i.2))]:List AV)) j->i=j:=by
 rintro⟨t,d⟩ ⟨t',d'⟩ h
 simp only[Prod.mk.injEq]
 simpa [ap,T.enc_eq,aq,F.enc_eq,ar,Tk.enc_eq,au,Gn.enc_eq,ao] using h
theorem SN (k:Nat):(ii k).md=[false,false]:=rfl
theorem SO (k:Nat) (t:F) (d:Int):(ii k).pre [.d (.agg t.enc),.d (.one (.int .i64 d))]=((t.fit 140737488355328/\bW t/\-1<=d/\d<=1000)/\SizeOf.sizeOf t < k):=Spec.of_pre' rk (t,d)
theorem SP (k:Nat):(ii k).alts=none:=rfl
theorem SQ (k:Nat) (t:F) (d:Int):(ii k).res [.d (.agg t.enc),.d (.one (.int .i64 d))]=[.d (.one (.bool (decide (aM t d))))]:=Spec.of_res rk (t,d)
theorem SR (k:Nat) (t:F) (d:Int):(ii k).out [.d (.agg t.enc),.d (.one (.int .i64 d))]=[.gone,.gone]:=Spec.of_out rk (t,d)
set_option maxHeartbeats 1000000 in
theorem SS (k:Nat) (hS:Sound Tryz.prog 22 (ii k)):Sound Tryz.prog 22 (ii (k+1)):=by
 refine aQ (GOK.cons (l:=[(47,kQ),(50,spWayD),(48,jX),(49,iQ),(22,ii k)]) Ft Fw (GOK.cons Sq Sz (GOK.cons Fv SG (GOK.cons tJ tQ (GOK.cons AH AN (GOK.cons FE hS GOK.nil)))))) Tryz.func22 (c:=Tryz.f22.body.getD .skip) rfl (n:=70) rfl SH SI (fun _=>by simp) ?_ ?_
 ·exact rk
 ·rintro⟨t,d⟩ ⟨⟨h1,h2,h3,h3'⟩,h4⟩
  obtain⟨kk,n,s,v,l⟩:=t
  have hfull:=h1
  obtain⟨vk,vn,vs,vks,vl⟩:=v
  simp only[F.fit,bW] at h1 h2
  obtain⟨_,_,f1,f2,f3,f4⟩:=h1
  obtain⟨g1,g2⟩:=h2
  simp only at h3 h3'
  generalize hv:T.mk vk vn vs vks vl=v at *
  have e3 : SizeOf.sizeOf l < k := by have e : SizeOf.sizeOf (F.mk kk n s v l) < k + 1 := h4
                                      rw[F.mk.sizeOf_spec] at e;omega
  clear h4
  have e6:v.enc=[.int .i64 vk,.int .i64 vn,.str vs,.row 1 (aa vks),.row 5 (ai vl)]:=by rw[<-hv];rfl
  have hF:aM (F.mk kk n s v l) d ↔ (1<=d/\aP kk=l.length/\lL (F.mk kk n s v l)/\okS s/\-60<=n/\n < 60/\okT v/\ba l (d-1)/\(kk=20->bD l 0)):=by simp only[aM,lL]
  have p1:=AJ v
  have p2:=AL v
  have p3:=AM v
  have c1:=Sv (F.mk kk n s v l)
  have c2:=Sx (F.mk kk n s v l)
  have c3:=Sy (F.mk kk n s v l)
  rw[e6] at p1 p2 p3
  simp only[F.enc,e6,List.cons_append,List.nil_append] at c1 c2 c3
  have hlen:(l.length:Int)<=140737488355328:=f3
  simp only[FD,F.enc,e6,go_sem,seval,rg,AI,AK,p1,p2,p3,Su,Sw,c1,c2,c3,kL,kM,kN,kO,kP,tK,tM,tN,tO,tP]
  repeat' (first|with_reducible assumption|with_reducible refine And.intro ?_ ?_|intro _)
  all_goals first|omega|(grind;done)|skip
  have hb:aM (F.mk kk n s v l) d ↔ (ba l (d-1)/\(kk=20->bD l 0)):=by grind
  have hk:kk=20->l.length=2:=fun h=>by
   have e:aP kk=2:=by subst h;decide
   have:aP kk=l.length:=by grind
   omega
  have hd:1<=d:=by omega
  clear hF c1 c2 c3 p1 p2 p3 hfull
  repeat (rename_i hx;clear hx)
  refine aZ (ι:=Nat) (fun i=>l.length-i) (fun i=>i<=l.length/\∀ t ∈ l.take i,aM t (d-1))
   (fun i=>⟨[(1,.q (.c (.int .i64 d))),(2,.q (.box 2 0)),(5,.q (.c (.int .i64 i)))],[(2,[.c (.int .i64 kk),.c (.int .i64 n),.c (.str s),.c (.int .i64 vk),.c (.int .i64 vn),.c (.str vs),.c (.row 1 (aa vks)),.c (.row 5 (ai vl)),.c (.row 9 (aB l))])],[]⟩) 0 ⟨Nat.zero_le _,by simp⟩ (Le.refl _) ?_
  rintro i ⟨hi,hall⟩
  rcases Nat.lt_or_ge i l.length with hlt|hge
  ·obtain⟨t,ht,_,hmem⟩:=aU hlt
   have a1:=cI ht
   have a2:((i:Int) < (l.length:Int))=True:=by simp;omega
   have a3:=dN f4 t hmem
   have a4:=bK hmem
   have a5:=MU.1 g2 t hmem
   have a6:=F.enc_len t
   simp only[go_sem,seval,rg,a1,a2,a6,SN,SO,SP,SQ,SR]
   repeat' (first|with_reducible assumption|with_reducible refine And.intro ?_ ?_|intro _)
   all_goals first|omega|skip
   ·rename_i hc ho
    exact hc (od.1 (hb.1 ho).1 t hmem)
   ·rename_i hc _
    refine⟨i+1,⟨by omega,fun y hy=>?_⟩,by omega,Le.refl _⟩
    rw[List.take_add_one,ht] at hy
    rcases List.mem_append.1 hy with hy|hy
    ·exact hall y hy
    ·simp at hy;subst hy;exact Classical.not_not.1 hc
  ·have a2:((i:Int) < (l.length:Int))=False:=by simp;omega
   rw[List.take_of_length_le hge] at hall
   have hfl:=od.2 hall
   have z0:(0:Int).toNat=0:=rfl
   cases l with
   | nil =>
     have h20:(kk=20)=False:=by simp;intro h;have:=hk h;simp at this
     simp only[go_sem,seval,rg,a2,z0,aB,h20,Fz,FA,SD,SE,SF]
     repeat' (first|with_reducible assumption|with_reducible refine And.intro ?_ ?_|intro _)
     all_goals first|omega|(grind;done)|skip
   | cons x r =>
     have a6:=F.enc_len x
     have a7:=dN f4 x (by simp)
     have a8:=Bf (hall x (by simp))
     have a9:bD (x::r) 0=cS x:=by simp[bD]
     rw[a9] at hb
     simp only[go_sem,seval,rg,a2,z0,aB,a6,Fz,SC,FA,FB,FC]
     repeat' (first|with_reducible assumption|with_reducible refine And.intro ?_ ?_|intro _)
     all_goals first|omega|(grind;done)|skip
theorem ST:∀ k,Sound Tryz.prog 22 (ii k):=fun k=>Nat.rec Sound.none (fun k ih=>SS k ih) k
noncomputable def jn (k:Nat):Spec:=Spec.of (ι:=F × Int) [false,false] (fun i=>[.d (.agg i.1.enc),.d (.one (.int .i64 i.2))]) (fun i=>(i.1.fit 140737488355328/\aJ i.1<=1048577/\-1<=i.2/\i.2<=1000)/\SizeOf.sizeOf i.1 < k) (fun i=>[.d (.one (.int .i64 (ej i.1 i.2)))]) (fun _=>[.gone,.gone])
theorem rn:∀ i j:F × Int,(fun (i:F × Int)=>([.d (.agg i.1.enc),.d (.one (.int .i64 i.2))]:List AV)) i=(fun (i:F × Int)=>([.d (.agg i.1.enc),.d (.one (.int .i64 i.2))]:List AV)) j->i=j:=by
 rintro⟨t,d⟩ ⟨t',d'⟩ h
 simp only[Prod.mk.injEq]
 simpa [ap,T.enc_eq,aq,F.enc_eq,ar,Tk.enc_eq,au,Gn.enc_eq,ao] using h
theorem SU (k:Nat):(jn k).md=[false,false]:=rfl
theorem SW (k:Nat) (t:F) (d:Int):(jn k).pre [.d (.agg t.enc),.d (.one (.int .i64 d))]=((t.fit 140737488355328/\aJ t<=1048577/\-1<=d/\d<=1000)/\SizeOf.sizeOf t < k):=Spec.of_pre' rn (t,d)
theorem SX (k:Nat):(jn k).alts=none:=rfl
theorem SY (k:Nat) (t:F) (d:Int):(jn k).res [.d (.agg t.enc),.d (.one (.int .i64 d))]=[.d (.one (.int .i64 (ej t d)))]:=Spec.of_res rn (t,d)
theorem SZ (k:Nat) (t:F) (d:Int):(jn k).out [.d (.agg t.enc),.d (.one (.int .i64 d))]=[.gone,.gone]:=Spec.of_out rn (t,d)
theorem Ta (k:Nat) (hS:Sound Tryz.prog 23 (jn k)):Sound Tryz.prog 23 (jn (k+1)):=by
 refine aQ (GOK.cons FG hS GOK.nil) Tryz.func23 (c:=Tryz.f23.body.getD .skip) rfl (n:=29) rfl SJ SK (fun _=>by simp) ?_ ?_
 ·exact rn
 ·rintro⟨t,d⟩ ⟨⟨h1,h2,h3,h3'⟩,h4⟩
  obtain⟨kk,n,s,v,l⟩:=t
  obtain⟨vk,vn,vs,vks,vl⟩:=v
  simp only[F.fit,ab] at h1
  obtain⟨_,_,f1,f2,f3,f4⟩:=h1
  generalize hv:T.mk vk vn vs vks vl=v at *
  have e3 : SizeOf.sizeOf l < k := by have e : SizeOf.sizeOf (F.mk kk n s v l) < k + 1 := h4
                                      rw[F.mk.sizeOf_spec] at e;omega
  clear h4
  have e6:v.enc=[.int .i64 vk,.int .i64 vn,.str vs,.row 1 (aa vks),.row 5 (ai vl)]:=by rw[<-hv];rfl
  simp only[aJ] at h2 h3 h3'
  simp only[FF,F.enc,e6,go_sem,seval,rg,ej]
  refine aZ (ι:=Nat × Int) (fun i=>l.length-i.1) (fun i=>i.1<=l.length/\1<=i.2/\i.2+eo (l.drop i.1) d=1+eo l d/\i.2+aD (l.drop i.1)<=1+aD l)
   (fun i=>⟨[(1,.q (.c (.int .i64 d))),(2,.q (.box 2 0)),(5,.q (.c (.int .i64 i.2))),(6,.q (.c (.int .i64 i.1)))],[(2,[.c (.int .i64 kk),.c (.int .i64 n),.c (.str s),.c (.int .i64 vk),.c (.int .i64 vn),.c (.str vs),.c (.row 1 (aa vks)),.c (.row 5 (ai vl)),.c (.row 9 (aB l))])],[]⟩) (0,1) ⟨Nat.zero_le _,by simp,by simp,by simp⟩ (Le.refl _) ?_
  rintro⟨i,m⟩ ⟨hi,hm,hsum,hsz⟩
  simp only at hi hm hsum hsz
  have hz:=fun l=>fX l d
  rcases Nat.lt_or_ge i l.length with hlt|hge
  ·obtain⟨t,ht,hdr,hmem⟩:=aU hlt
   have a1:=cI ht
   have a2:((i:Int) < (l.length:Int))=True:=by simp;omega
   have a3:=dN f4 t hmem
   have a4:=bK hmem
   have a5:=Bh ht
   have a6:=F.enc_len t
   have a7:=uf t (d-1)
   have a8:=hz (l.drop (i+1))
   rw[hdr] at hsum hsz
   simp only[eo,aD] at hsum hsz
   simp only[go_sem,seval,rg,a1,a2,a6,SU,SW,SX,SY,SZ]
   repeat' (first|with_reducible assumption|with_reducible refine And.intro ?_ ?_|intro _)
   all_goals first|omega|skip
   rename_i hd _ _
   rw[if_pos (by omega)] at hsum
   exact⟨(i+1,m+ej t (d-1)),⟨by simp only;omega,by simp only;omega,by simp only;omega,by simp only;omega⟩,by simp only;omega,Le.refl _⟩
  ·have a2:((i:Int) < (l.length:Int))=False:=by simp;omega
   rw[List.drop_eq_nil_of_le hge] at hsum
   simp only[eo] at hsum
   simp only[go_sem,seval,rg,a2]
   repeat' (first|with_reducible assumption|with_reducible refine And.intro ?_ ?_|intro _)
   all_goals first|omega|skip
theorem Tb:∀ k,Sound Tryz.prog 23 (jn k):=fun k=>Nat.rec Sound.none (fun k ih=>Ta k ih) k
noncomputable def mJ :Spec:=Spec.of (ι:=F × Int) [false,false] (fun i=>[.d (.agg i.1.enc),.d (.one (.int .i64 i.2))]) (fun i=>i.1.fit 140737488355328/\bW i.1/\-1<=i.2/\i.2<=1000) (fun i=>[.d (.one (.bool (decide (aM i.1 i.2))))]) (fun _=>[.gone,.gone])
theorem wC:∀ i j:F × Int,(fun (i:F × Int)=>([.d (.agg i.1.enc),.d (.one (.int .i64 i.2))]:List AV)) i=(fun (i:F × Int)=>([.d (.agg i.1.enc),.d (.one (.int .i64 i.2))]:List AV)) j->i=j:=by
 rintro⟨t,d⟩ ⟨t',d'⟩ h
 simp only[Prod.mk.injEq]
 simpa [ap,T.enc_eq,aq,F.enc_eq,ar,Tk.enc_eq,au,Gn.enc_eq,ao] using h
theorem Tc :(mJ).md=[false,false]:=rfl
theorem Td  (t:F) (d:Int):(mJ).pre [.d (.agg t.enc),.d (.one (.int .i64 d))]=(t.fit 140737488355328/\bW t/\-1<=d/\d<=1000):=Spec.of_pre' wC (t,d)
theorem Te :(mJ).alts=none:=rfl
theorem Tf  (t:F) (d:Int):(mJ).res [.d (.agg t.enc),.d (.one (.int .i64 d))]=[.d (.one (.bool (decide (aM t d))))]:=Spec.of_res wC (t,d)
theorem Tg  (t:F) (d:Int):(mJ).out [.d (.agg t.enc),.d (.one (.int .i64 d))]=[.gone,.gone]:=Spec.of_out wC (t,d)
noncomputable def kR :Spec:=Spec.of (ι:=F × Int) [false,false] (fun i=>[.d (.agg i.1.enc),.d (.one (.int .i64 i.2))]) (fun i=>i.1.fit 140737488355328/\aJ i.1<=1048577/\-1<=i.2/\i.2<=1000) (fun i=>[.d (.one (.int .i64 (ej i.1 i.2)))]) (fun _=>[.gone,.gone])
theorem wD:∀ i j:F × Int,(fun (i:F × Int)=>([.d (.agg i.1.enc),.d (.one (.int .i64 i.2))]:List AV)) i=(fun (i:F × Int)=>([.d (.agg i.1.enc),.d (.one (.int .i64 i.2))]:List AV)) j->i=j:=by
 rintro⟨t,d⟩ ⟨t',d'⟩ h
 simp only[Prod.mk.injEq]
 simpa [ap,T.enc_eq,aq,F.enc_eq,ar,Tk.enc_eq,au,Gn.enc_eq,ao] using h
theorem Th :(kR).md=[false,false]:=rfl
theorem Ti  (t:F) (d:Int):(kR).pre [.d (.agg t.enc),.d (.one (.int .i64 d))]=(t.fit 140737488355328/\aJ t<=1048577/\-1<=d/\d<=1000):=Spec.of_pre' wD (t,d)
theorem Tj :(kR).alts=none:=rfl
theorem Tl  (t:F) (d:Int):(kR).res [.d (.agg t.enc),.d (.one (.int .i64 d))]=[.d (.one (.int .i64 (ej t d)))]:=Spec.of_res wD (t,d)
theorem Tm  (t:F) (d:Int):(kR).out [.d (.agg t.enc),.d (.one (.int .i64 d))]=[.gone,.gone]:=Spec.of_out wD (t,d)
theorem Tn:Sound Tryz.prog 22 mJ:=Sound.all (μ:=fun i=>SizeOf.sizeOf i.1) ST
theorem To:Sound Tryz.prog 23 kR:=Sound.all (μ:=fun i=>SizeOf.sizeOf i.1) Tb
noncomputable def ij :Spec:=Spec.of (ι:=F) [false] (fun i=>[.d (.agg i.enc)]) (fun i=>i.fit 140737488355328/\bW i/\aJ i<=1048577) (fun i=>[.d (.one (.bool (decide (okF i))))]) (fun _=>[.gone])
theorem ro:∀ i j:F,(fun (i:F)=>([.d (.agg i.enc)]:List AV)) i=(fun (i:F)=>([.d (.agg i.enc)]:List AV)) j->i=j:=by
 intro t t' h
 simpa [ap,T.enc_eq,aq,F.enc_eq,ar,Tk.enc_eq,au,Gn.enc_eq,ao] using h
theorem gq :(ij).md=[false]:=rfl
theorem gr  (t:F):(ij).pre [.d (.agg t.enc)]=(t.fit 140737488355328/\bW t/\aJ t<=1048577):=Spec.of_pre' ro t
theorem gt :(ij).alts=none:=rfl
theorem gu  (t:F):(ij).res [.d (.agg t.enc)]=[.d (.one (.bool (decide (okF t))))]:=Spec.of_res ro t
theorem gv  (t:F):(ij).out [.d (.agg t.enc)]=[.gone]:=Spec.of_out ro t
theorem wE:Sound Tryz.prog 9 ij:=by
 refine aQ (GOK.cons (l:=[(23,kR)]) FE Tn (GOK.cons FG To GOK.nil)) Tryz.func9 (c:=Tryz.f9.body.getD .skip) rfl (n:=10) rfl SL SM (fun _=>by simp) ?_ ?_
 ·exact ro
 ·rintro t ⟨h1,h2,h3⟩
  have a6:=F.enc_len t
  simp only[FH,go_sem,seval,rg,a6,Tc,Td,Te,Tf,Tg,Th,Ti,Tj,Tl,Tm]
  repeat' (first|with_reducible assumption|with_reducible refine And.intro ?_ ?_|intro _)
  all_goals first|omega|skip
  exact decide_eq_decide.2 Iff.rfl
end Go.Proofs.Pw
