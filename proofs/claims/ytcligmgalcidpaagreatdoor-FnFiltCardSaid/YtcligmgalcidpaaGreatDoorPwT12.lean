/- Rows, grouped by what stands under a key. -/
import Derived.Test.YtcligmgalcidpaaGreatDoorPwT11
import Derived.Lib.ItoaLen
import Derived.Lib.Join
set_option linter.unusedSimpArgs false
set_option linter.unusedVariables false
set_option linter.unusedSectionVars false
set_option maxRecDepth 20000
namespace Go.Proofs.Pw
variable [Globs]
def ba (x:ByteArray):Nat->List ByteArray->Int
 | _,[]=>-1
 | i,y::r=>if x=y then i else ba x (i+1) r
theorem wc {x:ByteArray}:∀ {l:List ByteArray} {i:Nat},-1<=ba x i l/\ba x i l < i+l.length
 | [],i=>by simp[ba];omega
 | y::r,i=>by
   have:=wc (x:=x) (l:=r) (i:=i+1)
   simp only[ba,List.length_cons]
   split <;> omega
open Classical in
noncomputable def Qg (key:ByteArray) (v:T):T:=if v.kind=6/\0<=ba key 0 v.keys then v.list.getD (ba key 0 v.keys).toNat T.zero else T.zero
def wd (v:T):Prop:=v.kind=6\/v.kind=0
noncomputable instance (v:T):Decidable (wd v):=Classical.propDecidable _
noncomputable def Dy (key:ByteArray) (l:List T):List T:=l.map (Qg key)
def Qh (v:T) (key:ByteArray):Prop:=vZ v/\okS key/\∀ x ∈ v.list,wd x
noncomputable instance (v:T) (key:ByteArray):Decidable (Qh v key):=Classical.propDecidable _
end Go.Proofs.Pw
namespace Go.Proofs.Pw
def Asc (ks:List ByteArray):Prop:=ks.Pairwise sl
theorem Asc.tail {k:ByteArray} {ks:List ByteArray} (h:Asc (k::ks)):Asc ks:=(List.pairwise_cons.1 h).2
theorem Asc.head {k:ByteArray} {ks:List ByteArray} (h:Asc (k::ks)):∀ s ∈ ks,sl k s:=(List.pairwise_cons.1 h).1
end Go.Proofs.Pw
namespace Go.Proofs.Pw
mutual
theorem Dz:∀ (t:T) (d:Int),aO t d->cB t d=aB t
 | .mk k n s ks l,d,h=>by
   simp only[aO] at h
   simp only[cB,aB]
   rw[DA l d h.1 h.2.2.2.2.2.2.2.2.2.2.2]
theorem DA:∀ (l:List T) (d:Int),1<=d->aP l (d-1)->co l d=az l
 | [],d,_,_=>by simp[co,az]
 | t::l,d,hd,h=>by
   simp only[aP] at h
   simp only[co,az]
   rw[if_pos (by omega),Dz t (d-1) h.1,DA l d hd h.2]
end
theorem jJ {t:T} (h:okT t):aB t<=60:=by rw[<-Dz t 6 h.1];exact h.2
theorem DB:∀ l:List T,(l.length:Int)<=az l
 | []=>by simp[az]
 | t::l=>by
   have h1:=DB l
   have h2:1<=aB t:=by obtain⟨k,n,s,ks,r⟩:=t;have:=iz r 0;simp only[aB];omega
   simp only[az,List.length_cons];omega
theorem we (t:T):1<=aB t:=by obtain⟨k,n,s,ks,r⟩:=t;have:=iz r 0;simp only[aB];omega
theorem wg (l:List T):0<=az l:=by have:=iz l 0;omega
mutual
theorem DC:∀ (t:T) (d:Int),aO t d->aB t<=60->t.fit 60
 | .mk k n s ks l,d,h,hs=>by
   simp only[aO] at h
   obtain⟨h1,h2,h3,h4,h5,h6,h7,h8,h9,h10,h11,h12⟩:=h
   simp only[aB] at hs
   have hl:=DB l
   have h13:=h10.2
   refine⟨by unfold i64;omega,by unfold i64;omega,by unfold aa;omega,⟨?_,?_⟩,by unfold aa;omega,DD l (d-1) h12 (by omega)⟩
   ·rcases h4 with rfl|rfl
    ·have:=(h11 rfl).1
     unfold aa;omega
    ·simp[aa]
   ·intro x hx
    rcases h4 with rfl|rfl
    ·obtain⟨i,hi⟩:=List.getElem?_of_mem hx
     have:=(gP (h11 rfl).2 hi).2
     unfold aa;omega
    ·simp at hx
theorem DD:∀ (l:List T) (d:Int),aP l d->az l<=59->bt 60 l
 | [],_,_,_=>trivial
 | t::l,d,h,hs=>by
   simp only[aP] at h
   simp only[az] at hs
   have h1:=we t
   have h2:=wg l
   exact⟨DC t d h.1 (by omega),DD l d h.2 (by omega)⟩
end
theorem Qi {t:T} (h:okT t):t.fit 60:=DC t 6 h.1 (jJ h)
end Go.Proofs.Pw
namespace Go.Proofs.Pw
open Go
def bL (l:List UInt8):ByteArray:=⟨l.toArray⟩
theorem mS (a b:List UInt8):bL (a++b)=bL a++bL b:=by
 unfold bL
 apply ByteArray.ext
 simp[ByteArray.data_append]
theorem jK (s:ByteArray):bL s.data.toList=s:=by cases s;simp[bL]
theorem bM (l:List UInt8):(bL l).size=l.length:=by simp[bL,ByteArray.size]
theorem iG (l:List UInt8):(bL l).data.toList=l:=by simp[bL]
theorem eb (a b c:ByteArray):a++b++c=a++(b++c):=ByteArray.append_assoc
theorem pn (a:ByteArray):⟨#[]⟩++a=a:=by
 apply ByteArray.ext
 simp[ByteArray.data_append]
theorem jL (a:ByteArray):a++⟨#[]⟩=a:=by
 apply ByteArray.ext
 simp[ByteArray.data_append]
def cR (n:Int):ByteArray:=bL (Lib.itoa n)
def bP (xs:List ByteArray) (sep:ByteArray):ByteArray:=bL (Lib.join (xs.map (·.data.toList)) sep.data.toList)
theorem po {n:Int} (h0:-9223372036854775808<=n) (h1:n<=9223372036854775807):(cR n).size<=21:=by
 unfold cR
 rw[bM];exact Lib.itoa_length_le n h0 h1
theorem Qj (sep:List UInt8) (a b:List (List UInt8)):Lib.joinTail sep (a++b)=Lib.joinTail sep a++Lib.joinTail sep b:=by simp[Lib.joinTail]
theorem rA (sep:ByteArray):bP [] sep=⟨#[]⟩:=rfl
theorem Qk (x sep:ByteArray):bP [x] sep=x:=by
 unfold bP
 simp only[List.map_cons,List.map_nil,Lib.join_one,jK]
theorem Ql {xs:List ByteArray} (h:xs≠[]) (y sep:ByteArray):bP (xs++[y]) sep=bP xs sep++sep++y:=by
 cases xs with
 | nil=>exact absurd rfl h
 | cons x r =>
   unfold bP
   simp only[List.map_append,List.map_cons,List.map_nil,List.cons_append,Lib.join_cons,Qj]
   rw[mS,mS,mS,eb,eb]
   congr 2
   simp only[Lib.joinTail,List.map_cons,List.map_nil,List.flatten_cons,List.flatten_nil,List.append_nil]
   rw[mS,jK,jK]
def dJ:List ByteArray->Nat
 | []=>0
 | x::r=>x.size+dJ r
theorem Qm (a b:List ByteArray):dJ (a++b)=dJ a+dJ b:=by
 induction a with
 | nil=>simp[dJ]
 | cons x a ih=>simp only[List.cons_append,dJ,ih];omega
theorem ft (x:ByteArray):x.data.toList.length=x.size:=Array.length_toList
theorem Qn (xs:List ByteArray):Lib.lens (xs.map (·.data.toList))=dJ xs:=by
 induction xs with
 | nil=>rfl
 | cons x r ih =>
   simp only[Lib.lens,List.map_cons,List.sum_cons,dJ] at ih ⊢
   rw[ih,ft]
theorem DE (sep:ByteArray) (xs:List ByteArray):(bP xs sep).size<=dJ xs+xs.length*sep.size:=by
 cases xs with
 | nil=>rw[rA];exact Nat.zero_le _
 | cons x r =>
   unfold bP
   rw[bM,List.map_cons,Lib.join_cons,List.length_append,Lib.joinTail_length,Qn]
   simp only[List.length_map,dJ,List.length_cons,Nat.add_mul,Nat.one_mul]
   have e1:x.data.toList.length=x.size:=ft x
   have e2:sep.data.toList.length=sep.size:=ft sep
   rw[e1,e2,Nat.mul_comm sep.size];omega
mutual
def aA:T->ByteArray
 | .mk k n s ks l=>if k=0 then ⟨#[110,117,108,108]⟩ else if k=1 then ⟨#[102,97,108,115,101]⟩ else if k=2 then ⟨#[116,114,117,101]⟩ else if k=3 then cR n
   else if k=4 then ⟨#[39]⟩++s++⟨#[39]⟩ else if k=6 then ⟨#[123]⟩++bP (bq k ks l) ⟨#[44]⟩++⟨#[125]⟩ else ⟨#[91]⟩++bP (bq k ks l) ⟨#[44]⟩++⟨#[93]⟩
def bq (k:Int):List ByteArray->List T->List ByteArray
 | _,[]=>[]
 | ks,t::l=>(if k=6 then ks.headD ⟨#[]⟩++⟨#[58]⟩++aA t else aA t)::bq k ks.tail l
end
theorem jM (k:Int):∀ (ks:List ByteArray) (l:List T),(bq k ks l).length=l.length
 | _,[]=>by simp[bq]
 | ks,t::l=>by simp[bq,jM k ks.tail l]
theorem wh (k:Int):∀ (l:List T) (ks:List ByteArray) (i:Nat) (t:T),l[i]?=some t->(bq k ks l).take (i+1)=(bq k ks l).take i++[if k=6 then ks.getD i ⟨#[]⟩++⟨#[58]⟩++aA t else aA t]
 | [],_,_,_,h=>by simp at h
 | x::l,ks,0,t,h=>by
   simp at h;subst h
   cases ks <;> simp[bq]
 | x::l,ks,i+1,t,h=>by
   have:=wh k l ks.tail i t (by simpa using h)
   simp only[bq,List.take_succ_cons,List.cons_append]
   rw[this]
   cases ks <;> simp
mutual
theorem rB:∀ {t:T} {d:Int},aO t d->((aA t).size:Int)+14<=40*aB t
 | .mk k n s ks l,d,h=>by
   simp only[aO] at h
   obtain⟨h1,h2,h3,h4,h5,h6,h7,h8,h9,h10,h11,h12⟩:=h
   have hs:=h10.2
   have hn:=po (n:=n) (by omega) (by omega)
   have hl:=wi (k:=k) (ks:=ks) (fun s hs=>by
    rcases h4 with h4|h4
    ·obtain⟨i,hi⟩:=List.getElem?_of_mem hs
     exact (gP (h11 h4).2 hi).2
    ·subst h4;simp at hs) h12
   have hp:=wg l
   have hj:=DE ⟨#[44]⟩ (bq k ks l)
   rw[jM] at hj
   have hc:(ByteArray.mk #[44]).size=1:=rfl
   rw[hc] at hj
   have e1:(ByteArray.mk #[39]).size=1:=rfl
   have e2:(ByteArray.mk #[123]).size=1:=rfl
   have e3:(ByteArray.mk #[125]).size=1:=rfl
   have e4:(ByteArray.mk #[91]).size=1:=rfl
   have e5:(ByteArray.mk #[93]).size=1:=rfl
   have e6:(ByteArray.mk #[110,117,108,108]).size=4:=rfl
   have e7:(ByteArray.mk #[102,97,108,115,101]).size=5:=rfl
   have e8:(ByteArray.mk #[116,114,117,101]).size=4:=rfl
   simp only[aA,aB]
   repeat' split
   all_goals try simp only[ByteArray.size_append,e1,e2,e3,e4,e5,e6,e7,e8]
   all_goals omega
theorem wi {k:Int}:∀ {ks:List ByteArray} {l:List T} {d:Int},(∀ s ∈ ks,s.size<=12)->aP l d->(dJ (bq k ks l):Int)+l.length<=40*az l
 | _,[],_,_,_=>by simp[bq,dJ,az]
 | ks,t::l,d,hk,h=>by
   simp only[aP] at h
   have h1:=rB h.1
   have h2:=wi (k:=k) (ks:=ks.tail) (fun s hs=>hk s (List.mem_of_mem_tail hs)) h.2
   have h3:(ks.headD ⟨#[]⟩).size<=12:=by
    cases ks with
    | nil=>decide
    | cons a r=>exact hk a (by simp)
   have e1:(ByteArray.mk #[58]).size=1:=rfl
   simp only[bq,dJ,az,List.length_cons]
   split
   ·rw[ByteArray.size_append,ByteArray.size_append,e1];omega
   ·omega
end
theorem Qo {l:List T} {t:T} (h:t ∈ l):aB t<=az l:=by
 induction l with
 | nil=>simp at h
 | cons x l ih =>
   have:=wg l;have:=we x
   simp only[az]
   rcases List.mem_cons.1 h with rfl|h
   ·omega
   ·have:=ih h;omega
theorem gQ:∀ l:List T,(l.length:Int)<=az l
 | []=>by simp[az]
 | t::l=>by have:=we t;have:=gQ l;simp only[List.length_cons,az];omega
theorem Qp (l:List ByteArray) (i:Nat):dJ (l.take i)<=dJ l:=by
 have h:=Qm (l.take i) (l.drop i)
 rw[List.take_append_drop] at h
 omega
theorem wj:(ByteArray.mk #[44]).size=1:=rfl
theorem DF {k:Int} {ks:List ByteArray} {l:List T} {d:Int} (hk:∀ s ∈ ks,s.size<=12) (h:aP l d) (hs:az l<=60) (i:Nat):(bP ((bq k ks l).take i) ⟨#[44]⟩).size<=2400:=by
 have h1:=wi (k:=k) (ks:=ks) hk h
 have h2:=DE ⟨#[44]⟩ ((bq k ks l).take i)
 have h3:=Qp (bq k ks l) i
 have h4:((bq k ks l).take i).length<=l.length:=by rw[List.length_take,jM];omega
 rw[wj] at h2
 omega
theorem Qq {xs:List ByteArray} {i:Nat} {y:ByteArray} (h:xs.take (i+1)=xs.take i++[y]) (hl:i < xs.length):bP (xs.take (i+1)) ⟨#[44]⟩=if i=0 then y else bP (xs.take i) ⟨#[44]⟩++⟨#[44]⟩++y:=by
 rw[h]
 split
 ·rename_i h0;subst h0
  simp only[List.take_zero,List.nil_append,Qk]
 ·rename_i h0
  exact Ql (fun e=>by have:=congrArg List.length e;rw[List.length_take,List.length_nil] at this;omega) _ _
theorem DG {k n:Int} {s:ByteArray} {ks:List ByteArray} {l:List T} {d:Int} (h:aO (.mk k n s ks l) d):∀ s ∈ ks,s.size<=12:=fun s hs=>by
 simp only[aO] at h
 obtain⟨h1,h2,h3,h4,h5,h6,h7,h8,h9,h10,h11,h12⟩:=h
 rcases h4 with h4|h4
 ·obtain⟨i,hi⟩:=List.getElem?_of_mem hs
  exact (gP (h11 h4).2 hi).2
 ·subst h4;simp at hs
def jN (u:Nat):ByteArray:=bL (Lib.decDigits u)
theorem Qr {n:Int} (h:n < 0):cR n=⟨#[45]⟩++cR (0-n):=by
 unfold cR Lib.itoa
 rw[if_pos h,if_neg (by omega)]
 have e:(0-n).toNat=n.natAbs:=by omega
 rw[e,show (45::Lib.decDigits n.natAbs)=[45]++Lib.decDigits n.natAbs from rfl,mS]
 rfl
theorem Qs {n:Int} (h:0<=n):cR n=jN n.toNat:=by
 unfold cR Lib.itoa jN
 rw[if_neg (by omega)]
theorem Qt {u:Nat} (h:u < 10):jN u=gD [((48+u:Nat):Int)]:=by
 unfold jN
 rw[Lib.decDigits,dif_pos h]
 rfl
theorem Qu {u:Nat} (h:¬ u < 10) (out:ByteArray):jN u++out=jN (u / 10)++(gD [((48+u % 10:Nat):Int)]++out):=by
 unfold jN
 rw[Lib.decDigits,dif_neg h,mS,eb]
 rfl
def wtab:List ByteArray:=[⟨#[]⟩,⟨#[46]⟩,⟨#[]⟩,⟨#[]⟩,⟨#[]⟩,⟨#[91,93]⟩,⟨#[112,105,112,101]⟩,⟨#[98,111,116,104]⟩,⟨#[105,102]⟩,⟨#[97,100,100]⟩,⟨#[108,101,115,115]⟩,⟨#[115,97,109,101]⟩,⟨#[114,111,119]⟩,⟨#[108,101,110]⟩,⟨#[107,101,121,115]⟩,⟨#[110,111,116]⟩,⟨#[101,108,115,101]⟩,⟨#[116,114,121]⟩,⟨#[110,111,110,101]⟩,⟨#[98,97,100]⟩,⟨#[116,117,114,110]⟩,⟨#[]⟩]
def cv:C:=.row 1 (ae wtab)
theorem DH {i:Nat} (h:i < 22):wtab[i]?=some (wtab.getD i ⟨#[]⟩):=by
 have h':i < wtab.length:=h
 simp[List.getD,List.getElem?_eq_getElem h']
theorem Qv:∀ i:Fin 22,(wtab.getD i.val ⟨#[]⟩).size<=4:=by decide
def aR (k n:Int) (s:ByteArray) (v:T):ByteArray :=
 if k=2 then ⟨#[61]⟩++aA v else if k=3 then ⟨#[46]⟩++s++⟨#[58]⟩ else if k=4 then ⟨#[91]⟩++cR n++⟨#[93]⟩ else if k=21 then ⟨#[109,97,107,101,58]⟩++s else wtab.getD k.toNat ⟨#[]⟩
mutual
def bi:F->ByteArray
 | .mk k n s v l=>aR k n s v++bu l
def bu:List F->ByteArray
 | []=>⟨#[]⟩
 | t::l=>⟨#[32]⟩++bi t++bu l
end
theorem DI:∀ a b:List F,bu (a++b)=bu a++bu b
 | [],b=>by simp[bu,pn]
 | t::a,b=>by simp only[List.cons_append,bu,DI a b,eb]
theorem mT {l:List F} {i:Nat} {t:F} (h:l[i]?=some t):bu (l.take (i+1))=bu (l.take i)++(⟨#[32]⟩++bi t):=by
 rw[List.take_add_one,h,DI]
 simp[bu,jL]
theorem wk {k n:Int} {s:ByteArray} {v:T} (hk:0<=k/\k<=21) (hn:-60<=n/\n < 60) (hs:s.size<=12) (hv:okT v):(aR k n s v).size<=2402:=by
 have h1:=rB hv.1
 have h2:=jJ hv
 have h3:=po (n:=n) (by omega) (by omega)
 have h4:=Qv ⟨k.toNat,by omega⟩
 simp only at h4
 have e1:(ByteArray.mk #[61]).size=1:=rfl
 have e2:(ByteArray.mk #[46]).size=1:=rfl
 have e3:(ByteArray.mk #[58]).size=1:=rfl
 have e4:(ByteArray.mk #[91]).size=1:=rfl
 have e5:(ByteArray.mk #[93]).size=1:=rfl
 have e6:(ByteArray.mk #[109,97,107,101,58]).size=5:=rfl
 unfold aR
 repeat' split
 all_goals try simp only[ByteArray.size_append,e1,e2,e3,e4,e5,e6]
 all_goals omega
mutual
theorem DJ:∀ {t:F} {d:Int},aU t d->((bi t).size:Int)+1<=2500*aX t
 | .mk k n s v l,d,h=>by
   simp only[aU] at h
   obtain⟨h1,h2,h3,h4,h5,h6,h7,h8,h9⟩:=h
   have h10:=ph (show 0<=aH k by omega)
   have a:=wk (s:=s) (v:=v) (show 0<=k/\k<=21 by omega) ⟨h5,h6⟩ h4.2 h7
   have b:=rC h8
   have c:=iF l 0
   simp only[bi,aX,ByteArray.size_append];omega
theorem rC:∀ {l:List F} {d:Int},bA l d->((bu l).size:Int)<=2500*aI l
 | [],_,_=>by simp[bu,aI,ByteArray.size]
 | t::l,d,h=>by
   simp only[bA] at h
   have h1:=DJ h.1
   have h2:=rC h.2
   have e1:(ByteArray.mk #[32]).size=1:=rfl
   simp only[bu,aI,ByteArray.size_append,e1];omega
end
theorem wm:∀ l:List F,(l.length:Int)<=aI l
 | []=>by simp[aI]
 | .mk _ _ _ _ r::l=>by have:=iF r 0;have:=wm l;simp only[List.length_cons,aI,aX];omega
theorem DK {l:List F} {d:Int} (h:bA l d) (i:Nat):bA (l.take i) d:=pg.2 fun t ht=>pg.1 h t (List.mem_of_mem_take ht)
theorem wn:∀ (l:List F) (i:Nat),aI (l.take i)<=aI l
 | [],i=>by simp[aI]
 | t::l,0=>by have:=iF (t::l) 0;simp only[List.take_zero,aI] at *;omega
 | t::l,i+1=>by have:=wn l i;simp only[List.take_succ_cons,aI];omega
def fu (t:F):Prop:=(∃ d,aU t d)/\aX t<=16
theorem wo {t:F} (h:okF t):fu t:=⟨⟨_,h.1⟩,by rw[<-ro _ _ h.1];exact h.2⟩
theorem DM {k n:Int} {s:ByteArray} {v:T} {l:List F} (h:fu (.mk k n s v l)) {t:F} (ht:t ∈ l):fu t:=by
 obtain⟨⟨d,h1⟩,h2⟩:=h
 simp only[aU] at h1
 simp only[aX] at h2
 obtain⟨i,hi⟩:=List.getElem?_of_mem ht
 exact⟨⟨_,pg.1 h1.2.2.2.2.2.2.2.1 t ht⟩,by have:=Dc hi;omega⟩
theorem iH {t:F} (h:fu t):(bi t).size<=40000:=by
 obtain⟨⟨d,h1⟩,h2⟩:=h
 have:=DJ h1;omega
noncomputable def cj (t:F):ByteArray:=if okF t then bi t else ⟨#[]⟩
end Go.Proofs.Pw
