/- Rows, grouped by what stands under a key. -/
import Derived.Test.YtcligmgalcidpaaGreatDoorPwT11
import Derived.Lib.ItoaLen
import Derived.Lib.Join
set_option linter.unusedSimpArgs false
set_option linter.unusedVariables false
set_option linter.unusedSectionVars false
set_option maxRecDepth 20000
namespace Go.Proofs.Pw
variable [Globs]
def bA (x:ByteArray):Nat->List ByteArray->Int
 | _,[]=>-1
 | i,y::r=>if x=y then i else bA x (i+1) r
theorem uk {x:ByteArray}:∀ {l:List ByteArray} {i:Nat},-1<=bA x i l/\bA x i l < i+l.length
 | [],i=>by simp[bA];omega
 | y::r,i=>by
   have:=uk (x:=x) (l:=r) (i:=i+1)
   simp only[bA,List.length_cons]
   split <;> omega
open Classical in
noncomputable def Nj (key:ByteArray) (v:T):T:=if v.kind=6/\0<=bA key 0 v.keys then v.list.getD (bA key 0 v.keys).toNat T.zero else T.zero
def ul (v:T):Prop:=v.kind=6\/v.kind=0
noncomputable instance (v:T):Decidable (ul v):=Classical.propDecidable _
noncomputable def BE (key:ByteArray) (l:List T):List T:=l.map (Nj key)
def Nk (v:T) (key:ByteArray):Prop:=ui v/\okS key/\∀ x ∈ v.list,ul x
noncomputable instance (v:T) (key:ByteArray):Decidable (Nk v key):=Classical.propDecidable _
end Go.Proofs.Pw
namespace Go.Proofs.Pw
def Asc (ks:List ByteArray):Prop:=ks.Pairwise sl
theorem Asc.tail {k:ByteArray} {ks:List ByteArray} (h:Asc (k::ks)):Asc ks:=(List.pairwise_cons.1 h).2
theorem Asc.head {k:ByteArray} {ks:List ByteArray} (h:Asc (k::ks)):∀ s ∈ ks,sl k s:=(List.pairwise_cons.1 h).1
end Go.Proofs.Pw
namespace Go.Proofs.Pw
mutual
theorem BF:∀ (t:T) (d:Int),aK t d->cr t d=aA t
 | .mk k n s ks l,d,h=>by
   simp only[aK] at h
   simp only[cr,aA]
   rw[BG l d h.1 h.2.2.2.2.2.2.2.2.2.2.2]
theorem BG:∀ (l:List T) (d:Int),1<=d->aL l (d-1)->bV l d=av l
 | [],d,_,_=>by simp[bV,av]
 | t::l,d,hd,h=>by
   simp only[aL] at h
   simp only[bV,av]
   rw[if_pos (by omega),BF t (d-1) h.1,BG l d hd h.2]
end
theorem lQ {t:T} (h:okT t):aA t<=60:=by rw[<-BF t 6 h.1];exact h.2
theorem BH:∀ l:List T,(l.length:Int)<=av l
 | []=>by simp[av]
 | t::l=>by
   have h1:=BH l
   have h2:1<=aA t:=by obtain⟨k,n,s,ks,r⟩:=t;have:=gS r 0;simp only[aA];omega
   simp only[av,List.length_cons];omega
theorem um (t:T):1<=aA t:=by obtain⟨k,n,s,ks,r⟩:=t;have:=gS r 0;simp only[aA];omega
theorem uo (l:List T):0<=av l:=by have:=gS l 0;omega
mutual
theorem BI:∀ (t:T) (d:Int),aK t d->aA t<=60->t.fit 60
 | .mk k n s ks l,d,h,hs=>by
   simp only[aK] at h
   obtain⟨h1,h2,h3,h4,h5,h6,h7,h8,h9,h10,h11,h12⟩:=h
   simp only[aA] at hs
   have hl:=BH l
   have h13:=h10.2
   refine⟨by unfold i64;omega,by unfold i64;omega,by unfold ab;omega,⟨?_,?_⟩,by unfold ab;omega,BJ l (d-1) h12 (by omega)⟩
   ·rcases h4 with rfl|rfl
    ·have:=(h11 rfl).1
     unfold ab;omega
    ·simp[ab]
   ·intro x hx
    rcases h4 with rfl|rfl
    ·obtain⟨i,hi⟩:=List.getElem?_of_mem hx
     have:=(fW (h11 rfl).2 hi).2
     unfold ab;omega
    ·simp at hx
theorem BJ:∀ (l:List T) (d:Int),aL l d->av l<=59->bn 60 l
 | [],_,_,_=>trivial
 | t::l,d,h,hs=>by
   simp only[aL] at h
   simp only[av] at hs
   have h1:=um t
   have h2:=uo l
   exact⟨BI t d h.1 (by omega),BJ l d h.2 (by omega)⟩
end
theorem Nl {t:T} (h:okT t):t.fit 60:=BI t 6 h.1 (lQ h)
end Go.Proofs.Pw
namespace Go.Proofs.Pw
open Go
def bL (l:List UInt8):ByteArray:=⟨l.toArray⟩
theorem lR (a b:List UInt8):bL (a++b)=bL a++bL b:=by
 unfold bL
 apply ByteArray.ext
 simp[ByteArray.data_append]
theorem iS (s:ByteArray):bL s.data.toList=s:=by cases s;simp[bL]
theorem ft (l:List UInt8):(bL l).size=l.length:=by simp[bL,ByteArray.size]
theorem lS (l:List UInt8):(bL l).data.toList=l:=by simp[bL]
theorem dP (a b c:ByteArray):a++b++c=a++(b++c):=ByteArray.append_assoc
theorem ol (a:ByteArray):⟨#[]⟩++a=a:=by
 apply ByteArray.ext
 simp[ByteArray.data_append]
theorem iT (a:ByteArray):a++⟨#[]⟩=a:=by
 apply ByteArray.ext
 simp[ByteArray.data_append]
def cK (n:Int):ByteArray:=bL (Lib.itoa n)
def bB (xs:List ByteArray) (sep:ByteArray):ByteArray:=bL (Lib.join (xs.map (·.data.toList)) sep.data.toList)
theorem lU {n:Int} (h0:-9223372036854775808<=n) (h1:n<=9223372036854775807):(cK n).size<=21:=by
 unfold cK
 rw[ft];exact Lib.itoa_length_le n h0 h1
theorem Nm (sep:List UInt8) (a b:List (List UInt8)):Lib.joinTail sep (a++b)=Lib.joinTail sep a++Lib.joinTail sep b:=by simp[Lib.joinTail]
theorem qi (sep:ByteArray):bB [] sep=⟨#[]⟩:=rfl
theorem Nn (x sep:ByteArray):bB [x] sep=x:=by
 unfold bB
 simp only[List.map_cons,List.map_nil,Lib.join_one,iS]
theorem Np {xs:List ByteArray} (h:xs≠[]) (y sep:ByteArray):bB (xs++[y]) sep=bB xs sep++sep++y:=by
 cases xs with
 | nil=>exact absurd rfl h
 | cons x r =>
   unfold bB
   simp only[List.map_append,List.map_cons,List.map_nil,List.cons_append,Lib.join_cons,Nm]
   rw[lR,lR,lR,dP,dP]
   congr 2
   simp only[Lib.joinTail,List.map_cons,List.map_nil,List.flatten_cons,List.flatten_nil,List.append_nil]
   rw[lR,iS,iS]
def du:List ByteArray->Nat
 | []=>0
 | x::r=>x.size+du r
theorem Nq (a b:List ByteArray):du (a++b)=du a+du b:=by
 induction a with
 | nil=>simp[du]
 | cons x a ih=>simp only[List.cons_append,du,ih];omega
theorem fY (x:ByteArray):x.data.toList.length=x.size:=Array.length_toList
theorem Nr (xs:List ByteArray):Lib.lens (xs.map (·.data.toList))=du xs:=by
 induction xs with
 | nil=>rfl
 | cons x r ih =>
   simp only[Lib.lens,List.map_cons,List.sum_cons,du] at ih ⊢
   rw[ih,fY]
theorem BK (sep:ByteArray) (xs:List ByteArray):(bB xs sep).size<=du xs+xs.length*sep.size:=by
 cases xs with
 | nil=>rw[qi];exact Nat.zero_le _
 | cons x r =>
   unfold bB
   rw[ft,List.map_cons,Lib.join_cons,List.length_append,Lib.joinTail_length,Nr]
   simp only[List.length_map,du,List.length_cons,Nat.add_mul,Nat.one_mul]
   have e1:x.data.toList.length=x.size:=fY x
   have e2:sep.data.toList.length=sep.size:=fY sep
   rw[e1,e2,Nat.mul_comm sep.size];omega
mutual
def az:T->ByteArray
 | .mk k n s ks l=>if k=0 then ⟨#[110,117,108,108]⟩ else if k=1 then ⟨#[102,97,108,115,101]⟩ else if k=2 then ⟨#[116,114,117,101]⟩ else if k=3 then cK n
   else if k=4 then ⟨#[39]⟩++s++⟨#[39]⟩ else if k=6 then ⟨#[123]⟩++bB (bj k ks l) ⟨#[44]⟩++⟨#[125]⟩ else ⟨#[91]⟩++bB (bj k ks l) ⟨#[44]⟩++⟨#[93]⟩
def bj (k:Int):List ByteArray->List T->List ByteArray
 | _,[]=>[]
 | ks,t::l=>(if k=6 then ks.headD ⟨#[]⟩++⟨#[58]⟩++az t else az t)::bj k ks.tail l
end
theorem iU (k:Int):∀ (ks:List ByteArray) (l:List T),(bj k ks l).length=l.length
 | _,[]=>by simp[bj]
 | ks,t::l=>by simp[bj,iU k ks.tail l]
theorem uq (k:Int):∀ (l:List T) (ks:List ByteArray) (i:Nat) (t:T),l[i]?=some t->(bj k ks l).take (i+1)=(bj k ks l).take i++[if k=6 then ks.getD i ⟨#[]⟩++⟨#[58]⟩++az t else az t]
 | [],_,_,_,h=>by simp at h
 | x::l,ks,0,t,h=>by
   simp at h;subst h
   cases ks <;> simp[bj]
 | x::l,ks,i+1,t,h=>by
   have:=uq k l ks.tail i t (by simpa using h)
   simp only[bj,List.take_succ_cons,List.cons_append]
   rw[this]
   cases ks <;> simp
mutual
theorem om:∀ {t:T} {d:Int},aK t d->((az t).size:Int)+14<=40*aA t
 | .mk k n s ks l,d,h=>by
   simp only[aK] at h
   obtain⟨h1,h2,h3,h4,h5,h6,h7,h8,h9,h10,h11,h12⟩:=h
   have hs:=h10.2
   have hn:=lU (n:=n) (by omega) (by omega)
   have hl:=ur (k:=k) (ks:=ks) (fun s hs=>by
    rcases h4 with h4|h4
    ·obtain⟨i,hi⟩:=List.getElem?_of_mem hs
     exact (fW (h11 h4).2 hi).2
    ·subst h4;simp at hs) h12
   have hp:=uo l
   have hj:=BK ⟨#[44]⟩ (bj k ks l)
   rw[iU] at hj
   have hc:(ByteArray.mk #[44]).size=1:=rfl
   rw[hc] at hj
   have e1:(ByteArray.mk #[39]).size=1:=rfl
   have e2:(ByteArray.mk #[123]).size=1:=rfl
   have e3:(ByteArray.mk #[125]).size=1:=rfl
   have e4:(ByteArray.mk #[91]).size=1:=rfl
   have e5:(ByteArray.mk #[93]).size=1:=rfl
   have e6:(ByteArray.mk #[110,117,108,108]).size=4:=rfl
   have e7:(ByteArray.mk #[102,97,108,115,101]).size=5:=rfl
   have e8:(ByteArray.mk #[116,114,117,101]).size=4:=rfl
   simp only[az,aA]
   repeat' split
   all_goals try simp only[ByteArray.size_append,e1,e2,e3,e4,e5,e6,e7,e8]
   all_goals omega
theorem ur {k:Int}:∀ {ks:List ByteArray} {l:List T} {d:Int},(∀ s ∈ ks,s.size<=12)->aL l d->(du (bj k ks l):Int)+l.length<=40*av l
 | _,[],_,_,_=>by simp[bj,du,av]
 | ks,t::l,d,hk,h=>by
   simp only[aL] at h
   have h1:=om h.1
   have h2:=ur (k:=k) (ks:=ks.tail) (fun s hs=>hk s (List.mem_of_mem_tail hs)) h.2
   have h3:(ks.headD ⟨#[]⟩).size<=12:=by
    cases ks with
    | nil=>decide
    | cons a r=>exact hk a (by simp)
   have e1:(ByteArray.mk #[58]).size=1:=rfl
   simp only[bj,du,av,List.length_cons]
   split
   ·rw[ByteArray.size_append,ByteArray.size_append,e1];omega
   ·omega
end
theorem Ns {l:List T} {t:T} (h:t ∈ l):aA t<=av l:=by
 induction l with
 | nil=>simp at h
 | cons x l ih =>
   have:=uo l;have:=um x
   simp only[av]
   rcases List.mem_cons.1 h with rfl|h
   ·omega
   ·have:=ih h;omega
theorem fZ:∀ l:List T,(l.length:Int)<=av l
 | []=>by simp[av]
 | t::l=>by have:=um t;have:=fZ l;simp only[List.length_cons,av];omega
theorem Nt (l:List ByteArray) (i:Nat):du (l.take i)<=du l:=by
 have h:=Nq (l.take i) (l.drop i)
 rw[List.take_append_drop] at h
 omega
theorem ut:(ByteArray.mk #[44]).size=1:=rfl
theorem BL {k:Int} {ks:List ByteArray} {l:List T} {d:Int} (hk:∀ s ∈ ks,s.size<=12) (h:aL l d) (hs:av l<=60) (i:Nat):(bB ((bj k ks l).take i) ⟨#[44]⟩).size<=2400:=by
 have h1:=ur (k:=k) (ks:=ks) hk h
 have h2:=BK ⟨#[44]⟩ ((bj k ks l).take i)
 have h3:=Nt (bj k ks l) i
 have h4:((bj k ks l).take i).length<=l.length:=by rw[List.length_take,iU];omega
 rw[ut] at h2
 omega
theorem Nu {xs:List ByteArray} {i:Nat} {y:ByteArray} (h:xs.take (i+1)=xs.take i++[y]) (hl:i < xs.length):bB (xs.take (i+1)) ⟨#[44]⟩=if i=0 then y else bB (xs.take i) ⟨#[44]⟩++⟨#[44]⟩++y:=by
 rw[h]
 split
 ·rename_i h0;subst h0
  simp only[List.take_zero,List.nil_append,Nn]
 ·rename_i h0
  exact Np (fun e=>by have:=congrArg List.length e;rw[List.length_take,List.length_nil] at this;omega) _ _
theorem BM {k n:Int} {s:ByteArray} {ks:List ByteArray} {l:List T} {d:Int} (h:aK (.mk k n s ks l) d):∀ s ∈ ks,s.size<=12:=fun s hs=>by
 simp only[aK] at h
 obtain⟨h1,h2,h3,h4,h5,h6,h7,h8,h9,h10,h11,h12⟩:=h
 rcases h4 with h4|h4
 ·obtain⟨i,hi⟩:=List.getElem?_of_mem hs
  exact (fW (h11 h4).2 hi).2
 ·subst h4;simp at hs
def iV (u:Nat):ByteArray:=bL (Lib.decDigits u)
theorem Nv {n:Int} (h:n < 0):cK n=⟨#[45]⟩++cK (0-n):=by
 unfold cK Lib.itoa
 rw[if_pos h,if_neg (by omega)]
 have e:(0-n).toNat=n.natAbs:=by omega
 rw[e,show (45::Lib.decDigits n.natAbs)=[45]++Lib.decDigits n.natAbs from rfl,lR]
 rfl
theorem Nw {n:Int} (h:0<=n):cK n=iV n.toNat:=by
 unfold cK Lib.itoa iV
 rw[if_neg (by omega)]
theorem Nx {u:Nat} (h:u < 10):iV u=fJ [((48+u:Nat):Int)]:=by
 unfold iV
 rw[Lib.decDigits,dif_pos h]
 rfl
theorem Ny {u:Nat} (h:¬ u < 10) (out:ByteArray):iV u++out=iV (u / 10)++(fJ [((48+u % 10:Nat):Int)]++out):=by
 unfold iV
 rw[Lib.decDigits,dif_neg h,lR,dP]
 rfl
def wtab:List ByteArray:=[⟨#[]⟩,⟨#[46]⟩,⟨#[]⟩,⟨#[]⟩,⟨#[]⟩,⟨#[91,93]⟩,⟨#[112,105,112,101]⟩,⟨#[98,111,116,104]⟩,⟨#[105,102]⟩,⟨#[97,100,100]⟩,⟨#[108,101,115,115]⟩,⟨#[115,97,109,101]⟩,⟨#[114,111,119]⟩,⟨#[108,101,110]⟩,⟨#[107,101,121,115]⟩,⟨#[110,111,116]⟩,⟨#[101,108,115,101]⟩,⟨#[116,114,121]⟩,⟨#[110,111,110,101]⟩,⟨#[98,97,100]⟩,⟨#[116,117,114,110]⟩,⟨#[]⟩]
def cf:C:=.row 1 (aa wtab)
theorem BN {i:Nat} (h:i < 22):wtab[i]?=some (wtab.getD i ⟨#[]⟩):=by
 have h':i < wtab.length:=h
 simp[List.getD,List.getElem?_eq_getElem h']
theorem BO:∀ i:Fin 22,(wtab.getD i.val ⟨#[]⟩).size<=4:=by decide
def aI (k n:Int) (s:ByteArray) (v:T):ByteArray :=
 if k=2 then ⟨#[61]⟩++az v else if k=3 then ⟨#[46]⟩++s++⟨#[58]⟩ else if k=4 then ⟨#[91]⟩++cK n++⟨#[93]⟩ else if k=21 then ⟨#[109,97,107,101,58]⟩++s else wtab.getD k.toNat ⟨#[]⟩
mutual
def aN:F->ByteArray
 | .mk k n s v l=>aI k n s v++aY l
def aY:List F->ByteArray
 | []=>⟨#[]⟩
 | t::l=>⟨#[32]⟩++aN t++aY l
end
theorem BP:∀ a b:List F,aY (a++b)=aY a++aY b
 | [],b=>by simp[aY,ol]
 | t::a,b=>by simp only[List.cons_append,aY,BP a b,dP]
theorem lV {l:List F} {i:Nat} {t:F} (h:l[i]?=some t):aY (l.take (i+1))=aY (l.take i)++(⟨#[32]⟩++aN t):=by
 rw[List.take_add_one,h,BP]
 simp[aY,iT]
theorem qk {k n:Int} {s:ByteArray} {v:T} (hk:0<=k/\k<=21) (hn:-60<=n/\n < 60) (hs:s.size<=12) (hv:okT v):(aI k n s v).size<=2402:=by
 have h1:=om hv.1
 have h2:=lQ hv
 have h3:=lU (n:=n) (by omega) (by omega)
 have h4:=BO ⟨k.toNat,by omega⟩
 simp only at h4
 have e1:(ByteArray.mk #[61]).size=1:=rfl
 have e2:(ByteArray.mk #[46]).size=1:=rfl
 have e3:(ByteArray.mk #[58]).size=1:=rfl
 have e4:(ByteArray.mk #[91]).size=1:=rfl
 have e5:(ByteArray.mk #[93]).size=1:=rfl
 have e6:(ByteArray.mk #[109,97,107,101,58]).size=5:=rfl
 unfold aI
 repeat' split
 all_goals try simp only[ByteArray.size_append,e1,e2,e3,e4,e5,e6]
 all_goals omega
mutual
theorem BQ:∀ {t:F} {d:Int},aM t d->((aN t).size:Int)+1<=2500*aJ t
 | .mk k n s v l,d,h=>by
   simp only[aM] at h
   obtain⟨h1,h2,h3,h4,h5,h6,h7,h8,h9⟩:=h
   have h10:=lM (show 0<=aP k by omega)
   have a:=qk (s:=s) (v:=v) (show 0<=k/\k<=21 by omega) ⟨h5,h6⟩ h4.2 h7
   have b:=ql h8
   have c:=fX l 0
   simp only[aN,aJ,ByteArray.size_append];omega
theorem ql:∀ {l:List F} {d:Int},ba l d->((aY l).size:Int)<=2500*aD l
 | [],_,_=>by simp[aY,aD,ByteArray.size]
 | t::l,d,h=>by
   simp only[ba] at h
   have h1:=BQ h.1
   have h2:=ql h.2
   have e1:(ByteArray.mk #[32]).size=1:=rfl
   simp only[aY,aD,ByteArray.size_append,e1];omega
end
theorem uv:∀ l:List F,(l.length:Int)<=aD l
 | []=>by simp[aD]
 | .mk _ _ _ _ r::l=>by have:=fX r 0;have:=uv l;simp only[List.length_cons,aD,aJ];omega
theorem BR {l:List F} {d:Int} (h:ba l d) (i:Nat):ba (l.take i) d:=od.2 fun t ht=>od.1 h t (List.mem_of_mem_take ht)
theorem uw:∀ (l:List F) (i:Nat),aD (l.take i)<=aD l
 | [],i=>by simp[aD]
 | t::l,0=>by have:=fX (t::l) 0;simp only[List.take_zero,aD] at *;omega
 | t::l,i+1=>by have:=uw l i;simp only[List.take_succ_cons,aD];omega
def eM (t:F):Prop:=(∃ d,aM t d)/\aJ t<=16
theorem uz {t:F} (h:okF t):eM t:=⟨⟨_,h.1⟩,by rw[<-og _ _ h.1];exact h.2⟩
theorem BS {k n:Int} {s:ByteArray} {v:T} {l:List F} (h:eM (.mk k n s v l)) {t:F} (ht:t ∈ l):eM t:=by
 obtain⟨⟨d,h1⟩,h2⟩:=h
 simp only[aM] at h1
 simp only[aJ] at h2
 obtain⟨i,hi⟩:=List.getElem?_of_mem ht
 exact⟨⟨_,od.1 h1.2.2.2.2.2.2.2.1 t ht⟩,by have:=Bh hi;omega⟩
theorem gX {t:F} (h:eM t):(aN t).size<=40000:=by
 obtain⟨⟨d,h1⟩,h2⟩:=h
 have:=BQ h1;omega
noncomputable def cy (t:F):ByteArray:=if okF t then aN t else ⟨#[]⟩
end Go.Proofs.Pw
