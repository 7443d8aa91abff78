/- Numbers as texts, texts joined: the library's functions, by what is proved of them. -/
import Derived.Test.YtcligmgalcidpaaGreatDoorPwT12
import Derived.Test.YtcligmgalcidpaaGreatDoorPwT13
import Derived.Test.YtcligmgalcidpaaGreatDoorPwT10
import Derived.KernelRfl
import Derived.Test.YtcligmgalcidpaaGreatDoorPwT9
import Derived.Test.YtcligmgalcidpaaGreatDoorPwT11
import Derived.Lib.AtoiAllCases
set_option linter.unusedSimpArgs false
set_option linter.unusedVariables false
set_option linter.unusedSectionVars false
set_option maxRecDepth 20000
namespace Go.Proofs.Pw
open Go.RowKit Go.Sort
variable [Globs]
theorem DN:ax Tryz.prog 44=true:=by kernel_rfl
theorem Qw:ax Tryz.prog 72=true:=by kernel_rfl
def tabK [Globs] : Prop := ∃ g, Tryz.prog.globalNamed "internal/strconv.uint64pow10" = some g /\ (g, Lib.pow10Tab.map (fun z => Value.int .u64 z)) ∈ Globs.K
theorem Fr.grown (X:Nat->Prop) (w:World) (k:Nat) (os:Array Obj):Fr X w.heap.size w (grow (w.drewN k) os) :=
 ⟨rfl,rfl,rfl,by simp[grow,World.drewN],fun i hi _=>by
  show (w.heap++os)[i]?=w.heap[i]?
  rw[Array.getElem?_append_left hi]⟩
noncomputable def mU :Spec:=Spec.of (ι:=Int) [false] (fun i=>[.d (.one (.int .i64 i))]) (fun i=>i64 i) (fun i=>[.d (.one (.str (cR i)))]) (fun _=>[.gone])
theorem wq:∀ i j:Int,(fun (i:Int)=>([.d (.one (.int .i64 i))]:List AV)) i=(fun (i:Int)=>([.d (.one (.int .i64 i))]:List AV)) j->i=j:=by
 intro n n' h
 simpa [ar,T.enc_eq,au,F.enc_eq,av,Tk.enc_eq,aw,Gn.enc_eq,aq] using h
theorem DO :(mU).md=[false]:=rfl
theorem DP  (n:Int):(mU).pre [.d (.one (.int .i64 n))]=(i64 n):=Spec.of_pre' wq n
theorem wu :(mU).alts=none:=rfl
theorem wv  (n:Int):(mU).res [.d (.one (.int .i64 n))]=[.d (.one (.str (cR n)))]:=Spec.of_res wq n
theorem ww  (n:Int):(mU).out [.d (.one (.int .i64 n))]=[.gone]:=Spec.of_out wq n
theorem DR (hK:tabK):Sound Tryz.prog 44 mU:=by
 rintro args ⟨n,rfl,hn⟩ w S vs fps hG hS hF ha hA
 cases hA with
 | cons h1 h2 =>
   cases h2
   obtain⟨hr,hfp⟩:=h1
   cases hr
   obtain⟨g,hg,hk⟩:=hK
   obtain⟨_,t,x,hx⟩:=hG.2 g _ hk
   have htab : Lib.TabIs Tryz.prog w "internal/strconv.uint64pow10" .u64 Lib.pow10Tab := by
    unfold Lib.TabIs World.var?
    rw[hg]
    simp only[Option.bind_some,hx]
   refine (Tryz.strconv_Itoa n hn.1 hn.2 w htab).mono ?_
   rintro e w' ⟨rfl,k,os,rfl⟩
   refine⟨[.d (.one (.str (cR n)))],[.gone],(Spec.may_none wu).2 ⟨(wv n).symm,(ww n).symm⟩,_,S,[fun _=>False],[fun _=>False],rfl,⟨.str _,fun _ h=>h⟩,.cons (fun _ h=>h) .nil,fun g hg=>.inl hg,fun g hg=>?_,?_,?_,Fr.grown _ w k os⟩
   ·exact Nat.lt_of_lt_of_le (hS g hg) (Fr.grown (fun _=>False) w k os).size
   ·exact⟨fun g h=>h.elim,fun g h=>h.elim,fun g h=>h.elim,fun g h=>h.elim,trivial⟩
   ·rintro g ⟨p,hp,hpg⟩
    simp only[List.cons_append,List.nil_append,List.mem_cons,List.not_mem_nil,or_false] at hp
    rcases hp with rfl|rfl <;> exact hpg.elim
theorem Fr.below {B:Nat} (X:Nat->Prop) {w w':World} (h:Below B w w'):Fr X B w w':=⟨h.os,h.tape,h.output,h.size,fun k hk _=>h.block k hk⟩
theorem Qx {xs:List ByteArray} (h:ae xs=[]):xs=[]:=by cases xs <;> simp_all [ae]
theorem Qy {xs:List ByteArray} {sep:ByteArray} {w w':World} {S:Nat->Prop} {r:RV} {fp fp2:Nat->Prop} {v2:Value} (hp:Priv w S 1 (ae xs) r) (hf:∀ g,fp g ↔ af r g) (hb:Below w.heap.size w w') (hS:∀ g,S g->g < w.heap.size) (ha:Apart S [fp,fp2]) (hf2:∀ g,¬ fp2 g) :
 ∃ S' rfs fps',RepR w' S' [.d (.one (.str (bP xs sep)))] (.string (bP xs sep)) rfs/\All3 (RepA w' S') [.own 1 (ae xs),.gone] [r.v,v2] fps' /\
  (∀ g,S' g->S g\/w.heap.size<=g\/Any [fp,fp2] g)/\(∀ g,S' g->g < w'.heap.size) /\
  Apart S' (rfs++fps')/\(∀ g,Any (rfs++fps') g->(w.heap.size<=g\/Any [fp,fp2] g)/\g < w'.heap.size)/\Fr (Any [fp,fp2]) w.heap.size w w':=by
 have hlt:∀ g,af r g->g < w.heap.size:=fun g hg=>hp.lt hg
 have hp':Priv w' S 1 (ae xs) r:=hp.move (fun _ h=>h) (fun g hg=>hb.block g (hS g hg)) (fun g hg=>hb.block g (hlt g hg))
 refine⟨S,[fun _=>False],[fp,fp2],⟨.str _,fun _ h=>h⟩,.cons ⟨by decide,r,rfl,hp',hf⟩ (.cons hf2 .nil),fun g hg=>.inl hg,fun g hg=>Nat.lt_of_lt_of_le (hS g hg) hb.size,⟨fun g h=>h.elim,fun g h=>h.elim,ha⟩,?_,Fr.below _ hb⟩
 rintro g ⟨p,hp1,hpg⟩
 simp only[List.cons_append,List.nil_append,List.mem_cons,List.not_mem_nil,or_false] at hp1
 rcases hp1 with rfl|rfl|rfl
 ·exact hpg.elim
 ·exact⟨.inr ⟨_,by simp,hpg⟩,Nat.lt_of_lt_of_le (hlt g ((hf g).1 hpg)) hb.size⟩
 ·exact absurd hpg (hf2 g)
noncomputable def spJoin :Spec:=Spec.of (ι:=(List ByteArray) × ByteArray) [true,false] (fun i=>[.own 1 (ae i.1),.d (.one (.str i.2))]) (fun i=>aa 140737488355328 i.1.length/\aa 140737488355328 (bP i.1 i.2).size) (fun i=>[.d (.one (.str (bP i.1 i.2)))]) (fun i=>[.own 1 (ae i.1),.gone])
theorem wx:∀ i j:(List ByteArray) × ByteArray,(fun (i:(List ByteArray) × ByteArray)=>([.own 1 (ae i.1),.d (.one (.str i.2))]:List AV)) i=(fun (i:(List ByteArray) × ByteArray)=>([.own 1 (ae i.1),.d (.one (.str i.2))]:List AV)) j->i=j:=by
 rintro⟨xs,sep⟩ ⟨xs',sep'⟩ h
 simp only[Prod.mk.injEq]
 simpa [ar,T.enc_eq,au,F.enc_eq,av,Tk.enc_eq,aw,Gn.enc_eq,aq] using h
theorem DS :(spJoin).md=[true,false]:=rfl
theorem DT  (xs:List ByteArray) (sep:ByteArray):(spJoin).pre [.own 1 (ae xs),.d (.one (.str sep))]=(aa 140737488355328 xs.length/\aa 140737488355328 (bP xs sep).size):=Spec.of_pre' wx (xs,sep)
theorem wy :(spJoin).alts=none:=rfl
theorem wz  (xs:List ByteArray) (sep:ByteArray):(spJoin).res [.own 1 (ae xs),.d (.one (.str sep))]=[.d (.one (.str (bP xs sep)))]:=Spec.of_res wx (xs,sep)
theorem wA  (xs:List ByteArray) (sep:ByteArray):(spJoin).out [.own 1 (ae xs),.d (.one (.str sep))]=[.own 1 (ae xs),.gone]:=Spec.of_out wx (xs,sep)
theorem Qz:Sound Tryz.prog 72 spJoin:=by
 rintro args ⟨⟨xs,sep⟩,rfl,hn,hj⟩ w S vs fps hG hS hF ha hA
 simp only[aa] at hn hj
 cases hA with
 | cons h1 h2 =>
   rename_i v fp vs fps
   cases h2 with
   | cons h2 h3 =>
     rename_i v2 fp2 vs fps
     cases h3
     obtain⟨hr,hfp⟩:=h2
     cases hr
     obtain⟨_,r,rfl,hp,hf⟩:=h1
     have key:∀ (e:Ending) w',e=.returned (.string (bP xs sep))/\Below w.heap.size w w'->∃ r' o,spJoin.may [.own 1 (ae xs),.d (.one (.str sep))] r' o/\∃ v S' rfs fps',e=.returned v/\RepR w' S' r' v rfs/\All3 (RepA w' S') o [r.v,.string sep] fps' /\
      (∀ g,S' g->S g\/w.heap.size<=g\/Any [fp,fp2] g)/\(∀ g,S' g->g < w'.heap.size) /\
      Apart S' (rfs++fps')/\(∀ g,Any (rfs++fps') g->(w.heap.size<=g\/Any [fp,fp2] g)/\g < w'.heap.size)/\Fr (Any [fp,fp2]) w.heap.size w w':=fun e w' ⟨he,hb⟩=>by
      obtain⟨S',rfs,fps',k1,k2,k3⟩:=Qy (sep:=sep) (v2:=.string sep) hp hf hb hS ha hfp
      exact⟨_,_,(Spec.may_none wy).2 ⟨(wz xs sep).symm,(wA xs sep).symm⟩,_,S',rfs,fps',he,k1,k2,k3⟩
     have k:=hp.repX (by decide)
     generalize hes:ae xs=es at k
     generalize hv:r.v=v at k key
     cases k with
     | pl hr=>cases hr
     | nil h0 hh =>
       rename_i a
       have hx:=Qx hes
       subst hx
       refine (Tryz.strings_Join_none a 0 sep w).mono ?_
       rintro e w' ⟨rfl,rfl⟩
       exact key _ _ ⟨rfl,Below.refl _ _⟩
     | own ψ h0 hh hg hcl hcm hsz hes1 hD hψ hd u hu hrr =>
       rename_i g cap cur ty
       have hlen:es.length=xs.length:=by rw[<-hes,aT]
       have hgl:g < w.heap.size:=by
        rcases Nat.lt_or_ge g w.heap.size with h|h
        ·exact h
        ·rw[Array.getElem?_eq_none h] at hg;cases hg
       have hcell:∀ (j:Nat) x,xs[j]?=some x->w.cell? ⟨g,0+j,none⟩=some (.string x):=fun j x hx=>by
        have he:es[j]?=some [C.str x]:=by rw[<-hes];simp[ae,hx]
        have q1:=hu j 0 _ _ he rfl
        have q2:=hrr j 0 _ _ he rfl
        have q3:u (j*1+0)=.string x:=by
         generalize u (j*1+0)=z at q2
         cases q2 with
         | pl h=>cases h;rfl
        rw[q3] at q1
        unfold World.cell?
        simp only[hg]
        simpa using q1
       rw[hlen] at key ⊢
       refine (Tryz.strings_Join g 0 cap xs sep w hcell hgl (by omega) (by omega) (by have e:(bP xs sep).size=_:=bM _;omega)).mono ?_
       rintro e w' ⟨rfl,hb⟩
       exact key _ _ ⟨rfl,hb⟩
end Go.Proofs.Pw
namespace Go.Proofs.Pw
mutual
def T.encX:T->List C
 | .mk k n s ks l=>[.int .i64 k,.int .i64 n,.str s,.own 1 (ae ks),.own 5 (dk l)]
def dk:List T->List (List C)
 | []=>[]
 | t::l=>t.encX::dk l
end
def agX:T->List Pt
 | .mk k n s ks l=>[.c (.int .i64 k),.c (.int .i64 n),.c (.str s),.o 1 (ae ks),.o 5 (dk l)]
theorem DU (l:List T):dk l=l.map T.encX:=by
 induction l with
 | nil=>simp[dk]
 | cons t l ih=>simp[dk,ih]
theorem QA (l:List T):(dk l).length=l.length:=by rw[DU];simp
theorem T.encX_len (t:T):t.encX.length=5:=by cases t;simp[T.encX]
theorem QB {l:List T} {i:Nat} {t:T} (h:l[i]?=some t):dk (l.take (i+1))=dk (l.take i)++[t.encX]:=by
 rw[List.take_add_one,h];simp[DU]
mutual
theorem wB:∀ t:T,dtL t.encX=some t.enc
 | .mk k n s ks l=>by simp[T.encX,T.enc,dtL,dtC,mV l]
theorem mV:∀ l:List T,dtR (dk l)=some (ak l)
 | []=>rfl
 | t::l=>by simp[dk,ak,dtR,wB t,mV l]
end
mutual
theorem wC:∀ t:T,flL t.encX=true
 | .mk k n s ks l=>by
   have h:flR (ae ks)=true:=by
    induction ks with
    | nil=>rfl
    | cons s ks ih=>simp only[ae,List.map_cons,flR,flL,flC,Bool.and_true,Bool.true_and];exact ih
   simp[T.encX,flL,flC,wD l,h]
theorem wD:∀ l:List T,flR (dk l)=true
 | []=>rfl
 | t::l=>by simp[dk,flR,wC t,wD l]
end
theorem QC (ks:List ByteArray):flR (ae ks)=true:=by
 induction ks with
 | nil=>rfl
 | cons s ks ih=>simp only[ae,List.map_cons,flR,flL,flC,Bool.and_true,Bool.true_and];exact ih
attribute [go_sem] QC wD mg AV.fl Pt.fl fM QA T.encX_len mV il kP kO Q.toX im bF List.contains_nil List.contains_cons
end Go.Proofs.Pw
namespace Go.Proofs.Pw
structure Stp where
 map:Bool
 key:ByteArray
 at':Int
noncomputable instance:DecidableEq Stp:=fun a b=>Classical.propDecidable (a=b)
def Stp.enc (s:Stp):List C:=[.bool s.map,.str s.key,.int .i64 s.at']
def cS (l:List Stp):List (List C):=l.map Stp.enc
def mW (l:List (List Stp)):List (List C):=l.map fun p=>[.own 3 (cS p)]
def DW (l:List (List Stp)):List (List C):=l.map fun p=>[.row 3 (cS p)]
theorem QD (l:List Stp):(cS l).length=l.length:=by simp[cS]
theorem QE (l:List (List Stp)):(mW l).length=l.length:=by simp[mW]
theorem wE (l:List Stp):bc (cS l)=true:=by
 induction l with
 | nil=>rfl
 | cons s l ih=>simp only[cS,List.map_cons,ln,Stp.enc,List.all_cons,cJ,List.all_nil,Bool.and_true,Bool.true_and];exact ih
@[simp] theorem DX (l:List Stp):dtR (cS l)=some (cS l):=eD (wE l)
theorem DY (l:List Stp):flR (cS l)=true:=by
 induction l with
 | nil=>rfl
 | cons s l ih=>simp only[cS,List.map_cons,flR,flL,flC,Stp.enc,Bool.and_true,Bool.true_and];exact ih
theorem QF (l:List (List Stp)):flR (mW l)=true:=by
 induction l with
 | nil=>rfl
 | cons s l ih=>simp only[mW,List.map_cons,flR,flL,flC,DY,Bool.and_true,Bool.true_and];exact ih
@[simp] theorem QG (l:List (List Stp)):dtR (mW l)=some (DW l):=by
 induction l with
 | nil=>rfl
 | cons s l ih =>
   simp only[mW,DW,List.map_cons] at ih ⊢
   simp only[dtR,dtL,dtC,DX,Option.map_some,ih]
theorem DZ:∀ {a b:List Stp},cS a=cS b->a=b:=by
 intro a
 induction a with
 | nil=>intro b h;cases b with
   | nil=>rfl
   | cons _ _=>simp[cS] at h
 | cons x a ih=>intro b h;cases b with
   | nil=>simp[cS] at h
   | cons y b =>
     obtain⟨m,k,n⟩:=x
     obtain⟨m',k',n'⟩:=y
     simp only[cS,List.map_cons,List.cons.injEq,Stp.enc,C.bool.injEq,C.str.injEq,C.int.injEq,true_and,and_true] at h
     obtain⟨⟨rfl,rfl,rfl⟩,h2⟩:=h
     rw[ih h2]
theorem QH {a b:List Stp}:cS a=cS b ↔ a=b:=⟨DZ,fun h=>h ▸ rfl⟩
attribute [go_sem] QD QE wE DY QF QG DX
end Go.Proofs.Pw
namespace Go.Proofs.Pw
def Ea (s:Stp):Prop:=if s.map=true then okS s.key/\s.at'=0 else s.key=⟨#[]⟩/\-60<=s.at'/\s.at'<=59
noncomputable instance (s:Stp):Decidable (Ea s):=Classical.propDecidable _
def QI (p:List Stp):Prop:=(∀ s ∈ p,Ea s)/\p.length<=6
noncomputable instance (p:List Stp):Decidable (QI p):=Classical.propDecidable _
def Eb (v:T):Prop:=v.kind=5\/v.kind=0
noncomputable instance (v:T):Decidable (Eb v):=Classical.propDecidable _
def QJ (s:Stp) (v:T):Prop:=if s.map=true then wd v else Eb v
noncomputable instance (s:Stp) (v:T):Decidable (QJ s v):=Classical.propDecidable _
theorem Stp.enc_eq {a b:Stp}:a.enc=b.enc ↔ a=b:=⟨fun h=>by
 obtain⟨m,k,n⟩:=a
 obtain⟨m',k',n'⟩:=b
 simp only[Stp.enc,List.cons.injEq,C.bool.injEq,C.str.injEq,C.int.injEq,true_and,and_true] at h
 obtain⟨rfl,rfl,rfl⟩:=h
 rfl,fun h=>h ▸ rfl⟩
theorem Stp.len3 (s:Stp):s.enc.length=3:=rfl
theorem Stp.take3 (s:Stp):s.enc.take 3=s.enc:=rfl
theorem Stp.takeQ (s:Stp):(s.enc.map Q.c).take 3=s.enc.map Q.c:=rfl
attribute [go_sem] Stp.take3 Stp.takeQ Stp.len3
end Go.Proofs.Pw
namespace Go.Proofs.Pw
def rD:Nat->Int->ByteArray->ByteArray
 | 0,_,out=>out
 | f+1,k,out=>if 0 < k then rD f (k.tdiv 10) (gD [48+k.tmod 10]++out) else out
def mkS (k:Int):ByteArray:=if k<=0 then ⟨#[109,48]⟩ else ⟨#[109]⟩++rD k.toNat k ⟨#[]⟩
def fW:List ByteArray->Int->List ByteArray
 | [],_=>[]
 | _::r,k=>mkS k::fW r (k+1)
mutual
def nmT:T->Int
 | .mk _ _ _ ks l=>3+ks.length+nmL l
def nmL:List T->Int
 | []=>0
 | t::l=>nmT t+nmL l
end
mutual
def mkT:T->Int->T
 | .mk _ _ _ ks l,k=>.mk k (k+1) (mkS (k+2)) (fW ks (k+3)) (mkL l (k+3+ks.length))
def mkL:List T->Int->List T
 | [],_=>[]
 | t::l,k=>mkT t k::mkL l (k+nmT t)
end
theorem rE:∀ {ks:List ByteArray} {k:Int},(fW ks k).length=ks.length
 | [],_=>rfl
 | _::r,k=>by simp[fW,rE (ks:=r)]
theorem Ec:∀ {l:List T} {k:Int},(mkL l k).length=l.length
 | [],_=>rfl
 | _::r,k=>by simp[mkL,Ec (l:=r)]
mutual
theorem rF:∀ t:T,3<=nmT t
 | .mk _ _ _ ks l=>by have:=rG l;simp only[nmT];omega
theorem rG:∀ l:List T,0<=nmL l
 | []=>by simp[nmL]
 | t::l=>by have:=rF t;have:=rG l;simp only[nmL];omega
end
mutual
theorem rH:∀ (t:T) (k:Int),nmT (mkT t k)=nmT t
 | .mk _ _ _ ks l,k=>by simp only[mkT,nmT,rE,Ee l]
theorem Ee:∀ (l:List T) (k:Int),nmL (mkL l k)=nmL l
 | [],_=>rfl
 | t::l,k=>by simp only[mkL,nmL,rH t,Ee l]
end
theorem Ef:∀ (ks:List ByteArray) (k:Int),fW (fW ks k) k=fW ks k
 | [],_=>rfl
 | _::r,k=>by simp only[fW,Ef r]
mutual
theorem Eg:∀ (t:T) (k:Int),mkT (mkT t k) k=mkT t k
 | .mk _ _ _ ks l,k=>by simp only[mkT,Ef,rE,Eh l]
theorem Eh:∀ (l:List T) (k:Int),mkL (mkL l k) k=mkL l k
 | [],_=>rfl
 | t::l,k=>by simp only[mkL,Eg t,rH t,Eh l]
end
mutual
theorem QK:∀ {t:T} {left:Int},0<=left->0<=szT t left->nmT t<=3+3*(left-szT t left)
 | .mk k n s ks l,left,h,h0=>by
   simp only[szT] at h0 ⊢
   split at h0
   ·omega
   ·rename_i c1
    rw[if_neg c1]
    split at h0
    ·omega
    ·rename_i c2
     rw[if_neg c2]
     split at h0
     ·omega
     ·rename_i c3
      rw[if_neg c3]
      have h1:=ve (ks:=ks) (left:=left-s.size) (by omega)
      have h2:eK ks (left-s.size)<=left-s.size-ks.length:=by
       have:=h1;simp only[eK] at c2 ⊢;split
       ·rename_i c;rw[if_pos c] at c2;omega
       ·exact (Ct (by omega)).1
      have h3:=Ei (l:=l) (left:=eK ks (left-s.size)-l.length) (by omega) h0
      simp only[nmT];omega
theorem Ei:∀ {l:List T} {left:Int},0<=left->0<=ea l left->nmL l<=3*l.length+3*(left-ea l left)
 | [],left,h,h0=>by simp[nmL,ea]
 | t::r,left,h,h0=>by
   simp only[ea] at h0 ⊢
   split at h0
   ·omega
   ·rename_i c1
    rw[if_neg c1]
    have h1:=QK (t:=t) h (by omega)
    have h2:=Ei (l:=r) (left:=szT t left) (by omega) h0
    simp only[nmL,List.length_cons];omega
end
end Go.Proofs.Pw
namespace Go.Proofs.Pw
theorem QL:∀ {ks:List ByteArray} {left:Int},0<=left->0<=jF ks left->∀ s ∈ ks,(s.size:Int)<=left:=by
 intro ks
 induction ks with
 | nil=>intro left _ _ s hs;simp at hs
 | cons x r ih =>
   intro left h0 h s hs
   simp only[jF] at h
   split at h
   ·omega
   ·rcases List.mem_cons.1 hs with rfl|hs
    ·omega
    ·have:=ih (left:=left-x.size) (by omega) h s hs;omega
theorem QM {ks:List ByteArray} {left:Int} (h0:0<=left) (hl:left<=1048576) (h:0<=eK ks left):cA 1048576 ks:=by
 simp only[eK] at h
 split at h
 ·omega
 ·refine⟨by unfold aa;omega,fun s hs=>?_⟩
  have:=QL (left:=left-ks.length) (by omega) h s hs
  unfold aa;omega
mutual
theorem Ej:∀ {t:T} {left:Int} {B:Int},0<=left->left<=1048576->t.fit B->0<=szT t left->t.fit 1048576/\aB t<=left-szT t left+1
 | .mk k n s ks l,left,B,h0,hl,hf,h=>by
   simp only[T.fit] at hf ⊢
   simp only[szT,aB] at h ⊢
   have e1:=ve (ks:=ks) (left:=left-s.size)
   split at h
   ·omega
   ·split at h
    ·omega
    ·split at h
     ·omega
     ·rename_i a b c
      rw[if_neg a,if_neg b,if_neg c]
      have h1:=QM (ks:=ks) (left:=left-s.size) (by omega) (by omega) (by omega)
      have h2:=Ek (l:=l) (B:=B) (left:=eK ks (left-s.size)-l.length) (by omega) (by omega) hf.2.2.2.2.2 h
      refine⟨⟨hf.1,hf.2.1,by unfold aa;omega,h1,by unfold aa;omega,h2.1⟩,by omega⟩
theorem Ek:∀ {l:List T} {left:Int} {B:Int},0<=left->left<=1048576->bt B l->0<=ea l left->bt 1048576 l/\az l<=left-ea l left+l.length
 | [],left,B,h0,hl,hf,h=>by simp[bt,az,ea]
 | t::r,left,B,h0,hl,hf,h=>by
   simp only[bt] at hf ⊢
   simp only[ea,az,List.length_cons] at h ⊢
   have e1:=qU (t:=t) h0
   split at h
   ·omega
   ·rename_i a
    rw[if_neg a]
    have h1:=Ej (t:=t) h0 hl hf.1 (by omega)
    have h2:=Ek (l:=r) (left:=szT t left) (by omega) (by omega) hf.2 h
    exact⟨⟨h1.1,h2.1⟩,by omega⟩
end
end Go.Proofs.Pw
namespace Go.Proofs.Pw
mutual
theorem QN:∀ {t:F} {left:Int} {B:Int},0<=left->left<=1048576->t.fit B->0<=szF t left->t.fit 1048576/\cf t/\aX t<=left-szF t left+1
 | .mk k n s v l,left,B,h0,hl,hf,h=>by
   simp only[F.fit] at hf ⊢
   simp only[szF,aX,cf] at h ⊢
   have e1:=qU (t:=v) (left:=left-s.size)
   split at h
   ·omega
   ·split at h
    ·omega
    ·split at h
     ·omega
     ·rename_i a b c
      rw[if_neg a,if_neg b,if_neg c]
      have h1:=Ej (t:=v) (B:=B) (left:=left-s.size) (by omega) (by omega) hf.2.2.2.1 (by omega)
      have h2:=El (l:=l) (B:=B) (left:=szT v (left-s.size)-l.length) (by omega) (by omega) hf.2.2.2.2.2 h
      refine⟨⟨hf.1,hf.2.1,by unfold aa;omega,h1.1,by unfold aa;omega,h2.1⟩,⟨by omega,h2.2.1⟩,by omega⟩
theorem El:∀ {l:List F} {left:Int} {B:Int},0<=left->left<=1048576->bG B l->0<=gO l left->bG 1048576 l/\bT l/\aI l<=left-gO l left+l.length
 | [],left,B,h0,hl,hf,h=>by simp[bG,aI,gO,bT]
 | t::r,left,B,h0,hl,hf,h=>by
   simp only[bG] at hf ⊢
   simp only[gO,aI,bT,List.length_cons] at h ⊢
   have e1:=Cv (t:=t) h0
   split at h
   ·omega
   ·rename_i a
    rw[if_neg a]
    have h1:=QN (t:=t) h0 hl hf.1 (by omega)
    have h2:=El (l:=r) (left:=szF t left) (by omega) (by omega) hf.2 h
    exact⟨⟨h1.1,h2.1⟩,⟨h1.2.1,h2.2.1⟩,by omega⟩
end
end Go.Proofs.Pw
namespace Go.Proofs.Pw
end Go.Proofs.Pw
namespace Go.Proofs.Pw
section
variable {B B':Int} (hB:B<=B')
include hB
theorem jO {n:Nat} (h:aa B n):aa B' n:=by unfold aa at *;omega
theorem QO {ks:List ByteArray} (h:cA B ks):cA B' ks:=⟨jO hB h.1,fun s hs=>jO hB (h.2 s hs)⟩
mutual
theorem T.fit_le:∀ {t:T},t.fit B->t.fit B'
 | .mk k n s ks l,h=>by
   simp only[T.fit] at h ⊢
   exact⟨h.1,h.2.1,jO hB h.2.2.1,QO hB h.2.2.2.1,jO hB h.2.2.2.2.1,Em h.2.2.2.2.2⟩
theorem Em:∀ {l:List T},bt B l->bt B' l
 | [],_=>trivial
 | t::l,h=>by
   simp only[bt] at h ⊢
   exact⟨T.fit_le h.1,Em h.2⟩
end
mutual
theorem F.fit_le:∀ {t:F},t.fit B->t.fit B'
 | .mk k n s v l,h=>by
   simp only[F.fit] at h ⊢
   exact⟨h.1,h.2.1,jO hB h.2.2.1,T.fit_le hB h.2.2.2.1,jO hB h.2.2.2.2.1,wF h.2.2.2.2.2⟩
theorem wF:∀ {l:List F},bG B l->bG B' l
 | [],_=>trivial
 | t::l,h=>by
   simp only[bG] at h ⊢
   exact⟨F.fit_le h.1,wF h.2⟩
end
theorem Tk.fit_le {t:Tk} (h:t.fit B):t.fit B':=⟨T.fit_le hB h.1,jO hB h.2.1,wF hB h.2.2⟩
theorem Gn.fit_le {g:Gn} (h:g.fit B):g.fit B':=⟨jO hB h.1,fun t ht=>Tk.fit_le hB (h.2.1 t ht),h.2.2⟩
end
end Go.Proofs.Pw
namespace Go.Proofs.Pw
end Go.Proofs.Pw
namespace Go.Proofs.Pw
structure Ed where
 path:List Stp
 was:T
 had:Bool
 now:T
 has:Bool
noncomputable instance:DecidableEq Ed:=fun a b=>Classical.propDecidable (a=b)
def Ed.enc (e:Ed):List C:=.row 3 (cS e.path)::(e.was.enc++(.bool e.had::(e.now.enc++[.bool e.has])))
def eO (l:List Ed):List (List C):=l.map Ed.enc
theorem QP (l:List Ed):(eO l).length=l.length:=by simp[eO]
theorem Ed.enc_len (e:Ed):e.enc.length=13:=by simp[Ed.enc,T.enc_len]
theorem Ed.enc_inj {a b:Ed} (h:a.enc=b.enc):a=b:=by
 obtain⟨p,w,hd,n,hs⟩:=a
 obtain⟨p',w',hd',n',hs'⟩:=b
 simp only[Ed.enc,List.cons.injEq,C.row.injEq,true_and] at h
 obtain⟨h1,h2⟩:=h
 obtain⟨h3,h4⟩:=List.append_inj h2 (by rw[T.enc_len,T.enc_len])
 simp only[List.cons.injEq,C.bool.injEq] at h4
 obtain⟨h5,h6⟩:=h4
 obtain⟨h7,h8⟩:=List.append_inj h6 (by rw[T.enc_len,T.enc_len])
 simp only[List.cons.injEq,C.bool.injEq,and_true] at h8
 rw[DZ h1,T.enc_inj h3,h5,T.enc_inj h7,h8]
theorem Ed.enc_eq {a b:Ed}:a.enc=b.enc ↔ a=b:=⟨Ed.enc_inj,fun h=>h ▸ rfl⟩
theorem QQ:∀ {a b:List Ed},eO a=eO b->a=b:=by
 intro a
 induction a with
 | nil=>intro b h;cases b with
   | nil=>rfl
   | cons _ _=>simp[eO] at h
 | cons x a ih=>intro b h;cases b with
   | nil=>simp[eO] at h
   | cons y b =>
     simp only[eO,List.map_cons,List.cons.injEq] at h
     rw[Ed.enc_inj h.1,ih h.2]
theorem QR {a b:List Ed}:eO a=eO b ↔ a=b:=⟨QQ,fun h=>h ▸ rfl⟩
theorem Ed.enc_plain (e:Ed):e.enc.all cJ=true:=by
 simp only[Ed.enc,List.all_cons,List.all_append,T.enc_plain,List.all_nil,Bool.and_true,Bool.true_and]
 simp only[cJ,wE,Bool.and_true,Bool.true_and]
theorem wG (l:List Ed):bc (eO l)=true:=by
 induction l with
 | nil=>rfl
 | cons t l ih=>simp only[eO,List.map_cons,ln,Ed.enc_plain];exact ih
@[simp] theorem QS (l:List Ed):dtR (eO l)=some (eO l):=eD (wG l)
theorem Ed.enc_toLs (i k o:Nat) (t:Ed):dD i k o t.enc=t.enc.map Q.c:=qT t.enc_plain
theorem Ed.enc_take (t:Ed):(t.enc.map Q.c).take 13=t.enc.map Q.c:=List.take_of_length_le (by simp[Ed.enc_len])
theorem Ed.enc_take13 (t:Ed):t.enc.take 13=t.enc:=List.take_of_length_le (by simp[Ed.enc_len])
attribute [simp] wG
attribute [go_sem] QP Ed.enc_plain wG QS Ed.enc_toLs Ed.enc_take Ed.enc_take13
noncomputable def jP (t:T):ByteArray:=if okT t then aA t else ⟨#[]⟩
end Go.Proofs.Pw
namespace Go.Proofs.Pw
def dv (l:List UInt8):Nat:=l.foldl (fun r b=>r*10+(b.toNat-48)) 0
theorem rI (l:List UInt8) (b:UInt8):dv (l++[b])=dv l*10+(b.toNat-48):=by simp[dv,List.foldl_append]
theorem lx {x:Nat} (h:x < 10):(UInt8.ofNat (48+x)).toNat=48+x:=by
 rw[UInt8.toNat_ofNat']
 omega
theorem rJ (u:Nat):dv (Lib.decDigits u)=u:=by
 induction u using Nat.strongRecOn with
 | _ u ih =>
   by_cases h:u < 10
   ·rw[Lib.decDigits,dif_pos h]
    have:=lx h
    simp only[dv,List.foldl_cons,List.foldl_nil,this];omega
   ·rw[Lib.decDigits,dif_neg h,rI,ih (u / 10) (by omega),lx (by omega)];omega
theorem jQ (u:Nat):∀ b ∈ Lib.decDigits u,48<=b.toNat/\b.toNat<=57:=by
 induction u using Nat.strongRecOn with
 | _ u ih =>
   by_cases h:u < 10
   ·rw[Lib.decDigits,dif_pos h]
    intro b hb
    simp only[List.mem_singleton] at hb
    have:=lx h
    rw[hb];omega
   ·rw[Lib.decDigits,dif_neg h]
    intro b hb
    rcases List.mem_append.1 hb with hb|hb
    ·exact ih (u / 10) (by omega) b hb
    ·simp only[List.mem_singleton] at hb
     have:=lx (show u % 10 < 10 by omega)
     rw[hb];omega
theorem ly (u:Nat):Lib.decDigits u≠[]:=by
 rw[Lib.decDigits]
 split <;> simp
theorem En {u v:Nat} (h:Lib.decDigits u=Lib.decDigits v):u=v:=by rw[<-rJ u,<-rJ v,h]
theorem gR (n:Int):∀ b ∈ Lib.itoa n,b.toNat=45\/48<=b.toNat/\b.toNat<=57:=by
 intro b hb
 unfold Lib.itoa at hb
 split at hb
 ·rcases List.mem_cons.1 hb with rfl|hb
  ·exact .inl rfl
  ·exact .inr (jQ _ b hb)
 ·exact .inr (jQ _ b hb)
theorem Eo (u:Nat) (l:List UInt8):Lib.decDigits u≠45::l:=fun h=>by
 have:=jQ u 45 (by rw[h];simp)
 have e:(45:UInt8).toNat=45:=rfl
 omega
theorem Ep {m n:Int} (h:Lib.itoa m=Lib.itoa n):m=n:=by
 unfold Lib.itoa at h
 split at h <;> split at h
 ·have:=En (List.cons.inj h).2;omega
 ·exact absurd h.symm (Eo _ _)
 ·exact absurd h (Eo _ _)
 ·have:=En h;omega
def iI (P:UInt8->Prop):List UInt8->Prop
 | []=>True
 | b::_=>¬ P b
theorem iJ {P:UInt8->Prop}:∀ {a b x y:List UInt8},(∀ c ∈ a,P c)->(∀ c ∈ b,P c)->iI P x->iI P y->a++x=b++y->a=b/\x=y
 | [],[],x,y,_,_,_,_,h=>⟨rfl,h⟩
 | [],c::b,x,y,_,hb,hx,_,h=>by
   simp only[List.nil_append,List.cons_append] at h
   subst h
   exact absurd (hb c (by simp)) hx
 | c::a,[],x,y,ha,_,_,hy,h=>by
   simp only[List.nil_append,List.cons_append] at h
   subst h
   exact absurd (ha c (by simp)) hy
 | c::a,d::b,x,y,ha,hb,hx,hy,h=>by
   simp only[List.cons_append,List.cons.injEq] at h
   obtain⟨rfl,h⟩:=h
   obtain⟨h1,h2⟩:=iJ (fun c hc=>ha c (List.mem_cons_of_mem _ hc)) (fun c hc=>hb c (List.mem_cons_of_mem _ hc)) hx hy h
   exact⟨by rw[h1],h2⟩
def tL (s:ByteArray):List UInt8:=s.data.toList
theorem cH (a b:ByteArray):tL (a++b)=tL a++tL b:=by simp[tL,ByteArray.data_append]
theorem eP {a b:ByteArray} (h:tL a=tL b):a=b:=by
 cases a;cases b
 simp only[tL,Array.toList_inj] at h
 rw[h]
theorem Eq (n:Int):tL (cR n)=Lib.itoa n:=iG _
theorem cT {s:ByteArray} (h:okS s):∀ c ∈ tL s,bm c:=h.1
end Go.Proofs.Pw
namespace Go.Proofs.Pw
def mX:List UInt8->Prop
 | []=>True
 | b::_=>b=44\/b=125\/b=93\/b=32
def TR:List T->List UInt8
 | []=>[]
 | t::l=>44::(tL (aA t)++TR l)
def TM:List ByteArray->List T->List UInt8
 | _,[]=>[]
 | ks,t::l=>44::(tL (ks.headD ⟨#[]⟩)++(58::(tL (aA t)++TM ks.tail l)))
theorem Er (xs:List ByteArray):tL (bP xs ⟨#[44]⟩)=Lib.join (xs.map tL) [44]:=iG _
theorem Es (k:Int) (hk:k≠6):∀ (ks:List ByteArray) (l:List T),Lib.joinTail [44] ((bq k ks l).map tL)=TR l
 | _,[]=>rfl
 | ks,t::l=>by
   have:=Es k hk ks.tail l
   simp only[Lib.joinTail,List.map_map] at this
   simp only[bq,if_neg hk,List.map_cons,Lib.joinTail,List.map_map,List.flatten_cons,this,TR]
   rfl
theorem Et:∀ (ks:List ByteArray) (l:List T),Lib.joinTail [44] ((bq 6 ks l).map tL)=TM ks l
 | _,[]=>rfl
 | ks,t::l=>by
   have:=Et ks.tail l
   simp only[Lib.joinTail,List.map_map] at this
   have e:tL ⟨#[58]⟩=[58]:=rfl
   simp only[bq,if_true,List.map_cons,cH,e,Lib.joinTail,List.map_map,List.flatten_cons,this,TM]
   simp
def TRj:List T->List UInt8
 | []=>[]
 | t::l=>tL (aA t)++TR l
def TMj:List ByteArray->List T->List UInt8
 | _,[]=>[]
 | ks,t::l=>tL (ks.headD ⟨#[]⟩)++(58::(tL (aA t)++TM ks.tail l))
theorem QT (k:Int) (hk:k≠6) (ks:List ByteArray) (l:List T):tL (bP (bq k ks l) ⟨#[44]⟩)=TRj l:=by
 rw[Er]
 cases l with
 | nil=>rfl
 | cons t l=>simp only[bq,if_neg hk,List.map_cons,Lib.join_cons,Es k hk,TRj]
theorem QU (ks:List ByteArray) (l:List T):tL (bP (bq 6 ks l) ⟨#[44]⟩)=TMj ks l:=by
 rw[Er]
 cases l with
 | nil=>rfl
 | cons t l =>
   have e:tL ⟨#[58]⟩=[58]:=rfl
   simp only[bq,if_true,List.map_cons,Lib.join_cons,Et,TMj,cH,e]
   simp
theorem fX (k n:Int) (s:ByteArray) (ks:List ByteArray) (l:List T):tL (aA (.mk k n s ks l)) =
 if k=0 then [110,117,108,108] else if k=1 then [102,97,108,115,101] else if k=2 then [116,114,117,101] else if k=3 then Lib.itoa n
 else if k=4 then 39::(tL s++[39]) else if k=6 then 123::(TMj ks l++[125]) else 91::(TRj l++[93]):=by
 have h3:tL (⟨#[39]⟩++s++⟨#[39]⟩)=39::(tL s++[39]):=by rw[cH,cH];rfl
 have h6:tL (⟨#[123]⟩++bP (bq 6 ks l) ⟨#[44]⟩++⟨#[125]⟩)=123::(TMj ks l++[125]):=by rw[cH,cH,QU];rfl
 have h5:k≠6->tL (⟨#[91]⟩++bP (bq k ks l) ⟨#[44]⟩++⟨#[93]⟩)=91::(TRj l++[93]):=fun c=>by rw[cH,cH,QT k c];rfl
 rw[aA]
 split
 ·rfl
 split
 ·rfl
 split
 ·rfl
 split
 ·exact Eq n
 split
 ·exact h3
 split
 ·rename_i c;subst c;exact h6
 ·rename_i c;exact h5 c
def wH (c:UInt8):Int:=if c=110 then 0 else if c=102 then 1 else if c=116 then 2 else if c=39 then 4 else if c=123 then 6 else if c=91 then 5 else 3
theorem mY (n:Int):∃ c r,Lib.itoa n=c::r:=by
 unfold Lib.itoa
 split
 ·exact⟨_,_,rfl⟩
 ·exact List.exists_cons_of_ne_nil (ly _)
theorem pp {k n:Int} {s:ByteArray} {ks:List ByteArray} {l:List T} {d:Int} (h:aO (.mk k n s ks l) d):0<=k/\k<=6:=by
 simp only[aO] at h
 exact⟨h.2.2.2.2.2.1,h.2.2.2.2.2.2.1⟩
theorem lz {t:T} {d:Int} (h:aO t d):∃ c r,tL (aA t)=c::r/\wH c=t.kind/\c≠93/\c≠125:=by
 obtain⟨k,n,s,ks,l⟩:=t
 have hk:=pp h
 rw[fX]
 show ∃ c r,_=c::r/\wH c=k/\c≠93/\c≠125
 by_cases c0:k=0
 ·subst c0;exact⟨_,_,rfl,rfl,by decide,by decide⟩
 by_cases c1:k=1
 ·subst c1;exact⟨_,_,rfl,rfl,by decide,by decide⟩
 by_cases c2:k=2
 ·subst c2;exact⟨_,_,rfl,rfl,by decide,by decide⟩
 by_cases c3:k=3
 ·subst c3
  obtain⟨c,r,e⟩:=mY n
  have hc:=gR n c (by rw[e];simp)
  refine⟨c,r,e,?_,?_,?_⟩
  ·unfold wH
   have hne:∀ m:UInt8,m.toNat≠45->¬ (48<=m.toNat/\m.toNat<=57)->c≠m:=fun m h1 h2 e=>by rw[e] at hc;exact hc.elim h1 h2
   rw[if_neg (hne _ (by decide) (by decide)),if_neg (hne _ (by decide) (by decide)),if_neg (hne _ (by decide) (by decide)),if_neg (hne _ (by decide) (by decide)),if_neg (hne _ (by decide) (by decide)),if_neg (hne _ (by decide) (by decide))]
  ·intro e;rw[e] at hc;revert hc;decide
  ·intro e;rw[e] at hc;revert hc;decide
 by_cases c4:k=4
 ·subst c4;exact⟨_,_,rfl,rfl,by decide,by decide⟩
 by_cases c6:k=6
 ·subst c6;exact⟨_,_,rfl,rfl,by decide,by decide⟩
 have c5:k=5:=by omega
 subst c5;exact⟨_,_,rfl,rfl,by decide,by decide⟩
theorem Eu {x:List UInt8} (h:mX x):iI (fun b=>b.toNat=45\/48<=b.toNat/\b.toNat<=57) x:=by
 cases x with
 | nil=>trivial
 | cons b x=>rcases h with rfl|rfl|rfl|rfl <;> (simp only[iI];decide)
theorem pq {c:UInt8} (h:c.toNat < 97\/122 < c.toNat):¬ bm c:=by unfold bm;omega
theorem jR (c:UInt8) (h:c.toNat < 97\/122 < c.toNat) (x:List UInt8):iI bm (c::x):=pq h
theorem Ev (l:List T) (x:List UInt8):mX (TR l++93::x):=by
 cases l with
 | nil=>exact .inr (.inr (.inl rfl))
 | cons t l=>exact .inl rfl
theorem Ew (ks:List ByteArray) (l:List T) (x:List UInt8):mX (TM ks l++125::x):=by
 cases l with
 | nil=>exact .inr (.inl rfl)
 | cons t l=>exact .inl rfl
theorem Ey {s:ByteArray} (h:okS s) (z:List UInt8) (c:UInt8) (hc:c.toNat < 97\/122 < c.toNat) (hz:c≠58) (y:List UInt8):tL s++58::z≠c::y:=fun e=>by
 cases hs:tL s with
 | nil=>rw[hs] at e;simp at e;exact hz e.1.symm
 | cons b r =>
   rw[hs] at e
   simp at e
   have:=h.1 b (by show b ∈ tL s;rw[hs];simp)
   unfold bm at this
   rw[e.1] at this;omega
mutual
theorem rK:∀ (a:T) {b:T} {d d':Int} {x y:List UInt8},aO a d->aO b d'->mX x->mX y->tL (aA a)++x=tL (aA b)++y->a=b/\x=y
 | .mk k n s ks l,.mk k' n' s' ks' l',d,d',x,y,ha,hb,hx,hy,h=>by
   obtain⟨c,r,e1,e2,_,_⟩:=lz ha
   obtain⟨c',r',e1',e2',_,_⟩:=lz hb
   have hkk:k=k':=by
    have h':=h
    rw[e1,e1'] at h'
    simp only[List.cons_append,List.cons.injEq] at h'
    rw[h'.1] at e2
    exact e2.symm.trans e2'
   subst hkk
   have hk:=pp ha
   simp only[aO] at ha hb
   obtain⟨_,a2,a3,a4,a5,_,_,_,_,a10,a11,a12⟩:=ha
   obtain⟨_,b2,b3,b4,b5,_,_,_,_,b10,b11,b12⟩:=hb
   rw[fX,fX] at h
   by_cases c3:k=3
   ·subst c3
    simp only[show ¬ ((3:Int)=0) by omega,show ¬ ((3:Int)=1) by omega,show ¬ ((3:Int)=2) by omega,if_false,if_true] at h
    obtain⟨h1,h2⟩:=iJ (gR n) (gR n') (Eu hx) (Eu hy) h
    have:=Ep h1
    have q3:=a3.resolve_left (by omega);have q4:=a4.resolve_left (by omega);have q5:=a5.resolve_left (by omega)
    have p3:=b3.resolve_left (by omega);have p4:=b4.resolve_left (by omega);have p5:=b5.resolve_left (by omega)
    subst this q3 q4 q5 p3 p4 p5
    exact⟨rfl,h2⟩
   have q2:=a2.resolve_left c3
   have p2:=b2.resolve_left c3
   subst q2 p2
   by_cases c4:k=4
   ·subst c4
    simp only[show ¬ ((4:Int)=0) by omega,show ¬ ((4:Int)=1) by omega,show ¬ ((4:Int)=2) by omega,show ¬ ((4:Int)=3) by omega,if_false,if_true,List.cons_append,List.cons.injEq,true_and,List.append_assoc,List.nil_append] at h
    obtain⟨h1,h2⟩:=iJ (P:=bm) (cT a10) (cT b10) (jR 39 (by decide) _) (jR 39 (by decide) _) h
    have:=eP h1
    have q4:=a4.resolve_left (by omega);have q5:=a5.resolve_left (by omega)
    have p4:=b4.resolve_left (by omega);have p5:=b5.resolve_left (by omega)
    subst this q4 q5 p4 p5
    exact⟨rfl,(List.cons.inj h2).2⟩
   have q3:=a3.resolve_left c4
   have p3:=b3.resolve_left c4
   subst q3 p3
   by_cases c6:k=6
   ·subst c6
    simp only[show ¬ ((6:Int)=0) by omega,show ¬ ((6:Int)=1) by omega,show ¬ ((6:Int)=2) by omega,show ¬ ((6:Int)=3) by omega,show ¬ ((6:Int)=4) by omega,if_false,if_true,List.cons_append,List.cons.injEq,true_and,List.append_assoc,List.nil_append] at h
    obtain⟨g1,g2⟩:=a11 rfl
    obtain⟨g1',g2'⟩:=b11 rfl
    have oa:∀ s ∈ ks,okS s:=fun s hs=>by
     obtain⟨i,hi⟩:=List.getElem?_of_mem hs
     exact gP g2 hi
    have ob:∀ s ∈ ks',okS s:=fun s hs=>by
     obtain⟨i,hi⟩:=List.getElem?_of_mem hs
     exact gP g2' hi
    have key:TM ks l++125::x=TM ks' l'++125::y:=by
     cases l with
     | nil =>
       cases l' with
       | nil=>exact h
       | cons t' l' =>
         simp only[TMj,List.nil_append,List.append_assoc,List.cons_append] at h
         cases ks' with
         | nil=>simp at g1'
         | cons z ks'=>exact absurd h.symm (Ey (ob z (by simp)) _ 125 (by decide) (by decide) _)
     | cons t l =>
       cases l' with
       | nil =>
         simp only[TMj,List.nil_append,List.append_assoc,List.cons_append] at h
         cases ks with
         | nil=>simp at g1
         | cons z ks=>exact absurd h (Ey (oa z (by simp)) _ 125 (by decide) (by decide) _)
       | cons t' l' =>
         simp only[TM,TMj,List.cons_append,List.append_assoc] at h ⊢
         rw[h]
    obtain⟨h1,h2,h3⟩:=EA l g1 g1' oa ob a12 b12 key
    subst h1 h2
    exact⟨rfl,h3⟩
   have q4:=a4.resolve_left c6
   have p4:=b4.resolve_left c6
   subst q4 p4
   by_cases c5:k=5
   ·subst c5
    simp only[show ¬ ((5:Int)=0) by omega,show ¬ ((5:Int)=1) by omega,show ¬ ((5:Int)=2) by omega,show ¬ ((5:Int)=3) by omega,show ¬ ((5:Int)=4) by omega,show ¬ ((5:Int)=6) by omega,if_false,List.cons_append,List.cons.injEq,true_and,List.append_assoc,List.nil_append] at h
    have key:TR l++93::x=TR l'++93::y:=by
     cases l with
     | nil =>
       cases l' with
       | nil=>exact h
       | cons t' l' =>
         simp only[aP] at b12
         obtain⟨c,r,e,_,hne,_⟩:=lz b12.1
         simp only[TRj,List.nil_append,List.append_assoc,e,List.cons_append,List.cons.injEq] at h
         exact absurd h.1.symm hne
     | cons t l =>
       cases l' with
       | nil =>
         simp only[aP] at a12
         obtain⟨c,r,e,_,hne,_⟩:=lz a12.1
         simp only[TRj,List.nil_append,List.append_assoc,e,List.cons_append,List.cons.injEq] at h
         exact absurd h.1 hne
       | cons t' l' =>
         simp only[TR,TRj,List.cons_append,List.append_assoc] at h ⊢
         rw[h]
    obtain⟨h1,h2⟩:=Ez l a12 b12 key
    subst h1
    exact⟨rfl,h2⟩
   have q5:=a5.resolve_left (by omega)
   have p5:=b5.resolve_left (by omega)
   subst q5 p5
   refine⟨rfl,?_⟩
   exact List.append_cancel_left h
theorem Ez:∀ (l:List T) {l':List T} {d d':Int} {x y:List UInt8},aP l d->aP l' d'->TR l++93::x=TR l'++93::y->l=l'/\x=y
 | [],[],_,_,_,_,_,_,h=>⟨rfl,by simpa [TR] using h⟩
 | [],_::_,_,_,_,_,_,_,h=>by simp[TR] at h
 | _::_,[],_,_,_,_,_,_,h=>by simp[TR] at h
 | t::l,t'::l',d,d',x,y,ha,hb,h=>by
   simp only[aP] at ha hb
   simp only[TR,List.cons_append,List.cons.injEq,true_and,List.append_assoc] at h
   obtain⟨rfl,h1⟩:=rK t ha.1 hb.1 (Ev l x) (Ev l' y) h
   obtain⟨rfl,h2⟩:=Ez l ha.2 hb.2 h1
   exact⟨rfl,h2⟩
theorem EA:∀ (l:List T) {l':List T} {ks ks':List ByteArray} {d d':Int} {x y:List UInt8},ks.length=l.length->ks'.length=l'.length->(∀ s ∈ ks,okS s)->(∀ s ∈ ks',okS s)->aP l d->aP l' d'->TM ks l++125::x=TM ks' l'++125::y->ks=ks'/\l=l'/\x=y
 | [],[],ks,ks',_,_,_,_,hl,hl',_,_,_,_,h=>by
   rw[List.eq_nil_of_length_eq_zero hl,List.eq_nil_of_length_eq_zero hl']
   exact⟨rfl,rfl,by simpa [TM] using h⟩
 | [],_::_,_,_,_,_,_,_,_,_,_,_,_,_,h=>by simp[TM] at h
 | _::_,[],_,_,_,_,_,_,_,_,_,_,_,_,h=>by simp[TM] at h
 | t::l,t'::l',[],_,_,_,_,_,hl,_,_,_,_,_,_=>by simp at hl
 | t::l,t'::l',_::_,[],_,_,_,_,_,hl,_,_,_,_,_=>by simp at hl
 | t::l,t'::l',z::ks,z'::ks',d,d',x,y,hl,hl',oa,ob,ha,hb,h=>by
   simp only[aP] at ha hb
   simp only[TM,List.headD_cons,List.tail_cons,List.cons_append,List.cons.injEq,true_and,List.append_assoc] at h
   obtain⟨h1,h2⟩:=iJ (P:=bm) (cT (oa z (by simp))) (cT (ob z' (by simp))) (jR 58 (by decide) _) (jR 58 (by decide) _) h
   have h2:=(List.cons.inj h2).2
   obtain⟨rfl,h3⟩:=rK t ha.1 hb.1 (Ew ks l x) (Ew ks' l' y) h2
   obtain⟨rfl,rfl,h4⟩:=EA l (by simpa using hl) (by simpa using hl') (fun s hs=>oa s (List.mem_cons_of_mem _ hs)) (fun s hs=>ob s (List.mem_cons_of_mem _ hs)) ha.2 hb.2 h3
   rw[eP h1]
   exact⟨rfl,rfl,h4⟩
end
end Go.Proofs.Pw
namespace Go.Proofs.Pw
def skp (l:List UInt8) (a:Nat) (p:List UInt8):Bool:=p.isPrefixOf (l.drop a)
def aQ (l:List UInt8) (e:List UInt8) (a:Nat):Nat:=a+((l.drop a).takeWhile fun c=>!e.contains c).length
def sub (l:List UInt8) (a b:Nat):List UInt8:=(l.drop a).take (b-a)
def eg (l:List UInt8):Int:=match Lib.atoiAll l with
 | .ok v=>v
 | .range=>Lib.atoiSat l
 | _=>0
def clo (l:List UInt8) (a:Nat) (p:List UInt8):Nat:=if skp l a p then a+p.length else a
def rdL (f:Nat->T × Nat) (l:List UInt8):Nat->Nat->List T × Nat
 | 0,a=>([],a)
 | c+1,a=>if skp l (f a).2 [44] then ((f a).1::(rdL f l c ((f a).2+1)).1,(rdL f l c ((f a).2+1)).2) else ([(f a).1],(f a).2)
def rdM (f:Nat->T × Nat) (l:List UInt8):Nat->Nat->List ByteArray × List T × Nat
 | 0,a=>([],[],a)
 | c+1,a =>
   let b:=aQ l [58] a
   let k:=bL (sub l a b)
   let r:=f (clo l b [58])
   if skp l r.2 [44] then (k::(rdM f l c (r.2+1)).1,r.1::(rdM f l c (r.2+1)).2.1,(rdM f l c (r.2+1)).2.2) else ([k],[r.1],r.2)
def rdV:Nat->List UInt8->Nat->T × Nat
 | 0,_,a=>(T.zero,a)
 | d+1,l,a =>
   if skp l a [110,117,108,108] then (.mk 0 0 ⟨#[]⟩ [] [],a+4)
   else if skp l a [102,97,108,115,101] then (.mk 1 0 ⟨#[]⟩ [] [],a+5)
   else if skp l a [116,114,117,101] then (.mk 2 0 ⟨#[]⟩ [] [],a+4)
   else if skp l a [39] then (.mk 4 0 (bL (sub l (a+1) (aQ l [39] (a+1)))) [] [],clo l (aQ l [39] (a+1)) [39])
   else if skp l a [91] then
    if skp l (a+1) [93] then (.mk 5 0 ⟨#[]⟩ [] [],a+2)
    else (.mk 5 0 ⟨#[]⟩ [] (rdL (rdV d l) l 61 (a+1)).1,clo l (rdL (rdV d l) l 61 (a+1)).2 [93])
   else if skp l a [123] then
    if skp l (a+1) [125] then (.mk 6 0 ⟨#[]⟩ [] [],a+2)
    else (.mk 6 0 ⟨#[]⟩ (rdM (rdV d l) l 61 (a+1)).1 (rdM (rdV d l) l 61 (a+1)).2.1,clo l (rdM (rdV d l) l 61 (a+1)).2.2 [125])
   else (.mk 3 (eg (sub l a (aQ l [44,93,125] a))) ⟨#[]⟩ [] [],aQ l [44,93,125] a)
theorem dl {l p:List UInt8} {a:Nat} (h:skp l a p=true) (hp:p≠[]):a+p.length<=l.length:=by
 have:=(List.isPrefixOf_iff_prefix.1 h).length_le
 rw[List.length_drop] at this
 have:0 < p.length:=List.length_pos_iff.2 hp
 omega
theorem EB {α:Type} (p:α->Bool) (l:List α):(l.takeWhile p).length<=l.length:=(List.takeWhile_prefix p).length_le
theorem lA {l e:List UInt8} {a:Nat} (h:a<=l.length):a<=aQ l e a/\aQ l e a<=l.length:=by
 unfold aQ
 have:=EB (fun c=>!e.contains c) (l.drop a)
 rw[List.length_drop] at this
 omega
theorem pr {l p:List UInt8} {a:Nat} (h:a<=l.length) (hp:p≠[]):a<=clo l a p/\clo l a p<=l.length:=by
 unfold clo
 split
 ·rename_i c
  have:=dl c hp
  omega
 ·omega
theorem iK {l:List UInt8} {a b:Nat} (h:b<=l.length):(sub l a b).length<=l.length:=by
 unfold sub
 rw[List.length_take,List.length_drop];omega
theorem EC (l:List UInt8):i64 (eg l):=by
 unfold eg i64
 split
 ·rename_i v h
  exact Lib.atoiAll_bounds h
 ·exact Lib.atoiSat_bounds l
 ·omega
def wI (l:List UInt8) (a:Nat) (r:T × Nat):Prop:=a<=r.2/\r.2<=l.length/\aB r.1+a<=1+(r.2:Int)/\r.1.fit (l.length+61)
theorem ED {f:Nat->T × Nat} {l:List UInt8} (hf:∀ a,a<=l.length->wI l a (f a)):∀ (c a:Nat),a<=l.length->a<=(rdL f l c a).2/\(rdL f l c a).2<=l.length/\az (rdL f l c a).1+a<=1+((rdL f l c a).2:Int)/\(rdL f l c a).1.length<=c/\bt (l.length+61) (rdL f l c a).1
 | 0,a,h=>by simp only[rdL,az];exact⟨Nat.le_refl _,h,by omega,by simp,trivial⟩
 | c+1,a,h=>by
   obtain⟨h1,h2,h3,h4⟩:=hf a h
   simp only[rdL]
   split
   ·rename_i hs
    have hs':=dl hs (by simp)
    simp only[List.length_cons,List.length_nil] at hs'
    obtain⟨g1,g2,g3,g4,g5⟩:=ED hf c ((f a).2+1) (by omega)
    simp only[az,List.length_cons]
    exact⟨by omega,g2,by omega,by omega,h4,g5⟩
   ·simp only[az,List.length_cons,List.length_nil]
    exact⟨h1,h2,by omega,by omega,h4,trivial⟩
theorem EE {f:Nat->T × Nat} {l:List UInt8} (hf:∀ a,a<=l.length->wI l a (f a)):∀ (c a:Nat),a<=l.length->a<=(rdM f l c a).2.2/\(rdM f l c a).2.2<=l.length/\az (rdM f l c a).2.1+a<=1+((rdM f l c a).2.2:Int)/\(rdM f l c a).2.1.length<=c/\(rdM f l c a).1.length<=c/\bt (l.length+61) (rdM f l c a).2.1/\∀ s ∈ (rdM f l c a).1,s.size<=l.length
 | 0,a,h=>by simp only[rdM,az];exact⟨Nat.le_refl _,h,by omega,by simp,by simp,trivial,by simp⟩
 | c+1,a,h=>by
   obtain⟨u1,u2⟩:=lA (e:=[58]) h
   obtain⟨w1,w2⟩:=pr (p:=[58]) u2 (by simp)
   obtain⟨h1,h2,h3,h4⟩:=hf _ w2
   have hk:(bL (sub l a (aQ l [58] a))).size<=l.length:=by rw[bM];exact iK u2
   simp only[rdM]
   split
   ·rename_i hs
    have hs':=dl hs (by simp)
    simp only[List.length_cons,List.length_nil] at hs'
    obtain⟨g1,g2,g3,g4,g5,g6,g7⟩:=EE hf c ((f (clo l (aQ l [58] a) [58])).2+1) (by omega)
    simp only[az,List.length_cons]
    refine⟨by omega,g2,by omega,by omega,by omega,⟨h4,g6⟩,fun s hs=>?_⟩
    rcases List.mem_cons.1 hs with rfl|hs
    ·exact hk
    ·exact g7 s hs
   ·simp only[az,List.length_cons,List.length_nil]
    refine⟨by omega,h2,by omega,by omega,by omega,⟨h4,trivial⟩,fun s hs=>?_⟩
    rw[List.mem_singleton] at hs
    rw[hs];exact hk
theorem dK {k n:Int} {s:ByteArray} {B:Int} (hk:i64 k) (hn:i64 n) (hs:(s.size:Int)<=B) (hB:0<=B):(T.mk k n s [] []).fit B:=by
 simp only[T.fit,aa,cA]
 exact⟨hk,hn,hs,⟨by simpa using hB,by simp⟩,by simpa using hB,trivial⟩
theorem rL:∀ (d:Nat) (l:List UInt8) (a:Nat),a<=l.length->wI l a (rdV d l a)
 | 0,l,a,h=>by
   unfold rdV
   exact⟨Nat.le_refl _,h,by show aB T.zero+_<=_;simp[T.zero,aB,az],dK (by unfold i64;omega) (by unfold i64;omega) (by show ((0:Nat):Int)<=_;omega) (by omega)⟩
 | d+1,l,a,h=>by
   have hz:(((⟨#[]⟩:ByteArray).size:Nat):Int)=0:=rfl
   have e1:∀ k:Int,∀ n s,aB (.mk k n s [] [])=1:=fun k n s=>by simp[aB,az]
   unfold rdV
   split
   ·rename_i c
    have c:=dl c (by simp)
    simp only[List.length_cons,List.length_nil] at c
    exact⟨by simp only;omega,by simp only;omega,by rw[e1];simp only;omega,dK (by unfold i64;omega) (by unfold i64;omega) (by rw[hz];omega) (by omega)⟩
   split
   ·rename_i c
    have c:=dl c (by simp)
    simp only[List.length_cons,List.length_nil] at c
    exact⟨by simp only;omega,by simp only;omega,by rw[e1];simp only;omega,dK (by unfold i64;omega) (by unfold i64;omega) (by rw[hz];omega) (by omega)⟩
   split
   ·rename_i c
    have c:=dl c (by simp)
    simp only[List.length_cons,List.length_nil] at c
    exact⟨by simp only;omega,by simp only;omega,by rw[e1];simp only;omega,dK (by unfold i64;omega) (by unfold i64;omega) (by rw[hz];omega) (by omega)⟩
   split
   ·rename_i c
    have c:=dl c (by simp)
    simp only[List.length_cons,List.length_nil] at c
    obtain⟨u1,u2⟩:=lA (l:=l) (e:=[39]) (a:=a+1) (by omega)
    obtain⟨w1,w2⟩:=pr (p:=[39]) u2 (by simp)
    have hk:(bL (sub l (a+1) (aQ l [39] (a+1)))).size<=l.length:=by rw[bM];exact iK u2
    exact⟨by simp only;omega,w2,by rw[e1];simp only;omega,dK (by unfold i64;omega) (by unfold i64;omega) (by omega) (by omega)⟩
   split
   ·rename_i c
    have c:=dl c (by simp)
    simp only[List.length_cons,List.length_nil] at c
    split
    ·rename_i c'
     have c':=dl c' (by simp)
     simp only[List.length_cons,List.length_nil] at c'
     exact⟨by simp only;omega,by simp only;omega,by rw[e1];simp only;omega,dK (by unfold i64;omega) (by unfold i64;omega) (by rw[hz];omega) (by omega)⟩
    ·obtain⟨g1,g2,g3,g4,g5⟩:=ED (fun a h=>rL d l a h) 61 (a+1) (by omega)
     obtain⟨w1,w2⟩:=pr (p:=[93]) g2 (by simp)
     refine⟨by simp only;omega,w2,by simp only[aB];omega,?_⟩
     simp only[T.fit,aa,cA]
     exact⟨by unfold i64;omega,by unfold i64;omega,by rw[hz];omega,⟨by simp;omega,by simp⟩,by omega,g5⟩
   split
   ·rename_i c
    have c:=dl c (by simp)
    simp only[List.length_cons,List.length_nil] at c
    split
    ·rename_i c'
     have c':=dl c' (by simp)
     simp only[List.length_cons,List.length_nil] at c'
     exact⟨by simp only;omega,by simp only;omega,by rw[e1];simp only;omega,dK (by unfold i64;omega) (by unfold i64;omega) (by rw[hz];omega) (by omega)⟩
    ·obtain⟨g1,g2,g3,g4,g5,g6,g7⟩:=EE (fun a h=>rL d l a h) 61 (a+1) (by omega)
     obtain⟨w1,w2⟩:=pr (p:=[125]) g2 (by simp)
     refine⟨by simp only;omega,w2,by simp only[aB];omega,?_⟩
     simp only[T.fit,aa,cA]
     exact⟨by unfold i64;omega,by unfold i64;omega,by rw[hz];omega,⟨by omega,fun s hs=>by have:=g7 s hs;omega⟩,by omega,g6⟩
   ·obtain⟨u1,u2⟩:=lA (l:=l) (e:=[44,93,125]) h
    exact⟨u1,u2,by rw[e1];simp only;omega,dK (by unfold i64;omega) (EC _) (by rw[hz];omega) (by omega)⟩
end Go.Proofs.Pw
namespace Go.Proofs.Pw
def lB:List UInt8->Prop
 | []=>True
 | b::_=>b=44\/b=125\/b=93
theorem cl {l w x:List UInt8} {a:Nat} (h:l.drop a=w++x):l.drop (a+w.length)=x:=by
 rw[<-List.drop_drop,h,List.drop_left'];rfl
theorem fY {l p r:List UInt8} {a:Nat} (h:l.drop a=p++r):skp l a p=true:=by
 unfold skp
 rw[h,List.isPrefixOf_iff_prefix]
 exact List.prefix_append p r
theorem bV {l r q:List UInt8} {a:Nat} {b c:UInt8} (h:l.drop a=c::r) (hne:b≠c):skp l a (b::q)=false:=by
 unfold skp
 rw[h]
 simp[List.isPrefixOf,hne]
theorem rM {l p r:List UInt8} {a:Nat} (h:l.drop a=p++r):clo l a p=a+p.length:=by
 unfold clo;rw[fY h,if_pos rfl]
theorem wJ {l w x e:List UInt8} {a:Nat} (h:l.drop a=w++x) (hw:∀ c ∈ w,e.contains c=false) (hx:∀ b r,x=b::r->e.contains b=true):aQ l e a=a+w.length/\sub l a (aQ l e a)=w:=by
 have key:(w++x).takeWhile (fun c=>!e.contains c)=w:=by
  rw[List.takeWhile_append_of_pos (fun c hc=>by simp only[hw c hc,Bool.not_false])]
  cases x with
  | nil=>simp
  | cons b r =>
    have h1:=hx b r rfl
    rw[List.takeWhile_cons_of_neg (by rw[h1];simp),List.append_nil]
 have e1:aQ l e a=a+w.length:=by unfold aQ;rw[h,key]
 refine⟨e1,?_⟩
 unfold sub
 rw[e1,h,Nat.add_sub_cancel_left,List.take_left']
 rfl
theorem EF {c:UInt8}:∀ (l:List UInt8) (acc v:Nat),Lib.parseUint10 acc l=.ok v->48<=c.toNat/\c.toNat<=57->v < 1844674407370955161->Lib.parseUint10 acc (l++[c])=.ok (v*10+(c.toNat-48))
 | [],acc,v,h,hc,hv=>by
   simp only[Lib.parseUint10] at h
   injection h with h
   subst h
   simp only[List.nil_append,Lib.parseUint10]
   rw[if_pos hc,if_neg (by omega),if_neg (by omega)]
 | b::l,acc,v,h,hc,hv=>by
   simp only[List.cons_append,Lib.parseUint10] at h ⊢
   split at h
   ·split at h
    ·cases h
    ·split at h
     ·cases h
     ·rename_i h1 h2 h3
      rw[if_pos h1,if_neg h2,if_neg h3]
      exact EF l _ v h hc hv
   ·cases h
theorem QV (u:Nat):u < 1000000000000->Lib.parseUint10 0 (Lib.decDigits u)=.ok u:=by
 induction u using Nat.strongRecOn with
 | _ u ih =>
   intro hu
   by_cases h:u < 10
   ·have hd:=lx h
    rw[Lib.decDigits,dif_pos h]
    simp only[Lib.parseUint10]
    rw[if_pos (by omega),if_neg (by omega),if_neg (by omega)]
    congr 1;omega
   ·have hd:=lx (show u % 10 < 10 by omega)
    rw[Lib.decDigits,dif_neg h,EF _ _ _ (ih (u / 10) (by omega) (by omega)) (by omega) (by omega)]
    congr 1;omega
theorem EG {u:Nat} (h:u < 1000000000000):Lib.parseMag (Lib.decDigits u)=.ok u:=by
 unfold Lib.parseMag
 rw[if_neg (ly u),QV u h]
theorem QW {n:Int} (h0:-1000000<=n) (h1:n<=1000000):Lib.atoiAll (Lib.itoa n)=.ok n:=by
 unfold Lib.itoa
 split
 ·rename_i hn
  rw[Lib.atoiAll_minus,EG (by omega)]
  simp only[Lib.signed]
  rw[if_neg (by omega)]
  congr 1;omega
 ·obtain⟨c,r,e⟩:=List.exists_cons_of_ne_nil (ly n.toNat)
  have hc:=jQ n.toNat c (by rw[e];simp)
  rw[e,Lib.atoiAll_plain c r (by omega) (by omega),<-e,EG (by omega)]
  simp only[Lib.signless]
  rw[if_neg (by omega)]
  congr 1;omega
theorem EH {n:Int} (h0:-1000000<=n) (h1:n<=1000000):eg (Lib.itoa n)=n:=by
 unfold eg
 rw[QW h0 h1]
theorem EI (l:List T) (x:List UInt8):lB (TR l++93::x):=by
 cases l with
 | nil=>exact .inr (.inr rfl)
 | cons t l=>exact .inl rfl
theorem EJ (ks:List ByteArray) (l:List T) (x:List UInt8):lB (TM ks l++125::x):=by
 cases l with
 | nil=>exact .inr (.inl rfl)
 | cons t l=>exact .inl rfl
theorem jS (s:ByteArray):bL (tL s)=s:=jK s
theorem EK {s:ByteArray} (h:okS s) {e:UInt8} (he:e.toNat < 97):∀ c ∈ tL s,[e].contains c=false:=fun c hc=>by
 have:=cT h c hc
 unfold bm at this
 simp only[List.contains_cons,List.contains_nil,Bool.or_false,beq_eq_false_iff_ne,ne_eq]
 intro e';subst e';omega
theorem rN (t:T):1<=aB t:=by
 obtain⟨k,n,s,ks,l⟩:=t
 have:=gQ l
 simp only[aB];omega
mutual
theorem wK:∀ (t:T) {d:Nat} {l:List UInt8} {a:Nat} {x:List UInt8},aO t d->aB t<=60->l.drop a=tL (aA t)++x->lB x->rdV d l a=(t,a+(tL (aA t)).length)
 | .mk k n s ks ts,0,l,a,x,hf,_,_,_=>by simp only[aO] at hf;have:=hf.1;omega
 | .mk k n s ks ts,d+1,l,a,x,hf,hz,h,hx=>by
   have hk:=pp hf
   simp only[aO] at hf
   obtain⟨_,a2,a3,a4,a5,_,_,a8,a9,a10,a11,a12⟩:=hf
   have ed:((d+1:Nat):Int)-1=(d:Int):=by omega
   rw[ed] at a12
   simp only[aB] at hz
   have hlen:=gQ ts
   rw[fX] at h ⊢
   by_cases c0:k=0
   ·subst c0
    have q2:=a2.resolve_left (by omega);have q3:=a3.resolve_left (by omega);have q4:=a4.resolve_left (by omega);have q5:=a5.resolve_left (by omega)
    subst q2 q3 q4 q5
    rw[if_pos rfl] at h ⊢
    unfold rdV
    rw[if_pos (fY h)];rfl
   rw[if_neg c0] at h ⊢
   by_cases c1:k=1
   ·subst c1
    have q2:=a2.resolve_left (by omega);have q3:=a3.resolve_left (by omega);have q4:=a4.resolve_left (by omega);have q5:=a5.resolve_left (by omega)
    subst q2 q3 q4 q5
    rw[if_pos rfl] at h ⊢
    unfold rdV
    rw[bV (b:=110) h (by decide),if_neg (by simp),if_pos (fY h)];rfl
   rw[if_neg c1] at h ⊢
   by_cases c2:k=2
   ·subst c2
    have q2:=a2.resolve_left (by omega);have q3:=a3.resolve_left (by omega);have q4:=a4.resolve_left (by omega);have q5:=a5.resolve_left (by omega)
    subst q2 q3 q4 q5
    rw[if_pos rfl] at h ⊢
    unfold rdV
    rw[bV (b:=110) h (by decide),if_neg (by simp),bV (b:=102) h (by decide),if_neg (by simp),if_pos (fY h)];rfl
   rw[if_neg c2] at h ⊢
   by_cases c3:k=3
   ·subst c3
    have q3:=a3.resolve_left (by omega);have q4:=a4.resolve_left (by omega);have q5:=a5.resolve_left (by omega)
    subst q3 q4 q5
    rw[if_pos rfl] at h ⊢
    obtain⟨c,r,e⟩:=mY n
    have hc:=gR n c (by rw[e];simp)
    have hne:∀ m:UInt8,m.toNat≠45->¬ (48<=m.toNat/\m.toNat<=57)->m≠c:=fun m h1 h2 e=>by rw[<-e] at hc;exact hc.elim h1 h2
    have h':l.drop a=c::(r++x):=by rw[h,e];rfl
    obtain⟨u1,u2⟩:=wJ (e:=[44,93,125]) h (fun c hc=>by
     have:=gR n c hc
     simp only[List.contains_cons,List.contains_nil,Bool.or_false,Bool.or_eq_false_iff,beq_eq_false_iff_ne,ne_eq]
     refine⟨?_,?_,?_⟩ <;> (intro e';subst e';revert this;decide)) (fun b r e=>by
     subst e
     rcases hx with rfl|rfl|rfl <;> rfl)
    unfold rdV
    rw[bV (b:=110) h' (hne _ (by decide) (by decide)),if_neg (by simp),bV (b:=102) h' (hne _ (by decide) (by decide)),if_neg (by simp),bV (b:=116) h' (hne _ (by decide) (by decide)),if_neg (by simp),
     bV (b:=39) h' (hne _ (by decide) (by decide)),if_neg (by simp),bV (b:=91) h' (hne _ (by decide) (by decide)),if_neg (by simp),bV (b:=123) h' (hne _ (by decide) (by decide)),if_neg (by simp),u2,u1,EH a8 a9]
   rw[if_neg c3] at h ⊢
   have q2:=a2.resolve_left c3
   subst q2
   by_cases c4:k=4
   ·subst c4
    have q4:=a4.resolve_left (by omega);have q5:=a5.resolve_left (by omega)
    subst q4 q5
    rw[if_pos rfl] at h ⊢
    have h':l.drop a=39::(tL s++39::x):=by rw[h];simp
    have h2:l.drop (a+1)=tL s++39::x:=cl (w:=[39]) h'
    obtain⟨u1,u2⟩:=wJ (e:=[39]) h2 (EK a10 (by decide)) (fun b r e=>by cases e;rfl)
    have h3:=cl h2
    rw[<-u1] at h3
    unfold rdV
    rw[bV (b:=110) h' (by decide),if_neg (by simp),bV (b:=102) h' (by decide),if_neg (by simp),bV (b:=116) h' (by decide),if_neg (by simp),
     if_pos (fY (p:=[39]) h'),u2,rM (p:=[39]) h3,u1,jS]
    simp only[List.length_cons,List.length_append,List.length_nil,Prod.mk.injEq,true_and]
    omega
   rw[if_neg c4] at h ⊢
   have q3:=a3.resolve_left c4
   subst q3
   by_cases c6:k=6
   ·subst c6
    rw[if_pos rfl] at h ⊢
    obtain⟨g1,g2⟩:=a11 rfl
    have ok:∀ s ∈ ks,okS s:=fun s hs=>by
     obtain⟨i,hi⟩:=List.getElem?_of_mem hs
     exact gP g2 hi
    have h':l.drop a=123::(TMj ks ts++125::x):=by rw[h];simp
    have h2:l.drop (a+1)=TMj ks ts++125::x:=cl (w:=[123]) h'
    unfold rdV
    rw[bV (b:=110) h' (by decide),if_neg (by simp),bV (b:=102) h' (by decide),if_neg (by simp),bV (b:=116) h' (by decide),if_neg (by simp),
     bV (b:=39) h' (by decide),if_neg (by simp),bV (b:=91) h' (by decide),if_neg (by simp),if_pos (fY (p:=[123]) h')]
    cases ts with
    | nil =>
      rw[List.length_nil] at g1
      have:=List.eq_nil_of_length_eq_zero g1
      subst this
      rw[if_pos (fY (p:=[125]) h2)]
      rfl
    | cons t ts =>
      cases ks with
      | nil=>simp at g1
      | cons z ks =>
        have hno:skp l (a+1) [125]=false:=by
         cases hz':tL z with
         | nil =>
           have:l.drop (a+1)=58::(tL (aA t)++TM ks ts++125::x):=by rw[h2];simp[TMj,hz']
           exact bV this (by decide)
         | cons b r =>
           have:l.drop (a+1)=b::(r++58::(tL (aA t)++TM ks ts++125::x)):=by rw[h2];simp[TMj,hz']
           refine bV this fun e=>?_
           have:=cT (ok z (by simp)) b (by rw[hz'];simp)
           rw[<-e] at this
           exact pq (by decide) this
        have hr:=EM (t::ts) (c:=61) (ks:=z::ks) (by simp) (by simp only[List.length_cons] at hlen ⊢;omega) g1 ok a12 (by omega) h2
        have h3:=cl h2
        rw[hno,if_neg (by simp),hr,rM (p:=[125]) h3]
        simp only[List.length_cons,List.length_append,List.length_nil,Prod.mk.injEq,true_and]
        omega
   rw[if_neg c6] at h ⊢
   have q4:=a4.resolve_left c6
   subst q4
   have c5:k=5:=by
    have h0:=hk.1
    have h6:=hk.2
    omega
   subst c5
   have h':l.drop a=91::(TRj ts++93::x):=by rw[h];simp
   have h2:l.drop (a+1)=TRj ts++93::x:=cl (w:=[91]) h'
   unfold rdV
   rw[bV (b:=110) h' (by decide),if_neg (by simp),bV (b:=102) h' (by decide),if_neg (by simp),bV (b:=116) h' (by decide),if_neg (by simp),
    bV (b:=39) h' (by decide),if_neg (by simp),if_pos (fY (p:=[91]) h')]
   cases ts with
   | nil=>rw[if_pos (fY (p:=[93]) h2)];rfl
   | cons t ts =>
     have hno:skp l (a+1) [93]=false:=by
      have hft:=a12
      simp only[aP] at hft
      obtain⟨c,r,e,_,hne,_⟩:=lz hft.1
      have:l.drop (a+1)=c::(r++TR ts++93::x):=by rw[h2];simp[TRj,e]
      exact bV this (fun e=>hne e.symm)
     have hr:=EL (t::ts) (c:=61) (by simp) (by simp only[List.length_cons] at hlen ⊢;omega) a12 (by omega) h2
     have h3:=cl h2
     rw[hno,if_neg (by simp),hr,rM (p:=[93]) h3]
     simp only[List.length_cons,List.length_append,List.length_nil,Prod.mk.injEq,true_and]
     omega
theorem EL:∀ (ts:List T) {d:Nat} {l:List UInt8} {c a:Nat} {x:List UInt8},ts≠[]->ts.length<=c->aP ts d->az ts<=60->l.drop a=TRj ts++93::x->rdL (rdV d l) l c a=(ts,a+(TRj ts).length)
 | [],_,_,_,_,_,h,_,_,_,_=>absurd rfl h
 | t::ts,d,l,0,a,x,_,hc,_,_,_=>by simp at hc
 | t::ts,d,l,c+1,a,x,_,hc,hf,hz,h=>by
   simp only[aP] at hf
   simp only[az] at hz
   have hp:=rN t
   have hl:=gQ ts
   simp only[TRj,List.append_assoc] at h
   have h1:=wK t hf.1 (by omega) h (EI ts x)
   have h2:=cl h
   simp only[rdL,h1]
   cases ts with
   | nil =>
     rw[bV (b:=44) h2 (by decide),if_neg (by simp)]
     simp[TRj,TR]
   | cons u ts =>
     have h3:l.drop (a+(tL (aA t)).length+1)=TRj (u::ts)++93::x:=by
      have:l.drop (a+(tL (aA t)).length)=[44]++(TRj (u::ts)++93::x):=by rw[h2];simp[TR,TRj]
      exact cl (w:=[44]) this
     have hr:=EL (u::ts) (c:=c) (by simp) (by simpa using hc) hf.2 (by omega) h3
     rw[fY (p:=[44]) (r:=TRj (u::ts)++93::x) (by rw[h2];simp[TR,TRj]),if_pos rfl,hr]
     simp only[TRj,TR,List.length_append,List.length_cons,Prod.mk.injEq,true_and]
     omega
theorem EM:∀ (ts:List T) {ks:List ByteArray} {d:Nat} {l:List UInt8} {c a:Nat} {x:List UInt8},ts≠[]->ts.length<=c->ks.length=ts.length->(∀ s ∈ ks,okS s)->aP ts d->az ts<=60->l.drop a=TMj ks ts++125::x->rdM (rdV d l) l c a=(ks,ts,a+(TMj ks ts).length)
 | [],_,_,_,_,_,_,h,_,_,_,_,_,_=>absurd rfl h
 | t::ts,_,d,l,0,a,x,_,hc,_,_,_,_,_=>by simp at hc
 | t::ts,[],d,l,c+1,a,x,_,_,hk,_,_,_,_=>by simp at hk
 | t::ts,z::ks,d,l,c+1,a,x,_,hc,hk,ok,hf,hz,h=>by
   simp only[aP] at hf
   simp only[az] at hz
   have hp:=rN t
   have hl:=gQ ts
   simp only[TMj,List.headD_cons,List.tail_cons,List.append_assoc,List.cons_append] at h
   obtain⟨u1,u2⟩:=wJ (e:=[58]) h (EK (ok z (by simp)) (by decide)) (fun b r e=>by cases e;rfl)
   have h1:=cl h
   rw[<-u1] at h1
   have h2:l.drop (aQ l [58] a+1)=tL (aA t)++(TM ks ts++125::x):=cl (w:=[58]) h1
   have h3:=wK t hf.1 (by omega) h2 (EJ ks ts x)
   have h4:=cl h2
   simp only[rdM,u2,rM (p:=[58]) h1,List.length_cons,List.length_nil,Nat.zero_add,h3,jS]
   cases ts with
   | nil =>
     have hk0:ks=[]:=List.eq_nil_of_length_eq_zero (by simpa using hk)
     subst hk0
     rw[bV (b:=44) h4 (by decide),if_neg (by simp),u1]
     simp only[TMj,TM,List.headD_cons,List.append_nil,List.length_append,List.length_cons,Prod.mk.injEq,true_and]
     omega
   | cons u ts =>
     cases ks with
     | nil=>simp at hk
     | cons z' ks =>
       have h5:l.drop (aQ l [58] a+1+(tL (aA t)).length+1)=TMj (z'::ks) (u::ts)++125::x:=by
        have:l.drop (aQ l [58] a+1+(tL (aA t)).length)=[44]++(TMj (z'::ks) (u::ts)++125::x):=by rw[h4];simp[TM,TMj]
        exact cl (w:=[44]) this
       have hr:=EM (u::ts) (ks:=z'::ks) (c:=c) (by simp) (by simpa using hc) (by simpa using hk) (fun s hs=>ok s (List.mem_cons_of_mem _ hs)) hf.2 (by omega) h5
       rw[fY (p:=[44]) (r:=TMj (z'::ks) (u::ts)++125::x) (by rw[h4];simp[TM,TMj]),if_pos rfl,hr,u1]
       simp only[TMj,TM,List.headD_cons,List.tail_cons,List.length_append,List.length_cons,Prod.mk.injEq,true_and]
       omega
end
theorem QX {t:T} (h:okT t):rdV 6 (tL (aA t)) 0=(t,(tL (aA t)).length):=by
 have:=wK t (d:=6) (l:=tL (aA t)) (a:=0) (x:=[]) h.1 (jJ h) (by simp) trivial
 simpa using this
end Go.Proofs.Pw
