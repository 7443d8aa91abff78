/- Numbers as texts, texts joined: the library's functions, by what is proved of them. -/
import Derived.Test.YtcligmgalcidpaaGreatDoorPwT12
import Derived.Test.YtcligmgalcidpaaGreatDoorPwT13
import Derived.Test.YtcligmgalcidpaaGreatDoorPwT10
import Derived.KernelRfl
import Derived.Test.YtcligmgalcidpaaGreatDoorPwT9
import Derived.Test.YtcligmgalcidpaaGreatDoorPwT11
import Derived.Lib.AtoiAllCases
set_option linter.unusedSimpArgs false
set_option linter.unusedVariables false
set_option linter.unusedSectionVars false
set_option maxRecDepth 20000
namespace Go.Proofs.Pw
open Go.RowKit Go.Sort
variable [Globs]
theorem BT:aw Tryz.prog 44=true:=by kernel_rfl
theorem Nz:aw Tryz.prog 72=true:=by kernel_rfl
def tabK [Globs] : Prop := ∃ g, Tryz.prog.globalNamed "internal/strconv.uint64pow10" = some g /\ (g, Lib.pow10Tab.map (fun z => Value.int .u64 z)) ∈ Globs.K
theorem Fr.grown (X:Nat->Prop) (w:World) (k:Nat) (os:Array Obj):Fr X w.heap.size w (grow (w.drewN k) os) :=
 ⟨rfl,rfl,rfl,by simp[grow,World.drewN],fun i hi _=>by
  show (w.heap++os)[i]?=w.heap[i]?
  rw[Array.getElem?_append_left hi]⟩
noncomputable def lW :Spec:=Spec.of (ι:=Int) [false] (fun i=>[.d (.one (.int .i64 i))]) (fun i=>i64 i) (fun i=>[.d (.one (.str (cK i)))]) (fun _=>[.gone])
theorem uA:∀ i j:Int,(fun (i:Int)=>([.d (.one (.int .i64 i))]:List AV)) i=(fun (i:Int)=>([.d (.one (.int .i64 i))]:List AV)) j->i=j:=by
 intro n n' h
 simpa [ap,T.enc_eq,aq,F.enc_eq,ar,Tk.enc_eq,au,Gn.enc_eq,ao] using h
theorem BU :(lW).md=[false]:=rfl
theorem BV  (n:Int):(lW).pre [.d (.one (.int .i64 n))]=(i64 n):=Spec.of_pre' uA n
theorem uB :(lW).alts=none:=rfl
theorem uC  (n:Int):(lW).res [.d (.one (.int .i64 n))]=[.d (.one (.str (cK n)))]:=Spec.of_res uA n
theorem uD  (n:Int):(lW).out [.d (.one (.int .i64 n))]=[.gone]:=Spec.of_out uA n
theorem BW (hK:tabK):Sound Tryz.prog 44 lW:=by
 rintro args ⟨n,rfl,hn⟩ w S vs fps hG hS hF ha hA
 cases hA with
 | cons h1 h2 =>
   cases h2
   obtain⟨hr,hfp⟩:=h1
   cases hr
   obtain⟨g,hg,hk⟩:=hK
   obtain⟨_,t,x,hx⟩:=hG.2 g _ hk
   have htab : Lib.TabIs Tryz.prog w "internal/strconv.uint64pow10" .u64 Lib.pow10Tab := by
    unfold Lib.TabIs World.var?
    rw[hg]
    simp only[Option.bind_some,hx]
   refine (Tryz.strconv_Itoa n hn.1 hn.2 w htab).mono ?_
   rintro e w' ⟨rfl,k,os,rfl⟩
   refine⟨[.d (.one (.str (cK n)))],[.gone],(Spec.may_none uB).2 ⟨(uC n).symm,(uD n).symm⟩,_,S,[fun _=>False],[fun _=>False],rfl,⟨.str _,fun _ h=>h⟩,.cons (fun _ h=>h) .nil,fun g hg=>.inl hg,fun g hg=>?_,?_,?_,Fr.grown _ w k os⟩
   ·exact Nat.lt_of_lt_of_le (hS g hg) (Fr.grown (fun _=>False) w k os).size
   ·exact⟨fun g h=>h.elim,fun g h=>h.elim,fun g h=>h.elim,fun g h=>h.elim,trivial⟩
   ·rintro g ⟨p,hp,hpg⟩
    simp only[List.cons_append,List.nil_append,List.mem_cons,List.not_mem_nil,or_false] at hp
    rcases hp with rfl|rfl <;> exact hpg.elim
theorem Fr.below {B:Nat} (X:Nat->Prop) {w w':World} (h:Below B w w'):Fr X B w w':=⟨h.os,h.tape,h.output,h.size,fun k hk _=>h.block k hk⟩
theorem NA {xs:List ByteArray} (h:aa xs=[]):xs=[]:=by cases xs <;> simp_all [aa]
theorem NB {xs:List ByteArray} {sep:ByteArray} {w w':World} {S:Nat->Prop} {r:RV} {fp fp2:Nat->Prop} {v2:Value} (hp:Priv w S 1 (aa xs) r) (hf:∀ g,fp g ↔ ae r g) (hb:Below w.heap.size w w') (hS:∀ g,S g->g < w.heap.size) (ha:Apart S [fp,fp2]) (hf2:∀ g,¬ fp2 g) :
 ∃ S' rfs fps',RepR w' S' [.d (.one (.str (bB xs sep)))] (.string (bB xs sep)) rfs/\All3 (RepA w' S') [.own 1 (aa xs),.gone] [r.v,v2] fps' /\
  (∀ g,S' g->S g\/w.heap.size<=g\/Any [fp,fp2] g)/\(∀ g,S' g->g < w'.heap.size) /\
  Apart S' (rfs++fps')/\(∀ g,Any (rfs++fps') g->(w.heap.size<=g\/Any [fp,fp2] g)/\g < w'.heap.size)/\Fr (Any [fp,fp2]) w.heap.size w w':=by
 have hlt:∀ g,ae r g->g < w.heap.size:=fun g hg=>hp.lt hg
 have hp':Priv w' S 1 (aa xs) r:=hp.move (fun _ h=>h) (fun g hg=>hb.block g (hS g hg)) (fun g hg=>hb.block g (hlt g hg))
 refine⟨S,[fun _=>False],[fp,fp2],⟨.str _,fun _ h=>h⟩,.cons ⟨by decide,r,rfl,hp',hf⟩ (.cons hf2 .nil),fun g hg=>.inl hg,fun g hg=>Nat.lt_of_lt_of_le (hS g hg) hb.size,⟨fun g h=>h.elim,fun g h=>h.elim,ha⟩,?_,Fr.below _ hb⟩
 rintro g ⟨p,hp1,hpg⟩
 simp only[List.cons_append,List.nil_append,List.mem_cons,List.not_mem_nil,or_false] at hp1
 rcases hp1 with rfl|rfl|rfl
 ·exact hpg.elim
 ·exact⟨.inr ⟨_,by simp,hpg⟩,Nat.lt_of_lt_of_le (hlt g ((hf g).1 hpg)) hb.size⟩
 ·exact absurd hpg (hf2 g)
noncomputable def spJoin :Spec:=Spec.of (ι:=(List ByteArray) × ByteArray) [true,false] (fun i=>[.own 1 (aa i.1),.d (.one (.str i.2))]) (fun i=>ab 140737488355328 i.1.length/\ab 140737488355328 (bB i.1 i.2).size) (fun i=>[.d (.one (.str (bB i.1 i.2)))]) (fun i=>[.own 1 (aa i.1),.gone])
theorem uE:∀ i j:(List ByteArray) × ByteArray,(fun (i:(List ByteArray) × ByteArray)=>([.own 1 (aa i.1),.d (.one (.str i.2))]:List AV)) i=(fun (i:(List ByteArray) × ByteArray)=>([.own 1 (aa i.1),.d (.one (.str i.2))]:List AV)) j->i=j:=by
 rintro⟨xs,sep⟩ ⟨xs',sep'⟩ h
 simp only[Prod.mk.injEq]
 simpa [ap,T.enc_eq,aq,F.enc_eq,ar,Tk.enc_eq,au,Gn.enc_eq,ao] using h
theorem BX :(spJoin).md=[true,false]:=rfl
theorem BY  (xs:List ByteArray) (sep:ByteArray):(spJoin).pre [.own 1 (aa xs),.d (.one (.str sep))]=(ab 140737488355328 xs.length/\ab 140737488355328 (bB xs sep).size):=Spec.of_pre' uE (xs,sep)
theorem uF :(spJoin).alts=none:=rfl
theorem uG  (xs:List ByteArray) (sep:ByteArray):(spJoin).res [.own 1 (aa xs),.d (.one (.str sep))]=[.d (.one (.str (bB xs sep)))]:=Spec.of_res uE (xs,sep)
theorem uH  (xs:List ByteArray) (sep:ByteArray):(spJoin).out [.own 1 (aa xs),.d (.one (.str sep))]=[.own 1 (aa xs),.gone]:=Spec.of_out uE (xs,sep)
theorem NC:Sound Tryz.prog 72 spJoin:=by
 rintro args ⟨⟨xs,sep⟩,rfl,hn,hj⟩ w S vs fps hG hS hF ha hA
 simp only[ab] at hn hj
 cases hA with
 | cons h1 h2 =>
   rename_i v fp vs fps
   cases h2 with
   | cons h2 h3 =>
     rename_i v2 fp2 vs fps
     cases h3
     obtain⟨hr,hfp⟩:=h2
     cases hr
     obtain⟨_,r,rfl,hp,hf⟩:=h1
     have key:∀ (e:Ending) w',e=.returned (.string (bB xs sep))/\Below w.heap.size w w'->∃ r' o,spJoin.may [.own 1 (aa xs),.d (.one (.str sep))] r' o/\∃ v S' rfs fps',e=.returned v/\RepR w' S' r' v rfs/\All3 (RepA w' S') o [r.v,.string sep] fps' /\
      (∀ g,S' g->S g\/w.heap.size<=g\/Any [fp,fp2] g)/\(∀ g,S' g->g < w'.heap.size) /\
      Apart S' (rfs++fps')/\(∀ g,Any (rfs++fps') g->(w.heap.size<=g\/Any [fp,fp2] g)/\g < w'.heap.size)/\Fr (Any [fp,fp2]) w.heap.size w w':=fun e w' ⟨he,hb⟩=>by
      obtain⟨S',rfs,fps',k1,k2,k3⟩:=NB (sep:=sep) (v2:=.string sep) hp hf hb hS ha hfp
      exact⟨_,_,(Spec.may_none uF).2 ⟨(uG xs sep).symm,(uH xs sep).symm⟩,_,S',rfs,fps',he,k1,k2,k3⟩
     have k:=hp.repX (by decide)
     generalize hes:aa xs=es at k
     generalize hv:r.v=v at k key
     cases k with
     | pl hr=>cases hr
     | nil h0 hh =>
       rename_i a
       have hx:=NA hes
       subst hx
       refine (Tryz.strings_Join_none a 0 sep w).mono ?_
       rintro e w' ⟨rfl,rfl⟩
       exact key _ _ ⟨rfl,Below.refl _ _⟩
     | own ψ h0 hh hg hcl hcm hsz hes1 hD hψ hd u hu hrr =>
       rename_i g cap cur ty
       have hlen:es.length=xs.length:=by rw[<-hes,bw]
       have hgl:g < w.heap.size:=by
        rcases Nat.lt_or_ge g w.heap.size with h|h
        ·exact h
        ·rw[Array.getElem?_eq_none h] at hg;cases hg
       have hcell:∀ (j:Nat) x,xs[j]?=some x->w.cell? ⟨g,0+j,none⟩=some (.string x):=fun j x hx=>by
        have he:es[j]?=some [C.str x]:=by rw[<-hes];simp[aa,hx]
        have q1:=hu j 0 _ _ he rfl
        have q2:=hrr j 0 _ _ he rfl
        have q3:u (j*1+0)=.string x:=by
         generalize u (j*1+0)=z at q2
         cases q2 with
         | pl h=>cases h;rfl
        rw[q3] at q1
        unfold World.cell?
        simp only[hg]
        simpa using q1
       rw[hlen] at key ⊢
       refine (Tryz.strings_Join g 0 cap xs sep w hcell hgl (by omega) (by omega) (by have e:(bB xs sep).size=_:=ft _;omega)).mono ?_
       rintro e w' ⟨rfl,hb⟩
       exact key _ _ ⟨rfl,hb⟩
end Go.Proofs.Pw
namespace Go.Proofs.Pw
mutual
def T.encX:T->List C
 | .mk k n s ks l=>[.int .i64 k,.int .i64 n,.str s,.own 1 (aa ks),.own 5 (da l)]
def da:List T->List (List C)
 | []=>[]
 | t::l=>t.encX::da l
end
def agX:T->List Pt
 | .mk k n s ks l=>[.c (.int .i64 k),.c (.int .i64 n),.c (.str s),.o 1 (aa ks),.o 5 (da l)]
theorem BZ (l:List T):da l=l.map T.encX:=by
 induction l with
 | nil=>simp[da]
 | cons t l ih=>simp[da,ih]
theorem ND (l:List T):(da l).length=l.length:=by rw[BZ];simp
theorem T.encX_len (t:T):t.encX.length=5:=by cases t;simp[T.encX]
theorem NE {l:List T} {i:Nat} {t:T} (h:l[i]?=some t):da (l.take (i+1))=da (l.take i)++[t.encX]:=by
 rw[List.take_add_one,h];simp[BZ]
mutual
theorem uI:∀ t:T,dtL t.encX=some t.enc
 | .mk k n s ks l=>by simp[T.encX,T.enc,dtL,dtC,lX l]
theorem lX:∀ l:List T,dtR (da l)=some (ai l)
 | []=>rfl
 | t::l=>by simp[da,ai,dtR,uI t,lX l]
end
mutual
theorem uJ:∀ t:T,flL t.encX=true
 | .mk k n s ks l=>by
   have h:flR (aa ks)=true:=by
    induction ks with
    | nil=>rfl
    | cons s ks ih=>simp only[aa,List.map_cons,flR,flL,flC,Bool.and_true,Bool.true_and];exact ih
   simp[T.encX,flL,flC,uK l,h]
theorem uK:∀ l:List T,flR (da l)=true
 | []=>rfl
 | t::l=>by simp[da,flR,uJ t,uK l]
end
theorem NF (ks:List ByteArray):flR (aa ks)=true:=by
 induction ks with
 | nil=>rfl
 | cons s ks ih=>simp only[aa,List.map_cons,flR,flL,flC,Bool.and_true,Bool.true_and];exact ih
attribute [go_sem] NF uK lc AV.fl Pt.fl fe ND T.encX_len lX gH jz jy Q.toX gI bt List.contains_nil List.contains_cons
end Go.Proofs.Pw
namespace Go.Proofs.Pw
structure Stp where
 map:Bool
 key:ByteArray
 at':Int
noncomputable instance:DecidableEq Stp:=fun a b=>Classical.propDecidable (a=b)
def Stp.enc (s:Stp):List C:=[.bool s.map,.str s.key,.int .i64 s.at']
def cL (l:List Stp):List (List C):=l.map Stp.enc
def lY (l:List (List Stp)):List (List C):=l.map fun p=>[.own 3 (cL p)]
def Ca (l:List (List Stp)):List (List C):=l.map fun p=>[.row 3 (cL p)]
theorem NG (l:List Stp):(cL l).length=l.length:=by simp[cL]
theorem NH (l:List (List Stp)):(lY l).length=l.length:=by simp[lY]
theorem uL (l:List Stp):aW (cL l)=true:=by
 induction l with
 | nil=>rfl
 | cons s l ih=>simp only[cL,List.map_cons,jW,Stp.enc,List.all_cons,cz,List.all_nil,Bool.and_true,Bool.true_and];exact ih
@[simp] theorem Cb (l:List Stp):dtR (cL l)=some (cL l):=dV (uL l)
theorem Cc (l:List Stp):flR (cL l)=true:=by
 induction l with
 | nil=>rfl
 | cons s l ih=>simp only[cL,List.map_cons,flR,flL,flC,Stp.enc,Bool.and_true,Bool.true_and];exact ih
theorem NI (l:List (List Stp)):flR (lY l)=true:=by
 induction l with
 | nil=>rfl
 | cons s l ih=>simp only[lY,List.map_cons,flR,flL,flC,Cc,Bool.and_true,Bool.true_and];exact ih
@[simp] theorem NJ (l:List (List Stp)):dtR (lY l)=some (Ca l):=by
 induction l with
 | nil=>rfl
 | cons s l ih =>
   simp only[lY,Ca,List.map_cons] at ih ⊢
   simp only[dtR,dtL,dtC,Cb,Option.map_some,ih]
theorem Cd:∀ {a b:List Stp},cL a=cL b->a=b:=by
 intro a
 induction a with
 | nil=>intro b h;cases b with
   | nil=>rfl
   | cons _ _=>simp[cL] at h
 | cons x a ih=>intro b h;cases b with
   | nil=>simp[cL] at h
   | cons y b =>
     obtain⟨m,k,n⟩:=x
     obtain⟨m',k',n'⟩:=y
     simp only[cL,List.map_cons,List.cons.injEq,Stp.enc,C.bool.injEq,C.str.injEq,C.int.injEq,true_and,and_true] at h
     obtain⟨⟨rfl,rfl,rfl⟩,h2⟩:=h
     rw[ih h2]
theorem NK {a b:List Stp}:cL a=cL b ↔ a=b:=⟨Cd,fun h=>h ▸ rfl⟩
attribute [go_sem] NG NH uL Cc NI NJ Cb
end Go.Proofs.Pw
namespace Go.Proofs.Pw
def Ce (s:Stp):Prop:=if s.map=true then okS s.key/\s.at'=0 else s.key=⟨#[]⟩/\-60<=s.at'/\s.at'<=59
noncomputable instance (s:Stp):Decidable (Ce s):=Classical.propDecidable _
def NL (p:List Stp):Prop:=(∀ s ∈ p,Ce s)/\p.length<=6
noncomputable instance (p:List Stp):Decidable (NL p):=Classical.propDecidable _
def Cf (v:T):Prop:=v.kind=5\/v.kind=0
noncomputable instance (v:T):Decidable (Cf v):=Classical.propDecidable _
def NM (s:Stp) (v:T):Prop:=if s.map=true then ul v else Cf v
noncomputable instance (s:Stp) (v:T):Decidable (NM s v):=Classical.propDecidable _
theorem Stp.enc_eq {a b:Stp}:a.enc=b.enc ↔ a=b:=⟨fun h=>by
 obtain⟨m,k,n⟩:=a
 obtain⟨m',k',n'⟩:=b
 simp only[Stp.enc,List.cons.injEq,C.bool.injEq,C.str.injEq,C.int.injEq,true_and,and_true] at h
 obtain⟨rfl,rfl,rfl⟩:=h
 rfl,fun h=>h ▸ rfl⟩
theorem Stp.len3 (s:Stp):s.enc.length=3:=rfl
theorem Stp.take3 (s:Stp):s.enc.take 3=s.enc:=rfl
theorem Stp.takeQ (s:Stp):(s.enc.map Q.c).take 3=s.enc.map Q.c:=rfl
attribute [go_sem] Stp.take3 Stp.takeQ Stp.len3
end Go.Proofs.Pw
namespace Go.Proofs.Pw
def qm:Nat->Int->ByteArray->ByteArray
 | 0,_,out=>out
 | f+1,k,out=>if 0 < k then qm f (k.tdiv 10) (fJ [48+k.tmod 10]++out) else out
def mkS (k:Int):ByteArray:=if k<=0 then ⟨#[109,48]⟩ else ⟨#[109]⟩++qm k.toNat k ⟨#[]⟩
def fu:List ByteArray->Int->List ByteArray
 | [],_=>[]
 | _::r,k=>mkS k::fu r (k+1)
mutual
def nmT:T->Int
 | .mk _ _ _ ks l=>3+ks.length+nmL l
def nmL:List T->Int
 | []=>0
 | t::l=>nmT t+nmL l
end
mutual
def mkT:T->Int->T
 | .mk _ _ _ ks l,k=>.mk k (k+1) (mkS (k+2)) (fu ks (k+3)) (mkL l (k+3+ks.length))
def mkL:List T->Int->List T
 | [],_=>[]
 | t::l,k=>mkT t k::mkL l (k+nmT t)
end
theorem qn:∀ {ks:List ByteArray} {k:Int},(fu ks k).length=ks.length
 | [],_=>rfl
 | _::r,k=>by simp[fu,qn (ks:=r)]
theorem Cg:∀ {l:List T} {k:Int},(mkL l k).length=l.length
 | [],_=>rfl
 | _::r,k=>by simp[mkL,Cg (l:=r)]
mutual
theorem qo:∀ t:T,3<=nmT t
 | .mk _ _ _ ks l=>by have:=qp l;simp only[nmT];omega
theorem qp:∀ l:List T,0<=nmL l
 | []=>by simp[nmL]
 | t::l=>by have:=qo t;have:=qp l;simp only[nmL];omega
end
mutual
theorem qq:∀ (t:T) (k:Int),nmT (mkT t k)=nmT t
 | .mk _ _ _ ks l,k=>by simp only[mkT,nmT,qn,Ch l]
theorem Ch:∀ (l:List T) (k:Int),nmL (mkL l k)=nmL l
 | [],_=>rfl
 | t::l,k=>by simp only[mkL,nmL,qq t,Ch l]
end
theorem Ci:∀ (ks:List ByteArray) (k:Int),fu (fu ks k) k=fu ks k
 | [],_=>rfl
 | _::r,k=>by simp only[fu,Ci r]
mutual
theorem Cj:∀ (t:T) (k:Int),mkT (mkT t k) k=mkT t k
 | .mk _ _ _ ks l,k=>by simp only[mkT,Ci,qn,Ck l]
theorem Ck:∀ (l:List T) (k:Int),mkL (mkL l k) k=mkL l k
 | [],_=>rfl
 | t::l,k=>by simp only[mkL,Cj t,qq t,Ck l]
end
mutual
theorem NN:∀ {t:T} {left:Int},0<=left->0<=szT t left->nmT t<=3+3*(left-szT t left)
 | .mk k n s ks l,left,h,h0=>by
   simp only[szT] at h0 ⊢
   split at h0
   ·omega
   ·rename_i c1
    rw[if_neg c1]
    split at h0
    ·omega
    ·rename_i c2
     rw[if_neg c2]
     split at h0
     ·omega
     ·rename_i c3
      rw[if_neg c3]
      have h1:=tz (ks:=ks) (left:=left-s.size) (by omega)
      have h2:eg ks (left-s.size)<=left-s.size-ks.length:=by
       have:=h1;simp only[eg] at c2 ⊢;split
       ·rename_i c;rw[if_pos c] at c2;omega
       ·exact (Ap (by omega)).1
      have h3:=Cl (l:=l) (left:=eg ks (left-s.size)-l.length) (by omega) h0
      simp only[nmT];omega
theorem Cl:∀ {l:List T} {left:Int},0<=left->0<=dO l left->nmL l<=3*l.length+3*(left-dO l left)
 | [],left,h,h0=>by simp[nmL,dO]
 | t::r,left,h,h0=>by
   simp only[dO] at h0 ⊢
   split at h0
   ·omega
   ·rename_i c1
    rw[if_neg c1]
    have h1:=NN (t:=t) h (by omega)
    have h2:=Cl (l:=r) (left:=szT t left) (by omega) h0
    simp only[nmL,List.length_cons];omega
end
end Go.Proofs.Pw
namespace Go.Proofs.Pw
theorem NO:∀ {ks:List ByteArray} {left:Int},0<=left->0<=iN ks left->∀ s ∈ ks,(s.size:Int)<=left:=by
 intro ks
 induction ks with
 | nil=>intro left _ _ s hs;simp at hs
 | cons x r ih =>
   intro left h0 h s hs
   simp only[iN] at h
   split at h
   ·omega
   ·rcases List.mem_cons.1 hs with rfl|hs
    ·omega
    ·have:=ih (left:=left-x.size) (by omega) h s hs;omega
theorem NP {ks:List ByteArray} {left:Int} (h0:0<=left) (hl:left<=1048576) (h:0<=eg ks left):cJ 1048576 ks:=by
 simp only[eg] at h
 split at h
 ·omega
 ·refine⟨by unfold ab;omega,fun s hs=>?_⟩
  have:=NO (left:=left-ks.length) (by omega) h s hs
  unfold ab;omega
mutual
theorem Cm:∀ {t:T} {left:Int} {B:Int},0<=left->left<=1048576->t.fit B->0<=szT t left->t.fit 1048576/\aA t<=left-szT t left+1
 | .mk k n s ks l,left,B,h0,hl,hf,h=>by
   simp only[T.fit] at hf ⊢
   simp only[szT,aA] at h ⊢
   have e1:=tz (ks:=ks) (left:=left-s.size)
   split at h
   ·omega
   ·split at h
    ·omega
    ·split at h
     ·omega
     ·rename_i a b c
      rw[if_neg a,if_neg b,if_neg c]
      have h1:=NP (ks:=ks) (left:=left-s.size) (by omega) (by omega) (by omega)
      have h2:=Cn (l:=l) (B:=B) (left:=eg ks (left-s.size)-l.length) (by omega) (by omega) hf.2.2.2.2.2 h
      refine⟨⟨hf.1,hf.2.1,by unfold ab;omega,h1,by unfold ab;omega,h2.1⟩,by omega⟩
theorem Cn:∀ {l:List T} {left:Int} {B:Int},0<=left->left<=1048576->bn B l->0<=dO l left->bn 1048576 l/\av l<=left-dO l left+l.length
 | [],left,B,h0,hl,hf,h=>by simp[bn,av,dO]
 | t::r,left,B,h0,hl,hf,h=>by
   simp only[bn] at hf ⊢
   simp only[dO,av,List.length_cons] at h ⊢
   have e1:=pT (t:=t) h0
   split at h
   ·omega
   ·rename_i a
    rw[if_neg a]
    have h1:=Cm (t:=t) h0 hl hf.1 (by omega)
    have h2:=Cn (l:=r) (left:=szT t left) (by omega) (by omega) hf.2 h
    exact⟨⟨h1.1,h2.1⟩,by omega⟩
end
end Go.Proofs.Pw
namespace Go.Proofs.Pw
mutual
theorem NQ:∀ {t:F} {left:Int} {B:Int},0<=left->left<=1048576->t.fit B->0<=szF t left->t.fit 1048576/\bW t/\aJ t<=left-szF t left+1
 | .mk k n s v l,left,B,h0,hl,hf,h=>by
   simp only[F.fit] at hf ⊢
   simp only[szF,aJ,bW] at h ⊢
   have e1:=pT (t:=v) (left:=left-s.size)
   split at h
   ·omega
   ·split at h
    ·omega
    ·split at h
     ·omega
     ·rename_i a b c
      rw[if_neg a,if_neg b,if_neg c]
      have h1:=Cm (t:=v) (B:=B) (left:=left-s.size) (by omega) (by omega) hf.2.2.2.1 (by omega)
      have h2:=Co (l:=l) (B:=B) (left:=szT v (left-s.size)-l.length) (by omega) (by omega) hf.2.2.2.2.2 h
      refine⟨⟨hf.1,hf.2.1,by unfold ab;omega,h1.1,by unfold ab;omega,h2.1⟩,⟨by omega,h2.2.1⟩,by omega⟩
theorem Co:∀ {l:List F} {left:Int} {B:Int},0<=left->left<=1048576->bu B l->0<=fV l left->bu 1048576 l/\eK l/\aD l<=left-fV l left+l.length
 | [],left,B,h0,hl,hf,h=>by simp[bu,aD,fV,eK]
 | t::r,left,B,h0,hl,hf,h=>by
   simp only[bu] at hf ⊢
   simp only[fV,aD,eK,List.length_cons] at h ⊢
   have e1:=Ar (t:=t) h0
   split at h
   ·omega
   ·rename_i a
    rw[if_neg a]
    have h1:=NQ (t:=t) h0 hl hf.1 (by omega)
    have h2:=Co (l:=r) (left:=szF t left) (by omega) (by omega) hf.2 h
    exact⟨⟨h1.1,h2.1⟩,⟨h1.2.1,h2.2.1⟩,by omega⟩
end
end Go.Proofs.Pw
namespace Go.Proofs.Pw
end Go.Proofs.Pw
namespace Go.Proofs.Pw
section
variable {B B':Int} (hB:B<=B')
include hB
theorem iW {n:Nat} (h:ab B n):ab B' n:=by unfold ab at *;omega
theorem NR {ks:List ByteArray} (h:cJ B ks):cJ B' ks:=⟨iW hB h.1,fun s hs=>iW hB (h.2 s hs)⟩
mutual
theorem T.fit_le:∀ {t:T},t.fit B->t.fit B'
 | .mk k n s ks l,h=>by
   simp only[T.fit] at h ⊢
   exact⟨h.1,h.2.1,iW hB h.2.2.1,NR hB h.2.2.2.1,iW hB h.2.2.2.2.1,Cp h.2.2.2.2.2⟩
theorem Cp:∀ {l:List T},bn B l->bn B' l
 | [],_=>trivial
 | t::l,h=>by
   simp only[bn] at h ⊢
   exact⟨T.fit_le h.1,Cp h.2⟩
end
mutual
theorem F.fit_le:∀ {t:F},t.fit B->t.fit B'
 | .mk k n s v l,h=>by
   simp only[F.fit] at h ⊢
   exact⟨h.1,h.2.1,iW hB h.2.2.1,T.fit_le hB h.2.2.2.1,iW hB h.2.2.2.2.1,uM h.2.2.2.2.2⟩
theorem uM:∀ {l:List F},bu B l->bu B' l
 | [],_=>trivial
 | t::l,h=>by
   simp only[bu] at h ⊢
   exact⟨F.fit_le h.1,uM h.2⟩
end
theorem Tk.fit_le {t:Tk} (h:t.fit B):t.fit B':=⟨T.fit_le hB h.1,iW hB h.2.1,uM hB h.2.2⟩
theorem Gn.fit_le {g:Gn} (h:g.fit B):g.fit B':=⟨iW hB h.1,fun t ht=>Tk.fit_le hB (h.2.1 t ht),h.2.2⟩
end
end Go.Proofs.Pw
namespace Go.Proofs.Pw
end Go.Proofs.Pw
namespace Go.Proofs.Pw
structure Ed where
 path:List Stp
 was:T
 had:Bool
 now:T
 has:Bool
noncomputable instance:DecidableEq Ed:=fun a b=>Classical.propDecidable (a=b)
def Ed.enc (e:Ed):List C:=.row 3 (cL e.path)::(e.was.enc++(.bool e.had::(e.now.enc++[.bool e.has])))
def ep (l:List Ed):List (List C):=l.map Ed.enc
theorem NS (l:List Ed):(ep l).length=l.length:=by simp[ep]
theorem Ed.enc_len (e:Ed):e.enc.length=13:=by simp[Ed.enc,T.enc_len]
theorem Ed.enc_inj {a b:Ed} (h:a.enc=b.enc):a=b:=by
 obtain⟨p,w,hd,n,hs⟩:=a
 obtain⟨p',w',hd',n',hs'⟩:=b
 simp only[Ed.enc,List.cons.injEq,C.row.injEq,true_and] at h
 obtain⟨h1,h2⟩:=h
 obtain⟨h3,h4⟩:=List.append_inj h2 (by rw[T.enc_len,T.enc_len])
 simp only[List.cons.injEq,C.bool.injEq] at h4
 obtain⟨h5,h6⟩:=h4
 obtain⟨h7,h8⟩:=List.append_inj h6 (by rw[T.enc_len,T.enc_len])
 simp only[List.cons.injEq,C.bool.injEq,and_true] at h8
 rw[Cd h1,T.enc_inj h3,h5,T.enc_inj h7,h8]
theorem Ed.enc_eq {a b:Ed}:a.enc=b.enc ↔ a=b:=⟨Ed.enc_inj,fun h=>h ▸ rfl⟩
theorem NT:∀ {a b:List Ed},ep a=ep b->a=b:=by
 intro a
 induction a with
 | nil=>intro b h;cases b with
   | nil=>rfl
   | cons _ _=>simp[ep] at h
 | cons x a ih=>intro b h;cases b with
   | nil=>simp[ep] at h
   | cons y b =>
     simp only[ep,List.map_cons,List.cons.injEq] at h
     rw[Ed.enc_inj h.1,ih h.2]
theorem NU {a b:List Ed}:ep a=ep b ↔ a=b:=⟨NT,fun h=>h ▸ rfl⟩
theorem Ed.enc_plain (e:Ed):e.enc.all cz=true:=by
 simp only[Ed.enc,List.all_cons,List.all_append,T.enc_plain,List.all_nil,Bool.and_true,Bool.true_and]
 simp only[cz,uL,Bool.and_true,Bool.true_and]
theorem uN (l:List Ed):aW (ep l)=true:=by
 induction l with
 | nil=>rfl
 | cons t l ih=>simp only[ep,List.map_cons,jW,Ed.enc_plain];exact ih
@[simp] theorem NV (l:List Ed):dtR (ep l)=some (ep l):=dV (uN l)
theorem Ed.enc_toLs (i k o:Nat) (t:Ed):dj i k o t.enc=t.enc.map Q.c:=pS t.enc_plain
theorem Ed.enc_take (t:Ed):(t.enc.map Q.c).take 13=t.enc.map Q.c:=List.take_of_length_le (by simp[Ed.enc_len])
theorem Ed.enc_take13 (t:Ed):t.enc.take 13=t.enc:=List.take_of_length_le (by simp[Ed.enc_len])
attribute [simp] uN
attribute [go_sem] NS Ed.enc_plain uN NV Ed.enc_toLs Ed.enc_take Ed.enc_take13
noncomputable def iX (t:T):ByteArray:=if okT t then az t else ⟨#[]⟩
end Go.Proofs.Pw
namespace Go.Proofs.Pw
def dv (l:List UInt8):Nat:=l.foldl (fun r b=>r*10+(b.toNat-48)) 0
theorem uO (l:List UInt8) (b:UInt8):dv (l++[b])=dv l*10+(b.toNat-48):=by simp[dv,List.foldl_append]
theorem kd {x:Nat} (h:x < 10):(UInt8.ofNat (48+x)).toNat=48+x:=by
 rw[UInt8.toNat_ofNat']
 omega
theorem qr (u:Nat):dv (Lib.decDigits u)=u:=by
 induction u using Nat.strongRecOn with
 | _ u ih =>
   by_cases h:u < 10
   ·rw[Lib.decDigits,dif_pos h]
    have:=kd h
    simp only[dv,List.foldl_cons,List.foldl_nil,this];omega
   ·rw[Lib.decDigits,dif_neg h,uO,ih (u / 10) (by omega),kd (by omega)];omega
theorem iY (u:Nat):∀ b ∈ Lib.decDigits u,48<=b.toNat/\b.toNat<=57:=by
 induction u using Nat.strongRecOn with
 | _ u ih =>
   by_cases h:u < 10
   ·rw[Lib.decDigits,dif_pos h]
    intro b hb
    simp only[List.mem_singleton] at hb
    have:=kd h
    rw[hb];omega
   ·rw[Lib.decDigits,dif_neg h]
    intro b hb
    rcases List.mem_append.1 hb with hb|hb
    ·exact ih (u / 10) (by omega) b hb
    ·simp only[List.mem_singleton] at hb
     have:=kd (show u % 10 < 10 by omega)
     rw[hb];omega
theorem ke (u:Nat):Lib.decDigits u≠[]:=by
 rw[Lib.decDigits]
 split <;> simp
theorem Cq {u v:Nat} (h:Lib.decDigits u=Lib.decDigits v):u=v:=by rw[<-qr u,<-qr v,h]
theorem ge (n:Int):∀ b ∈ Lib.itoa n,b.toNat=45\/48<=b.toNat/\b.toNat<=57:=by
 intro b hb
 unfold Lib.itoa at hb
 split at hb
 ·rcases List.mem_cons.1 hb with rfl|hb
  ·exact .inl rfl
  ·exact .inr (iY _ b hb)
 ·exact .inr (iY _ b hb)
theorem Cr (u:Nat) (l:List UInt8):Lib.decDigits u≠45::l:=fun h=>by
 have:=iY u 45 (by rw[h];simp)
 have e:(45:UInt8).toNat=45:=rfl
 omega
theorem Cs {m n:Int} (h:Lib.itoa m=Lib.itoa n):m=n:=by
 unfold Lib.itoa at h
 split at h <;> split at h
 ·have:=Cq (List.cons.inj h).2;omega
 ·exact absurd h.symm (Cr _ _)
 ·exact absurd h (Cr _ _)
 ·have:=Cq h;omega
def gY (P:UInt8->Prop):List UInt8->Prop
 | []=>True
 | b::_=>¬ P b
theorem gZ {P:UInt8->Prop}:∀ {a b x y:List UInt8},(∀ c ∈ a,P c)->(∀ c ∈ b,P c)->gY P x->gY P y->a++x=b++y->a=b/\x=y
 | [],[],x,y,_,_,_,_,h=>⟨rfl,h⟩
 | [],c::b,x,y,_,hb,hx,_,h=>by
   simp only[List.nil_append,List.cons_append] at h
   subst h
   exact absurd (hb c (by simp)) hx
 | c::a,[],x,y,ha,_,_,hy,h=>by
   simp only[List.nil_append,List.cons_append] at h
   subst h
   exact absurd (ha c (by simp)) hy
 | c::a,d::b,x,y,ha,hb,hx,hy,h=>by
   simp only[List.cons_append,List.cons.injEq] at h
   obtain⟨rfl,h⟩:=h
   obtain⟨h1,h2⟩:=gZ (fun c hc=>ha c (List.mem_cons_of_mem _ hc)) (fun c hc=>hb c (List.mem_cons_of_mem _ hc)) hx hy h
   exact⟨by rw[h1],h2⟩
def tL (s:ByteArray):List UInt8:=s.data.toList
theorem cg (a b:ByteArray):tL (a++b)=tL a++tL b:=by simp[tL,ByteArray.data_append]
theorem er {a b:ByteArray} (h:tL a=tL b):a=b:=by
 cases a;cases b
 simp only[tL,Array.toList_inj] at h
 rw[h]
theorem Ct (n:Int):tL (cK n)=Lib.itoa n:=lS _
theorem cM {s:ByteArray} (h:okS s):∀ c ∈ tL s,bg c:=h.1
end Go.Proofs.Pw
namespace Go.Proofs.Pw
def lZ:List UInt8->Prop
 | []=>True
 | b::_=>b=44\/b=125\/b=93\/b=32
def TR:List T->List UInt8
 | []=>[]
 | t::l=>44::(tL (az t)++TR l)
def TM:List ByteArray->List T->List UInt8
 | _,[]=>[]
 | ks,t::l=>44::(tL (ks.headD ⟨#[]⟩)++(58::(tL (az t)++TM ks.tail l)))
theorem Cu (xs:List ByteArray):tL (bB xs ⟨#[44]⟩)=Lib.join (xs.map tL) [44]:=lS _
theorem Cv (k:Int) (hk:k≠6):∀ (ks:List ByteArray) (l:List T),Lib.joinTail [44] ((bj k ks l).map tL)=TR l
 | _,[]=>rfl
 | ks,t::l=>by
   have:=Cv k hk ks.tail l
   simp only[Lib.joinTail,List.map_map] at this
   simp only[bj,if_neg hk,List.map_cons,Lib.joinTail,List.map_map,List.flatten_cons,this,TR]
   rfl
theorem Cw:∀ (ks:List ByteArray) (l:List T),Lib.joinTail [44] ((bj 6 ks l).map tL)=TM ks l
 | _,[]=>rfl
 | ks,t::l=>by
   have:=Cw ks.tail l
   simp only[Lib.joinTail,List.map_map] at this
   have e:tL ⟨#[58]⟩=[58]:=rfl
   simp only[bj,if_true,List.map_cons,cg,e,Lib.joinTail,List.map_map,List.flatten_cons,this,TM]
   simp
def TRj:List T->List UInt8
 | []=>[]
 | t::l=>tL (az t)++TR l
def TMj:List ByteArray->List T->List UInt8
 | _,[]=>[]
 | ks,t::l=>tL (ks.headD ⟨#[]⟩)++(58::(tL (az t)++TM ks.tail l))
theorem NW (k:Int) (hk:k≠6) (ks:List ByteArray) (l:List T):tL (bB (bj k ks l) ⟨#[44]⟩)=TRj l:=by
 rw[Cu]
 cases l with
 | nil=>rfl
 | cons t l=>simp only[bj,if_neg hk,List.map_cons,Lib.join_cons,Cv k hk,TRj]
theorem NX (ks:List ByteArray) (l:List T):tL (bB (bj 6 ks l) ⟨#[44]⟩)=TMj ks l:=by
 rw[Cu]
 cases l with
 | nil=>rfl
 | cons t l =>
   have e:tL ⟨#[58]⟩=[58]:=rfl
   simp only[bj,if_true,List.map_cons,Lib.join_cons,Cw,TMj,cg,e]
   simp
theorem ma (k n:Int) (s:ByteArray) (ks:List ByteArray) (l:List T):tL (az (.mk k n s ks l)) =
 if k=0 then [110,117,108,108] else if k=1 then [102,97,108,115,101] else if k=2 then [116,114,117,101] else if k=3 then Lib.itoa n
 else if k=4 then 39::(tL s++[39]) else if k=6 then 123::(TMj ks l++[125]) else 91::(TRj l++[93]):=by
 have h3:tL (⟨#[39]⟩++s++⟨#[39]⟩)=39::(tL s++[39]):=by rw[cg,cg];rfl
 have h6:tL (⟨#[123]⟩++bB (bj 6 ks l) ⟨#[44]⟩++⟨#[125]⟩)=123::(TMj ks l++[125]):=by rw[cg,cg,NX];rfl
 have h5:k≠6->tL (⟨#[91]⟩++bB (bj k ks l) ⟨#[44]⟩++⟨#[93]⟩)=91::(TRj l++[93]):=fun c=>by rw[cg,cg,NW k c];rfl
 rw[az]
 split
 ·rfl
 split
 ·rfl
 split
 ·rfl
 split
 ·exact Ct n
 split
 ·exact h3
 split
 ·rename_i c;subst c;exact h6
 ·rename_i c;exact h5 c
def uP (c:UInt8):Int:=if c=110 then 0 else if c=102 then 1 else if c=116 then 2 else if c=39 then 4 else if c=123 then 6 else if c=91 then 5 else 3
theorem mb (n:Int):∃ c r,Lib.itoa n=c::r:=by
 unfold Lib.itoa
 split
 ·exact⟨_,_,rfl⟩
 ·exact List.exists_cons_of_ne_nil (ke _)
theorem oo {k n:Int} {s:ByteArray} {ks:List ByteArray} {l:List T} {d:Int} (h:aK (.mk k n s ks l) d):0<=k/\k<=6:=by
 simp only[aK] at h
 exact⟨h.2.2.2.2.2.1,h.2.2.2.2.2.2.1⟩
theorem kf {t:T} {d:Int} (h:aK t d):∃ c r,tL (az t)=c::r/\uP c=t.kind/\c≠93/\c≠125:=by
 obtain⟨k,n,s,ks,l⟩:=t
 have hk:=oo h
 rw[ma]
 show ∃ c r,_=c::r/\uP c=k/\c≠93/\c≠125
 by_cases c0:k=0
 ·subst c0;exact⟨_,_,rfl,rfl,by decide,by decide⟩
 by_cases c1:k=1
 ·subst c1;exact⟨_,_,rfl,rfl,by decide,by decide⟩
 by_cases c2:k=2
 ·subst c2;exact⟨_,_,rfl,rfl,by decide,by decide⟩
 by_cases c3:k=3
 ·subst c3
  obtain⟨c,r,e⟩:=mb n
  have hc:=ge n c (by rw[e];simp)
  refine⟨c,r,e,?_,?_,?_⟩
  ·unfold uP
   have hne:∀ m:UInt8,m.toNat≠45->¬ (48<=m.toNat/\m.toNat<=57)->c≠m:=fun m h1 h2 e=>by rw[e] at hc;exact hc.elim h1 h2
   rw[if_neg (hne _ (by decide) (by decide)),if_neg (hne _ (by decide) (by decide)),if_neg (hne _ (by decide) (by decide)),if_neg (hne _ (by decide) (by decide)),if_neg (hne _ (by decide) (by decide)),if_neg (hne _ (by decide) (by decide))]
  ·intro e;rw[e] at hc;revert hc;decide
  ·intro e;rw[e] at hc;revert hc;decide
 by_cases c4:k=4
 ·subst c4;exact⟨_,_,rfl,rfl,by decide,by decide⟩
 by_cases c6:k=6
 ·subst c6;exact⟨_,_,rfl,rfl,by decide,by decide⟩
 have c5:k=5:=by omega
 subst c5;exact⟨_,_,rfl,rfl,by decide,by decide⟩
theorem Cx {x:List UInt8} (h:lZ x):gY (fun b=>b.toNat=45\/48<=b.toNat/\b.toNat<=57) x:=by
 cases x with
 | nil=>trivial
 | cons b x=>rcases h with rfl|rfl|rfl|rfl <;> (simp only[gY];decide)
theorem oq {c:UInt8} (h:c.toNat < 97\/122 < c.toNat):¬ bg c:=by unfold bg;omega
theorem iZ (c:UInt8) (h:c.toNat < 97\/122 < c.toNat) (x:List UInt8):gY bg (c::x):=oq h
theorem Cy (l:List T) (x:List UInt8):lZ (TR l++93::x):=by
 cases l with
 | nil=>exact .inr (.inr (.inl rfl))
 | cons t l=>exact .inl rfl
theorem Cz (ks:List ByteArray) (l:List T) (x:List UInt8):lZ (TM ks l++125::x):=by
 cases l with
 | nil=>exact .inr (.inl rfl)
 | cons t l=>exact .inl rfl
theorem CA {s:ByteArray} (h:okS s) (z:List UInt8) (c:UInt8) (hc:c.toNat < 97\/122 < c.toNat) (hz:c≠58) (y:List UInt8):tL s++58::z≠c::y:=fun e=>by
 cases hs:tL s with
 | nil=>rw[hs] at e;simp at e;exact hz e.1.symm
 | cons b r =>
   rw[hs] at e
   simp at e
   have:=h.1 b (by show b ∈ tL s;rw[hs];simp)
   unfold bg at this
   rw[e.1] at this;omega
mutual
theorem qt:∀ (a:T) {b:T} {d d':Int} {x y:List UInt8},aK a d->aK b d'->lZ x->lZ y->tL (az a)++x=tL (az b)++y->a=b/\x=y
 | .mk k n s ks l,.mk k' n' s' ks' l',d,d',x,y,ha,hb,hx,hy,h=>by
   obtain⟨c,r,e1,e2,_,_⟩:=kf ha
   obtain⟨c',r',e1',e2',_,_⟩:=kf hb
   have hkk:k=k':=by
    have h':=h
    rw[e1,e1'] at h'
    simp only[List.cons_append,List.cons.injEq] at h'
    rw[h'.1] at e2
    exact e2.symm.trans e2'
   subst hkk
   have hk:=oo ha
   simp only[aK] at ha hb
   obtain⟨_,a2,a3,a4,a5,_,_,_,_,a10,a11,a12⟩:=ha
   obtain⟨_,b2,b3,b4,b5,_,_,_,_,b10,b11,b12⟩:=hb
   rw[ma,ma] at h
   by_cases c3:k=3
   ·subst c3
    simp only[show ¬ ((3:Int)=0) by omega,show ¬ ((3:Int)=1) by omega,show ¬ ((3:Int)=2) by omega,if_false,if_true] at h
    obtain⟨h1,h2⟩:=gZ (ge n) (ge n') (Cx hx) (Cx hy) h
    have:=Cs h1
    have q3:=a3.resolve_left (by omega);have q4:=a4.resolve_left (by omega);have q5:=a5.resolve_left (by omega)
    have p3:=b3.resolve_left (by omega);have p4:=b4.resolve_left (by omega);have p5:=b5.resolve_left (by omega)
    subst this q3 q4 q5 p3 p4 p5
    exact⟨rfl,h2⟩
   have q2:=a2.resolve_left c3
   have p2:=b2.resolve_left c3
   subst q2 p2
   by_cases c4:k=4
   ·subst c4
    simp only[show ¬ ((4:Int)=0) by omega,show ¬ ((4:Int)=1) by omega,show ¬ ((4:Int)=2) by omega,show ¬ ((4:Int)=3) by omega,if_false,if_true,List.cons_append,List.cons.injEq,true_and,List.append_assoc,List.nil_append] at h
    obtain⟨h1,h2⟩:=gZ (P:=bg) (cM a10) (cM b10) (iZ 39 (by decide) _) (iZ 39 (by decide) _) h
    have:=er h1
    have q4:=a4.resolve_left (by omega);have q5:=a5.resolve_left (by omega)
    have p4:=b4.resolve_left (by omega);have p5:=b5.resolve_left (by omega)
    subst this q4 q5 p4 p5
    exact⟨rfl,(List.cons.inj h2).2⟩
   have q3:=a3.resolve_left c4
   have p3:=b3.resolve_left c4
   subst q3 p3
   by_cases c6:k=6
   ·subst c6
    simp only[show ¬ ((6:Int)=0) by omega,show ¬ ((6:Int)=1) by omega,show ¬ ((6:Int)=2) by omega,show ¬ ((6:Int)=3) by omega,show ¬ ((6:Int)=4) by omega,if_false,if_true,List.cons_append,List.cons.injEq,true_and,List.append_assoc,List.nil_append] at h
    obtain⟨g1,g2⟩:=a11 rfl
    obtain⟨g1',g2'⟩:=b11 rfl
    have oa:∀ s ∈ ks,okS s:=fun s hs=>by
     obtain⟨i,hi⟩:=List.getElem?_of_mem hs
     exact fW g2 hi
    have ob:∀ s ∈ ks',okS s:=fun s hs=>by
     obtain⟨i,hi⟩:=List.getElem?_of_mem hs
     exact fW g2' hi
    have key:TM ks l++125::x=TM ks' l'++125::y:=by
     cases l with
     | nil =>
       cases l' with
       | nil=>exact h
       | cons t' l' =>
         simp only[TMj,List.nil_append,List.append_assoc,List.cons_append] at h
         cases ks' with
         | nil=>simp at g1'
         | cons z ks'=>exact absurd h.symm (CA (ob z (by simp)) _ 125 (by decide) (by decide) _)
     | cons t l =>
       cases l' with
       | nil =>
         simp only[TMj,List.nil_append,List.append_assoc,List.cons_append] at h
         cases ks with
         | nil=>simp at g1
         | cons z ks=>exact absurd h (CA (oa z (by simp)) _ 125 (by decide) (by decide) _)
       | cons t' l' =>
         simp only[TM,TMj,List.cons_append,List.append_assoc] at h ⊢
         rw[h]
    obtain⟨h1,h2,h3⟩:=CC l g1 g1' oa ob a12 b12 key
    subst h1 h2
    exact⟨rfl,h3⟩
   have q4:=a4.resolve_left c6
   have p4:=b4.resolve_left c6
   subst q4 p4
   by_cases c5:k=5
   ·subst c5
    simp only[show ¬ ((5:Int)=0) by omega,show ¬ ((5:Int)=1) by omega,show ¬ ((5:Int)=2) by omega,show ¬ ((5:Int)=3) by omega,show ¬ ((5:Int)=4) by omega,show ¬ ((5:Int)=6) by omega,if_false,List.cons_append,List.cons.injEq,true_and,List.append_assoc,List.nil_append] at h
    have key:TR l++93::x=TR l'++93::y:=by
     cases l with
     | nil =>
       cases l' with
       | nil=>exact h
       | cons t' l' =>
         simp only[aL] at b12
         obtain⟨c,r,e,_,hne,_⟩:=kf b12.1
         simp only[TRj,List.nil_append,List.append_assoc,e,List.cons_append,List.cons.injEq] at h
         exact absurd h.1.symm hne
     | cons t l =>
       cases l' with
       | nil =>
         simp only[aL] at a12
         obtain⟨c,r,e,_,hne,_⟩:=kf a12.1
         simp only[TRj,List.nil_append,List.append_assoc,e,List.cons_append,List.cons.injEq] at h
         exact absurd h.1 hne
       | cons t' l' =>
         simp only[TR,TRj,List.cons_append,List.append_assoc] at h ⊢
         rw[h]
    obtain⟨h1,h2⟩:=CB l a12 b12 key
    subst h1
    exact⟨rfl,h2⟩
   have q5:=a5.resolve_left (by omega)
   have p5:=b5.resolve_left (by omega)
   subst q5 p5
   refine⟨rfl,?_⟩
   exact List.append_cancel_left h
theorem CB:∀ (l:List T) {l':List T} {d d':Int} {x y:List UInt8},aL l d->aL l' d'->TR l++93::x=TR l'++93::y->l=l'/\x=y
 | [],[],_,_,_,_,_,_,h=>⟨rfl,by simpa [TR] using h⟩
 | [],_::_,_,_,_,_,_,_,h=>by simp[TR] at h
 | _::_,[],_,_,_,_,_,_,h=>by simp[TR] at h
 | t::l,t'::l',d,d',x,y,ha,hb,h=>by
   simp only[aL] at ha hb
   simp only[TR,List.cons_append,List.cons.injEq,true_and,List.append_assoc] at h
   obtain⟨rfl,h1⟩:=qt t ha.1 hb.1 (Cy l x) (Cy l' y) h
   obtain⟨rfl,h2⟩:=CB l ha.2 hb.2 h1
   exact⟨rfl,h2⟩
theorem CC:∀ (l:List T) {l':List T} {ks ks':List ByteArray} {d d':Int} {x y:List UInt8},ks.length=l.length->ks'.length=l'.length->(∀ s ∈ ks,okS s)->(∀ s ∈ ks',okS s)->aL l d->aL l' d'->TM ks l++125::x=TM ks' l'++125::y->ks=ks'/\l=l'/\x=y
 | [],[],ks,ks',_,_,_,_,hl,hl',_,_,_,_,h=>by
   rw[List.eq_nil_of_length_eq_zero hl,List.eq_nil_of_length_eq_zero hl']
   exact⟨rfl,rfl,by simpa [TM] using h⟩
 | [],_::_,_,_,_,_,_,_,_,_,_,_,_,_,h=>by simp[TM] at h
 | _::_,[],_,_,_,_,_,_,_,_,_,_,_,_,h=>by simp[TM] at h
 | t::l,t'::l',[],_,_,_,_,_,hl,_,_,_,_,_,_=>by simp at hl
 | t::l,t'::l',_::_,[],_,_,_,_,_,hl,_,_,_,_,_=>by simp at hl
 | t::l,t'::l',z::ks,z'::ks',d,d',x,y,hl,hl',oa,ob,ha,hb,h=>by
   simp only[aL] at ha hb
   simp only[TM,List.headD_cons,List.tail_cons,List.cons_append,List.cons.injEq,true_and,List.append_assoc] at h
   obtain⟨h1,h2⟩:=gZ (P:=bg) (cM (oa z (by simp))) (cM (ob z' (by simp))) (iZ 58 (by decide) _) (iZ 58 (by decide) _) h
   have h2:=(List.cons.inj h2).2
   obtain⟨rfl,h3⟩:=qt t ha.1 hb.1 (Cz ks l x) (Cz ks' l' y) h2
   obtain⟨rfl,rfl,h4⟩:=CC l (by simpa using hl) (by simpa using hl') (fun s hs=>oa s (List.mem_cons_of_mem _ hs)) (fun s hs=>ob s (List.mem_cons_of_mem _ hs)) ha.2 hb.2 h3
   rw[er h1]
   exact⟨rfl,rfl,h4⟩
end
end Go.Proofs.Pw
namespace Go.Proofs.Pw
def skp (l:List UInt8) (a:Nat) (p:List UInt8):Bool:=p.isPrefixOf (l.drop a)
def aO (l:List UInt8) (e:List UInt8) (a:Nat):Nat:=a+((l.drop a).takeWhile fun c=>!e.contains c).length
def sub (l:List UInt8) (a b:Nat):List UInt8:=(l.drop a).take (b-a)
def dQ (l:List UInt8):Int:=match Lib.atoiAll l with
 | .ok v=>v
 | .range=>Lib.atoiSat l
 | _=>0
def clo (l:List UInt8) (a:Nat) (p:List UInt8):Nat:=if skp l a p then a+p.length else a
def rdL (f:Nat->T × Nat) (l:List UInt8):Nat->Nat->List T × Nat
 | 0,a=>([],a)
 | c+1,a=>if skp l (f a).2 [44] then ((f a).1::(rdL f l c ((f a).2+1)).1,(rdL f l c ((f a).2+1)).2) else ([(f a).1],(f a).2)
def rdM (f:Nat->T × Nat) (l:List UInt8):Nat->Nat->List ByteArray × List T × Nat
 | 0,a=>([],[],a)
 | c+1,a =>
   let b:=aO l [58] a
   let k:=bL (sub l a b)
   let r:=f (clo l b [58])
   if skp l r.2 [44] then (k::(rdM f l c (r.2+1)).1,r.1::(rdM f l c (r.2+1)).2.1,(rdM f l c (r.2+1)).2.2) else ([k],[r.1],r.2)
def rdV:Nat->List UInt8->Nat->T × Nat
 | 0,_,a=>(T.zero,a)
 | d+1,l,a =>
   if skp l a [110,117,108,108] then (.mk 0 0 ⟨#[]⟩ [] [],a+4)
   else if skp l a [102,97,108,115,101] then (.mk 1 0 ⟨#[]⟩ [] [],a+5)
   else if skp l a [116,114,117,101] then (.mk 2 0 ⟨#[]⟩ [] [],a+4)
   else if skp l a [39] then (.mk 4 0 (bL (sub l (a+1) (aO l [39] (a+1)))) [] [],clo l (aO l [39] (a+1)) [39])
   else if skp l a [91] then
    if skp l (a+1) [93] then (.mk 5 0 ⟨#[]⟩ [] [],a+2)
    else (.mk 5 0 ⟨#[]⟩ [] (rdL (rdV d l) l 61 (a+1)).1,clo l (rdL (rdV d l) l 61 (a+1)).2 [93])
   else if skp l a [123] then
    if skp l (a+1) [125] then (.mk 6 0 ⟨#[]⟩ [] [],a+2)
    else (.mk 6 0 ⟨#[]⟩ (rdM (rdV d l) l 61 (a+1)).1 (rdM (rdV d l) l 61 (a+1)).2.1,clo l (rdM (rdV d l) l 61 (a+1)).2.2 [125])
   else (.mk 3 (dQ (sub l a (aO l [44,93,125] a))) ⟨#[]⟩ [] [],aO l [44,93,125] a)
theorem db {l p:List UInt8} {a:Nat} (h:skp l a p=true) (hp:p≠[]):a+p.length<=l.length:=by
 have:=(List.isPrefixOf_iff_prefix.1 h).length_le
 rw[List.length_drop] at this
 have:0 < p.length:=List.length_pos_iff.2 hp
 omega
theorem NY {α:Type} (p:α->Bool) (l:List α):(l.takeWhile p).length<=l.length:=(List.takeWhile_prefix p).length_le
theorem kg {l e:List UInt8} {a:Nat} (h:a<=l.length):a<=aO l e a/\aO l e a<=l.length:=by
 unfold aO
 have:=NY (fun c=>!e.contains c) (l.drop a)
 rw[List.length_drop] at this
 omega
theorem ot {l p:List UInt8} {a:Nat} (h:a<=l.length) (hp:p≠[]):a<=clo l a p/\clo l a p<=l.length:=by
 unfold clo
 split
 ·rename_i c
  have:=db c hp
  omega
 ·omega
theorem qu {l:List UInt8} {a b:Nat} (h:b<=l.length):(sub l a b).length<=l.length:=by
 unfold sub
 rw[List.length_take,List.length_drop];omega
theorem CD (l:List UInt8):i64 (dQ l):=by
 unfold dQ i64
 split
 ·rename_i v h
  exact Lib.atoiAll_bounds h
 ·exact Lib.atoiSat_bounds l
 ·omega
def uQ (l:List UInt8) (a:Nat) (r:T × Nat):Prop:=a<=r.2/\r.2<=l.length/\aA r.1+a<=1+(r.2:Int)/\r.1.fit (l.length+61)
theorem CE {f:Nat->T × Nat} {l:List UInt8} (hf:∀ a,a<=l.length->uQ l a (f a)):∀ (c a:Nat),a<=l.length->a<=(rdL f l c a).2/\(rdL f l c a).2<=l.length/\av (rdL f l c a).1+a<=1+((rdL f l c a).2:Int)/\(rdL f l c a).1.length<=c/\bn (l.length+61) (rdL f l c a).1
 | 0,a,h=>by simp only[rdL,av];exact⟨Nat.le_refl _,h,by omega,by simp,trivial⟩
 | c+1,a,h=>by
   obtain⟨h1,h2,h3,h4⟩:=hf a h
   simp only[rdL]
   split
   ·rename_i hs
    have hs':=db hs (by simp)
    simp only[List.length_cons,List.length_nil] at hs'
    obtain⟨g1,g2,g3,g4,g5⟩:=CE hf c ((f a).2+1) (by omega)
    simp only[av,List.length_cons]
    exact⟨by omega,g2,by omega,by omega,h4,g5⟩
   ·simp only[av,List.length_cons,List.length_nil]
    exact⟨h1,h2,by omega,by omega,h4,trivial⟩
theorem CF {f:Nat->T × Nat} {l:List UInt8} (hf:∀ a,a<=l.length->uQ l a (f a)):∀ (c a:Nat),a<=l.length->a<=(rdM f l c a).2.2/\(rdM f l c a).2.2<=l.length/\av (rdM f l c a).2.1+a<=1+((rdM f l c a).2.2:Int)/\(rdM f l c a).2.1.length<=c/\(rdM f l c a).1.length<=c/\bn (l.length+61) (rdM f l c a).2.1/\∀ s ∈ (rdM f l c a).1,s.size<=l.length
 | 0,a,h=>by simp only[rdM,av];exact⟨Nat.le_refl _,h,by omega,by simp,by simp,trivial,by simp⟩
 | c+1,a,h=>by
   obtain⟨u1,u2⟩:=kg (e:=[58]) h
   obtain⟨w1,w2⟩:=ot (p:=[58]) u2 (by simp)
   obtain⟨h1,h2,h3,h4⟩:=hf _ w2
   have hk:(bL (sub l a (aO l [58] a))).size<=l.length:=by rw[ft];exact qu u2
   simp only[rdM]
   split
   ·rename_i hs
    have hs':=db hs (by simp)
    simp only[List.length_cons,List.length_nil] at hs'
    obtain⟨g1,g2,g3,g4,g5,g6,g7⟩:=CF hf c ((f (clo l (aO l [58] a) [58])).2+1) (by omega)
    simp only[av,List.length_cons]
    refine⟨by omega,g2,by omega,by omega,by omega,⟨h4,g6⟩,fun s hs=>?_⟩
    rcases List.mem_cons.1 hs with rfl|hs
    ·exact hk
    ·exact g7 s hs
   ·simp only[av,List.length_cons,List.length_nil]
    refine⟨by omega,h2,by omega,by omega,by omega,⟨h4,trivial⟩,fun s hs=>?_⟩
    rw[List.mem_singleton] at hs
    rw[hs];exact hk
theorem hJ {k n:Int} {s:ByteArray} {B:Int} (hk:i64 k) (hn:i64 n) (hs:(s.size:Int)<=B) (hB:0<=B):(T.mk k n s [] []).fit B:=by
 simp only[T.fit,ab,cJ]
 exact⟨hk,hn,hs,⟨by simpa using hB,by simp⟩,by simpa using hB,trivial⟩
theorem qv:∀ (d:Nat) (l:List UInt8) (a:Nat),a<=l.length->uQ l a (rdV d l a)
 | 0,l,a,h=>by
   unfold rdV
   exact⟨Nat.le_refl _,h,by show aA T.zero+_<=_;simp[T.zero,aA,av],hJ (by unfold i64;omega) (by unfold i64;omega) (by show ((0:Nat):Int)<=_;omega) (by omega)⟩
 | d+1,l,a,h=>by
   have hz:(((⟨#[]⟩:ByteArray).size:Nat):Int)=0:=rfl
   have e1:∀ k:Int,∀ n s,aA (.mk k n s [] [])=1:=fun k n s=>by simp[aA,av]
   unfold rdV
   split
   ·rename_i c
    have c:=db c (by simp)
    simp only[List.length_cons,List.length_nil] at c
    exact⟨by simp only;omega,by simp only;omega,by rw[e1];simp only;omega,hJ (by unfold i64;omega) (by unfold i64;omega) (by rw[hz];omega) (by omega)⟩
   split
   ·rename_i c
    have c:=db c (by simp)
    simp only[List.length_cons,List.length_nil] at c
    exact⟨by simp only;omega,by simp only;omega,by rw[e1];simp only;omega,hJ (by unfold i64;omega) (by unfold i64;omega) (by rw[hz];omega) (by omega)⟩
   split
   ·rename_i c
    have c:=db c (by simp)
    simp only[List.length_cons,List.length_nil] at c
    exact⟨by simp only;omega,by simp only;omega,by rw[e1];simp only;omega,hJ (by unfold i64;omega) (by unfold i64;omega) (by rw[hz];omega) (by omega)⟩
   split
   ·rename_i c
    have c:=db c (by simp)
    simp only[List.length_cons,List.length_nil] at c
    obtain⟨u1,u2⟩:=kg (l:=l) (e:=[39]) (a:=a+1) (by omega)
    obtain⟨w1,w2⟩:=ot (p:=[39]) u2 (by simp)
    have hk:(bL (sub l (a+1) (aO l [39] (a+1)))).size<=l.length:=by rw[ft];exact qu u2
    exact⟨by simp only;omega,w2,by rw[e1];simp only;omega,hJ (by unfold i64;omega) (by unfold i64;omega) (by omega) (by omega)⟩
   split
   ·rename_i c
    have c:=db c (by simp)
    simp only[List.length_cons,List.length_nil] at c
    split
    ·rename_i c'
     have c':=db c' (by simp)
     simp only[List.length_cons,List.length_nil] at c'
     exact⟨by simp only;omega,by simp only;omega,by rw[e1];simp only;omega,hJ (by unfold i64;omega) (by unfold i64;omega) (by rw[hz];omega) (by omega)⟩
    ·obtain⟨g1,g2,g3,g4,g5⟩:=CE (fun a h=>qv d l a h) 61 (a+1) (by omega)
     obtain⟨w1,w2⟩:=ot (p:=[93]) g2 (by simp)
     refine⟨by simp only;omega,w2,by simp only[aA];omega,?_⟩
     simp only[T.fit,ab,cJ]
     exact⟨by unfold i64;omega,by unfold i64;omega,by rw[hz];omega,⟨by simp;omega,by simp⟩,by omega,g5⟩
   split
   ·rename_i c
    have c:=db c (by simp)
    simp only[List.length_cons,List.length_nil] at c
    split
    ·rename_i c'
     have c':=db c' (by simp)
     simp only[List.length_cons,List.length_nil] at c'
     exact⟨by simp only;omega,by simp only;omega,by rw[e1];simp only;omega,hJ (by unfold i64;omega) (by unfold i64;omega) (by rw[hz];omega) (by omega)⟩
    ·obtain⟨g1,g2,g3,g4,g5,g6,g7⟩:=CF (fun a h=>qv d l a h) 61 (a+1) (by omega)
     obtain⟨w1,w2⟩:=ot (p:=[125]) g2 (by simp)
     refine⟨by simp only;omega,w2,by simp only[aA];omega,?_⟩
     simp only[T.fit,ab,cJ]
     exact⟨by unfold i64;omega,by unfold i64;omega,by rw[hz];omega,⟨by omega,fun s hs=>by have:=g7 s hs;omega⟩,by omega,g6⟩
   ·obtain⟨u1,u2⟩:=kg (l:=l) (e:=[44,93,125]) h
    exact⟨u1,u2,by rw[e1];simp only;omega,hJ (by unfold i64;omega) (CD _) (by rw[hz];omega) (by omega)⟩
end Go.Proofs.Pw
namespace Go.Proofs.Pw
def ki:List UInt8->Prop
 | []=>True
 | b::_=>b=44\/b=125\/b=93
theorem bP {l w x:List UInt8} {a:Nat} (h:l.drop a=w++x):l.drop (a+w.length)=x:=by
 rw[<-List.drop_drop,h,List.drop_left'];rfl
theorem fv {l p r:List UInt8} {a:Nat} (h:l.drop a=p++r):skp l a p=true:=by
 unfold skp
 rw[h,List.isPrefixOf_iff_prefix]
 exact List.prefix_append p r
theorem bF {l r q:List UInt8} {a:Nat} {b c:UInt8} (h:l.drop a=c::r) (hne:b≠c):skp l a (b::q)=false:=by
 unfold skp
 rw[h]
 simp[List.isPrefixOf,hne]
theorem qw {l p r:List UInt8} {a:Nat} (h:l.drop a=p++r):clo l a p=a+p.length:=by
 unfold clo;rw[fv h,if_pos rfl]
theorem uR {l w x e:List UInt8} {a:Nat} (h:l.drop a=w++x) (hw:∀ c ∈ w,e.contains c=false) (hx:∀ b r,x=b::r->e.contains b=true):aO l e a=a+w.length/\sub l a (aO l e a)=w:=by
 have key:(w++x).takeWhile (fun c=>!e.contains c)=w:=by
  rw[List.takeWhile_append_of_pos (fun c hc=>by simp only[hw c hc,Bool.not_false])]
  cases x with
  | nil=>simp
  | cons b r =>
    have h1:=hx b r rfl
    rw[List.takeWhile_cons_of_neg (by rw[h1];simp),List.append_nil]
 have e1:aO l e a=a+w.length:=by unfold aO;rw[h,key]
 refine⟨e1,?_⟩
 unfold sub
 rw[e1,h,Nat.add_sub_cancel_left,List.take_left']
 rfl
theorem CG {c:UInt8}:∀ (l:List UInt8) (acc v:Nat),Lib.parseUint10 acc l=.ok v->48<=c.toNat/\c.toNat<=57->v < 1844674407370955161->Lib.parseUint10 acc (l++[c])=.ok (v*10+(c.toNat-48))
 | [],acc,v,h,hc,hv=>by
   simp only[Lib.parseUint10] at h
   injection h with h
   subst h
   simp only[List.nil_append,Lib.parseUint10]
   rw[if_pos hc,if_neg (by omega),if_neg (by omega)]
 | b::l,acc,v,h,hc,hv=>by
   simp only[List.cons_append,Lib.parseUint10] at h ⊢
   split at h
   ·split at h
    ·cases h
    ·split at h
     ·cases h
     ·rename_i h1 h2 h3
      rw[if_pos h1,if_neg h2,if_neg h3]
      exact CG l _ v h hc hv
   ·cases h
theorem NZ (u:Nat):u < 1000000000000->Lib.parseUint10 0 (Lib.decDigits u)=.ok u:=by
 induction u using Nat.strongRecOn with
 | _ u ih =>
   intro hu
   by_cases h:u < 10
   ·have hd:=kd h
    rw[Lib.decDigits,dif_pos h]
    simp only[Lib.parseUint10]
    rw[if_pos (by omega),if_neg (by omega),if_neg (by omega)]
    congr 1;omega
   ·have hd:=kd (show u % 10 < 10 by omega)
    rw[Lib.decDigits,dif_neg h,CG _ _ _ (ih (u / 10) (by omega) (by omega)) (by omega) (by omega)]
    congr 1;omega
theorem CH {u:Nat} (h:u < 1000000000000):Lib.parseMag (Lib.decDigits u)=.ok u:=by
 unfold Lib.parseMag
 rw[if_neg (ke u),NZ u h]
theorem Oa {n:Int} (h0:-1000000<=n) (h1:n<=1000000):Lib.atoiAll (Lib.itoa n)=.ok n:=by
 unfold Lib.itoa
 split
 ·rename_i hn
  rw[Lib.atoiAll_minus,CH (by omega)]
  simp only[Lib.signed]
  rw[if_neg (by omega)]
  congr 1;omega
 ·obtain⟨c,r,e⟩:=List.exists_cons_of_ne_nil (ke n.toNat)
  have hc:=iY n.toNat c (by rw[e];simp)
  rw[e,Lib.atoiAll_plain c r (by omega) (by omega),<-e,CH (by omega)]
  simp only[Lib.signless]
  rw[if_neg (by omega)]
  congr 1;omega
theorem CI {n:Int} (h0:-1000000<=n) (h1:n<=1000000):dQ (Lib.itoa n)=n:=by
 unfold dQ
 rw[Oa h0 h1]
theorem CJ (l:List T) (x:List UInt8):ki (TR l++93::x):=by
 cases l with
 | nil=>exact .inr (.inr rfl)
 | cons t l=>exact .inl rfl
theorem CK (ks:List ByteArray) (l:List T) (x:List UInt8):ki (TM ks l++125::x):=by
 cases l with
 | nil=>exact .inr (.inl rfl)
 | cons t l=>exact .inl rfl
theorem ja (s:ByteArray):bL (tL s)=s:=iS s
theorem CL {s:ByteArray} (h:okS s) {e:UInt8} (he:e.toNat < 97):∀ c ∈ tL s,[e].contains c=false:=fun c hc=>by
 have:=cM h c hc
 unfold bg at this
 simp only[List.contains_cons,List.contains_nil,Bool.or_false,beq_eq_false_iff_ne,ne_eq]
 intro e';subst e';omega
theorem qx (t:T):1<=aA t:=by
 obtain⟨k,n,s,ks,l⟩:=t
 have:=fZ l
 simp only[aA];omega
mutual
theorem uS:∀ (t:T) {d:Nat} {l:List UInt8} {a:Nat} {x:List UInt8},aK t d->aA t<=60->l.drop a=tL (az t)++x->ki x->rdV d l a=(t,a+(tL (az t)).length)
 | .mk k n s ks ts,0,l,a,x,hf,_,_,_=>by simp only[aK] at hf;have:=hf.1;omega
 | .mk k n s ks ts,d+1,l,a,x,hf,hz,h,hx=>by
   have hk:=oo hf
   simp only[aK] at hf
   obtain⟨_,a2,a3,a4,a5,_,_,a8,a9,a10,a11,a12⟩:=hf
   have ed:((d+1:Nat):Int)-1=(d:Int):=by omega
   rw[ed] at a12
   simp only[aA] at hz
   have hlen:=fZ ts
   rw[ma] at h ⊢
   by_cases c0:k=0
   ·subst c0
    have q2:=a2.resolve_left (by omega);have q3:=a3.resolve_left (by omega);have q4:=a4.resolve_left (by omega);have q5:=a5.resolve_left (by omega)
    subst q2 q3 q4 q5
    rw[if_pos rfl] at h ⊢
    unfold rdV
    rw[if_pos (fv h)];rfl
   rw[if_neg c0] at h ⊢
   by_cases c1:k=1
   ·subst c1
    have q2:=a2.resolve_left (by omega);have q3:=a3.resolve_left (by omega);have q4:=a4.resolve_left (by omega);have q5:=a5.resolve_left (by omega)
    subst q2 q3 q4 q5
    rw[if_pos rfl] at h ⊢
    unfold rdV
    rw[bF (b:=110) h (by decide),if_neg (by simp),if_pos (fv h)];rfl
   rw[if_neg c1] at h ⊢
   by_cases c2:k=2
   ·subst c2
    have q2:=a2.resolve_left (by omega);have q3:=a3.resolve_left (by omega);have q4:=a4.resolve_left (by omega);have q5:=a5.resolve_left (by omega)
    subst q2 q3 q4 q5
    rw[if_pos rfl] at h ⊢
    unfold rdV
    rw[bF (b:=110) h (by decide),if_neg (by simp),bF (b:=102) h (by decide),if_neg (by simp),if_pos (fv h)];rfl
   rw[if_neg c2] at h ⊢
   by_cases c3:k=3
   ·subst c3
    have q3:=a3.resolve_left (by omega);have q4:=a4.resolve_left (by omega);have q5:=a5.resolve_left (by omega)
    subst q3 q4 q5
    rw[if_pos rfl] at h ⊢
    obtain⟨c,r,e⟩:=mb n
    have hc:=ge n c (by rw[e];simp)
    have hne:∀ m:UInt8,m.toNat≠45->¬ (48<=m.toNat/\m.toNat<=57)->m≠c:=fun m h1 h2 e=>by rw[<-e] at hc;exact hc.elim h1 h2
    have h':l.drop a=c::(r++x):=by rw[h,e];rfl
    obtain⟨u1,u2⟩:=uR (e:=[44,93,125]) h (fun c hc=>by
     have:=ge n c hc
     simp only[List.contains_cons,List.contains_nil,Bool.or_false,Bool.or_eq_false_iff,beq_eq_false_iff_ne,ne_eq]
     refine⟨?_,?_,?_⟩ <;> (intro e';subst e';revert this;decide)) (fun b r e=>by
     subst e
     rcases hx with rfl|rfl|rfl <;> rfl)
    unfold rdV
    rw[bF (b:=110) h' (hne _ (by decide) (by decide)),if_neg (by simp),bF (b:=102) h' (hne _ (by decide) (by decide)),if_neg (by simp),bF (b:=116) h' (hne _ (by decide) (by decide)),if_neg (by simp),
     bF (b:=39) h' (hne _ (by decide) (by decide)),if_neg (by simp),bF (b:=91) h' (hne _ (by decide) (by decide)),if_neg (by simp),bF (b:=123) h' (hne _ (by decide) (by decide)),if_neg (by simp),u2,u1,CI a8 a9]
   rw[if_neg c3] at h ⊢
   have q2:=a2.resolve_left c3
   subst q2
   by_cases c4:k=4
   ·subst c4
    have q4:=a4.resolve_left (by omega);have q5:=a5.resolve_left (by omega)
    subst q4 q5
    rw[if_pos rfl] at h ⊢
    have h':l.drop a=39::(tL s++39::x):=by rw[h];simp
    have h2:l.drop (a+1)=tL s++39::x:=bP (w:=[39]) h'
    obtain⟨u1,u2⟩:=uR (e:=[39]) h2 (CL a10 (by decide)) (fun b r e=>by cases e;rfl)
    have h3:=bP h2
    rw[<-u1] at h3
    unfold rdV
    rw[bF (b:=110) h' (by decide),if_neg (by simp),bF (b:=102) h' (by decide),if_neg (by simp),bF (b:=116) h' (by decide),if_neg (by simp),
     if_pos (fv (p:=[39]) h'),u2,qw (p:=[39]) h3,u1,ja]
    simp only[List.length_cons,List.length_append,List.length_nil,Prod.mk.injEq,true_and]
    omega
   rw[if_neg c4] at h ⊢
   have q3:=a3.resolve_left c4
   subst q3
   by_cases c6:k=6
   ·subst c6
    rw[if_pos rfl] at h ⊢
    obtain⟨g1,g2⟩:=a11 rfl
    have ok:∀ s ∈ ks,okS s:=fun s hs=>by
     obtain⟨i,hi⟩:=List.getElem?_of_mem hs
     exact fW g2 hi
    have h':l.drop a=123::(TMj ks ts++125::x):=by rw[h];simp
    have h2:l.drop (a+1)=TMj ks ts++125::x:=bP (w:=[123]) h'
    unfold rdV
    rw[bF (b:=110) h' (by decide),if_neg (by simp),bF (b:=102) h' (by decide),if_neg (by simp),bF (b:=116) h' (by decide),if_neg (by simp),
     bF (b:=39) h' (by decide),if_neg (by simp),bF (b:=91) h' (by decide),if_neg (by simp),if_pos (fv (p:=[123]) h')]
    cases ts with
    | nil =>
      rw[List.length_nil] at g1
      have:=List.eq_nil_of_length_eq_zero g1
      subst this
      rw[if_pos (fv (p:=[125]) h2)]
      rfl
    | cons t ts =>
      cases ks with
      | nil=>simp at g1
      | cons z ks =>
        have hno:skp l (a+1) [125]=false:=by
         cases hz':tL z with
         | nil =>
           have:l.drop (a+1)=58::(tL (az t)++TM ks ts++125::x):=by rw[h2];simp[TMj,hz']
           exact bF this (by decide)
         | cons b r =>
           have:l.drop (a+1)=b::(r++58::(tL (az t)++TM ks ts++125::x)):=by rw[h2];simp[TMj,hz']
           refine bF this fun e=>?_
           have:=cM (ok z (by simp)) b (by rw[hz'];simp)
           rw[<-e] at this
           exact oq (by decide) this
        have hr:=CN (t::ts) (c:=61) (ks:=z::ks) (by simp) (by simp only[List.length_cons] at hlen ⊢;omega) g1 ok a12 (by omega) h2
        have h3:=bP h2
        rw[hno,if_neg (by simp),hr,qw (p:=[125]) h3]
        simp only[List.length_cons,List.length_append,List.length_nil,Prod.mk.injEq,true_and]
        omega
   rw[if_neg c6] at h ⊢
   have q4:=a4.resolve_left c6
   subst q4
   have c5:k=5:=by
    have h0:=hk.1
    have h6:=hk.2
    omega
   subst c5
   have h':l.drop a=91::(TRj ts++93::x):=by rw[h];simp
   have h2:l.drop (a+1)=TRj ts++93::x:=bP (w:=[91]) h'
   unfold rdV
   rw[bF (b:=110) h' (by decide),if_neg (by simp),bF (b:=102) h' (by decide),if_neg (by simp),bF (b:=116) h' (by decide),if_neg (by simp),
    bF (b:=39) h' (by decide),if_neg (by simp),if_pos (fv (p:=[91]) h')]
   cases ts with
   | nil=>rw[if_pos (fv (p:=[93]) h2)];rfl
   | cons t ts =>
     have hno:skp l (a+1) [93]=false:=by
      have hft:=a12
      simp only[aL] at hft
      obtain⟨c,r,e,_,hne,_⟩:=kf hft.1
      have:l.drop (a+1)=c::(r++TR ts++93::x):=by rw[h2];simp[TRj,e]
      exact bF this (fun e=>hne e.symm)
     have hr:=CM (t::ts) (c:=61) (by simp) (by simp only[List.length_cons] at hlen ⊢;omega) a12 (by omega) h2
     have h3:=bP h2
     rw[hno,if_neg (by simp),hr,qw (p:=[93]) h3]
     simp only[List.length_cons,List.length_append,List.length_nil,Prod.mk.injEq,true_and]
     omega
theorem CM:∀ (ts:List T) {d:Nat} {l:List UInt8} {c a:Nat} {x:List UInt8},ts≠[]->ts.length<=c->aL ts d->av ts<=60->l.drop a=TRj ts++93::x->rdL (rdV d l) l c a=(ts,a+(TRj ts).length)
 | [],_,_,_,_,_,h,_,_,_,_=>absurd rfl h
 | t::ts,d,l,0,a,x,_,hc,_,_,_=>by simp at hc
 | t::ts,d,l,c+1,a,x,_,hc,hf,hz,h=>by
   simp only[aL] at hf
   simp only[av] at hz
   have hp:=qx t
   have hl:=fZ ts
   simp only[TRj,List.append_assoc] at h
   have h1:=uS t hf.1 (by omega) h (CJ ts x)
   have h2:=bP h
   simp only[rdL,h1]
   cases ts with
   | nil =>
     rw[bF (b:=44) h2 (by decide),if_neg (by simp)]
     simp[TRj,TR]
   | cons u ts =>
     have h3:l.drop (a+(tL (az t)).length+1)=TRj (u::ts)++93::x:=by
      have:l.drop (a+(tL (az t)).length)=[44]++(TRj (u::ts)++93::x):=by rw[h2];simp[TR,TRj]
      exact bP (w:=[44]) this
     have hr:=CM (u::ts) (c:=c) (by simp) (by simpa using hc) hf.2 (by omega) h3
     rw[fv (p:=[44]) (r:=TRj (u::ts)++93::x) (by rw[h2];simp[TR,TRj]),if_pos rfl,hr]
     simp only[TRj,TR,List.length_append,List.length_cons,Prod.mk.injEq,true_and]
     omega
theorem CN:∀ (ts:List T) {ks:List ByteArray} {d:Nat} {l:List UInt8} {c a:Nat} {x:List UInt8},ts≠[]->ts.length<=c->ks.length=ts.length->(∀ s ∈ ks,okS s)->aL ts d->av ts<=60->l.drop a=TMj ks ts++125::x->rdM (rdV d l) l c a=(ks,ts,a+(TMj ks ts).length)
 | [],_,_,_,_,_,_,h,_,_,_,_,_,_=>absurd rfl h
 | t::ts,_,d,l,0,a,x,_,hc,_,_,_,_,_=>by simp at hc
 | t::ts,[],d,l,c+1,a,x,_,_,hk,_,_,_,_=>by simp at hk
 | t::ts,z::ks,d,l,c+1,a,x,_,hc,hk,ok,hf,hz,h=>by
   simp only[aL] at hf
   simp only[av] at hz
   have hp:=qx t
   have hl:=fZ ts
   simp only[TMj,List.headD_cons,List.tail_cons,List.append_assoc,List.cons_append] at h
   obtain⟨u1,u2⟩:=uR (e:=[58]) h (CL (ok z (by simp)) (by decide)) (fun b r e=>by cases e;rfl)
   have h1:=bP h
   rw[<-u1] at h1
   have h2:l.drop (aO l [58] a+1)=tL (az t)++(TM ks ts++125::x):=bP (w:=[58]) h1
   have h3:=uS t hf.1 (by omega) h2 (CK ks ts x)
   have h4:=bP h2
   simp only[rdM,u2,qw (p:=[58]) h1,List.length_cons,List.length_nil,Nat.zero_add,h3,ja]
   cases ts with
   | nil =>
     have hk0:ks=[]:=List.eq_nil_of_length_eq_zero (by simpa using hk)
     subst hk0
     rw[bF (b:=44) h4 (by decide),if_neg (by simp),u1]
     simp only[TMj,TM,List.headD_cons,List.append_nil,List.length_append,List.length_cons,Prod.mk.injEq,true_and]
     omega
   | cons u ts =>
     cases ks with
     | nil=>simp at hk
     | cons z' ks =>
       have h5:l.drop (aO l [58] a+1+(tL (az t)).length+1)=TMj (z'::ks) (u::ts)++125::x:=by
        have:l.drop (aO l [58] a+1+(tL (az t)).length)=[44]++(TMj (z'::ks) (u::ts)++125::x):=by rw[h4];simp[TM,TMj]
        exact bP (w:=[44]) this
       have hr:=CN (u::ts) (ks:=z'::ks) (c:=c) (by simp) (by simpa using hc) (by simpa using hk) (fun s hs=>ok s (List.mem_cons_of_mem _ hs)) hf.2 (by omega) h5
       rw[fv (p:=[44]) (r:=TMj (z'::ks) (u::ts)++125::x) (by rw[h4];simp[TM,TMj]),if_pos rfl,hr,u1]
       simp only[TMj,TM,List.headD_cons,List.tail_cons,List.length_append,List.length_cons,Prod.mk.injEq,true_and]
       omega
end
theorem Ob {t:T} (h:okT t):rdV 6 (tL (az t)) 0=(t,(tL (az t)).length):=by
 have:=uS t (d:=6) (l:=tL (az t)) (a:=0) (x:=[]) h.1 (lQ h) (by simp) trivial
 simpa using this
end Go.Proofs.Pw
