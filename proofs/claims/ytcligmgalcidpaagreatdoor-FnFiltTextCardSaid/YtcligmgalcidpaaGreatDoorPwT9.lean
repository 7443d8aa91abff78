/- What a function hands back; what is shown of its code holds of it. -/
import Derived.Test.YtcligmgalcidpaaGreatDoorPwT8
set_option linter.unusedSimpArgs false
set_option linter.unusedVariables false
set_option linter.unusedSectionVars false
set_option maxRecDepth 20000
namespace Go.Proofs.Pw
open Go.RowKit
variable [Globs]
section
variable {P:Program} {Γ:FuncId->Option Spec} {σ σ':St} {a:Act} {w w':World} {M M':Gh} {n:Nat} {X₀:Nat->Prop} {B:Nat} {w0:W0}
def lB (tmps:Array Value):ResultVar->Sem Value
 | .tmp t=>pure (tmps.getD t undef)
 | .cell a t=>do loadVar t (<- asAddr (tmps.getD a undef))
theorem Kx (fn:Func) (tmps:Array Value):results fn tmps=(do
 let vs <- fn.results.mapM (lB tmps)
 pure (if h:vs.size=1 then vs[0] else .tuple vs)):=rfl
theorem zY (hs:Sim X₀ n B w0 σ a w M) {r:ResultVar} {x:RX} {rs:List ResultVar} {xs:List RX} (hk:am P (r::rs) (x::xs)=true) {vc:Prop} {p:PV} (hv:iI σ x=some (vc,p)) (hvc:vc) :
 am P rs xs=true/\∃ v,(lB a.tmps r).run P w=.ok v w/\ak w M p v:=by
 cases r with
 | tmp t =>
   cases x with
   | tmp t' =>
     simp only[am,Bool.and_eq_true,beq_iff_eq] at hk
     obtain⟨rfl,hk⟩:=hk
     simp only[iI,Option.some.injEq,Prod.mk.injEq] at hv
     obtain⟨rfl,rfl⟩:=hv
     exact⟨hk,_,rfl,jC (gJ hs.tm t) hvc⟩
   | cell _ _=>simp[am] at hk
 | cell t ty =>
   cases x with
   | tmp _=>simp[am] at hk
   | cell t' ag =>
     simp only[am,Bool.and_eq_true,beq_iff_eq] at hk
     obtain⟨⟨rfl,hag⟩,hk⟩:=hk
     refine⟨hk,?_⟩
     simp only[iI] at hv
     split at hv
     ·rename_i g i e1
      simp only[Option.map_eq_some_iff,Prod.mk.injEq] at hv
      obtain⟨qs,hq,rfl,rfl⟩:=hv
      have hp:ak w M (σ.v (.t t)).2 (a.tmps.getD t undef):=jC (gJ hs.tm t) (by rw[show (get (PV.q .no) t σ.tm).un=σ.v (.t t) from rfl,e1];exact hvc.1)
      rw[e1] at hp
      have hin:=get?_mem hq
      obtain⟨_,ty',cells,h1,h2,h3⟩:=hs.mem.box _ _ hin
      have hl:=sj hvc.2
      have hc:∀ j,j < ag.getD 1->w.cell? ((⟨M.β i,0,none⟩:Addr).add j)=some (cells.getD j undef):=fun j hj=>by
       have hjs:j < cells.size:=by omega
       rw[Addr.add_lit,Nat.zero_add]
       simp[World.cell?,h1,hjs]
      have hld:=ld hag hc
      refine⟨_,?_,si (M:=M) (w:=w) (us:=fun j=>cells.getD j undef) hvc.2 (fun j q hj=>?_)⟩
      ·have he:a.tmps.getD t undef=.pointer (some ⟨M.β i,0,none⟩):=hp
       simp only[lB,he]
       simpa [Instr.loadAt,Instr.sureAddr,asAddr] using hld
      ·rw[Nat.zero_add] at hj
       obtain⟨u,k1,k2,k3⟩:=h3 j q hj
       simp only[Array.getD_eq_getD_getElem?,k1,Option.getD_some]
       exact⟨k2,k3⟩
     ·cases hv
theorem Ky (hs:Sim X₀ n B w0 σ a w M):∀ {rs:List ResultVar} {xs:List RX} {vc:Prop} {ds:List AV},am P rs xs=true->lA σ xs=some (vc,ds)->vc ->
 ∃ vs,(rs.mapM (lB a.tmps)).run P w=.ok vs w/\All3 (RepA w M.S) ds vs (ds.map fun _=>fun _=>False):=by
 intro rs
 induction rs with
 | nil =>
   intro xs vc ds hk hd hvc
   cases xs with
   | nil=>simp only[lA,Option.some.injEq,Prod.mk.injEq] at hd;rw[<-hd.2];exact⟨[],rfl,.nil⟩
   | cons _ _=>simp[am] at hk
 | cons r rs ih =>
   intro xs vc ds hk hd hvc
   cases xs with
   | nil=>cases r <;> simp[am] at hk
   | cons x xs =>
     simp only[lA] at hd
     split at hd
     ·rename_i vc1 p vc2 ds' e1 e2
      simp only[Option.map_eq_some_iff,Prod.mk.injEq] at hd
      obtain⟨d,hpd,rfl,rfl⟩:=hd
      obtain⟨hk',v,h1,h2⟩:=zY hs hk e1 hvc.1
      obtain⟨vs,h3,h4⟩:=ih hk' e2 hvc.2
      exact⟨v::vs,by simp only[List.mapM_cons,Sem.run_bind,h1,h3,Result.andThen_ok];rfl,.cons ⟨lh h2 hpd,fun _ h=>h⟩ h4⟩
     ·cases hd
def eJ (M:Gh):Nat->List AV->List (Nat->Prop)
 | _,[]=>[]
 | k,.ref _::as=>(fun g=>g=M.β k)::eJ M (k+1) as
 | k,.own _ _::as=>ae (M.ρ (k+aS))::eJ M (k+1) as
 | k,_::as=>(fun _=>False)::eJ M (k+1) as
theorem th {g:Nat} {p:Nat->Prop} {ps:List (Nat->Prop)} (h:Any (p::ps) g):p g\/Any ps g:=by
 obtain⟨q,hq,hg⟩:=h
 rcases List.mem_cons.1 hq with rfl|hq
 ·exact .inl hg
 ·exact .inr ⟨q,hq,hg⟩
theorem Kz {S:Nat->Prop} {wa:World} (mem:Mem X₀ B σ.bx σ.rw w M):∀ {as:List AV} {vs:List Value} {fps:List (Nat->Prop)} {os:List AV} {k:Nat},cv σ k as=some os->All3 (RepA wa S) as vs fps->(∀ (j:Nat) v,vs[j]?=some v->M.β (k+j)=nS v)->(∀ (j:Nat) sz es v,as[j]?=some (.own sz es)->vs[j]?=some v->(M.ρ (k+j+aS)).v=v) ->
 All3 (RepA w M.S) os vs (eJ M k os)/\(∀ g,Any (eJ M k os) g->(∃ j q,k<=j/\(j,q) ∈ σ.bx/\g=M.β j)\/∃ j r,k<=j/\(j+aS,r) ∈ σ.rw/\ae (M.ρ (j+aS)) g)/\Apart M.S (eJ M k os):=by
 intro as
 induction as with
 | nil =>
   intro vs fps os k h h3 hb hbr
   cases h3
   simp only[cv,Option.some.injEq] at h
   subst h
   exact⟨.nil,fun g ⟨p,hp,_⟩=>by simp[eJ] at hp,trivial⟩
 | cons y as ih =>
   intro vs fps os k h h3 hb hbr
   cases h3 with
   | @cons _ v fp _ vs fps hr h3 =>
   have hb':∀ (j:Nat) u,vs[j]?=some u->M.β (k+1+j)=nS u:=fun j u hu=>by
    rw[show k+1+j=k+(j+1) by omega];exact hb (j+1) u (by simpa using hu)
   have hbr':∀ (j:Nat) sz es u,as[j]?=some (.own sz es)->vs[j]?=some u->(M.ρ (k+1+j+aS)).v=u:=fun j sz es u hj hu=>by
    rw[show k+1+j=k+(j+1) by omega];exact hbr (j+1) sz es u (by simpa using hj) (by simpa using hu)
   have lift:∀ {os':List AV} {g:Nat},((∃ j q,k+1<=j/\(j,q) ∈ σ.bx/\g=M.β j)\/∃ j r,k+1<=j/\(j+aS,r) ∈ σ.rw/\ae (M.ρ (j+aS)) g)->(∃ j q,k<=j/\(j,q) ∈ σ.bx/\g=M.β j)\/∃ j r,k<=j/\(j+aS,r) ∈ σ.rw/\ae (M.ρ (j+aS)) g:=fun {_ g} h=>by
    rcases h with ⟨j,q,h1,h2⟩|⟨j,r,h1,h2⟩
    ·exact .inl ⟨j,q,by omega,h2⟩
    ·exact .inr ⟨j,r,by omega,h2⟩
   have rest:∀ {os'},cv σ (k+1) as=some os'->os=.gone::os'->All3 (RepA w M.S) os (v::vs) (eJ M k os)/\(∀ g,Any (eJ M k os) g->(∃ j q,k<=j/\(j,q) ∈ σ.bx/\g=M.β j)\/∃ j r,k<=j/\(j+aS,r) ∈ σ.rw/\ae (M.ρ (j+aS)) g)/\Apart M.S (eJ M k os):=fun {os'} h1 ho=>by
    obtain⟨i1,i2,i3⟩:=ih h1 h3 hb' hbr'
    subst ho
    refine⟨.cons (fun _ h=>h) i1,fun g hg=>?_,fun _ h=>h.elim,fun _ h=>h.elim,i3⟩
    rcases th hg with hg|hg
    ·exact hg.elim
    ·exact lift (os':=os') (i2 g hg)
   cases y with
   | ref cs0 =>
     simp only[cv] at h
     split at h
     ·rename_i cs os' e1 e2
      simp only[Option.some.injEq] at h
      subst h
      obtain⟨i1,i2,i3⟩:=ih e2 h3 hb' hbr'
      rw[Option.bind_eq_some_iff] at e1
      obtain⟨qs,hq,hcs⟩:=e1
      have hin:=get?_mem hq
      obtain⟨_,t,cells,c1,c2,c3⟩:=mem.box _ _ hin
      obtain⟨c4,c5⟩:=jF ⟨c2,c3⟩ hcs
      obtain⟨g,rfl,_,hfp⟩:=hr
      have hbk:M.β k=g:=by have:=hb 0 _ rfl;simpa [nS] using this
      refine⟨.cons ⟨g,rfl,⟨t,cells,by rw[<-hbk];exact c1,c4,c5⟩,fun g'=>by rw[hbk]⟩ i1,fun g' hg=>?_,fun g' hg hS=>?_,fun g' hg q' hq' hqg=>?_,i3⟩
      ·rcases th hg with hg|hg
       ·exact .inl ⟨k,qs,Nat.le_refl _,hin,hg⟩
       ·exact lift (os':=os') (i2 g' hg)
      ·subst hg;exact mem.sb _ _ hin hS
      ·subst hg
       rcases i2 _ ⟨q',hq',hqg⟩ with ⟨j,q2,k1,k2,k3⟩|⟨j,r,k1,k2,k3⟩
       ·exact mem.bb _ _ _ _ hin k2 (by omega) k3
       ·exact mem.br _ _ _ _ hin k2 k3
     ·cases h
   | d x =>
     simp only[cv,Option.map_eq_some_iff] at h
     obtain⟨os',h1,h2⟩:=h
     exact rest h1 h2.symm
   | own sz0 es0 =>
     simp only[cv] at h
     split at h
     ·rename_i sz es hq
      simp only[Option.map_eq_some_iff] at h
      obtain⟨os',h1,h2⟩:=h
      obtain⟨i1,i2,i3⟩:=ih h1 h3 hb' hbr'
      subst h2
      have hin:=get?_mem hq
      obtain⟨c0,c1,_⟩:=mem.row _ _ _ hin
      have hρ:(M.ρ (k+aS)).v=v:=by have:=hbr 0 _ _ _ rfl rfl;simpa using this
      refine⟨.cons ⟨c0,_,hρ.symm,c1,fun g=>Iff.rfl⟩ i1,fun g' hg=>?_,fun g' hg hS=>?_,fun g' hg q' hq' hqg=>?_,i3⟩
      ·rcases th hg with hg|hg
       ·exact .inr ⟨k,_,Nat.le_refl _,hin,hg⟩
       ·exact lift (os':=os') (i2 g' hg)
      ·exact mem.sr _ _ _ hin hg hS
      ·rcases i2 _ ⟨q',hq',hqg⟩ with ⟨j,q2,k1,k2,k3⟩|⟨j,r,k1,k2,k3⟩
       ·subst k3;exact mem.br _ _ _ _ k2 hin hg
       ·exact mem.rr _ _ _ _ _ hin k2 (by omega) hg k3
     ·simp only[Option.map_eq_some_iff] at h
      obtain⟨os',h1,h2⟩:=h
      exact rest h1 h2.symm
   | gone =>
     simp only[cv,Option.map_eq_some_iff] at h
     obtain⟨os',h1,h2⟩:=h
     exact rest h1 h2.symm
   | ag _ =>
     simp only[cv,Option.map_eq_some_iff] at h
     obtain⟨os',h1,h2⟩:=h
     exact rest h1 h2.symm
end
end Go.Proofs.Pw
namespace Go.Proofs.Pw
open Go.RowKit
variable [Globs]
section
variable {P:Program} {Γ:FuncId->Option Spec} {σ σ':St} {a:Act} {w w':World} {M M':Gh} {n:Nat} {B:Nat} {w0:W0} {X₀:Nat->Prop}
theorem Apart.append {S:Nat->Prop} {ps qs:List (Nat->Prop)} (h:Apart S ps) (k:Apart S qs) (hn:∀ g,Any ps g->¬ Any qs g):Apart S (ps++qs):=by
 induction ps with
 | nil=>exact k
 | cons p ps ih =>
   refine⟨h.1,fun g hg q hq hqg=>?_,ih h.2.2 (fun g ⟨q,hq,hg⟩=>hn g ⟨q,by simp[hq],hg⟩)⟩
   rcases List.mem_append.1 hq with hq|hq
   ·exact h.2.1 g hg q hq hqg
   ·exact hn g ⟨p,by simp,hg⟩ ⟨q,hq,hqg⟩
def zZ (sp:Spec) (args:List AV) (w:World) (S:Nat->Prop) (vs:List Value) (fps:List (Nat->Prop)) (e:Ending) (w':World):Prop :=
 ∃ v S' rfs fps',e=.returned v/\RepR w' S' (sp.res args) v rfs/\All3 (RepA w' S') (sp.out args) vs fps' /\
  (∀ g,S' g->S g\/w.heap.size<=g\/Any fps g)/\(∀ g,S' g->g < w'.heap.size) /\
  Apart S' (rfs++fps')/\(∀ g,Any (rfs++fps') g->(w.heap.size<=g\/Any fps g)/\g < w'.heap.size)/\Fr (Any fps) w.heap.size w w'
theorem nT {sp:Spec} {args:List AV} {S:Nat->Prop} {vs:List Value} {fps:List (Nat->Prop)} (hF:∀ g,Any fps g->g < w.heap.size) (ha:Apart S fps) (hA:All3 (RepA w S) args vs fps)
 {rs0:Nat->RV} (hrs:pM w S args vs fps rs0) (hs:Sim (Any fps) n w.heap.size ⟨w,S,(Gh.init n vs rs0 S).β,(Gh.init n vs rs0 S).ρ⟩ σ a w' M) (ho:cv σ n args=some (sp.out args)) {v:Value} {rfs:List (Nat->Prop)} (hr:RepR w' M.S (sp.res args) v rfs) (hap:Apart M.S rfs)
 (hrf:∀ g,Any rfs g->(w.heap.size<=g\/Any fps g)/\g < w'.heap.size) (hro:∀ g,Any rfs g->∀ i q,(i,q) ∈ σ.bx->g≠M.β i)
 (hrr:∀ g,Any rfs g->∀ i r,(i,r) ∈ σ.rw->¬ ae (M.ρ i) g):zZ sp args w S vs fps (.returned v) w':=by
 have hβ1:∀ (j:Nat) u,vs[j]?=some u->M.β (n+j)=nS u:=fun j u hu=>by
  rw[hs.sβ (n+j) (by omega)]
  simp only[Gh.init]
  rw[Nat.add_sub_cancel_left];simp[hu]
 have hβ2:∀ (j:Nat) sz es u,args[j]?=some (.own sz es)->vs[j]?=some u->(M.ρ (n+j+aS)).v=u:=fun j sz es u hj hu=>by
  rw[hs.sρ (n+j+aS) (by omega) (by omega)]
  obtain⟨v',fp,h1,h2,_⟩:=hA.at hj
  obtain⟨h3,_⟩:=hrs j sz es u fp hj hu h2
  simp only[Gh.init]
  rw[Nat.add_sub_cancel,Nat.add_sub_cancel_left];exact h3.symm
 obtain⟨h1,h2,h3⟩:=Kz hs.mem ho hA hβ1 hβ2
 have hin:∀ g,Any (eJ M n (sp.out args)) g->(w.heap.size<=g\/Any fps g)/\g < w'.heap.size:=fun g hg=>by
  rcases h2 g hg with ⟨i,q,_,hq,rfl⟩|⟨i,⟨sz,es⟩,_,hr,hg⟩
  ·obtain⟨k1,t,cells,k2,_⟩:=hs.mem.box _ _ hq
   exact⟨k1,(Array.getElem?_eq_some_iff.1 k2).1⟩
  ·obtain⟨_,k1,k2⟩:=hs.mem.row _ _ _ hr
   exact⟨k2 g hg,k1.lt hg⟩
 refine⟨v,M.S,rfs,eJ M n (sp.out args),rfl,hr,h1,fun g hg=>hs.sS g hg,hs.mem.lt,hap.append h3 (fun g hg hg'=>?_),fun g hg=>?_,hs.fr⟩
 ·rcases h2 g hg' with ⟨i,q,_,hq,rfl⟩|⟨i,r,_,hr,hg2⟩
  ·exact hro _ hg i q hq rfl
  ·exact hrr _ hg _ r hr hg2
 ·obtain⟨p,hp,hg⟩:=hg
  rcases List.mem_append.1 hp with hp|hp
  ·exact hrf g ⟨p,hp,hg⟩
  ·exact hin g ⟨p,hp,hg⟩
theorem pN {fn:Func} {vs:List Value} (h:(fn.results.toList.mapM (lB a.tmps)).run P w=.ok vs w):(results fn a.tmps).run P w=.ok (if h:vs.toArray.size=1 then vs.toArray[0] else .tuple vs.toArray) w:=by
 rw[Kx,Array.mapM_eq_mapM_toList]
 simp only[map_eq_pure_bind,bind_assoc,pure_bind,Sem.run_bind,h,Result.andThen_ok]
 rfl
theorem Aa {rs:List ResultVar} {t:Nat} (h:am P rs [.tmp t]=true):rs=[.tmp t]:=by
 cases rs with
 | nil=>simp[am] at h
 | cons r rs =>
   cases r with
   | tmp t' =>
     cases rs with
     | nil=>simp[am] at h;subst h;rfl
     | cons r' rs=>cases r' <;> simp[am] at h
   | cell _ _=>simp[am] at h
theorem Ab {S:Nat->Prop} {ds:List AV} {vs:List Value} {fps:List (Nat->Prop)} (h:All3 (RepA w S) ds vs fps) (hf:fps.length=ds.length):RepR w S ds (if h:vs.toArray.size=1 then vs.toArray[0] else .tuple vs.toArray) fps:=by
 have hl:=h.len
 cases h with
 | nil=>exact⟨by simp,[],by simp,.nil⟩
 | @cons d v fp ds' vs' fps' h1 h2 =>
   cases h2 with
   | nil=>exact h1
   | cons h3 h4 =>
     refine⟨by simp,_,?_,.cons h1 (.cons h3 h4)⟩
     rw[dif_neg (by simp)]
def fm (σ:St):List RX->List AV->List (List Nat)
 | r::rs,x::as=>nQ σ r x::fm σ rs as
 | _,_=>[]
theorem Ac {rs:List RX}:∀ {as:List AV},(fm σ rs as).flatten=fj σ rs as:=by
 induction rs with
 | nil=>intro as;rfl
 | cons r rs ih=>intro as;cases as with
   | nil=>rfl
   | cons x as=>simp only[fm,fj,List.flatten_cons,ih]
theorem KA {rs:List RX}:∀ {as:List AV},gOk σ rs as->(fm σ rs as).length=as.length:=by
 induction rs with
 | nil=>intro as h;cases as with
   | nil=>rfl
   | cons _ _=>exact h.elim
 | cons r rs ih=>intro as h;cases as with
   | nil=>exact h.elim
   | cons x as=>simp only[fm,List.length_cons,ih h.2]
theorem KB (mem:Mem X₀ B σ.bx σ.rw w M):∀ {ps:List Pt} {qs:List Q} {us:List Value},jV σ ps qs->us.length=qs.length->(∀ (i:Nat) q,qs[i]?=some q->∃ u,us[i]?=some u/\u.oneCell'=true/\af w M q u)->bt (agI ps qs)=true ->
 ∃ fs,All3 (RepP w M.S) ps us fs/\eW fs/\(∀ g,Any fs g ↔ ∃ i ∈ agI ps qs,ae (M.ρ i) g)/\∀ i ∈ agI ps qs,∃ r,(i,r) ∈ σ.rw:=by
 intro ps
 induction ps with
 | nil =>
   intro qs us h hl hq _
   cases qs with
   | nil =>
     have:=List.eq_nil_of_length_eq_zero (l:=us) (by simpa using hl)
     subst this
     exact⟨[],.nil,trivial,fun g=>by simp[Any,agI],by simp[agI]⟩
   | cons _ _=>exact h.elim
 | cons p ps ih =>
   intro qs us h hl hq hnd
   cases qs with
   | nil=>cases p <;> exact h.elim
   | cons q qs =>
     cases us with
     | nil=>simp at hl
     | cons u us =>
       have hl':us.length=qs.length:=by simpa using hl
       have hq':∀ (i:Nat) q,qs[i]?=some q->∃ u,us[i]?=some u/\u.oneCell'=true/\af w M q u:=fun i q' h'=>by simpa using hq (i+1) q' (by simpa using h')
       obtain⟨u',hu',_,hr⟩:=hq 0 q (by simp)
       simp only[List.getElem?_cons_zero,Option.some.injEq] at hu'
       subst hu'
       have rest:∀ {F:Nat->Prop},(∀ g,¬ F g)->RepP w M.S p u F->agI (p::ps) (q::qs)=agI ps qs->jV σ ps qs->∃ fs,All3 (RepP w M.S) (p::ps) (u::us) fs/\eW fs/\(∀ g,Any fs g ↔ ∃ i ∈ agI (p::ps) (q::qs),ae (M.ρ i) g)/\∀ i ∈ agI (p::ps) (q::qs),∃ r,(i,r) ∈ σ.rw:=fun {F} hF hp he hk=>by
        rw[he] at hnd ⊢
        obtain⟨fs,i1,i2,i3,i4⟩:=ih hk hl' hq' hnd
        refine⟨F::fs,.cons hp i1,⟨fun g hg=>(hF g hg).elim,i2⟩,fun g=>?_,i4⟩
        rw[<-i3]
        exact⟨fun ⟨z,hz,hg⟩=>by
         rcases List.mem_cons.1 hz with rfl|hz
         ·exact (hF g hg).elim
         ·exact⟨z,hz,hg⟩,fun ⟨z,hz,hg⟩=>⟨z,by simp[hz],hg⟩⟩
       cases p with
       | c x =>
         exact rest (F:=fun _=>False) (fun _ h=>h) ⟨cQ hr h.1,fun _ h=>h⟩ (by cases q <;> rfl) h.2
       | o sz es =>
         cases q with
         | z sz' =>
           obtain⟨⟨rfl,h0,rfl⟩,h2⟩:=h
           obtain⟨A,hA⟩:=hr
           have hpb:∀ g,¬ ae (RV.of u) g:=fun g=>by rw[gG,hA];cases A <;> simp[ax]
           exact rest (F:=fun _=>False) (fun _ h=>h) ⟨h0,RV.of u,rfl,⟨.inr ⟨rfl,A,hA⟩,fun _ h=>h.elim⟩,fun g=>⟨fun h=>h.elim,fun h=>(hpb g h).elim⟩⟩ rfl h2
         | own i =>
           obtain⟨h1,h2⟩:=h
           have hin:=get?_mem h1
           obtain⟨k0,k1,k2⟩:=mem.row _ _ _ hin
           simp only[agI,bt,Bool.and_eq_true,Bool.not_eq_true',List.contains_eq_mem,decide_eq_false_iff_not] at hnd
           obtain⟨fs,i1,i2,i3,i4⟩:=ih h2 hl' hq' hnd.2
           refine⟨ae (M.ρ i)::fs,.cons ⟨k0,_,hr.1,k1,fun g=>Iff.rfl⟩ i1,⟨fun g hg z hz hzg=>?_,i2⟩,fun g=>?_,fun j hj=>?_⟩
           ·obtain⟨j,hj,hjg⟩:=(i3 g).1 ⟨z,hz,hzg⟩
            obtain⟨r,hr'⟩:=i4 j hj
            exact mem.rr _ _ _ _ g hin hr' (fun e=>hnd.1 (e ▸ hj)) hg hjg
           ·simp only[agI,List.mem_cons,exists_eq_or_imp,<-i3]
            exact⟨fun ⟨z,hz,hg⟩=>by
             rcases List.mem_cons.1 hz with rfl|hz
             ·exact .inl hg
             ·exact .inr ⟨z,hz,hg⟩,fun h=>by
             rcases h with h|⟨z,hz,hg⟩
             ·exact⟨_,by simp,h⟩
             ·exact⟨z,by simp[hz],hg⟩⟩
           ·simp only[agI,List.mem_cons] at hj
            rcases hj with rfl|hj
            ·exact⟨_,hin⟩
            ·exact i4 j hj
         | _=>exact h.elim
theorem Ad {a b:List Nat} (h:bt (a++b)=true):bt a=true/\bt b=true/\∀ i ∈ a,i ∉ b:=by
 induction a with
 | nil=>exact⟨rfl,h,by simp⟩
 | cons x a ih =>
   simp only[List.cons_append,bt,Bool.and_eq_true,Bool.not_eq_true',List.contains_eq_mem,decide_eq_false_iff_not,List.mem_append,not_or] at h ⊢
   obtain⟨h1,h2,h3⟩:=ih h.2
   refine⟨⟨h.1.1,h1⟩,h2,fun i hi=>?_⟩
   rcases List.mem_cons.1 hi with rfl|hi
   ·exact h.1.2
   ·exact h3 i hi
theorem KC (hs:Sim X₀ n B w0 σ a w M):∀ {rs:List ResultVar} {xs:List RX} {as:List AV},am P rs xs=true->gOk σ xs as->bt (fj σ xs as)=true ->
 ∃ vs,(rs.mapM (lB a.tmps)).run P w=.ok vs w/\All3 (RepA w M.S) as vs ((fm σ xs as).map fun l g=>∃ i ∈ l,ae (M.ρ i) g)/\∀ l ∈ fm σ xs as,∀ i ∈ l,∃ r,(i,r) ∈ σ.rw:=by
 intro rs
 induction rs with
 | nil =>
   intro xs as hk h _
   cases xs with
   | nil=>cases as with
     | nil=>exact⟨[],rfl,.nil,by simp[fm]⟩
     | cons _ _=>exact h.elim
   | cons _ _=>simp[am] at hk
 | cons r rs ih =>
   intro xs as hk h hnd
   cases xs with
   | nil=>cases r <;> simp[am] at hk
   | cons x xs =>
     cases as with
     | nil=>exact h.elim
     | cons y as =>
       obtain⟨h1,h2⟩:=h
       simp only[fj] at hnd
       obtain⟨n1,n2,_⟩:=Ad hnd
       split at h1
       ·rename_i vc p e1
        have hid:nQ σ x y=fS y p:=by unfold nQ;rw[e1]
        rw[hid] at n1
        obtain⟨hk',v,r1,r2⟩:=zY hs hk e1 h1.1
        obtain⟨vs,i1,i2,i3⟩:=ih hk' h2 n2
        have hone:RepA w M.S y v (fun g=>∃ i ∈ fS y p,ae (M.ρ i) g)/\∀ i ∈ fS y p,∃ r,(i,r) ∈ σ.rw:=by
         have h3:=h1.2
         cases y with
         | d x =>
           have:fS (.d x) p=[]:=by cases p <;> rfl
           rw[this]
           exact⟨⟨lh r2 h3,fun g ⟨i,hi,_⟩=>by simp at hi⟩,by simp⟩
         | ref _=>exact h3.elim
         | gone=>exact h3.elim
         | own sz es =>
           simp only[pJ] at h3
           split at h3
           ·rename_i i
            have hin:=get?_mem h3
            obtain⟨k0,k1,k2⟩:=hs.mem.row _ _ _ hin
            have r3:v=(M.ρ i).v/\v.oneCell'=true:=r2
            refine⟨⟨k0,_,r3.1,k1,fun g=>by simp[fS]⟩,?_⟩
            simp only[fS,List.mem_singleton]
            rintro i' rfl
            exact⟨_,hin⟩
           ·obtain⟨rfl,h0,rfl⟩:=h3
            obtain⟨A,hA⟩:∃ A,v=.slice A 0 0:=r2
            have hpb:∀ g,¬ ae (RV.of v) g:=fun g=>by rw[gG,hA];cases A <;> simp[ax]
            exact⟨⟨h0,RV.of v,rfl,⟨.inr ⟨rfl,A,hA⟩,fun _ h=>h.elim⟩,fun g=>by simp only[hpb];simp[fS]⟩,by simp[fS]⟩
           ·exact h3.elim
         | ag ps =>
           simp only[pJ] at h3
           split at h3
           ·rename_i qs
            obtain⟨us,rfl,u2,u3⟩:gF w M qs v:=r2
            obtain⟨fs,f1,f2,f3,f4⟩:=KB hs.mem (us:=us.toList) h3 (by simpa using u2) (fun i q hi=>by simpa using u3 i q hi) n1
            exact⟨⟨us.toList,fs,by simp,f1,f2,fun g=>(f3 g).symm⟩,f4⟩
           ·exact h3.elim
        refine⟨v::vs,by simp only[List.mapM_cons,Sem.run_bind,r1,i1,Result.andThen_ok];rfl,?_,?_⟩
        ·simp only[fm,hid,List.map_cons]
         exact .cons hone.1 i2
        ·simp only[fm,hid,List.mem_cons]
         rintro l (rfl|hl) i hi
         ·exact hone.2 i hi
         ·exact i3 l hl i hi
       ·exact h1.elim
theorem KD (mem:Mem X₀ B σ.bx σ.rw w M) {L:List (List Nat)} (hr:∀ l ∈ L,∀ i ∈ l,∃ r,(i,r) ∈ σ.rw) (hnd:bt L.flatten=true):Apart M.S (L.map fun l g=>∃ i ∈ l,ae (M.ρ i) g):=by
 induction L with
 | nil=>trivial
 | cons l L ih =>
   rw[List.flatten_cons] at hnd
   obtain⟨_,n2,n3⟩:=Ad hnd
   refine⟨fun g ⟨i,hi,hg⟩=>?_,fun g ⟨i,hi,hg⟩ q hq hqg=>?_,ih (fun l hl=>hr l (by simp[hl])) n2⟩
   ·obtain⟨r,h⟩:=hr l (by simp) i hi
    exact mem.sr _ _ g h hg
   ·simp only[List.mem_map] at hq
    obtain⟨l',hl',rfl⟩:=hq
    obtain⟨i',hi',hg'⟩:=hqg
    obtain⟨r,h⟩:=hr l (by simp) i hi
    obtain⟨r',h'⟩:=hr l' (by simp[hl']) i' hi'
    exact mem.rr _ _ _ _ g h h' (fun e=>n3 i hi (by rw[List.mem_flatten];exact⟨l',hl',e ▸ hi'⟩)) hg hg'
theorem Ae {l:List Nat}:∀ {r:List (Nat × Nat × List (List C))} {p:Nat × Nat × List (List C)},p ∈ pK l r->p.1 ∉ l/\p ∈ r:=by
 induction l with
 | nil=>intro r p h;exact⟨by simp,h⟩
 | cons i l ih =>
   intro r p h
   obtain⟨h1,h2⟩:=ih (r:=del i r) h
   obtain⟨h3,h4⟩:=bh (x:=p.2) h2
   exact⟨by simp only[List.mem_cons,not_or];exact⟨h3,h1⟩,h4⟩
theorem KE {sp:Spec} {args:List AV} {rs:List RX} {fn:Func} {S:Nat->Prop} {vs:List Value} {fps:List (Nat->Prop)} (hF:∀ g,Any fps g->g < w.heap.size) (ha:Apart S fps) (hA:All3 (RepA w S) args vs fps)
 {rs0:Nat->RV} (hir:pM w S args vs fps rs0) (hs:Sim (Any fps) n w.heap.size ⟨w,S,(Gh.init n vs rs0 S).β,(Gh.init n vs rs0 S).ρ⟩ σ a w' M) (hk:am P fn.results.toList rs=true) (hf:fk n sp args rs σ) :
 a.defers=[]/\∃ v,(results fn a.tmps).run P w'=.ok v w'/\zZ sp args w S vs fps (.returned v) w':=by
 refine⟨hs.defs,?_⟩
 unfold fk at hf
 split at hf
 ·rename_i sz es hres
  split at hf
  ·rename_i t
   have hrs:=Aa hk
   have hrun:∀ M',Sim (Any fps) n w.heap.size ⟨w,S,(Gh.init n vs rs0 S).β,(Gh.init n vs rs0 S).ρ⟩ σ a w' M'->(results fn a.tmps).run P w'=.ok (a.tmps.getD t undef) w':=fun M' _=>by
    have:=pN (P:=P) (w:=w') (a:=a) (fn:=fn) (vs:=[a.tmps.getD t undef]) (by rw[hrs];rfl)
    simpa using this
   split at hf
   ·rename_i g i e1
    obtain⟨hg,hrow,hout⟩:=hf
    have hp:∀ M' σ',Sim (Any fps) n w.heap.size ⟨w,S,(Gh.init n vs rs0 S).β,(Gh.init n vs rs0 S).ρ⟩ σ' a w' M'->σ'.v (.t t)=(g,.q (.own i))->a.tmps.getD t undef=(M'.ρ i).v:=fun M' σ' h e=>by
     have:=jC (gJ h.tm t) (by rw[show (get (PV.q .no) t σ'.tm).un=σ'.v (.t t) from rfl,e];exact hg)
     rw[show (get (PV.q .no) t σ'.tm).un=σ'.v (.t t) from rfl,e] at this
     exact this.1
    have keep:∀ (l:List Nat) (σ:St) (M:Gh),(∀ j ∈ l,j≠i)->Sim (Any fps) n w.heap.size ⟨w,S,(Gh.init n vs rs0 S).β,(Gh.init n vs rs0 S).ρ⟩ σ a w' M->get? i σ.rw=some (sz,es)->a.tmps.getD t undef=(M.ρ i).v ->
     ∃ M',Sim (Any fps) n w.heap.size ⟨w,S,(Gh.init n vs rs0 S).β,(Gh.init n vs rs0 S).ρ⟩ (l.foldl (fun σ i=>σ.pub i) σ) a w' M'/\get? i (l.foldl (fun σ i=>σ.pub i) σ).rw=some (sz,es)/\a.tmps.getD t undef=(M'.ρ i).v:=by
     intro l
     induction l with
     | nil=>intro σ M _ h1 h2 h3;exact⟨M,h1,h2,h3⟩
     | cons j l ih =>
       intro σ M hl h1 h2 h3
       obtain⟨M1,k1,k2,_⟩:=h1.pub' j
       refine ih _ M1 (fun j' hj'=>hl j' (by simp[hj'])) k1 ?_ (by rw[k2];exact h3)
       show get? i (σ.pub j).rw=some (sz,es)
       unfold St.pub
       split
       ·split
        ·rw[show get? i (del j σ.rw)=get? i σ.rw from get?_del (hl j (by simp))];exact h2
        ·exact h2
       ·exact h2
    obtain⟨M1,h1,h2,h3⟩:=keep ((cY σ n args).filter (fun j=>j != i)) σ M (fun j hj=>by simpa using (List.mem_filter.1 hj).2) hs hrow (hp M σ hs e1)
    have hin:=get?_mem h2
    obtain⟨k0,k1,k2⟩:=h1.mem.row _ _ _ hin
    have h1d:Sim (Any fps) n w.heap.size ⟨w,S,(Gh.init n vs rs0 S).β,(Gh.init n vs rs0 S).ρ⟩ (St.delO i (((cY σ n args).filter (fun j=>j != i)).foldl (fun σ i=>σ.pub i) σ)) a w' M1:=h1.sub (fun _ h=>h) (fun _ h=>h) (fun p hp=>(bh (x:=p.2) hp).2)
    refine⟨_,hrun M hs,nT (rfs:=[ae (M1.ρ i)]) hF ha hA hir h1d hout ?_ ?_ ?_ ?_ ?_⟩
    ·rw[hres];exact⟨k0,_,h3,k1,fun g=>Iff.rfl⟩
    ·exact⟨fun g hg=>h1.mem.sr _ _ g hin hg,fun _ _ q hq=>by simp at hq,trivial⟩
    ·rintro g ⟨p,hp,hg⟩
     rw[List.mem_singleton] at hp;subst hp
     exact⟨k2 g hg,k1.lt hg⟩
    ·rintro g ⟨p,hp,hg⟩ j q hq rfl
     rw[List.mem_singleton] at hp;subst hp
     exact h1.mem.br _ _ _ _ hq hin hg
    ·rintro g ⟨p,hp,hg⟩ j r hj hg'
     rw[List.mem_singleton] at hp;subst hp
     exact h1.mem.rr _ _ _ _ g (bh hj).2 hin (bh hj).1 hg' hg
   ·rename_i g sz' e1
    obtain⟨hg,rfl,h0,rfl,hout⟩:=hf
    have hz:=jC (gJ hs.tm t) (by rw[show (get (PV.q .no) t σ.tm).un=σ.v (.t t) from rfl,e1];exact hg)
    rw[show (get (PV.q .no) t σ.tm).un=σ.v (.t t) from rfl,e1] at hz
    obtain⟨A,hz⟩:=hz
    obtain⟨M1,h1⟩:=hs.pubL (cY σ n args)
    have hpb:∀ g,¬ ae (RV.of (a.tmps.getD t undef)) g:=fun g=>by rw[gG,hz];cases A <;> simp[ax]
    refine⟨_,hrun M hs,nT (rfs:=[ae (RV.of (a.tmps.getD t undef))]) hF ha hA hir h1 hout ?_ ?_ ?_ ?_ ?_⟩
    ·rw[hres];exact⟨h0,RV.of (a.tmps.getD t undef),rfl,⟨.inr ⟨rfl,A,hz⟩,fun _ h=>h.elim⟩,fun g=>Iff.rfl⟩
    ·exact⟨fun g hg=>absurd hg (hpb g),fun g hg=>absurd hg (hpb g),trivial⟩
    ·rintro g ⟨p,hp,hg⟩
     rw[List.mem_singleton] at hp;subst hp
     exact absurd hg (hpb g)
    ·rintro g ⟨p,hp,hg⟩
     rw[List.mem_singleton] at hp;subst hp
     exact absurd hg (hpb g)
    ·rintro g ⟨p,hp,hg⟩
     rw[List.mem_singleton] at hp;subst hp
     exact absurd hg (hpb g)
   ·exact hf.elim
  ·exact hf.elim
 ·rename_i cs hres
  split at hf
  ·rename_i t
   have hrs:=Aa hk
   have hrun:(results fn a.tmps).run P w'=.ok (a.tmps.getD t undef) w':=by
    have:=pN (P:=P) (w:=w') (a:=a) (fn:=fn) (vs:=[a.tmps.getD t undef]) (by rw[hrs];rfl)
    simpa using this
   split at hf
   ·rename_i g i e1
    obtain⟨hg,hrow,hout⟩:=hf
    have hp:a.tmps.getD t undef=.pointer (some ⟨M.β i,0,none⟩):=by
     have:=jC (gJ hs.tm t) (by rw[show (get (PV.q .no) t σ.tm).un=σ.v (.t t) from rfl,e1];exact hg)
     rw[show (get (PV.q .no) t σ.tm).un=σ.v (.t t) from rfl,e1] at this
     exact this
    rw[Option.bind_eq_some_iff] at hrow
    obtain⟨qs,hq,hcs⟩:=hrow
    have hin:=get?_mem hq
    obtain⟨hB,ty,cells,h1,h2,h3⟩:=hs.mem.box i qs hin
    obtain⟨h4,h5⟩:=jF ⟨h2,h3⟩ hcs
    have hlt:M.β i < w'.heap.size:=(Array.getElem?_eq_some_iff.1 h1).1
    have hs1:Sim (Any fps) n w.heap.size ⟨w,S,(Gh.init n vs rs0 S).β,(Gh.init n vs rs0 S).ρ⟩ { σ with bx:=del i σ.bx } a w' M :=
     ⟨hs.size,hs.defs,hs.tm,⟨fun j q h=>hs.mem.box j q (bh h).2,hs.mem.row,fun j q k q' h h'=>hs.mem.bb j q k q' (bh h).2 (bh h').2,fun j q k r h=>hs.mem.br j q k r (bh h).2,hs.mem.rr,hs.mem.lt,fun j q h=>hs.mem.sb j q (bh h).2,hs.mem.sr,hs.mem.gl⟩,hs.fr,hs.hB,hs.sS,hs.sβ,hs.sρ⟩
    obtain⟨M1,k1,k2,k3,k4,k5⟩:=hs1.pubL2 (cY { σ with bx:=del i σ.bx } n args)
    have hnS:¬ M1.S (M.β i):=fun h=>by
     rcases k3 _ h with h|⟨j,r,hj,hg⟩
     ·exact hs.mem.sb i qs hin h
     ·exact hs.mem.br _ _ _ _ hin hj hg
    refine⟨_,hrun,nT (rfs:=[fun g=>g=M.β i]) hF ha hA hir k1 hout ?_ ?_ ?_ ?_ ?_⟩
    ·rw[hres]
     exact⟨M.β i,hp,⟨ty,cells,h1,h4,fun j c hc=>by obtain⟨u,g1,g2⟩:=h5 j c hc;exact⟨u,g1,g2.mono k2 (fun _ _=>rfl)⟩⟩,fun g=>Iff.rfl⟩
    ·exact⟨fun g hg=>by rw[hg];exact hnS,fun _ _ q hq=>by simp at hq,trivial⟩
    ·rintro g ⟨p,hp,hg⟩
     rw[List.mem_singleton] at hp;subst hp
     rw[hg]
     exact⟨hB,hlt⟩
    ·rintro g ⟨p,hp,hg⟩ j q hj e
     rw[List.mem_singleton] at hp;subst hp
     rw[hg] at e
     rw[k4] at e
     obtain⟨q',hj'⟩:=IX hj
     obtain⟨hne,hj'⟩:=bh hj'
     exact hs.mem.bb _ _ _ _ hin hj' (fun e=>hne e.symm) e
    ·rintro g ⟨p,hp,hg⟩ j r hj hg'
     rw[List.mem_singleton] at hp;subst hp
     rw[k5,hg] at hg'
     exact hs.mem.br _ _ _ _ hin (IW (σ:={ σ with bx:=del i σ.bx }) hj) hg'
   ·exact hf.elim
  ·exact hf.elim
 ·split at hf
  rotate_left
  ·obtain⟨M1,h1⟩:=hs.pubL (pL (fj σ rs (sp.res args)) (iJ σ rs++cY σ n args))
   obtain⟨f1,f2,f3⟩:=hf
   obtain⟨us,k1,k2,k3⟩:=KC h1 hk f2 f1
   refine⟨_,pN k1,nT (rfs:=(fm _ rs (sp.res args)).map fun l g=>∃ i ∈ l,ae (M1.ρ i) g) hF ha hA hir (h1.sub (σ':={ (((pL (fj σ rs (sp.res args)) (iJ σ rs++cY σ n args)).foldl (fun σ i=>σ.pub i) σ)) with rw:=pK _ _ }) (fun _ h=>h) (fun _ h=>h) (fun p hp=>(Ae hp).2)) f3 ?_ (KD h1.mem k3 (by rw[Ac];exact f1)) (fun g hg=>?_) (fun g hg i q hi e=>?_) (fun g hg i r hi hgi=>?_)⟩
   ·exact Ab k2 (by rw[List.length_map];exact KA f2)
   ·obtain⟨p,hp,hg⟩:=hg
    simp only[List.mem_map] at hp
    obtain⟨l,hl,rfl⟩:=hp
    obtain⟨i,hi,hg⟩:=hg
    obtain⟨⟨sz,es⟩,hr⟩:=k3 l hl i hi
    obtain⟨_,g1,g2⟩:=h1.mem.row _ _ _ hr
    exact⟨g2 g hg,g1.lt hg⟩
   ·obtain⟨p,hp,hg⟩:=hg
    simp only[List.mem_map] at hp
    obtain⟨l,hl,rfl⟩:=hp
    obtain⟨i',hi',hg⟩:=hg
    obtain⟨⟨sz,es⟩,hr⟩:=k3 l hl i' hi'
    subst e
    exact h1.mem.br _ _ _ _ hi hr hg
   ·obtain⟨p,hp,hg⟩:=hg
    simp only[List.mem_map] at hp
    obtain⟨l,hl,rfl⟩:=hp
    obtain⟨i',hi',hg⟩:=hg
    obtain⟨⟨sz,es⟩,hr⟩:=k3 l hl i' hi'
    obtain⟨d1,d2⟩:=Ae hi
    exact h1.mem.rr _ _ _ _ g hr d2 (fun e=>d1 (by rw[<-Ac,List.mem_flatten];exact⟨l,hl,e ▸ hi'⟩)) hg hgi
  rename_i hallD
  split at hf
  ·rename_i vc ds' e1
   obtain⟨hvc,hds,hout⟩:=hf
   obtain⟨M1,h1⟩:=hs.pubL (iJ σ rs++cY σ n args)
   obtain⟨us,k1,k2⟩:=Ky h1 hk e1 hvc
   refine⟨_,pN k1,nT (rfs:=ds'.map fun _=>fun _=>False) hF ha hA hir h1 hout ?_ li (fun g hg=>absurd hg cR) (fun g hg=>absurd hg cR) (fun g hg=>absurd hg cR)⟩
   rw[hds]
   exact Ab k2 (by simp)
  ·exact hf.elim
def Spec.at (r o:List AV):Spec:={ md:=[],pre:=fun _=>True,res:=fun _=>r,out:=fun _=>o }
theorem Af (G:GOK P Γ) {f:FuncId} {fn:Func} {c:Code} {x:X} {rs:List RX} {sp:Spec} (hf:P.funcs[f]?=some fn) (hb:fn.body=some c) (hc:al P fn.ntmps c x=true) (hk:am P fn.results.toList rs=true)
 (hl:∀ args,sp.pre args->args.length<=fn.ntmps) (h:∀ args,sp.pre args->pw Γ x (fun e σ=>match e with|.exit _=>False|_=>∃ r o,sp.may args r o/\fk fn.ntmps (Spec.at r o) args rs σ) (bp 0 fn.ntmps args)):Sound P f sp:=by
 intro args hpre w S vs fps hG hS hF ha hA
 obtain⟨rs0,hrs⟩:=Kv hA
 refine calls_of_wp hf hb (wp_mono (Kt G x hc (h args hpre) (Kw hG hS ha hA (hl args hpre) hrs)) ?_)
 have key:∀ {σ M a' w'},(∃ r o,sp.may args r o/\fk fn.ntmps (Spec.at r o) args rs σ)->Sim (Any fps) fn.ntmps w.heap.size ⟨w,S,(Gh.init fn.ntmps vs rs0 S).β,(Gh.init fn.ntmps vs rs0 S).ρ⟩ σ a' w' M ->
  a'.defers=[]/\∃ v,(results fn a'.tmps).run P w'=.ok v w'/\∃ r o,sp.may args r o/\∃ v' S' rfs fps',Ending.returned v=.returned v'/\RepR w' S' r v' rfs/\All3 (RepA w' S') o vs fps' /\
   (∀ g,S' g->S g\/w.heap.size<=g\/Any fps g)/\(∀ g,S' g->g < w'.heap.size) /\
   Apart S' (rfs++fps')/\(∀ g,Any (rfs++fps') g->(w.heap.size<=g\/Any fps g)/\g < w'.heap.size)/\Fr (Any fps) w.heap.size w w':=by
  rintro σ M a' w' ⟨r,o,hro,hfin⟩ hs
  obtain⟨h1,v,h2,h3⟩:=KE hF ha hA hrs hs hk hfin
  exact⟨h1,v,h2,r,o,hro,h3⟩
 intro e a' w' hq
 cases e with
 | normal=>obtain⟨σ,M,hfin,hs⟩:=hq;exact key hfin hs
 | ret=>obtain⟨σ,M,hfin,hs⟩:=hq;exact key hfin hs
 | exit i=>obtain⟨σ,M,hfin,_⟩:=hq;exact hfin.elim
 | goto l=>exact hq.elim
 | panic ch=>exact hq.elim
 | outgrown=>exact hq.elim
end
end Go.Proofs.Pw
namespace Go.Proofs.Pw
open Go.RowKit
variable [Globs]
section
variable {P:Program} {Γ:FuncId->Option Spec} {σ σ':St} {a:Act} {w w':World} {M M':Gh} {n:Nat} {B:Nat} {w0:W0} {X₀:Nat->Prop}
end
end Go.Proofs.Pw
namespace Go.Proofs.Pw
open Go.RowKit
variable [Globs]
theorem Le.refl (σ:St):Le σ σ:=fun _ _ _ _ _ _ M h=>⟨M,h⟩
theorem Le.trans {a b c:St} (h:Le a b) (k:Le b c):Le a c:=fun X n B w0 ac w M hs=>by
 obtain⟨M1,h1⟩:=h X n B w0 ac w M hs
 exact k X n B w0 ac w M1 h1
theorem Le.pub (i:Nat) (σ:St):Le σ (σ.pub i):=fun _ _ _ _ _ _ _ h=>h.pub i
theorem Le.of_eq {a b:St} (h:a=b):Le a b:=h ▸ Le.refl a
theorem Le.own {tm:List (Nat × PV)} {bx:List (Nat × List Q)} {rw_:List (Nat × Nat × List (List C))} {tm':List (Nat × PV)} {t d sz:Nat} (h0:0 < sz) (ht:(t,PV.q (.z sz)) ∈ tm)
 (hb:∀ p ∈ bx,∀ q ∈ p.2,q.killO d=q) (ht':∀ p ∈ tm',p=(t,PV.q (.own d))\/∃ p' ∈ tm,p=(p'.1,p'.2.map (Q.killO d))) (hdB:d < aS:=by decide) :
 Le ⟨tm,bx,rw_⟩ ⟨tm',bx,upd d (sz,[]) rw_⟩:=fun X n B w0 ac w M hs=>by
 obtain⟨A,hz⟩:∃ A,ac.tmps.getD t undef=.slice A 0 0:=hs.tm _ _ ht
 have hpb:∀ g,¬ ae (RV.of (ac.tmps.getD t undef)) g:=fun g=>by rw[gG,hz];cases A <;> simp[ax]
 have hm:=Mem.getRow (σ:=⟨tm,bx,rw_⟩) (d:=d) (es:=[]) (v':=RV.of (ac.tmps.getD t undef)) hs.mem h0 ⟨.inr ⟨rfl,A,hz⟩,fun _ h=>h.elim⟩ (fun g hg=>absurd hg (hpb g)) (fun g hg=>absurd hg (hpb g)) (fun _ _ _ hg=>absurd hg (hpb _)) (fun _ _ g _ _ hg=>absurd hg (hpb g))
 have hbx:(St.map (Q.killO d) ⟨tm,bx,rw_⟩).bx=bx:=by
  simp only[St.map]
  conv=>rhs;rw[<-List.map_id bx]
  refine List.map_congr_left (fun p hp=>?_)
  obtain⟨i,qs⟩:=p
  simp only[id,Prod.mk.injEq,true_and]
  conv=>rhs;rw[<-List.map_id qs]
  exact List.map_congr_left (fun q hq=>hb _ hp q hq)
 rw[hbx] at hm
 refine⟨M.nr d (RV.of (ac.tmps.getD t undef)),hs.size,hs.defs,fun t' p hp=>?_,hm,hs.fr,hs.hB,hs.sS,hs.sβ,fun i hi hb=>?_⟩
 rotate_left
 ·simp only[Gh.nr];rw[if_neg (by omega)];exact hs.sρ i hi hb
 rcases ht' _ hp with he|⟨⟨t2,p2⟩,hp2,he⟩
 ·simp only[Prod.mk.injEq] at he
  obtain⟨rfl,rfl⟩:=he
  exact⟨by simp[Gh.nr],by rw[hz];rfl⟩
 ·simp only[Prod.mk.injEq] at he
  obtain⟨rfl,rfl⟩:=he
  exact cX (eG (d:=d) (Up.refl hs.mem.lt) hs.mem.lt) (hs.tm _ _ hp2)
def PLe (p q:PV):Prop:=∀ w M v,ak w M p v->ak w M q v
theorem PLe.refl (p:PV):PLe p p:=fun _ _ _ h=>h
theorem PLe.z (sz:Nat):PLe (.q (.z sz)) (.q (.c (.row sz []))):=fun _ _ _ h=>by
 obtain⟨A,rfl⟩:=h;exact .nil sz A 0
theorem PLe.full (sz:Nat) (es:List (List C)):PLe (.q (.full sz es)) (.q (.c (.row sz es))):=fun _ _ _ h=>h.1
theorem PLe.no (p:PV):PLe p (.q .no):=fun _ _ _ _=>trivial
theorem Le.tm {tm tm':List (Nat × PV)} {bx:List (Nat × List Q)} {rw_:List (Nat × Nat × List (List C))} (h:∀ p ∈ tm',∃ q,(p.1,q) ∈ tm/\PLe q p.2):Le ⟨tm,bx,rw_⟩ ⟨tm',bx,rw_⟩:=fun X n B w0 ac w M hs=>by
 refine⟨M,hs.size,hs.defs,fun t p hp=>?_,hs.mem,hs.fr,hs.hB,hs.sS,hs.sβ,hs.sρ⟩
 obtain⟨q,hq,hle⟩:=h _ hp
 exact hle w M _ (hs.tm _ _ hq)
theorem KF {F:(Ex->St->Prop)->St->Prop} {Q:Ex->St->Prop} {σ:St} {ι:Type} (μ:ι->Nat) (Pr:ι->Prop) (S:ι->St) (i0:ι) (hp:Pr i0) (hle:Le σ (S i0))
 (h:∀ i,Pr i->F (fun e σ'=>match e with|.normal=>∃ j,Pr j/\μ j < μ i/\Le σ' (S j)|.exit k=>Q (.exit k) σ'|.ret=>Q .ret σ') (S i))
 (mono:∀ (A B:Ex->St->Prop),(∀ e σ,A e σ->B e σ)->∀ σ,F A σ->F B σ):pwL F Q σ:=by
 refine⟨fun n σ=>∃ i,μ i=n/\Pr i/\σ=S i,⟨μ i0,S i0,hle,i0,rfl,hp,rfl⟩,?_⟩
 rintro n σ ⟨i,rfl,hpi,rfl⟩
 refine mono _ _ ?_ _ (h i hpi)
 intro e σ' hq
 cases e with
 | normal=>obtain⟨j,h1,h2,h3⟩:=hq;exact⟨μ j,S j,h2,h3,j,rfl,h1,rfl⟩
 | exit k=>exact hq
 | ret=>exact hq
theorem pO {α:Type} {x:Option α} {F F':α->Prop} (hK:∀ a,F a->F' a) (h:orF x F):orF x F':=by
 unfold orF at *
 split at h
 ·exact hK _ h
 ·exact h.elim
theorem KG {Γ:FuncId->Option Spec} {K K':St->Prop} (hK:∀ σ,K σ->K' σ) {σ:St} {d:Option Nat} {f:FuncId} {ys:List XO} (h:dY Γ σ d f ys K):dY Γ σ d f ys K':=by
 unfold dY at h ⊢
 split
 ·rename_i sp hsp
  rw[hsp] at h
  simp only at h
  split at h
  ·rename_i vc ds ha
   exact⟨h.1,h.2.1,h.2.2.1,fun r o hro=>pO (fun σ1 h=>pO hK h) (h.2.2.2 r o hro)⟩
  ·exact h.elim
 ·rename_i hsp
  rw[hsp] at h
  exact h.elim
theorem KH {Γ:FuncId->Option Spec} {prs:List (List Nat)} {K K':St->Prop} (hK:∀ σ,K σ->K' σ) {i:Nat} {p:dL} {xs:List XOp} {σ:St} (h:gQ Γ prs i p xs σ K):gQ Γ prs i p xs σ K':=by
 rw[zU] at h ⊢
 exact zL hK h
theorem KI {Γ:FuncId->Option Spec} {K K':St->Prop} (hK:∀ σ,K σ->K' σ) {n:Nat} {σ:St} {x:XOp} (h:cE Γ n σ x K):cE Γ n σ x K':=by
 unfold cE at h ⊢
 split
 ·rename_i f ys hx
  rw[hx] at h
  simp only at h
  split at h
  ·unfold dY at h ⊢
   split
   ·rename_i sp hsp
    rw[hsp] at h
    simp only at h
    split at h
    ·rename_i vc ds ha
     exact⟨h.1,h.2.1,h.2.2.1,fun r o hro=>pO (fun σ1 h=>pO hK h) (h.2.2.2 r o hro)⟩
    ·exact h.elim
   ·rename_i hsp
    rw[hsp] at h
    exact h.elim
  ·split at h
   ·exact⟨fun hb=>KG hK (h.1 hb),fun hb=>hK _ (h.2 hb)⟩
   ·exact h.elim
  ·exact h.elim
 ·rename_i y hx
  rw[hx] at h
  simp only at h
  split at h
  ·unfold oS at h ⊢
   split
   ·rename_i g r d e1 e2
    rw[e1,e2] at h
    simp only at h
    split at h
    ·exact⟨h.1,h.2.1,fun c h1 h2=>hK _ (h.2.2 c h1 h2)⟩
    ·exact h.elim
   ·rename_i hno
    split at h
    ·rename_i g r d e1 e2
     exact absurd e2 (hno g r d e1)
    ·exact h.elim
  ·exact h.elim
 ·rename_i hx hx2
  split at h
  ·rename_i f ys hx';exact absurd hx' (hx f ys)
  ·rename_i y hx';exact absurd hx' (hx2 y)
  ·split at h
   ·exact⟨h.1,fun hv=>hK _ (h.2 hv)⟩
   ·exact h.elim
theorem Ag {Γ:FuncId->Option Spec} {K K':St->Prop} (hK:∀ σ,K σ->K' σ):∀ {xs:List XOp} {n:Nat} {σ:St},cn Γ n xs σ K->cn Γ n xs σ K':=by
 intro xs
 induction xs with
 | nil=>intro n σ h;exact hK σ h
 | cons x xs ih=>intro n σ h;exact KI (fun σ' h=>ih h) h
theorem pP {Γ:FuncId->Option Spec}:∀ (x:X) (A B:Ex->St->Prop),(∀ e σ,A e σ->B e σ)->∀ σ,pw Γ x A σ->pw Γ x B σ:=by
 intro x
 induction x with
 | bad=>intro A B h σ hp;exact hp
 | skip=>intro A B h σ hp;exact h _ _ hp
 | ret=>intro A B h σ hp;exact h _ _ hp
 | exit id=>intro A B h σ hp;exact h _ _ hp
 | seq a b iha ihb =>
   intro A B h σ hp
   refine iha _ _ ?_ σ hp
   intro e σ' hq
   cases e with
   | normal=>exact ihb _ _ h σ' hq
   | exit k=>exact h _ _ hq
   | ret=>exact h _ _ hq
 | cond c a b iha ihb =>
   intro A B h σ hp
   simp only[pw] at hp ⊢
   split at hp
   ·exact⟨hp.1,fun ht=>iha _ _ h σ (hp.2.1 ht),fun hf=>ihb _ _ h σ (hp.2.2 hf)⟩
   ·exact⟨hp.1,fun ht=>iha _ _ h σ (hp.2.1 ht),ihb _ _ h σ hp.2.2⟩
   ·exact hp.elim
 | block id b ih =>
   intro A B h σ hp
   refine ih _ _ ?_ σ hp
   intro e σ' hq
   cases e with
   | normal=>exact h _ _ hq
   | exit k =>
     simp only[jU] at hq ⊢
     split
     ·rename_i hi;rw[if_pos hi] at hq;exact h _ _ hq
     ·rename_i hi;rw[if_neg hi] at hq;exact h _ _ hq
   | ret=>exact h _ _ hq
 | loop b ih =>
   intro A B h σ hp
   obtain⟨I,h0,h1⟩:=hp
   refine⟨I,h0,fun n σ hI=>ih _ _ ?_ σ (h1 n σ hI)⟩
   intro e σ' hq
   cases e with
   | normal=>exact hq
   | exit k=>exact h _ _ hq
   | ret=>exact h _ _ hq
 | reg ops dr live =>
   intro A B h σ hp
   exact Ag (fun σ'=>h _ _) hp
 | mix hd tl prs live =>
   intro A B h σ hp
   exact KH (fun σ' h'=>Ag (fun σ''=>h _ _) h') hp
 | gh x ih =>
   intro A B h σ hp
   obtain⟨T,hT,hx⟩:=hp
   exact⟨T,hT,fun σ' hσ=>ih _ _ h σ' (hx σ' hσ)⟩
def pQ {ι:Type} (μ:ι->Nat) (Pr:ι->Prop) (S:ι->St) (i:ι) (Q:Ex->St->Prop):Ex->St->Prop
 | .normal,σ=>∃ j,Pr j/\μ j < μ i/\Le σ (S j)
 | e,σ=>Q e σ
def iK (Γ:FuncId->Option Spec) (v:Bool × PV) (a b:X) (Q:Ex->St->Prop) (σ:St):Prop:=match v with
 | (g,.q (.c (.bool t)))=>g=true/\(t=true->pw Γ a Q σ)/\(t=false->pw Γ b Q σ)
 | (g,.q (.nt t))=>g=true/\(t=true->pw Γ a Q σ)/\pw Γ b Q σ
 | _=>False
def tj (F:St->Prop):Ex->St->Prop
 | .exit _,_=>False
 | _,σ=>F σ
theorem aZ {Γ:FuncId->Option Spec} {x:X} {Q:Ex->St->Prop} {σ:St} {ι:Type} (μ:ι->Nat) (Pr:ι->Prop) (S:ι->St) (i0:ι) (hp:Pr i0) (hle:Le σ (S i0))
 (h:∀ i,Pr i->pw Γ x (pQ μ Pr S i Q) (S i)):pw Γ (.loop x) Q σ :=
 KF μ Pr S i0 hp hle (fun i hi=>pP x _ _ (fun e σ' hq=>by cases e <;> exact hq) _ (h i hi)) (pP x)
section
variable {Γ:FuncId->Option Spec} {Q:Ex->St->Prop} {σ:St}
theorem KJ:pw Γ .skip Q σ=Q .normal σ:=rfl
theorem KK:pw Γ .ret Q σ=Q .ret σ:=rfl
theorem KL (i:Nat):pw Γ (.exit i) Q σ=Q (.exit i) σ:=rfl
theorem KM (a b:X):pw Γ (.seq a b) Q σ=pw Γ a (nP (pw Γ b Q) Q) σ:=rfl
theorem KN (c:XO) (a b:X):pw Γ (.cond c a b) Q σ=iK Γ (σ.v c) a b Q σ:=rfl
theorem KO (g:Bool) (a b:X):iK Γ (g,.q (.c (.bool true))) a b Q σ=(g=true/\pw Γ a Q σ):=by simp[iK]
theorem KP (g:Bool) (a b:X):iK Γ (g,.q (.c (.bool false))) a b Q σ=(g=true/\pw Γ b Q σ):=by simp[iK]
theorem KQ (g:Bool) (p:Prop) [Decidable p] (a b:X):iK Γ (g,.q (.c (.bool (decide p)))) a b Q σ=(g=true/\(p->pw Γ a Q σ)/\(¬ p->pw Γ b Q σ)):=by simp[iK]
theorem KR (t:Bool) (g:Bool) (a b:X):iK Γ (g,.q (.nt t)) a b Q σ=(g=true/\(t=true->pw Γ a Q σ)/\pw Γ b Q σ):=rfl
theorem KS (p:Prop) [Decidable p]:(!decide p)=decide (¬ p):=by simp
theorem KT (i:Nat) (b:X):pw Γ (.block i b) Q σ=pw Γ b (jU i Q) σ:=rfl
theorem KU (ops:List XOp) (dr:Option Nat) (live:List Nat):pw Γ (.reg ops dr live) Q σ=cn Γ (dr.getD 0) ops σ (fun σ'=>Q .normal (σ'.keep live)):=rfl
theorem KV (hd tl:List XOp) (prs:List (List Nat)) (live:List Nat):pw Γ (.mix hd tl prs live) Q σ=gQ Γ prs 0 (fun _=>none) hd σ (fun σ'=>cn Γ 0 tl σ' (fun σ''=>Q .normal (σ''.keep live))):=rfl
theorem KW (N:St->Prop):nP N Q .normal σ=N σ:=rfl
theorem KX (N:St->Prop):nP N Q .ret σ=Q .ret σ:=rfl
theorem KY (N:St->Prop) (i:Nat):nP N Q (.exit i) σ=Q (.exit i) σ:=rfl
theorem KZ (i:Nat):jU i Q .normal σ=Q .normal σ:=rfl
theorem La (i:Nat):jU i Q .ret σ=Q .ret σ:=rfl
theorem Lb (i j:Nat):jU i Q (.exit j) σ=if j=i then Q .normal σ else Q (.exit j) σ:=rfl
theorem Lc {ι:Type} (μ:ι->Nat) (Pr:ι->Prop) (S:ι->St) (i:ι):pQ μ Pr S i Q .normal σ=∃ j,Pr j/\μ j < μ i/\Le σ (S j):=rfl
theorem Ld {ι:Type} (μ:ι->Nat) (Pr:ι->Prop) (S:ι->St) (i:ι):pQ μ Pr S i Q .ret σ=Q .ret σ:=rfl
theorem Lf {ι:Type} (μ:ι->Nat) (Pr:ι->Prop) (S:ι->St) (i:ι) (k:Nat):pQ μ Pr S i Q (.exit k) σ=Q (.exit k) σ:=rfl
end
open Classical in
noncomputable def Spec.of {ι:Type} (md:List Bool) (args:ι->List AV) (pre:ι->Prop) (res out:ι->List AV):Spec :=
 { md:=md,pre:=fun ds=>∃ i,args i=ds/\pre i,res:=fun ds=>if h:∃ i,args i=ds then res (Classical.choose h) else [],out:=fun ds=>if h:∃ i,args i=ds then out (Classical.choose h) else [] }
theorem Spec.of_res {ι:Type} {md:List Bool} {args:ι->List AV} {pre:ι->Prop} {res out:ι->List AV} (hinj:∀ i j,args i=args j->i=j) (i:ι):(Spec.of md args pre res out).res (args i)=res i:=by
 have h:∃ j,args j=args i:=⟨i,rfl⟩
 simp only[Spec.of,dif_pos h]
 rw[hinj _ _ (Classical.choose_spec h)]
theorem Spec.of_out {ι:Type} {md:List Bool} {args:ι->List AV} {pre:ι->Prop} {res out:ι->List AV} (hinj:∀ i j,args i=args j->i=j) (i:ι):(Spec.of md args pre res out).out (args i)=out i:=by
 have h:∃ j,args j=args i:=⟨i,rfl⟩
 simp only[Spec.of,dif_pos h]
 rw[hinj _ _ (Classical.choose_spec h)]
theorem Spec.of_pre' {ι:Type} {md:List Bool} {args:ι->List AV} {pre:ι->Prop} {res out:ι->List AV} (hinj:∀ i j,args i=args j->i=j) (i:ι):(Spec.of md args pre res out).pre (args i)=pre i:=by
 refine propext ⟨?_,fun h=>⟨i,rfl,h⟩⟩
 rintro⟨j,h,hp⟩
 rw[hinj _ _ h] at hp
 exact hp
theorem Sound.all {P:Program} {f:FuncId} {ι:Type} {md:List Bool} {args:ι->List AV} {pre:ι->Prop} {res out:ι->List AV} (μ:ι->Nat) (h:∀ k,Sound P f (Spec.of md args (fun i=>pre i/\μ i < k) res out)):Sound P f (Spec.of md args pre res out):=by
 rintro _ ⟨i,rfl,hi⟩
 exact h (μ i+1) (args i) ⟨i,rfl,hi,Nat.lt_succ_self _⟩
theorem Sound.none {P:Program} {f:FuncId} {ι:Type} {md:List Bool} {args:ι->List AV} {pre:ι->Prop} {res out:ι->List AV} {μ:ι->Nat}:Sound P f (Spec.of md args (fun i=>pre i/\μ i < 0) res out):=by
 rintro _ ⟨i,rfl,hi⟩
 exact absurd hi.2 (Nat.not_lt_zero _)
theorem aQ {P:Program} {Γ:FuncId->Option Spec} (G:GOK P Γ) {f:FuncId} {fn:Func} {c:Code} {x:X} {rs:List RX} {ι:Type} {md:List Bool} {args:ι->List AV} {pre:ι->Prop} {res out:ι->List AV} (hf:P.funcs[f]?=some fn) (hb:fn.body=some c) {n:Nat} (hn:fn.ntmps=n)
 (hc:al P n c x=true) (hk:am P fn.results.toList rs=true) (hl:∀ i,(args i).length<=n) (hinj:∀ i j,args i=args j->i=j)
 (h:∀ i,pre i->pw Γ x (tj (fk n (Spec.at (res i) (out i)) (args i) rs)) (bp 0 n (args i))):Sound P f (Spec.of md args pre res out):=by
 subst hn
 refine Af G hf hb hc hk ?_ ?_
 ·rintro _ ⟨i,rfl,_⟩;exact hl i
 ·rintro _ ⟨i,rfl,hi⟩
  refine pP x _ _ ?_ _ (h i hi)
  intro e σ hq
  have key:fk fn.ntmps (Spec.at (res i) (out i)) (args i) rs σ->∃ r o,(Spec.of md args pre res out).may (args i) r o/\fk fn.ntmps (Spec.at r o) (args i) rs σ:=fun hfin =>
   ⟨res i,out i,(Spec.may_none rfl).2 ⟨(Spec.of_res hinj i).symm,(Spec.of_out hinj i).symm⟩,hfin⟩
  cases e with
  | normal=>exact key hq
  | exit k=>exact hq
  | ret=>exact key hq
def Spec.ofR {ι κ:Type} (md:List Bool) (args:ι->List AV) (pre:ι->Prop) (rel:ι->κ->Prop) (res out:ι->κ->List AV):Spec :=
 { md:=md,pre:=fun ds=>∃ i,args i=ds/\pre i,res:=fun _=>[],out:=fun _=>[],alts:=some fun ds r o=>∃ i k,args i=ds/\rel i k/\r=res i k/\o=out i k }
theorem Spec.ofR_pre {ι κ:Type} {md:List Bool} {args:ι->List AV} {pre:ι->Prop} {rel:ι->κ->Prop} {res out:ι->κ->List AV} (hinj:∀ i j,args i=args j->i=j) (i:ι):(Spec.ofR md args pre rel res out).pre (args i)=pre i:=by
 refine propext ⟨?_,fun h=>⟨i,rfl,h⟩⟩
 rintro⟨j,h,hp⟩
 rw[hinj _ _ h] at hp
 exact hp
theorem Spec.ofR_all {ι κ:Type} {md:List Bool} {args:ι->List AV} {pre:ι->Prop} {rel:ι->κ->Prop} {res out:ι->κ->List AV} (hinj:∀ i j,args i=args j->i=j) (i:ι) (F:List AV->List AV->Prop) :
 (Spec.ofR md args pre rel res out).all (args i) F=∀ k,rel i k->F (res i k) (out i k):=by
 refine propext ⟨fun h k hk=>h _ _ ⟨i,k,rfl,hk,rfl,rfl⟩,?_⟩
 rintro h r o ⟨j,k,hj,hk,rfl,rfl⟩
 rw[hinj _ _ hj] at *
 exact h k hk
theorem Spec.ofR_ne {ι κ:Type} {md:List Bool} {args:ι->List AV} {pre:ι->Prop} {rel:ι->κ->Prop} {res out:ι->κ->List AV} (hinj:∀ i j,args i=args j->i=j) (i:ι) :
 (Spec.ofR md args pre rel res out).ne (args i)=∃ k,rel i k:=by
 refine propext ⟨?_,fun ⟨k,hk⟩=>⟨_,_,i,k,rfl,hk,rfl,rfl⟩⟩
 rintro⟨r,o,j,k,hj,hk,rfl,rfl⟩
 rw[hinj _ _ hj] at hk
 exact⟨k,hk⟩
theorem Spec.all_fn {sp:Spec} (h:sp.alts=none) (ds:List AV) (F:List AV->List AV->Prop):sp.all ds F=F (sp.res ds) (sp.out ds):=by
 refine propext ⟨fun h'=>h' _ _ ((Spec.may_none h).2 ⟨rfl,rfl⟩),fun h' r o hro=>?_⟩
 obtain⟨rfl,rfl⟩:=(Spec.may_none h).1 hro
 exact h'
theorem Spec.ne_fn {sp:Spec} (h:sp.alts=none) (ds:List AV):sp.ne ds=True:=eq_true ⟨_,_,(Spec.may_none h).2 ⟨rfl,rfl⟩⟩
theorem Sound.allR {P:Program} {f:FuncId} {ι κ:Type} {md:List Bool} {args:ι->List AV} {pre:ι->Prop} {rel:ι->κ->Prop} {res out:ι->κ->List AV} (μ:ι->Nat) (h:∀ k,Sound P f (Spec.ofR md args (fun i=>pre i/\μ i < k) rel res out)):Sound P f (Spec.ofR md args pre rel res out):=by
 rintro _ ⟨i,rfl,hi⟩
 exact h (μ i+1) (args i) ⟨i,rfl,hi,Nat.lt_succ_self _⟩
theorem Sound.noneR {P:Program} {f:FuncId} {ι κ:Type} {md:List Bool} {args:ι->List AV} {pre:ι->Prop} {rel:ι->κ->Prop} {res out:ι->κ->List AV} {μ:ι->Nat}:Sound P f (Spec.ofR md args (fun i=>pre i/\μ i < 0) rel res out):=by
 rintro _ ⟨i,rfl,hi⟩
 exact absurd hi.2 (Nat.not_lt_zero _)
theorem ec {P:Program} {Γ:FuncId->Option Spec} (G:GOK P Γ) {f:FuncId} {fn:Func} {c:Code} {x:X} {rs:List RX} {ι κ:Type} {md:List Bool} {args:ι->List AV} {pre:ι->Prop} {rel:ι->κ->Prop} {res out:ι->κ->List AV} (hf:P.funcs[f]?=some fn) (hb:fn.body=some c) {n:Nat} (hn:fn.ntmps=n)
 (hc:al P n c x=true) (hk:am P fn.results.toList rs=true) (hl:∀ i,(args i).length<=n)
 (h:∀ i,pre i->pw Γ x (tj (fun σ=>∃ k,rel i k/\fk n (Spec.at (res i k) (out i k)) (args i) rs σ)) (bp 0 n (args i))):Sound P f (Spec.ofR md args pre rel res out):=by
 subst hn
 refine Af G hf hb hc hk ?_ ?_
 ·rintro _ ⟨i,rfl,_⟩;exact hl i
 ·rintro _ ⟨i,rfl,hi⟩
  refine pP x _ _ ?_ _ (h i hi)
  intro e σ hq
  have key:(∃ k,rel i k/\fk fn.ntmps (Spec.at (res i k) (out i k)) (args i) rs σ)->∃ r o,(Spec.ofR md args pre rel res out).may (args i) r o/\fk fn.ntmps (Spec.at r o) (args i) rs σ:=fun ⟨k,hk,hfin⟩ =>
   ⟨_,_,⟨i,k,rfl,hk,rfl,rfl⟩,hfin⟩
  cases e with
  | normal=>exact key hq
  | exit k=>exact hq
  | ret=>exact key hq
theorem Apart.rightA {S:Nat->Prop} {ps qs:List (Nat->Prop)} (h:Apart S (ps++qs)):Apart S qs:=by
 induction ps with
 | nil=>exact h
 | cons p ps ih=>exact ih h.2.2
theorem Apart.falses {S:Nat->Prop} {α:Type} (r:List α) {qs:List (Nat->Prop)} (h:Apart S qs):Apart S ((r.map fun _ _=>False)++qs):=by
 induction r with
 | nil=>exact h
 | cons x r ih=>exact⟨fun _ h=>h.elim,fun _ h=>h.elim,ih⟩
theorem Sound.weak {P:Program} {f:FuncId} {sp:Spec} (h:Sound P f sp) (hx:∀ ds r o,sp.pre ds->sp.may ds r o->∀ x ∈ r,x.dt):Sound P f sp.weak:=by
 intro args hp w S vs fps hG hS hF ha hA
 refine (h args hp w S vs fps hG hS hF ha hA).mono ?_
 rintro e w' ⟨r,o,hro,v,S',rfs,fps',he,g1,g2,g4,g5,g6,g7,g8⟩
 have hr:=hx args r o hp hro
 refine⟨r.map AV.weak,o,?_,v,fun g=>S' g\/Any rfs g,r.map fun _ _=>False,fps',he,?_,g2.imp (fun _ _ _ h=>RepA.monoS (fun _ h=>.inl h) h),fun g hg=>?_,fun g hg=>?_,?_,fun g hg=>?_,g8⟩
 ·unfold Spec.may Spec.weak at *
  cases hal:sp.alts with
  | none =>
    rw[hal] at hro
    simp only at hro
    obtain⟨rfl,rfl⟩:=hro
    exact⟨rfl,rfl⟩
  | some R =>
    rw[hal] at hro
    exact⟨r,hro,rfl⟩
 ·obtain⟨us,a1,a2⟩:=RepR.all3 g1
  have a3:=a1.weak (S':=fun g=>S' g\/Any rfs g) (fun _ h=>.inl h) (fun _ h=>.inr h) hr
  rcases a2 with rfl|⟨a2,rfl⟩
  ·cases a1 with
   | cons b1 b2=>cases b2;cases a3 with
     | cons c1 _=>exact c1
  ·have hl:=a1.lens
   have hl2:(r.map AV.weak).length≠1:=by simpa [hl] using a2
   unfold RepR
   split
   ·rename_i e _;exact absurd (by have:=congrArg List.length e;simpa using this) (by simpa using hl2)
   ·exact⟨hl2,us,rfl,a3⟩
 ·rcases hg with hg|hg
  ·exact g4 g hg
  ·exact .inr (g7 g hg.left).1
 ·rcases hg with hg|hg
  ·exact g5 g hg
  ·exact (g7 g hg.left).2
 ·have k:Apart (fun g=>S' g\/Any rfs g) fps':=(Apart.rightA g6).widen (fun g hg h=>h.elim (fun h=>(Apart.rightA g6).notS hg h) (fun h=>g6.split h hg))
  clear g1
  induction r with
  | nil=>exact k
  | cons x r ih=>exact⟨fun _ h=>h.elim,fun _ h=>h.elim,(Apart.falses r k)⟩
 ·rcases Any.of_app hg with ⟨p,hp,hg⟩|hg
  ·simp only[List.mem_map] at hp
   obtain⟨_,_,rfl⟩:=hp
   exact hg.elim
  ·exact g7 g hg.right
def Gam (l:List (FuncId × Spec)):FuncId->Option Spec:=fun f=>get? f l
theorem GOK.nil {P:Program}:GOK P (Gam []):=fun f sp h=>by simp[Gam,get?] at h
theorem GOK.cons {P:Program} {l:List (FuncId × Spec)} {f:FuncId} {sp:Spec} (hc:aw P f=true) (hs:Sound P f sp) (h:GOK P (Gam l)):GOK P (Gam ((f,sp)::l)):=fun g sp' hg=>by
 simp only[Gam,get?] at hg
 split at hg
 ·rename_i he;subst he;simp at hg;subst hg;exact⟨hc,hs⟩
 ·exact h g sp' hg
end Go.Proofs.Pw
namespace Go.Proofs.Pw
variable [Globs]
theorem Lg (cs:List C):cC (cs.map .c)=some cs:=by
 induction cs with
 | nil=>rfl
 | cons c cs ih=>simp[cC,Q.toC,ih]
end Go.Proofs.Pw
namespace Go.Proofs.Pw
variable [Globs]
theorem Lh (cs:List C):(cs.map Q.c).flatMap iw=[]:=by
 induction cs with
 | nil=>rfl
 | cons c cs ih=>simp[iw]
end Go.Proofs.Pw
namespace Go.Proofs.Pw
end Go.Proofs.Pw
namespace Go.Proofs.Pw
theorem Li (p q:Prop) [Decidable p] [Decidable q]:(bif decide p then true else decide q)=decide (p\/q):=by by_cases p <;> simp_all
theorem Lj (p q:Prop) [Decidable p] [Decidable q]:(bif decide p then decide q else false)=decide (p/\q):=by by_cases p <;> simp_all
theorem Ll (p q:Prop) [Decidable p] [Decidable q]:(decide p && decide q)=decide (p/\q):=by simp
theorem Lm (b:Bool):(b == true)=b:=by cases b <;> rfl
theorem Ln (b:Bool):(b == false)=!b:=by cases b <;> rfl
theorem Lo (x y:Bool):(bif true then x else y)=x:=rfl
theorem Lp (x y:Bool):(bif false then x else y)=y:=rfl
end Go.Proofs.Pw
namespace Go.Proofs.Pw
theorem Lq (d:Nat) (cs:List C):(cs.map Q.c).map (Q.killB d)=cs.map Q.c:=by rw[List.map_map];rfl
theorem Lr (d:Nat) (cs:List C):(cs.map Q.c).map (Q.killO d)=cs.map Q.c:=by rw[List.map_map];rfl
theorem Ls (d:Nat) (c:C) (cs:List C):(cs.map Q.c).map (Q.pub d c)=cs.map Q.c:=by rw[List.map_map];rfl
end Go.Proofs.Pw
namespace Go.Proofs.Pw
variable [Globs]
theorem Le.sub {σ σ':St} (ht:∀ p ∈ σ'.tm,p ∈ σ.tm) (hb:∀ p ∈ σ'.bx,p ∈ σ.bx) (hr:∀ p ∈ σ'.rw,p ∈ σ.rw):Le σ σ':=fun _ _ _ _ _ _ M hs =>
 ⟨M,hs.size,hs.defs,fun t p h=>hs.tm t p (ht _ h),⟨fun i q h=>hs.mem.box i q (hb _ h),fun i sz es h=>hs.mem.row i sz es (hr _ h),fun i q j q' h k=>hs.mem.bb i q j q' (hb _ h) (hb _ k),fun i q j r h k=>hs.mem.br i q j r (hb _ h) (hr _ k),fun i r j r' g h k=>hs.mem.rr i r j r' g (hr _ h) (hr _ k),hs.mem.lt,fun i q h=>hs.mem.sb i q (hb _ h),fun i r g h=>hs.mem.sr i r g (hr _ h),hs.mem.gl⟩,hs.fr,hs.hB,hs.sS,hs.sβ,hs.sρ⟩
end Go.Proofs.Pw
namespace Go.Proofs.Pw
variable [Globs]
theorem Ah {α:Type} {d:α} {t:Nat} {l:List (Nat × α)} {x:α} (h:get d t l=x) (hx:x≠d):(t,x) ∈ l:=by
 rcases xP (d:=d) (t:=t) (l:=l) with h'|h'
 ·rw[h] at h';exact h'
 ·rw[h] at h';exact absurd h' hx
theorem Le.move {σ:St} {t r d sz:Nat} {es:List (List C)} (ht:get (.q .no) t σ.tm=.q (.own r)) (hq:get? r σ.rw=some (sz,es)) (hd:d < aS) :
 Le σ { σ.rowMove r d sz es with tm:=upd t (.q (.own d)) (σ.rowMove r d sz es).tm }:=fun X N B w0 ac w M hs=>by
 have hin:=get?_mem hq
 obtain⟨h0,hp,_⟩:=hs.mem.row r _ es hin
 have hv:=hs.tm t _ (Ah ht (by simp))
 have hs2:=hs.rowMove (d:=d) hin (.inr hd) h0 hp (fun _ h=>h)
 refine⟨_,hs2.size,hs2.defs,fun t' p hp=>?_,hs2.mem,hs2.fr,hs2.hB,hs2.sS,hs2.sβ,hs2.sρ⟩
 rcases aE hp with ⟨rfl,rfl⟩|⟨_,hp⟩
 ·exact⟨by rw[hv.1];simp[Gh.nr],hv.2⟩
 ·exact hs2.tm _ _ hp
theorem Le.cut {σ:St} {t r d sz n:Nat} {es:List (List C)} (ht:get (.q .no) t σ.tm=.q (.vw r sz 0 n)) (hq:get? r σ.rw=some (sz,es)) (hn:n<=es.length) (hd:d < aS) :
 Le σ { σ.rowMove r d sz (es.take n) with tm:=upd t (.q (.own d)) (σ.rowMove r d sz (es.take n)).tm }:=fun X N B w0 ac w M hs=>by
 have hin:=get?_mem hq
 obtain⟨h0,hp,_⟩:=hs.mem.row r _ es hin
 have hv:=hs.tm t _ (Ah ht (by simp))
 obtain⟨A,m,c,A',hρ,hc,hv,hA⟩:=hv
 have hA':0 < c->A'=A:=fun h=>by rw[hA h];cases A <;> simp[Addr.add]
 have hp2:Priv w M.S sz (es.take n) ((M.ρ r).hd (.slice A' n c)):=hp.cut hρ hn hA'
 have hsub:∀ g,ae ((M.ρ r).hd (.slice A' n c)) g->ae (M.ρ r) g:=fun g hg=>by
  rcases nA.1 hg with hg|hg
  ·refine .inl ?_
   rw[hρ]
   rcases Nat.eq_zero_or_pos c with h|h
   ·subst h;cases A' <;> simp[ax] at hg
   ·rw[hA' h] at hg
    cases c with
    | zero=>omega
    | succ c=>cases A with
      | none=>exact hg.elim
      | some ad=>exact hg
  ·exact .inr hg
 have hs2:=hs.rowMove (d:=d) hin (.inr hd) h0 hp2 hsub
 rw[Nat.sub_zero] at hv
 refine⟨_,hs2.size,hs2.defs,fun t' p hp=>?_,hs2.mem,hs2.fr,hs2.hB,hs2.sS,hs2.sβ,hs2.sρ⟩
 rcases aE hp with ⟨rfl,rfl⟩|⟨_,hp⟩
 ·exact⟨by rw[hv];simp[Gh.nr],by rw[hv];rfl⟩
 ·exact hs2.tm _ _ hp
end Go.Proofs.Pw
namespace Go.Proofs.Pw
inductive T where
 | mk (kind n:Int) (s:ByteArray) (keys:List ByteArray) (list:List T)
inductive F where
 | mk (kind n:Int) (s:ByteArray) (v:T) (kids:List F)
structure Tk where
 v:T
 todo:List F
structure Gn where
 tasks:List Tk
 fuel:Int
 code:Int
def aa (ks:List ByteArray):List (List C):=ks.map fun s=>[.str s]
mutual
def T.enc:T->List C
 | .mk k n s ks l=>[.int .i64 k,.int .i64 n,.str s,.row 1 (aa ks),.row 5 (ai l)]
def ai:List T->List (List C)
 | []=>[]
 | t::l=>t.enc::ai l
end
mutual
def F.enc:F->List C
 | .mk k n s v l=>[.int .i64 k,.int .i64 n,.str s]++v.enc++[.row 9 (aB l)]
def aB:List F->List (List C)
 | []=>[]
 | t::l=>t.enc::aB l
end
def Tk.enc (t:Tk):List C:=t.v.enc++[.row 9 (aB t.todo)]
def cZ (l:List Tk):List (List C):=l.map Tk.enc
def Gn.enc (g:Gn):List C:=[.row 6 (cZ g.tasks),.int .i64 g.fuel,.int .i64 g.code]
theorem Ai (l:List T):ai l=l.map T.enc:=by
 induction l with
 | nil=>simp[ai]
 | cons t l ih=>simp[ai,ih]
theorem Aj (l:List F):aB l=l.map F.enc:=by
 induction l with
 | nil=>simp[aB]
 | cons t l ih=>simp[aB,ih]
theorem bU (l:List T):(ai l).length=l.length:=by rw[Ai];simp
theorem bC (l:List F):(aB l).length=l.length:=by rw[Aj];simp
theorem bw (l:List ByteArray):(aa l).length=l.length:=by simp[aa]
theorem Lt (l:List Tk):(cZ l).length=l.length:=by simp[cZ]
theorem T.enc_len (t:T):t.enc.length=5:=by cases t;simp[T.enc]
theorem F.enc_len (f:F):f.enc.length=9:=by cases f;simp[F.enc,T.enc_len]
theorem Ak {a b:List ByteArray} (h:aa a=aa b):a=b:=by
 induction a generalizing b with
 | nil=>cases b with
   | nil=>rfl
   | cons _ _=>simp[aa] at h
 | cons x a ih=>cases b with
   | nil=>simp[aa] at h
   | cons y b =>
     simp only[aa,List.map_cons,List.cons.injEq,C.str.injEq,and_true] at h
     rw[h.1,ih h.2]
mutual
theorem T.enc_inj:∀ {a b:T},a.enc=b.enc->a=b
 | .mk k n s ks l,.mk k' n' s' ks' l',h=>by
   simp only[T.enc,List.cons.injEq,C.int.injEq,C.str.injEq,C.row.injEq,true_and,and_true] at h
   obtain⟨rfl,rfl,rfl,h4,h5⟩:=h
   rw[Ak h4,tk h5]
theorem tk:∀ {a b:List T},ai a=ai b->a=b
 | [],[],_=>rfl
 | [],_::_,h=>by simp[ai] at h
 | _::_,[],h=>by simp[ai] at h
 | x::a,y::b,h=>by
   simp only[ai,List.cons.injEq] at h
   rw[T.enc_inj h.1,tk h.2]
end
theorem Al {α:Type} {a b c d:List α} (h:a++b=c++d) (hl:a.length=c.length):a=c/\b=d:=List.append_inj h hl
mutual
theorem F.enc_inj:∀ {a b:F},a.enc=b.enc->a=b
 | .mk k n s v l,.mk k' n' s' v' l',h=>by
   simp only[F.enc,List.cons_append,List.nil_append,List.cons.injEq,C.int.injEq,C.str.injEq,true_and] at h
   obtain⟨rfl,rfl,rfl,h4⟩:=h
   obtain⟨h5,h6⟩:=Al h4 (by rw[T.enc_len,T.enc_len])
   simp only[List.cons.injEq,C.row.injEq,true_and,and_true] at h6
   rw[T.enc_inj h5,pR h6]
theorem pR:∀ {a b:List F},aB a=aB b->a=b
 | [],[],_=>rfl
 | [],_::_,h=>by simp[aB] at h
 | _::_,[],h=>by simp[aB] at h
 | x::a,y::b,h=>by
   simp only[aB,List.cons.injEq] at h
   rw[F.enc_inj h.1,pR h.2]
end
theorem Tk.enc_len (f:Tk):f.enc.length=6:=by simp[Tk.enc,T.enc_len]
theorem Tk.enc_inj {a b:Tk} (h:a.enc=b.enc):a=b:=by
 obtain⟨v,l⟩:=a
 obtain⟨v',l'⟩:=b
 simp only[Tk.enc] at h
 obtain⟨h5,h6⟩:=Al h (by rw[T.enc_len,T.enc_len])
 simp only[List.cons.injEq,C.row.injEq,true_and,and_true] at h6
 rw[T.enc_inj h5,pR h6]
theorem Am {a b:List Tk} (h:cZ a=cZ b):a=b:=by
 induction a generalizing b with
 | nil=>cases b with
   | nil=>rfl
   | cons _ _=>simp[cZ] at h
 | cons x a ih=>cases b with
   | nil=>simp[cZ] at h
   | cons y b =>
     simp only[cZ,List.map_cons,List.cons.injEq] at h
     rw[Tk.enc_inj h.1,ih h.2]
theorem Gn.enc_inj {a b:Gn} (h:a.enc=b.enc):a=b:=by
 obtain⟨t,f,c⟩:=a
 obtain⟨t',f',c'⟩:=b
 simp only[Gn.enc,List.cons.injEq,C.row.injEq,C.int.injEq,true_and,and_true] at h
 obtain⟨h1,rfl,rfl⟩:=h
 rw[Am h1]
end Go.Proofs.Pw
namespace Go.Proofs.Pw
theorem dm {l:List ByteArray} {i:Nat} {s:ByteArray} (h:l[i]?=some s):(aa l).getD i []=[.str s]:=by simp[aa,h]
theorem fU {l:List T} {i:Nat} {t:T} (h:l[i]?=some t):(ai l).getD i []=t.enc:=by simp[Ai,h]
theorem cI {l:List F} {i:Nat} {t:F} (h:l[i]?=some t):(aB l).getD i []=t.enc:=by simp[Aj,h]
theorem aU {α:Type} {l:List α} {i:Nat} (h:i < l.length):∃ x,l[i]?=some x/\l.drop i=x::l.drop (i+1)/\x ∈ l:=⟨l[i],by simp[h],List.drop_eq_getElem_cons h,by simp⟩
end Go.Proofs.Pw
namespace Go.Proofs.Pw
theorem ap {a b:List ByteArray}:aa a=aa b ↔ a=b:=⟨Ak,fun h=>h ▸ rfl⟩
theorem T.enc_eq {a b:T}:a.enc=b.enc ↔ a=b:=⟨T.enc_inj,fun h=>h ▸ rfl⟩
theorem aq {a b:List T}:ai a=ai b ↔ a=b:=⟨tk,fun h=>h ▸ rfl⟩
theorem F.enc_eq {a b:F}:a.enc=b.enc ↔ a=b:=⟨F.enc_inj,fun h=>h ▸ rfl⟩
theorem ar {a b:List F}:aB a=aB b ↔ a=b:=⟨pR,fun h=>h ▸ rfl⟩
theorem Tk.enc_eq {a b:Tk}:a.enc=b.enc ↔ a=b:=⟨Tk.enc_inj,fun h=>h ▸ rfl⟩
theorem au {a b:List Tk}:cZ a=cZ b ↔ a=b:=⟨Am,fun h=>h ▸ rfl⟩
theorem Gn.enc_eq {a b:Gn}:a.enc=b.enc ↔ a=b:=⟨Gn.enc_inj,fun h=>h ▸ rfl⟩
end Go.Proofs.Pw
namespace Go.Proofs.Pw
noncomputable instance T.dec:DecidableEq T:=fun a b=>Classical.propDecidable (a=b)
noncomputable instance F.dec:DecidableEq F:=fun a b=>Classical.propDecidable (a=b)
noncomputable instance Tk.dec:DecidableEq Tk:=fun a b=>Classical.propDecidable (a=b)
noncomputable instance Gn.dec:DecidableEq Gn:=fun a b=>Classical.propDecidable (a=b)
theorem nU {α:Type} {a b:List α} {i:Nat} {x y:α} (hx:a[i]?=some x) (hy:b[i]?=some y) (h:x≠y):a≠b:=fun e=>by
 subst e;rw[hx] at hy;exact h (by simpa using hy)
theorem nV {α:Type} {a b:List α} {i:Nat} {x:α} (hx:a[i]?=some x) (hy:b[i]?=some x) (h:a.take i=b.take i):a.take (i+1)=b.take (i+1):=by
 rw[List.take_add_one,List.take_add_one,h,hx,hy]
theorem nW {α:Type} {a b:List α} (hl:a.length=b.length) (h:a.take a.length=b.take a.length):a=b:=by
 rw[List.take_length,hl,List.take_length] at h;exact h
end Go.Proofs.Pw
namespace Go.Proofs.Pw
theorem T.enc_take (t:T):(t.enc.map Q.c).take 5=t.enc.map Q.c:=List.take_of_length_le (by simp[T.enc_len])
theorem F.enc_take (t:F):(t.enc.map Q.c).take 9=t.enc.map Q.c:=List.take_of_length_le (by simp[F.enc_len])
end Go.Proofs.Pw
namespace Go.Proofs.Pw
theorem T.enc_take5 (t:T):t.enc.take 5=t.enc:=List.take_of_length_le (by simp[T.enc_len])
theorem F.enc_take9 (t:F):t.enc.take 9=t.enc:=List.take_of_length_le (by simp[F.enc_len])
theorem Tk.enc_take6 (t:Tk):t.enc.take 6=t.enc:=List.take_of_length_le (by simp[Tk.enc_len])
def aF (k:IntKind) (bs:List Int):List (List C):=bs.map fun n=>[.int k n]
theorem gR (k:IntKind) (bs:List Int):(aF k bs).length=bs.length:=by simp[aF]
theorem tp {k:IntKind} {l:List Int} {i:Nat} {n:Int} (h:l[i]?=some n):(aF k l).getD i []=[.int k n]:=by simp[aF,h]
theorem Lu {k:IntKind}:∀ {a b:List Int},aF k a=aF k b->a=b:=by
 intro a
 induction a with
 | nil=>intro b h;cases b with
   | nil=>rfl
   | cons _ _=>simp[aF] at h
 | cons x a ih=>intro b h;cases b with
   | nil=>simp[aF] at h
   | cons y b =>
     simp only[aF,List.map_cons,List.cons.injEq,C.int.injEq,true_and,and_true] at h
     rw[h.1,ih h.2]
theorem ao {k:IntKind} {a b:List Int}:aF k a=aF k b ↔ a=b:=⟨Lu,fun h=>h ▸ rfl⟩
end Go.Proofs.Pw
namespace Go.Proofs.Pw
theorem Lv:aW []=true:=rfl
theorem jW (e:List C) (es:List (List C)):aW (e::es)=(e.all cz && aW es):=rfl
theorem Lw (a b:List (List C)):aW (a++b)=(aW a && aW b):=by simp[aW]
theorem Ao {a b:List (List C)} (h:aW b=true) (hs:∀ e ∈ a,e ∈ b):aW a=true:=by
 unfold aW at *;rw[List.all_eq_true] at *;exact fun e he=>h e (hs e he)
theorem Lx {a:List (List C)} (n:Nat) (h:aW a=true):aW (a.take n)=true:=Ao h (fun _=>List.mem_of_mem_take)
theorem Ly {a:List (List C)} (n:Nat) (h:aW a=true):aW (a.drop n)=true:=Ao h (fun _=>List.mem_of_mem_drop)
theorem iL (l:List ByteArray):aW (aa l)=true:=by
 unfold aW aa;rw[List.all_map];simp[cz,Function.comp_def]
theorem tq (k:IntKind) (l:List Int):aW (aF k l)=true:=by
 unfold aW aF;rw[List.all_map];simp[cz,Function.comp_def]
theorem T.enc_plain (t:T):t.enc.all cz=true:=by cases t;simp[T.enc,cz]
theorem F.enc_plain (t:F):t.enc.all cz=true:=by
 cases t;simp only[F.enc,List.all_append,T.enc_plain];rfl
theorem Tk.enc_plain (t:Tk):t.enc.all cz=true:=by
 cases t;simp only[Tk.enc,List.all_append,T.enc_plain];rfl
theorem tu (l:List T):aW (ai l)=true:=by
 induction l with
 | nil=>rfl
 | cons t l ih=>simp only[ai,jW,T.enc_plain,ih];rfl
theorem tv (l:List F):aW (aB l)=true:=by
 induction l with
 | nil=>rfl
 | cons t l ih=>simp only[aB,jW,F.enc_plain,ih];rfl
theorem tx (l:List Tk):aW (cZ l)=true:=by
 induction l with
 | nil=>rfl
 | cons t l ih=>simp only[cZ,List.map_cons,jW,Tk.enc_plain];exact ih
theorem Lz (n:Nat) (e:List C) (h:e.all cz=true):aW (List.replicate n e)=true:=by
 induction n with
 | zero=>rfl
 | succ n ih=>rw[List.replicate_succ,jW,h,ih];rfl
theorem LA {a:List (List C)} (i:Nat) {e:List C} (h:aW a=true) (he:e.all cz=true):aW (a.set i e)=true:=by
 unfold aW at *;rw[List.all_eq_true] at h ⊢
 intro x hx
 rcases List.mem_or_eq_of_mem_set hx with hx|rfl
 ·exact h x hx
 ·exact he
theorem pS {i k:Nat}:∀ {cs:List C} {o:Nat},cs.all cz=true->dj i k o cs=cs.map Q.c:=by
 intro cs
 induction cs with
 | nil=>intro o _;rfl
 | cons c cs ih =>
   intro o h
   simp only[List.all_cons,Bool.and_eq_true] at h
   simp only[dj,List.map_cons,ih h.2]
   cases c <;> first|rfl|cases h.1
theorem T.enc_toLs (i k o:Nat) (t:T):dj i k o t.enc=t.enc.map Q.c:=pS t.enc_plain
theorem F.enc_toLs (i k o:Nat) (t:F):dj i k o t.enc=t.enc.map Q.c:=pS t.enc_plain
theorem Tk.enc_toLs (i k o:Nat) (t:Tk):dj i k o t.enc=t.enc.map Q.c:=pS t.enc_plain
theorem LB (i:Nat) (cs:List C):(cs.map Q.c).map (Q.killN i)=cs.map Q.c:=by rw[List.map_map];rfl
@[simp] theorem XH (l:List ByteArray):dtR (aa l)=some (aa l):=dV (iL l)
@[simp] theorem XI (k:IntKind) (l:List Int):dtR (aF k l)=some (aF k l):=dV (tq k l)
@[simp] theorem XJ (l:List T):dtR (ai l)=some (ai l):=dV (tu l)
@[simp] theorem XL (l:List F):dtR (aB l)=some (aB l):=dV (tv l)
@[simp] theorem XM (l:List Tk):dtR (cZ l)=some (cZ l):=dV (tx l)
attribute [simp] iL tq tu tv tx
attribute [go_sem] jx C.toL dj Q.killN Lv jW Lw Lx Ly iL tq T.enc_plain F.enc_plain Tk.enc_plain tu tv tx Lz LA T.enc_toLs F.enc_toLs Tk.enc_toLs LB dV cz List.all_cons List.all_nil
end Go.Proofs.Pw
namespace Go.Proofs.Pw
attribute [go_sem] bp DV.toP C.toQ Q.pubB Option.bind_some List.map_cons List.map_nil KM KU KN KO KP KQ KR KS KK KJ KL KT KW KX KY KZ La Lb Lc Ld Lf cn cE dY orF Spec.at eD bN ah fd fM Gam get? fK cO fL St.pubs aT PV.rowB aS ltB nu St.rowMove St.delO pK List.filter_nil List.filter_cons true_or or_true false_or List.getElem?_cons_zero List.getElem?_cons_succ Nat.zero_add Nat.sub_zero Int.toNat_zero cV bZ ez cD bI DV.toS St.v get PV.un PV.row Option.map St.put upd del la rg St.keep List.map Option.getD bc bne_self_eq_false if_true Bool.true_and Nat.reduceEqDiff if_false reduceIte reduceCtorEq Nat.reduceAdd true_and tj fk lA iI iJ cY cv PV.owns iw List.append_nil List.nil_append List.foldl PV.toD Q.toC cC and_true implies_true true_implies false_implies AV.d.injEq AV.ref.injEq Option.some.injEq DV.one.injEq DV.agg.injEq C.int.injEq C.bool.injEq C.str.injEq C.row.injEq List.cons.injEq jv eZ cellsOf List.length_cons List.length_nil List.getD_cons_zero List.getD_cons_succ List.drop List.take decide_true decide_false Int.toNat_natCast Bool.false_and Bool.and_true Bool.and_false St.map PV.map SV.map St.pub Q.pub del Q.killB Q.killO dX fc place eY asInt? loX Nat.reduceLeDiff Nat.reduceLT List.append List.cons_append Option.bind Bool.not_true Bool.not_false Nat.reduceSub Nat.reduceBNe Nat.add_zero List.getD_nil bw bU bC Lt Lg Lh C.def Lq Lr Ls T.enc_take F.enc_take T.enc_take5 F.enc_take9 Tk.enc_take6 Nat.le_refl List.length_map List.drop_zero List.flatMap_cons List.flatMap_nil List.any_nil List.any_cons Nat.reduceBEq beq_self_eq_true Bool.or_false Li Lj Lo Lp Ll Lm Ln decide_eq_true_eq decide_eq_false_iff_not imp_self not_true_eq_false not_false_eq_true
attribute [go_sem] dk PV.toDB Q.toCB dG jA lb fe oQ svL svP jB agQ agR pid bt List.contains_nil List.contains_cons zV fj nQ fS agI gOk pJ jV pL KV fR Updr.app putO updL St.kil ay iE jL iF aG dK lx jM plT plA eH wrU nK cu PV.ids cH iG eI cq jN co PV.pl Q.pl plL ta id_eq List.map_id List.isEmpty_nil List.mem_singleton
attribute [go_sem ↓] gQ one bz
end Go.Proofs.Pw
namespace Go.Proofs.Pw
def ab (B:Int) (n:Nat):Prop:=(n:Int)<=B
def i64 (n:Int):Prop:=-9223372036854775808<=n/\n<=9223372036854775807
def cJ (B:Int) (ks:List ByteArray):Prop:=ab B ks.length/\∀ s ∈ ks,ab B s.size
mutual
def T.fit (B:Int):T->Prop
 | .mk k n s ks l=>i64 k/\i64 n/\ab B s.size/\cJ B ks/\ab B l.length/\bn B l
def bn (B:Int):List T->Prop
 | []=>True
 | t::l=>t.fit B/\bn B l
end
mutual
def F.fit (B:Int):F->Prop
 | .mk k n s v l=>i64 k/\i64 n/\ab B s.size/\v.fit B/\ab B l.length/\bu B l
def bu (B:Int):List F->Prop
 | []=>True
 | t::l=>t.fit B/\bu B l
end
def Tk.fit (B:Int) (t:Tk):Prop:=t.v.fit B/\ab B t.todo.length/\bu B t.todo
def LC (B:Int) (l:List Tk):Prop:=∀ t ∈ l,t.fit B
def Gn.fit (B:Int) (g:Gn):Prop:=ab B g.tasks.length/\LC B g.tasks/\i64 g.fuel/\i64 g.code
theorem iM {B:Int} {l:List T} (h:bn B l):∀ t ∈ l,t.fit B:=by
 induction l with
 | nil=>simp
 | cons x l ih =>
   simp only[bn] at h
   intro t ht
   rcases List.mem_cons.1 ht with rfl|ht
   ·exact h.1
   ·exact ih h.2 t ht
theorem dN {B:Int} {l:List F} (h:bu B l):∀ t ∈ l,t.fit B:=by
 induction l with
 | nil=>simp
 | cons x l ih =>
   simp only[bu] at h
   intro t ht
   rcases List.mem_cons.1 ht with rfl|ht
   ·exact h.1
   ·exact ih h.2 t ht
theorem bK {α:Type} [SizeOf α] {l:List α} {x:α} (h:x ∈ l):SizeOf.sizeOf x < SizeOf.sizeOf l:=List.sizeOf_lt_of_mem h
def iN:List ByteArray->Int->Int
 | [],left=>left
 | s::r,left=>if left-s.size < 0 then -1 else iN r (left-s.size)
def eg (ks:List ByteArray) (left:Int):Int:=if left-ks.length < 0 then -1 else iN ks (left-ks.length)
mutual
def szT:T->Int->Int
 | .mk _ _ s ks l,left=>if left-s.size < 0 then -1 else if eg ks (left-s.size) < 0 then -1 else if eg ks (left-s.size)-l.length < 0 then -1 else dO l (eg ks (left-s.size)-l.length)
def dO:List T->Int->Int
 | [],left=>left
 | t::r,left=>if szT t left < 0 then -1 else dO r (szT t left)
end
theorem Ap:∀ {ks:List ByteArray} {left:Int},0<=left->iN ks left<=left/\-1<=iN ks left:=by
 intro ks
 induction ks with
 | nil=>intro left h;simp only[iN];omega
 | cons s r ih =>
   intro left h
   simp only[iN]
   split
   ·omega
   ·have:=ih (left:=left-s.size) (by omega);omega
theorem tz {ks:List ByteArray} {left:Int} (h:0<=left):eg ks left<=left/\-1<=eg ks left:=by
 simp only[eg]
 split
 ·omega
 ·have:=Ap (ks:=ks) (left:=left-ks.length) (by omega);omega
mutual
theorem pT:∀ {t:T} {left:Int},0<=left->szT t left<=left/\-1<=szT t left
 | .mk k n s ks l,left,h=>by
   simp only[szT]
   split
   ·omega
   ·have h1:=tz (ks:=ks) (left:=left-s.size) (by omega)
    split
    ·omega
    ·split
     ·omega
     ·have h2:=Aq (l:=l) (left:=eg ks (left-s.size)-l.length) (by omega);omega
theorem Aq:∀ {l:List T} {left:Int},0<=left->dO l left<=left/\-1<=dO l left
 | [],left,h=>by simp only[dO];omega
 | t::r,left,h=>by
   simp only[dO]
   have h1:=pT (t:=t) h
   split
   ·omega
   ·have h2:=Aq (l:=r) (left:=szT t left) (by omega);omega
end
mutual
def szF:F->Int->Int
 | .mk _ _ s v l,left=>if left-s.size < 0 then -1 else if szT v (left-s.size) < 0 then -1 else if szT v (left-s.size)-l.length < 0 then -1 else fV l (szT v (left-s.size)-l.length)
def fV:List F->Int->Int
 | [],left=>left
 | t::r,left=>if szF t left < 0 then -1 else fV r (szF t left)
end
mutual
theorem Ar:∀ {t:F} {left:Int},0<=left->szF t left<=left/\-1<=szF t left
 | .mk k n s v l,left,h=>by
   simp only[szF]
   split
   ·omega
   ·have h1:=pT (t:=v) (left:=left-s.size) (by omega)
    split
    ·omega
    ·split
     ·omega
     ·have h2:=At (l:=l) (left:=szT v (left-s.size)-l.length) (by omega);omega
theorem At:∀ {l:List F} {left:Int},0<=left->fV l left<=left/\-1<=fV l left
 | [],left,h=>by simp only[fV];omega
 | t::r,left,h=>by
   simp only[fV]
   have h1:=Ar (t:=t) h
   split
   ·omega
   ·have h2:=At (l:=r) (left:=szF t left) (by omega);omega
end
end Go.Proofs.Pw
