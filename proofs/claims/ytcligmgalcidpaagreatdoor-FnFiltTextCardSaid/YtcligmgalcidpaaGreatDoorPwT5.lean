/- Rows that hold rows of their own: what is put into them, and taken out. -/
import Derived.Test.YtcligmgalcidpaaGreatDoorPwT4
set_option linter.unusedSimpArgs false
set_option linter.unusedVariables false
set_option linter.unusedSectionVars false
set_option maxRecDepth 20000
namespace Go.Proofs.Pw
open Go.RowKit
variable [Globs]
section
variable {P:Program} {Γ:FuncId->Option Spec} {σ:St} {a:Act} {w w':World} {M M':Gh} {X:Nat->Prop} {B n:Nat} {w0:W0}
theorem Priv.repX {S:Nat->Prop} {sz:Nat} {es:List (List C)} {r:RV} (h:Priv w S sz es r) (h0:0 < sz):RepX w S r.h (.own sz es) r.v (ae r):=by
 rcases h.1 with ⟨e,us,hown,hf,hnD⟩|⟨rfl,A,hv⟩
 ·rcases hown.2 with ⟨hv,hl⟩|⟨g,cap,cur,hv,_,hheap,hnc,hcm,hcs,htake⟩
  ·have:=List.eq_nil_of_length_eq_zero hl
   subst this;rw[hv];exact .nil h0 hv
  ·cases cap with
   | zero =>
     have:=List.eq_nil_of_length_eq_zero (l:=es) (by omega)
     subst this;rw[hv];exact .nil h0 hv
   | succ cap =>
     obtain⟨f1,f2,ψ,f3,f4,f5⟩:=hf
     have hob:ax r.v g:=by rw[hv];simp[ax]
     have hp:RepX w S r.h (.own sz es) (.slice (some ⟨g,0,none⟩) es.length (cap+1)) (ae r):=by
      refine .own ψ h0 hv hheap hnc hcm hcs f1 (.inl hob) (fun p x hx=>⟨.inr (f3 p x hx),fun e=>hnD g hob (e ▸ f3 p x hx)⟩) f4 (fun k=>us.getD k undef) (fun i j e' c he hj=>?_) (fun i j e' c he hj=>?_)
      ·obtain⟨u,a1,_⟩:=f5 i j e' c he hj
       have a3:=a1
       rw[<-htake,List.getElem?_take] at a3
       split at a3
       ·simp only[List.getD_eq_getElem?_getD,a1,Option.getD_some]
        simpa using a3
       ·cases a3
      ·obtain⟨u,a1,a2⟩:=f5 i j e' c he hj
       simp only[List.getD_eq_getElem?_getD,a1,Option.getD_some]
       exact a2
     rw[<-hv] at hp;exact hp
 ·rw[hv];exact .nil h0 hv
theorem RepX.priv {S:Nat->Prop} {h:List (Nat × Nat)->Value} {sz:Nat} {es:List (List C)} {u:Value} {D:Nat->Prop} (k:RepX w S h (.own sz es) u D) (hD:∀ g,D g->g < w.heap.size) :
 ∃ D',Priv w S sz es ⟨h,D'⟩/\u=h []/\0 < sz/\∀ g,ae ⟨h,D'⟩ g->D g:=by
 cases k with
 | pl hr=>cases hr
 | @nil _ _ A _ h0 hh=>exact⟨fun _=>False,⟨.inr ⟨rfl,A,hh⟩,fun _ h=>h.elim⟩,hh.symm,h0,fun g hg=>by
    rcases hg with hg|hg
    ·rw[show RV.v ⟨h,fun _=>False⟩=_ from hh] at hg;cases A <;> simp[ax] at hg
    ·exact hg.elim⟩
 | @own _ _ _ g cap cur e _ ψ h0 hh hg hn hc hs hsz hDg hψ hd u hu hr =>
   have hv:RV.v ⟨h,fun x=>∃ p,ψ p x⟩=.slice (some ⟨g,0,none⟩) es.length cap:=hh
   have hm:=Nat.mul_le_mul_right sz hn
   refine⟨fun x=>∃ p,ψ p x,⟨.inl ⟨e,cur.toList.take (es.length*sz),⟨by simp;omega,.inr ⟨g,cap,cur,hv,Nat.zero_le _,hg,hn,hc,hs,rfl⟩⟩,⟨hsz,by simp;omega,ψ,fun p x hx=>⟨p,hx⟩,hd,fun i j e' c he hj=>?_⟩,fun g' hg' hD'=>?_⟩,fun g' ⟨p,hp⟩=>hD _ (hψ p g' hp).1⟩,hh.symm,h0,fun g' hg'=>?_⟩
   ·have hjs:j < sz:=by have:=(List.getElem?_eq_some_iff.1 hj).1;rw[hsz i e' he] at this;exact this
    have:=ea (List.getElem?_eq_some_iff.1 he).1 hjs
    exact⟨_,by rw[List.getElem?_take,if_pos this,Array.getElem?_toList];exact hu i j e' c he hj,hr i j e' c he hj⟩
   ·obtain⟨p,hp⟩:=hD'
    rw[hv] at hg'
    cases cap <;> simp[ax] at hg'
    exact (hψ p g' hp).2 hg'.symm
   ·rcases hg' with hg'|⟨p,hp⟩
    ·rw[hv] at hg'
     cases cap <;> simp[ax] at hg'
     subst hg';exact hDg
    ·exact (hψ p g' hp).1
theorem Mem.regroup {bx bx':List (Nat × List Q)} {rw_ rw':List (Nat × Nat × List (List C))} (h:Mem X B bx rw_ w M) (hB:B<=w.heap.size) (L:Nat->Prop) {ρ':Nat->RV} {f:Q->Q} (hρ:∀ i,¬ L i->ρ' i=M.ρ i)
 (hbx:∀ i q,(i,q) ∈ bx'->∃ q',(i,q') ∈ bx/\q=q'.map f) (hq:∀ q v,af w M q v->af w' { M with ρ:=ρ' } (f q) v)
 (hw:∀ g,g < w.heap.size->¬ (∃ i r,L i/\(i,r) ∈ rw_/\ae (M.ρ i) g)->w'.heap[g]?=w.heap[g]?)
 (hsize:w.heap.size<=w'.heap.size) (hrw:∀ i r,(i,r) ∈ rw'->¬ L i->(i,r) ∈ rw_)
 (hnew:∀ i sz es,L i->(i,sz,es) ∈ rw'->0 < sz/\Priv w' M.S sz es (ρ' i)/\∀ g,ae (ρ' i) g->w.heap.size<=g\/∃ j r,L j/\(j,r) ∈ rw_/\ae (M.ρ j) g)
 (hdis:∀ i r j r' g,L i->L j->i≠j->(i,r) ∈ rw'->(j,r') ∈ rw'->ae (ρ' i) g->¬ ae (ρ' j) g):Mem X B bx' rw' w' { M with ρ:=ρ' }:=by
 have hbl:∀ {i q},(i,q) ∈ bx->M.β i < w.heap.size:=fun {i q} h'=>by
  obtain⟨_,t',cells',h1,_⟩:=h.box i q h'
  exact (Array.getElem?_eq_some_iff.1 h1).1
 have hSk:∀ g,M.S g->w'.heap[g]?=w.heap[g]?:=fun g hg=>hw g (h.lt g hg) (fun ⟨i,r,_,hi,hp⟩=>h.sr i r g hi hp hg)
 have keep:∀ {i r g},(i,r) ∈ rw_->¬ L i->ae (M.ρ i) g->w'.heap[g]?=w.heap[g]?:=fun {i r g} hi hL hg=>by
  obtain⟨sz,es⟩:=r
  refine hw g ((h.row i sz es hi).2.1.lt hg) (fun ⟨j,r',hj,hm,hp⟩=>h.rr i _ j r' g hi hm (fun e=>hL (e ▸ hj)) hg hp)
 have old:∀ {i r g},(i,r) ∈ rw'->¬ L i->ae (ρ' i) g->(i,r) ∈ rw_/\ae (M.ρ i) g:=fun {i r g} hi hL hg=>⟨hrw i r hi hL,by rw[<-hρ i hL];exact hg⟩
 refine⟨fun i q hi=>?_,fun i sz es hi=>?_,fun i q j q' h1 h2 hne=>?_,fun i q j r h1 h2 hg=>?_,fun i r j r' g h1 h2 hne hg hg'=>?_,fun g hg=>Nat.lt_of_lt_of_le (h.lt g hg) hsize,fun i q h1=>?_,fun i r g h1 hg hs=>?_,?_⟩
 ·obtain⟨q',hj,rfl⟩:=hbx i q hi
  obtain⟨hB',t',cells',h1,h2,h3⟩:=h.box i q' hj
  exact⟨hB',t',cells',by show w'.heap[M.β i]?=_;rw[hw _ (hbl hj) (fun ⟨k,r,_,hk,hp⟩=>h.br i q' k r hj hk hp)];exact h1,eF hq ⟨h2,h3⟩⟩
 ·by_cases hL:L i
  ·obtain⟨h1,h2,h3⟩:=hnew i sz es hL hi
   refine⟨h1,h2,fun g hg=>?_⟩
   rcases h3 g hg with hg|⟨j,⟨sz',es'⟩,_,hj,hp⟩
   ·exact .inl (by omega)
   ·exact (h.row j sz' es' hj).2.2 g hp
  ·have hi':=hrw _ _ hi hL
   obtain⟨h1,h2,h3⟩:=h.row i sz es hi'
   simp only[hρ i hL]
   exact⟨h1,h2.move (fun _ h=>h) hSk (fun g hg=>keep hi' hL hg),h3⟩
 ·obtain⟨_,e1,_⟩:=hbx i q h1;obtain⟨_,e2,_⟩:=hbx j q' h2
  exact h.bb _ _ _ _ e1 e2 hne
 ·obtain⟨_,e1,_⟩:=hbx i q h1
  by_cases hL:L j
  ·obtain⟨sz,es⟩:=r
   rcases (hnew j sz es hL h2).2.2 _ hg with hg|⟨k,r',_,hk,hp⟩
   ·have:=hbl e1;exact absurd this (Nat.not_lt.2 hg)
   ·exact h.br _ _ _ _ e1 hk hp
  ·obtain⟨e2,e3⟩:=old h2 hL hg
   exact h.br _ _ _ _ e1 e2 e3
 ·by_cases hL:L i <;> by_cases hL':L j
  ·exact hdis i r j r' g hL hL' hne h1 h2 hg hg'
  ·obtain⟨e2,e3⟩:=old h2 hL' hg'
   obtain⟨sz,es⟩:=r
   rcases (hnew i sz es hL h1).2.2 _ hg with hg|⟨k,r1,hk1,hk,hp⟩
   ·obtain⟨sz',es'⟩:=r'
    have:=(h.row j sz' es' e2).2.1.lt e3;omega
   ·exact h.rr _ _ _ _ g hk e2 (fun e=>hL' (e ▸ hk1)) hp e3
  ·obtain⟨e2,e3⟩:=old h1 hL hg
   obtain⟨sz,es⟩:=r'
   rcases (hnew j sz es hL' h2).2.2 _ hg' with hg'|⟨k,r1,hk1,hk,hp⟩
   ·obtain⟨sz',es'⟩:=r
    have:=(h.row i sz' es' e2).2.1.lt e3;omega
   ·exact h.rr _ _ _ _ g e2 hk (fun e=>hL (e ▸ hk1)) e3 hp
  ·obtain⟨e2,e3⟩:=old h1 hL hg
   obtain⟨e4,e5⟩:=old h2 hL' hg'
   exact h.rr _ _ _ _ g e2 e4 hne e3 e5
 ·obtain⟨_,e1,_⟩:=hbx i q h1
  exact h.sb _ _ e1
 ·by_cases hL:L i
  ·obtain⟨sz,es⟩:=r
   rcases (hnew i sz es hL h1).2.2 _ hg with hg|⟨k,r1,_,hk,hp⟩
   ·have:=h.lt _ hs;omega
   ·exact h.sr _ _ g hk hp hs
  ·obtain⟨e2,e3⟩:=old h1 hL hg
   exact h.sr _ _ g e2 e3 hs
 ·exact h.gl.map (fun _ h=>h) hSk
def nmQ:Q->Option Nat
 | .own j=>some j
 | _=>none
def hQ (M:Gh):Q->List (Nat × Nat)->Value
 | .own k=>(M.ρ k).h
 | _=>fun _=>undef
def DQ (M:Gh):Q->Nat->Prop
 | .own k=>ae (M.ρ k)
 | _=>fun _=>False
theorem pg {rw_:List (Nat × Nat × List (List C))} {q:Q} {c:C} {l:List Nat} (h:q.toX rw_=some (c,l)):(∃ j sz es,q=.own j/\get? j rw_=some (sz,es)/\c=.own sz es/\l=[j])\/(nmQ q=none/\q.toC=some c/\l=[]):=by
 cases q with
 | own j =>
   simp only[Q.toX] at h
   split at h
   ·rename_i sz es hq
    simp only[Option.some.injEq,Prod.mk.injEq] at h
    exact .inl ⟨j,sz,es,rfl,hq,h.1.symm,h.2.symm⟩
   ·cases h
 | _ =>
   simp only[Q.toX] at h
   split at h
   ·rename_i x hx
    simp only[Option.some.injEq,Prod.mk.injEq] at h
    exact .inr ⟨rfl,by rw[hx,h.1],h.2.symm⟩
   ·cases h
theorem nC {rw_:List (Nat × Nat × List (List C))}:∀ {qs:List Q} {cs:List C} {l:List Nat},gH rw_ qs=some (cs,l) ->
 cs.length=qs.length/\l=qs.filterMap nmQ/\∀ (j:Nat) q,qs[j]?=some q->∃ c l',cs[j]?=some c/\q.toX rw_=some (c,l'):=by
 intro qs
 induction qs with
 | nil=>intro cs l h;simp only[gH,Option.some.injEq,Prod.mk.injEq] at h;obtain⟨rfl,rfl⟩:=h;simp
 | cons q qs ih =>
   intro cs l h
   simp only[gH] at h
   split at h
   ·rename_i c l1 cs1 l2 e1 e2
    simp only[Option.some.injEq,Prod.mk.injEq] at h
    obtain⟨rfl,rfl⟩:=h
    obtain⟨i1,i2,i3⟩:=ih e2
    refine⟨by simp[i1],?_,fun j q' hq=>?_⟩
    ·rcases pg e1 with ⟨j,sz,es,rfl,_,_,rfl⟩|⟨hn,_,rfl⟩
     ·simp[List.filterMap_cons,nmQ,i2]
     ·simp[List.filterMap_cons,hn,i2]
    ·cases j with
     | zero=>simp only[List.getElem?_cons_zero,Option.some.injEq] at hq;subst hq;exact⟨c,l1,rfl,e1⟩
     | succ j=>simpa using i3 j q' (by simpa using hq)
   ·cases h
theorem II {rw_:List (Nat × Nat × List (List C))}:∀ {eqs:List (List Q)} {es:List (List C)} {l:List Nat},jz rw_ eqs=some (es,l) ->
 es.length=eqs.length/\l=eqs.flatten.filterMap nmQ/\∀ (j:Nat) q,eqs[j]?=some q->∃ c l',es[j]?=some c/\gH rw_ q=some (c,l'):=by
 intro eqs
 induction eqs with
 | nil=>intro cs l h;simp only[jz,Option.some.injEq,Prod.mk.injEq] at h;obtain⟨rfl,rfl⟩:=h;simp
 | cons q qs ih =>
   intro cs l h
   simp only[jz] at h
   split at h
   ·rename_i c l1 cs1 l2 e1 e2
    simp only[Option.some.injEq,Prod.mk.injEq] at h
    obtain⟨rfl,rfl⟩:=h
    obtain⟨i1,i2,i3⟩:=ih e2
    refine⟨by simp[i1],by rw[List.flatten_cons,List.filterMap_append,i2,(nC e1).2.1],fun j q' hq=>?_⟩
    cases j with
    | zero=>simp only[List.getElem?_cons_zero,Option.some.injEq] at hq;subst hq;exact⟨c,l1,rfl,e1⟩
    | succ j=>simpa using i3 j q' (by simpa using hq)
   ·cases h
theorem ph {x:Nat} {l:List Nat} (h:bt (x::l)=true):x ∉ l/\bt l=true:=by
 simp only[bt,Bool.and_eq_true,Bool.not_eq_true',List.contains_eq_mem,decide_eq_false_iff_not] at h
 exact h
theorem yC {l:List Q} {p k:Nat} (h:l[p]?=some (.own k)):k ∈ l.filterMap nmQ:=by
 rw[List.mem_filterMap];exact⟨_,List.mem_of_getElem? h,rfl⟩
theorem IJ:∀ {l:List Q} {p p' k:Nat},bt (l.filterMap nmQ)=true->l[p]?=some (.own k)->l[p']?=some (.own k)->p=p':=by
 intro l
 induction l with
 | nil=>intro p p' k _ h;simp at h
 | cons q l ih =>
   intro p p' k hn h h'
   have hn2:bt (l.filterMap nmQ)=true:=by
    rw[List.filterMap_cons] at hn
    split at hn
    ·exact hn
    ·exact (ph hn).2
   have head:∀ {p:Nat},q=.own k->l[p]?=some (.own k)->False:=fun e hp=>by
    subst e
    rw[List.filterMap_cons] at hn
    exact (ph hn).1 (yC hp)
   cases p with
   | zero=>cases p' with
     | zero=>rfl
     | succ p'=>exact (head (by simpa using h) (by simpa using h')).elim
   | succ p=>cases p' with
     | zero=>exact (head (by simpa using h') (by simpa using h)).elim
     | succ p'=>exact congrArg (·+1) (ih hn2 (by simpa using h) (by simpa using h'))
def DL (M:Gh) (l:List Q) (p g:Nat):Prop:=∃ k,l[p]?=some (.own k)/\ae (M.ρ k) g
theorem yD (mem:Mem X B σ.bx σ.rw w M) {l:List Q} (hall:∀ (p:Nat) q,l[p]?=some q->∃ c l',q.toX σ.rw=some (c,l')) (hnd:bt (l.filterMap nmQ)=true) {p p' g:Nat} (hne:p≠p') (h:DL M l p g):¬ DL M l p' g:=by
 rintro⟨k',h3,h4⟩
 obtain⟨k,h1,h2⟩:=h
 have key:∀ {p k:Nat},l[p]?=some (.own k)->∃ r,(k,r) ∈ σ.rw:=fun hp=>by
  obtain⟨c,l',hx⟩:=hall _ _ hp
  rcases pg hx with ⟨j,sz,es,he,hq,_,_⟩|⟨hn,_,_⟩
  ·cases he;exact⟨_,get?_mem hq⟩
  ·cases hn
 obtain⟨r,hr⟩:=key h1;obtain⟨r',hr'⟩:=key h3
 exact mem.rr _ _ _ _ g hr hr' (fun e=>hne (IJ hnd h1 (e ▸ h3))) h2 h4
theorem yE {l:List Q} {p g:Nat} (h:DL M l p g):∃ k ∈ l.filterMap nmQ,ae (M.ρ k) g:=by
 obtain⟨k,h1,h2⟩:=h
 exact⟨k,yC h1,h2⟩
theorem yF {l:List Q} (hall:∀ (p:Nat) q,l[p]?=some q->∃ c l',q.toX σ.rw=some (c,l')) {k:Nat} (hk:k ∈ l.filterMap nmQ):∃ r,(k,r) ∈ σ.rw:=by
 rw[List.mem_filterMap] at hk
 obtain⟨q,hq,he⟩:=hk
 obtain⟨p,hp⟩:=List.getElem?_of_mem hq
 obtain⟨c,l',hx⟩:=hall _ _ hp
 rcases pg hx with ⟨j,sz,es,rfl,hq,_,_⟩|⟨hn,_,_⟩
 ·cases he;exact⟨_,get?_mem hq⟩
 ·rw[hn] at he;cases he
theorem yG (mem:Mem X B σ.bx σ.rw w M) {q:Q} {c:C} {l':List Nat} {u:Value} (hx:q.toX σ.rw=some (c,l')) (hr:af w M q u):RepX w M.S (hQ M q) c u (DQ M q):=by
 rcases pg hx with ⟨j,sz,es,rfl,hq,rfl,_⟩|⟨hn,hc,_⟩
 ·obtain⟨h0,hp,_⟩:=mem.row _ _ _ (get?_mem hq)
  rw[hr.1];exact hp.repX h0
 ·exact .pl (cQ hr hc)
theorem ln {l:List Nat}:∀ {r:List (Nat × Nat × List (List C))} {p:Nat × Nat × List (List C)},p ∈ gI l r->p.1 ∉ l/\p ∈ r:=by
 induction l with
 | nil=>intro r p h;exact⟨by simp,h⟩
 | cons i l ih =>
   intro r p h
   obtain⟨h1,h2⟩:=ih (r:=del i r) h
   obtain⟨h3,h4⟩:=bh (x:=p.2) h2
   exact⟨by simp only[List.mem_cons,not_or];exact⟨h3,h1⟩,h4⟩
theorem IK {α:Type} {sz:Nat}:∀ {es:List (List α)} {i j:Nat} {e:List α},(∀ (i:Nat) e,es[i]?=some e->e.length=sz)->j < sz->es[i]?=some e->es.flatten[i*sz+j]?=e[j]?:=by
 intro es
 induction es with
 | nil=>intro i j e _ _ h;simp at h
 | cons x es ih =>
   intro i j e hs hj h
   have hx:=hs 0 x rfl
   rw[List.flatten_cons]
   cases i with
   | zero=>simp at h;subst h;rw[Nat.zero_mul,Nat.zero_add,List.getElem?_append_left (by omega)]
   | succ i =>
     rw[List.getElem?_append_right (by rw[hx,Nat.add_mul];omega)]
     have:=ih (i:=i) (j:=j) (e:=e) (fun i e h=>hs (i+1) e (by simpa using h)) hj (by simpa using h)
     rw[<-this];congr 1;rw[hx,Nat.add_mul];omega
theorem IL (ht:∀ t p,(t,p) ∈ σ.tm->ak w M p (a.tmps.getD t undef)) {sz:Nat} :
 ∀ (ps:List (Nat × Operand)) (ps':List (XO × Option Nat)) (k:Nat) (vc:Prop) (es:List (List Q)) (cs:Array Value),dH k ps ps' sz=true->jy σ sz ps'=some (vc,es)->vc ->
  cs.size=(k+ps.length)*sz->∃ cs',Instr.fill (fun i=>some (i*sz,sz)) cs (ps.map fun (i,x)=>(i,a.eval x))=some cs'/\cs'.size=cs.size/\(∀ j,j < k*sz->cs'[j]?=cs[j]?) /\
   es.length=ps'.length/\(∀ (i:Nat) e,es[i]?=some e->e.length=sz)/\∀ (i j:Nat) e c,es[i]?=some e->e[j]?=some c->∃ u,cs'[(k+i)*sz+j]?=some u/\u.oneCell'=true/\af w M c u:=by
 intro ps
 induction ps with
 | nil =>
   intro ps' k vc es cs hk hb hvc hs
   cases ps' with
   | nil =>
     simp only[jy,Option.some.injEq,Prod.mk.injEq] at hb
     rw[<-hb.2]
     exact⟨cs,by simp[Instr.fill],rfl,fun _ _=>rfl,rfl,by simp,by simp⟩
   | cons _ _=>simp[dH] at hk
 | cons p ps ih =>
   intro ps' k vc es cs hk hb hvc hs
   obtain⟨i,o⟩:=p
   cases ps' with
   | nil=>simp[dH] at hk
   | cons p' ps' =>
     obtain⟨x,ag⟩:=p'
     simp only[dH,Bool.and_eq_true,beq_iff_eq] at hk
     obtain⟨⟨⟨rfl,ho⟩,hag⟩,hk⟩:=hk
     simp only[jy] at hb
     split at hb
     ·rename_i g p vc' es' e1 e2
      split at hb
      ·rename_i qs hq
       simp only[Option.some.injEq,Prod.mk.injEq] at hb
       obtain⟨rfl,rfl⟩:=hb
       obtain⟨hg,hl,hv⟩:=hvc
       have rx:=aC (o:=o) (x:=x) ht ho (by rw[e1];exact hg)
       rw[e1] at rx
       obtain⟨hrel,hlen⟩:=jE rx hq
       generalize hvv:a.eval o=v at *
       have hvl:v.cells.toList.length=sz:=by simp[hrel.1,hl]
       simp only[List.length_cons] at hs
       have hroom:i*sz+0+v.cells.toList.length<=cs.size:=by rw[hvl,hs];have:=Nat.add_mul i (ps.length+1) sz;have:=Nat.add_mul ps.length 1 sz;omega
       obtain⟨g1,g2⟩:=sk (i*sz) v.cells.toList 0 cs hroom
       have hz:v.cells.zipIdx.foldl (fun cs (x:Value × Nat)=>cs.setIfInBounds (i*sz+x.2) x.1) cs=(v.cells.toList.zipIdx 0).foldl (fun cs (x:Value × Nat)=>cs.setIfInBounds (i*sz+x.2) x.1) cs:=by
        rw[<-Array.foldl_toList];congr 1;simp
       have hm:(i+1)*sz=i*sz+sz:=by rw[Nat.add_mul];omega
       obtain⟨cs',f1,f2,f3,f4,f5,f6⟩:=ih ps' (i+1) vc' es' _ hk e2 hv (by rw[g1,hs];congr 1;omega)
       refine⟨cs',?_,f2.trans g1,fun j hj=>?_,by simp[f4],fun j e he=>?_,fun j j' e c he hc=>?_⟩
       ·simp only[List.map_cons,Instr.fill]
        rw[if_neg]
        ·rw[hvv,hz];exact f1
        ·rw[hvv]
         have:v.cells.size=sz:=by simpa using hvl
         simp only[ne_eq,Bool.or_eq_true,decide_eq_true_eq,not_or]
         simp at hroom
         omega
       ·rw[f3 j (by omega),g2 j,if_neg (by omega)]
       ·cases j with
        | zero=>simp at he;subst he;exact hl
        | succ j=>exact f5 j e (by simpa using he)
       ·cases j with
        | zero =>
          simp at he;subst he
          obtain⟨u,hu,h1,hr⟩:=hrel.2 j' c hc
          have hj':j' < sz:=by have:=(List.getElem?_eq_some_iff.1 hc).1;omega
          refine⟨u,?_,h1,hr⟩
          rw[Nat.add_zero,f3 _ (by omega),g2,if_pos (by omega)]
          rw[show i*sz+j'-(i*sz+0)=j' by omega]
          simpa using hu
        | succ j =>
          obtain⟨u,hu,hr⟩:=f6 j j' e c (by simpa using he) hc
          exact⟨u,by rw[show i+(j+1)=i+1+j by omega];exact hu,hr⟩
      ·cases hb
     ·cases hb
theorem IM (hs:Sim X n B w0 σ a w M) {o:Oper} {t:TypeId} {len:Nat} {ps:Array (Nat × Operand)} {sz:Nat} {ps':List (XO × Option Nat)} (ho:o.op=.buildSlice t len ps) (hk:lg P t len ps sz ps'=true) {d:Nat} (e1:o.dst=some d) (hdn:d < n)
 {vc:Prop} {eqs:List (List Q)} {es:List (List C)} {js:List Nat} (hb:jy σ sz ps'=some (vc,eqs)) (hx:jz σ.rw eqs=some (es,js)) (hnd:bt (d::js)=true) (hvc:vc) (h0:0 < sz)
 {next:Act->World->Prop} {E:Exit->Act->World->Prop} (hn:∀ a' w' M',Sim X n B w0 { tm:=upd d (.q (.own d)) (σ.map (Q.killO d)).tm,bx:=(σ.map (Q.killO d)).bx,rw:=upd d (sz,es) (gI js σ.rw) } a' w' M'->next a' w'):o.wp P a w next E:=by
 obtain⟨hdj,hnd⟩:=ph hnd
 obtain⟨x1,x2,x3⟩:=II hx
 unfold lg at hk
 split at hk
 case h_2=>cases hk
 rename_i e hu
 split at hk
 case h_2=>cases hk
 rename_i i hi
 simp only[Bool.and_eq_true,beq_iff_eq,bne_iff_ne,ne_eq,decide_eq_true_eq] at hk
 obtain⟨⟨⟨⟨⟨rfl,h0'⟩,rfl⟩,h1⟩,h2⟩,h3⟩:=hk
 split at h3
 case h_2=>cases h3
 rename_i z hz
 rw[beq_iff_eq] at h3
 have hpl:=ye h1
 obtain⟨cs',f1,f2,_,f4,f5,f6⟩:=IL (sz:=i.size) hs.tm ps.toList ps' 0 vc eqs ((Array.range (ps.toList.length*i.size)).map (z.cells[· % z.cells.size]!)) h1 hb hvc (by simp)
 simp only[Array.length_toList,Nat.zero_add] at f1 f2 f6
 have hps:ps.size=ps'.length:=by simpa using hpl
 have hlen:es.length=ps'.length:=x1.trans f4
 have hrun:(Instr.buildSlice t ps'.length (ps.map fun (i,x)=>(i,a.eval x))).run P w=.ok (.slice (some ⟨w.heap.size,0,none⟩) ps'.length ps'.length) (w.alloc (.cells cs' e)):=by
  have hfill:Instr.fill (fun j=>some (j*i.size,i.size)) ((Array.range (ps'.length*i.size)).map (z.cells[· % z.cells.size]!)) (ps.toList.map fun x=>(x.1,a.eval x.2))=some cs':=by
   rw[<-hps];exact f1
  have hbig:¬ (16777216 < ps'.length*i.size):=by omega
  by_cases hn':ps'.length*i.size=0
  ·have hp0:ps'.length=0:=by
    rcases Nat.mul_eq_zero.1 hn' with h|h <;> omega
   have hpe:ps.toList=[]:=List.eq_nil_of_length_eq_zero (by rw[Array.length_toList,hps];exact hp0)
   rw[hpe] at hfill
   simp only[hp0,List.map_nil,Instr.fill,Nat.zero_mul,Option.some.injEq] at hfill
   subst hfill
   simp[Instr.buildSlice,run_underlying hu,sizeOf,typeInfo,hi,hp0,newRow,hpe,Instr.fill,show Array.range 0=#[] from rfl]
  ·simp[Instr.buildSlice,run_underlying hu,sizeOf,typeInfo,hi,zeroValue,hz,hbig,hn',hfill,newRow]
 have hex:(execOp a.eval o).run P w=.ok (.value (.slice (some ⟨w.heap.size,0,none⟩) ps'.length ps'.length)) (w.alloc (.cells cs' e)):=by
  unfold execOp;rw[ho];simp only[Sem.run_bind,hrun];rfl
 have hcs:cs'.size=ps'.length*i.size:=by rw[f2];simp[hps]
 have hall:∀ (p:Nat) q,eqs.flatten[p]?=some q->∃ c l',q.toX σ.rw=some (c,l'):=fun p q hp=>by
  obtain⟨qs,hqs,hq⟩:=List.mem_flatten.1 (List.mem_of_getElem? hp)
  obtain⟨i',hi'⟩:=List.getElem?_of_mem hqs
  obtain⟨j',hj'⟩:=List.getElem?_of_mem hq
  obtain⟨_,_,_,k2⟩:=x3 i' qs hi'
  obtain⟨c,l',_,k3⟩:=(nC k2).2.2 j' q hj'
  exact⟨c,l',k3⟩
 rw[x2] at hnd hdj
 let rv:RV:=⟨fun π=>match π with
  | []=>.slice (some ⟨w.heap.size,0,none⟩) ps'.length ps'.length
  | (i',j')::π=>match eqs.flatten[i'*i.size+j']? with
    | some q=>hQ M q π
    | none=>undef,fun g=>∃ p,DL M eqs.flatten p g⟩
 have hrv:rv.v=.slice (some ⟨w.heap.size,0,none⟩) ps'.length ps'.length:=rfl
 have hDs:∀ g,rv.D g->∃ j r,j ∈ js/\(j,r) ∈ σ.rw/\ae (M.ρ j) g:=fun g ⟨p,hp⟩=>by
  obtain⟨k,hk,hg⟩:=yE hp
  obtain⟨r,hr⟩:=yF hall hk
  exact⟨k,r,by rw[x2];exact hk,hr,hg⟩
 have hlt:∀ g,rv.D g->g < w.heap.size:=fun g hg=>by
  obtain⟨j,⟨sz,es⟩,_,hr,hg⟩:=hDs g hg
  exact (hs.mem.row j sz es hr).2.1.lt hg
 have hup:=sy (M:=M) hs.mem.lt cs' e
 have hsame:∀ g,g < w.heap.size->(w.alloc (.cells cs' e)).heap[g]?=w.heap[g]?:=fun g hg=>Below.heap_alloc w _ g hg
 have hsz:∀ (i':Nat) e',es[i']?=some e'->e'.length=i.size:=fun i' e' he=>by
  have hi':=(List.getElem?_eq_some_iff.1 he).1
  obtain⟨c,l',k1,k2⟩:=x3 i' _ (List.getElem?_eq_getElem (by omega))
  rw[he] at k1;cases k1
  rw[(nC k2).1];exact f5 i' _ (List.getElem?_eq_getElem (by omega))
 have hp:Priv (w.alloc (.cells cs' e)) M.S i.size es rv:=by
  refine⟨.inl ⟨e,cs'.toList.take (es.length*i.size),⟨by simp only[List.length_take,Array.length_toList,hcs,hlen];omega,.inr ⟨w.heap.size,ps'.length,cs',by rw[hrv,hlen],Nat.zero_le _,heap_alloc_new w _,by omega,?_,hcs,rfl⟩⟩,⟨hsz,by simp only[List.length_take,Array.length_toList,hcs,hlen];omega,DL M eqs.flatten,fun p x hx=>⟨p,hx⟩,fun p q x hpq hp=>yD hs.mem hall hnd hpq hp,fun i' j' e' c he hj=>?_⟩,fun g hg hD=>?_⟩,fun g hg=>oO (hlt g hg) (hsame g (hlt g hg))⟩
  ·have:ps'.length<=ps'.length*i.size:=Nat.le_mul_of_pos_right _ (by omega)
   simp only[maxLen];omega
  ·have hi':=(List.getElem?_eq_some_iff.1 he).1
   have hjs:j' < i.size:=by have:=(List.getElem?_eq_some_iff.1 hj).1;rw[hsz i' e' he] at this;exact this
   obtain⟨qe,hqe⟩:∃ qe,eqs[i']?=some qe:=⟨_,List.getElem?_eq_getElem (show i' < eqs.length by omega)⟩
   obtain⟨c1,l',k1,k2⟩:=x3 i' _ hqe
   rw[he] at k1;cases k1
   obtain⟨qj,hqj⟩:∃ qj,qe[j']?=some qj:=⟨_,List.getElem?_eq_getElem (show j' < qe.length by rw[f5 i' _ hqe];exact hjs)⟩
   obtain⟨c2,l2,k3,k4⟩:=(nC k2).2.2 j' _ hqj
   rw[hj] at k3;cases k3
   obtain⟨u,g1,g2,g3⟩:=f6 i' j' _ _ hqe hqj
   have hfl:eqs.flatten[i'*i.size+j']?=some qj:=by rw[IK f5 hjs hqe];exact hqj
   refine⟨u,?_,?_⟩
   ·rw[List.getElem?_take,if_pos (ea (by omega) hjs),Array.getElem?_toList];exact g1
   ·have hh:(fun π=>rv.h ((i',j')::π))=hQ M qj:=by
     funext π;show (match eqs.flatten[i'*i.size+j']? with|some q=>hQ M q π|none=>undef)=_
     rw[hfl]
    rw[hh]
    have:=yG hs.mem k4 g3
    refine (this.move (fun _ h=>h) (fun g hg=>hsame g (hs.mem.lt g hg)) (fun g hg=>hsame g (hlt g ?_))).wide (fun g hg=>?_)
    ·refine⟨i'*i.size+j',?_⟩
     cases qj with
     | own k=>exact⟨k,hfl,hg⟩
     | _=>exact hg.elim
    ·cases qj with
     | own k=>exact⟨k,hfl,hg⟩
     | _=>exact hg.elim
  ·have:=hlt g hD
   rw[hrv] at hg
   generalize ps'.length=m at hg
   cases m <;> simp[ax] at hg;omega
 refine cG hex (hn _ _ (M.nr d rv) ?_)
 rw[e1]
 refine hs.mapPut hdn (eG hup hs.mem.lt) ?_ (hup.fr.weak hs.hB (fun g _ h=>h.elim)) ?_ rfl (fun _ _=>rfl) (fun i hi hbi=>by simp only[Gh.nr];rw[if_neg (by omega)])
 ·refine hs.mem.regroup hs.hB (fun j=>j=d\/j ∈ js) (ρ':=(M.nr d rv).ρ) (f:=Q.killO d) (fun i hi=>by simp only[Gh.nr];rw[if_neg (fun e=>hi (.inl e))]) (fun i' q hq=>?_) (eG hup hs.mem.lt) (fun g hg _=>hsame g hg) hup.fr.size (fun i' r hr hL=>?_) (fun i' sz' es' hL hr=>?_) (fun i1 r1 i2 r2 g hL1 hL2 hne h1 h2 _ _=>?_)
  ·simp only[St.map,List.mem_map,Prod.mk.injEq] at hq
   obtain⟨⟨j,q'⟩,hj,rfl,rfl⟩:=hq
   exact⟨q',hj,rfl⟩
  ·rcases aE hr with ⟨rfl,_⟩|⟨_,hr⟩
   ·exact absurd (.inl rfl) hL
   ·exact (ln hr).2
  ·rcases aE hr with ⟨rfl,he⟩|⟨hne',hr⟩
   ·cases he
    simp only[Gh.nr,if_true]
    refine⟨h0,hp,fun g hg=>?_⟩
    rcases hg with hg|hg
    ·rw[hrv] at hg
     generalize ps'.length=m at hg
     cases m <;> simp[ax] at hg;exact .inl (by omega)
    ·obtain⟨j,r,hj,hr',hg⟩:=hDs g hg
     exact .inr ⟨j,r,.inr hj,hr',hg⟩
   ·exact absurd (hL.resolve_left hne') (ln hr).1
  ·have key:∀ {i0:Nat} {r},(i0=d\/i0 ∈ js)->(i0,r) ∈ upd d (i.size,es) (gI js σ.rw)->i0=d:=fun {i0 r} hL h=>by
    rcases hL with h'|h'
    ·exact h'
    ·rcases aE h with ⟨rfl,_⟩|⟨_,h⟩
     ·rfl
     ·exact absurd h' (ln h).1
   exact hne ((key hL1 h1).trans (key hL2 h2).symm)
 ·exact⟨by simp[Gh.nr,hrv],rfl⟩
theorem sH {i:Nat} {r:RV} (hr:r.v=(M.ρ i).v) (q:Q) (v:Value) (h:af w M q v):af w (M.nr i r) (q.killN i) v:=by
 have e:∀ j,((M.nr i r).ρ j).v=(M.ρ j).v:=fun j=>by
  by_cases h:j=i
  ·subst h;simp[Gh.nr,hr]
  ·simp[Gh.nr,h]
 cases q with
 | own j=>simp only[Q.killN,af,e] at *;exact h
 | rp j sz k o=>simp only[Q.killN,af,e] at *;exact h
 | vw j sz lo n=>simp only[Q.killN,af,e] at *;exact h
 | vc j sz lo n c=>simp only[Q.killN,af,e] at *;exact h
 | nr j π =>
   simp only[Q.killN]
   split
   ·trivial
   ·rename_i hne;simp only[af,Gh.nr,if_neg hne] at *;exact h
 | np j π sz k o =>
   simp only[Q.killN]
   split
   ·trivial
   ·rename_i hne;simp only[af,Gh.nr,if_neg hne] at *;exact h
 | _=>exact h
theorem yH (mem:Mem X B σ.bx σ.rw w M) {l:List Q} (hall:∀ (p:Nat) q,l[p]?=some q->∃ c l',q.toX σ.rw=some (c,l')) {p g:Nat} (h:DL M l p g):∃ j r,j ∈ l.filterMap nmQ/\(j,r) ∈ σ.rw/\ae (M.ρ j) g:=by
 obtain⟨k,hk,hg⟩:=yE h
 obtain⟨r,hr⟩:=yF hall hk
 exact⟨k,r,hk,hr,hg⟩
theorem IN (hs:Sim X n B w0 σ a w M) {o:Oper} {t:TypeId} {x y:Operand} {x' y':XO} {ag:Option Nat} (ho:o.op=.store t x y) (hd:o.dst=none) (hx:okO x x'=true) (hy:okO y y'=true) (hag:cF P t ag=true)
 {g g':Bool} {i sz k off:Nat} {p:PV} (e1:σ.v x'=(g,.q (.rp i sz k off))) (e2:σ.v y'=(g',p)) {es:List (List C)} {ys:List Q} {cs:List C} {js:List Nat} (hq:get? i σ.rw=some (sz,es)) (hys:cellsOf p ag=some ys) (hcs:gH σ.rw ys=some (cs,js)) (hnd:bt (i::js)=true)
 (hg:g=true) (hg':g'=true) (hk:k < es.length) (hl:off+cs.length<=sz)
 {next:Act->World->Prop} {E:Exit->Act->World->Prop} (hn:∀ w' M',Sim X n B w0 { σ.map (Q.killN i) with rw:=upd i (sz,es.set k (eY (es.getD k []) off cs)) (gI js σ.rw) } a w' M'->next a w'):o.wp P a w next E:=by
 obtain⟨hij,hnd⟩:=ph hnd
 have rx:=aC (o:=x) (x:=x') hs.tm hx (by rw[e1];exact hg);rw[e1] at rx
 have ry:=aC (o:=y) (x:=y') hs.tm hy (by rw[e2];exact hg');rw[e2] at ry
 obtain⟨hrel,hlen⟩:=jE ry hys
 obtain⟨hcl,hjs,hcx⟩:=nC hcs
 have hall:∀ (p:Nat) q,ys[p]?=some q->∃ c l',q.toX σ.rw=some (c,l'):=fun p q hp=>by obtain⟨c,l',_,h⟩:=hcx p q hp;exact⟨c,l',h⟩
 rw[hjs] at hnd hij
 have hin:=get?_mem hq
 obtain⟨h0,hp,hmine⟩:=hs.mem.row i sz es hin
 obtain⟨gg,nn,cap,hρ,hv⟩:=rx
 obtain⟨e,us,hown,hf,hnD⟩:∃ e us,w.ownsRow 0 e sz (M.ρ i).v es.length us/\FlatX w M.S (M.ρ i).h (M.ρ i).D sz es us/\∀ g,ax (M.ρ i).v g->¬ (M.ρ i).D g:=by
  rcases hp.1 with h|⟨rfl,_⟩
  ·exact h
  ·simp at hk
 obtain⟨hf1,hf2,ψ,f3,f4,f5⟩:=hf
 rw[hρ] at hown
 obtain⟨hul,hown⟩:=hown
 obtain⟨gg',cap',cur,hh,_,hheap,hnc,hcm,hcs',htake⟩:=hown.resolve_left (fun h=>by cases h.1)
 injection hh with h1 h2 h3
 injection h1 with h1
 injection h1 with h1
 subst h1 h2 h3
 have hel:es[k]?=some (es.getD k []):=by simp[List.getD,List.getElem?_eq_getElem hk]
 generalize es.getD k []=ek at *
 have hesz:=hf1 k _ hel
 have hfit:k*sz+off+cs.length<=es.length*sz:=by
  have:=Nat.mul_le_mul_right sz (show k+1<=es.length by omega)
  rw[Nat.add_mul] at this;omega
 have hnc':=Nat.mul_le_mul_right sz hnc
 have hgd:ag.getD 1=cs.length:=by omega
 have hrun:=sv (w:=w) hag hheap (v:=a.eval y) (o:=k*sz+off) (by rw[hrel.1,hlen]) (by omega) hrel.all_one
 have hvl:(a.eval y).cells.toList.length=cs.length:=by rw[Array.length_toList,hrel.1,hcl]
 have hob:ax (M.ρ i).v gg:=by
  rw[hρ]
  cases cap with
  | zero=>omega
  | succ c=>simp[ax]
 have hpb:ae (M.ρ i) gg:=.inl hob
 have hnS:¬ M.S gg:=hs.mem.sr i _ gg hin hpb
 have hu0:=ny (M:=M) hs.mem.lt (g:=gg) (cs:=(cur.toList.take (k*sz+off)++(a.eval y).cells.toList++cur.toList.drop (k*sz+off+ag.getD 1)).toArray) hnS
 generalize hw':w.setRow gg (cur.toList.take (k*sz+off)++(a.eval y).cells.toList++cur.toList.drop (k*sz+off+ag.getD 1)).toArray=w' at *
 have hheap':w'.heap[gg]?=some (.cells (cur.toList.take (k*sz+off)++(a.eval y).cells.toList++cur.toList.drop (k*sz+off+ag.getD 1)).toArray e (0,0)):=by
  rw[<-hw'];exact setRow_heap _ _ _ _ _ _ hheap
 have hsame:∀ g,g≠gg->w'.heap[g]?=w.heap[g]?:=fun g hg=>by rw[<-hw'];exact setRow_other _ _ _ _ hg
 have hdl:∀ {p g},DL M ys p g->g≠gg/\¬ (M.ρ i).D g/\g < w.heap.size:=fun {p g} h=>by
  obtain⟨j,r,hj,hr,hg⟩:=yH hs.mem hall h
  have hne:i≠j:=fun e=>hij (e ▸ hj)
  refine⟨fun e=>hs.mem.rr _ _ _ _ _ hin hr hne hpb (e ▸ hg),fun hD=>hs.mem.rr _ _ _ _ _ hin hr hne (.inr hD) hg,?_⟩
  obtain⟨sz',es'⟩:=r
  exact (hs.mem.row j sz' es' hr).2.1.lt hg
 let rv:RV:=⟨fun π=>match π with
  | []=>(M.ρ i).h []
  | (a,b)::π=>if a=k/\off<=b/\b < off+ys.length then (match ys[b-off]? with
    | some q=>hQ M q π
    | none=>undef) else (M.ρ i).h ((a,b)::π),fun g=>(M.ρ i).D g\/∃ p,DL M ys p g⟩
 have hrv:rv.v=(M.ρ i).v:=rfl
 have hDn:∀ g,rv.D g->g≠gg/\g < w.heap.size:=fun g hg=>by
  rcases hg with hg|⟨p,hg⟩
  ·exact⟨fun e=>hnD gg hob (e ▸ hg),hp.2 g hg⟩
  ·exact⟨(hdl hg).1,(hdl hg).2.2⟩
 have hrq:∀ q v,af w M q v->af w' (M.nr i rv) (q.killN i) v:=fun q v h=>sH hrv q v (hu0.q hs.mem.lt h)
 unfold Oper.wp
 have hex:(execOp a.eval o).run P w=.ok .skip w':=by
  unfold execOp;rw[ho];simp only[hv,Sem.run_bind,hrun];rfl
 rw[hex]
 show next (a.put o.dst undef) _
 rw[hd]
 refine hn _ (M.nr i rv) ⟨hs.size,hs.defs,fun t p h=>?_,?_,hs.fr.trans (hu0.fr.weak hs.hB (fun g hg e=>?_)),Nat.le_trans hs.hB hu0.fr.size,hs.sS,hs.sβ,fun i' hi hb=>?_⟩
 ·simp only[St.map,List.mem_map,Prod.mk.injEq] at h
  obtain⟨⟨t',p'⟩,h',rfl,rfl⟩:=h
  exact cX hrq (hs.tm _ _ h')
 ·refine hs.mem.regroup hs.hB (fun j=>j=i\/j ∈ js) (ρ':=(M.nr i rv).ρ) (f:=Q.killN i) (fun j hj=>by simp only[Gh.nr];rw[if_neg (fun e=>hj (.inl e))]) (fun i' q hq=>?_) hrq (fun g hg hL=>hsame g (fun e=>hL ⟨i,_,.inl rfl,hin,e ▸ hpb⟩)) hu0.fr.size (fun i' r hr hL=>?_) (fun i' sz' es' hL hr=>?_) (fun i1 r1 i2 r2 g hL1 hL2 hne h1 h2 _ _=>?_)
  ·simp only[St.map,List.mem_map,Prod.mk.injEq] at hq
   obtain⟨⟨j,q'⟩,hj,rfl,rfl⟩:=hq
   exact⟨q',hj,rfl⟩
  ·rcases aE hr with ⟨rfl,_⟩|⟨_,hr⟩
   ·exact absurd (.inl rfl) hL
   ·exact (ln hr).2
  ·rcases aE hr with ⟨hii,he⟩|⟨hne',hr⟩
   ·cases he
    rw[hii]
    simp only[Gh.nr,if_true]
    refine⟨h0,⟨.inl ⟨e,(cur.toList.take (k*sz+off)++(a.eval y).cells.toList++cur.toList.drop (k*sz+off+ag.getD 1)).take (es.length*sz),?_,?_,fun g hg hD=>(hDn g hD).1 ?_⟩,fun g hg=>Nat.lt_of_lt_of_le (hDn g hg).2 hu0.fr.size⟩,fun g hg=>.inr ?_⟩
    ·rw[hrv,hρ,List.length_set]
     refine⟨?_,.inr ⟨gg,cap,_,rfl,Nat.zero_le _,hheap',hnc,hcm,?_,by simp⟩⟩
     ·simp only[List.length_take,List.length_append,List.length_drop,Array.length_toList] at hvl ⊢;omega
     ·simp only[List.size_toArray,List.length_append,List.length_take,List.length_drop,Array.length_toList] at hvl ⊢;omega
    ·have hcurl:cur.toList.length=cap*sz:=by simpa using hcs'
     have hseg:=fun q=>ll cur.toList (a.eval y).cells.toList (k*sz+off) q (by rw[hvl];omega)
     rw[hvl] at hseg
     rw[hgd]
     have hold:∀ q,q < es.length*sz->cur.toList[q]?=us[q]?:=fun q hq=>by
      rw[<-htake,List.getElem?_take,if_pos hq]
     have hmv:∀ {hh c u D},RepX w M.S hh c u D->(∀ g,D g->rv.D g)->RepX w' M.S hh c u D:=fun h hD=>h.move (fun _ h=>h) (fun g hg=>hsame g (fun e=>hnS (e ▸ hg))) (fun g hg=>hsame g (hDn g (hD g hg)).1)
     have hsz2:∀ (i':Nat) e',(es.set k (eY ek off cs))[i']?=some e'->e'.length=sz:=fun i' e' hi'=>by
      rw[List.getElem?_set] at hi'
      split at hi'
      ·simp at hi';subst hi';rw[yu _ _ _ (by rw[hesz];exact hl)];exact hesz
      ·exact hf1 _ _ hi'
     refine⟨hsz2,by simp only[List.length_take,List.length_append,List.length_drop,List.length_set];omega,fun p g=>if k*sz+off<=p/\p < k*sz+off+ys.length then DL M ys (p-(k*sz+off)) g else ψ p g,fun p x hx=>?_,fun p q x hpq hpx hqx=>?_,fun i' j e' c hi' hj=>?_⟩
     ·dsimp only at hx
      split at hx
      ·exact .inr ⟨_,hx⟩
      ·exact .inl (f3 p x hx)
     ·dsimp only at hpx hqx
      split at hpx <;> split at hqx
      ·exact yD hs.mem hall hnd (by omega) hpx hqx
      ·exact (hdl hpx).2.1 (f3 _ _ hqx)
      ·exact (hdl hqx).2.1 (f3 _ _ hpx)
      ·exact f4 p q x hpq hpx hqx
     ·have hjsz:j < sz:=by have:=(List.getElem?_eq_some_iff.1 hj).1;rw[hsz2 _ _ hi'] at this;exact this
      have hilt:i' < es.length:=by have:=(List.getElem?_eq_some_iff.1 hi').1;rwa [List.length_set] at this
      have hfitp:=ea hilt hjsz
      have old:∀ e0,es[i']?=some e0->e0[j]?=some c->¬ (i'=k/\off<=j/\j < off+ys.length)->∃ u,((cur.toList.take (k*sz+off)++(a.eval y).cells.toList++cur.toList.drop (k*sz+off+cs.length)).take (es.length*sz))[i'*sz+j]?=some u /\
       RepX w' M.S (fun π=>rv.h ((i',j)::π)) c u (fun g=>if k*sz+off<=i'*sz+j/\i'*sz+j < k*sz+off+ys.length then DL M ys (i'*sz+j-(k*sz+off)) g else ψ (i'*sz+j) g):=fun e0 h1 h2 hnr=>by
       obtain⟨u,g1,g2⟩:=f5 i' j e0 c h1 h2
       have hnp:¬ (k*sz+off<=i'*sz+j/\i'*sz+j < k*sz+off+ys.length):=by
        by_cases hik:i'=k
        ·subst hik;omega
        ·exact sw hjsz hik off ys.length (by omega)
       refine⟨u,?_,?_⟩
       ·rw[List.getElem?_take,if_pos hfitp,hseg,if_neg (by rw[hcl];exact hnp),hold _ hfitp];exact g1
       ·have hh:(fun π=>rv.h ((i',j)::π))=fun π=>(M.ρ i).h ((i',j)::π):=by
         funext π;show (if _ then _ else _)=_;rw[if_neg hnr]
        rw[hh]
        have:=hmv g2 (fun g hg=>.inl (f3 _ _ hg))
        refine this.wide (fun g hg=>?_)
        rw[if_neg hnp];exact hg
      rw[List.getElem?_set] at hi'
      split at hi'
      ·rename_i heq;subst heq
       simp at hi';subst hi'
       rw[yr _ _ _ _ (by rw[hesz];exact hl)] at hj
       split at hj
       ·rename_i hhr
        obtain⟨q,hqj⟩:∃ q,ys[j-off]?=some q:=⟨_,List.getElem?_eq_getElem (by omega)⟩
        obtain⟨c',l',k1,k2⟩:=hcx _ q hqj
        rw[hj] at k1;cases k1
        obtain⟨u,g1,g2,g3⟩:=hrel.2 _ q hqj
        have hsub:k*sz+j-(k*sz+off)=j-off:=by omega
        refine⟨u,?_,?_⟩
        ·rw[List.getElem?_take,if_pos hfitp,hseg,if_pos (by omega),hsub]
         simpa using g1
        ·have hh:(fun π=>rv.h ((k,j)::π))=hQ M q:=by
          funext π;show (if _ then _ else _)=_;rw[if_pos ⟨rfl,by omega,by omega⟩,hqj]
         rw[hh]
         have hD:∀ g,DQ M q g->DL M ys (j-off) g:=fun g hg=>by
          cases q with
          | own m=>exact⟨m,hqj,hg⟩
          | _=>exact hg.elim
         refine (hmv (yG hs.mem k2 g3) (fun g hg=>.inr ⟨_,hD g hg⟩)).wide (fun g hg=>?_)
         dsimp only
         rw[if_pos (by omega),hsub];exact hD g hg
       ·rename_i hhr
        exact old _ hel hj (by omega)
      ·rename_i hne
       exact old _ hi' hj (fun h=>hne h.1.symm)
    ·rw[hrv,hρ] at hg
     cases cap <;> simp[ax] at hg;exact hg.symm
    ·rcases hg with hg|hg
     ·exact⟨i,_,.inl rfl,hin,.inl hg⟩
     ·rcases hg with hg|⟨p,hg⟩
      ·exact⟨i,_,.inl rfl,hin,.inr hg⟩
      ·obtain⟨j,r,hj,hr',hg⟩:=yH hs.mem hall hg
       exact⟨j,r,.inr (by rw[hjs];exact hj),hr',hg⟩
   ·exact absurd (hL.resolve_left hne') (ln hr).1
  ·have key:∀ {i0:Nat} {r},(i0=i\/i0 ∈ js)->(i0,r) ∈ upd i (sz,es.set k (eY ek off cs)) (gI js σ.rw)->i0=i:=fun {i0 r} hL h=>by
    rcases hL with h'|h'
    ·exact h'
    ·rcases aE h with ⟨rfl,_⟩|⟨_,h⟩
     ·rfl
     ·exact absurd h' (ln h).1
   exact hne ((key hL1 h1).trans (key hL2 h2).symm)
 ·subst e
  rcases hmine _ hpb with h|h
  ·omega
  ·exact h
 ·simp only[Gh.nr]
  by_cases h:i'=i
  ·subst h;rw[if_pos rfl,hrv];exact hs.sρ _ hi hb
  ·rw[if_neg h];exact hs.sρ i' hi hb
theorem IP (hs:Sim X n B w0 σ a w M) {o:Oper} {d:Nat} (e1:o.dst=some d) (hdn:d < n) {g:Bool} {i sz k off s:Nat} {es ys:List (List C)} {v:Value} (rx:ak w M (.q (.rp i sz k off)) v)
 (hq:get? i σ.rw=some (sz,es)) (hcell:(es.getD k []).getD off .jk=.own s ys) (hk:k < es.length) (hoff:off < (es.getD k []).length) (hdi:d≠i)
 (hrun:∀ u,(∀ ad,v=.pointer (some ad)->w.cell? ad=some u)->(execOp a.eval o).run P w=.ok (.value u) w)
 {next:Act->World->Prop} {E:Exit->Act->World->Prop}
 (hn:∀ a' w' M',Sim X n B w0 { tm:=upd d (.q (.own d)) (σ.map (Q.killO d)).tm,bx:=(σ.map (Q.killO d)).bx,rw:=upd d (s,ys) (del i σ.rw) } a' w' M'->next a' w'):o.wp P a w next E:=by
 have hin:=get?_mem hq
 obtain⟨_,hp,_⟩:=hs.mem.row i sz es hin
 obtain⟨g',nn,c,hρ,rfl⟩:=rx
 obtain⟨e,us,hown,⟨f1,f2,ψ,f3,f4,f5⟩,hnD⟩:∃ e us,w.ownsRow 0 e sz (M.ρ i).v es.length us/\FlatX w M.S (M.ρ i).h (M.ρ i).D sz es us/\∀ g,ax (M.ρ i).v g->¬ (M.ρ i).D g:=by
  rcases hp.1 with h|⟨rfl,_⟩
  ·exact h
  ·simp at hk
 have hel:es[k]?=some (es.getD k []):=by simp[List.getD,List.getElem?_eq_getElem hk]
 generalize es.getD k []=ek at *
 have hj:ek[off]?=some (.own s ys):=by rw[<-hcell];simp[List.getD,List.getElem?_eq_getElem hoff]
 obtain⟨u,g1,g2⟩:=f5 k off _ _ hel hj
 obtain⟨D',p1,p2,p3,p4⟩:=g2.priv (fun g hg=>hp.2 g (f3 _ g hg))
 have hcl:=hown.cells (g:=g') (by rw[hρ];rfl) _ _ g1
 refine cG (hrun u (fun ad had=>by cases had;rw[Addr.add_lit,Nat.zero_add] at hcl;exact hcl)) (hn _ _ (M.nr d ⟨fun π=>(M.ρ i).h ((k,off)::π),D'⟩) ?_)
 rw[e1]
 have hrq:=eG (d:=d) (v':=⟨fun π=>(M.ρ i).h ((k,off)::π),D'⟩) (Up.refl hs.mem.lt) hs.mem.lt
 have hin2:∀ g,ae ⟨fun π=>(M.ρ i).h ((k,off)::π),D'⟩ g->ae (M.ρ i) g:=fun g hg=>.inr (f3 _ g (p4 g hg))
 refine hs.mapPut hdn hrq ?_ (Fr.refl _ _ _) ?_ rfl (fun _ _=>rfl) (fun i hi hbi=>by simp only[Gh.nr];rw[if_neg (by omega)])
 ·refine hs.mem.regroup hs.hB (fun j=>j=d\/j=i) (ρ':=(M.nr d ⟨fun π=>(M.ρ i).h ((k,off)::π),D'⟩).ρ) (f:=Q.killO d) (fun j hj=>by simp only[Gh.nr];rw[if_neg (fun e=>hj (.inl e))]) (fun i' q hq=>?_) hrq (fun _ _ _=>rfl) (Nat.le_refl _) (fun i' r hr hL=>?_) (fun i' sz' es' hL hr=>?_) (fun i1 r1 i2 r2 g hL1 hL2 hne h1 h2 _ _=>?_)
  ·simp only[St.map,List.mem_map,Prod.mk.injEq] at hq
   obtain⟨⟨j,q'⟩,hj,rfl,rfl⟩:=hq
   exact⟨q',hj,rfl⟩
  ·rcases aE hr with ⟨h,_⟩|⟨_,hr⟩
   ·exact absurd (.inl h) hL
   ·exact (bh hr).2
  ·rcases aE hr with ⟨hii,he⟩|⟨hne',hr⟩
   ·cases he
    rw[hii]
    simp only[Gh.nr,if_true]
    exact⟨p3,p1,fun g hg=>.inr ⟨i,_,.inr rfl,hin,hin2 g hg⟩⟩
   ·exact absurd (hL.resolve_left hne') (bh hr).1
  ·have key:∀ {i0:Nat} {r},(i0=d\/i0=i)->(i0,r) ∈ upd d (s,ys) (del i σ.rw)->i0=d:=fun {i0 r} hL h=>by
    rcases hL with h'|h'
    ·exact h'
    ·rcases aE h with ⟨h,_⟩|⟨_,h⟩
     ·exact h
     ·exact absurd h' (bh h).1
   exact hne ((key hL1 h1).trans (key hL2 h2).symm)
 ·refine⟨?_,g2.one⟩
  simp only[Gh.nr,if_true];exact p2
theorem IQ {t ty e e':TypeId} {ti:TypeInfo} {z:Value} {sz bytes:Nat} (ht:P.underlying t=some (.slice e)) (hi:P.info? e=some ti) (hsz:ti.size=sz) (hby:ti.bytes=bytes) (hz:ti.zero=some z) (hzs:z.cells.size=sz)
 {vo:Value} {olds news:List Value} {m0 m c:Nat} {ad:Addr} (hown:w.ownsRow 0 e' sz vo m0 olds\/(m0=0/\olds=[]/\∃ A,vo=.slice A 0 0)) (hl:news.length=m*sz) (hcell:∀ (j:Nat) u,news[j]?=some u->w.cell? (ad.add j)=some u) (hone:∀ u ∈ news,u.oneCell'=true) (hpos:0 < m)
 (hb:(m0+m)*bytes<=140737488355328) (hmx:m0+m<=9223372036854775807) :
 ∃ (v':Value) (w':World) (e2:TypeId),(Builtin.append_ #[t,t] ty #[vo,.slice (some ad) m c]).run P w=.ok v' w'/\w'.ownsRow 0 e2 sz v' (m0+m) (olds++news)/\Fr (ax vo) w.heap.size w w'/\∀ g,ax v' g->w.heap.size<=g\/ax vo g:=by
 have hol:olds.length=m0*sz:=by
  rcases hown with h|⟨rfl,rfl,_⟩
  ·exact h.1
  ·simp
 have h63:((m0+m:Nat):Int)<=9223372036854775807:=by omega
 have fresh:∀ cap,m0+m<=cap->cap<=maxLen->∀ (r:(Builtin.append_ #[t,t] ty #[vo,.slice (some ad) m c]).run P w=.ok (.slice (some ⟨w.heap.size,0,none⟩) (m0+m) cap) (w.drew.alloc (.cells (olds.toArray++news.toArray++Builtin.zeroCells z.cells (cap-(m0+m))) e))),
  ∃ (v':Value) (w':World) (e2:TypeId),(Builtin.append_ #[t,t] ty #[vo,.slice (some ad) m c]).run P w=.ok v' w'/\w'.ownsRow 0 e2 sz v' (m0+m) (olds++news)/\Fr (ax vo) w.heap.size w w'/\∀ g,ax v' g->w.heap.size<=g\/ax vo g:=fun cap h1 h2 r=>by
  refine⟨_,_,e,r,⟨by rw[List.length_append,hol,hl,Nat.add_mul],.inr ⟨w.heap.size,cap,_,rfl,Nat.zero_le _,heap_alloc_new w.drew _,h1,h2,?_,?_⟩⟩,⟨rfl,rfl,rfl,by simp,fun k hk _=>Below.heap_alloc w.drew _ k (by simpa using hk)⟩,fun g hg=>.inl ?_⟩
  ·simp only[Array.size_append,List.size_toArray,size_zeroCells,hol,hl,hzs]
   rw[<-Nat.add_mul,<-Nat.add_mul];congr 1;omega
  ·simp only[Array.toList_append]
   rw[List.take_append_of_le_length (by simp[hol,hl,Nat.add_mul])]
   exact List.take_of_length_le (by simp[hol,hl,Nat.add_mul])
  ·cases cap <;> simp[ax] at hg;omega
 have hown':(m0=0/\olds=[]/\∃ A,vo=.slice A 0 0)\/∃ g cap cur,vo=.slice (some ⟨g,0,none⟩) m0 cap/\0<=g/\w.heap[g]?=some (.cells cur e' (0,0))/\m0<=cap/\cap<=maxLen/\cur.size=cap*sz/\cur.toList.take (m0*sz)=olds:=by
  rcases hown with h|h
  ·rcases h.2 with ⟨h1,h2⟩|h2
   ·exact .inl ⟨h2,List.eq_nil_of_length_eq_zero (by rw[hol,h2];simp),none,h1⟩
   ·exact .inr h2
  ·exact .inl h
 rcases hown' with ⟨rfl,rfl,A,rfl⟩|⟨g,cap,cur,rfl,hx,hheap,hnc,hcm,hcs,htake⟩
 ·cases A with
  | some b =>
    simp only[Nat.zero_add] at *
    have hgc:=grownCap_ge w m 0 e
    have hgm:=grownCap_le_maxLen w m 0 e (by simp only[maxLen];omega)
    have hfit:=growslice_fits (need:=m) (old:=0) (bytes:=ti.bytes) (by omega) (by rw[hby];exact hb)
    have hr:=run_append_grow (P:=P) w t ty e ti z ht hi hz b 0 0 [] (by simp) (by simp) ad m c news (by rw[hl,hsz]) hcell (by omega) (by simpa using h63) (by simpa using hfit)
    simp only[Nat.zero_add] at hr
    exact fresh _ hgc hgm hr
  | none =>
  simp only[Nat.zero_add] at *
  have hgc:=grownCap_ge w m 0 e
  have hgm:=grownCap_le_maxLen w m 0 e (by simp only[maxLen];omega)
  have hr:=run_append_nil (P:=P) w t ty e ti z ht hi hz ad m c news (by rw[hl,hsz]) hcell hpos h63 (by rw[hby];omega)
  exact fresh _ hgc hgm (by simpa using hr)
 ·have hco:∀ j u,olds[j]?=some u->w.cell? ((⟨g,0,none⟩:Addr).add j)=some u:=World.ownsRow.cells (v:=.slice (some ⟨g,0,none⟩) m0 cap) ⟨hol,.inr ⟨g,cap,cur,rfl,hx,hheap,hnc,hcm,hcs,htake⟩⟩ rfl
  by_cases hroom:m0+m<=cap
  ·have hmul:=Nat.mul_le_mul_right sz hroom
   rw[Nat.add_mul] at hmul
   have hr:=yw (P:=P) (ty:=ty) ht hi hheap (m:=m) (c:=c) (by rw[hl,hsz]) hcell hone hroom (by rw[hsz,hl,hcs];omega)
   rw[hsz,hl] at hr
   have hob:ax (.slice (some ⟨g,0,none⟩) m0 cap) g:=by
    cases cap with
    | zero=>omega
    | succ c=>simp[ax]
   refine⟨_,_,e',hr,⟨by rw[List.length_append,hol,hl,Nat.add_mul],.inr ⟨g,cap,_,rfl,Nat.zero_le _,setRow_heap _ _ _ _ _ _ hheap,hroom,hcm,?_,?_⟩⟩,⟨rfl,rfl,rfl,by simp,fun k _ hk=>setRow_other w g k _ (fun e=>hk (by rw[e];exact hob))⟩,fun g' hg=>.inr ?_⟩
   ·simp only[List.size_toArray,List.length_append,List.length_take,List.length_drop,Array.length_toList];omega
   ·rw[Nat.add_mul,htake]
    rw[List.take_append_of_le_length (by rw[List.length_append,hol,hl];omega)]
    exact List.take_of_length_le (by rw[List.length_append,hol,hl];omega)
   ·cases cap with
    | zero=>omega
    | succ c=>exact hg
  ·have hgc:=grownCap_ge w (m0+m) cap e
   have hgm:=grownCap_le_maxLen w (m0+m) cap e (by simp only[maxLen];omega)
   have hfit:=growslice_fits (need:=m0+m) (old:=cap) (bytes:=ti.bytes) (by omega) (by rw[hby];exact hb)
   have hr:=run_append_grow (P:=P) w t ty e ti z ht hi hz ⟨g,0,none⟩ m0 cap olds (by rw[hol,hsz]) hco ad m c news (by rw[hl,hsz]) hcell (by omega) h63 hfit
   exact fresh _ hgc hgm hr
theorem IR {M1 M2:Gh} (hβ:M2.β=M1.β) (hS:M2.S=M1.S) (hh:∀ i,(M2.ρ i).h=(M1.ρ i).h) (q:Q) (v:Value) (h:af w M1 q v):af w M2 q v:=by
 have e:∀ i,(M2.ρ i).v=(M1.ρ i).v:=fun i=>by unfold RV.v;rw[hh]
 cases q <;> simp only[af,hβ,hS,hh,e] at*<;> exact h
theorem yI (es:List (List C)):(jkR es).length=es.length:=by simp[jkR]
theorem IS (hs:Sim X n B w0 σ a w M) {o:Oper} {d:Nat} (e1:o.dst=some d) (hdn:d < n) {t e:TypeId} {ti:TypeInfo} {z:Value} {sz bytes:Nat} (ht:P.underlying t=some (.slice e)) (hi:P.info? e=some ti) (hsz:ti.size=sz) (hby:ti.bytes=bytes) (hz:ti.zero=some z) (hzs:z.cells.size=sz)
 {x y:Operand} (hrun:∀ v' w',(Builtin.append_ #[t,t] o.type #[a.eval x,a.eval y]).run P w=.ok v' w'->(execOp a.eval o).run P w=.ok (.value v') w')
 {r s:Nat} {es ys:List (List C)} (hq:get? r σ.rw=some (sz,es)) (hqs:get? s σ.rw=some (sz,ys)) (hrs:r≠s) (hB:r < aS) (rx:ak w M (.q (.own r)) (a.eval x)) (ry:ak w M (.q (.own s)) (a.eval y)) (h3:(es.length+ys.length)*bytes<=140737488355328) (hmx:es.length+ys.length<=9223372036854775807)
 {next:Act->World->Prop} {E:Exit->Act->World->Prop}
 (hn:∀ a' w' M',Sim X n B w0 { tm:=upd d (.q (.own r)) (σ.map (Q.killO r)).tm,bx:=(σ.map (Q.killO r)).bx,rw:=upd s (sz,jkR ys) (upd r (sz,es++ys) σ.rw) } a' w' M'->next a' w'):o.wp P a w next E:=by
 have hin:=get?_mem hq
 have hins:=get?_mem hqs
 obtain⟨h0,hp,hmr⟩:=hs.mem.row r sz es hin
 obtain⟨_,hps,hms⟩:=hs.mem.row s sz ys hins
 have hv:=rx.1
 have hvs:=ry.1
 have bxm:∀ i' q,(i',q) ∈ (σ.map (Q.killO r)).bx->∃ q',(i',q') ∈ σ.bx/\q=q'.map (Q.killO r):=fun i' q hq=>by
  simp only[St.map,List.mem_map,Prod.mk.injEq] at hq
  obtain⟨⟨j,q'⟩,hj,rfl,rfl⟩:=hq
  exact⟨q',hj,rfl⟩
 by_cases hys:ys=[]
 ·subst hys
  obtain⟨A,c,hva,hc⟩:=jD hs.mem hq
  obtain⟨A',c',hvb,hc'⟩:=jD hs.mem hqs
  have hr0:=pd (P:=P) (w:=w) (ty:=o.type) (t:=t) ht hi (A:=A) (A':=A') (m:=es.length) (c:=c) (c':=c') hc
  refine cG (hrun _ _ (by rw[hv,hvs,hva,hvb];exact hr0)) (hn _ _ M ?_)
  rw[e1]
  refine hs.mapPut hdn (nB r) ?_ (Fr.refl _ _ _) ⟨hva.symm,rfl⟩ rfl (fun _ _=>rfl) (fun _ _ _=>rfl)
  have hm:∀ {i x},(i,x) ∈ upd s (sz,jkR []) (upd r (sz,es++[]) σ.rw)->(i,x) ∈ σ.rw:=fun {i x} h=>by
   rcases aE h with ⟨rfl,rfl⟩|⟨_,h⟩
   ·exact hins
   ·rcases aE h with ⟨rfl,rfl⟩|⟨_,h⟩
    ·rw[List.append_nil];exact hin
    ·exact h
  refine hs.mem.regroup hs.hB (fun _=>False) (ρ':=M.ρ) (f:=Q.killO r) (fun _ _=>rfl) bxm (nB r) (fun _ _ _=>rfl) (Nat.le_refl _) (fun i r h _=>hm h) (fun _ _ _ h=>h.elim) (fun _ _ _ _ _ h=>h.elim)
 ·have hpos:0 < ys.length:=by cases ys with
   | nil=>exact absurd rfl hys
   | cons _ _=>simp
  obtain⟨ey,us,hown2,⟨y1,y2,ψy,y3,y4,y5⟩,hnDy⟩:=hps.1.resolve_right (fun h=>hys h.1)
  obtain⟨gs,caps,curs,hvsl,_,hheaps,hncs,_⟩:=hown2.2.resolve_left (fun h=>by omega)
  have hcells:=hown2.cells (g:=gs) (by rw[hvsl];rfl)
  have hone:∀ u ∈ us,u.oneCell'=true:=fun u hu=>by
   obtain⟨p,hp⟩:=List.getElem?_of_mem hu
   have hpl:=(List.getElem?_eq_some_iff.1 hp).1
   rw[y2] at hpl
   have hm:p / sz < ys.length:=by rw[Nat.div_lt_iff_lt_mul h0];exact hpl
   have hj:p % sz < sz:=Nat.mod_lt _ h0
   have he:=List.getElem?_eq_getElem hm
   have hc:=List.getElem?_eq_getElem (show p % sz < ys[p / sz].length by rw[y1 _ _ he];exact hj)
   obtain⟨u',g1,g2⟩:=y5 _ _ _ _ he hc
   rw[show p / sz*sz+p % sz=p by rw[Nat.mul_comm];exact Nat.div_add_mod p sz,hp] at g1
   cases g1;exact g2.one
  have hobs:ax (M.ρ s).v gs:=by
   rw[hvsl]
   cases caps with
   | zero=>omega
   | succ c=>simp[ax]
  obtain⟨ex,olds,hown,⟨x1,x2,ψx,x3,x4,x5⟩,hnDx⟩:∃ e us,(w.ownsRow 0 e sz (M.ρ r).v es.length us\/(es.length=0/\us=[]/\∃ A,(M.ρ r).v=.slice A 0 0))/\FlatX w M.S (M.ρ r).h (M.ρ r).D sz es us/\∀ g,ax (M.ρ r).v g->¬ (M.ρ r).D g:=by
   rcases hp.1 with ⟨e,us,h1,h2,h3⟩|⟨rfl,A,h⟩
   ·exact⟨e,us,.inl h1,h2,h3⟩
   ·exact⟨e,[],.inr ⟨rfl,rfl,A,h⟩,(Flat.nil (w:=w) (S:=M.S)).x,fun g hg=>by rw[h] at hg;cases A <;> simp[ax] at hg⟩
  have hbx:∀ g,ax (M.ρ r).v g->g < w.heap.size:=fun g hg=>hp.lt (.inl hg)
  obtain⟨v',w',e2,k1,k2,k3,k4⟩:=IQ (P:=P) (ty:=o.type) (c:=caps) ht hi hsz hby hz hzs hown y2 hcells hone hpos h3 hmx
  have hsame:∀ g,g < w.heap.size->¬ ax (M.ρ r).v g->w'.heap[g]?=w.heap[g]?:=fun g h1 h2=>k3.block g h1 h2
  let rx':RV:=⟨fun π=>match π with
   | []=>v'
   | (i,j)::π=>if i < es.length then (M.ρ r).h ((i,j)::π) else (M.ρ s).h ((i-es.length,j)::π),fun g=>(M.ρ r).D g\/(M.ρ s).D g⟩
  let ry':RV:=⟨(M.ρ s).h,fun _=>False⟩
  have hrx:rx'.v=v':=rfl
  have hry:ry'.v=(M.ρ s).v:=rfl
  have hSn:∀ g,M.S g->¬ ax (M.ρ r).v g:=fun g hg h=>hs.mem.sr _ _ g hin (.inl h) hg
  have hDx:∀ g,(M.ρ r).D g->g < w.heap.size/\¬ ax (M.ρ r).v g:=fun g hg=>⟨hp.2 g hg,fun h=>hnDx g h hg⟩
  have hDy:∀ g,(M.ρ s).D g->g < w.heap.size/\¬ ax (M.ρ r).v g:=fun g hg=>⟨hps.2 g hg,fun h=>hs.mem.rr _ _ _ _ g hin hins hrs (.inl h) (.inr hg)⟩
  have hDxy:∀ g,(M.ρ r).D g->¬ (M.ρ s).D g:=fun g h1 h2=>hs.mem.rr _ _ _ _ g hin hins hrs (.inr h1) (.inr h2)
  have hos:∀ g,ax (M.ρ s).v g->g < w.heap.size/\¬ ax (M.ρ r).v g/\¬ (M.ρ r).D g:=fun g hg=>⟨hps.lt (.inl hg),fun h=>hs.mem.rr _ _ _ _ g hin hins hrs (.inl h) (.inl hg),fun h=>hs.mem.rr _ _ _ _ g hin hins hrs (.inr h) (.inl hg)⟩
  have hmv:∀ {hh c u D},RepX w M.S hh c u D->(∀ g,D g->rx'.D g)->RepX w' M.S hh c u D:=fun h hD=>h.move (fun _ h=>h) (fun g hg=>hsame g (hs.mem.lt g hg) (hSn g hg)) (fun g hg=>by
   rcases hD g hg with h|h
   ·exact hsame g (hDx g h).1 (hDx g h).2
   ·exact hsame g (hDy g h).1 (hDy g h).2)
  have hpx:Priv w' M.S sz (es++ys) rx':=by
   refine⟨.inl ⟨e2,olds++us,by rw[hrx,List.length_append];exact k2,⟨fun i e hi=>?_,by rw[List.length_append,List.length_append,x2,y2,Nat.add_mul],fun p g=>if p < es.length*sz then ψx p g else ψy (p-es.length*sz) g,fun p x hx=>?_,fun p q x hpq hpx hqx=>?_,fun i j e c hi hj=>?_⟩,fun g hg hD=>?_⟩,fun g hg=>?_⟩
   ·by_cases hlt:i < es.length
    ·rw[List.getElem?_append_left hlt] at hi;exact x1 i e hi
    ·rw[List.getElem?_append_right (by omega)] at hi;exact y1 _ e hi
   ·dsimp only at hx
    split at hx
    ·exact .inl (x3 _ _ hx)
    ·exact .inr (y3 _ _ hx)
   ·dsimp only at hpx hqx
    split at hpx <;> split at hqx
    ·exact x4 p q x hpq hpx hqx
    ·exact hDxy x (x3 _ _ hpx) (y3 _ _ hqx)
    ·exact hDxy x (x3 _ _ hqx) (y3 _ _ hpx)
    ·exact y4 _ _ x (by omega) hpx hqx
   ·by_cases hlt:i < es.length
    ·rw[List.getElem?_append_left hlt] at hi
     have hjs:j < sz:=by have:=(List.getElem?_eq_some_iff.1 hj).1;rw[x1 i e hi] at this;exact this
     have hfit:=ea hlt hjs
     obtain⟨u,g1,g2⟩:=x5 i j e c hi hj
     refine⟨u,by rw[List.getElem?_append_left (by omega)];exact g1,?_⟩
     have hh:(fun π=>rx'.h ((i,j)::π))=fun π=>(M.ρ r).h ((i,j)::π):=by
      funext π;show (if _ then _ else _)=_;rw[if_pos hlt]
     rw[hh]
     refine (hmv g2 (fun g hg=>.inl (x3 _ _ hg))).wide (fun g hg=>?_)
     dsimp only;rw[if_pos hfit];exact hg
    ·rw[List.getElem?_append_right (by omega)] at hi
     obtain⟨u,g1,g2⟩:=y5 _ j e c hi hj
     have e3:i*sz=es.length*sz+(i-es.length)*sz:=by rw[<-Nat.add_mul];congr 1;omega
     have e4:i*sz+j-es.length*sz=(i-es.length)*sz+j:=by omega
     refine⟨u,by rw[List.getElem?_append_right (by omega),x2,e4];exact g1,?_⟩
     have hh:(fun π=>rx'.h ((i,j)::π))=fun π=>(M.ρ s).h ((i-es.length,j)::π):=by
      funext π;show (if _ then _ else _)=_;rw[if_neg hlt]
     rw[hh]
     refine (hmv g2 (fun g hg=>.inr (y3 _ _ hg))).wide (fun g hg=>?_)
     dsimp only;rw[if_neg (by omega),e4];exact hg
   ·rw[hrx] at hg
    rcases k4 g hg with h|h
    ·rcases hD with hD|hD
     ·have:=(hDx g hD).1;omega
     ·have:=(hDy g hD).1;omega
    ·rcases hD with hD|hD
     ·exact (hDx g hD).2 h
     ·exact (hDy g hD).2 h
   ·rcases hg with hg|hg
    ·exact Nat.lt_of_lt_of_le (hDx g hg).1 k3.size
    ·exact Nat.lt_of_lt_of_le (hDy g hg).1 k3.size
  have hpy:Priv w' M.S sz (jkR ys) ry':=by
   refine⟨.inl ⟨ey,us,by rw[hry,yI];exact sd hown2 (fun g hg=>hsame g (hos g hg).1 (hos g hg).2.1) (.inl hpos),⟨fun i e hi=>?_,by rw[yI];exact y2,fun _ _=>False,fun _ _ h=>h.elim,fun _ _ _ _ h=>h.elim,fun i j e c hi hj=>?_⟩,fun _ _ h=>h⟩,fun _ h=>h.elim⟩
   ·simp only[jkR,List.getElem?_map,Option.map_eq_some_iff] at hi
    obtain⟨e0,h1,rfl⟩:=hi
    rw[List.length_map];exact y1 i e0 h1
   ·simp only[jkR,List.getElem?_map,Option.map_eq_some_iff] at hi
    obtain⟨e0,h1,rfl⟩:=hi
    simp only[List.getElem?_map,Option.map_eq_some_iff] at hj
    obtain⟨c0,h2,rfl⟩:=hj
    obtain⟨u,g1,g2⟩:=y5 i j e0 c0 h1 h2
    exact⟨u,g1,.jk g2.one⟩
  have hu:Up (ax (M.ρ r).v) w (M.nr s ry') w' (M.nr s ry'):=⟨rfl,rfl,fun _ h=>h,fun _ h=>.inl h,fun g hg=>Nat.lt_of_lt_of_le (hs.mem.lt g hg) k3.size,hSn,k3⟩
  have hrq:∀ q v,af w M q v->af w' ((M.nr s ry').nr r rx') (q.killO r) v:=fun q v h=>eG hu hs.mem.lt q v (IR (M1:=M) (M2:=M.nr s ry') rfl rfl (fun i=>by
   by_cases hi:i=s
   ·subst hi;simp[Gh.nr,ry']
   ·simp[Gh.nr,hi]) q v h)
  have hρr:((M.nr s ry').nr r rx').ρ r=rx':=by simp[Gh.nr]
  have hρs:((M.nr s ry').nr r rx').ρ s=ry':=by simp[Gh.nr,hrs.symm]
  refine cG (hrun _ _ (by rw[hv,hvs,hvsl];exact k1)) (hn _ _ ((M.nr s ry').nr r rx') ?_)
  rw[e1]
  refine hs.mapPut hdn hrq ?_ (k3.weak hs.hB (fun g hg h=>?_)) ?_ rfl (fun _ _=>rfl) (fun i hi hbi=>?_)
  ·refine hs.mem.regroup hs.hB (fun j=>j=r\/j=s) (ρ':=((M.nr s ry').nr r rx').ρ) (f:=Q.killO r) (fun j hj=>by simp only[Gh.nr];rw[if_neg (fun e=>hj (.inl e)),if_neg (fun e=>hj (.inr e))]) bxm hrq (fun g hg hL=>hsame g hg (fun h=>hL ⟨r,_,.inl rfl,hin,.inl h⟩)) k3.size (fun i' x hx hL=>?_) (fun i' sz' es' hL hx=>?_) (fun i1 r1 i2 r2 g hL1 hL2 hne h1 h2 hg1 hg2=>?_)
   ·rcases aE hx with ⟨h,_⟩|⟨_,hx⟩
    ·exact absurd (.inr h) hL
    ·rcases aE hx with ⟨h,_⟩|⟨_,hx⟩
     ·exact absurd (.inl h) hL
     ·exact hx
   ·rcases aE hx with ⟨hii,he⟩|⟨hne1,hx⟩
    ·cases he
     rw[hii,hρs]
     refine⟨h0,hpy,fun g hg=>.inr ⟨s,_,.inr rfl,hins,.inl ?_⟩⟩
     rcases hg with hg|hg
     ·rw[hry] at hg;exact hg
     ·exact hg.elim
    ·rcases aE hx with ⟨hii,he⟩|⟨hne2,_⟩
     ·cases he
      rw[hii,hρr]
      refine⟨h0,hpx,fun g hg=>?_⟩
      rcases hg with hg|hg|hg
      ·rw[hrx] at hg
       rcases k4 g hg with h|h
       ·exact .inl h
       ·exact .inr ⟨r,_,.inl rfl,hin,.inl h⟩
      ·exact .inr ⟨r,_,.inl rfl,hin,.inr hg⟩
      ·exact .inr ⟨s,_,.inr rfl,hins,.inr hg⟩
     ·exact absurd hL (by rintro (h|h);exact hne2 h;exact hne1 h)
   ·have key:∀ g,ae rx' g->¬ ae ry' g:=fun g h1 h2=>by
     have h2:ax (M.ρ s).v g:=by
      rcases h2 with h2|h2
      ·rw[hry] at h2;exact h2
      ·exact h2.elim
     rcases h1 with h1|h1|h1
     ·rw[hrx] at h1
      rcases k4 g h1 with h|h
      ·have:=(hos g h2).1;omega
      ·exact (hos g h2).2.1 h
     ·exact (hos g h2).2.2 h1
     ·exact hnDy g h2 h1
    rcases hL1 with h|h <;> rcases hL2 with h'|h'
    ·exact hne (h.trans h'.symm)
    ·rw[h,hρr] at hg1;rw[h',hρs] at hg2;exact key g hg1 hg2
    ·rw[h,hρs] at hg1;rw[h',hρr] at hg2;exact key g hg2 hg1
    ·exact hne (h.trans h'.symm)
  ·rcases hmr g (.inl h) with h|h
   ·omega
   ·exact h
  ·refine⟨by rw[hρr,hrx],?_⟩
   rcases k2.2 with ⟨h,_⟩|⟨_,_,_,h,_⟩ <;> rw[h] <;> rfl
  ·by_cases hi1:i=r
   ·omega
   ·simp only[Gh.nr,if_neg hi1]
    by_cases hi2:i=s
    ·subst hi2;rw[if_pos rfl,hry]
    ·rw[if_neg hi2]
end
end Go.Proofs.Pw
namespace Go.Proofs.Pw
open Go.RowKit
variable [Globs]
section
variable {P:Program} {Γ:FuncId->Option Spec} {σ:St} {a:Act} {w w':World} {M M':Gh} {X:Nat->Prop} {B n:Nat} {w0:W0}
theorem IT (hs:Sim X n B w0 σ a w M) {o:Oper} {k:XK} (hk:pb P o.op k=true) (hdst:∀ d,o.dst=some d->d < n) (hst:∀ x y ag,k=.st x y ag\/k=.stx x y ag->o.dst=none) {vc:Prop} {σ':St} (he:bc σ o.dst k=some (vc,σ')) (hvc:vc)
 {next:Act->World->Prop} {E:Exit->Act->World->Prop} (hn:∀ a' w' M',Sim X n B w0 σ' a' w' M'->next a' w'):o.wp P a w next E:=by
 unfold pb at hk
 split at hk
 ·
  rename_i x' y' ag
  split at hk
  ·rename_i t x y ho
   simp only[Bool.and_eq_true] at hk
   obtain⟨⟨hx,hy⟩,hag⟩:=hk
   have hd:=hst _ _ _ (.inl rfl)
   simp only[bc] at he
   split at he
   ·rename_i g i off g' p e1 e2
    split at he
    ·rename_i qs ys hq hys
     simp only[Option.some.injEq,Prod.mk.injEq] at he
     obtain⟨rfl,rfl⟩:=he
     exact Ip hs ho hd hx hy hag e1 e2 hq hys hvc.1 hvc.2.1 hvc.2.2 (fun w' M' h=>hn _ _ _ h)
    ·cases he
   ·rename_i g i sz k off g' p e1 e2
    split at he
    ·rename_i sz' es ys hq hys
     split at he
     ·rename_i cs hcs
      simp only[Option.some.injEq,Prod.mk.injEq] at he
      obtain⟨rfl,rfl⟩:=he
      obtain⟨h1,h2,rfl,h3,h4⟩:=hvc
      exact Iq hs ho hd hx hy hag e1 e2 hq hys hcs h1 h2 h3 h4 (fun w' M' h=>hn _ _ _ h)
     ·cases he
    ·cases he
   ·cases he
  ·cases hk
 ·
  rename_i y ag
  split at hk
  ·rename_i t x ho
   simp only[bc] at he
   split at he
   ·rename_i d g p e1 e2
    split at he
    ·rename_i ys hys
     simp only[Option.some.injEq,Prod.mk.injEq] at he
     obtain⟨rfl,rfl⟩:=he
     have rx:=aC (o:=x) (x:=y) hs.tm hk (by rw[e2];exact hvc);rw[e2] at rx
     obtain⟨hrel,_⟩:=jE rx hys
     exact yv (t:=t) hs e1 (hdst _ e1) hrel (by unfold execOp;rw[ho];simp[Instr.box,newVar,newRow]) hn
    ·cases he
   ·cases he
  ·cases hk
 ·
  rename_i zs
  split at hk
  ·rename_i t ho
   split at hk
   ·rename_i i hi
    split at hk
    ·rename_i z hz
     simp only[bc] at he
     split at he
     ·rename_i d e1
      simp only[Option.some.injEq,Prod.mk.injEq] at he
      obtain⟨rfl,rfl⟩:=he
      have hr:RelCs w M zs z.cells:=by simpa using nw (w:=w) (M:=M) hk
      exact yv (t:=t) hs e1 (hdst _ e1) hr (by unfold execOp;rw[ho];simp[Instr.alloc,zeroValue,typeInfo,hi,hz,newVar,newRow]) hn
     ·cases he
    ·cases hk
   ·cases hk
  ·cases hk
 ·
  rename_i x' y' sz bytes ex
  split at hk
  ·rename_i c ho
   unfold pa at hk
   split at hk
   ·rename_i x y t t' hcb hca hct
    simp only[Bool.and_eq_true,beq_iff_eq] at hk
    obtain⟨⟨⟨rfl,hx⟩,hy⟩,hk⟩:=hk
    split at hk
    ·rename_i e ht
     split at hk
     ·rename_i ti hi
      simp only[Bool.and_eq_true,beq_iff_eq,bne_iff_ne,ne_eq] at hk
      obtain⟨⟨⟨⟨hsz,hsz0⟩,hby⟩,hby0⟩,hz⟩:=hk
      split at hz
      ·rename_i z hz'
       rw[beq_iff_eq] at hz
       have hca':c.args=#[x,y]:=by rw[<-Array.toArray_toList (xs:=c.args),hca]
       have hct':c.argTypes=#[t,t]:=by rw[<-Array.toArray_toList (xs:=c.argTypes),hct]
       have hrun:∀ v' w',(Builtin.append_ #[t,t] o.type #[a.eval x,a.eval y]).run P w=.ok v' w'->(execOp a.eval o).run P w=.ok (.value v') w':=fun v' w' h=>by
        obtain⟨dst,op,ty,pos,after,guard⟩:=o
        simp only at ho;subst ho
        rw[yy hcb hca' hct',h];rfl
       have hmx:∀ m:Nat,m*bytes<=140737488355328->m<=9223372036854775807:=fun m hm=>by
        have:=Nat.le_mul_of_pos_right m (show 0 < bytes by omega)
        omega
       have rx:=aC (o:=x) (x:=x') hs.tm hx
       have ry:=aC (o:=y) (x:=y') hs.tm hy
       simp only[bc] at he
       split at he
       ·rename_i d g r g' p e1 e2 e3
        rw[e2] at rx;rw[e3] at ry
        split at he
        ·rename_i sz' es sz'' ys hq hrow
         split at he
         ·rename_i hB
          simp only[Option.some.injEq,Prod.mk.injEq] at he
          obtain⟨rfl,rfl⟩:=he
          obtain⟨h1,h2,h7,h8,h3⟩:=hvc
          subst h7;subst h8
          exact Iv hs e1 (hdst _ e1) ht hi hsz hby hz' hz (by omega) hrun hq (rx h1) (lm hs.mem (ry h2) hrow) h3 (hmx _ h3) hn
         ·rename_i hB
          simp only[Option.some.injEq,Prod.mk.injEq] at he
          obtain⟨rfl,rfl⟩:=he
          obtain⟨h1,h2,rfl,rfl,h3⟩:=hvc
          have hv:=(rx h1).1
          have hin:=get?_mem hq
          obtain⟨_,hp,_⟩:=hs.mem.row r _ es hin
          obtain⟨v',w',k1,k2,k3,k4⟩:=sE (ty:=o.type) ht hi hsz hby hz' hz hs.mem.lt (lm hs.mem (ry h2) hrow) h3 (hmx _ h3) hp (fun g hg=>hs.mem.sr _ _ g hin hg)
          rw[<-hv] at k1
          exact jG hs e1 (hdst _ e1) (by omega) (hrun _ _ k1) k2 k3 (fun g hg=>⟨_,hin,hg⟩) (fun g hg=>(k4 g hg).imp id (fun h=>⟨_,hin,h⟩)) (.inr (by omega)) hn
        ·cases he
       ·rename_i d g r sz1 lo n1 g' p e1 e2 e3
        rw[e2] at rx;rw[e3] at ry
        split at he
        ·rename_i sz' es sz'' ys hq hrow
         have hin:=get?_mem hq
         obtain⟨h0,hp,_⟩:=hs.mem.row r _ es hin
         split at he
         ·rename_i hfit
          simp only[Option.some.injEq,Prod.mk.injEq] at he
          obtain⟨rfl,rfl⟩:=he
          obtain⟨h1,h2,h7,h8,h9⟩:=hvc
          subst h7;subst h8;subst h9
          exact Iw hs e1 (hdst _ e1) ht hi hsz hrun hq (rx h1) (lm hs.mem (ry h2) hrow) hfit hn
         ·rename_i hfit
          split at he
          ·rename_i hlo
           obtain⟨hl0,hB,hnl⟩:=hlo
           simp only[Option.some.injEq,Prod.mk.injEq] at he
           obtain⟨rfl,rfl⟩:=he
           obtain⟨h1,h2,h7,h8,h9,h3⟩:=hvc
           subst h7;subst h8;subst h9;subst hl0
           exact Ix hs e1 (hdst _ e1) ht hi hsz hby hz' hz (by omega) hrun hq (rx h1) (lm hs.mem (ry h2) hrow) hB hnl h3 (hmx _ h3) hn
          ·cases he
        ·cases he
       ·rename_i d g p g' p' hno hno' e1 e2 e3
        rw[e2] at rx;rw[e3] at ry
        split at he
        ·rename_i sz' sz'' ys hrow
         simp only[Option.some.injEq,Prod.mk.injEq] at he
         obtain⟨rfl,rfl⟩:=he
         obtain⟨h1,h2,rfl,rfl,h3⟩:=hvc
         obtain⟨A,hv⟩:=rx h1
         obtain⟨v',w',k1,k2,k3,k4⟩:=sD (ty:=o.type) (es:=[]) (A:=A) ht hi hsz hby hz' hz hs.mem.lt (lm hs.mem (ry h2) hrow) (by simpa using h3) (by simpa using hmx _ h3) (.inl rfl) (.inl rfl)
         simp only[List.length_nil] at k1
         rw[<-hv] at k1
         exact jG (v':=RV.of v') hs e1 (hdst _ e1) (by omega) (hrun _ _ k1) k2 k3 (fun g hg=>hg.elim) (fun g hg=>.inl (k4 g ((gG _ _).1 hg))) (.inl (hdst _ e1)) hn
        ·rename_i sz' es sz'' ys hrow
         simp only[Option.some.injEq,Prod.mk.injEq] at he
         obtain⟨rfl,rfl⟩:=he
         obtain⟨h1,h2,rfl,rfl,h4,h3⟩:=hvc
         obtain⟨hr,A,hv⟩:=rx h1
         rw[hv] at hr
         obtain⟨v',w',k1,k2,k3,k4⟩:=sD (ty:=o.type) (es:=es) (A:=A) ht hi hsz hby hz' hz hs.mem.lt (lm hs.mem (ry h2) hrow) h3 (hmx _ h3) (.inr hr) (.inr h4)
         rw[<-hv] at k1
         exact jG (v':=RV.of v') hs e1 (hdst _ e1) (by omega) (hrun _ _ k1) k2 k3 (fun g hg=>hg.elim) (fun g hg=>.inl (k4 g ((gG _ _).1 hg))) (.inl (hdst _ e1)) hn
        ·cases he
       ·cases he
      ·cases hz
     ·cases hk
    ·cases hk
   ·cases hk
  ·cases hk
 ·
  rename_i x' zs bytes
  split at hk
  ·rename_i t l c ho
   simp only[Bool.and_eq_true] at hk
   obtain⟨⟨hl,hc⟩,hk⟩:=hk
   split at hk
   ·rename_i e ht
    split at hk
    ·rename_i ti hi
     simp only[Bool.and_eq_true,beq_iff_eq] at hk
     obtain⟨⟨hsz,hby⟩,hz⟩:=hk
     split at hz
     ·rename_i z hz'
      simp only[bc] at he
      split at he
      ·rename_i d g k m e1 e2
       simp only[Option.some.injEq,Prod.mk.injEq] at he
       obtain⟨rfl,rfl⟩:=he
       obtain⟨h1,h2,h3,h4,h5⟩:=hvc
       have rl:=aC (o:=l) (x:=x') hs.tm hl (by rw[e2];exact h1);rw[e2] at rl
       have rc:=aC (o:=c) (x:=x') hs.tm hc (by rw[e2];exact h1);rw[e2] at rc
       have hr:RelCs w M (zs.map .c) z.cells:=by simpa using nw (w:=w) (M:=M) hz
       have hzl:z.cells.size=zs.length:=by simpa using hr.1
       have hmk:=run_make (P:=P) w t e ti z ht hi hz' k k m m h2 (Int.le_refl _) (by rw[hby];exact h4) h3
       rw[hsz] at hmk
       have hmn:m.toNat<=maxLen:=by simp only[maxLen];omega
       refine jG (Z:=fun _=>False) hs e1 (hdst _ e1) h5 (v':=RV.of (.slice (some ⟨w.heap.size,0,none⟩) m.toNat m.toNat)) (w':=w.alloc (.cells (madeCells z.cells (m.toNat*zs.length)) e))
        (by unfold execOp;rw[ho];simp only[cd rl,cd rc,Sem.run_bind,hmk];rfl) ?_ (sy hs.mem.lt _ _).fr (fun g hg=>hg.elim) (fun g hg=>?_) (.inl (hdst _ e1)) hn
       ·have hown:=World.ownsRow_lit (base:=0) (e:=e) (size:=zs.length) w (madeCells z.cells (m.toNat*zs.length)) m.toNat (Nat.zero_le _) hmn (size_madeCells _ _)
        refine PrivV.x (.inl ⟨e,_,by rw[List.length_replicate];exact hown,fun i' e' he'=>?_,by simp[size_madeCells],fun i' j e' c' he' hj=>?_⟩)
        ·rw[List.getElem?_replicate] at he'
         split at he' <;> cases he';rfl
        ·rw[List.getElem?_replicate] at he'
         split at he'
         ·rename_i hlt
          cases he'
          obtain⟨u,g1,_,g3⟩:=hr.2 j (.c c') (by simp[hj])
          have hjl:j < zs.length:=(List.getElem?_eq_some_iff.1 hj).1
          have:=ea hlt hjl
          refine⟨u,?_,(sy hs.mem.lt _ _).rep hs.mem.lt g3⟩
          have hmod:(i'*zs.length+j) % z.cells.size=j:=by rw[hzl,Nat.mul_comm,Nat.mul_add_mod];exact Nat.mod_eq_of_lt hjl
          simp[madeCells,this,hmod,getElem!_def,g1]
         ·cases he'
       ·rw[gG] at hg
        generalize m.toNat=mm at hg
        cases mm <;> simp[ax] at hg;exact .inl (by omega)
      ·cases he
     ·cases hz
    ·cases hk
   ·cases hk
  ·cases hk
 ·
  rename_i x zs
  split at hk
  ·rename_i c ho
   unfold yo at hk
   split at hk
   ·rename_i x0 t hcb hca hct
    simp only[Bool.and_eq_true] at hk
    obtain⟨hx,hk⟩:=hk
    split at hk
    ·rename_i e ht
     split at hk
     ·rename_i ti hi
      split at hk
      ·rename_i z hz
       exact IA hs ho hcb hca hct hx ht hi hz hk hdst he hvc hn
      ·cases hk
     ·cases hk
    ·cases hk
   ·cases hk
  ·cases hk
 ·
  rename_i x' n' zs bytes
  split at hk
  ·rename_i c ho
   unfold yq at hk
   split at hk
   ·rename_i x0 n0 t tn hcb hca hct
    simp only[Bool.and_eq_true] at hk
    obtain⟨⟨⟨hx,hnn⟩,hti⟩,hk⟩:=hk
    split at hti
    case h_2=>cases hti
    rename_i kn htn
    split at hk
    ·rename_i e ht
     split at hk
     ·rename_i ti hi
      simp only[Bool.and_eq_true,beq_iff_eq] at hk
      obtain⟨⟨hsz,hby⟩,hz⟩:=hk
      split at hz
      ·rename_i z hz'
       have hca':c.args=#[x0,n0]:=by rw[<-Array.toArray_toList (xs:=c.args),hca]
       have hct':c.argTypes=#[t,tn]:=by rw[<-Array.toArray_toList (xs:=c.argTypes),hct]
       simp only[bc] at he
       split at he
       ·rename_i d g' r sz lo k cc g kk m e1 e2 e3
        split at he
        ·rename_i sz' es hq
         simp only[Option.some.injEq,Prod.mk.injEq] at he
         obtain⟨rfl,rfl⟩:=he
         obtain⟨h1,h1',rfl,hkl,hcm,h2,h3,h3',rfl,rfl,h5,hpl⟩:=hvc
         have rx:=aC (o:=x0) (x:=x') hs.tm hx (by rw[e2];exact h1');rw[e2] at rx
         have rl:=aC (o:=n0) (x:=n') hs.tm hnn (by rw[e3];exact h1);rw[e3] at rl
         obtain⟨A,mm,A',hρ,hcap,hv,hA⟩:=rx
         obtain⟨N,rfl⟩:∃ N:Nat,m=N:=⟨m.toNat,by omega⟩
         obtain⟨_,hp,_⟩:=hs.mem.row r _ es (get?_mem hq)
         have hp:=hp.pl hpl
         rw[hρ] at hp
         have hy:=(nz hp).part (lo:=0) (n:=k) (by omega) hA
         simp only[Nat.zero_add,List.drop_zero,Nat.sub_zero] at hy hv
         have hkl':(es.take k).length=k:=by simp;omega
         have hNb:(k+N)*bytes<=140737488355328:=by
          have:(((k+N)*bytes:Nat):Int)=((k:Int)+N)*bytes:=by simp
          omega
         exact yB (es:=es.take k) hs ho hcb hca' hct' htn ht hi hsz hby hz' hz e1 hdst (by rw[hkl'];exact hv) (by rw[hkl'];exact hy) (cd rl) (by omega) (by rw[hkl'];omega) (by rw[hkl'];exact hNb) (by rw[hkl'];omega) h5 hn
        ·cases he
       ·rename_i d g' sz g k m e1 e2 e3
        simp only[Option.some.injEq,Prod.mk.injEq] at he
        obtain⟨rfl,rfl⟩:=he
        obtain⟨h1,h1',h2,h3,h3',rfl,h5⟩:=hvc
        have rx:=aC (o:=x0) (x:=x') hs.tm hx (by rw[e2];exact h1');rw[e2] at rx
        have rl:=aC (o:=n0) (x:=n') hs.tm hnn (by rw[e3];exact h1);rw[e3] at rl
        obtain⟨A,hv⟩:=rx
        obtain⟨N,rfl⟩:∃ N:Nat,m=N:=⟨m.toNat,by omega⟩
        have hNb:(([]:List (List C)).length+N)*bytes<=140737488355328:=by
         have:((N*bytes:Nat):Int)=(N:Int)*bytes:=by simp
         simp only[List.length_nil,Nat.zero_add]
         omega
        exact yB (es:=[]) hs ho hcb hca' hct' htn ht hi hsz hby hz' hz e1 hdst hv ⟨A,0,rfl,Nat.le_refl _,.inl rfl⟩ (cd rl) (by omega) (by simp only[List.length_nil];omega) hNb (by simp only[List.length_nil];omega) h5 hn
       ·cases he
      ·cases hz
     ·cases hk
    ·cases hk
   ·cases hk
  ·cases hk
 ·
  rename_i x' y' sz
  split at hk
  ·rename_i c ho
   unfold yp at hk
   split at hk
   ·rename_i x0 y0 t t' hcb hca hct
    simp only[Bool.and_eq_true] at hk
    obtain⟨⟨hx,hy⟩,hk⟩:=hk
    split at hk
    ·rename_i e ht
     split at hk
     ·rename_i ti hi
      simp only[Bool.and_eq_true,beq_iff_eq,bne_iff_ne,ne_eq] at hk
      exact IH hs ho hcb (by rw[<-Array.toArray_toList (xs:=c.args),hca]) (by rw[<-Array.toArray_toList (xs:=c.argTypes),hct]) hx hy ht hi hk.1 (by omega) hdst he hvc hn
     ·cases hk
    ·cases hk
   ·cases hk
  ·cases hk
 ·
  rename_i sz ps'
  split at hk
  ·rename_i t len ps ho
   simp only[bc] at he
   split at he
   ·rename_i d vc' eqs e1 hb
    split at he
    ·rename_i es js hx
     split at he
     ·rename_i hnd
      simp only[Option.some.injEq,Prod.mk.injEq] at he
      obtain⟨rfl,rfl⟩:=he
      exact IM hs ho hk e1 (hdst _ e1) hb hx hnd hvc.1 hvc.2 hn
     ·cases he
    ·cases he
   ·cases he
  ·cases hk
 ·
  rename_i x' y' ag
  split at hk
  ·rename_i t x y ho
   simp only[Bool.and_eq_true] at hk
   obtain⟨⟨hx,hy⟩,hag⟩:=hk
   have hd:=hst _ _ _ (.inr rfl)
   simp only[bc] at he
   split at he
   ·rename_i g i sz k off g' p e1 e2
    split at he
    ·rename_i sz' es ys hq hys
     split at he
     ·rename_i cs js hcs
      split at he
      ·rename_i hnd
       simp only[Option.some.injEq,Prod.mk.injEq] at he
       obtain⟨rfl,rfl⟩:=he
       obtain⟨h1,h2,rfl,h3,h4⟩:=hvc
       exact IN hs ho hd hx hy hag e1 e2 hq hys hcs hnd h1 h2 h3 h4 (fun w' M' h=>hn _ _ _ h)
      ·cases he
     ·cases he
    ·cases he
   ·cases he
  ·cases hk
 ·
  rename_i x' y' sz bytes
  split at hk
  ·rename_i c ho
   unfold pa at hk
   split at hk
   ·rename_i x y t t' hcb hca hct
    simp only[Bool.and_eq_true,beq_iff_eq] at hk
    obtain⟨⟨⟨rfl,hx⟩,hy⟩,hk⟩:=hk
    split at hk
    ·rename_i e ht
     split at hk
     ·rename_i ti hi
      simp only[Bool.and_eq_true,beq_iff_eq,bne_iff_ne,ne_eq] at hk
      obtain⟨⟨⟨⟨hsz,h0⟩,hby⟩,h0'⟩,hz⟩:=hk
      split at hz
      ·rename_i z hz'
       rw[beq_iff_eq] at hz
       have hca':c.args=#[x,y]:=by rw[<-Array.toArray_toList (xs:=c.args),hca]
       have hct':c.argTypes=#[t,t]:=by rw[<-Array.toArray_toList (xs:=c.argTypes),hct]
       have hrun:∀ v' w',(Builtin.append_ #[t,t] o.type #[a.eval x,a.eval y]).run P w=.ok v' w'->(execOp a.eval o).run P w=.ok (.value v') w':=fun v' w' h=>by
        obtain⟨dst,op,ty,pos,after,guard⟩:=o
        simp only at ho;subst ho
        rw[yy hcb hca' hct',h];rfl
       have hmx:∀ m:Nat,m*bytes<=140737488355328->m<=9223372036854775807:=fun m hm=>by
        have:=Nat.le_mul_of_pos_right m (show 0 < bytes by omega)
        omega
       have rx:=aC (o:=x) (x:=x') hs.tm hx
       have ry:=aC (o:=y) (x:=y') hs.tm hy
       simp only[bc] at he
       split at he
       ·rename_i d g r g' s e1 e2 e3
        rw[e2] at rx;rw[e3] at ry
        split at he
        ·rename_i sz' es sz'' ys hq hqs
         split at he
         ·cases he
         ·rename_i hB
          simp only[Option.some.injEq,Prod.mk.injEq] at he
          obtain⟨rfl,rfl⟩:=he
          obtain⟨h1,h2,rfl,rfl,h3⟩:=hvc
          exact IS hs e1 (hdst _ e1) ht hi hsz hby hz' hz hrun hq hqs (fun e=>hB (.inl e)) (by omega) (rx h1) (ry h2) h3 (hmx _ h3) hn
        ·cases he
       ·cases he
      ·cases hz
     ·cases hk
    ·cases hk
   ·cases hk
  ·cases hk
 ·
  rename_i x'
  split at hk
  ·rename_i t x ho
   simp only[Bool.and_eq_true] at hk
   obtain⟨hx,hag⟩:=hk
   simp only[bc] at he
   split at he
   ·rename_i d g i sz k off e1 e2
    split at he
    ·rename_i sz' es hq
     split at he
     ·rename_i s ys hcell
      split at he
      ·cases he
      ·rename_i hdi
       simp only[Option.some.injEq,Prod.mk.injEq] at he
       obtain⟨rfl,rfl⟩:=he
       obtain⟨h1,rfl,h3,h4⟩:=hvc
       have rx:=aC (o:=x) (x:=x') hs.tm hx (by rw[e2];exact h1);rw[e2] at rx
       refine IP (g:=true) hs e1 (hdst _ e1) rx hq hcell h3 h4 hdi (fun u hu=>?_) hn
       obtain⟨g',n',c',_,hv⟩:=rx
       have:=ld (P:=P) (w:=w) hag (ad:=⟨g',k*sz'+off,none⟩) (us:=fun _=>u) (fun j hj=>by
        have:j=0:=by simp at hj;exact hj
        subst this
        have:=hu _ hv
        simpa [Addr.add] using this)
       unfold execOp;rw[ho];simp only[hv,Sem.run_bind,this];rfl
     ·cases he
    ·cases he
   ·cases he
  ·cases hk
 ·
  rename_i f x
  split at hk
  ·rename_i g fi ca ho0
   split at hk
   case h_2=>cases hk
   rename_i y hfi hca
   have ho:o.op=.makeFunc (.func g) #[] #[y]:=by
    rw[ho0,<-Array.toArray_toList (xs:=fi),<-Array.toArray_toList (xs:=ca),hfi,hca]
   simp only[Bool.and_eq_true,beq_iff_eq] at hk
   obtain⟨rfl,hy⟩:=hk
   simp only[bc] at he
   split at he
   ·rename_i d gd i e1 e2
    split at he
    ·rename_i cs hcs
     simp only[Option.some.injEq,Prod.mk.injEq] at he
     obtain⟨rfl,rfl⟩:=he
     rw[Option.bind_eq_some_iff] at hcs
     obtain⟨qs,hq,hcs⟩:=hcs
     have ry:=aC (o:=y) (x:=x) hs.tm hy (by rw[e2];exact hvc)
     rw[e2] at ry
     exact Is hs e1 (hdst _ e1) hq hcs ry ho hn
    ·cases he
   ·cases he
  ·cases hk
 ·cases hk
end
end Go.Proofs.Pw
namespace Go.Proofs.Pw
open Go.RowKit
variable [Globs]
section
variable {P:Program} {Γ:FuncId->Option Spec} {σ:St} {a:Act} {w w':World} {M M':Gh} {X:Nat->Prop} {B n:Nat} {w0:W0}
def Gh.pub (M:Gh) (i:Nat):Gh:={ M with S:=fun g=>M.S g\/ae (M.ρ i) g }
theorem IU {i sz:Nat} {es:List (List C)} (hr:Rep w (M.pub i).S (.row sz es) (M.ρ i).v) (q:Q) (v:Value) (h:af w M q v):af w (M.pub i) (q.pub i (.row sz es)) v:=by
 have mono:∀ {c v},Rep w M.S c v->Rep w (M.pub i).S c v:=fun h=>h.mono (fun _ h=>.inl h) (fun _ _=>rfl)
 cases q with
 | no=>trivial
 | c x=>exact mono h
 | z _=>exact h
 | full sz es=>exact⟨mono h.1,h.2⟩
 | own j =>
   simp only[Q.pub]
   split
   ·rename_i he;subst he
    have:=h.1
    subst this;exact hr
   ·exact h
 | box i o=>exact h
 | el xs =>
   obtain⟨A,h1,h2⟩:=h
   exact⟨A,h1,fun j c hc=>by obtain⟨u,g1,g2,g3⟩:=h2 j c hc;exact⟨u,g1,.inl g2,mono g3⟩⟩
 | rp j sz k o =>
   simp only[Q.pub]
   split
   ·trivial
   ·exact h
 | nt _=>exact h
 | vw _ _ _ _=>exact h
 | vc _ _ _ _ _=>exact h
 | nr j π =>
   simp only[Q.pub]
   split
   ·trivial
   ·exact h
 | np j π sz k o =>
   simp only[Q.pub]
   split
   ·trivial
   ·exact h
theorem Sim.pub' (hs:Sim X n B w0 σ a w M) (i:Nat):∃ M',Sim X n B w0 (σ.pub i) a w M'/\M'.ρ=M.ρ/\(∀ g,M.S g->M'.S g)/\(∀ g,M'.S g->M.S g\/∃ j r,(j,r) ∈ σ.rw/\ae (M.ρ j) g)/\M'.β=M.β:=by
 unfold St.pub
 split
 ·rename_i sz es0 hg
  split
  case h_2=>exact⟨M,hs,rfl,fun _ h=>h,fun _ h=>.inl h,rfl⟩
  rename_i es hpl
  have hin:=get?_mem hg
  have hp:=(hs.mem.row _ _ _ hin).2.1
  have hq:=IU (M:=M) (i:=i) (sq hp hpl)
  have hbx:∀ {i' q1},(i',q1) ∈ (σ.map (Q.pub i (.row sz es))).bx->∃ q,(i',q) ∈ σ.bx/\q1=q.map (Q.pub i (.row sz es)):=fun {i' q1} h'=>by
   simp only[St.map,List.mem_map,Prod.mk.injEq] at h'
   obtain⟨⟨j,q⟩,hj,rfl,rfl⟩:=h'
   exact⟨q,hj,rfl⟩
  refine⟨M.pub i,⟨hs.size,hs.defs,fun t p h=>?_,⟨fun i' q1 h'=>?_,fun i' sz' es' h'=>?_,fun i' q1 j q2 h1 h2 hne=>?_,fun i' q1 j r h1 h2 hg=>?_,fun i' r j r' g h1 h2 hne hg hg'=>?_,fun g h=>?_,fun i' q1 h1 h=>?_,fun i' r g h1 hg h=>?_,?_⟩,hs.fr,hs.hB,fun g h=>?_,hs.sβ,hs.sρ⟩,rfl,fun _ h=>.inl h,fun g h=>h.imp id (fun h=>⟨i,_,hin,h⟩),rfl⟩
  ·simp only[St.map,List.mem_map,Prod.mk.injEq] at h
   obtain⟨⟨t',p'⟩,h',rfl,rfl⟩:=h
   exact cX hq (hs.tm _ _ h')
  ·obtain⟨q,hj,rfl⟩:=hbx h'
   obtain⟨hB',t',cells',h1,h2,h3⟩:=hs.mem.box i' q hj
   exact⟨hB',t',cells',h1,eF hq ⟨h2,h3⟩⟩
  ·obtain⟨hne,h'⟩:=bh h'
   obtain⟨h1,h2,h3⟩:=hs.mem.row i' sz' es' h'
   exact⟨h1,h2.move (fun _ h=>.inl h) (fun _ _=>rfl) (fun _ _=>rfl),h3⟩
  ·obtain⟨q,hj,_⟩:=hbx h1;obtain⟨q',hj',_⟩:=hbx h2
   exact hs.mem.bb _ _ _ _ hj hj' hne
  ·obtain⟨q,hj,_⟩:=hbx h1
   exact hs.mem.br _ _ _ _ hj (bh h2).2 hg
  ·exact hs.mem.rr _ _ _ _ g (bh h1).2 (bh h2).2 hne hg hg'
  ·rcases h with h|h
   ·exact hs.mem.lt g h
   ·exact hp.lt h
  ·obtain⟨q,hj,_⟩:=hbx h1
   rcases h with h|h
   ·exact hs.mem.sb _ _ hj h
   ·exact hs.mem.br _ _ _ _ hj hin h
  ·obtain⟨hne,h1⟩:=bh h1
   rcases h with h|h
   ·exact hs.mem.sr _ _ g h1 hg h
   ·exact hs.mem.rr _ _ _ _ g h1 hin hne hg h
  ·exact hs.mem.gl.map (fun _ h=>.inl h) (fun _ _=>rfl)
  ·rcases h with h|h
   ·exact hs.sS g h
   ·exact .inr ((hs.mem.row _ _ _ hin).2.2 g h)
 ·exact⟨M,hs,rfl,fun _ h=>h,fun _ h=>.inl h,rfl⟩
theorem Sim.pub (hs:Sim X n B w0 σ a w M) (i:Nat):∃ M',Sim X n B w0 (σ.pub i) a w M':=by
 obtain⟨M',h,_⟩:=hs.pub' i
 exact⟨M',h⟩
theorem get?_del {α:Type} {t u:Nat} (h:u≠t):∀ {l:List (Nat × α)},get? t (del u l)=get? t l:=by
 intro l
 induction l with
 | nil=>rfl
 | cons x l ih =>
   obtain⟨i,y⟩:=x
   simp only[del]
   split
   ·rename_i hi;simp only[get?];rw[if_neg (by omega)];exact ih
   ·simp only[get?];rw[ih]
theorem Sim.pubL (is:List Nat):∀ {σ:St} {M:Gh},Sim X n B w0 σ a w M->∃ M',Sim X n B w0 (is.foldl (fun σ i=>σ.pub i) σ) a w M':=by
 induction is with
 | nil=>intro σ M hs;exact⟨M,hs⟩
 | cons i is ih =>
   intro σ M hs
   obtain⟨M1,h1⟩:=hs.pub i
   exact ih h1
theorem Sim.pub2 (hs:Sim X n B w0 σ a w M) (i:Nat):∃ M',Sim X n B w0 (σ.pub i) a w M'/\(∀ g,M.S g->M'.S g)/\(∀ g,M'.S g->M.S g\/∃ j r,(j,r) ∈ σ.rw/\ae (M.ρ j) g)/\M'.β=M.β/\M'.ρ=M.ρ:=by
 obtain⟨M',h1,h2,h3,h4,h5⟩:=hs.pub' i
 exact⟨M',h1,h3,h4,h5,h2⟩
theorem yJ {i j:Nat} {r:Nat × List (List C)} (h:(j,r) ∈ (σ.pub i).rw):(j,r) ∈ σ.rw:=by
 unfold St.pub at h
 split at h
 ·split at h
  ·exact (bh h).2
  ·exact h
 ·exact h
theorem IV {i j:Nat} {q:List Q} (h:(j,q) ∈ (σ.pub i).bx):∃ q',(j,q') ∈ σ.bx:=by
 unfold St.pub at h
 split at h
 ·split at h
  ·simp only[St.map,List.mem_map,Prod.mk.injEq] at h
   obtain⟨⟨k,q'⟩,hk,rfl,rfl⟩:=h
   exact⟨q',hk⟩
  ·exact⟨q,h⟩
 ·exact⟨q,h⟩
theorem IW {is:List Nat}:∀ {σ:St} {j:Nat} {r:Nat × List (List C)},(j,r) ∈ (is.foldl (fun σ i=>σ.pub i) σ).rw->(j,r) ∈ σ.rw:=by
 induction is with
 | nil=>intro σ j r h;exact h
 | cons i is ih=>intro σ j r h;exact yJ (ih h)
theorem IX {is:List Nat}:∀ {σ:St} {j:Nat} {q:List Q},(j,q) ∈ (is.foldl (fun σ i=>σ.pub i) σ).bx->∃ q',(j,q') ∈ σ.bx:=by
 induction is with
 | nil=>intro σ j q h;exact⟨q,h⟩
 | cons i is ih =>
   intro σ j q h
   obtain⟨q',h'⟩:=ih h
   exact IV h'
theorem Sim.pubL2 (is:List Nat):∀ {σ:St} {M:Gh},Sim X n B w0 σ a w M->∃ M',Sim X n B w0 (is.foldl (fun σ i=>σ.pub i) σ) a w M'/\(∀ g,M.S g->M'.S g)/\(∀ g,M'.S g->M.S g\/∃ j r,(j,r) ∈ σ.rw/\ae (M.ρ j) g)/\M'.β=M.β/\M'.ρ=M.ρ:=by
 induction is with
 | nil=>intro σ M hs;exact⟨M,hs,fun _ h=>h,fun _ h=>.inl h,rfl,rfl⟩
 | cons i is ih =>
   intro σ M hs
   obtain⟨M1,h1,h2,h3,h4,h5⟩:=hs.pub2 i
   obtain⟨M2,g1,g2,g3,g4,g5⟩:=ih h1
   refine⟨M2,g1,fun g h=>g2 g (h2 g h),fun g h=>?_,g4.trans h4,g5.trans h5⟩
   rcases g3 g h with h|⟨j,r,hj,hg⟩
   ·exact h3 g h
   ·exact .inr ⟨j,r,yJ hj,by rw[<-h5];exact hg⟩
theorem Sim.pubL' (is:List Nat):∀ {σ:St} {M:Gh},Sim X n B w0 σ a w M->∃ M',Sim X n B w0 (is.foldl (fun σ i=>σ.pub i) σ) a w M'/\∀ g,M.S g->M'.S g:=by
 induction is with
 | nil=>intro σ M hs;exact⟨M,hs,fun _ h=>h⟩
 | cons i is ih =>
   intro σ M hs
   obtain⟨M1,h1,_,h2,_⟩:=hs.pub' i
   obtain⟨M2,h3,h4⟩:=ih h1
   exact⟨M2,h3,fun g h=>h4 g (h2 g h)⟩
end
end Go.Proofs.Pw
