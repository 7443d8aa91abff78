/- Data in memory, told as trees: what a value reads as, and what keeps that. -/
import Derived.Lib.AppendZerosOnto
import Derived.Orders
import Derived.OwnWalk
import Derived.WalkKit
import Derived.RowKit3
import Derived.Laws.BytesString
set_option linter.unusedSimpArgs false
set_option linter.unusedVariables false
set_option linter.unusedSectionVars false
set_option maxRecDepth 20000
namespace Go.Proofs.Pw
open Go.RowKit
inductive C where
 | int (k:IntKind) (n:Int)
 | bool (b:Bool)
 | str (s:ByteArray)
 | fn (f:FuncId)
 | row (sz:Nat) (es:List (List C))
 | ptr (cs:List C)
 | clo (f:FuncId) (cs:List C)
 | zz (sz:Nat)
 | own (sz:Nat) (es:List (List C))
 | jk
 | ifc
instance:Inhabited C:=⟨.int .i64 0⟩
theorem C.def:(default:C)=.int .i64 0:=rfl
inductive Rep (w:World) (S:Nat->Prop):C->Value->Prop
 | int (k:IntKind) (n:Int):Rep w S (.int k n) (.int k n)
 | bool (b:Bool):Rep w S (.bool b) (.bool b)
 | str (s:ByteArray):Rep w S (.str s) (.string s)
 | fn (f:FuncId):Rep w S (.fn f) (.func (.func f) #[] #[])
 | nil (sz:Nat) (a:Option Addr) (cap:Nat):Rep w S (.row sz []) (.slice a 0 cap)
 | row (sz:Nat) (es:List (List C)) (a:Addr) (cap:Nat) (u:Nat->Value) (hcap:es.length<=cap) (hS:S a.block)
    (hsz:∀ (i:Nat) e,es[i]?=some e->e.length=sz)
    (hc:∀ (i j:Nat) e c,es[i]?=some e->e[j]?=some c->w.cell? (a.add (i*sz+j))=some (u (i*sz+j)))
    (hr:∀ (i j:Nat) e c,es[i]?=some e->e[j]?=some c->Rep w S c (u (i*sz+j))) :
    Rep w S (.row sz es) (.slice (some a) es.length cap)
 | ptr (cs:List C) (a:Addr) (u:Nat->Value) (hS:∀ (j:Nat) c,cs[j]?=some c->S a.block) (hc:∀ (j:Nat) c,cs[j]?=some c->w.cell? (a.add j)=some (u j))
    (hr:∀ (j:Nat) c,cs[j]?=some c->Rep w S c (u j)):Rep w S (.ptr cs) (.pointer (some a))
 | clo (f:FuncId) (cs:List C) (us:List Value) (u:Nat->Value) (hl:us.length=cs.length) (hu:∀ (j:Nat) c,cs[j]?=some c->us[j]?=some (u j))
    (hr:∀ (j:Nat) c,cs[j]?=some c->Rep w S c (u j)):Rep w S (.clo f cs) (.func (.func f) #[] us.toArray)
 | zz (sz:Nat) (a:Option Addr):Rep w S (.zz sz) (.slice a 0 0)
 | jk (u:Value) (h1:u.oneCell'=true):Rep w S .jk u
 | ifc (t:TypeId) (p:Value):Rep w S .ifc (.iface t p)
theorem Rep.one {w:World} {S:Nat->Prop} {c:C} {v:Value} (h:Rep w S c v):v.oneCell'=true:=by cases h <;> first|rfl|assumption
theorem Rep.mono {w w':World} {S S':Nat->Prop} (hS:∀ g,S g->S' g) (hw:∀ g,S g->w'.heap[g]?=w.heap[g]?) {c:C} {v:Value} (h:Rep w S c v):Rep w' S' c v:=by
 induction h with
 | int k n=>exact .int k n
 | bool b=>exact .bool b
 | str s=>exact .str s
 | fn f=>exact .fn f
 | nil sz a cap=>exact .nil sz a cap
 | row sz es a cap u hcap hSa hsz hc hr ih =>
   refine .row sz es a cap u hcap (hS _ hSa) hsz (fun i j e c he hj=>?_) (fun i j e c he hj=>ih i j e c he hj)
   rw[<-hc i j e c he hj]
   apply World.cell?_of_block
   have:(a.add (i*sz+j)).block=a.block:=by unfold Addr.add;split <;> rfl
   rw[this];exact hw _ hSa
 | ptr cs a u hSa hc hr ih =>
   refine .ptr cs a u (fun j c hj=>hS _ (hSa j c hj)) (fun j c hj=>?_) (fun j c hj=>ih j c hj)
   rw[<-hc j c hj]
   apply World.cell?_of_block
   have:(a.add j).block=a.block:=by unfold Addr.add;split <;> rfl
   rw[this];exact hw _ (hSa j c hj)
 | clo f cs us u hl hu hr ih=>exact .clo f cs us u hl hu ih
 | zz sz a=>exact .zz sz a
 | jk u h1=>exact .jk u h1
 | ifc t p=>exact .ifc t p
theorem iv (a:Addr) (n:Nat):(a.add n).block=a.block:=by unfold Addr.add;split <;> rfl
theorem kZ (a:Addr) (n m:Nat):(a.add n).add m=a.add (n+m):=by
 unfold Addr.add
 by_cases h:n=0 <;> by_cases h':m=0 <;> simp[h,h',Nat.add_assoc]
inductive DV where
 | one (c:C)
 | agg (cs:List C)
def RepD (w:World) (S:Nat->Prop):DV->Value->Prop
 | .one c,v=>Rep w S c v
 | .agg cs,v=>∃ us:Array Value,v=.agg us/\us.size=cs.length/\∀ (i:Nat) c,cs[i]?=some c->∃ u,us[i]?=some u/\Rep w S c u
theorem RepD.mono {w w':World} {S S':Nat->Prop} (hS:∀ g,S g->S' g) (hw:∀ g,S g->w'.heap[g]?=w.heap[g]?) {d:DV} {v:Value} (h:RepD w S d v):RepD w' S' d v:=by
 cases d with
 | one c=>exact Rep.mono hS hw h
 | agg cs =>
   obtain⟨us,h1,h2,h3⟩:=h
   exact⟨us,h1,h2,fun i c hc=>by obtain⟨u,hu,hr⟩:=h3 i c hc;exact⟨u,hu,hr.mono hS hw⟩⟩
inductive All2 {α β:Type} (R:α->β->Prop):List α->List β->Prop
 | nil:All2 R [] []
 | cons {x:α} {y:β} {xs:List α} {ys:List β} (h:R x y) (t:All2 R xs ys):All2 R (x::xs) (y::ys)
theorem All2.imp {α β:Type} {R R':α->β->Prop} (hi:∀ x y,R x y->R' x y) {xs:List α} {ys:List β} (h:All2 R xs ys):All2 R' xs ys:=by
 induction h with
 | nil=>exact .nil
 | cons h _ ih=>exact .cons (hi _ _ h) ih
theorem All2.length {α β:Type} {R:α->β->Prop} {xs:List α} {ys:List β} (h:All2 R xs ys):xs.length=ys.length:=by
 induction h with
 | nil=>rfl
 | cons _ _ ih=>simp[ih]
theorem All2.get {α β:Type} {R:α->β->Prop} {xs:List α} {ys:List β} (h:All2 R xs ys):∀ (i:Nat) x,xs[i]?=some x->∃ y,ys[i]?=some y/\R x y:=by
 induction h with
 | nil=>intro i x hx;simp at hx
 | cons h _ ih =>
   intro i x hx
   cases i with
   | zero=>simp at hx;subst hx;exact⟨_,rfl,h⟩
   | succ i=>simpa using ih i x (by simpa using hx)
def Flat (w:World) (S:Nat->Prop) (sz:Nat) (es:List (List C)) (us:List Value):Prop :=
 (∀ (i:Nat) e,es[i]?=some e->e.length=sz)/\us.length=es.length*sz /\
 ∀ (i j:Nat) e c,es[i]?=some e->e[j]?=some c->∃ u,us[i*sz+j]?=some u/\Rep w S c u
inductive RepX (w:World) (S:Nat->Prop):(List (Nat × Nat)->Value)->C->Value->(Nat->Prop)->Prop
 | pl {h:List (Nat × Nat)->Value} {c:C} {u:Value} {D:Nat->Prop} (hr:Rep w S c u):RepX w S h c u D
 | jk {h:List (Nat × Nat)->Value} {u:Value} {D:Nat->Prop} (h1:u.oneCell'=true):RepX w S h .jk u D
 | nil {h:List (Nat × Nat)->Value} {sz:Nat} {a:Option Addr} {D:Nat->Prop} (h0:0 < sz) (hh:h []=.slice a 0 0):RepX w S h (.own sz []) (.slice a 0 0) D
 | own {h:List (Nat × Nat)->Value} {sz:Nat} {es:List (List C)} {g cap:Nat} {cur:Array Value} {e:TypeId} {D:Nat->Prop} (ψ:Nat->Nat->Prop) (h0:0 < sz) (hh:h []=.slice (some ⟨g,0,none⟩) es.length cap)
    (hg:w.heap[g]?=some (.cells cur e (0,0))) (hn:es.length<=cap) (hc:cap<=maxLen) (hs:cur.size=cap*sz) (hsz:∀ (i:Nat) e,es[i]?=some e->e.length=sz)
    (hD:D g) (hψ:∀ p x,ψ p x->D x/\x≠g) (hd:∀ p q x,p≠q->ψ p x->¬ ψ q x) (u:Nat->Value)
    (hu:∀ (i j:Nat) e c,es[i]?=some e->e[j]?=some c->cur[i*sz+j]?=some (u (i*sz+j)))
    (hr:∀ (i j:Nat) e c,es[i]?=some e->e[j]?=some c->RepX w S (fun π=>h ((i,j)::π)) c (u (i*sz+j)) (ψ (i*sz+j))):RepX w S h (.own sz es) (.slice (some ⟨g,0,none⟩) es.length cap) D
theorem RepX.one {w:World} {S:Nat->Prop} {h:List (Nat × Nat)->Value} {c:C} {u:Value} {D:Nat->Prop} (k:RepX w S h c u D):u.oneCell'=true:=by
 cases k with
 | pl hr=>exact hr.one
 | jk h1=>exact h1
 | _=>rfl
def FlatX (w:World) (S:Nat->Prop) (h:List (Nat × Nat)->Value) (D:Nat->Prop) (sz:Nat) (es:List (List C)) (us:List Value):Prop :=
 (∀ (i:Nat) e,es[i]?=some e->e.length=sz)/\us.length=es.length*sz/\∃ ψ:Nat->Nat->Prop,(∀ p x,ψ p x->D x)/\(∀ p q x,p≠q->ψ p x->¬ ψ q x) /\
 ∀ (i j:Nat) e c,es[i]?=some e->e[j]?=some c->∃ u,us[i*sz+j]?=some u/\RepX w S (fun π=>h ((i,j)::π)) c u (ψ (i*sz+j))
structure RV where
 h:List (Nat × Nat)->Value
 D:Nat->Prop
def RV.v (r:RV):Value:=r.h []
def RV.of (v:Value):RV:=⟨fun _=>v,fun _=>False⟩
instance:Coe Value RV:=⟨RV.of⟩
def ax:Value->Nat->Prop
 | .slice (some a) _ (_+1),g=>a.block=g
 | _,_=>False
def ae (r:RV) (g:Nat):Prop:=ax r.v g\/r.D g
def Priv (w:World) (S:Nat->Prop) (sz:Nat) (es:List (List C)) (r:RV):Prop :=
 ((∃ e us,w.ownsRow 0 e sz r.v es.length us/\FlatX w S r.h r.D sz es us/\∀ g,ax r.v g->¬ r.D g)\/(es=[]/\∃ a,r.v=.slice a 0 0))/\∀ g,r.D g->g < w.heap.size
def nk (w:World) (S:Nat->Prop) (cs:List C) (g:Nat):Prop :=
 ∃ t cells,w.heap[g]?=some (.cells cells t (0,0))/\cells.size=cs.length/\∀ (j:Nat) c,cs[j]?=some c->∃ u,cells[j]?=some u/\Rep w S c u
inductive Pt where
 | c (x:C)
 | o (sz:Nat) (es:List (List C))
inductive AV where
 | d (x:DV)
 | ref (cs:List C)
 | own (sz:Nat) (es:List (List C))
 | gone
 | ag (ps:List Pt)
inductive All3 {α β γ:Type} (R:α->β->γ->Prop):List α->List β->List γ->Prop
 | nil:All3 R [] [] []
 | cons {x:α} {y:β} {z:γ} {xs:List α} {ys:List β} {zs:List γ} (h:R x y z) (t:All3 R xs ys zs):All3 R (x::xs) (y::ys) (z::zs)
def Any (ps:List (Nat->Prop)) (g:Nat):Prop:=∃ p ∈ ps,p g
def eW:List (Nat->Prop)->Prop
 | []=>True
 | p::ps=>(∀ g,p g->∀ q ∈ ps,¬ q g)/\eW ps
def RepP (w:World) (S:Nat->Prop):Pt->Value->(Nat->Prop)->Prop
 | .c x,v,fp=>Rep w S x v/\∀ g,¬ fp g
 | .o sz es,v,fp=>0 < sz/\∃ r:RV,v=r.v/\Priv w S sz es r/\∀ g,fp g ↔ ae r g
def RepA (w:World) (S:Nat->Prop):AV->Value->(Nat->Prop)->Prop
 | .d x,v,fp=>RepD w S x v/\∀ g,¬ fp g
 | .ref cs,v,fp=>∃ g,v=.pointer (some ⟨g,0,none⟩)/\nk w S cs g/\∀ g',fp g' ↔ g'=g
 | .own sz es,v,fp=>0 < sz/\∃ r:RV,v=r.v/\Priv w S sz es r/\∀ g,fp g ↔ ae r g
 | .gone,_,fp=>∀ g,¬ fp g
 | .ag ps,v,fp=>∃ (us:List Value) (fs:List (Nat->Prop)),v=.agg us.toArray/\All3 (RepP w S) ps us fs/\eW fs/\∀ g,fp g ↔ Any fs g
def Apart (S:Nat->Prop):List (Nat->Prop)->Prop
 | []=>True
 | p::ps=>(∀ g,p g->¬ S g)/\(∀ g,p g->∀ q ∈ ps,¬ q g)/\Apart S ps
def RepR (w:World) (S:Nat->Prop):List AV->Value->List (Nat->Prop)->Prop
 | [d],v,[fp]=>RepA w S d v fp
 | ds,v,fps=>ds.length≠1/\∃ vs:List Value,v=.tuple vs.toArray/\All3 (RepA w S) ds vs fps
structure Fr (X:Nat->Prop) (B:Nat) (w w':World):Prop where
 os:w'.os=w.os
 tape:w'.tape=w.tape
 output:w'.output=w.output
 size:w.heap.size<=w'.heap.size
 block:∀ k,k < B->¬ X k->w'.heap[k]?=w.heap[k]?
structure Spec where
 md:List Bool
 pre:List AV->Prop
 res:List AV->List AV
 out:List AV->List AV
 alts:Option (List AV->List AV->List AV->Prop):=none
def Spec.may (sp:Spec) (args r o:List AV):Prop:=match sp.alts with
 | none=>r=sp.res args/\o=sp.out args
 | some R=>R args r o
theorem Spec.may_none {sp:Spec} (h:sp.alts=none) {args r o:List AV}:sp.may args r o ↔ r=sp.res args/\o=sp.out args:=by unfold Spec.may;rw[h]
class Globs where
 G:List (Nat × C)
 K:List (Nat × List Value)
def Gl [Globs] (w:World) (S:Nat->Prop):Prop:=(∀ (i:Nat) c,(i,c) ∈ Globs.G->S i/\∃ u,w.cell? ⟨i,0,none⟩=some u/\Rep w S c u) /\
 ∀ (i:Nat) cs,(i,cs) ∈ Globs.K->S i/\∃ t x,w.heap[i]?=some (.cells cs.toArray t x)
def Sound [Globs] (P:Program) (f:FuncId) (sp:Spec):Prop :=
 ∀ args,sp.pre args->∀ (w:World) (S:Nat->Prop) (vs:List Value) (fps:List (Nat->Prop)),
  Gl w S->(∀ g,S g->g < w.heap.size)->(∀ g,Any fps g->g < w.heap.size)->Apart S fps->All3 (RepA w S) args vs fps ->
  Calls P f vs.toArray w fun e w'=>∃ r o,sp.may args r o/\∃ v S' rfs fps',e=.returned v/\RepR w' S' r v rfs/\All3 (RepA w' S') o vs fps' /\
   (∀ g,S' g->S g\/w.heap.size<=g\/Any fps g)/\(∀ g,S' g->g < w'.heap.size) /\
   Apart S' (rfs++fps')/\(∀ g,Any (rfs++fps') g->(w.heap.size<=g\/Any fps g)/\g < w'.heap.size)/\Fr (Any fps) w.heap.size w w'
end Go.Proofs.Pw
namespace Go.Proofs.Pw
open Go.RowKit
inductive Q where
 | no
 | c (x:C)
 | z (sz:Nat)
 | full (sz:Nat) (es:List (List C))
 | own (i:Nat)
 | box (i o:Nat)
 | el (xs:List C)
 | rp (i sz k o:Nat)
 | nt (b:Bool)
 | vw (i sz lo n:Nat)
 | vc (i sz lo n c:Nat)
 | nr (i:Nat) (π:List (Nat × Nat))
 | np (i:Nat) (π:List (Nat × Nat)) (sz k o:Nat)
 deriving Inhabited
inductive SV where
 | q (x:Q)
 | agg (xs:List Q)
inductive PV where
 | q (x:Q)
 | agg (xs:List Q)
 | tup (xs:List SV)
 | gd (b:Bool) (p:PV)
structure St where
 tm:List (Nat × PV)
 bx:List (Nat × List Q)
 rw:List (Nat × Nat × List (List C))
structure Gh where
 β:Nat->Nat
 ρ:Nat->RV
 S:Nat->Prop
def dF (X:Nat->Prop) (B:Nat) (g:Nat):Prop:=B<=g\/X g
def af (w:World) (M:Gh):Q->Value->Prop
 | .no,_=>True
 | .c x,v=>Rep w M.S x v
 | .z _,v=>∃ a,v=.slice a 0 0
 | .full sz es,v=>Rep w M.S (.row sz es) v/\∃ a,v=.slice a es.length es.length
 | .own i,v=>v=(M.ρ i).v/\v.oneCell'=true
 | .box i o,v=>v=.pointer (some ⟨M.β i,o,none⟩)
 | .el xs,v=>∃ a,v=.pointer (some a)/\∀ (j:Nat) c,xs[j]?=some c->∃ u,w.cell? (a.add j)=some u/\M.S a.block/\Rep w M.S c u
 | .rp i sz k o,v=>∃ g n c,(M.ρ i).v=.slice (some ⟨g,0,none⟩) n c/\v=.pointer (some ⟨g,k*sz+o,none⟩)
 | .nt b,v=>∃ c,v=.bool c/\(c=true->b=true)
 | .vw i sz lo n,v=>∃ A m c A',(M.ρ i).v=.slice A m c/\lo+n<=c/\v=.slice A' n (c-lo)/\(lo < c->A'=A.map fun a=>a.add (lo*sz))
 | .vc i sz lo n c,v=>∃ A m A',(M.ρ i).v=.slice A m c/\lo+n<=c/\v=.slice A' n (c-lo)/\(lo < c->A'=A.map fun a=>a.add (lo*sz))
 | .nr i π,v=>v=(M.ρ i).h π/\v.oneCell'=true
 | .np i π sz k o,v=>∃ g n c,(M.ρ i).h π=.slice (some ⟨g,0,none⟩) n c/\v=.pointer (some ⟨g,k*sz+o,none⟩)
def gF (w:World) (M:Gh) (qs:List Q) (v:Value):Prop :=
 ∃ us:Array Value,v=.agg us/\us.size=qs.length/\∀ (i:Nat) q,qs[i]?=some q->∃ u,us[i]?=some u/\u.oneCell'=true/\af w M q u
def eX (w:World) (M:Gh):SV->Value->Prop
 | .q x,v=>af w M x v
 | .agg xs,v=>gF w M xs v
def ak (w:World) (M:Gh):PV->Value->Prop
 | .q x,v=>af w M x v
 | .agg xs,v=>gF w M xs v
 | .tup xs,v=>∃ vs:List Value,v=.tuple vs.toArray/\All2 (eX w M) xs vs
 | .gd b p,v=>(b=true->ak w M p v)/\(b=false->v=undef)
structure Mem [Globs] (X:Nat->Prop) (B:Nat) (bx:List (Nat × List Q)) (rw:List (Nat × Nat × List (List C))) (w:World) (M:Gh):Prop where
 box:∀ i qs,(i,qs) ∈ bx->dF X B (M.β i)/\∃ t cells,w.heap[M.β i]?=some (.cells cells t (0,0))/\cells.size=qs.length /\
  ∀ (j:Nat) q,qs[j]?=some q->∃ u,cells[j]?=some u/\u.oneCell'=true/\af w M q u
 row:∀ i sz es,(i,sz,es) ∈ rw->0 < sz/\Priv w M.S sz es (M.ρ i)/\∀ g,ae (M.ρ i) g->dF X B g
 bb:∀ i qs i' qs',(i,qs) ∈ bx->(i',qs') ∈ bx->i≠i'->M.β i≠M.β i'
 br:∀ i qs i' r,(i,qs) ∈ bx->(i',r) ∈ rw->¬ ae (M.ρ i') (M.β i)
 rr:∀ i r i' r' g,(i,r) ∈ rw->(i',r') ∈ rw->i≠i'->ae (M.ρ i) g->¬ ae (M.ρ i') g
 lt:∀ g,M.S g->g < w.heap.size
 sb:∀ i qs,(i,qs) ∈ bx->¬ M.S (M.β i)
 sr:∀ i r g,(i,r) ∈ rw->ae (M.ρ i) g->¬ M.S g
 gl:Gl w M.S
structure W0 where
 w:World
 S:Nat->Prop
 β:Nat->Nat
 ρ:Nat->RV
def aS:Nat:=1000000000
structure Sim [Globs] (X:Nat->Prop) (n B:Nat) (w0:W0) (σ:St) (a:Act) (w:World) (M:Gh):Prop where
 size:a.tmps.size=n
 defs:a.defers=[]
 tm:∀ t p,(t,p) ∈ σ.tm->ak w M p (a.tmps.getD t undef)
 mem:Mem X B σ.bx σ.rw w M
 fr:Fr X B w0.w w
 hB:B<=w.heap.size
 sS:∀ g,M.S g->w0.S g\/dF X B g
 sβ:∀ i,n<=i->M.β i=w0.β i
 sρ:∀ i,n<=i->aS<=i->(M.ρ i).v=(w0.ρ i).v
structure Up (Z:Nat->Prop) (w:World) (M:Gh) (w':World) (M':Gh):Prop where
 β:M'.β=M.β
 ρ:M'.ρ=M.ρ
 S:∀ g,M.S g->M'.S g
 new:∀ g,M'.S g->M.S g\/w.heap.size<=g
 lt:∀ g,M'.S g->g < w'.heap.size
 z:∀ g,M.S g->¬ Z g
 fr:Fr Z w.heap.size w w'
theorem Fr.refl (X:Nat->Prop) (B:Nat) (w:World):Fr X B w w:=⟨rfl,rfl,rfl,Nat.le_refl _,fun _ _ _=>rfl⟩
theorem Fr.trans {X:Nat->Prop} {B:Nat} {a b c:World} (h:Fr X B a b) (k:Fr X B b c):Fr X B a c :=
 ⟨k.os.trans h.os,k.tape.trans h.tape,k.output.trans h.output,Nat.le_trans h.size k.size,fun i hi hx=>(k.block i hi hx).trans (h.block i hi hx)⟩
theorem Fr.weak {X Z:Nat->Prop} {B B':Nat} {w w':World} (h:Fr Z B' w w') (hB:B<=B') (hX:∀ g,g < B->Z g->X g):Fr X B w w' :=
 ⟨h.os,h.tape,h.output,h.size,fun i hi hx=>h.block i (by omega) (fun hz=>hx (hX i hi hz))⟩
section
variable {Z:Nat->Prop} {w w':World} {M M':Gh}
theorem Up.refl (h:∀ g,M.S g->g < w.heap.size):Up (fun _=>False) w M w M:=⟨rfl,rfl,fun _ h=>h,fun _ h=>.inl h,h,fun _ _ h=>h,Fr.refl _ _ _⟩
theorem Up.keep (hu:Up Z w M w' M') (hl:∀ g,M.S g->g < w.heap.size) (g:Nat) (hg:M.S g):w'.heap[g]?=w.heap[g]?:=hu.fr.block g (hl g hg) (hu.z g hg)
structure Ub (w:World) (M:Gh) (w':World) (M':Gh):Prop where
 β:M'.β=M.β
 ρ:M'.ρ=M.ρ
 S:∀ g,M.S g->M'.S g
 keep:∀ g,M.S g->w'.heap[g]?=w.heap[g]?
theorem Ub.rep (hu:Ub w M w' M') {c:C} {v:Value} (h:Rep w M.S c v):Rep w' M'.S c v :=
 h.mono hu.S (hu.keep)
theorem Ub.q (hu:Ub w M w' M') {q:Q} {v:Value} (h:af w M q v):af w' M' q v:=by
 cases q with
 | no=>trivial
 | c x=>exact hu.rep h
 | z _=>exact h
 | full sz es=>exact⟨hu.rep h.1,h.2⟩
 | own i=>simp only[af] at *;rw[hu.ρ];exact h
 | box i o=>simp only[af] at *;rw[hu.β];exact h
 | el xs =>
   obtain⟨a,h1,h2⟩:=h
   refine⟨a,h1,fun j c hc=>?_⟩
   obtain⟨u,g1,g2,g3⟩:=h2 j c hc
   refine⟨u,?_,hu.S _ g2,hu.rep g3⟩
   rw[<-g1];apply World.cell?_of_block;rw[iv];exact hu.keep _ g2
 | rp i sz k o=>simp only[af] at *;rw[hu.ρ];exact h
 | nt b=>exact h
 | vw i sz lo n=>simp only[af] at *;rw[hu.ρ];exact h
 | vc i sz lo n c=>simp only[af] at *;rw[hu.ρ];exact h
 | nr i π=>simp only[af] at *;rw[hu.ρ];exact h
 | np i π sz k o=>simp only[af] at *;rw[hu.ρ];exact h
theorem Ub.a (hu:Ub w M w' M') {qs:List Q} {v:Value} (h:gF w M qs v):gF w' M' qs v:=by
 obtain⟨us,h1,h2,h3⟩:=h
 exact⟨us,h1,h2,fun i q hq=>by obtain⟨u,a1,a2,a3⟩:=h3 i q hq;exact⟨u,a1,a2,hu.q a3⟩⟩
theorem Ub.s (hu:Ub w M w' M') {x:SV} {v:Value} (h:eX w M x v):eX w' M' x v:=by
 cases x with
 | q x=>exact hu.q h
 | agg xs=>exact hu.a h
theorem Ub.v (hu:Ub w M w' M') {p:PV} {v:Value} (h:ak w M p v):ak w' M' p v:=by
 induction p with
 | q x=>exact hu.q h
 | agg xs=>exact hu.a h
 | tup xs=>obtain⟨vs,h1,h2⟩:=h;exact⟨vs,h1,h2.imp (fun _ _ h=>hu.s h)⟩
 | gd b p ih=>exact⟨fun hb=>ih (h.1 hb),h.2⟩
theorem Ub.gl [Globs] (hu:Ub w M w' M') (h:Gl w M.S):Gl w' M'.S:=⟨fun i c hi=>by
 obtain⟨h1,u,h2,h3⟩:=h.1 i c hi
 refine⟨hu.S _ h1,u,?_,hu.rep h3⟩
 rw[<-h2];exact World.cell?_of_block (hu.keep _ h1),fun i cs hi=>by
 obtain⟨h1,t,x,h2⟩:=h.2 i cs hi
 exact⟨hu.S _ h1,t,x,by rw[hu.keep _ h1];exact h2⟩⟩
theorem Gl.map [Globs] {w w':World} {S S':Nat->Prop} (h:Gl w S) (hS:∀ g,S g->S' g) (hw:∀ g,S g->w'.heap[g]?=w.heap[g]?):Gl w' S':=⟨fun i c hi=>by
 obtain⟨h1,u,h2,h3⟩:=h.1 i c hi
 exact⟨hS _ h1,u,by rw[<-h2];exact World.cell?_of_block (hw _ h1),h3.mono hS hw⟩,fun i cs hi=>by
 obtain⟨h1,t,x,h2⟩:=h.2 i cs hi
 exact⟨hS _ h1,t,x,by rw[hw _ h1];exact h2⟩⟩
theorem Up.ub (hu:Up Z w M w' M') (hl:∀ g,M.S g->g < w.heap.size):Ub w M w' M':=⟨hu.β,hu.ρ,hu.S,hu.keep hl⟩
theorem Up.rep (hu:Up Z w M w' M') (hl:∀ g,M.S g->g < w.heap.size) {c:C} {v:Value} (h:Rep w M.S c v):Rep w' M'.S c v:=(hu.ub hl).rep h
theorem Up.q (hu:Up Z w M w' M') (hl:∀ g,M.S g->g < w.heap.size) {q:Q} {v:Value} (h:af w M q v):af w' M' q v:=(hu.ub hl).q h
theorem Up.v (hu:Up Z w M w' M') (hl:∀ g,M.S g->g < w.heap.size) {p:PV} {v:Value} (h:ak w M p v):ak w' M' p v:=(hu.ub hl).v h
theorem Flat.mono {S S':Nat->Prop} (hS:∀ g,S g->S' g) (hw:∀ g,S g->w'.heap[g]?=w.heap[g]?) {sz:Nat} {es:List (List C)} {us:List Value} (h:Flat w S sz es us):Flat w' S' sz es us :=
 ⟨h.1,h.2.1,fun i j e c he hj=>by obtain⟨u,a1,a2⟩:=h.2.2 i j e c he hj;exact⟨u,a1,a2.mono hS hw⟩⟩
theorem Flat.x {S:Nat->Prop} {h:List (Nat × Nat)->Value} {D:Nat->Prop} {sz:Nat} {es:List (List C)} {us:List Value} (k:Flat w S sz es us):FlatX w S h D sz es us :=
 ⟨k.1,k.2.1,fun _ _=>False,fun _ _ h=>h.elim,fun _ _ _ _ h=>h.elim,fun i j e c he hj=>by obtain⟨u,h1,h2⟩:=k.2.2 i j e c he hj;exact⟨u,h1,.pl h2⟩⟩
theorem RepX.move {S S':Nat->Prop} (hS:∀ g,S g->S' g) (hw:∀ g,S g->w'.heap[g]?=w.heap[g]?) {h:List (Nat × Nat)->Value} {c:C} {u:Value} {D:Nat->Prop} (k:RepX w S h c u D):(∀ g,D g->w'.heap[g]?=w.heap[g]?)->RepX w' S' h c u D:=by
 induction k with
 | pl hr=>intro _;exact .pl (hr.mono hS hw)
 | jk h1=>intro _;exact .jk h1
 | nil h0 hh=>intro _;exact .nil h0 hh
 | own ψ h0 hh hg hn hc hs hsz hD hψ hd u hu _ ih =>
   intro hk
   exact .own ψ h0 hh (by rw[hk _ hD];exact hg) hn hc hs hsz hD hψ hd u hu (fun i j e c he hj=>ih i j e c he hj (fun g hg=>hk g (hψ _ g hg).1))
theorem RepX.wide {S:Nat->Prop} {h:List (Nat × Nat)->Value} {c:C} {u:Value} {D D':Nat->Prop} (k:RepX w S h c u D) (hD:∀ g,D g->D' g):RepX w S h c u D':=by
 cases k with
 | pl hr=>exact .pl hr
 | jk h1=>exact .jk h1
 | nil h0 hh=>exact .nil h0 hh
 | own ψ h0 hh hg hn hc hs hsz hD' hψ hd u hu hr=>exact .own ψ h0 hh hg hn hc hs hsz (hD _ hD') (fun p x hx=>⟨hD _ (hψ p x hx).1,(hψ p x hx).2⟩) hd u hu hr
theorem FlatX.move {S S':Nat->Prop} (hS:∀ g,S g->S' g) (hw:∀ g,S g->w'.heap[g]?=w.heap[g]?) {h:List (Nat × Nat)->Value} {D:Nat->Prop} {sz:Nat} {es:List (List C)} {us:List Value} (k:FlatX w S h D sz es us)
 (hk:∀ g,D g->w'.heap[g]?=w.heap[g]?):FlatX w' S' h D sz es us:=by
 obtain⟨h1,h2,ψ,h3,h4,h5⟩:=k
 exact⟨h1,h2,ψ,h3,h4,fun i j e c he hj=>by obtain⟨u,a1,a2⟩:=h5 i j e c he hj;exact⟨u,a1,a2.move hS hw (fun g hg=>hk g (h3 _ g hg))⟩⟩
theorem Hz {v:Value} {g:Nat} (hg:ax v g):v.ownBlock=some g:=by
 cases v with
 | slice a n c=>cases a <;> cases c <;> simp_all [ax,Value.ownBlock]
 | _=>simp[ax] at hg
@[simp] theorem RV.of_v (v:Value):(RV.of v).v=v:=rfl
@[simp] theorem gG (v:Value) (g:Nat):ae (RV.of v) g ↔ ax v g:=by simp[ae,RV.of,RV.v]
theorem sd {e:TypeId} {sz n:Nat} {v:Value} {us:List Value} (h:w.ownsRow 0 e sz v n us) (hk:∀ g,ax v g->w'.heap[g]?=w.heap[g]?) (hn:0 < n\/∃ g,ax v g):w'.ownsRow 0 e sz v n us:=by
 refine⟨h.1,?_⟩
 rcases h.2 with h2|⟨g,cap,cur,rfl,hb,hh,h3,h4⟩
 ·exact .inl h2
 ·refine .inr ⟨g,cap,cur,rfl,hb,?_,h3,h4⟩
  rw[hk g ?_]
  ·exact hh
  ·cases cap with
   | zero =>
     rcases hn with hn|⟨g',hg'⟩
     ·omega
     ·simp[ax] at hg'
   | succ c=>simp[ax]
theorem oO {g:Nat} (h:g < w.heap.size) (hk:w'.heap[g]?=w.heap[g]?):g < w'.heap.size:=by
 rw[Array.getElem?_eq_getElem h] at hk
 exact (Array.getElem?_eq_some_iff.1 hk).1
theorem Priv.move {S S':Nat->Prop} (hS:∀ g,S g->S' g) (hw:∀ g,S g->w'.heap[g]?=w.heap[g]?) {sz:Nat} {es:List (List C)} {v:RV} (h:Priv w S sz es v)
 (hk:∀ g,ae v g->w'.heap[g]?=w.heap[g]?):Priv w' S' sz es v:=by
 refine⟨?_,fun g hg=>oO (h.2 g hg) (hk g (.inr hg))⟩
 rcases h.1 with ⟨e,us,h1,h2,h3⟩|h
 ·by_cases hn:0 < es.length\/∃ g,ax v.v g
  ·exact .inl ⟨e,us,sd h1 (fun g hg=>hk g (.inl hg)) hn,h2.move hS hw (fun g hg=>hk g (.inr hg)),h3⟩
  ·have he:es=[]:=List.eq_nil_of_length_eq_zero (by have:=fun h=>hn (.inl h);omega)
   refine .inr ⟨he,?_⟩
   subst he
   rcases h1.2 with ⟨h4,_⟩|⟨g,cap,cur,h4,_⟩
   ·exact⟨none,h4⟩
   ·cases cap with
    | zero=>exact⟨_,h4⟩
    | succ c=>exact absurd (.inr ⟨g,by rw[h4];simp[ax]⟩) hn
 ·exact .inr h
theorem Priv.lt {sz:Nat} {S:Nat->Prop} {es:List (List C)} {v:RV} (h:Priv w S sz es v) {g:Nat} (hg:ae v g):g < w.heap.size:=by
 rcases hg with hg|hg
 ·rcases h.1 with ⟨e,us,h1,_⟩|⟨_,a,h1⟩
  ·exact (h1.lt g (Hz hg)).2
  ·rw[h1] at hg;cases a <;> simp[ax] at hg
 ·exact h.2 g hg
def PrivV (w:World) (S:Nat->Prop) (sz:Nat) (es:List (List C)) (v:Value):Prop :=
 (∃ e us,w.ownsRow 0 e sz v es.length us/\Flat w S sz es us)\/(es=[]/\∃ a,v=.slice a 0 0)
theorem PrivV.x {S:Nat->Prop} {sz:Nat} {es:List (List C)} {v:Value} (h:PrivV w S sz es v):Priv w S sz es (RV.of v):=by
 refine⟨?_,fun g hg=>hg.elim⟩
 rcases h with ⟨e,us,h1,h2⟩|h
 ·exact .inl ⟨e,us,h1,h2.x,fun _ _ h=>h⟩
 ·exact .inr h
def cz:C->Bool
 | .own _ _=>false
 | .jk=>false
 | _=>true
def aW (es:List (List C)):Bool:=es.all fun e=>e.all cz
theorem HA {es:List (List C)} (h:aW es=true) {i j:Nat} {e:List C} {c:C} (he:es[i]?=some e) (hj:e[j]?=some c):cz c=true:=by
 unfold aW at h
 rw[List.all_eq_true] at h
 have:=h e (List.mem_of_getElem? he)
 rw[List.all_eq_true] at this
 exact this c (List.mem_of_getElem? hj)
theorem FlatX.pl {S:Nat->Prop} {h:List (Nat × Nat)->Value} {D:Nat->Prop} {sz:Nat} {es:List (List C)} {us:List Value} (k:FlatX w S h D sz es us) (hp:aW es=true):Flat w S sz es us:=by
 obtain⟨h1,h2,ψ,h3,h4,h5⟩:=k
 refine⟨h1,h2,fun i j e c he hj=>?_⟩
 obtain⟨u,a1,a2⟩:=h5 i j e c he hj
 have:=HA hp he hj
 cases a2 with
 | pl hr=>exact⟨u,a1,hr⟩
 | _=>cases this
theorem Priv.pl {S:Nat->Prop} {sz:Nat} {es:List (List C)} {r:RV} (h:Priv w S sz es r) (hp:aW es=true):PrivV w S sz es r.v:=by
 rcases h.1 with ⟨e,us,h1,h2,_⟩|h
 ·exact .inl ⟨e,us,h1,h2.pl hp⟩
 ·exact .inr h
mutual
def dtC:C->Option C
 | .own sz es=>(dtR es).map (C.row sz)
 | .jk=>none
 | .int k n=>some (.int k n)
 | .bool b=>some (.bool b)
 | .str s=>some (.str s)
 | .fn f=>some (.fn f)
 | .row sz es=>some (.row sz es)
 | .ptr cs=>some (.ptr cs)
 | .clo f cs=>some (.clo f cs)
 | .zz sz=>some (.zz sz)
 | .ifc=>some .ifc
def dtL:List C->Option (List C)
 | []=>some []
 | c::cs=>match dtC c,dtL cs with
   | some c,some cs=>some (c::cs)
   | _,_=>none
def dtR:List (List C)->Option (List (List C))
 | []=>some []
 | e::es=>match dtL e,dtR es with
   | some e,some es=>some (e::es)
   | _,_=>none
end
theorem HB {c:C} (h:cz c=true):dtC c=some c:=by cases c <;> first|rfl|cases h
theorem HC:∀ {cs:List C},cs.all cz=true->dtL cs=some cs:=by
 intro cs
 induction cs with
 | nil=>intro _;rfl
 | cons c cs ih=>intro h;simp only[List.all_cons,Bool.and_eq_true] at h;simp only[dtL,HB h.1,ih h.2]
theorem dV:∀ {es:List (List C)},aW es=true->dtR es=some es:=by
 intro es
 induction es with
 | nil=>intro _;rfl
 | cons e es ih =>
   intro h;unfold aW at h;simp only[List.all_cons,Bool.and_eq_true] at h
   simp only[dtR,HC h.1];rw[ih h.2]
theorem nl:∀ {cs cs':List C},dtL cs=some cs'->cs'.length=cs.length/\∀ (i:Nat) c',cs'[i]?=some c'->∃ c,cs[i]?=some c/\dtC c=some c':=by
 intro cs
 induction cs with
 | nil=>intro cs' h;simp only[dtL,Option.some.injEq] at h;subst h;simp
 | cons c cs ih =>
   intro cs' h
   simp only[dtL] at h
   split at h
   ·rename_i c1 cs1 e1 e2
    cases h
    obtain⟨i1,i2⟩:=ih e2
    refine⟨by simp[i1],fun i c' hc=>?_⟩
    cases i with
    | zero=>simp only[List.getElem?_cons_zero,Option.some.injEq] at hc;subst hc;exact⟨c,rfl,e1⟩
    | succ i=>simpa using i2 i c' (by simpa using hc)
   ·cases h
theorem se:∀ {es es':List (List C)},dtR es=some es'->es'.length=es.length/\∀ (i:Nat) e',es'[i]?=some e'->∃ e,es[i]?=some e/\dtL e=some e':=by
 intro es
 induction es with
 | nil=>intro es' h;simp only[dtR,Option.some.injEq] at h;subst h;simp
 | cons e es ih =>
   intro es' h
   simp only[dtR] at h
   split at h
   ·rename_i c1 cs1 e1 e2
    cases h
    obtain⟨i1,i2⟩:=ih e2
    refine⟨by simp[i1],fun i c' hc=>?_⟩
    cases i with
    | zero=>simp only[List.getElem?_cons_zero,Option.some.injEq] at hc;subst hc;exact⟨e,rfl,e1⟩
    | succ i=>simpa using i2 i c' (by simpa using hc)
   ·cases h
theorem RepX.pl_rep {S:Nat->Prop} {h:List (Nat × Nat)->Value} {c:C} {u:Value} {D:Nat->Prop} (k:RepX w S h c u D):∀ {c':C},dtC c=some c'->Rep w (fun g=>S g\/D g) c' u:=by
 induction k with
 | @pl _ _ _ D hr =>
   intro c' hc
   have:=hr.mono (S':=fun g=>S g\/D g) (fun _ h=>.inl h) (fun _ _=>rfl)
   cases hr <;> cases hc <;> exact this
 | jk _=>intro c' hc;cases hc
 | nil h0 hh=>intro c' hc;cases hc;exact .nil ..
 | @own h sz es g cap cur e D ψ h0 hh hg hn hc hs hsz hD hψ hd u hu hr ih =>
   intro c' hc'
   simp only[dtC,Option.map_eq_some_iff] at hc'
   obtain⟨es',h1,rfl⟩:=hc'
   obtain⟨h2,h3⟩:=se h1
   rw[<-h2]
   refine .row sz es' _ _ u (by omega) (.inr hD) (fun i e' he=>?_) (fun i j e' c he hj=>?_) (fun i j e' c he hj=>?_)
   ·obtain⟨e0,h4,h5⟩:=h3 i e' he
    rw[(nl h5).1];exact hsz i e0 h4
   ·obtain⟨e0,h4,h5⟩:=h3 i e' he
    obtain⟨c0,h6,h7⟩:=(nl h5).2 j c hj
    have:=hu i j e0 c0 h4 h6
    rw[Addr.add_lit]
    simp[World.cell?,hg,this]
   ·obtain⟨e0,h4,h5⟩:=h3 i e' he
    obtain⟨c0,h6,h7⟩:=(nl h5).2 j c hj
    exact (ih i j e0 c0 h4 h6 h7).mono (fun g hg=>hg.imp id (fun hg=>(hψ _ g hg).1)) (fun _ _=>rfl)
theorem FlatX.plf {S:Nat->Prop} {h:List (Nat × Nat)->Value} {D:Nat->Prop} {sz:Nat} {es es':List (List C)} {us:List Value} (k:FlatX w S h D sz es us) (hp:dtR es=some es'):Flat w (fun g=>S g\/D g) sz es' us:=by
 obtain⟨h1,h2,ψ,h3,h4,h5⟩:=k
 obtain⟨g1,g2⟩:=se hp
 refine⟨fun i e' he=>?_,by rw[g1];exact h2,fun i j e' c he hj=>?_⟩
 ·obtain⟨e0,k4,k5⟩:=g2 i e' he
  rw[(nl k5).1];exact h1 i e0 k4
 ·obtain⟨e0,k4,k5⟩:=g2 i e' he
  obtain⟨c0,k6,k7⟩:=(nl k5).2 j c hj
  obtain⟨u,a1,a2⟩:=h5 i j e0 c0 k4 k6
  exact⟨u,a1,(a2.pl_rep k7).mono (fun g hg=>hg.imp id (fun hg=>h3 _ g hg)) (fun _ _=>rfl)⟩
theorem Mem.up [Globs] {X:Nat->Prop} {B:Nat} {bx:List (Nat × List Q)} {rw:List (Nat × Nat × List (List C))} (h:Mem X B bx rw w M) (hu:Up Z w M w' M')
 (zb:∀ i qs,(i,qs) ∈ bx->¬ Z (M.β i)) (zr:∀ i r g,(i,r) ∈ rw->ae (M.ρ i) g->¬ Z g):Mem X B bx rw w' M' where
 box:=fun i qs hi=>by
  obtain⟨hB,t,cells,h1,h2,h3⟩:=h.box i qs hi
  rw[hu.β]
  refine⟨hB,t,cells,?_,h2,fun j q hq=>?_⟩
  ·rw[hu.fr.block _ (Array.getElem?_eq_some_iff.1 h1).1 (zb i qs hi)];exact h1
  ·obtain⟨u,a1,a2,a3⟩:=h3 j q hq;exact⟨u,a1,a2,hu.q h.lt a3⟩
 row:=fun i sz es hi=>by
  obtain⟨h0,hp,hx⟩:=h.row i sz es hi
  rw[hu.ρ]
  exact⟨h0,hp.move hu.S (hu.keep h.lt) (fun g hg=>hu.fr.block g (hp.lt hg) (zr i _ g hi hg)),hx⟩
 bb:=by rw[hu.β];exact h.bb
 br:=by rw[hu.β,hu.ρ];exact h.br
 rr:=by rw[hu.ρ];exact h.rr
 lt:=hu.lt
 sb:=fun i qs hi hs=>by
  rw[hu.β] at hs
  obtain⟨_,t,cells,h1,_⟩:=h.box i qs hi
  rcases hu.new _ hs with hs|hs
  ·exact h.sb i qs hi hs
  ·have:=(Array.getElem?_eq_some_iff.1 h1).1;omega
 sr:=fun i r g hi hg hs=>by
  rw[hu.ρ] at hg
  obtain⟨sz,es⟩:=r
  obtain⟨_,hp,_⟩:=h.row i sz es hi
  rcases hu.new _ hs with hs|hs
  ·exact h.sr i _ g hi hg hs
  ·have:=hp.lt hg;omega
 gl:=(hu.ub h.lt).gl h.gl
end
theorem Apart.notS {S:Nat->Prop} {ps:List (Nat->Prop)} (h:Apart S ps) {g:Nat} (hg:Any ps g):¬ S g:=by
 induction ps with
 | nil=>obtain⟨_,hp,_⟩:=hg;cases hp
 | cons p ps ih =>
   obtain⟨q,hq,hg⟩:=hg
   rcases List.mem_cons.1 hq with rfl|hq
   ·exact h.1 _ hg
   ·exact ih h.2.2 ⟨q,hq,hg⟩
theorem All3.imp {α β γ:Type} {R R':α->β->γ->Prop} (hi:∀ x y z,R x y z->R' x y z) {xs:List α} {ys:List β} {zs:List γ} (h:All3 R xs ys zs):All3 R' xs ys zs:=by
 induction h with
 | nil=>exact .nil
 | cons h _ ih=>exact .cons (hi _ _ _ h) ih
theorem RepP.monoS {w:World} {S S':Nat->Prop} (hS:∀ g,S g->S' g) {x:Pt} {v:Value} {fp:Nat->Prop} (h:RepP w S x v fp):RepP w S' x v fp:=by
 cases x with
 | c x=>exact⟨h.1.mono hS (fun _ _=>rfl),h.2⟩
 | o sz es=>obtain⟨h0,r,h1,h2,h3⟩:=h;exact⟨h0,r,h1,h2.move hS (fun _ _=>rfl) (fun _ _=>rfl),h3⟩
theorem RepA.monoS {w:World} {S S':Nat->Prop} (hS:∀ g,S g->S' g) {x:AV} {v:Value} {fp:Nat->Prop} (h:RepA w S x v fp):RepA w S' x v fp:=by
 cases x with
 | d x=>exact⟨h.1.mono hS (fun _ _=>rfl),h.2⟩
 | ref cs =>
   obtain⟨g,h1,⟨t,cells,h2,h3,h4⟩,h5⟩:=h
   exact⟨g,h1,⟨t,cells,h2,h3,fun j c hc=>by obtain⟨u,k1,k2⟩:=h4 j c hc;exact⟨u,k1,k2.mono hS (fun _ _=>rfl)⟩⟩,h5⟩
 | own sz es=>obtain⟨h0,r,h1,h2,h3⟩:=h;exact⟨h0,r,h1,h2.move hS (fun _ _=>rfl) (fun _ _=>rfl),h3⟩
 | gone=>exact h
 | ag ps =>
   obtain⟨us,fs,h1,h2,h3,h4⟩:=h
   exact⟨us,fs,h1,h2.imp (fun _ _ _ h=>h.monoS hS),h3,h4⟩
theorem RepR.monoS {w:World} {S S':Nat->Prop} (hS:∀ g,S g->S' g) {l:List AV} {v:Value} {fps:List (Nat->Prop)} (h:RepR w S l v fps):RepR w S' l v fps:=by
 unfold RepR at *
 split at h
 ·exact RepA.monoS hS h
 ·exact⟨h.1,by obtain⟨vs,h1,h2⟩:=h.2;exact⟨vs,h1,h2.imp (fun _ _ _ h=>RepA.monoS hS h)⟩⟩
theorem Apart.widen {S S':Nat->Prop} {ps:List (Nat->Prop)} (h:Apart S ps) (hn:∀ g,Any ps g->¬ S' g):Apart S' ps:=by
 induction ps with
 | nil=>trivial
 | cons p ps ih=>exact⟨fun g hg=>hn g ⟨p,by simp,hg⟩,h.2.1,ih h.2.2 (fun g ⟨q,hq,hg⟩=>hn g ⟨q,by simp[hq],hg⟩)⟩
theorem Sound.full [Globs] {P:Program} {f:FuncId} {sp:Spec} (h:Sound P f sp) (args:List AV) (hp:sp.pre args) (w:World) (S:Nat->Prop) (vs:List Value) (fps:List (Nat->Prop))
 (hG:Gl w S) (hS:∀ g,S g->g < w.heap.size) (hf:∀ g,Any fps g->g < w.heap.size) (ha:Apart S fps) (hA:All3 (RepA w S) args vs fps) :
 Calls P f vs.toArray w fun e w'=>∃ r o,sp.may args r o/\∃ v S' rfs fps',e=.returned v/\RepR w' S' r v rfs/\All3 (RepA w' S') o vs fps' /\
  (∀ g,S g->S' g)/\(∀ g,S' g->S g\/w.heap.size<=g\/Any fps g)/\(∀ g,S' g->g < w'.heap.size) /\
  Apart S' (rfs++fps')/\(∀ g,Any (rfs++fps') g->(w.heap.size<=g\/Any fps g)/\g < w'.heap.size)/\Fr (Any fps) w.heap.size w w':=by
 refine (h args hp w S vs fps hG hS hf ha hA).mono ?_
 rintro e w' ⟨r,o,hro,v,S',rfs,fps',he,g1,g2,g4,g5,g6,g7,g8⟩
 refine⟨r,o,hro,v,fun g=>S g\/S' g,rfs,fps',he,g1.monoS (fun _ h=>.inr h),g2.imp (fun _ _ _ h=>RepA.monoS (fun _ h=>.inr h) h),fun _ h=>.inl h,fun g hg=>?_,fun g hg=>?_,g6.widen (fun g hg=>?_),g7,g8⟩
 ·rcases hg with h|h
  ·exact .inl h
  ·exact g4 g h
 ·rcases hg with h|h
  ·exact Nat.lt_of_lt_of_le (hS g h) g8.size
  ·exact g5 g h
 ·rintro (h|h)
  ·rcases (g7 g hg).1 with k|k
   ·have:=hS g h;omega
   ·exact ha.notS k h
  ·exact g6.notS hg h
end Go.Proofs.Pw
namespace Go.Proofs.Pw
open Go.RowKit
inductive XO where
 | t (n:Nat)
 | k (q:Q)
inductive XK where
 | mv (x:XO)
 | pick (c a b:XO)
 | bin (bl:Bool) (op:BinOp) (x y:XO)
 | not (x:XO)
 | load (x:XO) (ag:Option Nat)
 | fa (x:XO) (off:Nat)
 | ia (x i:XO) (sz:Nat)
 | idx (x i:XO)
 | fld (x:XO) (off:Nat) (ag:Option Nat)
 | ext (x:XO) (i:Nat)
 | len (x:XO) (str:Bool)
 | call (f:FuncId) (xs:List XO)
 | calli (f:XO) (xs:List XO)
 | callr (f:FuncId) (xs:List XO)
 | callb (f:FuncId) (xs:List XO)
 | mm (mx:Bool) (x y:XO)
 | mkf (f:FuncId) (x:XO)
 | sub (x:XO) (lo hi:Option XO) (sz:Nat)
 | conv (k:IntKind) (x:XO)
 | build (zs:List Q) (parts:List (Nat × XO × Option Nat))
 | bsl (sz:Nat) (parts:List (XO × Option Nat))
 | nilc (x:XO)
 | st (x y:XO) (ag:Option Nat)
 | box (x:XO) (ag:Option Nat)
 | alloc (zs:List Q)
 | app (x y:XO) (sz bytes:Nat) (ex:List Nat)
 | mk (n:XO) (zs:List C) (bytes:Nat)
 | glb (i:Nat)
 | isn (x:XO)
 | clr (x:XO) (zs:List C)
 | cap (x:XO)
 | apn (x n:XO) (zs:List C) (bytes:Nat)
 | capr (x:XO)
 | ovl (x y:XO)
 | cpy (x y:XO) (sz:Nat)
 | callo (f:FuncId) (xs:List XO)
 | sub3 (x lo hi mx:XO) (sz:Nat)
 | bslx (sz:Nat) (parts:List (XO × Option Nat))
 | stx (x y:XO) (ag:Option Nat)
 | appx (x y:XO) (sz bytes:Nat)
 | ldx (x:XO)
 | callx (f:FuncId) (xs:List XO)
 | callm (f:FuncId) (x y:XO)
 | bts (x:XO)
 | callw (f:FuncId) (xs:List XO)
structure XOp where
 dst:Option Nat
 g:Option (Nat × Bool)
 op:XK
abbrev xF:List Q:=[(.c (.int .i64 0)),(.c (.int .i64 0)),(.c (.str ⟨#[]⟩)),(.c (.int .i64 0)),(.c (.int .i64 0)),(.c (.str ⟨#[]⟩)),(.z 1),(.z 5),(.z 9)]
abbrev xV:List Q:=[(.c (.int .i64 0)),(.c (.int .i64 0)),(.c (.str ⟨#[]⟩)),(.z 1),(.z 5)]
abbrev xK (n:Int):XO:=.k (.c (.int .i64 n))
abbrev xM (d s:Nat):XOp:=⟨some d,none,.mv (.t s)⟩
abbrev xL (d s:Nat):XOp:=⟨some d,none,.load (.t s) none⟩
abbrev xS (d:Nat) (k:XK):XOp:=⟨some d,none,k⟩
abbrev xG (d c:Nat) (k:XK):XOp:=⟨some d,some (c,true),k⟩
abbrev xH (d c:Nat) (k:XK):XOp:=⟨some d,some (c,false),k⟩
abbrev xW (a b n:Nat):XOp:=⟨none,none,.st (.t a) (.t b) (some n)⟩
attribute [go_sem] xF xV xK xM xL xS xG xH xW
def rg:IntKind->Int->Prop
 | .i64,n=>-9223372036854775808<=n/\n<=9223372036854775807
 | .u64,n=>0<=n/\n<=18446744073709551615
 | .i32,n=>-2147483648<=n/\n<=2147483647
 | .u32,n=>0<=n/\n<=4294967295
 | .i16,n=>-32768<=n/\n<=32767
 | .u16,n=>0<=n/\n<=65535
 | .i8,n=>-128<=n/\n<=127
 | .u8,n=>0<=n/\n<=255
theorem jt {k:IntKind} {n:Int} (h:rg k n):k.wrap n=n:=by
 cases k <;> simp only[rg] at h <;> simp[IntKind.wrap,IntKind.bits,IntKind.signed] <;> omega
def get {α:Type} (d:α) (t:Nat):List (Nat × α)->α
 | []=>d
 | (i,x)::r=>if i=t then x else get d t r
def get? {α:Type} (t:Nat):List (Nat × α)->Option α
 | []=>none
 | (i,x)::r=>if i=t then some x else get? t r
def del {α:Type} (t:Nat):List (Nat × α)->List (Nat × α)
 | []=>[]
 | (i,x)::r=>if i=t then del t r else (i,x)::del t r
def upd {α:Type} (t:Nat) (y:α):List (Nat × α)->List (Nat × α)
 | []=>[(t,y)]
 | (i,x)::r=>if i=t then (t,y)::del t r else (i,x)::upd t y r
def PV.un:PV->Bool × PV
 | .gd b p=>(b && p.un.1,p.un.2)
 | p=>(true,p)
def St.v (σ:St):XO->Bool × PV
 | .t n=>(get (.q .no) n σ.tm).un
 | .k q=>(true,.q q)
def St.put (σ:St) (d:Option Nat) (p:PV):St:=match d with
 | none=>σ
 | some d=>{ σ with tm:=upd d p σ.tm }
def PV.row:PV->Option (Nat × List (List C))
 | .q (.c (.row sz es))=>some (sz,es)
 | .q (.full sz es)=>some (sz,es)
 | .q (.z sz)=>some (sz,[])
 | _=>none
def Q.toC:Q->Option C
 | .c x=>some x
 | .z sz=>some (.row sz [])
 | .full sz es=>some (.row sz es)
 | .el xs=>some (.ptr xs)
 | _=>none
def cC:List Q->Option (List C)
 | []=>some []
 | q::r=>match q.toC,cC r with
   | some c,some cs=>some (c::cs)
   | _,_=>none
def PV.toD:PV->Option DV
 | .q x=>x.toC.map .one
 | .agg qs=>(cC qs).map .agg
 | _=>none
def DV.toS:DV->SV
 | .one c=>.q (.c c)
 | .agg cs=>.agg (cs.map .c)
def C.toQ:C->Q
 | .zz sz=>.z sz
 | .ptr cs=>.el cs
 | c=>.c c
def DV.toP:DV->PV
 | .one c=>.q c.toQ
 | .agg cs=>.agg (cs.map .c)
def bI:List AV->Option (List DV)
 | []=>some []
 | .d x::r=>(bI r).map fun l=>x::l
 | _::_=>none
def cD (ds:List AV):Option PV:=match bI ds with
 | some [d]=>some d.toP
 | some ds=>some (.tup (ds.map DV.toS))
 | none=>none
def sl (a b:ByteArray):Prop:=Op.bytesLess a.toList b.toList=true
instance (a b:ByteArray):Decidable (sl a b):=inferInstanceAs (Decidable (Op.bytesLess a.toList b.toList=true))
def la:Bool->BinOp->C->C->Option (Prop × C)
 | false,op,.int k m,.int k' n =>
   if k=k' then match op with
    | .add=>some (rg k (m+n),.int k (m+n))
    | .sub=>some (rg k (m-n),.int k (m-n))
    | .mul=>some (rg k (m*n),.int k (m*n))
    | .quo=>some (n≠0/\rg k (m.tdiv n),.int k (m.tdiv n))
    | .rem=>some (n≠0,.int k (m.tmod n))
    | .shr=>some (k=.u64/\n=1/\0<=m/\m<=18446744073709551615,.int k (m / 2))
    | .xor=>some (k=.i64/\0<=m/\m<=9223372036854775807/\0<=n/\n<=9223372036854775807,.int k ((m.toNat ^^^ n.toNat:Nat):Int))
    | .eql=>some (True,.bool (decide (m=n)))
    | .neq=>some (True,.bool (!decide (m=n)))
    | .lss=>some (True,.bool (decide (m < n)))
    | .leq=>some (True,.bool (decide (m<=n)))
    | .gtr=>some (True,.bool (decide (n < m)))
    | .geq=>some (True,.bool (decide (n<=m)))
    | _=>none
   else if op=.rem then some (False,.int k' 0) else none
 | false,op,.str a,.str b=>match op with
   | .add=>some (((a.size+b.size:Nat):Int)<=9223372036854775807,.str (a++b))
   | .eql=>some (True,.bool (decide (a=b)))
   | .neq=>some (True,.bool (!decide (a=b)))
   | .lss=>some (True,.bool (decide (sl a b)))
   | .leq=>some (True,.bool (decide (sl a b\/a=b)))
   | .gtr=>some (True,.bool (decide (¬ (sl a b\/a=b))))
   | .geq=>some (True,.bool (decide (¬ sl a b)))
   | _=>none
 | false,.eql,.int _ _,.str _=>some (False,.bool false)
 | true,op,.bool a,.bool b=>match op with
   | .eql=>some (True,.bool (a == b))
   | .neq=>some (True,.bool (a != b))
   | _=>none
 | _,_,_,_=>none
def ju:List (List C)->Option (List Int)
 | []=>some []
 | [.int .u8 n]::r=>(ju r).map fun l=>n::l
 | _=>none
def fJ (l:List Int):ByteArray:=l.foldl (fun r n=>r.push (UInt8.ofNat n.toNat)) ByteArray.empty
def dW (s:ByteArray) (i:Nat):Int:=((s.data.toList.getD i 0).toNat:Int)
def place (qs:List Q) (o:Nat) (ys:List Q):List Q:=qs.take o++ys++qs.drop (o+ys.length)
def eY (qs:List C) (o:Nat) (ys:List C):List C:=qs.take o++ys++qs.drop (o+ys.length)
def cellsOf:PV->Option Nat->Option (List Q)
 | .q .no,none=>none
 | .q q,none=>some [q]
 | .agg qs,some n=>if qs.length=n then some qs else none
 | _,_=>none
def jv (xs:List C):Option Nat->Prop × PV
 | none=>(0 < xs.length,.q (.c (xs.getD 0 default)))
 | some n=>(n<=xs.length,.agg ((xs.take n).map .c))
def C.toL (i k o:Nat):C->Q
 | .own _ _=>.nr i [(k,o)]
 | .jk=>.no
 | c=>.c c
def dj (i k:Nat):Nat->List C->List Q
 | _,[]=>[]
 | o,c::cs=>c.toL i k o::dj i k (o+1) cs
def jx (i k o:Nat) (xs:List C):Option Nat->Prop × PV
 | none=>(0 < xs.length,.q ((xs.getD 0 default).toL i k o))
 | some n=>(n<=xs.length,.agg (dj i k o (xs.take n)))
def eZ (qs:List Q) (o:Nat):Option Nat->Prop × PV
 | none=>(o < qs.length,.q (qs.getD o .no))
 | some n=>(o+n<=qs.length,.agg ((qs.drop o).take n))
def asInt?:PV->Option Int
 | .q (.c (.int _ n))=>some n
 | _=>none
def dX (σ:St):List (Nat × XO × Option Nat)->Prop × List Q->Option (Prop × List Q)
 | [],r=>some r
 | (o,x,ag)::ps,(vc,qs)=>match σ.v x with
   | (g,p)=>match cellsOf p ag with
     | some ys=>dX σ ps (vc/\g=true/\o+ys.length<=qs.length,place qs o ys)
     | none=>none
def fc (σ:St) (sz:Nat):List (XO × Option Nat)->Option (Prop × List (List C))
 | []=>some (True,[])
 | (x,ag)::ps=>match σ.v x,fc σ sz ps with
   | (g,p),some (vc,es)=>match cellsOf p ag with
     | some qs=>match cC qs with
       | some cs=>some (g=true/\cs.length=sz/\vc,cs::es)
       | none=>none
     | none=>none
   | _,none=>none
def Q.toX (rw:List (Nat × Nat × List (List C))):Q->Option (C × List Nat)
 | .own j=>match get? j rw with
   | some (sz,es)=>some (.own sz es,[j])
   | none=>none
 | q=>match q.toC with
   | some x=>some (x,[])
   | none=>none
def gH (rw:List (Nat × Nat × List (List C))):List Q->Option (List C × List Nat)
 | []=>some ([],[])
 | q::r=>match q.toX rw,gH rw r with
   | some (c,l),some (cs,l')=>some (c::cs,l++l')
   | _,_=>none
def jy (σ:St) (sz:Nat):List (XO × Option Nat)->Option (Prop × List (List Q))
 | []=>some (True,[])
 | (x,ag)::ps=>match σ.v x,jy σ sz ps with
   | (g,p),some (vc,es)=>match cellsOf p ag with
     | some qs=>some (g=true/\qs.length=sz/\vc,qs::es)
     | none=>none
   | _,none=>none
def jz (rw:List (Nat × Nat × List (List C))):List (List Q)->Option (List (List C) × List Nat)
 | []=>some ([],[])
 | e::r=>match gH rw e,jz rw r with
   | some (c,l),some (cs,l')=>some (c::cs,l++l')
   | _,_=>none
def jkR (es:List (List C)):List (List C):=es.map fun e=>e.map fun _=>C.jk
def fK (σ:St):List XO->Option (Prop × List AV)
 | []=>some (True,[])
 | x::xs=>match σ.v x,fK σ xs with
   | (g,p),some (vc,ds)=>match p.toD with
     | some d=>some (g=true/\vc,.d d::ds)
     | none=>none
   | _,none=>none
def fd (Γ:FuncId->Option Spec) (σ:St) (f:FuncId) (xs:List XO):Option (Prop × PV) :=
 match Γ f,fK σ xs with
 | some sp,some (vc,ds)=>match sp.alts with
   | none=>(cD (sp.res ds)).map fun p=>(vc/\sp.pre ds,p)
   | some _=>none
 | _,_=>none
def Pt.toC:Pt->C
 | .c x=>x
 | .o sz es=>.row sz ((dtR es).getD [])
def AV.weak:AV->AV
 | .ag ps=>.d (.agg (ps.map Pt.toC))
 | .own sz es=>.d (.one (.row sz ((dtR es).getD [])))
 | x=>x
def Pt.dtb:Pt->Bool
 | .c _=>true
 | .o _ es=>(dtR es).isSome
def AV.dtb:AV->Bool
 | .ag ps=>ps.all Pt.dtb
 | .own _ es=>(dtR es).isSome
 | .ref _=>false
 | _=>true
def nq (Γ:FuncId->Option Spec) (σ:St) (f:FuncId) (xs:List XO):Option (Prop × PV) :=
 match Γ f,fK σ xs with
 | some sp,some (vc,ds)=>match sp.alts with
   | none=>if (sp.res ds).all AV.dtb=true then (cD ((sp.res ds).map AV.weak)).map fun p=>(vc/\sp.pre ds,p) else none
   | some _=>none
 | _,_=>none
def PV.rowB (σ:St):PV->Option (Nat × List (List C))
 | .q (.own r)=>match get? r σ.rw with
   | some (sz,es)=>if aW es=true then some (sz,es) else none
   | none=>none
 | .q (.vw r sz lo n)=>match get? r σ.rw with
   | some (sz',es)=>if lo+n<=es.length/\sz=sz'/\aW es=true then some (sz,(es.take (lo+n)).drop lo) else none
   | none=>none
 | p=>p.row
def Q.vwOf:Q->Option (Nat × Nat × Nat × Nat)
 | .vw r sz lo n=>some (r,sz,lo,n)
 | .vc r sz lo n _=>some (r,sz,lo,n)
 | _=>none
def PV.srcB (σ:St):PV->Option (Nat × Nat × List (List C))
 | .q (.own r)=>match get? r σ.rw with
   | some (sz,es)=>if aW es=true then some (sz,es.length,es) else none
   | none=>none
 | .q (.vw r sz lo n)=>match get? r σ.rw with
   | some (sz',es)=>if sz=sz'/\aW es=true then some (sz,n,es.drop lo) else none
   | none=>none
 | .q (.vc r sz lo n _)=>match get? r σ.rw with
   | some (sz',es)=>if sz=sz'/\aW es=true then some (sz,n,es.drop lo) else none
   | none=>none
 | p=>p.row.map fun s=>(s.1,s.2.length,s.2)
def Q.toCB (σ:St):Q->Option C
 | .own i=>(get? i σ.rw).bind fun r=>(dtR r.2).map (C.row r.1)
 | q=>q.toC
def dG (σ:St):List Q->Option (List C)
 | []=>some []
 | q::r=>match q.toCB σ,dG σ r with
   | some c,some cs=>some (c::cs)
   | _,_=>none
def PV.toDB (σ:St):PV->Option DV
 | .q x=>(x.toCB σ).map .one
 | .agg qs=>(dG σ qs).map .agg
 | _=>none
def dk (σ:St):List XO->Option (Prop × List AV)
 | []=>some (True,[])
 | x::xs=>match σ.v x,dk σ xs with
   | (g,p),some (vc,ds)=>match p.toDB σ with
     | some d=>some (g=true/\vc,.d d::ds)
     | none=>none
   | _,none=>none
def fe:C->Bool
 | .int _ _=>true
 | .bool _=>true
 | .str _=>true
 | _=>false
def oQ:SV->Bool
 | .q (.c c)=>fe c
 | _=>false
def lb:PV->Bool
 | .q (.c c)=>fe c
 | .tup xs=>xs.all oQ
 | _=>false
def jA (Γ:FuncId->Option Spec) (σ:St) (f:FuncId) (xs:List XO):Option (Prop × PV) :=
 match Γ f,dk σ xs with
 | some sp,some (vc,ds)=>match sp.alts with
   | none=>match cD (sp.res ds) with
     | some p=>if lb p then some (vc/\sp.pre ds,p) else none
     | none=>none
   | some _=>none
 | _,_=>none
def loX (σ:St) (d:Int):Option XO->Option (Bool × Int)
 | none=>some (true,d)
 | some o=>(asInt? (σ.v o).2).map fun n=>((σ.v o).1,n)
variable [Globs]
def ah (Γ:FuncId->Option Spec) (σ:St):XK->Option (Prop × PV)
 | .mv x=>some ((σ.v x).1=true,(σ.v x).2)
 | .glb i=>(get? i Globs.G).map fun c=>(True,.q (.c c))
 | .pick c a b=>match σ.v c,σ.v a,σ.v b with
   | (gc,.q (.c (.bool t))),(ga,.q (.c (.bool x))),(gb,.q (.c (.bool y))) =>
     some (gc=true/\(t=true->ga=true)/\(t=false->gb=true),.q (.c (.bool (bif t then x else y))))
   | (gc,.q (.c (.bool t))),(ga,.q (.c (.int k x))),(gb,.q (.c (.int k' y))) =>
     if k=k' then some (gc=true/\(t=true->ga=true)/\(t=false->gb=true),.q (.c (.int k (bif t then x else y)))) else none
   | _,_,_=>none
 | .bin bl op x y=>match σ.v x,σ.v y with
   | (g,.q (.c a)),(g',.q (.c b))=>(la bl op a b).map fun r=>(g=true/\g'=true/\r.1,.q (.c r.2))
   | _,_=>none
 | .mm mx x y=>match σ.v x,σ.v y with
   | (g,.q (.c (.int k m))),(g',.q (.c (.int k' n)))=>if k=k' then some (g=true/\g'=true,.q (.c (.int k (if mx=true then (if n > m then n else m) else (if n < m then n else m))))) else none
   | _,_=>none
 | .not x=>match σ.v x with
   | (g,.q (.c (.bool a)))=>some (g=true,.q (.c (.bool (!a))))
   | _=>none
 | .load x ag=>match σ.v x with
   | (g,.q (.el xs))=>some (g=true/\(jv xs ag).1,(jv xs ag).2)
   | (g,.q (.box i o))=>(get? i σ.bx).map fun qs=>(g=true/\(eZ qs o ag).1,(eZ qs o ag).2)
   | (g,.q (.rp i sz k o))=>(get? i σ.rw).map fun r=>(g=true/\r.1=sz/\k < r.2.length/\(jx i k o ((r.2.getD k []).drop o |>.take (ag.getD 1)) ag).1,(jx i k o ((r.2.getD k []).drop o |>.take (ag.getD 1)) ag).2)
   | _=>none
 | .fa x off=>match σ.v x with
   | (g,.q (.el xs))=>some (g=true,.q (.el (xs.drop off)))
   | (g,.q (.box i o))=>some (g=true,.q (.box i (o+off)))
   | (g,.q (.rp i sz k o))=>some (g=true,.q (.rp i sz k (o+off)))
   | _=>none
 | .ia x i sz=>match σ.v x,σ.v i with
   | (g,p),(g',.q (.c (.int _ n)))=>match p with
     | .q (.own r)=>(get? r σ.rw).map fun s=>(g=true/\g'=true/\s.1=sz/\0<=n/\n < s.2.length,.q (.rp r sz n.toNat 0))
     | .q (.vw r sz' lo m)=>(get? r σ.rw).map fun s=>(g=true/\g'=true/\s.1=sz/\sz'=sz/\0<=n/\n < m/\lo+n < s.2.length,.q (.rp r sz (lo+n.toNat) 0))
     | p=>p.row.map fun s=>(g=true/\g'=true/\s.1=sz/\0<=n/\n < s.2.length,.q (.el (s.2.getD n.toNat [])))
   | _,_=>none
 | .idx x i=>match σ.v x,σ.v i with
   | (g,.q (.c (.str s))),(g',.q (.c (.int _ n)))=>some (g=true/\g'=true/\0<=n/\n < s.size,.q (.c (.int .u8 (dW s n.toNat))))
   | _,_=>none
 | .fld x off ag=>match σ.v x with
   | (g,.agg qs)=>some (g=true/\(eZ qs off ag).1,(eZ qs off ag).2)
   | _=>none
 | .ext x i=>match σ.v x with
   | (g,.tup xs)=>match xs[i]? with
     | some (.q q)=>some (g=true,.q q)
     | some (.agg qs)=>some (g=true,.agg qs)
     | none=>none
   | _=>none
 | .len x true=>match σ.v x with
   | (g,.q (.c (.str s)))=>some (g=true,.q (.c (.int .i64 s.size)))
   | _=>none
 | .len x false=>match σ.v x with
   | (g,.q (.own r))=>(get? r σ.rw).map fun s=>(g=true,.q (.c (.int .i64 s.2.length)))
   | (g,.q (.vw _ _ _ n))=>some (g=true,.q (.c (.int .i64 n)))
   | (g,.q (.vc _ _ _ n _))=>some (g=true,.q (.c (.int .i64 n)))
   | (g,p)=>p.row.map fun s=>(g=true,.q (.c (.int .i64 s.2.length)))
 | .call f xs=>fd Γ σ f xs
 | .callw f xs=>nq Γ σ f xs
 | .callb f xs=>jA Γ σ f xs
 | .calli f xs=>match σ.v f with
   | (g,.q (.c (.fn f)))=>(fd Γ σ f xs).map fun r=>(g=true/\r.1,r.2)
   | _=>none
 | .sub x lo hi sz=>match sz with
   | 0=>match σ.v x,loX σ 0 lo with
     | (g,.q (.c (.str s))),some (gl,l)=>(loX σ s.size hi).map fun h=>(g=true/\gl=true/\h.1=true/\0<=l/\l<=h.2/\h.2<=(s.size:Int),.q (.c (.str (s.extract l.toNat h.2.toNat))))
     | _,_=>none
   | sz+1=>match σ.v x,loX σ 0 lo with
     | (g,.q (.own r)),some (gl,l)=>match get? r σ.rw with
       | some (sz',es)=>(loX σ es.length hi).map fun h=>(sz'=sz+1/\g=true/\gl=true/\h.1=true/\0<=l/\l<=h.2/\h.2<=(es.length:Int),.q (.vw r (sz+1) l.toNat (h.2.toNat-l.toNat)))
       | none=>none
     | (g,.q (.vw r sz' lo' n)),some (gl,l)=>match get? r σ.rw with
       | some (sz2,es)=>(loX σ n hi).map fun h=>(sz'=sz+1/\g=true/\gl=true/\h.1=true/\0<=l/\l<=h.2/\(h.2<=(n:Int)\/lo'+h.2<=(es.length:Int)),.q (.vw r (sz+1) (lo'+l.toNat) (h.2.toNat-l.toNat)))
       | none=>none
     | (g,.q (.vc r sz' lo' n c)),some (gl,l)=>(loX σ n hi).map fun h=>(sz'=sz+1/\g=true/\gl=true/\h.1=true/\0<=l/\l<=h.2/\lo'+h.2<=(c:Int),.q (.vc r (sz+1) (lo'+l.toNat) (h.2.toNat-l.toNat) c))
     | (g,.q (.z sz')),some (gl,l)=>(loX σ 0 hi).map fun h=>(sz'=sz+1/\g=true/\gl=true/\h.1=true/\l=0/\h.2=0,.q (.z (sz+1)))
     | (g,p),some (gl,l)=>match p.row with
       | some (sz',es)=>(loX σ es.length hi).map fun h=>(sz'=sz+1/\g=true/\gl=true/\h.1=true/\0<=l/\l<=h.2/\h.2<=(es.length:Int),.q (.c (.row (sz+1) ((es.take h.2.toNat).drop l.toNat))))
       | none=>none
     | _,none=>none
 | .sub3 x lo hi mx sz=>match σ.v x,σ.v lo,σ.v hi,σ.v mx with
   | (g,.q (.own r)),(gl,.q (.c (.int _ l))),(gh,.q (.c (.int _ h))),(gm,.q (.c (.int _ m)))=>match get? r σ.rw with
     | some (sz',es)=>some (sz'=sz/\g=true/\gl=true/\gh=true/\gm=true/\0<=l/\l<=h/\h<=m/\m<=(es.length:Int),.q .no)
     | none=>none
   | _,_,_,_=>none
 | .conv k x=>match σ.v x with
   | (g,.q (.c (.int _ n)))=>some (g=true/\rg k n,.q (.c (.int k n)))
   | _=>none
 | .bts x=>match (σ.v x).2.row with
   | some (sz,es)=>(ju es).map fun l=>((σ.v x).1=true/\sz=1,.q (.c (.str (fJ l))))
   | none=>none
 | .build zs parts=>(dX σ parts (True,zs)).map fun r=>(r.1,.agg r.2)
 | .bsl sz parts=>match parts with
   | []=>some (True,.q (.z sz))
   | _=>(fc σ sz parts).map fun r=>(r.1,.q (.full sz r.2))
 | .nilc x=>match σ.v x with
   | (g,.q (.el xs))=>some (g=true,.q (.el xs))
   | (g,.q (.box i o))=>some (g=true,.q (.box i o))
   | (g,.q (.rp i sz k o))=>some (g=true,.q (.rp i sz k o))
   | _=>none
 | .isn x=>match σ.v x with
   | (g,.q (.own r))=>(get? r σ.rw).map fun s=>(g=true,.q (.nt s.2.isEmpty))
   | (g,p)=>p.row.map fun s=>(g=true,.q (.nt s.2.isEmpty))
 | .cap x=>match σ.v x with
   | (g,.q (.z _))=>some (g=true,.q (.c (.int .i64 0)))
   | _=>none
 | .ovl x y=>match σ.v x,σ.v y with
   | (g,p),(g',.q (.vc r _ _ _ _))=>match p.row,get? r σ.rw with
     | some s,some _=>some (g=true/\g'=true/\0 < s.1,.q (.c (.bool false)))
     | _,_=>none
   | _,_=>none
 | _=>none
def Q.killB (id:Nat):Q->Q
 | .box i o=>if i=id then .no else .box i o
 | q=>q
def Q.killO (id:Nat):Q->Q
 | .own i=>if i=id then .no else .own i
 | .rp i sz k o=>if i=id then .no else .rp i sz k o
 | .vw i sz lo n=>if i=id then .no else .vw i sz lo n
 | .vc i sz lo n cap=>if i=id then .no else .vc i sz lo n cap
 | .nr i π=>if i=id then .no else .nr i π
 | .np i π sz k o=>if i=id then .no else .np i π sz k o
 | q=>q
def Q.killN (id:Nat):Q->Q
 | .nr i π=>if i=id then .no else .nr i π
 | .np i π sz k o=>if i=id then .no else .np i π sz k o
 | q=>q
def Q.killW (id:Nat):Q->Q
 | .own i=>if i=id then .no else .own i
 | .nr i π=>if i=id then .no else .nr i π
 | .np i π sz k o=>if i=id then .no else .np i π sz k o
 | q=>q
def Q.toVc (r d sz n cap:Nat):Q->Q
 | .own i=>if i=r then .vc d sz 0 n cap else .own i
 | q=>q.killO r
def Q.pubB (id:Nat) (cs:List C):Q->Q
 | .box i o=>if i=id then .el (cs.drop o) else .box i o
 | q=>q
def Q.pub (id:Nat) (c:C):Q->Q
 | .own i=>if i=id then .c c else .own i
 | .rp i sz k o=>if i=id then .no else .rp i sz k o
 | .nr i π=>if i=id then .no else .nr i π
 | .np i π sz k o=>if i=id then .no else .np i π sz k o
 | q=>q
def SV.map (f:Q->Q):SV->SV
 | .q x=>.q (f x)
 | .agg xs=>.agg (xs.map f)
def PV.map (f:Q->Q):PV->PV
 | .q x=>.q (f x)
 | .agg xs=>.agg (xs.map f)
 | .tup xs=>.tup (xs.map (SV.map f))
 | .gd b p=>.gd b (p.map f)
def St.map (f:Q->Q) (σ:St):St:={ tm:=σ.tm.map fun x=>(x.1,x.2.map f),bx:=σ.bx.map fun x=>(x.1,x.2.map f),rw:=σ.rw }
def St.pub (i:Nat) (σ:St):St:=match get? i σ.rw with
 | some (sz,es)=>match dtR es with
   | some es=>{ σ.map (Q.pub i (.row sz es)) with rw:=del i σ.rw }
   | none=>σ
 | none=>σ
def iw:Q->List Nat
 | .own i=>[i]
 | _=>[]
def PV.owns:PV->List Nat
 | .q x=>iw x
 | .agg qs=>qs.flatMap iw
 | _=>[]
def fL (σ:St):List XO->List Bool->List Nat
 | x::xs,m::ms=>(if m then [] else (σ.v x).2.owns)++fL σ xs ms
 | _,_=>[]
def St.pubs (σ:St) (xs:List XO) (md:List Bool):St:=(fL σ xs md).foldl (fun σ i=>σ.pub i) σ
def cO (σ:St):List XO->List Bool->Option (Prop × List AV)
 | [],[]=>some (True,[])
 | x::xs,m::ms=>match cO σ xs ms with
   | some (vc,ds)=>match m,(σ.v x).2 with
     | false,p=>match p.toD with
       | some d=>some ((σ.v x).1=true/\vc,.d d::ds)
       | none=>none
     | true,.q (.box i 0)=>match get? i σ.bx with
       | some qs=>match cC qs with
         | some cs=>some ((σ.v x).1=true/\vc,.ref cs::ds)
         | none=>none
       | none=>none
     | true,.q (.own r)=>match get? r σ.rw with
       | some (sz,es)=>some ((σ.v x).1=true/\vc,.own sz es::ds)
       | none=>none
     | _,_=>none
   | none=>none
 | _,_=>none
def aT (σ:St):List XO->List Bool->List (Bool × Nat)
 | x::xs,true::ms=>(match (σ.v x).2 with|.q (.box i _)=>[(false,i)]|.q (.own i)=>[(true,i)]|_=>[])++aT σ xs ms
 | _::xs,false::ms=>aT σ xs ms
 | _,_=>[]
def cV:List (Bool × Nat)->Bool
 | []=>true
 | x::r=>!(r.any fun y=>y.1 == x.1 && y.2 == x.2) && cV r
def bZ (σ0:St):List XO->List Bool->List AV->St->Option St
 | [],[],[],σ=>some σ
 | _::xs,false::ms,.gone::os,σ=>bZ σ0 xs ms os σ
 | x::xs,true::ms,o::os,σ=>match (σ0.v x).2,o with
   | .q (.box i _),.ref cs=>bZ σ0 xs ms os { σ with bx:=upd i (cs.map .c) σ.bx }
   | .q (.own i),.own sz es=>bZ σ0 xs ms os { σ.map (Q.killN i) with rw:=upd i (sz,es) σ.rw }
   | .q (.own i),.gone=>bZ σ0 xs ms os { σ.map (Q.killO i) with rw:=del i σ.rw }
   | _,_=>none
 | _,_,_,_=>none
def pid (d j k:Nat):Nat:=100000*(d+1)+100*j+k
def agQ (d j:Nat):Nat->List Pt->List Q
 | _,[]=>[]
 | k,.c x::ps=>.c x::agQ d j (k+1) ps
 | k,.o _ _::ps=>.own (pid d j k)::agQ d j (k+1) ps
def agR (d j:Nat):Nat->List Pt->List (Nat × Nat × List (List C))
 | _,[]=>[]
 | k,.c _::ps=>agR d j (k+1) ps
 | k,.o sz es::ps=>(pid d j k,sz,es)::agR d j (k+1) ps
def svL (d:Nat):Nat->List AV->Option (List SV × List (Nat × Nat × List (List C)))
 | _,[]=>some ([],[])
 | j,.d x::as=>(svL d (j+1) as).map fun r=>(x.toS::r.1,r.2)
 | j,.own sz es::as=>(svL d (j+1) as).map fun r=>(.q (.own (pid d j 0))::r.1,(pid d j 0,sz,es)::r.2)
 | j,.ag ps::as=>(svL d (j+1) as).map fun r=>(.agg (agQ d j 0 ps)::r.1,agR d j 0 ps++r.2)
 | _,_=>none
def jB:List (Nat × Nat × List (List C))->St->St
 | [],σ=>σ
 | (i,r)::rows,σ=>jB rows { σ.map (Q.killO i) with rw:=upd i r σ.rw }
def svP:List SV->PV
 | [.q x]=>.q x
 | [.agg xs]=>.agg xs
 | l=>.tup l
def bt:List Nat->Bool
 | []=>true
 | x::r=>!(r.contains x) && bt r
def ltB:List (Nat × Nat × List (List C))->Bool
 | []=>true
 | r::rs=>decide (r.1 < aS) && ltB rs
def ez (dst:Option Nat) (ds:List AV) (σ:St):Option St:=match ds with
 | [.own sz es]=>match dst with
   | some d=>some { tm:=upd d (.q (.own d)) (σ.map (Q.killO d)).tm,bx:=(σ.map (Q.killO d)).bx,rw:=upd d (sz,es) σ.rw }
   | none=>none
 | [.ref cs]=>match dst with
   | some d=>some { tm:=upd d (.q (.box d 0)) (σ.map (Q.killB d)).tm,bx:=upd d ((cs.map .c).map (Q.killB d)) (σ.map (Q.killB d)).bx,rw:=σ.rw }
   | none=>none
 | ds=>match cD ds with
   | some p=>some (σ.put dst p)
   | none=>match dst with
     | some d=>match svL d 0 ds with
       | some (svs,rows)=>if bt (rows.map fun r=>r.1) && ltB rows then some { jB rows σ with tm:=upd d (svP svs) (jB rows σ).tm } else none
       | none=>none
     | none=>none
def fM (Γ:FuncId->Option Spec) (σ0:St) (dst:Option Nat) (f:FuncId) (xs:List XO):Option (Prop × St) :=
 match Γ f with
 | some sp=>match sp.alts with
   | none=>match cO (σ0.pubs xs sp.md) xs sp.md with
     | some (vc,ds)=>if cV (aT (σ0.pubs xs sp.md) xs sp.md) then
        match bZ (σ0.pubs xs sp.md) xs sp.md (sp.out ds) (σ0.pubs xs sp.md) with
        | some σ'=>(ez dst (sp.res ds) σ').map fun σ''=>(vc/\sp.pre ds,σ'')
        | none=>none
       else none
     | none=>none
   | some _=>none
 | none=>none
mutual
def flC:C->Bool
 | .own _ es=>flR es
 | .int _ _=>true
 | .bool _=>true
 | .str _=>true
 | .fn _=>false
 | .row _ _=>false
 | .ptr _=>false
 | .clo _ _=>false
 | .zz _=>false
 | .jk=>false
 | .ifc=>false
def flL:List C->Bool
 | []=>true
 | c::cs=>flC c && flL cs
def flR:List (List C)->Bool
 | []=>true
 | e::es=>flL e && flR es
end
def Pt.fl:Pt->Bool
 | .c x=>fe x
 | .o _ es=>flR es
def AV.fl:AV->Bool
 | .d (.one c)=>fe c
 | .d (.agg cs)=>cs.all fe
 | .own _ es=>flR es
 | .ag ps=>ps.all Pt.fl
 | _=>false
def lc (Γ:FuncId->Option Spec) (σ:St) (dst:Option Nat) (f:FuncId) (xs:List XO):Option (Prop × St) :=
 match Γ f,dk σ xs with
 | some sp,some (vc,ds)=>match sp.alts with
   | none=>if (sp.res ds).all AV.fl=true then (ez dst (sp.res ds) σ).map fun σ'=>(vc/\sp.pre ds,σ') else none
   | some _=>none
 | _,_=>none
def iz (rw:List (Nat × Nat × List (List C))):List Q->Option (List Pt)
 | []=>some []
 | .own i::qs=>match get? i rw,iz rw qs with
   | some (sz,es),some ps=>some (.o sz es::ps)
   | _,_=>none
 | q::qs=>match q.toC,iz rw qs with
   | some c,some ps=>some (.c c::ps)
   | _,_=>none
def aX:List Q->List Nat
 | []=>[]
 | .own i::qs=>i::aX qs
 | _::qs=>aX qs
def eC:List Q->List Pt->List (Nat × Nat × List (List C))->Option (List (Nat × Nat × List (List C)))
 | [],[],rw=>some rw
 | .own i::qs,.o sz es::ps,rw=>if flR es=true then eC qs ps (upd i (sz,es) rw) else none
 | .own _::_,.c _::_,_=>none
 | _::qs,.c _::ps,rw=>eC qs ps rw
 | _,_,_=>none
def Q.killL (l:List Nat):Q->Q
 | .nr i π=>if i ∈ l then .no else .nr i π
 | .np i π sz k o=>if i ∈ l then .no else .np i π sz k o
 | q=>q
def oR (Γ:FuncId->Option Spec) (σ:St) (dst:Option Nat) (f:FuncId) (x y:XO):Option (Prop × St) :=
 match Γ f with
 | none=>none
 | some sp=>match sp.alts,(σ.v y).2.toD with
   | none,some d=>match σ.v x with
     | (g,.q (.nr i [(k,o)]))=>match get? i σ.rw with
       | some (sz,es)=>match (es.getD k []).getD o .jk with
         | .own s ys=>match sp.out [.own s ys,.d d],cD (sp.res [.own s ys,.d d]) with
           | [.own s' ys',.gone],some r=>if flR ys'=true/\lb r=true then
              some (g=true/\(σ.v y).1=true/\k < es.length/\o < (es.getD k []).length/\sp.pre [.own s ys,.d d],St.put { σ.map (Q.killL [i]) with rw:=upd i (sz,es.set k ((es.getD k []).set o (.own s' ys'))) σ.rw } dst r)
             else none
           | _,_=>none
         | _=>none
       | none=>none
     | (g,.agg qs)=>match iz σ.rw qs with
       | some ps=>match sp.out [.ag ps,.d d],cD (sp.res [.ag ps,.d d]) with
         | [.ag ps',.gone],some r=>if bt (aX qs)=true/\lb r=true then
            (eC qs ps' σ.rw).map fun rw'=>(g=true/\(σ.v y).1=true/\sp.pre [.ag ps,.d d],St.put { σ.map (Q.killL (aX qs)) with rw:=rw' } dst r)
           else none
         | _,_=>none
       | none=>none
     | _=>none
   | _,_=>none
def Spec.all (sp:Spec) (ds:List AV) (F:List AV->List AV->Prop):Prop:=∀ r o,sp.may ds r o->F r o
def orF {α:Type} (x:Option α) (F:α->Prop):Prop:=match x with
 | some a=>F a
 | none=>False
def dY (Γ:FuncId->Option Spec) (σ0:St) (dst:Option Nat) (f:FuncId) (xs:List XO) (K:St->Prop):Prop :=
 match Γ f with
 | some sp=>match cO (σ0.pubs xs sp.md) xs sp.md with
   | some (vc,ds)=>cV (aT (σ0.pubs xs sp.md) xs sp.md)=true/\vc/\sp.pre ds /\
      sp.all ds (fun r o=>orF (bZ (σ0.pubs xs sp.md) xs sp.md o (σ0.pubs xs sp.md)) (fun σ'=>orF (ez dst r σ') K))
   | none=>False
 | none=>False
def St.rowMove (r d sz:Nat) (es:List (List C)) (σ:St):St:=⟨((σ.map (Q.killO r)).map (Q.killO d)).tm,((σ.map (Q.killO r)).map (Q.killO d)).bx,upd d (sz,es) (del r σ.rw)⟩
def gI (l:List Nat) (rw:List (Nat × Nat × List (List C))):List (Nat × Nat × List (List C)):=match l with
 | []=>rw
 | i::l=>gI l (del i rw)
def nu (d r sz:Nat) (es:List (List C)) (σ:St):St:={ tm:=upd d (.q (.own r)) (σ.map (Q.killO r)).tm,bx:=(σ.map (Q.killO r)).bx,rw:=upd r (sz,es) σ.rw }
def bc (σ:St) (dst:Option Nat):XK->Option (Prop × St)
 | .st x y ag=>match σ.v x,σ.v y with
   | (g,.q (.box i o)),(g',p)=>match get? i σ.bx,cellsOf p ag with
     | some qs,some ys=>some (g=true/\g'=true/\o+ys.length<=qs.length,{ σ with bx:=upd i (place qs o ys) σ.bx })
     | _,_=>none
   | (g,.q (.rp i sz k o)),(g',p)=>match get? i σ.rw,cellsOf p ag with
     | some (sz',es),some ys=>match cC ys with
       | some cs=>some (g=true/\g'=true/\sz'=sz/\k < es.length/\o+cs.length<=sz,{ σ with rw:=upd i (sz,es.set k (eY (es.getD k []) o cs)) σ.rw })
       | none=>none
     | _,_=>none
   | _,_=>none
 | .box x ag=>match dst,σ.v x with
   | some d,(g,p)=>match cellsOf p ag with
     | some ys=>some (g=true,{ tm:=upd d (.q (.box d 0)) (σ.map (Q.killB d)).tm,bx:=upd d (ys.map (Q.killB d)) (σ.map (Q.killB d)).bx,rw:=σ.rw })
     | none=>none
   | none,_=>none
 | .mkf f x=>match dst,σ.v x with
   | some d,(g,.q (.box i 0))=>match (get? i σ.bx).bind cC with
     | some cs=>some (g=true,{ tm:=upd d (.q (.c (.clo f [.ptr cs]))) (σ.map (Q.pubB i cs)).tm,bx:=del i (σ.map (Q.pubB i cs)).bx,rw:=σ.rw })
     | none=>none
   | _,_=>none
 | .alloc zs=>match dst with
   | some d=>some (True,{ tm:=upd d (.q (.box d 0)) (σ.map (Q.killB d)).tm,bx:=upd d (zs.map (Q.killB d)) (σ.map (Q.killB d)).bx,rw:=σ.rw })
   | none=>none
 | .app x y sz bytes _=>match dst,σ.v x,σ.v y with
   | some d,(g,.q (.own r)),(g',p)=>match get? r σ.rw,p.rowB σ with
     | some (sz',es),some (sz'',ys)=>if aS<=r then
        some (g=true/\g'=true/\sz'=sz/\sz''=sz/\(es.length+ys.length)*bytes<=140737488355328,
         nu d d sz (es++ys) (σ.rowMove r d sz es))
       else
        some (g=true/\g'=true/\sz'=sz/\sz''=sz/\(es.length+ys.length)*bytes<=140737488355328,
         { tm:=upd d (.q (.own r)) (σ.map (Q.killO r)).tm,bx:=(σ.map (Q.killO r)).bx,rw:=upd r (sz,es++ys) σ.rw })
     | _,_=>none
   | some d,(g,.q (.vw r sz1 lo n)),(g',p)=>match get? r σ.rw,p.rowB σ with
     | some (sz',es),some (sz'',ys)=>if lo+n+ys.length<=es.length then
        some (g=true/\g'=true/\sz1=sz/\sz'=sz/\sz''=sz,
         { tm:=upd d (.q (.vw r sz lo (n+ys.length))) σ.tm,bx:=σ.bx,rw:=upd r (sz,es.take (lo+n)++ys++es.drop (lo+n+ys.length)) σ.rw })
       else if lo=0/\r < aS/\n<=es.length then
        some (g=true/\g'=true/\sz1=sz/\sz'=sz/\sz''=sz/\(n+ys.length)*bytes<=140737488355328,
         nu d r sz (es.take n++ys) σ)
       else none
     | _,_=>none
   | some d,(g,p),(g',p')=>match p,p'.rowB σ with
     | .q (.z sz'),some (sz'',ys)=>some (g=true/\g'=true/\sz'=sz/\sz''=sz/\ys.length*bytes<=140737488355328,
        { tm:=upd d (.q (.own d)) (σ.map (Q.killO d)).tm,bx:=(σ.map (Q.killO d)).bx,rw:=upd d (sz,ys) σ.rw })
     | .q (.full sz' es),some (sz'',ys)=>some (g=true/\g'=true/\sz'=sz/\sz''=sz/\0 < ys.length/\(es.length+ys.length)*bytes<=140737488355328,
        { tm:=upd d (.q (.own d)) (σ.map (Q.killO d)).tm,bx:=(σ.map (Q.killO d)).bx,rw:=upd d (sz,es++ys) σ.rw })
     | _,_=>none
   | none,_,_=>none
 | .clr x zs=>match σ.v x with
   | (g,.q (.own r))=>(get? r σ.rw).map fun s=>(g=true/\s.1=zs.length,St.put { σ with rw:=upd r (s.1,List.replicate s.2.length zs) σ.rw } dst (.q .no))
   | (g,.q (.vw r sz lo n))=>(get? r σ.rw).map fun s=>(g=true/\sz=zs.length/\s.1=zs.length/\lo+n<=s.2.length,St.put { σ with rw:=upd r (s.1,s.2.take lo++List.replicate n zs++s.2.drop (lo+n)) σ.rw } dst (.q .no))
   | _=>none
 | .apn x n zs bytes=>match dst,σ.v x,σ.v n with
   | some d,(g',.q (.vc r sz lo k c)),(g,.q (.c (.int _ m)))=>match get? r σ.rw with
     | some (sz',es)=>some (g=true/\g'=true/\lo=0/\k<=es.length/\(c:Int) < k+m/\0 < m/\(k+m)*bytes<=140737488355328/\k+m<=4611686018427387904/\sz=zs.length/\sz'=zs.length/\0 < zs.length/\aW es=true,
       { tm:=upd d (.q (.own d)) (σ.map (Q.killO d)).tm,bx:=(σ.map (Q.killO d)).bx,rw:=upd d (zs.length,es.take k++List.replicate m.toNat zs) σ.rw })
     | none=>none
   | some d,(g',.q (.z sz)),(g,.q (.c (.int _ m)))=>some (g=true/\g'=true/\0 < m/\m*bytes<=140737488355328/\m<=4611686018427387904/\sz=zs.length/\0 < zs.length,
      { tm:=upd d (.q (.own d)) (σ.map (Q.killO d)).tm,bx:=(σ.map (Q.killO d)).bx,rw:=upd d (zs.length,List.replicate m.toNat zs) σ.rw })
   | _,_,_=>none
 | .cpy x y sz=>match σ.v x,σ.v y with
   | (g,.q q),(g',p)=>match q.vwOf,p.srcB σ with
     | some (r,sz1,lo,n),some (sz2,m,ys)=>match get? r σ.rw with
       | some (sz',es)=>if lo+min n m<=es.length then
          some (g=true/\g'=true/\sz1=sz/\sz2=sz/\sz'=sz/\min n m<=ys.length,
           St.put { σ with rw:=upd r (sz,es.take lo++ys.take (min n m)++es.drop (lo+min n m)) σ.rw } dst (.q (.c (.int .i64 ((min n m:Nat):Int)))))
         else if r < aS then
          some (g=true/\g'=true/\sz1=sz/\sz2=sz/\sz'=sz/\min n m<=ys.length/\lo<=es.length,
           St.put { tm:=(σ.map (Q.killW r)).tm,bx:=(σ.map (Q.killO r)).bx,rw:=upd r (sz,es.take lo++ys.take (min n m)) σ.rw } dst (.q (.c (.int .i64 ((min n m:Nat):Int)))))
         else none
       | none=>none
     | _,_=>none
   | _,_=>none
 | .bslx sz parts=>match dst,jy σ sz parts with
   | some d,some (vc,eqs)=>match jz σ.rw eqs with
     | some (es,js)=>if bt (d::js)=true then
        some (vc/\0 < sz,{ tm:=upd d (.q (.own d)) (σ.map (Q.killO d)).tm,bx:=(σ.map (Q.killO d)).bx,rw:=upd d (sz,es) (gI js σ.rw) })
       else none
     | none=>none
   | _,_=>none
 | .stx x y ag=>match σ.v x,σ.v y with
   | (g,.q (.rp i sz k o)),(g',p)=>match get? i σ.rw,cellsOf p ag with
     | some (sz',es),some ys=>match gH σ.rw ys with
       | some (cs,js)=>if bt (i::js)=true then
          some (g=true/\g'=true/\sz'=sz/\k < es.length/\o+cs.length<=sz,{ σ.map (Q.killN i) with rw:=upd i (sz,es.set k (eY (es.getD k []) o cs)) (gI js σ.rw) })
         else none
       | none=>none
     | _,_=>none
   | _,_=>none
 | .appx x y sz bytes=>match dst,σ.v x,σ.v y with
   | some d,(g,.q (.own r)),(g',.q (.own s))=>match get? r σ.rw,get? s σ.rw with
     | some (sz',es),some (sz'',ys)=>if r=s\/aS<=r then none else
        some (g=true/\g'=true/\sz'=sz/\sz''=sz/\(es.length+ys.length)*bytes<=140737488355328,
         { tm:=upd d (.q (.own r)) (σ.map (Q.killO r)).tm,bx:=(σ.map (Q.killO r)).bx,rw:=upd s (sz,jkR ys) (upd r (sz,es++ys) σ.rw) })
     | _,_=>none
   | _,_,_=>none
 | .ldx x=>match dst,σ.v x with
   | some d,(g,.q (.rp i sz k o))=>match get? i σ.rw with
     | some (sz',es)=>match (es.getD k []).getD o .jk with
       | .own s ys=>if d=i then none else
          some (g=true/\sz'=sz/\k < es.length/\o < (es.getD k []).length,{ tm:=upd d (.q (.own d)) (σ.map (Q.killO d)).tm,bx:=(σ.map (Q.killO d)).bx,rw:=upd d (s,ys) (del i σ.rw) })
       | _=>none
     | none=>none
   | _,_=>none
 | .mk n zs bytes=>match dst,σ.v n with
   | some d,(g,.q (.c (.int _ m)))=>some (g=true/\0<=m/\m<=9223372036854775807/\bytes*m<=281474976710656/\0 < zs.length,
      { tm:=upd d (.q (.own d)) (σ.map (Q.killO d)).tm,bx:=(σ.map (Q.killO d)).bx,rw:=upd d (zs.length,List.replicate m.toNat zs) σ.rw })
   | _,_=>none
 | _=>none
def bN (Γ:FuncId->Option Spec) (σ:St) (x:XOp):Option (Prop × PV) :=
 match x.g with
 | some (t,want)=>match get (.q .no) t σ.tm |>.un with
   | (g,.q (.c (.bool b)))=>(ah Γ σ x.op).map fun r=>((g && (b == want))=true->r.1,PV.gd (g && (b == want)) r.2)
   | _=>none
 | none=>ah Γ σ x.op
def eD (Γ:FuncId->Option Spec) (pre:Bool) (σ:St) (x:XOp):Option (Prop × St) :=
 match x.g with
 | some _=>(bN Γ σ x).map fun r=>(r.1,σ.put x.dst r.2)
 | none =>
   match pre,x.op with
   | false,.st a b ag=>bc σ x.dst (.st a b ag)
   | false,.box a ag=>bc σ x.dst (.box a ag)
   | false,.alloc zs=>bc σ x.dst (.alloc zs)
   | false,.app a b sz bytes ex=>bc σ x.dst (.app a b sz bytes ex)
   | false,.mk n zs bytes=>bc σ x.dst (.mk n zs bytes)
   | false,.mkf f y=>bc σ x.dst (.mkf f y)
   | false,.clr y zs=>bc σ x.dst (.clr y zs)
   | false,.apn y n zs bytes=>bc σ x.dst (.apn y n zs bytes)
   | false,.cpy y z sz=>bc σ x.dst (.cpy y z sz)
   | false,.bslx sz ps=>bc σ x.dst (.bslx sz ps)
   | false,.stx a b ag=>bc σ x.dst (.stx a b ag)
   | false,.appx a b sz bytes=>bc σ x.dst (.appx a b sz bytes)
   | false,.ldx a=>bc σ x.dst (.ldx a)
   | false,.callx f xs=>lc Γ σ x.dst f xs
   | false,.callm f a b=>oR Γ σ x.dst f a b
   | false,.call f xs=>fM Γ σ x.dst f xs
   | false,.callo f xs=>fM Γ σ x.dst f xs
   | false,.calli f xs=>match σ.v f with
     | (g,.q (.c (.fn f)))=>(fM Γ σ x.dst f xs).map fun r=>(g=true/\r.1,r.2)
     | (g,.q (.c (.clo f cs)))=>(fM Γ σ x.dst f (xs++cs.map fun c=>.k c.toQ)).map fun r=>(g=true/\r.1,r.2)
     | _=>none
   | _,op=>(ah Γ σ op).map fun r=>(r.1,σ.put x.dst r.2)
def oS (σ:St) (dst:Option Nat) (y:XO) (K:St->Prop):Prop :=
 match σ.v y,dst with
 | (g,.q (.own r)),some d=>match get? r σ.rw with
   | some (sz,es)=>g=true/\d≠r/\∀ c:Nat,es.length<=c->(c:Int)<=9223372036854775807 ->
      K ⟨upd d (.q (.c (.int .i64 c))) ((σ.map (Q.killO d)).map (Q.toVc r d sz es.length c)).tm,(σ.rowMove r d sz es).bx,(σ.rowMove r d sz es).rw⟩
   | none=>False
 | _,_=>False
def cE (Γ:FuncId->Option Spec) (n:Nat) (σ:St) (x:XOp) (K:St->Prop):Prop:=match x.op with
 | .callr f ys=>match n,x.g with
   | 0,none=>dY Γ σ x.dst f ys K
   | 0,some (t,want)=>match (get (.q .no) t σ.tm).un with
     | (true,.q (.c (.bool b)))=>((b == want)=true->dY Γ σ x.dst f ys K)/\((b == want)=false->K (σ.put x.dst (.gd false (.q (.c (.int .i64 0))))))
     | _=>False
   | _,_=>False
 | .capr y=>match n,x.g with
   | 0,none=>oS σ x.dst y K
   | _,_=>False
 | _=>match eD Γ (n != 0) σ x with
   | some (vc,σ')=>vc/\(vc->K σ')
   | none=>False
def cn (Γ:FuncId->Option Spec):Nat->List XOp->St->(St->Prop)->Prop
 | _,[],σ,K=>K σ
 | n,x::xs,σ,K=>cE Γ n σ x (fun σ'=>cn Γ (n-1) xs σ' K)
end Go.Proofs.Pw
