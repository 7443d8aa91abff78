/- What is handed over to a call: where it lies, and that it lies apart. -/
import Derived.Test.YtcligmgalcidpaaGreatDoorPwT5
set_option linter.unusedSimpArgs false
set_option linter.unusedVariables false
set_option linter.unusedSectionVars false
set_option maxRecDepth 20000
namespace Go.Proofs.Pw
open Go.RowKit
variable [Globs]
section
variable {P:Program} {Γ:FuncId->Option Spec} {σ:St} {a:Act} {w w':World} {M M':Gh} {X:Nat->Prop} {B n:Nat} {w0:W0}
theorem Apart.split {S:Nat->Prop} {ps qs:List (Nat->Prop)} (h:Apart S (ps++qs)) {g:Nat} (hg:Any ps g):¬ Any qs g:=by
 induction ps with
 | nil=>obtain⟨_,hp,_⟩:=hg;cases hp
 | cons p ps ih =>
   obtain⟨q,hq,hg⟩:=hg
   rcases List.mem_cons.1 hq with rfl|hq
   ·rintro⟨q',hq',hg'⟩
    exact h.2.1 _ hg q' (by simp[hq']) hg'
   ·exact ih h.2.2 ⟨q,hq,hg⟩
theorem Any.left {ps qs:List (Nat->Prop)} {g:Nat} (h:Any ps g):Any (ps++qs) g:=by obtain⟨p,hp,hg⟩:=h;exact⟨p,by simp[hp],hg⟩
theorem Any.right {ps qs:List (Nat->Prop)} {g:Nat} (h:Any qs g):Any (ps++qs) g:=by obtain⟨p,hp,hg⟩:=h;exact⟨p,by simp[hp],hg⟩
def gM (M:Gh) (x:Bool × Nat) (g:Nat):Prop:=if x.1 then ae (M.ρ x.2) g else g=M.β x.2
def dI (p:PV) (m:Bool):List (Bool × Nat):=if m then (match p with|.q (.box i _)=>[(false,i)]|.q (.own i)=>[(true,i)]|_=>[]) else []
def dJ (M:Gh) (σ:St):List XO->List Bool->List (Nat->Prop)
 | x::xs,m::ms=>(fun g=>∃ id ∈ dI (σ.v x).2 m,gM M id g)::dJ M σ xs ms
 | _,_=>[]
def ff (σ:St) (x:Bool × Nat):Prop:=if x.1 then ∃ r,(x.2,r) ∈ σ.rw else ∃ q,(x.2,q) ∈ σ.bx
theorem lp {x:XO} {xs:List XO} {m:Bool} {ms:List Bool}:aT σ (x::xs) (m::ms)=dI (σ.v x).2 m++aT σ xs ms:=by
 cases m <;> simp[aT,dI];rfl
theorem lq {g:Nat}:∀ {xs:List XO} {ms:List Bool},Any (dJ M σ xs ms) g ↔ ∃ id ∈ aT σ xs ms,gM M id g:=by
 intro xs
 induction xs with
 | nil=>intro ms;simp[dJ,aT,Any]
 | cons x xs ih =>
   intro ms
   cases ms with
   | nil=>simp[dJ,aT,Any]
   | cons m ms =>
     rw[lp]
     constructor
     ·rintro⟨p,hp,hg⟩
      simp only[dJ] at hp
      rcases List.mem_cons.1 hp with rfl|hp
      ·obtain⟨id,h1,h2⟩:=hg;exact⟨id,by simp[h1],h2⟩
      ·obtain⟨id,h1,h2⟩:=ih.1 ⟨p,hp,hg⟩;exact⟨id,by simp[h1],h2⟩
     ·rintro⟨id,h1,h2⟩
      simp only[dJ]
      rcases List.mem_append.1 h1 with h1|h1
      ·exact⟨_,List.mem_cons_self ..,⟨id,h1,h2⟩⟩
      ·obtain⟨p,hp,hg⟩:=ih.2 ⟨id,h1,h2⟩
       exact⟨p,List.mem_cons_of_mem _ hp,hg⟩
def jH (σ:St) (w:World) (M:Gh) (x:XO) (v:Value):Prop:=(σ.v x).1=true->ak w M (σ.v x).2 v
theorem pj (ht:∀ t p,(t,p) ∈ σ.tm->ak w M p (a.tmps.getD t undef)):∀ {os:List Operand} {xs:List XO},bJ os xs=true->All2 (jH σ w M) xs (os.map a.eval):=by
 intro os
 induction os with
 | nil=>intro xs h;cases xs with
   | nil=>exact .nil
   | cons _ _=>simp[bJ] at h
 | cons o os ih=>intro xs h;cases xs with
   | nil=>simp[bJ] at h
   | cons x xs =>
     simp only[bJ,Bool.and_eq_true] at h
     exact .cons (fun hg=>aC ht h.1 hg) (ih h.2)
theorem IY:∀ {cs:List C} {us:List Value},us.length=cs.length->(∀ (j:Nat) c,cs[j]?=some c->∃ u,us[j]?=some u/\Rep w M.S c u)->All2 (jH σ w M) (cs.map fun c=>.k c.toQ) us:=by
 intro cs
 induction cs with
 | nil=>intro us hl _;cases us with
   | nil=>exact .nil
   | cons _ _=>simp at hl
 | cons c cs ih=>intro us hl h;cases us with
   | nil=>simp at hl
   | cons u us =>
     refine .cons (fun _=>?_) (ih (by simpa using hl) (fun j c hj=>by simpa using h (j+1) c (by simpa using hj)))
     obtain⟨u',hu,hr⟩:=h 0 c (by simp)
     simp at hu;subst hu
     exact yc hr
theorem All2.append {α β:Type} {R:α->β->Prop} {xs xs':List α} {ys ys':List β} (h:All2 R xs ys) (k:All2 R xs' ys'):All2 R (xs++xs') (ys++ys'):=by
 induction h with
 | nil=>exact k
 | cons h _ ih=>exact .cons h ih
theorem IZ (mem:Mem X B σ.bx σ.rw w M):∀ {xs:List XO} {us:List Value} {ms:List Bool} {vc:Prop} {ds:List AV},All2 (jH σ w M) xs us->cO σ xs ms=some (vc,ds)->vc ->
 All3 (RepA w M.S) ds us (dJ M σ xs ms)/\∀ id ∈ aT σ xs ms,ff σ id:=by
 intro xs
 induction xs with
 | nil =>
   intro us ms vc ds hk hx hvc
   cases hk
   cases ms with
   | nil=>simp only[cO,Option.some.injEq,Prod.mk.injEq] at hx;rw[<-hx.2];exact⟨.nil,by simp[aT]⟩
   | cons _ _=>simp[cO] at hx
 | cons x xs ih =>
   intro us ms vc ds hk hx hvc
   cases hk with
   | @cons _ u _ us hk1 hk2 =>
     cases ms with
     | nil=>simp[cO] at hx
     | cons m ms =>
       rw[lp]
       simp only[dJ]
       simp only[cO] at hx
       split at hx
       ·rename_i vc' ds' e2
        split at hx
        ·rename_i p hp
         split at hx
         ·rename_i d hd
          simp only[Option.some.injEq,Prod.mk.injEq] at hx
          obtain⟨rfl,rfl⟩:=hx
          have rx:=hk1 hvc.1
          obtain⟨i1,i2⟩:=ih hk2 e2 hvc.2
          exact⟨.cons ⟨lh rx hd,by simp[dI]⟩ i1,by simpa [dI] using i2⟩
         ·cases hx
        ·rename_i i e1
         split at hx
         ·rename_i qs hq
          split at hx
          ·rename_i cs hcs
           simp only[Option.some.injEq,Prod.mk.injEq] at hx
           obtain⟨rfl,rfl⟩:=hx
           have rx:=hk1 hvc.1
           rw[e1] at rx
           obtain⟨i1,i2⟩:=ih hk2 e2 hvc.2
           have hin:=get?_mem hq
           obtain⟨_,t,cells,h1,h2,h3⟩:=mem.box _ _ hin
           obtain⟨h4,h5⟩:=jF ⟨h2,h3⟩ hcs
           refine⟨.cons ⟨M.β i,rx,⟨t,cells,h1,h4,h5⟩,fun g=>by simp[dI,e1,gM]⟩ i1,?_⟩
           simp only[dI,e1,if_true,List.cons_append,List.nil_append,List.mem_cons]
           rintro id (rfl|h)
           ·exact⟨qs,hin⟩
           ·exact i2 _ h
          ·cases hx
         ·cases hx
        ·rename_i r e1
         split at hx
         ·rename_i sz es hq
          simp only[Option.some.injEq,Prod.mk.injEq] at hx
          obtain⟨rfl,rfl⟩:=hx
          have rx:=hk1 hvc.1
          rw[e1] at rx
          obtain⟨i1,i2⟩:=ih hk2 e2 hvc.2
          have hin:=get?_mem hq
          obtain⟨h1,h2,h3⟩:=mem.row _ _ _ hin
          refine⟨.cons ⟨h1,_,rx.1,h2,fun g=>by simp[dI,e1,gM]⟩ i1,?_⟩
          simp only[dI,e1,if_true,List.cons_append,List.nil_append,List.mem_cons]
          rintro id (rfl|h)
          ·exact⟨_,hin⟩
          ·exact i2 _ h
         ·cases hx
        ·cases hx
       ·cases hx
theorem nD (mem:Mem X B σ.bx σ.rw w M) {x y:Bool × Nat} (hx:ff σ x) (hy:ff σ y) (hne:x≠y) {g:Nat} (h:gM M x g):¬ gM M y g:=by
 obtain⟨bx,ix⟩:=x
 obtain⟨by',iy⟩:=y
 cases bx <;> cases by' <;> simp only[ff,gM,if_true,Bool.false_eq_true,if_false] at*<;> obtain⟨_,hx⟩:=hx <;> obtain⟨_,hy⟩:=hy
 ·subst h;exact mem.bb _ _ _ _ hx hy (fun e=>hne (by rw[e]))
 ·subst h;exact mem.br _ _ _ _ hx hy
 ·rintro rfl;exact mem.br _ _ _ _ hy hx h
 ·exact mem.rr _ _ _ _ g hx hy (fun e=>hne (by rw[e])) h
theorem yK (mem:Mem X B σ.bx σ.rw w M) {x:Bool × Nat} (hx:ff σ x) {g:Nat} (h:gM M x g):¬ M.S g/\g < w.heap.size/\dF X B g:=by
 obtain⟨bx,ix⟩:=x
 cases bx <;> simp only[ff,gM,if_true,Bool.false_eq_true,if_false] at*<;> obtain⟨r,hx⟩:=hx
 ·subst h
  obtain⟨h1,t,cells,h2,_⟩:=mem.box _ _ hx
  exact⟨mem.sb _ _ hx,(Array.getElem?_eq_some_iff.1 h2).1,h1⟩
 ·obtain⟨sz,es⟩:=r
  obtain⟨_,h1,h2⟩:=mem.row _ _ _ hx
  exact⟨mem.sr _ _ g hx h,h1.lt h,h2 g h⟩
theorem Ja {l1 l2:List (Bool × Nat)} (h:cV (l1++l2)=true):cV l2=true/\∀ x ∈ l1,∀ y ∈ l2,x≠y:=by
 induction l1 with
 | nil=>exact⟨h,by simp⟩
 | cons z l1 ih =>
   simp only[List.cons_append,cV,Bool.and_eq_true,Bool.not_eq_true',List.any_eq_false] at h
   obtain⟨h1,h2⟩:=ih h.2
   refine⟨h1,fun x hx y hy e=>?_⟩
   rcases List.mem_cons.1 hx with rfl|hx
   ·subst e;exact h.1 x (by simp[hy]) (by simp)
   ·exact h2 x hx y hy e
theorem Jb (mem:Mem X B σ.bx σ.rw w M):∀ {xs:List XO} {ms:List Bool},(∀ id ∈ aT σ xs ms,ff σ id)->cV (aT σ xs ms)=true->Apart M.S (dJ M σ xs ms):=by
 intro xs
 induction xs with
 | nil=>intro ms _ _;trivial
 | cons x xs ih =>
   intro ms hth hnd
   cases ms with
   | nil=>trivial
   | cons m ms =>
     rw[lp] at hth hnd
     obtain⟨h1,h2⟩:=Ja hnd
     refine⟨fun g ⟨id,hid,hg⟩=>(yK mem (hth id (by simp[hid])) hg).1,fun g ⟨id,hid,hg⟩ q hq hqg=>?_,ih (fun id h=>hth id (by simp[h])) h1⟩
     obtain⟨id',h3,h4⟩:=lq.1 ⟨q,hq,hqg⟩
     exact nD mem (hth id (by simp[hid])) (hth id' (by simp[h3])) (h2 id hid id' h3) hg h4
end
end Go.Proofs.Pw
namespace Go.Proofs.Pw
open Go.RowKit
variable [Globs]
section
variable {P:Program} {Γ:FuncId->Option Spec} {σ σ0:St} {a:Act} {w w':World} {M M':Gh} {X:Nat->Prop} {B n:Nat} {w0:W0}
structure BoxOk (w:World) (M:Gh) (N:Nat->Prop) (i:Nat) (qs:List Q):Prop where
 cells:∃ t cells,w.heap[M.β i]?=some (.cells cells t (0,0))/\RelCs w M qs cells
 s:¬ M.S (M.β i)
 n:¬ N (M.β i)
structure RowOk (X:Nat->Prop) (B:Nat) (w:World) (M:Gh) (N:Nat->Prop) (i sz:Nat) (es:List (List C)):Prop where
 pos:0 < sz
 priv:Priv w M.S sz es (M.ρ i)
 s:∀ g,ae (M.ρ i) g->¬ M.S g
 n:∀ g,ae (M.ρ i) g->¬ N g
 mine:∀ g,ae (M.ρ i) g->dF X B g
structure Mid (X:Nat->Prop) (B:Nat) (w:World) (M:Gh) (N F:Nat->Prop) (a:Act) (σ0:St) (todo:List (Bool × Nat)) (σ:St):Prop where
 tm:∀ t p,(t,p) ∈ σ.tm->ak w M p (a.tmps.getD t undef)
 box:∀ i qs,(i,qs) ∈ σ.bx->ff σ0 (false,i)/\((false,i) ∈ todo\/BoxOk w M N i qs)
 row:∀ i sz es,(i,sz,es) ∈ σ.rw->ff σ0 (true,i)/\((true,i) ∈ todo\/RowOk X B w M N i sz es)
 bf:∀ i qs,(i,qs) ∈ σ.bx->(false,i) ∉ todo->¬ F (M.β i)
 rf:∀ i r,(i,r) ∈ σ.rw->(true,i) ∉ todo->∀ g,ae (M.ρ i) g->¬ F g
 br:∀ i qs j r,(i,qs) ∈ σ.bx->(j,r) ∈ σ.rw->(false,i) ∉ todo->(true,j) ∉ todo->¬ ae (M.ρ j) (M.β i)
 rr:∀ i r j r' g,(i,r) ∈ σ.rw->(j,r') ∈ σ.rw->i≠j->(true,i) ∉ todo->(true,j) ∉ todo->ae (M.ρ i) g->¬ ae (M.ρ j) g
theorem yL {i:Nat} (q:Q) (v:Value) (h:af w M q v):af w M (q.killO i) v:=by
 cases q with
 | own j =>
   simp only[Q.killO]
   split
   ·trivial
   ·exact h
 | rp j sz k o =>
   simp only[Q.killO]
   split
   ·trivial
   ·exact h
 | vw i sz lo n =>
   simp only[Q.killO]
   split
   ·trivial
   ·exact h
 | vc i sz lo n c =>
   simp only[Q.killO]
   split
   ·trivial
   ·exact h
 | nr i π =>
   simp only[Q.killO]
   split
   ·trivial
   ·exact h
 | np i π sz k o =>
   simp only[Q.killO]
   split
   ·trivial
   ·exact h
 | _=>exact h
theorem sI {cs:List C} {g:Nat} (h:nk w M.S cs g):∃ t cells,w.heap[g]?=some (.cells cells t (0,0))/\RelCs w M (cs.map .c) cells:=by
 obtain⟨t,cells,h1,h2,h3⟩:=h
 refine⟨t,cells,h1,by simpa using h2,fun j q hq=>?_⟩
 simp only[List.getElem?_map,Option.map_eq_some_iff] at hq
 obtain⟨c,hc,rfl⟩:=hq
 obtain⟨u,g1,g2⟩:=h3 j c hc
 exact⟨u,g1,g2.one,g2⟩
theorem Mid.lessF {N F F':Nat->Prop} {todo:List (Bool × Nat)} (h:Mid X B w M N F a σ0 todo σ) (hF:∀ g,F' g->F g):Mid X B w M N F' a σ0 todo σ :=
 ⟨h.tm,h.box,h.row,fun i qs h1 h2 h3=>h.bf i qs h1 h2 (hF _ h3),fun i r h1 h2 g hg h3=>h.rf i r h1 h2 g hg (hF _ h3),h.br,h.rr⟩
theorem Jc {N:Nat->Prop}:∀ {xs:List XO} {us:List Value} {ms:List Bool} {outs:List AV} {fps:List (Nat->Prop)} {σ σ':St} {M1:Gh},All2 (jH σ0 w M) xs us ->
 (∀ x m,(x,m) ∈ xs.zip ms->m=true->(σ0.v x).1=true)->M1.β=M.β->M1.S=M.S->(∀ i,(M1.ρ i).v=(M.ρ i).v) ->
 Mid X B w M1 N (Any fps) a σ0 (aT σ0 xs ms) σ->All3 (RepA w M.S) outs us fps->(∀ g,Any fps g->¬ M.S g/\¬ N g/\dF X B g)->eW fps->bZ σ0 xs ms outs σ=some σ'->(∀ id ∈ aT σ0 xs ms,ff σ0 id)->cV (aT σ0 xs ms)=true ->
 ∃ M2:Gh,M2.β=M.β/\M2.S=M.S/\(∀ i,(M2.ρ i).v=(M.ρ i).v)/\Mid X B w M2 N (fun _=>False) a σ0 [] σ':=by
 intro xs
 induction xs with
 | nil =>
   intro us ms outs fps σ σ' M1 hk hg e1 e2 e3 hm h3 hf hap ho hth hnd
   cases hk
   cases h3
   cases ms with
   | nil=>simp only[bZ,Option.some.injEq] at ho;subst ho;exact⟨M1,e1,e2,e3,hm.lessF (fun _ h=>h.elim)⟩
   | cons _ _=>simp[bZ] at ho
 | cons x xs ih =>
   intro us ms outs fps σ σ' M1 hk hg e1 e2 e3 hm h3 hf hap ho hth hnd
   cases hk with
   | @cons _ u _ us hk1 hk2 =>
     cases ms with
     | nil=>cases h3;simp[bZ] at ho
     | cons m ms =>
       rw[lp] at hm hth hnd
       cases h3 with
       | @cons ov _ fp _ _ fps hr h3 =>
       have hf':∀ g,Any fps g->¬ M.S g/\¬ N g/\dF X B g:=fun g ⟨p,hp,h⟩=>hf g ⟨p,by simp[hp],h⟩
       have hfh:∀ g,fp g->¬ M.S g/\¬ N g/\dF X B g:=fun g h=>hf g ⟨fp,by simp,h⟩
       have hg':∀ y m',(y,m') ∈ xs.zip ms->m'=true->(σ0.v y).1=true:=fun y m' h=>hg y m' (by simp[h])
       have hth':∀ id ∈ aT σ0 xs ms,ff σ0 id:=fun id h=>hth id (by simp[h])
       have hup:∀ g,Any fps g->Any (fp::fps) g:=fun g ⟨p,hp,h⟩=>⟨p,by simp[hp],h⟩
       have hfa:∀ g,fp g->¬ Any fps g:=fun g h ⟨q,hq,hg⟩=>hap.1 g h q hq hg
       have hfu:∀ g,fp g->Any (fp::fps) g:=fun g h=>⟨fp,by simp,h⟩
       cases m with
       | false =>
         cases ov with
         | gone =>
           simp only[bZ] at ho
           exact ih hk2 hg' e1 e2 e3 (by simpa [dI] using hm.lessF hup) h3 hf' hap.2 ho hth' (by simpa [dI] using hnd)
         | d _=>simp[bZ] at ho
         | ref _=>simp[bZ] at ho
         | own _ _=>simp[bZ] at ho
         | ag _=>simp[bZ] at ho
       | true =>
         simp only[bZ] at ho
         have rx:=hk1 (hg x true (by simp) rfl)
         split at ho
         ·rename_i i off cs ev
          rw[ev] at rx hm hth hnd
          simp only[dI,if_true,List.cons_append,List.nil_append] at hm hth hnd
          simp only[cV,Bool.and_eq_true,Bool.not_eq_true',List.any_eq_false,Bool.and_eq_true,beq_iff_eq] at hnd
          obtain⟨g,hv,hc,hfp⟩:=hr
          have hgi:g=M.β i:=by
           rw[show u=.pointer (some ⟨M.β i,off,none⟩) from rx] at hv
           simp at hv;exact hv.1.symm
          subst hgi
          have hni:(false,i) ∉ aT σ0 xs ms:=fun h=>hnd.1 _ h ⟨rfl,rfl⟩
          have tl:∀ {j:Nat},j≠i->(false,j) ∉ aT σ0 xs ms->(false,j) ∉ (false,i)::aT σ0 xs ms:=fun hne h=>by simp[hne,h]
          have tl2:∀ {j:Nat},(true,j) ∉ aT σ0 xs ms->(true,j) ∉ (false,i)::aT σ0 xs ms:=fun h=>by simp[h]
          have hfpi:fp (M.β i):=(hfp _).2 rfl
          refine ih (σ:={ σ with bx:=upd i (cs.map .c) σ.bx }) hk2 hg' e1 e2 e3 ⟨hm.tm,fun j qs hj=>?_,fun j sz es hj=>?_,fun j qs hj hn=>?_,fun j r hj hn g hg h=>hm.rf j r hj (tl2 hn) g hg (hup g h),fun j qs k r hj hk h1 h2=>?_,fun j r k r' g hj hk hne h1 h2=>hm.rr j r k r' g hj hk hne (tl2 h1) (tl2 h2)⟩ h3 hf' hap.2 ho hth' hnd.2
          ·rcases aE hj with ⟨rfl,rfl⟩|⟨hne,hj⟩
           ·refine⟨hth _ (by simp),.inr ⟨?_,by rw[e1,e2];exact (hfh _ hfpi).1,by rw[e1];exact (hfh _ hfpi).2.1⟩⟩
            rw[e1]
            exact sI (M:=M1) (by rw[e2];exact hc)
           ·obtain⟨k1,k2⟩:=hm.box j qs hj
            refine⟨k1,k2.imp (fun h=>?_) id⟩
            rcases List.mem_cons.1 h with h|h
            ·cases h;exact absurd rfl hne
            ·exact h
          ·obtain⟨k1,k2⟩:=hm.row j sz es hj
           refine⟨k1,k2.imp (fun h=>?_) id⟩
           rcases List.mem_cons.1 h with h|h
           ·cases h
           ·exact h
          ·rcases aE hj with ⟨rfl,rfl⟩|⟨hne,hj⟩
           ·rw[e1];exact hfa _ hfpi
           ·exact fun h=>hm.bf j qs hj (tl hne hn) (hup _ h)
          ·rcases aE hj with ⟨rfl,rfl⟩|⟨hne,hj⟩
           ·rw[e1];exact fun hp=>hm.rf k r hk (tl2 h2) _ hp (hfu _ hfpi)
           ·exact hm.br j qs k r hj hk (tl hne h1) (tl2 h2)
         ·rename_i i sz es ev
          rw[ev] at rx hm hth hnd
          simp only[dI,if_true,List.cons_append,List.nil_append] at hm hth hnd
          simp only[cV,Bool.and_eq_true,Bool.not_eq_true',List.any_eq_false,Bool.and_eq_true,beq_iff_eq] at hnd
          obtain⟨h0,r,hrv,hp,hfp⟩:=hr
          have hv1:r.v=(M1.ρ i).v:=by rw[e3,<-hrv];exact rx.1
          have hni:(true,i) ∉ aT σ0 xs ms:=fun h=>hnd.1 _ h ⟨rfl,rfl⟩
          have tl:∀ {j:Nat},j≠i->(true,j) ∉ aT σ0 xs ms->(true,j) ∉ (true,i)::aT σ0 xs ms:=fun hne h=>by simp[hne,h]
          have tl2:∀ {j:Nat},(false,j) ∉ aT σ0 xs ms->(false,j) ∉ (true,i)::aT σ0 xs ms:=fun h=>by simp[h]
          have ne:∀ {j:Nat},j≠i->(M1.nr i r).ρ j=M1.ρ j:=fun h=>by simp[Gh.nr,h]
          have eq:(M1.nr i r).ρ i=r:=by simp[Gh.nr]
          have bxm:∀ {j qs},(j,qs) ∈ (σ.map (Q.killN i)).bx->∃ q,(j,q) ∈ σ.bx/\qs=q.map (Q.killN i):=fun {j qs} h=>by
           simp only[St.map,List.mem_map,Prod.mk.injEq] at h
           obtain⟨⟨j',q⟩,hj,rfl,rfl⟩:=h
           exact⟨q,hj,rfl⟩
          refine ih (σ:={ σ.map (Q.killN i) with rw:=upd i (sz,es) σ.rw }) (M1:=M1.nr i r) hk2 hg' e1 e2 (fun j=>?_) ⟨fun t p h=>?_,fun j qs hj=>?_,fun j sz' es' hj=>?_,fun j qs hj hn h=>?_,fun j r' hj hn g hg h=>?_,fun j qs k r' hj hk h1 h2 hp'=>?_,fun j r1 k r2 g hj hk hne h1 h2 hp1 hp2=>?_⟩ h3 hf' hap.2 ho hth' hnd.2
          ·by_cases hj:j=i
           ·subst hj;rw[eq,hv1,e3]
           ·rw[ne hj,e3]
          ·simp only[St.map,List.mem_map,Prod.mk.injEq] at h
           obtain⟨⟨t',p'⟩,h',rfl,rfl⟩:=h
           exact cX (sH hv1) (hm.tm _ _ h')
          ·obtain⟨q,hjq,rfl⟩:=bxm hj
           obtain⟨k1,k2⟩:=hm.box j q hjq
           refine⟨k1,k2.imp (fun h=>?_) (fun h=>?_)⟩
           ·rcases List.mem_cons.1 h with h|h
            ·cases h
            ·exact h
           ·obtain⟨⟨t,cells,g1,g2⟩,g3,g4⟩:=h
            exact⟨⟨t,cells,g1,eF (sH hv1) g2⟩,g3,g4⟩
          ·rcases aE hj with ⟨rfl,he⟩|⟨hne,hj⟩
           ·cases he
            refine⟨hth _ (by simp),.inr ⟨h0,by rw[eq];show Priv w M1.S _ _ _;rw[e2];exact hp,fun g hg=>?_,fun g hg=>?_,fun g hg=>?_⟩⟩
            ·rw[eq] at hg;show ¬ M1.S g;rw[e2];exact (hfh _ ((hfp _).2 hg)).1
            ·rw[eq] at hg;exact (hfh _ ((hfp _).2 hg)).2.1
            ·rw[eq] at hg;exact (hfh _ ((hfp _).2 hg)).2.2
           ·obtain⟨k1,k2⟩:=hm.row j sz' es' hj
            refine⟨k1,k2.imp (fun h=>?_) (fun h=>?_)⟩
            ·rcases List.mem_cons.1 h with h|h
             ·cases h;exact absurd rfl hne
             ·exact h
            ·obtain⟨a1,a2,a3,a4,a5⟩:=h
             exact⟨a1,by rw[ne hne];exact a2,by rw[ne hne];exact a3,by rw[ne hne];exact a4,by rw[ne hne];exact a5⟩
          ·obtain⟨q,hjq,_⟩:=bxm hj
           exact hm.bf j q hjq (tl2 hn) (hup _ h)
          ·rcases aE hj with ⟨rfl,he⟩|⟨hne,hj⟩
           ·rw[eq] at hg;exact hfa g ((hfp _).2 hg) h
           ·rw[ne hne] at hg;exact hm.rf j r' hj (tl hne hn) g hg (hup _ h)
          ·obtain⟨q,hjq,_⟩:=bxm hj
           rcases aE hk with ⟨rfl,he⟩|⟨hne,hk⟩
           ·rw[eq] at hp';exact hm.bf j q hjq (tl2 h1) (hfu _ ((hfp _).2 hp'))
           ·rw[ne hne] at hp';exact hm.br j q k r' hjq hk (tl2 h1) (tl hne h2) hp'
          ·rcases aE hj with ⟨rfl,he⟩|⟨hnj,hjr⟩ <;> rcases aE hk with ⟨rfl,he'⟩|⟨hnk,hkr⟩
           ·exact hne rfl
           ·rw[eq] at hp1;rw[ne hnk] at hp2
            exact hm.rf k r2 hkr (tl hnk h2) g hp2 (hfu _ ((hfp _).2 hp1))
           ·rw[ne hnj] at hp1;rw[eq] at hp2
            exact hm.rf j r1 hjr (tl hnj h1) g hp1 (hfu _ ((hfp _).2 hp2))
           ·rw[ne hnj] at hp1;rw[ne hnk] at hp2
            exact hm.rr j r1 k r2 g hjr hkr hne (tl hnj h1) (tl hnk h2) hp1 hp2
         ·rename_i i ev
          rw[ev] at rx hm hth hnd
          simp only[dI,if_true,List.cons_append,List.nil_append] at hm hth hnd
          simp only[cV,Bool.and_eq_true,Bool.not_eq_true',List.any_eq_false,Bool.and_eq_true,beq_iff_eq] at hnd
          have tl:∀ {j:Nat},j≠i->(true,j) ∉ aT σ0 xs ms->(true,j) ∉ (true,i)::aT σ0 xs ms:=fun hne h=>by simp[hne,h]
          have tl2:∀ {j:Nat},(false,j) ∉ aT σ0 xs ms->(false,j) ∉ (true,i)::aT σ0 xs ms:=fun h=>by simp[h]
          have bxm:∀ {j qs},(j,qs) ∈ (σ.map (Q.killO i)).bx->∃ q,(j,q) ∈ σ.bx/\qs=q.map (Q.killO i):=fun {j qs} h=>by
           simp only[St.map,List.mem_map,Prod.mk.injEq] at h
           obtain⟨⟨j',q⟩,hj,rfl,rfl⟩:=h
           exact⟨q,hj,rfl⟩
          refine ih hk2 hg' e1 e2 e3 ⟨fun t p h=>?_,fun j qs hj=>?_,fun j sz' es' hj=>?_,fun j qs hj hn h=>?_,fun j r' hj hn g hg h=>?_,fun j qs k r' hj hk h1 h2=>?_,fun j r1 k r2 g hj hk hne h1 h2=>?_⟩ h3 hf' hap.2 ho hth' hnd.2
          ·simp only[St.map,List.mem_map,Prod.mk.injEq] at h
           obtain⟨⟨t',p'⟩,h',rfl,rfl⟩:=h
           exact cX yL (hm.tm _ _ h')
          ·obtain⟨q,hjq,rfl⟩:=bxm hj
           obtain⟨k1,k2⟩:=hm.box _ q hjq
           refine⟨k1,k2.imp (fun h=>?_) (fun h=>?_)⟩
           ·rcases List.mem_cons.1 h with h|h
            ·cases h
            ·exact h
           ·obtain⟨⟨t,cells,g1,g2⟩,g3,g4⟩:=h
            exact⟨⟨t,cells,g1,eF yL g2⟩,g3,g4⟩
          ·obtain⟨hne,hj⟩:=bh hj
           obtain⟨k1,k2⟩:=hm.row j sz' es' hj
           refine⟨k1,k2.imp (fun h=>?_) id⟩
           rcases List.mem_cons.1 h with h|h
           ·cases h;exact absurd rfl hne
           ·exact h
          ·obtain⟨q,hjq,_⟩:=bxm hj
           exact hm.bf j q hjq (tl2 hn) (hup _ h)
          ·obtain⟨hne,hj⟩:=bh hj
           exact hm.rf j r' hj (tl hne hn) g hg (hup _ h)
          ·obtain⟨q,hjq,_⟩:=bxm hj
           obtain⟨hne,hk⟩:=bh hk
           exact hm.br j q k r' hjq hk (tl2 h1) (tl hne h2)
          ·obtain⟨hnj,hj⟩:=bh hj
           obtain⟨hnk,hk⟩:=bh hk
           exact hm.rr j r1 k r2 g hj hk hne (tl hnj h1) (tl hnk h2)
         ·cases ho
theorem Mid.mem (hg:Gl w' M'.S) (hm:Mem X B σ0.bx σ0.rw w M) (hβ:M'.β=M.β) (hl:∀ g,M'.S g->g < w'.heap.size) {N:Nat->Prop} (h:Mid X B w' M' N (fun _=>False) a σ0 [] σ):Mem X B σ.bx σ.rw w' M':=by
 have bx:∀ {i qs},(i,qs) ∈ σ.bx->∃ q,(i,q) ∈ σ0.bx:=fun {i qs} h1=>(h.box i qs h1).1
 have bok:∀ {i qs},(i,qs) ∈ σ.bx->BoxOk w' M' N i qs:=fun {i qs} h1=>(h.box i qs h1).2.resolve_left (by simp)
 have rok:∀ {i sz es},(i,sz,es) ∈ σ.rw->RowOk X B w' M' N i sz es:=fun {i sz es} h1=>(h.row i sz es h1).2.resolve_left (by simp)
 refine⟨fun i qs h1=>?_,fun i sz es h1=>⟨(rok h1).pos,(rok h1).priv,(rok h1).mine⟩,fun i q j q' h1 h2 hne=>?_,fun i q j r h1 h2=>h.br i q j r h1 h2 (by simp) (by simp),fun i r j r' g h1 h2 hne=>h.rr i r j r' g h1 h2 hne (by simp) (by simp),hl,fun i q h1=>(bok h1).s,fun i r g h1 hg=>?_,hg⟩
 ·obtain⟨q,hq⟩:=bx h1
  obtain⟨t,cells,g1,g2⟩:=(bok h1).cells
  exact⟨by rw[hβ];exact (hm.box i q hq).1,t,cells,g1,g2⟩
 ·obtain⟨_,e1⟩:=bx h1;obtain⟨_,e2⟩:=bx h2
  rw[hβ];exact hm.bb _ _ _ _ e1 e2 hne
 ·obtain⟨sz,es⟩:=r
  exact (rok h1).s g hg
end
end Go.Proofs.Pw
namespace Go.Proofs.Pw
open Go.RowKit
variable [Globs]
section
variable {P:Program} {Γ:FuncId->Option Spec} {σ σ0:St} {a:Act} {w w':World} {M M':Gh} {X:Nat->Prop} {B n:Nat} {w0:W0}
theorem Jd:∀ {xs:List XO} {ms:List Bool} {vc:Prop} {ds:List AV},cO σ xs ms=some (vc,ds)->vc->∀ x m,(x,m) ∈ xs.zip ms->m=true->(σ.v x).1=true:=by
 intro xs
 induction xs with
 | nil=>intro ms vc ds h hvc x m hx;simp at hx
 | cons y xs ih =>
   intro ms vc ds h hvc x m hx hm
   cases ms with
   | nil=>simp at hx
   | cons m' ms =>
     simp only[cO] at h
     split at h
     ·rename_i vc' ds' e2
      have key:(σ.v y).1=true->vc'->(σ.v x).1=true:=fun h1 h2=>by
       simp only[List.zip_cons_cons,List.mem_cons,Prod.mk.injEq] at hx
       rcases hx with ⟨rfl,rfl⟩|hx
       ·exact h1
       ·exact ih e2 h2 x m hx hm
      split at h
      ·split at h
       ·simp only[Option.some.injEq,Prod.mk.injEq] at h
        obtain⟨rfl,rfl⟩:=h
        exact key hvc.1 hvc.2
       ·cases h
      ·split at h
       ·split at h
        ·simp only[Option.some.injEq,Prod.mk.injEq] at h
         obtain⟨rfl,rfl⟩:=h
         exact key hvc.1 hvc.2
        ·cases h
       ·cases h
      ·split at h
       ·simp only[Option.some.injEq,Prod.mk.injEq] at h
        obtain⟨rfl,rfl⟩:=h
        exact key hvc.1 hvc.2
       ·cases h
      ·cases h
     ·cases h
theorem Mem.getBox (h:Mem X B σ.bx σ.rw w M) {d b:Nat} {qs:List Q} {t:TypeId} {cells:Array Value} (hc:w.heap[b]?=some (.cells cells t (0,0))) (hr:RelCs w M qs cells) (hmine:dF X B b) (hS:¬ M.S b)
 (hb:∀ i q,(i,q) ∈ σ.bx->M.β i≠b) (hrw:∀ i r,(i,r) ∈ σ.rw->¬ ae (M.ρ i) b):Mem X B (upd d (qs.map (Q.killB d)) (σ.map (Q.killB d)).bx) σ.rw w (M.nb d b):=by
 have hq:=oZ (d:=d) (b:=b) (Up.refl h.lt) h.lt
 have hin:∀ {i' q1},(i',q1) ∈ upd d (qs.map (Q.killB d)) (σ.map (Q.killB d)).bx->(i'=d/\q1=qs.map (Q.killB d))\/(i'≠d/\∃ q,(i',q) ∈ σ.bx/\q1=q.map (Q.killB d)):=fun {i' q1} h'=>by
  rcases aE h' with h'|⟨hne,h'⟩
  ·exact .inl h'
  ·simp only[St.map,List.mem_map,Prod.mk.injEq] at h'
   obtain⟨⟨j,q⟩,hj,rfl,rfl⟩:=h'
   exact .inr ⟨hne,q,hj,rfl⟩
 refine⟨fun i' q1 h'=>?_,fun i' sz es h'=>h.row i' sz es h',fun i' q1 j q2 h1 h2 hne=>?_,fun i' q1 j r h1 h2 hg=>?_,h.rr,h.lt,fun i' q1 h1 hs=>?_,h.sr,h.gl⟩
 ·rcases hin h' with ⟨rfl,rfl⟩|⟨hne,q,hj,rfl⟩
  ·simp only[Gh.nb,if_true]
   exact⟨hmine,t,cells,hc,eF hq hr⟩
  ·simp only[Gh.nb,if_neg hne]
   obtain⟨hB',t',cells',h1,h2,h3⟩:=h.box i' q hj
   exact⟨hB',t',cells',h1,eF hq ⟨h2,h3⟩⟩
 ·rcases hin h1 with ⟨rfl,_⟩|⟨n1,q,hj,_⟩ <;> rcases hin h2 with ⟨rfl,_⟩|⟨n2,q',hj',_⟩
  ·exact absurd rfl hne
  ·simp only[Gh.nb,if_true,if_neg n2];exact fun e=>hb _ _ hj' e.symm
  ·simp only[Gh.nb,if_true,if_neg n1];exact hb _ _ hj
  ·simp only[Gh.nb,if_neg n1,if_neg n2];exact h.bb _ _ _ _ hj hj' hne
 ·rcases hin h1 with ⟨rfl,_⟩|⟨n1,q,hj,_⟩
  ·simp only[Gh.nb,if_true] at hg
   exact hrw _ _ h2 hg
  ·simp only[Gh.nb,if_neg n1] at hg
   exact h.br _ _ _ _ hj h2 hg
 ·rcases hin h1 with ⟨rfl,_⟩|⟨n1,q,hj,_⟩
  ·simp only[Gh.nb,if_true] at hs
   exact hS hs
  ·simp only[Gh.nb,if_neg n1] at hs
   exact h.sb _ _ hj hs
def sJ (w:World) (S:Nat->Prop) (r:Nat × Nat × List (List C)) (v:RV) (f:Nat->Prop):Prop:=0 < r.2.1/\Priv w S r.2.1 r.2.2 v/\∀ g,f g ↔ ae v g
theorem nE {S:Nat->Prop} {sz:Nat} {es:List (List C)} {r:RV} (h:Priv w S sz es r):r.v.oneCell'=true:=by
 rcases h.1 with ⟨_,_,h,_⟩|⟨_,A,h⟩
 ·rcases h.2 with ⟨h,_⟩|⟨_,_,_,h,_⟩ <;> rw[h] <;> rfl
 ·rw[h];rfl
theorem Je {S:Nat->Prop} {d j:Nat}:∀ {ps:List Pt} {us:List Value} {fs:List (Nat->Prop)} {k:Nat},All3 (RepP w S) ps us fs->eW fs->(∀ g,Any fs g->¬ S g) ->
 ∃ vals fs1,All3 (sJ w S) (agR d j k ps) vals fs1/\Apart S fs1/\(∀ g,Any fs1 g->Any fs g)/\∀ M:Gh,M.S=S->(∀ p ∈ (agR d j k ps).zip vals,M.ρ p.1.1=p.2) ->
  us.length=(agQ d j k ps).length/\∀ (i:Nat) q,(agQ d j k ps)[i]?=some q->∃ u,us[i]?=some u/\u.oneCell'=true/\af w M q u:=by
 intro ps
 induction ps with
 | nil=>intro us fs k h _ _;cases h;exact⟨[],[],.nil,trivial,fun _ h=>h,fun M _ _=>⟨rfl,fun i q hq=>by simp[agQ] at hq⟩⟩
 | cons p ps ih =>
   intro us fs k h ha hS
   cases h with
   | @cons _ u f _ us fs h1 h2 =>
   obtain⟨vals,fs1,i1,i2,i3,i4⟩:=ih (k:=k+1) h2 ha.2 (fun g ⟨q,hq,hg⟩=>hS g ⟨q,by simp[hq],hg⟩)
   have i3':∀ g,Any fs1 g->Any (f::fs) g:=fun g hg=>by obtain⟨q,hq,hg⟩:=i3 g hg;exact⟨q,by simp[hq],hg⟩
   cases p with
   | c x =>
     refine⟨vals,fs1,i1,i2,i3',fun M hM hz=>?_⟩
     obtain⟨l1,l2⟩:=i4 M hM hz
     refine⟨by simp[agQ,l1],fun i q hq=>?_⟩
     cases i with
     | zero=>simp only[agQ,List.getElem?_cons_zero,Option.some.injEq] at hq;subst hq;exact⟨u,rfl,h1.1.one,by show Rep w M.S x u;rw[hM];exact h1.1⟩
     | succ i=>simpa using l2 i q (by simpa [agQ] using hq)
   | o sz es =>
     obtain⟨h0,r,hrv,hpr,hfr⟩:=h1
     refine⟨r::vals,f::fs1,.cons ⟨h0,hpr,hfr⟩ i1,⟨fun g hg=>hS g ⟨f,by simp,hg⟩,fun g hg q hq hqg=>?_,i2⟩,fun g ⟨q,hq,hg⟩=>?_,fun M hM hz=>?_⟩
     ·obtain⟨q',hq',hg'⟩:=i3 g ⟨q,hq,hqg⟩
      exact ha.1 g hg q' hq' hg'
     ·rcases List.mem_cons.1 hq with rfl|hq
      ·exact⟨_,by simp,hg⟩
      ·exact i3' g ⟨q,hq,hg⟩
     ·obtain⟨l1,l2⟩:=i4 M hM (fun p hp=>hz p (by simp only[agR,List.zip_cons_cons,List.mem_cons];exact .inr hp))
      refine⟨by simp[agQ,l1],fun i q hq=>?_⟩
      cases i with
      | zero =>
        simp only[agQ,List.getElem?_cons_zero,Option.some.injEq] at hq;subst hq
        have:=hz ((pid d j k,sz,es),r) (by simp[agR])
        exact⟨u,rfl,by rw[hrv];exact nE hpr,by rw[this,hrv],by rw[hrv];exact nE hpr⟩
      | succ i=>simpa using l2 i q (by simpa [agQ] using hq)
theorem All3.app {α β γ:Type} {R:α->β->γ->Prop} {xs xs':List α} {ys ys':List β} {zs zs':List γ} (h:All3 R xs ys zs) (k:All3 R xs' ys' zs'):All3 R (xs++xs') (ys++ys') (zs++zs'):=by
 induction h with
 | nil=>exact k
 | cons h _ ih=>exact .cons h ih
theorem Apart.app {S:Nat->Prop} {ps qs:List (Nat->Prop)} (h:Apart S ps) (k:Apart S qs) (hn:∀ g,Any ps g->¬ Any qs g):Apart S (ps++qs):=by
 induction ps with
 | nil=>exact k
 | cons p ps ih =>
   refine⟨h.1,fun g hg q hq hqg=>?_,ih h.2.2 (fun g ⟨q,hq,hg⟩=>hn g ⟨q,by simp[hq],hg⟩)⟩
   rcases List.mem_append.1 hq with hq|hq
   ·exact h.2.1 g hg q hq hqg
   ·exact hn g ⟨p,by simp,hg⟩ ⟨q,hq,hqg⟩
theorem Any.of_app {ps qs:List (Nat->Prop)} {g:Nat} (h:Any (ps++qs) g):Any ps g\/Any qs g:=by
 obtain⟨p,hp,hg⟩:=h
 rcases List.mem_append.1 hp with hp|hp
 ·exact .inl ⟨p,hp,hg⟩
 ·exact .inr ⟨p,hp,hg⟩
theorem Jf {S:Nat->Prop} {d:Nat}:∀ {as:List AV} {vs:List Value} {fps:List (Nat->Prop)} {j:Nat} {svs:List SV} {rows:List (Nat × Nat × List (List C))},All3 (RepA w S) as vs fps->Apart S fps->svL d j as=some (svs,rows) ->
 ∃ vals fs,All3 (sJ w S) rows vals fs/\Apart S fs/\(∀ g,Any fs g->Any fps g)/\∀ M:Gh,M.S=S->(∀ p ∈ rows.zip vals,M.ρ p.1.1=p.2)->All2 (eX w M) svs vs:=by
 intro as
 induction as with
 | nil =>
   intro vs fps j svs rows h _ hs
   cases h
   simp only[svL,Option.some.injEq,Prod.mk.injEq] at hs
   obtain⟨rfl,rfl⟩:=hs
   exact⟨[],[],.nil,trivial,fun _ h=>h,fun _ _ _=>.nil⟩
 | cons x as ih =>
   intro vs fps j svs rows h ha hs
   cases h with
   | @cons _ v fp _ vs fps h1 h2 =>
   have lift:∀ {fs:List (Nat->Prop)},(∀ g,Any fs g->Any fps g)->∀ g,Any fs g->Any (fp::fps) g:=fun h g hg=>by obtain⟨q,hq,hg⟩:=h g hg;exact⟨q,by simp[hq],hg⟩
   cases x with
   | d x =>
     simp only[svL,Option.map_eq_some_iff,Prod.mk.injEq] at hs
     obtain⟨⟨s1,r1⟩,hr,rfl,rfl⟩:=hs
     obtain⟨vals,fs,i1,i2,i3,i4⟩:=ih h2 ha.2.2 hr
     exact⟨vals,fs,i1,i2,lift i3,fun M hM hz=>.cons (yh (by rw[hM];exact h1.1)) (i4 M hM hz)⟩
   | ref cs=>simp[svL] at hs
   | gone=>simp[svL] at hs
   | own sz es =>
     simp only[svL,Option.map_eq_some_iff,Prod.mk.injEq] at hs
     obtain⟨⟨s1,r1⟩,hr,rfl,rfl⟩:=hs
     obtain⟨vals,fs,i1,i2,i3,i4⟩:=ih h2 ha.2.2 hr
     obtain⟨h0,r,hrv,hpr,hfr⟩:=h1
     refine⟨r::vals,fp::fs,.cons ⟨h0,hpr,hfr⟩ i1,⟨ha.1,fun g hg q hq hqg=>?_,i2⟩,fun g ⟨q,hq,hg⟩=>?_,fun M hM hz=>.cons ?_ (i4 M hM (fun p hp=>hz p (by simp[hp])))⟩
     ·obtain⟨q',hq',hg'⟩:=i3 g ⟨q,hq,hqg⟩
      exact ha.2.1 g hg q' hq' hg'
     ·rcases List.mem_cons.1 hq with rfl|hq
      ·exact⟨_,by simp,hg⟩
      ·exact lift i3 g ⟨q,hq,hg⟩
     ·have:=hz ((pid d j 0,sz,es),r) (by simp)
      exact⟨by rw[this,hrv],by rw[hrv];exact nE hpr⟩
   | ag ps =>
     simp only[svL,Option.map_eq_some_iff,Prod.mk.injEq] at hs
     obtain⟨⟨s1,r1⟩,hr,rfl,rfl⟩:=hs
     obtain⟨vals,fs,i1,i2,i3,i4⟩:=ih h2 ha.2.2 hr
     obtain⟨us,fs0,rfl,k1,k2,k3⟩:=h1
     obtain⟨vals1,fs1,j1,j2,j3,j4⟩:=Je (d:=d) (j:=j) (k:=0) k1 k2 (fun g hg=>ha.1 g ((k3 g).2 hg))
     refine⟨vals1++vals,fs1++fs,j1.app i1,j2.app i2 (fun g hg hg'=>?_),fun g hg=>?_,fun M hM hz=>?_⟩
     ·obtain⟨q,hq,hqg⟩:=i3 g hg'
      exact ha.2.1 g ((k3 g).2 (j3 g hg)) q hq hqg
     ·rcases Any.of_app hg with hg|hg
      ·exact⟨fp,by simp,(k3 g).2 (j3 g hg)⟩
      ·exact lift i3 g hg
     ·rw[List.zip_append j1.lens] at hz
      obtain⟨l1,l2⟩:=j4 M hM (fun p hp=>hz p (by simp[hp]))
      exact .cons ⟨us.toArray,rfl,by simpa using l1,fun i q hq=>by simpa using l2 i q hq⟩ (i4 M hM (fun p hp=>hz p (by simp[hp])))
theorem Jg:∀ {rows:List (Nat × Nat × List (List C))} {vals:List RV} {fs:List (Nat->Prop)} {σ:St} {M:Gh},All3 (sJ w M.S) rows vals fs->Apart M.S fs->bt (rows.map fun r=>r.1)=true ->
 (∀ t p,(t,p) ∈ σ.tm->ak w M p (a.tmps.getD t undef))->Mem X B σ.bx σ.rw w M->(∀ g,Any fs g->dF X B g)->(∀ i q g,(i,q) ∈ σ.bx->Any fs g->g≠M.β i)->(∀ i r g,(i,r) ∈ σ.rw->ae (M.ρ i) g->¬ Any fs g) ->
 ∃ M':Gh,M'.S=M.S/\M'.β=M.β/\(∀ t p,(t,p) ∈ (jB rows σ).tm->ak w M' p (a.tmps.getD t undef))/\Mem X B (jB rows σ).bx (jB rows σ).rw w M'/\(∀ p ∈ rows.zip vals,M'.ρ p.1.1=p.2)/\(∀ i,i ∉ rows.map (fun r=>r.1)->M'.ρ i=M.ρ i):=by
 intro rows
 induction rows with
 | nil=>intro vals fs σ M h _ _ ht hm _ _ _;cases h;exact⟨M,rfl,rfl,ht,hm,by simp,fun _ _=>rfl⟩
 | cons r rows ih =>
   intro vals fs σ M h ha hnd ht hm hmine hb hr
   obtain⟨id,sz,es⟩:=r
   cases h with
   | @cons _ v f _ vals fs h1 h2 =>
   simp only[List.map_cons,bt,Bool.and_eq_true,Bool.not_eq_true',List.contains_eq_mem,decide_eq_false_iff_not] at hnd
   have hf:∀ g,ae v g->f g:=fun g hg=>(h1.2.2 g).2 hg
   have hany:∀ g,ae v g->Any (f::fs) g:=fun g hg=>⟨f,by simp,hf g hg⟩
   have up:∀ g,Any fs g->Any (f::fs) g:=fun g ⟨q,hq,hg⟩=>⟨q,by simp[hq],hg⟩
   have mem1:=Mem.getRow (d:=id) hm h1.1 h1.2.1 (fun g hg=>hmine g (hany g hg)) (fun g hg=>ha.notS (hany g hg)) (fun i q hi hg=>hb i q _ hi (hany _ hg) rfl) (fun i r g hi hg hg'=>hr i r g hi hg (hany g hg'))
   obtain⟨M',m1,m2,m3,m4,m5,m6⟩:=ih (σ:={ σ.map (Q.killO id) with rw:=upd id (sz,es) σ.rw }) (M:=M.nr id v) h2 ha.2.2 hnd.2 (fun t p h=>by
    simp only[St.map,List.mem_map,Prod.mk.injEq] at h
    obtain⟨⟨t',p'⟩,h',rfl,rfl⟩:=h
    exact cX (eG (d:=id) (v':=v) (Up.refl hm.lt) hm.lt) (ht _ _ h')) mem1 (fun g hg=>hmine g (up g hg))
    (fun i q g hi hg=>by
     simp only[St.map,List.mem_map,Prod.mk.injEq] at hi
     obtain⟨⟨i',q'⟩,hi,rfl,rfl⟩:=hi
     exact hb _ q' g hi (up g hg))
    (fun i r g hi hg hg'=>by
     rcases aE hi with ⟨rfl,_⟩|⟨hne,hi⟩
     ·simp only[Gh.nr,if_true] at hg
      obtain⟨q,hq,hqg⟩:=hg'
      exact ha.2.1 g (hf g hg) q hq hqg
     ·simp only[Gh.nr,if_neg hne] at hg
      exact hr i r g hi hg (up g hg'))
   refine⟨M',m1,m2,m3,m4,fun p hp=>?_,fun i hi=>?_⟩
   ·simp only[List.zip_cons_cons,List.mem_cons] at hp
    rcases hp with rfl|hp
    ·rw[m6 id hnd.1];simp[Gh.nr]
    ·exact m5 p hp
   ·simp only[List.map_cons,List.mem_cons,not_or] at hi
    rw[m6 i hi.2];simp[Gh.nr,hi.1]
theorem Apart.to0 {S:Nat->Prop} {ps qs:List (Nat->Prop)} (h:Apart S (ps++qs)):eW qs:=by
 induction ps with
 | nil =>
   have h:Apart S qs:=h
   induction qs with
   | nil=>trivial
   | cons q qs ih=>exact⟨h.2.1,ih h.2.2 h.2.2⟩
 | cons p ps ih=>exact ih h.2.2
theorem Apart.left {S:Nat->Prop} {ps qs:List (Nat->Prop)} (h:Apart S (ps++qs)):Apart S ps:=by
 induction ps with
 | nil=>trivial
 | cons p ps ih=>exact⟨h.1,fun g hg q hq=>h.2.1 g hg q (by simp[hq]),ih h.2.2⟩
theorem Jh {svs:List SV} {vs:List Value} {v:Value} (h:All2 (eX w M) svs vs) (hv:vs=[v]\/(vs.length≠1/\v=.tuple vs.toArray)):ak w M (svP svs) v:=by
 rcases hv with rfl|⟨h1,rfl⟩
 ·cases h with
  | cons h1 h2 =>
    cases h2
    rename_i s
    cases s <;> exact h1
 ·have hl:=h.length
  have key:svP svs=.tup svs:=by
   unfold svP
   split
   ·simp at hl;omega
   ·simp at hl;omega
   ·rfl
  rw[key]
  exact⟨vs,rfl,h⟩
theorem Ji {i:Nat} (hb:aS<=i):∀ {rows:List (Nat × Nat × List (List C))},ltB rows=true->i ∉ rows.map fun r=>r.1:=by
 intro rows
 induction rows with
 | nil=>intro _;simp
 | cons r rs ih =>
   intro h
   simp only[ltB,Bool.and_eq_true,decide_eq_true_eq] at h
   simp only[List.map_cons,List.mem_cons,not_or]
   exact⟨by omega,ih h.2⟩
theorem yM {σ2 σ3:St} {M2:Gh} (hs2:Sim X n B w0 σ2 a w' M2) {dst:Option Nat} (hd:∀ d,dst=some d->d < n) {r:List AV} {v:Value} {rfs:List (Nat->Prop)} (g1:RepR w' M2.S r v rfs) (g6:Apart M2.S rfs) (g7:∀ g,Any rfs g->dF X B g)
 (hbn:∀ i q,(i,q) ∈ σ2.bx->¬ Any rfs (M2.β i)) (hrn:∀ i r g,(i,r) ∈ σ2.rw->ae (M2.ρ i) g->¬ Any rfs g) (hret:ez dst r σ2=some σ3):∃ M',Sim X n B w0 σ3 (a.put dst v) w' M':=by
 have mem2:=hs2.mem
 unfold ez at hret
 split at hret
 ·rename_i sz es
  split at hret
  ·rename_i d
   simp only[Option.some.injEq] at hret
   subst hret
   have:∃ fp,rfs=[fp]/\RepA w' M2.S (.own sz es) v fp:=by
    cases rfs with
    | nil=>exact absurd rfl g1.1
    | cons fp r=>cases r with
      | nil=>exact⟨fp,rfl,g1⟩
      | cons _ _=>exact absurd rfl g1.1
   obtain⟨fp,rfl,k0,rv,hrv,k1,k2⟩:=this
   have hany:∀ g,ae rv g->Any [fp] g:=fun g hg=>⟨fp,by simp,(k2 g).2 hg⟩
   have hone:v.oneCell'=true:=by rw[hrv];exact nE k1
   refine⟨M2.nr d rv, ⟨by simpa [Act.put] using hs2.size,hs2.defs,fun t p h=>?_,Mem.getRow mem2 k0 k1 (fun g hg=>?_) (fun g hg=>g6.notS (hany g hg)) (fun i q hi hg=>?_) (fun i r g hi hg hg'=>?_),hs2.fr,hs2.hB,hs2.sS,hs2.sβ,fun i hi hb=>by
    have hdn:=hd d rfl
    simp only[Gh.nr];rw[if_neg (by omega)];exact hs2.sρ i hi hb⟩⟩
   ·have hdn:d < a.tmps.size:=by rw[hs2.size];exact hd d rfl
    rcases aE h with ⟨rfl,rfl⟩|⟨hne,h⟩
    ·simp only[Act.put,Array.getD_eq_getD_getElem?,Array.getElem?_setIfInBounds,hdn,if_true,Option.getD_some]
     exact⟨by simp[Gh.nr,hrv],hone⟩
    ·simp only[St.map,List.mem_map,Prod.mk.injEq] at h
     obtain⟨⟨t',p'⟩,h',rfl,rfl⟩:=h
     have:=cX (eG (d:=d) (v':=rv) (Up.refl mem2.lt) mem2.lt) (hs2.tm _ _ h')
     simp only[Act.put,Array.getD_eq_getD_getElem?,Array.getElem?_setIfInBounds]
     rw[if_neg (fun e=>hne e.symm),<-Array.getD_eq_getD_getElem?]
     exact this
   ·exact g7 g (hany g hg)
   ·exact hbn i q hi (hany _ hg)
   ·exact hrn i r g hi hg (hany _ hg')
  ·cases hret
 ·rename_i cs
  split at hret
  ·rename_i d
   simp only[Option.some.injEq] at hret
   subst hret
   have:∃ fp,rfs=[fp]/\RepA w' M2.S (.ref cs) v fp:=by
    cases rfs with
    | nil=>exact absurd rfl g1.1
    | cons fp r=>cases r with
      | nil=>exact⟨fp,rfl,g1⟩
      | cons _ _=>exact absurd rfl g1.1
   obtain⟨fp,rfl,b,rfl,hc,hfp⟩:=this
   obtain⟨tt,cells,c1,c2⟩:=sI (M:=M2) hc
   have hb:Any [fp] b:=⟨fp,by simp,(hfp b).2 rfl⟩
   refine⟨M2.nb d b, ⟨by simpa [Act.put] using hs2.size,hs2.defs,fun t p h=>?_,Mem.getBox mem2 c1 c2 ?_ (g6.notS hb) (fun i q hi hg=>?_) (fun i r hi hg=>?_),hs2.fr,hs2.hB,hs2.sS,fun i hi=>?_,hs2.sρ⟩⟩
   ·have hdn:d < a.tmps.size:=by rw[hs2.size];exact hd d rfl
    rcases aE h with ⟨rfl,rfl⟩|⟨hne,h⟩
    ·simp only[Act.put,Array.getD_eq_getD_getElem?,Array.getElem?_setIfInBounds,hdn,if_true,Option.getD_some]
     simp[ak,af,Gh.nb]
    ·simp only[St.map,List.mem_map,Prod.mk.injEq] at h
     obtain⟨⟨t',p'⟩,h',rfl,rfl⟩:=h
     have:=cX (oZ (d:=d) (b:=b) (Up.refl mem2.lt) mem2.lt) (hs2.tm _ _ h')
     simp only[Act.put,Array.getD_eq_getD_getElem?,Array.getElem?_setIfInBounds]
     rw[if_neg (fun e=>hne e.symm),<-Array.getD_eq_getD_getElem?]
     exact this
   ·exact g7 b hb
   ·have:=hbn i q hi
    rw[hg] at this;exact this hb
   ·exact hrn i r _ hi hg hb
   ·have hdn:=hd d rfl
    simp only[Gh.nb];rw[if_neg (by omega)];exact hs2.sβ i hi
  ·cases hret
 ·split at hret
  ·rename_i p hp
   cases hret
   refine⟨M2,?_⟩
   exact hs2.put hd (Up.refl mem2.lt) (fun _ _ h=>h.elim) mem2 (lj (M:=M2) hp g1)
  ·split at hret
   ·rename_i d
    split at hret
    ·rename_i svs rows hsv
     split at hret
     ·rename_i hndr0
      cases hret
      rw[Bool.and_eq_true] at hndr0
      obtain⟨hndr,hltr⟩:=hndr0
      obtain⟨vs,r1,r2⟩:=RepR.all3 g1
      obtain⟨vals,fs,r3,r4,r5,r6⟩:=Jf r1 g6 hsv
      have hany:∀ g,Any fs g->Any rfs g:=r5
      obtain⟨M',m1,m2,m3,m4,m5,m6⟩:=Jg (σ:=σ2) (M:=M2) r3 r4 hndr hs2.tm mem2 (fun g hg=>g7 g (hany g hg))
       (fun i q g hi hg e=>hbn i q hi (by rw[<-e];exact hany g hg))
       (fun i r g hi hg hg'=>hrn i r g hi hg (hany _ hg'))
      have hv:=Jh (r6 M' m1 m5) r2
      refine⟨M',⟨by simpa [Act.put] using hs2.size,hs2.defs,fun t p h=>?_,m4,hs2.fr,hs2.hB,fun g hg=>?_,fun i hi=>?_,fun i hi hb=>?_⟩⟩
      ·have hdn:d < a.tmps.size:=by rw[hs2.size];exact hd d rfl
       rcases aE h with ⟨rfl,rfl⟩|⟨hne,h⟩
       ·simp only[Act.put,Array.getD_eq_getD_getElem?,Array.getElem?_setIfInBounds,hdn,if_true,Option.getD_some]
        exact hv
       ·simp only[Act.put,Array.getD_eq_getD_getElem?,Array.getElem?_setIfInBounds]
        rw[if_neg (fun e=>hne e.symm),<-Array.getD_eq_getD_getElem?]
        exact m3 _ _ h
      ·rw[m1] at hg;exact hs2.sS g hg
      ·rw[m2];exact hs2.sβ i hi
      ·rw[m6 i (Ji hb hltr)];exact hs2.sρ i hi hb
     ·cases hret
    ·cases hret
   ·cases hret
theorem yN (G:GOK P Γ) (hs:Sim X n B w0 σ a w M) {dst:Option Nat} (hd:∀ d,dst=some d->d < n) {f:FuncId} {us:List Value} {xs:List XO}
 (hargs:∀ (σ1:St) (w1:World) (M1:Gh),(∀ t p,(t,p) ∈ σ1.tm->ak w1 M1 p (a.tmps.getD t undef))->(∀ c v,Rep w M.S c v->Rep w1 M1.S c v)->All2 (jH σ1 w1 M1) xs us)
 {sp:Spec} (hsp:Γ f=some sp) {vc:Prop} {ds:List AV} (ha:cO (σ.pubs xs sp.md) xs sp.md=some (vc,ds)) (hnd:cV (aT (σ.pubs xs sp.md) xs sp.md)=true) (hvc:vc) (hpre:sp.pre ds) :
 aw P f=true/\∀ (K:Value->World->Prop) (E:Ending->World->Prop),
  (∀ r o,sp.may ds r o->∃ σ2 σ3,bZ (σ.pubs xs sp.md) xs sp.md o (σ.pubs xs sp.md)=some σ2/\ez dst r σ2=some σ3/\∀ v w' M',Sim X n B w0 σ3 (a.put dst v) w' M'->K v w') ->
  Calls P f us.toArray w fun e w'=>match e with|.returned v=>K v w'|e=>E e w':=by
 obtain⟨hc,hsound⟩:=G f sp hsp
 refine⟨hc,fun K E hK=>?_⟩
 obtain⟨M1,h1,hmo⟩:=hs.pubL' (fL σ xs sp.md)
 change Sim X n B w0 (σ.pubs xs sp.md) a w M1 at h1
 generalize hσ1:σ.pubs xs sp.md=σ1 at *
 obtain⟨A3,hth⟩:=IZ h1.mem (hargs σ1 w M1 h1.tm (fun c v h=>h.mono hmo (fun _ _=>rfl))) ha hvc
 have hap:=Jb h1.mem hth hnd
 have hblk:∀ g,Any (dJ M1 σ1 xs sp.md) g->¬ M1.S g/\g < w.heap.size/\dF X B g:=fun g hg=>by
  obtain⟨id,hid,hg⟩:=lq.1 hg
  exact yK h1.mem (hth id hid) hg
 refine (hsound.full ds hpre w M1.S _ _ h1.mem.gl h1.mem.lt (fun g hg=>(hblk g hg).2.1) hap A3).mono ?_
 rintro e w' ⟨r,o,hro,v,S',rfs,fps',rfl,g1,g2,g3,g4,g5,g6,g7,g8⟩
 show K v w'
 have hK2:=hK r o hro
 clear hK
 obtain⟨σ2,σ3,ho2,hret,hK⟩:=hK2
 have hu:Ub w M1 w' { M1 with S:=S' }:=⟨rfl,rfl,g3,fun g hg=>g8.block g (h1.mem.lt g hg) (fun hg'=>(hblk g hg').1 hg)⟩
 have hbn:∀ {i qs},(i,qs) ∈ σ1.bx->(false,i) ∉ aT σ1 xs sp.md->M1.β i < w.heap.size/\¬ Any (dJ M1 σ1 xs sp.md) (M1.β i):=fun {i qs} hi hin=>by
  obtain⟨_,t,cells,k1,k2⟩:=h1.mem.box i qs hi
  refine⟨(Array.getElem?_eq_some_iff.1 k1).1,fun hg=>?_⟩
  obtain⟨id,hid,hg⟩:=lq.1 hg
  exact nD h1.mem (hth id hid) (y:=(false,i)) ⟨qs,hi⟩ (fun e=>hin (e ▸ hid)) hg rfl
 have hrn:∀ {i r},(i,r) ∈ σ1.rw->(true,i) ∉ aT σ1 xs sp.md->∀ g,ae (M1.ρ i) g->g < w.heap.size/\¬ Any (dJ M1 σ1 xs sp.md) g:=fun {i r} hi hin g hpg=>by
  obtain⟨sz,es⟩:=r
  obtain⟨_,k1,_⟩:=h1.mem.row i sz es hi
  refine⟨k1.lt hpg,fun hg=>?_⟩
  obtain⟨id,hid,hg⟩:=lq.1 hg
  exact nD h1.mem (hth id hid) (y:=(true,i)) ⟨_,hi⟩ (fun e=>hin (e ▸ hid)) hg hpg
 have hm:Mid X B w' { M1 with S:=S' } (Any rfs) (Any fps') a σ1 (aT σ1 xs sp.md) σ1:=by
  refine⟨fun t p h=>hu.v (h1.tm t p h),fun i qs hi=>⟨⟨qs,hi⟩,?_⟩,fun i sz es hi=>⟨⟨_,hi⟩,?_⟩,fun i qs hi hn h=>?_,fun i r hi hn g hg h=>?_,fun i q j r hi hj _ _=>h1.mem.br i q j r hi hj,fun i r j r' g hi hj hne _ _=>h1.mem.rr i r j r' g hi hj hne⟩
  case refine_3 =>
   rcases (g7 _ h.right).1 with k|k
   ·have:=(hbn hi hn).1
    exact absurd this (Nat.not_lt.2 k)
   ·exact (hbn hi hn).2 k
  case refine_4 =>
   rcases (g7 _ h.right).1 with k|k
   ·have:=(hrn hi hn g hg).1;omega
   ·exact (hrn hi hn g hg).2 k
  ·by_cases hin:(false,i) ∈ aT σ1 xs sp.md
   ·exact .inl hin
   ·right
    obtain⟨_,t,cells,k1,k2⟩:=h1.mem.box i qs hi
    have hn:¬ Any (dJ M1 σ1 xs sp.md) (M1.β i):=fun hg=>by
     obtain⟨id,hid,hg⟩:=lq.1 hg
     exact nD h1.mem (hth id hid) (y:=(false,i)) ⟨qs,hi⟩ (fun e=>hin (e ▸ hid)) hg rfl
    have hlt:=(Array.getElem?_eq_some_iff.1 k1).1
    refine⟨⟨t,cells,by rw[<-k1];exact g8.block _ hlt hn,RelCs.ub hu k2⟩,fun h=>?_,fun h=>?_⟩
    ·rcases g4 _ h with h|h|h
     ·exact h1.mem.sb i qs hi h
     ·exact absurd hlt (Nat.not_lt.2 h)
     ·exact hn h
    ·rcases (g7 _ h.left).1 with h|h
     ·exact absurd hlt (Nat.not_lt.2 h)
     ·exact hn h
  ·by_cases hin:(true,i) ∈ aT σ1 xs sp.md
   ·exact .inl hin
   ·right
    obtain⟨k0,k1,k2⟩:=h1.mem.row i sz es hi
    have hn:∀ g,ae (M1.ρ i) g->¬ Any (dJ M1 σ1 xs sp.md) g:=fun g hpg hg=>by
     obtain⟨id,hid,hg⟩:=lq.1 hg
     exact nD h1.mem (hth id hid) (y:=(true,i)) ⟨_,hi⟩ (fun e=>hin (e ▸ hid)) hg hpg
    refine⟨k0,k1.move hu.S hu.keep (fun g hg=>g8.block g (k1.lt hg) (hn g hg)),fun g hg h=>?_,fun g hg h=>?_,k2⟩
    ·rcases g4 _ h with h|h|h
     ·exact h1.mem.sr i _ g hi hg h
     ·have:=k1.lt hg;omega
     ·exact hn g hg h
    ·rcases (g7 _ h.left).1 with h|h
     ·have:=k1.lt hg;omega
     ·exact hn g hg h
 obtain⟨⟨b2,ρ2,s2⟩,e1,e2,e3,hm2⟩:=Jc (N:=Any rfs) (X:=X) (B:=B) (M1:={ M1 with S:=S' }) (hargs σ1 w' { M1 with S:=S' } (fun t p h=>hu.v (h1.tm t p h)) (fun c v h=>hu.rep (h.mono hmo (fun _ _=>rfl)))) (Jd ha hvc) rfl rfl (fun _=>rfl) hm g2 (fun g hg=>⟨g6.notS hg.right,fun h=>g6.split h hg,by
  rcases (g7 g hg.right).1 with h|h
  ·exact .inl (Nat.le_trans h1.hB h)
  ·exact (hblk g h).2.2⟩) g6.to0 ho2 hth hnd
 simp only at e1 e2
 subst e1
 replace e2:=e2.symm
 subst e2
 have mem2:=Mid.mem (M':=⟨M1.β,ρ2,S'⟩) (hu.gl h1.mem.gl) h1.mem rfl g5 hm2
 have hs2:Sim X n B w0 σ2 a w' ⟨M1.β,ρ2,S'⟩:=⟨h1.size,h1.defs,hm2.tm,mem2,h1.fr.trans (g8.weak h1.hB (fun g hg hz=>(hblk g hz).2.2.resolve_left (by omega))),Nat.le_trans h1.hB g8.size,fun g hg=>by
  rcases g4 g hg with h|h|h
  ·exact h1.sS g h
  ·exact .inr (.inl (Nat.le_trans h1.hB h))
  ·exact .inr (hblk g h).2.2,h1.sβ,fun i hi hb=>(e3 i).trans (h1.sρ i hi hb)⟩
 obtain⟨M',hM⟩:=yM hs2 hd (v:=v) (rfs:=rfs) g1 g6.left (fun g hg=>by
  rcases (g7 g hg.left).1 with h|h
  ·exact .inl (Nat.le_trans h1.hB h)
  ·exact (hblk g h).2.2)
  (fun i q hi hg=>((hm2.box i q hi).2.resolve_left (by simp)).n hg)
  (fun i r g hi hg hg'=>by
   obtain⟨sz',es'⟩:=r
   exact ((hm2.row i sz' es' hi).2.resolve_left (by simp)).n g hg hg') hret
 exact hK v w' M' hM
theorem yO (G:GOK P Γ) (hs:Sim X n B w0 σ a w M) {dst:Option Nat} (hd:∀ d,dst=some d->d < n) {f:FuncId} {us:List Value} {xs:List XO}
 (hargs:∀ (σ1:St) (w1:World) (M1:Gh),(∀ t p,(t,p) ∈ σ1.tm->ak w1 M1 p (a.tmps.getD t undef))->(∀ c v,Rep w M.S c v->Rep w1 M1.S c v)->All2 (jH σ1 w1 M1) xs us)
 {vc:Prop} {σ':St} (he:fM Γ σ dst f xs=some (vc,σ')) (hvc:vc) :
 aw P f=true/\∀ (K:Value->World->Prop) (E:Ending->World->Prop),(∀ v w' M',Sim X n B w0 σ' (a.put dst v) w' M'->K v w') ->
  Calls P f us.toArray w fun e w'=>match e with|.returned v=>K v w'|e=>E e w':=by
 unfold fM at he
 split at he
 ·rename_i sp hsp
  split at he
  ·rename_i hal
   split at he
   ·rename_i vc' ds ha
    split at he
    ·rename_i hnd
     split at he
     ·rename_i σ2 ho2
      simp only[Option.map_eq_some_iff,Prod.mk.injEq] at he
      obtain⟨σ3,hret,rfl,rfl⟩:=he
      obtain⟨h1,h2⟩:=yN G hs hd hargs hsp ha hnd hvc.1 hvc.2
      refine⟨h1,fun K E hK=>h2 K E (fun r o hro=>?_)⟩
      obtain⟨rfl,rfl⟩:=(Spec.may_none hal).1 hro
      exact⟨σ2,σ3,ho2,hret,hK⟩
     ·cases he
    ·cases he
   ·cases he
  ·cases he
 ·cases he
theorem yP {α:Type} {x:Option α} {F F':α->Prop} (hK:∀ a,F a->F' a) (h:orF x F):orF x F':=by
 unfold orF at *
 split at h
 ·exact hK _ h
 ·exact h.elim
theorem iC {α:Type} {x:Option α} {F:α->Prop} (h:orF x F):∃ a,x=some a/\F a:=by
 unfold orF at h
 split at h
 ·exact⟨_,rfl,h⟩
 ·exact h.elim
theorem yQ (G:GOK P Γ) (hs:Sim X n B w0 σ a w M) {dst:Option Nat} (hd:∀ d,dst=some d->d < n) {f:FuncId} {us:List Value} {xs:List XO}
 (hargs:∀ (σ1:St) (w1:World) (M1:Gh),(∀ t p,(t,p) ∈ σ1.tm->ak w1 M1 p (a.tmps.getD t undef))->(∀ c v,Rep w M.S c v->Rep w1 M1.S c v)->All2 (jH σ1 w1 M1) xs us)
 {K':St->Prop} (he:dY Γ σ dst f xs K') :
 aw P f=true/\∀ (K:Value->World->Prop) (E:Ending->World->Prop),(∀ σ' v w' M',K' σ'->Sim X n B w0 σ' (a.put dst v) w' M'->K v w') ->
  Calls P f us.toArray w fun e w'=>match e with|.returned v=>K v w'|e=>E e w':=by
 unfold dY at he
 split at he
 ·rename_i sp hsp
  split at he
  ·rename_i vc' ds ha
   obtain⟨hnd,hvc,hpre,hall⟩:=he
   obtain⟨h1,h2⟩:=yN G hs hd hargs hsp ha hnd hvc hpre
   refine⟨h1,fun K E hK=>h2 K E (fun r o hro=>?_)⟩
   obtain⟨σ2,ho2,h3⟩:=iC (hall r o hro)
   obtain⟨σ3,hret,h4⟩:=iC h3
   exact⟨σ2,σ3,ho2,hret,fun v w' M' h=>hK σ3 v w' M' h4 h⟩
  ·exact he.elim
 ·exact he.elim
theorem Jj:∀ {cs:List C},flL cs=true->∀ (j:Nat) c,cs[j]?=some c->flC c=true:=by
 intro cs
 induction cs with
 | nil=>intro _ j c h;simp at h
 | cons x cs ih =>
   intro h j c hc
   simp only[flL,Bool.and_eq_true] at h
   cases j with
   | zero=>simp at hc;subst hc;exact h.1
   | succ j=>exact ih h.2 j c (by simpa using hc)
theorem yR:∀ {es:List (List C)},flR es=true->∀ (i j:Nat) e c,es[i]?=some e->e[j]?=some c->flC c=true:=by
 intro es
 induction es with
 | nil=>intro _ i j e c h;simp at h
 | cons x es ih =>
   intro h i j e c he hc
   simp only[flR,Bool.and_eq_true] at h
   cases i with
   | zero=>simp at he;subst he;exact Jj h.1 j c hc
   | succ i=>exact ih h.2 i j e c (by simpa using he) hc
theorem RepX.fl {S S':Nat->Prop} {h:List (Nat × Nat)->Value} {c:C} {u:Value} {D:Nat->Prop} (k:RepX w S h c u D):flC c=true->RepX w S' h c u D:=by
 induction k with
 | pl hr=>intro hf;refine .pl ?_;cases hr <;> first|(simp[flC] at hf;done)|constructor
 | jk _=>intro hf;simp[flC] at hf
 | nil h0 hh=>intro _;exact .nil h0 hh
 | @own _ _ es _ _ _ _ _ ψ h0 hh hg hn hc hs hsz hD hψ hd u hu _ ih =>
   intro hf
   have hf:flR es=true:=by simpa [flC] using hf
   exact .own ψ h0 hh hg hn hc hs hsz hD hψ hd u hu (fun i j e c he hj=>ih i j e c he hj (yR hf i j e c he hj))
theorem Priv.fl {S S':Nat->Prop} {sz:Nat} {es:List (List C)} {r:RV} (h:Priv w S sz es r) (hf:flR es=true):Priv w S' sz es r:=by
 refine⟨?_,h.2⟩
 rcases h.1 with ⟨e,us,h1,⟨a1,a2,ψ,a3,a4,a5⟩,h3⟩|h
 ·exact .inl ⟨e,us,h1,⟨a1,a2,ψ,a3,a4,fun i j e c he hj=>by obtain⟨u,b1,b2⟩:=a5 i j e c he hj;exact⟨u,b1,b2.fl (yR hf i j e c he hj)⟩⟩,h3⟩
 ·exact .inr h
theorem RepP.fl {S S':Nat->Prop} {p:Pt} {v:Value} {f:Nat->Prop} (h:RepP w S p v f) (hf:p.fl=true):RepP w S' p v f:=by
 cases p with
 | c x=>exact⟨nx hf h.1,h.2⟩
 | o sz es=>obtain⟨h0,r,h1,h2,h3⟩:=h;exact⟨h0,r,h1,h2.fl hf,h3⟩
theorem RepPs.fl {S S':Nat->Prop} {ps:List Pt} {us:List Value} {fs:List (Nat->Prop)} (h:All3 (RepP w S) ps us fs):ps.all Pt.fl=true->All3 (RepP w S') ps us fs:=by
 induction h with
 | nil=>intro _;exact .nil
 | cons h _ ih =>
   intro hf
   simp only[List.all_cons,Bool.and_eq_true] at hf
   exact .cons (h.fl hf.1) (ih hf.2)
theorem RepA.fl {S S':Nat->Prop} {x:AV} {v:Value} {f:Nat->Prop} (h:RepA w S x v f) (hf:x.fl=true):RepA w S' x v f:=by
 cases x with
 | d x =>
   cases x with
   | one c=>exact⟨nx hf h.1,h.2⟩
   | agg cs =>
     obtain⟨⟨us,h1,h2,h3⟩,h4⟩:=h
     refine⟨⟨us,h1,h2,fun i c hc=>?_⟩,h4⟩
     obtain⟨u,k1,k2⟩:=h3 i c hc
     have hf:cs.all fe=true:=hf
     rw[List.all_eq_true] at hf
     exact⟨u,k1,nx (hf c (List.mem_of_getElem? hc)) k2⟩
 | own sz es=>obtain⟨h0,r,h1,h2,h3⟩:=h;exact⟨h0,r,h1,h2.fl hf,h3⟩
 | ag ps=>obtain⟨us,fs,h1,h2,h3,h4⟩:=h;exact⟨us,fs,h1,RepPs.fl h2 hf,h3,h4⟩
 | ref _=>cases hf
 | gone=>cases hf
theorem RepAs.fl {S S':Nat->Prop} {xs:List AV} {vs:List Value} {fs:List (Nat->Prop)} (h:All3 (RepA w S) xs vs fs):xs.all AV.fl=true->All3 (RepA w S') xs vs fs:=by
 induction h with
 | nil=>intro _;exact .nil
 | cons h _ ih =>
   intro hf
   simp only[List.all_cons,Bool.and_eq_true] at hf
   exact .cons (h.fl hf.1) (ih hf.2)
theorem RepR.fl {S S':Nat->Prop} {ds:List AV} {v:Value} {fs:List (Nat->Prop)} (h:RepR w S ds v fs) (hf:ds.all AV.fl=true):RepR w S' ds v fs:=by
 unfold RepR at *
 split at h
 ·exact RepA.fl h (by simpa using hf)
 ·exact⟨h.1,by obtain⟨vs,h1,h2⟩:=h.2;exact⟨vs,h1,RepAs.fl h2 hf⟩⟩
theorem Jk (G:GOK P Γ) (hs:Sim X n B w0 σ a w M) {dst:Option Nat} (hd:∀ d,dst=some d->d < n) {f:FuncId} {os:List Operand} {xs:List XO} (ho:bJ os xs=true)
 {vc:Prop} {σ':St} (he:lc Γ σ dst f xs=some (vc,σ')) (hvc:vc) :
 aw P f=true/\∀ (K:Value->World->Prop) (E:Ending->World->Prop),(∀ v w' M',Sim X n B w0 σ' (a.put dst v) w' M'->K v w') ->
  Calls P f (os.map a.eval).toArray w fun e w'=>match e with|.returned v=>K v w'|e=>E e w':=by
 have mem:=hs.mem
 unfold lc at he
 split at he
 ·rename_i sp vc' ds hsp ha
  split at he
  ·rename_i hal
   split at he
   ·rename_i hfl
    simp only[Option.map_eq_some_iff,Prod.mk.injEq] at he
    obtain⟨σ2,hret,rfl,rfl⟩:=he
    obtain⟨h1,h2⟩:=G f sp hsp
    refine⟨h1,fun K E hK=>?_⟩
    have hlt:∀ g,fN σ M g->g < w.heap.size:=fun g hg=>by
     rcases hg with hg|⟨i,⟨sz,es⟩,hi,hg⟩
     ·exact mem.lt g hg
     ·exact (mem.row _ _ _ hi).2.1.lt hg
    have hgl:Gl w (fN σ M):=⟨fun i c hi=>by
     obtain⟨k1,u,k2,k3⟩:=mem.gl.1 i c hi
     exact⟨.inl k1,u,k2,k3.mono (fun _ h=>.inl h) (fun _ _=>rfl)⟩,fun i cs hi=>by
     obtain⟨k1,t,x,k2⟩:=mem.gl.2 i cs hi
     exact⟨.inl k1,t,x,k2⟩⟩
    refine (h2 ds hvc.2 w (fN σ M) _ _ hgl hlt (fun g hg=>absurd hg cR) li (yl mem hs.tm ho ha hvc.1)).mono ?_
    rintro e w' ⟨r,o,hro,v,S',rfs,fps',rfl,g1,g2,g4,g5,g6,g7,g8⟩
    obtain⟨rfl,rfl⟩:=(Spec.may_none hal).1 hro
    have hw:=g8.weak (B:=w.heap.size) (X:=fun _=>False) (Nat.le_refl _) (fun g _ hg=>absurd hg cR)
    have hu:Up (fun _=>False) w M w' M:=⟨rfl,rfl,fun _ h=>h,fun _ h=>.inl h,fun g hg=>Nat.lt_of_lt_of_le (mem.lt g hg) hw.size,fun _ _ h=>h,hw⟩
    have hs2:Sim X n B w0 σ a w' M:=⟨hs.size,hs.defs,fun t p h=>hu.v mem.lt (hs.tm t p h),mem.up hu (fun _ _ _ h=>h) (fun _ _ _ _ _ h=>h),hs.fr.trans (hw.weak hs.hB (fun _ _ h=>h.elim)),Nat.le_trans hs.hB hw.size,hs.sS,hs.sβ,hs.sρ⟩
    have hnew:∀ g,Any rfs g->w.heap.size<=g:=fun g hg=>(g7 g hg.left).1.resolve_right cR
    obtain⟨M',hM⟩:=yM hs2 hd (v:=v) (rfs:=rfs) (g1.fl hfl) (g6.left.widen (fun g hg hS=>by have:=hnew g hg;have:=mem.lt g hS;omega)) (fun g hg=>.inl (Nat.le_trans hs.hB (hnew g hg)))
     (fun i q hi hg=>by
      obtain⟨_,t',cells',h1,_⟩:=mem.box i q hi
      exact absurd (Array.getElem?_eq_some_iff.1 h1).1 (Nat.not_lt.2 (hnew _ hg)))
     (fun i r g hi hg hg'=>by
      obtain⟨sz,es⟩:=r
      have:=(mem.row i sz es hi).2.1.lt hg
      have:=hnew g hg';omega) hret
    exact hK v w' M' hM
   ·cases he
  ·cases he
 ·cases he
end
end Go.Proofs.Pw
namespace Go.Proofs.Pw
open Go.RowKit
variable [Globs]
section
variable {P:Program} {Γ:FuncId->Option Spec} {σ σ':St} {a:Act} {w w':World} {M M':Gh} {X:Nat->Prop} {B n:Nat} {w0:W0}
theorem yS {l:List Nat} {ρ':Nat->RV} (hu:Ub w M w' M) (hρ:∀ j,j ∉ l->ρ' j=M.ρ j) (hv:∀ j,(ρ' j).v=(M.ρ j).v) (q:Q) (v:Value) (h:af w M q v):af w' { M with ρ:=ρ' } (q.killL l) v:=by
 have h:=hu.q h
 cases q with
 | own j=>simp only[Q.killL,af,hv] at *;exact h
 | rp j sz k o=>simp only[Q.killL,af,hv] at *;exact h
 | vw j sz lo n=>simp only[Q.killL,af,hv] at *;exact h
 | vc j sz lo n c=>simp only[Q.killL,af,hv] at *;exact h
 | nr j π =>
   simp only[Q.killL]
   split
   ·trivial
   ·rename_i hn;simp only[af,hρ j hn] at *;exact h
 | np j π sz k o =>
   simp only[Q.killL]
   split
   ·trivial
   ·rename_i hn;simp only[af,hρ j hn] at *;exact h
 | _=>exact h
theorem yT (hs:Sim X n B w0 σ a w M) {l:List Nat} {ρ':Nat->RV} {rw':List (Nat × Nat × List (List C))} {Z:Nat->Prop} (hf:Fr Z w.heap.size w w') (hZ:∀ g,Z g->∃ i r,i ∈ l/\(i,r) ∈ σ.rw/\ae (M.ρ i) g)
 (hρ:∀ j,j ∉ l->ρ' j=M.ρ j) (hv:∀ j,(ρ' j).v=(M.ρ j).v) (hrw:∀ j r,(j,r) ∈ rw'->j ∉ l->(j,r) ∈ σ.rw)
 (hnew:∀ j sz es,j ∈ l->(j,sz,es) ∈ rw'->0 < sz/\Priv w' M.S sz es (ρ' j)/\∀ g,ae (ρ' j) g->w.heap.size<=g\/∃ i r,i ∈ l/\(i,r) ∈ σ.rw/\ae (M.ρ i) g)
 (hdis:∀ i r j r' g,i ∈ l->j ∈ l->i≠j->(i,r) ∈ rw'->(j,r') ∈ rw'->ae (ρ' i) g->¬ ae (ρ' j) g):Sim X n B w0 { σ.map (Q.killL l) with rw:=rw' } a w' { M with ρ:=ρ' }:=by
 have hZS:∀ g,M.S g->¬ Z g:=fun g hg hz=>by
  obtain⟨i,r,_,hi,hp⟩:=hZ g hz
  exact hs.mem.sr i r g hi hp hg
 have hu:Ub w M w' M:=⟨rfl,rfl,fun _ h=>h,fun g hg=>hf.block g (hs.mem.lt g hg) (hZS g hg)⟩
 refine⟨hs.size,hs.defs,fun t p h=>?_,?_,hs.fr.trans (hf.weak hs.hB (fun g hg hz=>?_)),Nat.le_trans hs.hB hf.size,hs.sS,hs.sβ,fun i hi hb=>(hv i).trans (hs.sρ i hi hb)⟩
 ·simp only[St.map,List.mem_map,Prod.mk.injEq] at h
  obtain⟨⟨t',p'⟩,h',rfl,rfl⟩:=h
  exact cX (yS hu hρ hv) (hs.tm _ _ h')
 ·refine hs.mem.regroup hs.hB (fun j=>j ∈ l) (ρ':=ρ') (f:=Q.killL l) hρ (fun i' q hq=>?_) (yS hu hρ hv) (fun g hg hL=>hf.block g hg (fun hz=>hL ?_)) hf.size hrw (fun i sz es hL hi=>hnew i sz es hL hi) hdis
  ·simp only[St.map,List.mem_map,Prod.mk.injEq] at hq
   obtain⟨⟨j,q'⟩,hj,rfl,rfl⟩:=hq
   exact⟨q',hj,rfl⟩
  ·obtain⟨i,r,h1,h2,h3⟩:=hZ g hz
   exact⟨i,r,h1,h2,h3⟩
 ·obtain⟨i,⟨sz,es⟩,_,hi,hp⟩:=hZ g hz
  rcases (hs.mem.row i sz es hi).2.2 g hp with h|h
  ·omega
  ·exact h
theorem Priv.nest {S:Nat->Prop} {sz:Nat} {es:List (List C)} {R:RV} (h:Priv w S sz es R) {k o s:Nat} {ys:List (List C)} {e0:List C} (hk:es[k]?=some e0) (ho:e0[o]?=some (.own s ys)) (hl:∀ g,S g->g < w.heap.size) (hSR:∀ g,ae R g->¬ S g) :
 ∃ sub:RV,sub.v=R.h [(k,o)]/\0 < s/\Priv w S s ys sub/\(∀ g,ae sub g->R.D g) /\
  ∀ (w':World) (sub':RV) (s':Nat) (ys':List (List C)),Fr (ae sub) w.heap.size w w'->sub'.v=sub.v->0 < s'->Priv w' S s' ys' sub'->(∀ g,ae sub' g->w.heap.size<=g\/ae sub g) ->
   ∃ R':RV,R'.v=R.v/\Priv w' S sz (es.set k (e0.set o (.own s' ys'))) R'/\∀ g,ae R' g->w.heap.size<=g\/ae R g:=by
 obtain⟨e,us,hown,hf,hnD⟩:∃ e us,w.ownsRow 0 e sz R.v es.length us/\FlatX w S R.h R.D sz es us/\∀ g,ax R.v g->¬ R.D g:=by
  rcases h.1 with h|⟨rfl,_⟩
  ·exact h
  ·simp at hk
 obtain⟨f1,f2,ψ,f3,f4,f5⟩:=hf
 obtain⟨u,g1,g2⟩:=f5 k o _ _ hk ho
 obtain⟨D',p1,p2,p3,p4⟩:=g2.priv (fun g hg=>h.2 g (f3 _ g hg))
 refine⟨⟨fun π=>R.h ((k,o)::π),D'⟩,rfl,p3,p1,fun g hg=>f3 _ g (p4 g hg),fun w' sub' s' ys' hfr hv hs' hp' hnew=>?_⟩
 have hlt:∀ g,ae R g->g < w.heap.size:=fun g hg=>h.lt hg
 have hkeep:∀ g,S g->w'.heap[g]?=w.heap[g]?:=fun g hg=>hfr.block g (hl g hg) (fun hz=>hSR g (.inr (f3 _ g (p4 g hz))) hg)
 have hksz:k < es.length:=(List.getElem?_eq_some_iff.1 hk).1
 have hosz:o < sz:=by have:=(List.getElem?_eq_some_iff.1 ho).1;rw[f1 k e0 hk] at this;exact this
 have hbig:∀ g,ae sub' g->w.heap.size<=g\/ψ (k*sz+o) g:=fun g hg=>(hnew g hg).imp id (p4 g)
 refine⟨⟨fun π=>match π with
  | []=>R.h []
  | (a,b)::π=>if a=k/\b=o then sub'.h π else R.h ((a,b)::π),fun g=>R.D g\/ae sub' g⟩,rfl,⟨.inl ⟨e,us,?_,⟨fun i e' he=>?_,by rw[List.length_set];exact f2,fun p g=>if p=k*sz+o then ae sub' g else ψ p g,fun p x hx=>?_,fun p q x hpq hpx hqx=>?_,fun i j e' c he hj=>?_⟩,fun g hg hD=>?_⟩,fun g hg=>?_⟩,fun g hg=>?_⟩
 ·rw[List.length_set]
  refine sd hown (fun g hg=>hfr.block g (hlt g (.inl hg)) (fun hz=>hnD g hg (f3 _ g (p4 g hz)))) (.inl (by omega))
 ·rw[List.getElem?_set] at he
  split at he
  ·simp at he;obtain⟨_,rfl⟩:=he;rw[List.length_set];exact f1 k e0 hk
  ·exact f1 i e' he
 ·dsimp only at hx ⊢
  split at hx
  ·exact .inr hx
  ·exact .inl (f3 p x hx)
 ·dsimp only at hpx hqx
  split at hpx <;> split at hqx
  ·omega
  ·rename_i e1 _
   rcases hbig x hpx with hb|hb
   ·have:=hlt x (.inr (f3 q x hqx));omega
   ·exact f4 _ q x (by omega) hb hqx
  ·rename_i _ e1
   rcases hbig x hqx with hb|hb
   ·have:=hlt x (.inr (f3 p x hpx));omega
   ·exact f4 p _ x (by omega) hpx hb
  ·exact f4 p q x hpq hpx hqx
 ·have hjs:j < sz:=by
   have h1:=(List.getElem?_eq_some_iff.1 hj).1
   rw[List.getElem?_set] at he
   split at he
   ·simp at he;obtain⟨_,rfl⟩:=he;rw[List.length_set,f1 k e0 hk] at h1;exact h1
   ·rw[f1 i e' he] at h1;exact h1
  have old:∀ e1,es[i]?=some e1->e1[j]?=some c->¬ (i=k/\j=o)->∃ u,us[i*sz+j]?=some u /\
   RepX w' S (fun π=>if i=k/\j=o then sub'.h π else R.h ((i,j)::π)) c u (fun g=>if i*sz+j=k*sz+o then ae sub' g else ψ (i*sz+j) g):=fun e1 h1 h2 hne=>by
   obtain⟨u,k1,k2⟩:=f5 i j e1 c h1 h2
   have hnp:i*sz+j≠k*sz+o:=fun e=>by
    by_cases hik:i=k
    ·subst hik;exact hne ⟨rfl,by omega⟩
    ·have:=sw (sz:=sz) (i:=i) (k:=k) hjs hik o 1 (by omega);omega
   refine⟨u,k1,?_⟩
   simp only[if_neg hne,if_neg hnp]
   exact k2.move (fun _ h=>h) hkeep (fun g hg=>hfr.block g (hlt g (.inr (f3 _ g hg))) (fun hz=>f4 _ _ g hnp hg (p4 g hz)))
  rw[List.getElem?_set] at he
  split at he
  ·rename_i hik
   subst hik
   simp at he
   obtain⟨_,rfl⟩:=he
   rw[List.getElem?_set] at hj
   split at hj
   ·rename_i hoj
    subst hoj
    simp at hj
    obtain⟨_,rfl⟩:=hj
    refine⟨u,g1,?_⟩
    simp only[if_true,and_self]
    have:=hp'.repX hs'
    rw[show u=sub'.v from p2.trans hv.symm]
    exact this
   ·rename_i hoj
    exact old e0 hk hj (fun e=>hoj e.2.symm)
  ·rename_i hik
   exact old e' he hj (fun e=>hik e.1.symm)
 ·rcases hD with hD|hD
  ·exact hnD g hg hD
  ·rcases hbig g hD with hb|hb
   ·have:=hlt g (.inl hg);omega
   ·exact hnD g hg (f3 _ g hb)
 ·rcases hg with hg|hg
  ·exact Nat.lt_of_lt_of_le (hlt g (.inr hg)) hfr.size
  ·exact hp'.lt hg
 ·rcases hg with hg|hg|hg
  ·exact .inr (.inl hg)
  ·exact .inr (.inr hg)
  ·exact (hbig g hg).imp id (fun h=>.inr (f3 _ g h))
theorem Jl (mem:Mem X B σ.bx σ.rw w M):∀ {qs:List Q} {ps:List Pt} {us:List Value},iz σ.rw qs=some ps->us.length=qs.length->(∀ (i:Nat) q,qs[i]?=some q->∃ u,us[i]?=some u/\u.oneCell'=true/\af w M q u)->bt (aX qs)=true ->
 ∃ fs,All3 (RepP w M.S) ps us fs/\eW fs/\(∀ g,Any fs g ↔ ∃ i ∈ aX qs,ae (M.ρ i) g)/\∀ i ∈ aX qs,∃ r,(i,r) ∈ σ.rw:=by
 intro qs
 induction qs with
 | nil =>
   intro ps us h hl _ _
   simp only[iz,Option.some.injEq] at h
   subst h
   have:=List.eq_nil_of_length_eq_zero (l:=us) (by simpa using hl)
   subst this
   exact⟨[],.nil,trivial,fun g=>by simp[Any,aX],by simp[aX]⟩
 | cons q qs ih =>
   intro ps us h hl hq hnd
   cases us with
   | nil=>simp at hl
   | cons u us =>
     have hl':us.length=qs.length:=by simpa using hl
     have hq':∀ (i:Nat) q,qs[i]?=some q->∃ u,us[i]?=some u/\u.oneCell'=true/\af w M q u:=fun i q' h'=>by simpa using hq (i+1) q' (by simpa using h')
     obtain⟨u',hu',_,hr⟩:=hq 0 q (by simp)
     simp only[List.getElem?_cons_zero,Option.some.injEq] at hu'
     subst hu'
     have rest:∀ {c:C} {ps'},q.toC=some c->iz σ.rw qs=some ps'->ps=.c c::ps'->aX (q::qs)=aX qs->∃ fs,All3 (RepP w M.S) ps (u::us) fs/\eW fs/\(∀ g,Any fs g ↔ ∃ i ∈ aX (q::qs),ae (M.ρ i) g)/\∀ i ∈ aX (q::qs),∃ r,(i,r) ∈ σ.rw:=fun {c ps'} h1 h2 h3 he=>by
      subst h3
      rw[he] at hnd ⊢
      obtain⟨fs,i1,i2,i3,i4⟩:=ih h2 hl' hq' hnd
      refine⟨(fun _=>False)::fs,.cons ⟨cQ hr h1,fun _ h=>h⟩ i1,⟨fun g hg=>hg.elim,i2⟩,fun g=>?_,i4⟩
      rw[<-i3]
      exact⟨fun ⟨z,hz,hg⟩=>by
       rcases List.mem_cons.1 hz with rfl|hz
       ·exact hg.elim
       ·exact⟨z,hz,hg⟩,fun ⟨z,hz,hg⟩=>⟨z,by simp[hz],hg⟩⟩
     have gen:(∀ i,q≠.own i)->(match q.toC,iz σ.rw qs with
      | some c,some ps=>some (Pt.c c::ps)
      | _,_=>none)=some ps->∃ fs,All3 (RepP w M.S) ps (u::us) fs/\eW fs/\(∀ g,Any fs g ↔ ∃ i ∈ aX (q::qs),ae (M.ρ i) g)/\∀ i ∈ aX (q::qs),∃ r,(i,r) ∈ σ.rw:=fun hno h=>by
      split at h
      ·rename_i c ps' e1 e2
       cases h
       exact rest e1 e2 rfl (by cases q <;> first|rfl|exact absurd rfl (hno _))
      ·cases h
     cases q with
     | own i =>
       simp only[iz] at h
       split at h
       ·rename_i sz es ps' e1 e2
        cases h
        have hin:=get?_mem e1
        obtain⟨k0,k1,k2⟩:=mem.row _ _ _ hin
        simp only[aX,bt,Bool.and_eq_true,Bool.not_eq_true',List.contains_eq_mem,decide_eq_false_iff_not] at hnd
        obtain⟨fs,i1,i2,i3,i4⟩:=ih e2 hl' hq' hnd.2
        refine⟨ae (M.ρ i)::fs,.cons ⟨k0,_,hr.1,k1,fun g=>Iff.rfl⟩ i1,⟨fun g hg z hz hzg=>?_,i2⟩,fun g=>?_,fun j hj=>?_⟩
        ·obtain⟨j,hj,hjg⟩:=(i3 g).1 ⟨z,hz,hzg⟩
         obtain⟨r,hr'⟩:=i4 j hj
         exact mem.rr _ _ _ _ g hin hr' (fun e=>hnd.1 (e ▸ hj)) hg hjg
        ·simp only[aX,List.mem_cons,exists_eq_or_imp,<-i3]
         exact⟨fun ⟨z,hz,hg⟩=>by
          rcases List.mem_cons.1 hz with rfl|hz
          ·exact .inl hg
          ·exact .inr ⟨z,hz,hg⟩,fun h=>by
          rcases h with h|⟨z,hz,hg⟩
          ·exact⟨_,by simp,h⟩
          ·exact⟨z,by simp[hz],hg⟩⟩
        ·simp only[aX,List.mem_cons] at hj
         rcases hj with rfl|hj
         ·exact⟨_,hin⟩
         ·exact i4 j hj
       ·cases h
     | _=>exact gen (fun _=>by simp) h
theorem Jm {S':Nat->Prop}:∀ {qs:List Q} {ps:List Pt} {us:List Value} {fs:List (Nat->Prop)} {rw_ rw':List (Nat × Nat × List (List C))},eC qs ps rw_=some rw'->(∀ (i:Nat) q,qs[i]?=some q->∃ u,us[i]?=some u/\u.oneCell'=true/\af w M q u) ->
 All3 (RepP w' S') ps us fs->eW fs->bt (aX qs)=true ->
 ∃ ρ':Nat->RV,(∀ j,j ∉ aX qs->ρ' j=M.ρ j)/\(∀ j,(ρ' j).v=(M.ρ j).v)/\(∀ j r,(j,r) ∈ rw'->j ∉ aX qs->(j,r) ∈ rw_) /\
  (∀ j sz es,j ∈ aX qs->(j,sz,es) ∈ rw'->0 < sz/\Priv w' M.S sz es (ρ' j)/\∀ g,ae (ρ' j) g->Any fs g) /\
  ∀ i r j r' g,i ∈ aX qs->j ∈ aX qs->i≠j->(i,r) ∈ rw'->(j,r') ∈ rw'->ae (ρ' i) g->¬ ae (ρ' j) g:=by
 intro qs
 induction qs with
 | nil =>
   intro ps us fs rw_ rw' h hq h3 hap hnd
   cases ps with
   | nil =>
     simp only[eC,Option.some.injEq] at h
     subst h
     exact⟨M.ρ,fun _ _=>rfl,fun _=>rfl,fun _ _ h _=>h,by simp[aX],by simp[aX]⟩
   | cons _ _=>simp[eC] at h
 | cons q qs ih =>
   intro ps us fs rw_ rw' h hq h3 hap hnd
   cases h3 with
   | nil=>cases q <;> simp[eC] at h
   | @cons p u f ps us fs h1 h2 =>
     have hq':∀ (i:Nat) q,qs[i]?=some q->∃ u,us[i]?=some u/\u.oneCell'=true/\af w M q u:=fun i q' h'=>by simpa using hq (i+1) q' (by simpa using h')
     obtain⟨u',hu',_,hr⟩:=hq 0 q (by simp)
     simp only[List.getElem?_cons_zero,Option.some.injEq] at hu'
     subst hu'
     have rest:eC qs ps rw_=some rw'->aX (q::qs)=aX qs->∃ ρ':Nat->RV,(∀ j,j ∉ aX (q::qs)->ρ' j=M.ρ j)/\(∀ j,(ρ' j).v=(M.ρ j).v)/\(∀ j r,(j,r) ∈ rw'->j ∉ aX (q::qs)->(j,r) ∈ rw_) /\
      (∀ j sz es,j ∈ aX (q::qs)->(j,sz,es) ∈ rw'->0 < sz/\Priv w' M.S sz es (ρ' j)/\∀ g,ae (ρ' j) g->Any (f::fs) g) /\
      ∀ i r j r' g,i ∈ aX (q::qs)->j ∈ aX (q::qs)->i≠j->(i,r) ∈ rw'->(j,r') ∈ rw'->ae (ρ' i) g->¬ ae (ρ' j) g:=fun h he=>by
      rw[he] at hnd ⊢
      obtain⟨ρ',i1,i2,i3,i4,i5⟩:=ih h hq' h2 hap.2 hnd
      exact⟨ρ',i1,i2,i3,fun j sz es hj hm=>by obtain⟨a1,a2,a3⟩:=i4 j sz es hj hm;exact⟨a1,a2,fun g hg=>by obtain⟨z,hz,hzg⟩:=a3 g hg;exact⟨z,by simp[hz],hzg⟩⟩,i5⟩
     cases q with
     | own i =>
       cases p with
       | c x=>simp[eC] at h
       | o sz es =>
         simp only[eC] at h
         split at h
         ·rename_i hfl
          simp only[aX,bt,Bool.and_eq_true,Bool.not_eq_true',List.contains_eq_mem,decide_eq_false_iff_not] at hnd
          obtain⟨ρ1,i1,i2,i3,i4,i5⟩:=ih h hq' h2 hap.2 hnd.2
          obtain⟨hpos,r,hrv,hp,hfp⟩:=h1
          have hp':Priv w' M.S sz es r:=hp.fl hfl
          have tail:∀ j g,j ∈ aX qs->(∃ sz es,(j,sz,es) ∈ rw')->ae (ρ1 j) g->Any fs g:=fun j g hj ⟨sz,es,hm⟩ hg=>(i4 j sz es hj hm).2.2 g hg
          refine⟨fun j=>if j=i then r else ρ1 j,fun j hj=>?_,fun j=>?_,fun j r' hm hj=>?_,fun j sz' es' hj hm=>?_,fun j r1 k r2 g hj hk hne hm1 hm2 hg1 hg2=>?_⟩
          ·simp only[aX,List.mem_cons,not_or] at hj
           show (if j=i then r else ρ1 j)=_
           rw[if_neg hj.1];exact i1 j hj.2
          ·show (if j=i then r else ρ1 j).v=_
           split
           ·rename_i e;subst e;rw[<-hrv];exact hr.1
           ·exact i2 j
          ·simp only[aX,List.mem_cons,not_or] at hj
           rcases aE (i3 j r' hm hj.2) with ⟨e,_⟩|⟨_,h⟩
           ·exact absurd e hj.1
           ·exact h
          ·by_cases e:j=i
           ·subst e
            rcases aE (i3 j _ hm hnd.1) with ⟨_,e⟩|⟨e,_⟩
            ·cases e
             simp only[if_true]
             exact⟨hpos,hp',fun g hg=>⟨f,by simp,(hfp g).2 hg⟩⟩
            ·exact absurd rfl e
           ·simp only[aX,List.mem_cons] at hj
            simp only[if_neg e]
            obtain⟨a1,a2,a3⟩:=i4 j sz' es' (hj.resolve_left e) hm
            exact⟨a1,a2,fun g hg=>by obtain⟨z,hz,hzg⟩:=a3 g hg;exact⟨z,by simp[hz],hzg⟩⟩
          ·simp only[aX,List.mem_cons] at hj hk
           by_cases e1:j=i
           ·have e2:k≠i:=fun e=>hne (e1.trans e.symm)
            simp only[if_pos e1] at hg1
            simp only[if_neg e2] at hg2
            obtain⟨z,hz,hzg⟩:=tail k g (hk.resolve_left e2) ⟨_,_,hm2⟩ hg2
            exact hap.1 g ((hfp g).2 hg1) z hz hzg
           ·simp only[if_neg e1] at hg1
            by_cases e2:k=i
            ·simp only[if_pos e2] at hg2
             obtain⟨z,hz,hzg⟩:=tail j g (hj.resolve_left e1) ⟨_,_,hm1⟩ hg1
             exact hap.1 g ((hfp g).2 hg2) z hz hzg
            ·simp only[if_neg e2] at hg2
             exact i5 j r1 k r2 g (hj.resolve_left e1) (hk.resolve_left e2) hne hm1 hm2 hg1 hg2
         ·cases h
     | _ =>
       cases p with
       | o sz es=>simp[eC] at h
       | c x=>exact rest (by simpa [eC] using h) rfl
theorem Jn (G:GOK P Γ) (hs:Sim X n B w0 σ a w M) {dst:Option Nat} (hd:∀ d,dst=some d->d < n) {f:FuncId} {os:List Operand} {x y:XO} (ho:bJ os [x,y]=true)
 {vc:Prop} {σ':St} (he:oR Γ σ dst f x y=some (vc,σ')) (hvc:vc) :
 aw P f=true/\∀ (K:Value->World->Prop) (E:Ending->World->Prop),(∀ v w' M',Sim X n B w0 σ' (a.put dst v) w' M'->K v w') ->
  Calls P f (os.map a.eval).toArray w fun e w'=>match e with|.returned v=>K v w'|e=>E e w':=by
 have mem:=hs.mem
 obtain⟨o1,o2,rfl,ho1,ho2⟩:∃ o1 o2,os=[o1,o2]/\okO o1 x=true/\okO o2 y=true:=by
  cases os with
  | nil=>simp[bJ] at ho
  | cons o1 os=>cases os with
    | nil=>simp[bJ] at ho
    | cons o2 os=>cases os with
      | nil=>simp only[bJ,Bool.and_eq_true,Bool.and_true] at ho;exact⟨o1,o2,rfl,ho.1,ho.2⟩
      | cons _ _=>simp[bJ] at ho
 unfold oR at he
 split at he
 ·cases he
 rename_i sp hsp
 obtain⟨hc,hsound⟩:=G f sp hsp
 split at he
 rotate_left
 ·cases he
 rename_i d hal hyd
 split at he
 ·rename_i g i k o e1
  split at he
  rotate_left
  ·cases he
  rename_i sz es hq
  split at he
  rotate_left
  ·cases he
  rename_i s ys hcell
  split at he
  rotate_left
  ·cases he
  rename_i s' ys' r hout hret
  split at he
  rotate_left
  ·cases he
  rename_i hfl
  simp only[Option.some.injEq,Prod.mk.injEq] at he
  obtain⟨rfl,rfl⟩:=he
  obtain⟨hg,hgy,hk,hoff,hpre⟩:=hvc
  refine⟨hc,fun K E hK=>?_⟩
  have rx:=aC hs.tm ho1 (by rw[e1];exact hg)
  rw[e1] at rx
  have ry:=lh (aC hs.tm ho2 hgy) hyd
  have hin:=get?_mem hq
  obtain⟨hpos,hp,hmine⟩:=mem.row i sz es hin
  have hel:es[k]?=some (es.getD k []):=by simp[List.getD,List.getElem?_eq_getElem hk]
  generalize es.getD k []=ek at *
  have hj:ek[o]?=some (.own s ys):=by rw[<-hcell];simp[List.getD,List.getElem?_eq_getElem hoff]
  obtain⟨sub,s1,s2,s3,s4,s5⟩:=hp.nest hel hj mem.lt (fun g hg=>mem.sr i _ g hin hg)
  have hin2:∀ g,ae sub g->ae (M.ρ i) g:=fun g hg=>.inr (s4 g hg)
  have hany:∀ g,Any [ae sub,fun _=>False] g ↔ ae sub g:=fun g=>by simp[Any]
  refine (hsound [.own s ys,.d d] hpre w M.S [a.eval o1,a.eval o2] [ae sub,fun _=>False] mem.gl mem.lt (fun g hg=>s3.lt ((hany g).1 hg)) ⟨fun g hg=>mem.sr i _ g hin (hin2 g hg),fun g _ q hq=>by simp at hq;subst hq;exact fun h=>h,fun _ h=>h.elim,fun _ h=>h.elim,trivial⟩
   (.cons ⟨s2,sub,rx.1.trans s1.symm,s3,fun g=>Iff.rfl⟩ (.cons ⟨ry,fun _ h=>h⟩ .nil))).mono ?_
  rintro e w' ⟨r',o',hro,v,S',rfs,fps',rfl,g1,g2,g4,g5,g6,g7,g8⟩
  obtain⟨rfl,rfl⟩:=(Spec.may_none hal).1 hro
  show K v w'
  rw[hout] at g2
  cases g2 with
  | @cons _ _ fp1 _ _ _ h1 h2 =>
  obtain⟨hs',sub',hv',hp',hfp'⟩:=h1
  have hZ:∀ g,ae sub g ↔ Any [ae sub,fun _=>False] g:=fun g=>(hany g).symm
  have hfr:Fr (ae sub) w.heap.size w w':=by
   have:ae sub=Any [ae sub,fun _=>False]:=funext fun g=>propext (hZ g)
   rw[this];exact g8
  obtain⟨R',r1,r2,r3⟩:=s5 w' sub' s' ys' hfr (hv'.symm.trans (rx.1.trans s1.symm)) hs' (hp'.fl hfl.1) (fun g hg=>((g7 g (Any.right ⟨fp1,by simp,(hfp' g).2 hg⟩)).1).imp id (hany g).1)
  have hs2:Sim X n B w0 { σ.map (Q.killL [i]) with rw:=upd i (sz,es.set k (ek.set o (.own s' ys'))) σ.rw } a w' { M with ρ:=(M.nr i R').ρ }:=by
   refine yT hs hfr (fun g hg=>⟨i,_,by simp,hin,hin2 g hg⟩) (fun j hj=>by simp at hj;simp[Gh.nr,hj]) (fun j=>?_) (fun j r hm hj=>?_) (fun j sz' es' hj hm=>?_) (fun i1 r1 i2 r2 g h1 h2 hne=>?_)
   ·by_cases hj:j=i
    ·subst hj;simp[Gh.nr,r1]
    ·simp[Gh.nr,hj]
   ·rcases aE hm with ⟨e,_⟩|⟨_,h⟩
    ·simp[e] at hj
    ·exact h
   ·simp at hj
    subst hj
    rcases aE hm with ⟨_,e⟩|⟨e,_⟩
    ·cases e
     simp only[Gh.nr,if_true]
     exact⟨hpos,r2,fun g hg=>(r3 g hg).imp id (fun h=>⟨j,_,by simp,hin,h⟩)⟩
    ·exact absurd rfl e
   ·simp at h1 h2;exact absurd (h1.trans h2.symm) hne
  exact hK v w' _ (hs2.put hd (Up.refl hs2.mem.lt) (fun _ _ h=>h.elim) hs2.mem (su (M:={ M with S:=S' }) (M':={ M with ρ:=(M.nr i R').ρ }) hfl.2 (lj hret g1)))
 ·rename_i g qs e1
  split at he
  rotate_left
  ·cases he
  rename_i ps hps
  split at he
  rotate_left
  ·cases he
  rename_i ps' r hout hret
  split at he
  rotate_left
  ·cases he
  rename_i hfl
  simp only[Option.map_eq_some_iff,Prod.mk.injEq] at he
  obtain⟨rw',hput,rfl,rfl⟩:=he
  obtain⟨hg,hgy,hpre⟩:=hvc
  refine⟨hc,fun K E hK=>?_⟩
  have rx:=aC hs.tm ho1 (by rw[e1];exact hg)
  rw[e1] at rx
  have ry:=lh (aC hs.tm ho2 hgy) hyd
  obtain⟨us,hus,hul,huq⟩:gF w M qs _:=rx
  have huq':∀ (i:Nat) q,qs[i]?=some q->∃ u,us.toList[i]?=some u/\u.oneCell'=true/\af w M q u:=fun i q hi=>by simpa using huq i q hi
  obtain⟨fs,f1,f2,f3,f4⟩:=Jl mem (us:=us.toList) hps (by simpa using hul) huq' hfl.1
  have hany:∀ g,Any [Any fs,fun _=>False] g ↔ Any fs g:=fun g=>by
   constructor
   ·rintro⟨p,hp,hg⟩
    simp only[List.mem_cons,List.not_mem_nil,or_false] at hp
    rcases hp with rfl|rfl
    ·exact hg
    ·exact hg.elim
   ·exact fun h=>⟨Any fs,by simp,h⟩
  have hown:∀ g,Any fs g->∃ i r,i ∈ aX qs/\(i,r) ∈ σ.rw/\ae (M.ρ i) g:=fun g hg=>by
   obtain⟨i,hi,hp⟩:=(f3 g).1 hg
   obtain⟨r,hr⟩:=f4 i hi
   exact⟨i,r,hi,hr,hp⟩
  have hlt:∀ g,Any fs g->g < w.heap.size:=fun g hg=>by
   obtain⟨i,⟨sz,es⟩,_,hi,hp⟩:=hown g hg
   exact (mem.row i sz es hi).2.1.lt hp
  refine (hsound [.ag ps,.d d] hpre w M.S [a.eval o1,a.eval o2] [Any fs,fun _=>False] mem.gl mem.lt (fun g hg=>hlt g ((hany g).1 hg)) ⟨fun g hg=>by
   obtain⟨i,r,_,hi,hp⟩:=hown g hg
   exact mem.sr i r g hi hp,fun g _ q hq=>by simp at hq;subst hq;exact fun h=>h,fun _ h=>h.elim,fun _ h=>h.elim,trivial⟩
   (.cons ⟨us.toList,fs,by rw[hus],f1,f2,fun g=>Iff.rfl⟩ (.cons ⟨ry,fun _ h=>h⟩ .nil))).mono ?_
  rintro e w' ⟨r',o',hro,v,S',rfs,fps',rfl,g1,g2,g4,g5,g6,g7,g8⟩
  obtain⟨rfl,rfl⟩:=(Spec.may_none hal).1 hro
  show K v w'
  rw[hout] at g2
  cases g2 with
  | @cons _ _ fp1 _ _ _ h1 h2 =>
  obtain⟨us',fs',hus',k1,k2,k3⟩:=h1
  have hue:us'=us.toList:=by
   rw[hus] at hus'
   injection hus' with h
   rw[h]
  subst hue
  obtain⟨ρ',i1,i2,i3,i4,i5⟩:=Jm (M:=M) hput huq' k1 k2 hfl.1
  have hfr:Fr (Any fs) w.heap.size w w':=by
   have:Any fs=Any [Any fs,fun _=>False]:=funext fun g=>propext (hany g).symm
   rw[this];exact g8
  have hs2:=yT hs hfr hown i1 i2 i3 (fun j sz es hj hm=>by
   obtain⟨a1,a2,a3⟩:=i4 j sz es hj hm
   refine⟨a1,a2,fun g hg=>?_⟩
   rcases (g7 g (Any.right ⟨fp1,by simp,(k3 g).2 (a3 g hg)⟩)).1 with h|h
   ·exact .inl h
   ·exact .inr (hown g ((hany g).1 h))) i5
  exact hK v w' _ (hs2.put hd (Up.refl hs2.mem.lt) (fun _ _ h=>h.elim) hs2.mem (su (M:={ M with S:=S' }) (M':={ M with ρ:=ρ' }) hfl.2 (lj hret g1)))
 ·cases he
end
end Go.Proofs.Pw
