/- Calls that are handed data; all operations that only make memory, in one theorem. -/
import Derived.Test.YtcligmgalcidpaaGreatDoorPwT2
set_option linter.unusedSimpArgs false
set_option linter.unusedVariables false
set_option linter.unusedSectionVars false
set_option maxRecDepth 20000
namespace Go.Proofs.Pw
open Go.RowKit
variable [Globs]
section
variable {P:Program} {Γ:FuncId->Option Spec} {σ:St} {a:Act} {w:World} {M:Gh} {X:Nat->Prop} {B:Nat}
theorem lh {p:PV} {d:DV} {v:Value} (h:ak w M p v) (hd:p.toD=some d):RepD w M.S d v:=by
 unfold PV.toD at hd
 split at hd
 ·simp only[Option.map_eq_some_iff] at hd
  obtain⟨c,hc,rfl⟩:=hd
  exact cQ h hc
 ·simp only[Option.map_eq_some_iff] at hd
  obtain⟨cs,hc,rfl⟩:=hd
  obtain⟨us,rfl,h2,h3⟩:=h
  obtain⟨h4,h5⟩:=jF ⟨h2,h3⟩ hc
  exact⟨us,rfl,h4,h5⟩
 ·cases hd
theorem ss {d:DV} {v:Value} (h:RepD w M.S d v):ak w M d.toP v:=by
 cases d with
 | one c=>exact yc h
 | agg cs =>
   obtain⟨us,rfl,h2,h3⟩:=h
   refine⟨us,rfl,by simpa using h2,fun i q hq=>?_⟩
   simp only[List.getElem?_map,Option.map_eq_some_iff] at hq
   obtain⟨c,hc,rfl⟩:=hq
   obtain⟨u,hu,hr⟩:=h3 i c hc
   exact⟨u,hu,hr.one,hr⟩
theorem yh {d:DV} {v:Value} (h:RepD w M.S d v):eX w M d.toS v:=by
 cases d with
 | one c=>exact h
 | agg cs=>exact ss (d:=.agg cs) h
def bJ:List Operand->List XO->Bool
 | [],[]=>true
 | o::os,x::xs=>okO o x && bJ os xs
 | _,_=>false
def aw (P:Program) (f:FuncId):Bool:=match P.funcs[f]? with
 | some fn => fn.body.isSome && !(fn.name == "runtime.NumGoroutine")
 | none=>false
def cW (c:Call) (f:FuncId) (xs:List XO):Bool:=match c.callee with
 | .value (.func g)=>g == f && bJ c.args.toList xs
 | _=>false
def oY (c:Call) (f:XO) (xs:List XO):Bool:=match c.callee with
 | .value g=>okO g f && bJ c.args.toList xs
 | _=>false
theorem yi (ht:∀ t p,(t,p) ∈ σ.tm->ak w M p (a.tmps.getD t undef)):∀ {os:List Operand} {xs:List XO} {vc:Prop} {ds:List AV},bJ os xs=true->fK σ xs=some (vc,ds)->vc ->
 All3 (RepA w M.S) ds (os.map a.eval) (ds.map fun _=>fun _=>False):=by
 intro os
 induction os with
 | nil =>
   intro xs vc ds hk hx hvc
   cases xs with
   | nil=>simp only[fK,Option.some.injEq,Prod.mk.injEq] at hx;rw[<-hx.2];exact .nil
   | cons _ _=>simp[bJ] at hk
 | cons o os ih =>
   intro xs vc ds hk hx hvc
   cases xs with
   | nil=>simp[bJ] at hk
   | cons x xs =>
     simp only[bJ,Bool.and_eq_true] at hk
     simp only[fK] at hx
     split at hx
     ·rename_i g p vc' ds' e1 e2
      split at hx
      ·rename_i d hd
       simp only[Option.some.injEq,Prod.mk.injEq] at hx
       obtain⟨rfl,rfl⟩:=hx
       have rx:=aC (o:=o) (x:=x) ht hk.1 (by rw[e1];exact hvc.1)
       rw[e1] at rx
       exact .cons ⟨lh rx hd,fun _ h=>h⟩ (ih hk.2 e2 hvc.2)
      ·cases hx
     ·cases hx
theorem gL {dst:Option Tmp} {ty:TypeId} {pos:String} {after:Array Edge} {guard:Option (Nat × Bool)} {c:Call} {f:FuncId} {g:Operand} (hc:c.callee=.value g) (hg:a.eval g=.func (.func f) #[] #[]) (hf:aw P f=true) :
 (execOp a.eval ⟨dst,.call c,ty,pos,after,guard⟩).run P w=.ok (.enter f (c.args.toList.map a.eval).toArray) w:=by
 unfold aw at hf
 split at hf
 ·rename_i fn hfn
  simp only[Bool.and_eq_true,Bool.not_eq_true'] at hf
  obtain⟨h1,h2⟩:=hf
  have h3:fn.body≠none:=fun h=>by rw[h] at h1;cases h1
  have h2' : fn.name ≠ "runtime.NumGoroutine" := by simpa using h2
  simp[execOp,resolve,hc,hg,Deferred.ofValue,invoke,callFunc,hfn,h3,h2']
  rw[<-Array.toList_map]
 ·cases hf
theorem If {f:FuncId} {cs:List C} {v:Value} (h:Rep w M.S (.clo f cs) v):∃ us:List Value,v=.func (.func f) #[] us.toArray/\us.length=cs.length/\∀ (j:Nat) c,cs[j]?=some c->∃ u,us[j]?=some u/\Rep w M.S c u:=by
 cases h with
 | clo _ _ us u hl hu hr=>exact⟨us,rfl,hl,fun j c hj=>⟨u j,hu j c hj,hr j c hj⟩⟩
theorem Ig {dst:Option Tmp} {ty:TypeId} {pos:String} {after:Array Edge} {guard:Option (Nat × Bool)} {c:Call} {f:FuncId} {g:Operand} {us:List Value} (hc:c.callee=.value g) (hg:a.eval g=.func (.func f) #[] us.toArray) (hf:aw P f=true) :
 (execOp a.eval ⟨dst,.call c,ty,pos,after,guard⟩).run P w=.ok (.enter f (c.args.toList.map a.eval++us).toArray) w:=by
 unfold aw at hf
 split at hf
 ·rename_i fn hfn
  simp only[Bool.and_eq_true,Bool.not_eq_true'] at hf
  obtain⟨h1,h2⟩:=hf
  have h3:fn.body≠none:=fun h=>by rw[h] at h1;cases h1
  have h2' : fn.name ≠ "runtime.NumGoroutine" := by simpa using h2
  simp[execOp,resolve,hc,hg,Deferred.ofValue,invoke,callFunc,hfn,h3,h2']
 ·cases hf
def GOK (P:Program) (Γ:FuncId->Option Spec):Prop:=∀ f sp,Γ f=some sp->aw P f=true/\Sound P f sp
theorem cR {ds:List AV} {g:Nat}:¬ Any (ds.map fun _=>fun _=>False) g:=by
 rintro⟨p,hp,h⟩
 simp only[List.mem_map] at hp
 obtain⟨_,_,rfl⟩:=hp
 exact h
theorem li {S:Nat->Prop} {ds:List AV}:Apart S (ds.map fun _=>fun _=>False):=by
 induction ds with
 | nil=>trivial
 | cons d ds ih=>exact⟨fun _ h=>h.elim,fun _ h=>h.elim,ih⟩
theorem Ih:∀ {l0:List AV} {ds:List DV} {vs:List Value} {fps:List (Nat->Prop)},bI l0=some ds->All3 (RepA w M.S) l0 vs fps->All2 (eX w M) (ds.map DV.toS) vs:=by
 intro l0
 induction l0 with
 | nil=>intro ds vs fps h h3;simp[bI] at h;subst h;cases h3;exact .nil
 | cons x l0 ih =>
   intro ds vs fps h h3
   cases x with
   | d x =>
     simp only[bI,Option.map_eq_some_iff] at h
     obtain⟨l,hl,rfl⟩:=h
     cases h3 with
     | cons hh ht=>exact .cons (yh hh.1) (ih hl ht)
   | ref _=>simp[bI] at h
   | own _ _=>simp[bI] at h
   | gone=>simp[bI] at h
   | ag _=>simp[bI] at h
theorem lj {l0:List AV} {p:PV} {v:Value} {fps:List (Nat->Prop)} (h:cD l0=some p) (hr:RepR w M.S l0 v fps):ak w M p v:=by
 unfold cD at h
 split at h
 ·rename_i d hd
  simp at h;subst h
  cases l0 with
  | nil=>simp[bI] at hd
  | cons x l0 =>
    cases x with
    | d x =>
      simp only[bI,Option.map_eq_some_iff] at hd
      obtain⟨l,hl,he⟩:=hd
      simp at he;obtain⟨rfl,rfl⟩:=he
      cases l0 with
      | nil =>
        cases fps with
        | nil=>exact absurd rfl hr.1
        | cons fp r=>cases r with
          | nil=>exact ss hr.1
          | cons _ _=>exact absurd rfl hr.1
      | cons y l0=>cases y <;> simp[bI] at hl
    | ref _=>simp[bI] at hd
    | own _ _=>simp[bI] at hd
    | gone=>simp[bI] at hd
    | ag _=>simp[bI] at hd
 ·rename_i ds hne hd
  simp at h;subst h
  have hr':∃ vs:List Value,v=.tuple vs.toArray/\All3 (RepA w M.S) l0 vs fps:=by
   cases l0 with
   | nil=>exact hr.2
   | cons x l0=>cases l0 with
     | nil =>
       cases x with
       | d x=>simp[bI] at hd;exact absurd hd.symm (hne x)
       | ref _=>simp[bI] at hd
       | own _ _=>simp[bI] at hd
       | gone=>simp[bI] at hd
       | ag _=>simp[bI] at hd
     | cons y l0=>exact hr.2
  obtain⟨vs,h1,h2⟩:=hr'
  exact⟨vs,h1,Ih hd h2⟩
 ·cases h
theorem yj (G:GOK P Γ) (hg:Gl w M.S) (ht:∀ t p,(t,p) ∈ σ.tm->ak w M p (a.tmps.getD t undef)) (hl:∀ g,M.S g->g < w.heap.size) {f:FuncId} {os:List Operand} {xs:List XO} (ho:bJ os xs=true)
 {vc:Prop} {p:PV} (he:fd Γ σ f xs=some (vc,p)) (hvc:vc) :
 aw P f=true/\∀ (K:Value->World->Prop) (E:Ending->World->Prop),(∀ v w' M',Up (fun _=>False) w M w' M'->ak w' M' p v->K v w') ->
  Calls P f (os.map a.eval).toArray w fun e w'=>match e with|.returned v=>K v w'|e=>E e w':=by
 unfold fd at he
 split at he
 ·rename_i sp vc' ds hsp ha
  split at he
  ·rename_i hal
   simp only[Option.map_eq_some_iff,Prod.mk.injEq] at he
   obtain⟨p',hp,rfl,rfl⟩:=he
   obtain⟨h1,h2⟩:=G f sp hsp
   refine⟨h1,fun K E hK=>?_⟩
   refine (h2.full ds hvc.2 w M.S _ _ hg hl (fun g hg=>absurd hg cR) li (yi ht ho ha hvc.1)).mono ?_
   rintro e w' ⟨r,o,hro,v,S',rfs,fps',rfl,g1,g2,g3,g4,g5,g6,g7,g8⟩
   obtain⟨rfl,rfl⟩:=(Spec.may_none hal).1 hro
   refine hK v w' { M with S:=S' } ⟨rfl,rfl,g3,fun g hg=>(g4 g hg).imp id (fun h=>h.resolve_right cR),g5,fun _ _ h=>h,?_⟩ (lj hp g1)
   exact g8.weak (Nat.le_refl _) (fun g _ hg=>absurd hg cR)
  ·cases he
 ·cases he
theorem Ii (G:GOK P Γ) (hg:Gl w M.S) (ht:∀ t p,(t,p) ∈ σ.tm->ak w M p (a.tmps.getD t undef)) (hl:∀ g,M.S g->g < w.heap.size) {f:FuncId} {os:List Operand} {xs:List XO} (ho:bJ os xs=true)
 {vc:Prop} {p:PV} (he:nq Γ σ f xs=some (vc,p)) (hvc:vc) :
 aw P f=true/\∀ (K:Value->World->Prop) (E:Ending->World->Prop),(∀ v w' M',Up (fun _=>False) w M w' M'->ak w' M' p v->K v w') ->
  Calls P f (os.map a.eval).toArray w fun e w'=>match e with|.returned v=>K v w'|e=>E e w':=by
 unfold nq at he
 split at he
 ·rename_i sp vc' ds hsp ha
  split at he
  ·rename_i hal
   split at he
   ·rename_i hdt
    simp only[Option.map_eq_some_iff,Prod.mk.injEq] at he
    obtain⟨p',hp,rfl,rfl⟩:=he
    obtain⟨h1,h2⟩:=G f sp hsp
    refine⟨h1,fun K E hK=>?_⟩
    refine (h2.full ds hvc.2 w M.S _ _ hg hl (fun g hg=>absurd hg cR) li (yi ht ho ha hvc.1)).mono ?_
    rintro e w' ⟨r,o,hro,v,S',rfs,fps',rfl,g1,g2,g3,g4,g5,g6,g7,g8⟩
    obtain⟨rfl,rfl⟩:=(Spec.may_none hal).1 hro
    have hnew:∀ g,Any rfs g->(w.heap.size<=g)/\g < w'.heap.size:=fun g ⟨q,hq,hg⟩=>by
     obtain⟨k1,k2⟩:=g7 g ⟨q,by simp[hq],hg⟩
     exact⟨k1.resolve_right cR,k2⟩
    refine hK v w' { M with S:=fun g=>S' g\/Any rfs g } ⟨rfl,rfl,fun g hg=>.inl (g3 g hg),fun g hg=>?_,fun g hg=>?_,fun _ _ h=>h,?_⟩ (lj hp (g1.weak (fun x hx=>AV.dt_of (List.all_eq_true.1 hdt x hx))))
    ·rcases hg with hg|hg
     ·exact (g4 g hg).imp id (fun h=>h.resolve_right cR)
     ·exact .inr (hnew g hg).1
    ·rcases hg with hg|hg
     ·exact g5 g hg
     ·exact (hnew g hg).2
    ·exact g8.weak (Nat.le_refl _) (fun g _ hg=>absurd hg cR)
   ·cases he
  ·cases he
 ·cases he
def fN (σ:St) (M:Gh) (g:Nat):Prop:=M.S g\/∃ i r,(i,r) ∈ σ.rw/\ae (M.ρ i) g
theorem yk (mem:Mem X B σ.bx σ.rw w M) {q:Q} {c:C} {v:Value} (h:af w M q v) (hc:q.toCB σ=some c):Rep w (fN σ M) c v:=by
 have mono:∀ {c v},Rep w M.S c v->Rep w (fN σ M) c v:=fun h=>h.mono (fun _ h=>.inl h) (fun _ _=>rfl)
 cases q with
 | own i =>
   simp only[Q.toCB,Option.bind_eq_some_iff,Option.map_eq_some_iff] at hc
   obtain⟨⟨sz,es⟩,hr,es',hpl,rfl⟩:=hc
   have hin:=get?_mem hr
   rw[h.1]
   exact (sq (mem.row _ _ _ hin).2.1 hpl).mono (fun g hg=>hg.imp id (fun hg=>⟨i,_,hin,hg⟩)) (fun _ _=>rfl)
 | no=>exact mono (cQ h hc)
 | c x=>exact mono (cQ h hc)
 | z _=>exact mono (cQ h hc)
 | full _ _=>exact mono (cQ h hc)
 | box _ _=>exact mono (cQ h hc)
 | el _=>exact mono (cQ h hc)
 | rp _ _ _ _=>exact mono (cQ h hc)
 | nt _=>exact mono (cQ h hc)
 | vw _ _ _ _=>exact mono (cQ h hc)
 | vc _ _ _ _ _=>exact mono (cQ h hc)
 | nr _ _=>exact mono (cQ h hc)
 | np _ _ _ _ _=>exact mono (cQ h hc)
theorem Ij (mem:Mem X B σ.bx σ.rw w M):∀ {qs:List Q} {cs:List C} {us:List Value},dG σ qs=some cs->us.length=qs.length->(∀ (i:Nat) q,qs[i]?=some q->∃ u,us[i]?=some u/\u.oneCell'=true/\af w M q u) ->
 us.length=cs.length/\∀ (i:Nat) c,cs[i]?=some c->∃ u,us[i]?=some u/\Rep w (fN σ M) c u:=by
 intro qs
 induction qs with
 | nil =>
   intro cs us h hl _
   simp only[dG,Option.some.injEq] at h
   subst h
   exact⟨hl,fun i c hc=>by simp at hc⟩
 | cons q qs ih =>
   intro cs us h hl hq
   cases us with
   | nil=>simp at hl
   | cons u us =>
     simp only[dG] at h
     split at h
     ·rename_i c cs' e1 e2
      cases h
      obtain⟨i1,i2⟩:=ih e2 (by simpa using hl) (fun i q' h'=>by simpa using hq (i+1) q' (by simpa using h'))
      refine⟨by simp[i1],fun i c' hc=>?_⟩
      cases i with
      | zero =>
        simp only[List.getElem?_cons_zero,Option.some.injEq] at hc
        subst hc
        obtain⟨u',hu,_,hr⟩:=hq 0 q rfl
        simp only[List.getElem?_cons_zero,Option.some.injEq] at hu
        subst hu
        exact⟨_,rfl,yk mem hr e1⟩
      | succ i=>simpa using i2 i c' (by simpa using hc)
     ·cases h
theorem yl (mem:Mem X B σ.bx σ.rw w M) (ht:∀ t p,(t,p) ∈ σ.tm->ak w M p (a.tmps.getD t undef)):∀ {os:List Operand} {xs:List XO} {vc:Prop} {ds:List AV},bJ os xs=true->dk σ xs=some (vc,ds)->vc ->
 All3 (RepA w (fN σ M)) ds (os.map a.eval) (ds.map fun _=>fun _=>False):=by
 intro os
 induction os with
 | nil =>
   intro xs vc ds hk hx hvc
   cases xs with
   | nil=>simp only[dk,Option.some.injEq,Prod.mk.injEq] at hx;rw[<-hx.2];exact .nil
   | cons _ _=>simp[bJ] at hk
 | cons o os ih =>
   intro xs vc ds hk hx hvc
   cases xs with
   | nil=>simp[bJ] at hk
   | cons x xs =>
     simp only[bJ,Bool.and_eq_true] at hk
     simp only[dk] at hx
     split at hx
     ·rename_i g p vc' ds' e1 e2
      split at hx
      ·rename_i d hd
       simp only[Option.some.injEq,Prod.mk.injEq] at hx
       obtain⟨rfl,rfl⟩:=hx
       have rx:=aC (o:=o) (x:=x) ht hk.1 (by rw[e1];exact hvc.1)
       rw[e1] at rx
       refine .cons ⟨?_,fun _ h=>h⟩ (ih hk.2 e2 hvc.2)
       unfold PV.toDB at hd
       split at hd
       ·simp only[Option.map_eq_some_iff] at hd
        obtain⟨c,hc,rfl⟩:=hd
        exact yk mem rx hc
       ·simp only[Option.map_eq_some_iff] at hd
        obtain⟨cs,hc,rfl⟩:=hd
        obtain⟨us,hv,h2,h3⟩:=rx
        obtain⟨h4,h5⟩:=Ij mem (us:=us.toList) hc (by simpa using h2) (fun i q hi=>by simpa using h3 i q hi)
        exact⟨us,hv,by simpa using h4,fun i c hi=>by simpa using h5 i c hi⟩
       ·cases hd
      ·cases hx
     ·cases hx
theorem nx {S S':Nat->Prop} {w':World} {c:C} {v:Value} (hf:fe c=true) (h:Rep w S c v):Rep w' S' c v:=by
 cases c <;> first|(simp[fe] at hf;done)|(cases h;constructor)
theorem Ik {M':Gh} {w':World} {s:SV} {v:Value} (hf:oQ s=true) (h:eX w M s v):eX w' M' s v:=by
 unfold oQ at hf
 split at hf
 ·exact nx hf h
 ·cases hf
theorem su {M':Gh} {w':World} {p:PV} {v:Value} (hf:lb p=true) (h:ak w M p v):ak w' M' p v:=by
 unfold lb at hf
 split at hf
 ·exact nx hf h
 ·rename_i xs
  obtain⟨vs,rfl,h2⟩:=h
  refine⟨vs,rfl,?_⟩
  induction h2 with
  | nil=>exact .nil
  | cons h _ ih =>
    simp only[List.all_cons,Bool.and_eq_true] at hf
    exact .cons (Ik hf.1 h) (ih hf.2)
 ·cases hf
theorem Il (G:GOK P Γ) (mem:Mem X B σ.bx σ.rw w M) (ht:∀ t p,(t,p) ∈ σ.tm->ak w M p (a.tmps.getD t undef)) {f:FuncId} {os:List Operand} {xs:List XO} (ho:bJ os xs=true)
 {vc:Prop} {p:PV} (he:jA Γ σ f xs=some (vc,p)) (hvc:vc) :
 aw P f=true/\∀ (K:Value->World->Prop) (E:Ending->World->Prop),(∀ v w' M',Up (fun _=>False) w M w' M'->ak w' M' p v->K v w') ->
  Calls P f (os.map a.eval).toArray w fun e w'=>match e with|.returned v=>K v w'|e=>E e w':=by
 unfold jA at he
 split at he
 ·rename_i sp vc' ds hsp ha
  split at he
  ·rename_i hal
   split at he
   ·rename_i p' hp
    split at he
    ·rename_i hfl
     simp only[Option.some.injEq,Prod.mk.injEq] at he
     obtain⟨rfl,rfl⟩:=he
     obtain⟨h1,h2⟩:=G f sp hsp
     refine⟨h1,fun K E hK=>?_⟩
     have hlt:∀ g,fN σ M g->g < w.heap.size:=fun g hg=>by
      rcases hg with hg|⟨i,⟨sz,es⟩,hi,hg⟩
      ·exact mem.lt g hg
      ·exact (mem.row _ _ _ hi).2.1.lt hg
     have hgl:Gl w (fN σ M):=⟨fun i c hi=>by
      obtain⟨k1,u,k2,k3⟩:=mem.gl.1 i c hi
      exact⟨.inl k1,u,k2,k3.mono (fun _ h=>.inl h) (fun _ _=>rfl)⟩,fun i cs hi=>by
      obtain⟨k1,t,x,k2⟩:=mem.gl.2 i cs hi
      exact⟨.inl k1,t,x,k2⟩⟩
     refine (h2 ds hvc.2 w (fN σ M) _ _ hgl hlt (fun g hg=>absurd hg cR) li (yl mem ht ho ha hvc.1)).mono ?_
     rintro e w' ⟨r,o,hro,v,S',rfs,fps',rfl,g1,g2,g4,g5,g6,g7,g8⟩
     obtain⟨rfl,rfl⟩:=(Spec.may_none hal).1 hro
     have hw:=g8.weak (B:=w.heap.size) (X:=fun _=>False) (Nat.le_refl _) (fun g _ hg=>absurd hg cR)
     exact hK v w' M ⟨rfl,rfl,fun _ h=>h,fun _ h=>.inl h,fun g hg=>Nat.lt_of_lt_of_le (mem.lt g hg) hw.size,fun _ _ h=>h,hw⟩ (su (M:={ M with S:=S' }) hfl (lj hp g1))
    ·cases he
   ·cases he
  ·cases he
 ·cases he
def dZ (P:Program) (o:Op) (k:XK):Bool:=match k with
 | .build zs ps'=>(match o with|.build t ps=>sn P t ps zs ps'|_=>false)
 | .bsl sz ps'=>(match o with|.buildSlice t len ps=>lg P t len ps sz ps'|_=>false)
 | .call f xs=>(match o with|.call c=>cW c f xs|_=>false)
 | .calli f xs=>(match o with|.call c=>oY c f xs|_=>false)
 | .callr f xs=>(match o with|.call c=>cW c f xs|_=>false)
 | .callo f xs=>(match o with|.call c=>cW c f xs|_=>false)
 | .callx f xs=>(match o with|.call c=>cW c f xs|_=>false)
 | .callm f x y=>(match o with|.call c=>cW c f [x,y]|_=>false)
 | .callw f xs=>(match o with|.call c=>cW c f xs|_=>false)
 | .callb f xs=>(match o with|.call c=>cW c f xs|_=>false)
 | .glb i=>(match o with|.load t (.global j)=>i == j && cF P t none|_=>false)
 | k=>oW P o k
theorem cG {o:Oper} {v:Value} {w':World} {next:Act->World->Prop} {Q:Exit->Act->World->Prop} (hr:(execOp a.eval o).run P w=.ok (.value v) w') (h:next (a.put o.dst v) w'):o.wp P a w next Q:=by
 unfold Oper.wp;rw[hr];exact h
theorem fO {o:Oper} {f:FuncId} {args:Array Value} {next:Act->World->Prop} {Q:Exit->Act->World->Prop} (hr:(execOp a.eval o).run P w=.ok (.enter f args) w)
 (h:∀ (E:Ending->World->Prop),Calls P f args w fun e w'=>match e with|.returned v=>next (a.put o.dst v) w'|e=>E e w'):o.wp P a w next Q:=by
 unfold Oper.wp;rw[hr]
 refine (h (fun e w'=>match e with|.returned _=>False|.panicked chain=>Q (.panic chain) a w'|.outgrown=>LetsOut Q)).mono ?_
 rintro e w' he
 cases e <;> exact he
theorem ym (G:GOK P Γ) {o:Oper} {k:XK} {vc:Prop} {p:PV} (hk:dZ P o.op k=true) (he:ah Γ σ k=some (vc,p)) (hvc:vc)
 (ht:∀ t p,(t,p) ∈ σ.tm->ak w M p (a.tmps.getD t undef)) (mem:Mem X B σ.bx σ.rw w M) {next:Act->World->Prop} {Q:Exit->Act->World->Prop}
 (hn:∀ v w' M',Up (fun _=>False) w M w' M'->ak w' M' p v->next (a.put o.dst v) w'):o.wp P a w next Q:=by
 unfold dZ at hk
 split at hk
 ·rename_i zs ps'
  split at hk
  ·rename_i t ps ho
   simp only[ah,Option.map_eq_some_iff,Prod.mk.injEq] at he
   obtain⟨⟨vc',qs⟩,hb,rfl,rfl⟩:=he
   obtain⟨v,h1,h2⟩:=Id ht hk hb hvc
   exact cG (w':=w) (by unfold execOp;rw[ho];simp only[Sem.run_bind,h1];rfl) (hn v w M (Up.refl mem.lt) h2)
  ·cases hk
 ·rename_i sz ps'
  split at hk
  ·rename_i t len ps ho
   obtain⟨v,w',M',h1,h2,h3⟩:=Ie ht mem.lt hk he hvc
   exact cG (by unfold execOp;rw[ho];simp only[Sem.run_bind,h1];rfl) (hn v w' M' h2 h3)
  ·cases hk
 ·rename_i f xs
  split at hk
  ·rename_i c ho
   unfold cW at hk
   split at hk
   ·rename_i g hc
    simp only[Bool.and_eq_true,beq_iff_eq] at hk
    obtain⟨rfl,hos⟩:=hk
    obtain⟨h1,h2⟩:=yj G mem.gl ht mem.lt hos he hvc
    obtain⟨dst,op,ty,pos,after,guard⟩:=o
    simp only at ho;subst ho
    exact fO (gL hc rfl h1) (fun E=>h2 _ E hn)
   ·cases hk
  ·cases hk
 ·rename_i f xs
  split at hk
  ·rename_i c ho
   unfold oY at hk
   split at hk
   ·rename_i g hc
    simp only[Bool.and_eq_true] at hk
    simp only[ah] at he
    have rf:=aC (o:=g) (x:=f) ht hk.1
    split at he
    ·rename_i gg f' e1
     rw[e1] at rf
     simp only[Option.map_eq_some_iff,Prod.mk.injEq] at he
     obtain⟨⟨vc',p'⟩,hx,rfl,rfl⟩:=he
     obtain⟨h1,h2⟩:=yj G mem.gl ht mem.lt hk.2 hx hvc.2
     obtain⟨dst,op,ty,pos,after,guard⟩:=o
     simp only at ho;subst ho
     exact fO (gL hc (xU (rf hvc.1)) h1) (fun E=>h2 _ E hn)
    ·cases he
   ·cases hk
  ·cases hk
 ·simp[ah] at he
 ·simp[ah] at he
 ·simp[ah] at he
 ·simp[ah] at he
 ·rename_i f xs
  split at hk
  ·rename_i c ho
   unfold cW at hk
   split at hk
   ·rename_i g hc
    simp only[Bool.and_eq_true,beq_iff_eq] at hk
    obtain⟨rfl,hos⟩:=hk
    obtain⟨h1,h2⟩:=Ii G mem.gl ht mem.lt hos he hvc
    obtain⟨dst,op,ty,pos,after,guard⟩:=o
    simp only at ho;subst ho
    exact fO (gL hc rfl h1) (fun E=>h2 _ E hn)
   ·cases hk
  ·cases hk
 ·rename_i f xs
  split at hk
  ·rename_i c ho
   unfold cW at hk
   split at hk
   ·rename_i g hc
    simp only[Bool.and_eq_true,beq_iff_eq] at hk
    obtain⟨rfl,hos⟩:=hk
    obtain⟨h1,h2⟩:=Il G mem ht hos he hvc
    obtain⟨dst,op,ty,pos,after,guard⟩:=o
    simp only at ho;subst ho
    exact fO (gL hc rfl h1) (fun E=>h2 _ E hn)
   ·cases hk
  ·cases hk
 ·rename_i i
  split at hk
  ·rename_i t j ho
   simp only[Bool.and_eq_true,beq_iff_eq] at hk
   obtain⟨rfl,hag⟩:=hk
   simp only[ah,Option.map_eq_some_iff,Prod.mk.injEq] at he
   obtain⟨c,hc,rfl,rfl⟩:=he
   obtain⟨_,u,h1,h2⟩:=mem.gl.1 _ _ (get?_mem hc)
   have hl:=ld (w:=w) (ad:=⟨i,0,none⟩) (us:=fun _=>u) hag (fun j hj=>by
    have:j=0:=by simp at hj;omega
    subst this
    simpa [Addr.add] using h1)
   refine cG (w':=w) (v:=u) ?_ (hn u w M (Up.refl mem.lt) h2)
   unfold execOp;rw[ho];simp only[Act.eval,Sem.run_bind,hl];rfl
  ·cases hk
 ·obtain⟨v,h1,h2⟩:=HV hk he hvc ht mem
  exact cG h1 (hn v w M (Up.refl mem.lt) h2)
end
end Go.Proofs.Pw
namespace Go.Proofs.Pw
open Go.RowKit
variable [Globs]
section
variable {P:Program} {Γ:FuncId->Option Spec} {σ:St} {a:Act} {w w':World} {M M':Gh} {X:Nat->Prop} {B n:Nat} {w0:W0}
theorem bh {α:Type} {t i:Nat} {x:α}:∀ {l:List (Nat × α)},(i,x) ∈ del t l->i≠t/\(i,x) ∈ l:=by
 intro l
 induction l with
 | nil=>intro h;simp[del] at h
 | cons y r ih =>
   obtain⟨j,y⟩:=y
   intro h
   simp only[del] at h
   split at h
   ·exact⟨(ih h).1,List.mem_cons_of_mem _ (ih h).2⟩
   ·rename_i hne
    rcases List.mem_cons.1 h with h|h
    ·cases h;exact⟨hne,by simp⟩
    ·exact⟨(ih h).1,List.mem_cons_of_mem _ (ih h).2⟩
theorem aE {α:Type} {t i:Nat} {x y:α}:∀ {l:List (Nat × α)},(i,x) ∈ upd t y l->(i=t/\x=y)\/(i≠t/\(i,x) ∈ l):=by
 intro l
 induction l with
 | nil=>intro h;simp[upd] at h;exact .inl h
 | cons z r ih =>
   obtain⟨j,z⟩:=z
   intro h
   simp only[upd] at h
   split at h
   ·rename_i he
    rcases List.mem_cons.1 h with h|h
    ·cases h;exact .inl ⟨rfl,rfl⟩
    ·exact .inr ⟨(bh h).1,List.mem_cons_of_mem _ (bh h).2⟩
   ·rename_i hne
    rcases List.mem_cons.1 h with h|h
    ·cases h;exact .inr ⟨hne,by simp⟩
    ·rcases ih h with h|h
     ·exact .inl h
     ·exact .inr ⟨h.1,List.mem_cons_of_mem _ h.2⟩
section
variable {f:Q->Q} (hf:∀ q v,af w M q v->af w' M' (f q) v)
include hf
theorem yn {qs:List Q} {v:Value} (h:gF w M qs v):gF w' M' (qs.map f) v:=by
 obtain⟨us,h1,h2,h3⟩:=h
 refine⟨us,h1,by simpa using h2,fun i q hq=>?_⟩
 simp only[List.getElem?_map,Option.map_eq_some_iff] at hq
 obtain⟨q0,hq0,rfl⟩:=hq
 obtain⟨u,g1,g2,g3⟩:=h3 i q0 hq0
 exact⟨u,g1,g2,hf _ _ g3⟩
theorem Im {x:SV} {v:Value} (h:eX w M x v):eX w' M' (x.map f) v:=by
 cases x with
 | q x=>exact hf _ _ h
 | agg xs=>exact yn hf h
theorem cX {p:PV} {v:Value} (h:ak w M p v):ak w' M' (p.map f) v:=by
 induction p with
 | q x=>exact hf _ _ h
 | agg xs=>exact yn hf h
 | tup xs =>
   obtain⟨vs,h1,h2⟩:=h
   refine⟨vs,h1,?_⟩
   clear h1
   induction h2 with
   | nil=>exact .nil
   | cons h _ ih=>exact .cons (Im hf h) ih
 | gd b p ih=>exact⟨fun hb=>ih (h.1 hb),h.2⟩
theorem eF {qs:List Q} {us:Array Value} (h:RelCs w M qs us):RelCs w' M' (qs.map f) us:=by
 obtain⟨h2,h3⟩:=h
 refine⟨by simpa using h2,fun i q hq=>?_⟩
 simp only[List.getElem?_map,Option.map_eq_some_iff] at hq
 obtain⟨q0,hq0,rfl⟩:=hq
 obtain⟨u,g1,g2,g3⟩:=h3 i q0 hq0
 exact⟨u,g1,g2,hf _ _ g3⟩
end
theorem Sim.upS (hs:Sim X n B w0 σ a w M) {Z:Nat->Prop} (hu:Up Z w M w' M') (g:Nat) (hg:M'.S g):w0.S g\/dF X B g:=by
 rcases hu.new g hg with h|h
 ·exact hs.sS g h
 ·exact .inr (.inl (Nat.le_trans hs.hB h))
theorem Sim.put (hs:Sim X n B w0 σ a w M) {dst:Option Nat} (hd:∀ d,dst=some d->d < n) {Z:Nat->Prop} (hu:Up Z w M w' M') (hZ:∀ g,g < B->Z g->X g) (hm:Mem X B σ.bx σ.rw w' M') {p:PV} {v:Value} (hv:ak w' M' p v) :
 Sim X n B w0 (σ.put dst p) (a.put dst v) w' M':=by
 have hfr:Fr X B w0.w w':=hs.fr.trans (hu.fr.weak hs.hB hZ)
 cases dst with
 | none=>exact⟨hs.size,hs.defs,fun t p h=>hu.v hs.mem.lt (hs.tm t p h),hm,hfr,Nat.le_trans hs.hB hu.fr.size,hs.upS hu,by rw[hu.β];exact hs.sβ,by rw[hu.ρ];exact hs.sρ⟩
 | some d =>
   refine⟨by simpa [Act.put] using hs.size,hs.defs,fun t p' h=>?_,hm,hfr,Nat.le_trans hs.hB hu.fr.size,hs.upS hu,by rw[hu.β];exact hs.sβ,by rw[hu.ρ];exact hs.sρ⟩
   have hdn:d < a.tmps.size:=by rw[hs.size];exact hd d rfl
   rcases aE h with ⟨rfl,rfl⟩|⟨hne,h⟩
   ·simpa [Act.put,Array.getD,hdn] using hv
   ·have:=hu.v hs.mem.lt (hs.tm t p' h)
    have he:(a.put (some d) v).tmps.getD t undef=a.tmps.getD t undef:=by
     simp only[Act.put,Array.getD_eq_getD_getElem?,Array.getElem?_setIfInBounds]
     rw[if_neg (fun e=>hne e.symm)]
    rw[he];exact this
theorem Mem.setBox {bx:List (Nat × List Q)} {rw_:List (Nat × Nat × List (List C))} (h:Mem X B bx rw_ w M) {i:Nat} {qs qs':List Q} (hi:(i,qs) ∈ bx) (hu:Up (fun g=>g=M.β i) w M w' M')
 {t:TypeId} {cells:Array Value} (hc:w'.heap[M.β i]?=some (.cells cells t (0,0))) (hr:RelCs w' M' qs' cells):Mem X B (upd i qs' bx) rw_ w' M':=by
 have hz:∀ i' qs'',(i',qs'') ∈ bx->i'≠i->M.β i'≠M.β i:=fun i' qs'' h' hne=>h.bb i' qs'' i qs h' hi hne
 have hzr:∀ i' r g,(i',r) ∈ rw_->ae (M.ρ i') g->g≠M.β i:=fun i' r g h' hg e=>h.br i qs i' r hi h' (e ▸ hg)
 refine⟨fun i' qs'' h'=>?_,fun i' sz es h'=>?_,fun i' q1 j q2 h1 h2 hne=>?_,fun i' q1 j r h1 h2=>?_,?_,hu.lt,fun i' q1 h1 hs=>?_,fun i' r g h1 hg hs=>?_,(hu.ub h.lt).gl h.gl⟩
 ·rw[hu.β]
  rcases aE h' with ⟨rfl,rfl⟩|⟨hne,h'⟩
  ·exact⟨(h.box _ _ hi).1,t,cells,hc,hr⟩
  ·obtain⟨hB,t',cells',h1,h2,h3⟩:=h.box i' qs'' h'
   refine⟨hB,t',cells',?_,h2,fun j q hq=>?_⟩
   ·rw[hu.fr.block _ (Array.getElem?_eq_some_iff.1 h1).1 (hz i' qs'' h' hne)];exact h1
   ·obtain⟨u,a1,a2,a3⟩:=h3 j q hq;exact⟨u,a1,a2,hu.q h.lt a3⟩
 ·obtain⟨h0,hp,hx⟩:=h.row i' sz es h'
  rw[hu.ρ]
  exact⟨h0,hp.move hu.S (hu.keep h.lt) (fun g hg=>hu.fr.block g (hp.lt hg) (hzr i' _ g h' hg)),hx⟩
 ·rw[hu.β]
  have e:∀ {i' q1},(i',q1) ∈ upd i qs' bx->∃ q,(i',q) ∈ bx:=fun {i' q1} h'=>by
   rcases aE h' with ⟨rfl,_⟩|⟨_,h'⟩
   ·exact⟨qs,hi⟩
   ·exact⟨_,h'⟩
  obtain⟨_,e1⟩:=e h1;obtain⟨_,e2⟩:=e h2
  exact h.bb _ _ _ _ e1 e2 hne
 ·rw[hu.β,hu.ρ]
  rcases aE h1 with ⟨rfl,_⟩|⟨_,h'⟩
  ·exact h.br _ _ _ _ hi h2
  ·exact h.br _ _ _ _ h' h2
 ·rw[hu.ρ];exact h.rr
 ·rw[hu.β] at hs
  have hin:∃ q,(i',q) ∈ bx:=by
   rcases aE h1 with ⟨rfl,_⟩|⟨_,h'⟩
   ·exact⟨qs,hi⟩
   ·exact⟨_,h'⟩
  obtain⟨q,hq⟩:=hin
  obtain⟨_,t',cells',h1,_⟩:=h.box i' q hq
  rcases hu.new _ hs with hs|hs
  ·exact h.sb i' q hq hs
  ·have:=(Array.getElem?_eq_some_iff.1 h1).1;omega
 ·rw[hu.ρ] at hg
  obtain⟨sz,es⟩:=r
  obtain⟨_,hp,_⟩:=h.row i' sz es h1
  rcases hu.new _ hs with hs|hs
  ·exact h.sr i' _ g h1 hg hs
  ·have:=hp.lt hg;omega
def Gh.nb (M:Gh) (d b:Nat):Gh:={ M with β:=fun i=>if i=d then b else M.β i }
theorem oZ {d b:Nat} (hu:Up (fun _=>False) w M w' M) (hl:∀ g,M.S g->g < w.heap.size) (q:Q) (v:Value) (h:af w M q v):af w' (M.nb d b) (q.killB d) v:=by
 have h':=hu.q hl h
 cases q with
 | box i o =>
   simp only[Q.killB]
   split
   ·trivial
   ·rename_i hne;simp only[af,Gh.nb,if_neg hne] at *;exact h'
 | _=>exact h'
theorem Mem.newBox (h:Mem X B σ.bx σ.rw w M) (hB:B<=w.heap.size) (d:Nat) {cells:Array Value} {t:TypeId} {qs:List Q} (hr:RelCs w M qs cells) :
 Mem X B (upd d (qs.map (Q.killB d)) (σ.map (Q.killB d)).bx) σ.rw (w.alloc (.cells cells t)) (M.nb d w.heap.size)/\Up (fun _=>False) w M (w.alloc (.cells cells t)) M:=by
 have hu:Up (fun _=>False) w M (w.alloc (.cells cells t)) M:=⟨rfl,rfl,fun _ h=>h,fun _ h=>.inl h,fun g hg=>by simp;have:=h.lt g hg;omega,fun _ _ h=>h,⟨rfl,rfl,rfl,by simp,fun k hk _=>Below.heap_alloc _ _ _ hk⟩⟩
 have hm:=h.up hu (fun _ _ _ h=>h) (fun _ _ _ _ _ h=>h)
 have hq:=oZ (d:=d) (b:=w.heap.size) hu h.lt
 have hin:∀ {i' q1},(i',q1) ∈ upd d (qs.map (Q.killB d)) (σ.map (Q.killB d)).bx->(i'=d/\q1=qs.map (Q.killB d))\/(i'≠d/\∃ q,(i',q) ∈ σ.bx/\q1=q.map (Q.killB d)):=fun {i' q1} h'=>by
  rcases aE h' with h'|⟨hne,h'⟩
  ·exact .inl h'
  ·simp only[St.map,List.mem_map,Prod.mk.injEq] at h'
   obtain⟨⟨j,q⟩,hj,rfl,rfl⟩:=h'
   exact .inr ⟨hne,q,hj,rfl⟩
 have hlt:∀ {i' q},(i',q) ∈ σ.bx->M.β i' < w.heap.size:=fun {i' q} h'=>by
  obtain⟨_,t',cells',h1,_⟩:=h.box i' q h'
  exact (Array.getElem?_eq_some_iff.1 h1).1
 refine⟨⟨fun i' q1 h'=>?_,fun i' sz es h'=>hm.row i' sz es h',fun i' q1 j q2 h1 h2 hne=>?_,fun i' q1 j r h1 h2 hg=>?_,hm.rr,hm.lt,fun i' q1 h1 hs=>?_,hm.sr,hm.gl⟩,hu⟩
 ·rcases hin h' with ⟨rfl,rfl⟩|⟨hne,q,hj,rfl⟩
  ·simp only[Gh.nb,if_true]
   exact⟨.inl hB,t,cells,heap_alloc_new _ _,eF hq hr⟩
  ·simp only[Gh.nb,if_neg hne]
   obtain⟨hB',t',cells',h1,h2,h3⟩:=h.box i' q hj
   exact⟨hB',t',cells',by rw[Below.heap_alloc _ _ _ (hlt hj)];exact h1,eF hq ⟨h2,h3⟩⟩
 ·rcases hin h1 with ⟨rfl,_⟩|⟨n1,q,hj,_⟩ <;> rcases hin h2 with ⟨rfl,_⟩|⟨n2,q',hj',_⟩
  ·exact absurd rfl hne
  ·simp only[Gh.nb,if_true,if_neg n2];have:=hlt hj';omega
  ·simp only[Gh.nb,if_true,if_neg n1];have:=hlt hj;omega
  ·simp only[Gh.nb,if_neg n1,if_neg n2];exact h.bb _ _ _ _ hj hj' hne
 ·rcases hin h1 with ⟨rfl,_⟩|⟨n1,q,hj,_⟩
  ·simp only[Gh.nb,if_true] at hg
   obtain⟨sz,es⟩:=r
   have:=(h.row j sz es h2).2.1.lt hg;omega
  ·simp only[Gh.nb,if_neg n1] at hg
   exact h.br _ _ _ _ hj h2 hg
 ·rcases hin h1 with ⟨rfl,_⟩|⟨n1,q,hj,_⟩
  ·simp only[Gh.nb,if_true] at hs
   have:=h.lt _ hs;omega
  ·simp only[Gh.nb,if_neg n1] at hs
   exact h.sb _ _ hj hs
def Gh.nr (M:Gh) (d:Nat) (v:RV):Gh:={ M with ρ:=fun i=>if i=d then v else M.ρ i }
theorem eG {Z:Nat->Prop} {d:Nat} {v':RV} (hu:Up Z w M w' M) (hl:∀ g,M.S g->g < w.heap.size) (q:Q) (v:Value) (h:af w M q v):af w' (M.nr d v') (q.killO d) v:=by
 have h':=hu.q hl h
 cases q with
 | own i =>
   simp only[Q.killO]
   split
   ·trivial
   ·rename_i hne;simp only[af,Gh.nr,if_neg hne] at *;exact h'
 | rp i sz k o =>
   simp only[Q.killO]
   split
   ·trivial
   ·rename_i hne;simp only[af,Gh.nr,if_neg hne] at *;exact h'
 | vw i sz lo n =>
   simp only[Q.killO]
   split
   ·trivial
   ·rename_i hne;simp only[af,Gh.nr,if_neg hne] at *;exact h'
 | vc i sz lo n c =>
   simp only[Q.killO]
   split
   ·trivial
   ·rename_i hne;simp only[af,Gh.nr,if_neg hne] at *;exact h'
 | nr i π =>
   simp only[Q.killO]
   split
   ·trivial
   ·rename_i hne;simp only[af,Gh.nr,if_neg hne] at *;exact h'
 | np i π sz k o =>
   simp only[Q.killO]
   split
   ·trivial
   ·rename_i hne;simp only[af,Gh.nr,if_neg hne] at *;exact h'
 | _=>exact h'
theorem Mem.newRow {Z:Nat->Prop} (h:Mem X B σ.bx σ.rw w M) (hB:B<=w.heap.size) {d sz:Nat} {es:List (List C)} {v':RV} (h0:0 < sz) (hu:Up Z w M w' M) (hz:∀ g,Z g->∃ r,(d,r) ∈ σ.rw/\ae (M.ρ d) g)
 (hp:Priv w' M.S sz es v') (hb:∀ g,ae v' g->w.heap.size<=g\/∃ r,(d,r) ∈ σ.rw/\ae (M.ρ d) g):Mem X B (σ.map (Q.killO d)).bx (upd d (sz,es) σ.rw) w' (M.nr d v'):=by
 have hq:=eG (d:=d) (v':=v') hu h.lt
 have hbx:∀ {i' q1},(i',q1) ∈ (σ.map (Q.killO d)).bx->∃ q,(i',q) ∈ σ.bx/\q1=q.map (Q.killO d):=fun {i' q1} h'=>by
  simp only[St.map,List.mem_map,Prod.mk.injEq] at h'
  obtain⟨⟨j,q⟩,hj,rfl,rfl⟩:=h'
  exact⟨q,hj,rfl⟩
 have hzb:∀ i' q,(i',q) ∈ σ.bx->¬ Z (M.β i'):=fun i' q hj hZ=>by
  obtain⟨r,hr,hg⟩:=hz _ hZ;exact h.br _ _ _ _ hj hr hg
 have hbl:∀ {i' q},(i',q) ∈ σ.bx->M.β i' < w.heap.size:=fun {i' q} h'=>by
  obtain⟨_,t',cells',h1,_⟩:=h.box i' q h'
  exact (Array.getElem?_eq_some_iff.1 h1).1
 have hrl:∀ {i' r g},(i',r) ∈ σ.rw->ae (M.ρ i') g->g < w.heap.size:=fun {i' r g} h' hg=>by
  obtain⟨sz',es'⟩:=r
  exact (h.row i' sz' es' h').2.1.lt hg
 refine⟨fun i' q1 h'=>?_,fun i' sz' es' h'=>?_,fun i' q1 j q2 h1 h2 hne=>?_,fun i' q1 j r h1 h2 hg=>?_,fun i' r j r' g h1 h2 hne hg hg'=>?_,hu.lt,fun i' q1 h1 hs=>?_,fun i' r g h1 hg hs=>?_,(hu.ub h.lt).gl h.gl⟩
 ·obtain⟨q,hj,rfl⟩:=hbx h'
  obtain⟨hB',t',cells',h1,h2,h3⟩:=h.box i' q hj
  exact⟨hB',t',cells',by show w'.heap[M.β i']?=_;rw[hu.fr.block _ (hbl hj) (hzb _ _ hj)];exact h1,eF hq ⟨h2,h3⟩⟩
 ·rcases aE h' with ⟨rfl,he⟩|⟨hne,h'⟩
  ·cases he
   simp only[Gh.nr,if_true]
   refine⟨h0,hp,fun g hg=>?_⟩
   rcases hb g hg with hg|⟨r,hr,hg⟩
   ·exact .inl (by omega)
   ·obtain⟨sz',es'⟩:=r
    exact (h.row _ sz' es' hr).2.2 g hg
  ·simp only[Gh.nr,if_neg hne]
   obtain⟨h1,h2,h3⟩:=h.row i' sz' es' h'
   refine⟨h1,h2.move hu.S (hu.keep h.lt) (fun g hg=>hu.fr.block g (h2.lt hg) (fun hZ=>?_)),h3⟩
   obtain⟨r,hr,hg'⟩:=hz _ hZ
   exact h.rr _ _ _ _ g h' hr hne hg hg'
 ·obtain⟨q,hj,_⟩:=hbx h1;obtain⟨q',hj',_⟩:=hbx h2
  exact h.bb _ _ _ _ hj hj' hne
 ·obtain⟨q,hj,_⟩:=hbx h1
  rcases aE h2 with ⟨rfl,_⟩|⟨hne,h2⟩
  ·simp only[Gh.nr,if_true] at hg
   rcases hb _ hg with hg|⟨r',hr,hg⟩
   ·have:=hbl hj;omega
   ·exact h.br _ _ _ _ hj hr hg
  ·simp only[Gh.nr,if_neg hne] at hg
   exact h.br _ _ _ _ hj h2 hg
 ·rcases aE h1 with ⟨rfl,_⟩|⟨n1,k1⟩ <;> rcases aE h2 with ⟨rfl,_⟩|⟨n2,k2⟩
  ·exact hne rfl
  ·simp only[Gh.nr,if_true] at hg;simp only[Gh.nr,if_neg n2] at hg'
   rcases hb _ hg with hg|⟨r1,hr,hg⟩
   ·have:=hrl k2 hg';omega
   ·exact h.rr _ _ _ _ g hr k2 hne hg hg'
  ·simp only[Gh.nr,if_neg n1] at hg;simp only[Gh.nr,if_true] at hg'
   rcases hb _ hg' with hg'|⟨r1,hr,hg'⟩
   ·have:=hrl k1 hg;omega
   ·exact h.rr _ _ _ _ g k1 hr hne hg hg'
  ·simp only[Gh.nr,if_neg n1] at hg;simp only[Gh.nr,if_neg n2] at hg'
   exact h.rr _ _ _ _ g k1 k2 hne hg hg'
 ·obtain⟨q,hj,_⟩:=hbx h1
  exact h.sb _ _ hj hs
 ·rcases aE h1 with ⟨rfl,_⟩|⟨hne,h1⟩
  ·simp only[Gh.nr,if_true] at hg
   rcases hb _ hg with hg|⟨r1,hr,hg⟩
   ·have:=h.lt _ hs;omega
   ·exact h.sr _ _ g hr hg hs
  ·simp only[Gh.nr,if_neg hne] at hg
   exact h.sr _ _ g h1 hg hs
theorem Mem.setRow {bx:List (Nat × List Q)} {rw_:List (Nat × Nat × List (List C))} (h:Mem X B bx rw_ w M) {i sz sz':Nat} {es es':List (List C)} (hi:(i,sz,es) ∈ rw_) (hu:Up (ae (M.ρ i)) w M w' M')
 (h0:0 < sz') (hp':Priv w' M'.S sz' es' (M.ρ i)):Mem X B bx (upd i (sz',es') rw_) w' M':=by
 have hin:∀ {i' r},(i',r) ∈ upd i (sz',es') rw_->∃ r',(i',r') ∈ rw_:=fun {i' r} h'=>by
  rcases aE h' with ⟨rfl,_⟩|⟨_,h'⟩
  ·exact⟨_,hi⟩
  ·exact⟨_,h'⟩
 have hrl:∀ {i' r g},(i',r) ∈ rw_->ae (M.ρ i') g->g < w.heap.size:=fun {i' r g} h' hg=>by
  obtain⟨sz',es'⟩:=r
  exact (h.row i' sz' es' h').2.1.lt hg
 refine⟨fun i' qs h'=>?_,fun i' sz'' es'' h'=>?_,by rw[hu.β];exact h.bb,fun i' q j r h1 h2=>?_,fun i' r j r' g h1 h2 hne=>?_,hu.lt,fun i' q h1 hs=>?_,fun i' r g h1 hg hs=>?_,(hu.ub h.lt).gl h.gl⟩
 ·rw[hu.β]
  obtain⟨hB,t,cells,h1,h2,h3⟩:=h.box i' qs h'
  refine⟨hB,t,cells,?_,h2,fun j q hq=>?_⟩
  ·rw[hu.fr.block _ (Array.getElem?_eq_some_iff.1 h1).1 (h.br _ _ _ _ h' hi)];exact h1
  ·obtain⟨u,a1,a2,a3⟩:=h3 j q hq;exact⟨u,a1,a2,hu.q h.lt a3⟩
 ·rw[hu.ρ]
  rcases aE h' with ⟨rfl,he⟩|⟨hne,h'⟩
  ·cases he;exact⟨h0,hp',(h.row _ _ _ hi).2.2⟩
  ·obtain⟨h1,h2,h3⟩:=h.row i' sz'' es'' h'
   exact⟨h1,h2.move hu.S (hu.keep h.lt) (fun g hg=>hu.fr.block g (h2.lt hg) (h.rr _ _ _ _ g h' hi hne hg)),h3⟩
 ·rw[hu.β,hu.ρ]
  obtain⟨r',h2⟩:=hin h2
  exact h.br _ _ _ _ h1 h2
 ·rw[hu.ρ]
  obtain⟨_,h1⟩:=hin h1;obtain⟨_,h2⟩:=hin h2
  exact h.rr _ _ _ _ g h1 h2 hne
 ·rw[hu.β] at hs
  obtain⟨_,t',cells',h2,_⟩:=h.box i' q h1
  rcases hu.new _ hs with hs|hs
  ·exact h.sb i' q h1 hs
  ·have:=(Array.getElem?_eq_some_iff.1 h2).1;omega
 ·rw[hu.ρ] at hg
  obtain⟨r',h1⟩:=hin h1
  rcases hu.new _ hs with hs|hs
  ·exact h.sr i' _ g h1 hg hs
  ·have:=hrl h1 hg;omega
theorem Mem.getRow (h:Mem X B σ.bx σ.rw w M) {d sz:Nat} {es:List (List C)} {v':RV} (h0:0 < sz) (hp:Priv w M.S sz es v') (hmine:∀ g,ae v' g->dF X B g) (hS:∀ g,ae v' g->¬ M.S g)
 (hb:∀ i q,(i,q) ∈ σ.bx->¬ ae v' (M.β i)) (hr:∀ i r g,(i,r) ∈ σ.rw->ae (M.ρ i) g->¬ ae v' g):Mem X B (σ.map (Q.killO d)).bx (upd d (sz,es) σ.rw) w (M.nr d v'):=by
 have hq:=eG (d:=d) (v':=v') (Up.refl h.lt) h.lt
 have hbx:∀ {i' q1},(i',q1) ∈ (σ.map (Q.killO d)).bx->∃ q,(i',q) ∈ σ.bx/\q1=q.map (Q.killO d):=fun {i' q1} h'=>by
  simp only[St.map,List.mem_map,Prod.mk.injEq] at h'
  obtain⟨⟨j,q⟩,hj,rfl,rfl⟩:=h'
  exact⟨q,hj,rfl⟩
 refine⟨fun i' q1 h'=>?_,fun i' sz' es' h'=>?_,fun i' q1 j q2 h1 h2 hne=>?_,fun i' q1 j r h1 h2 hg=>?_,fun i' r j r' g h1 h2 hne hg hg'=>?_,h.lt,fun i' q1 h1 hs=>?_,fun i' r g h1 hg hs=>?_,h.gl⟩
 ·obtain⟨q,hj,rfl⟩:=hbx h'
  obtain⟨hB',t',cells',h1,h2,h3⟩:=h.box i' q hj
  exact⟨hB',t',cells',h1,eF hq ⟨h2,h3⟩⟩
 ·rcases aE h' with ⟨rfl,he⟩|⟨hne,h'⟩
  ·cases he
   simp only[Gh.nr,if_true]
   exact⟨h0,hp,hmine⟩
  ·simp only[Gh.nr,if_neg hne]
   exact h.row i' sz' es' h'
 ·obtain⟨q,hj,_⟩:=hbx h1;obtain⟨q',hj',_⟩:=hbx h2
  exact h.bb _ _ _ _ hj hj' hne
 ·obtain⟨q,hj,_⟩:=hbx h1
  rcases aE h2 with ⟨rfl,_⟩|⟨hne,h2⟩
  ·simp only[Gh.nr,if_true] at hg
   exact hb _ _ hj hg
  ·simp only[Gh.nr,if_neg hne] at hg
   exact h.br _ _ _ _ hj h2 hg
 ·rcases aE h1 with ⟨rfl,_⟩|⟨n1,k1⟩ <;> rcases aE h2 with ⟨rfl,_⟩|⟨n2,k2⟩
  ·exact hne rfl
  ·simp only[Gh.nr,if_true] at hg;simp only[Gh.nr,if_neg n2] at hg'
   exact hr _ _ g k2 hg' hg
  ·simp only[Gh.nr,if_neg n1] at hg;simp only[Gh.nr,if_true] at hg'
   exact hr _ _ g k1 hg hg'
  ·simp only[Gh.nr,if_neg n1] at hg;simp only[Gh.nr,if_neg n2] at hg'
   exact h.rr _ _ _ _ g k1 k2 hne hg hg'
 ·obtain⟨q,hj,_⟩:=hbx h1
  exact h.sb _ _ hj hs
 ·rcases aE h1 with ⟨rfl,_⟩|⟨hne,h1⟩
  ·simp only[Gh.nr,if_true] at hg
   exact hS g hg hs
  ·simp only[Gh.nr,if_neg hne] at hg
   exact h.sr _ _ g h1 hg hs
end
end Go.Proofs.Pw
namespace Go.Proofs.Pw
open Go.RowKit
variable [Globs]
section
variable {P:Program} {Γ:FuncId->Option Spec} {σ:St} {a:Act} {w w':World} {M M':Gh} {X:Nat->Prop} {B n:Nat} {w0:W0}
theorem In {t:TypeId} {ag:Option Nat} (h:cF P t ag=true):∃ i,P.info? t=some i/\i.size=ag.getD 1:=by
 cases ag with
 | none=>obtain⟨d,i,_,h2,h3,_⟩:=sh h;exact⟨i,h2,h3⟩
 | some m=>obtain⟨_,i,_,h2,h3⟩:=sg h;exact⟨i,h2,h3⟩
theorem sv {t:TypeId} {ag:Option Nat} (hk:cF P t ag=true) {g o:Nat} {cells:Array Value} {ty:TypeId} (hg:w.heap[g]?=some (.cells cells ty (0,0))) {v:Value} (hv:v.cells.size=ag.getD 1) (hl:o+ag.getD 1<=cells.size) (h1:∀ u ∈ v.cells.toList,u.oneCell'=true) :
 (Instr.storeAt t (.pointer (some ⟨g,o,none⟩)) v).run P w=.ok () (w.setRow g (cells.toList.take o++v.cells.toList++cells.toList.drop (o+ag.getD 1)).toArray):=by
 obtain⟨i,h2,h3⟩:=In hk
 have:=run_storeCells_at P g o ty v.cells.toList 0 cells w hg (by simp[hv];omega) h1
 simp only[Nat.add_zero,Array.length_toList,hv] at this
 simp[Instr.storeAt,Instr.sureAddr,storeVar,hv,sizeOf,typeInfo,h2,h3,this]
theorem ll {α:Type} (l vs:List α) (o k:Nat) (h:o+vs.length<=l.length):(l.take o++vs++l.drop (o+vs.length))[k]?=if o<=k/\k < o+vs.length then vs[k-o]? else l[k]?:=by
 by_cases h1:k < o
 ·rw[if_neg (by omega),List.append_assoc,List.getElem?_append_left (by simp;omega),List.getElem?_take,if_pos h1]
 ·by_cases h2:k < o+vs.length
  ·rw[if_pos (by omega),List.append_assoc,List.getElem?_append_right (by simp;omega),List.getElem?_append_left (by simp;omega)]
   simp[show min o l.length=o by omega]
  ·rw[if_neg (by omega),List.getElem?_append_right (by simp;omega),List.getElem?_drop]
   congr 1;simp;omega
theorem RelCs.all_one {qs:List Q} {us:Array Value} (h:RelCs w M qs us):∀ u ∈ us.toList,u.oneCell'=true:=by
 intro u hu
 obtain⟨i,hi⟩:=List.getElem?_of_mem hu
 have hlt:i < qs.length:=by have:=(List.getElem?_eq_some_iff.1 hi).1;simp at this;rw[<-h.1];exact this
 obtain⟨u',h1,h2,_⟩:=h.2 i _ (List.getElem?_eq_getElem hlt)
 simp at hi h1
 rw[hi] at h1;cases h1;exact h2
theorem Io {qs ys:List Q} {cells:Array Value} {v:Value} {o:Nat} (hq:RelCs w M qs cells) (hy:RelCs w M ys v.cells) (hl:o+ys.length<=qs.length) :
 RelCs w M (place qs o ys) (cells.toList.take o++v.cells.toList++cells.toList.drop (o+ys.length)).toArray:=by
 have hvl:v.cells.toList.length=ys.length:=by simpa using hy.1
 have hcl:cells.toList.length=qs.length:=by simpa using hq.1
 refine⟨by rw[ya _ _ _ hl];simp only[List.size_toArray,List.length_append,List.length_take,List.length_drop];omega,fun i q hi=>?_⟩
 rw[xZ _ _ _ _ hl] at hi
 have hs:=ll cells.toList v.cells.toList o i (by omega)
 rw[hvl] at hs
 simp only[List.getElem?_toArray]
 rw[hs]
 split at hi
 ·rename_i hh
  rw[if_pos hh]
  obtain⟨u,h1,h2⟩:=hy.2 _ q hi
  exact⟨u,by simpa using h1,h2⟩
 ·rename_i hh
  rw[if_neg hh]
  obtain⟨u,h1,h2⟩:=hq.2 _ q hi
  exact⟨u,by simpa using h1,h2⟩
theorem RelCs.ub (hu:Ub w M w' M') {qs:List Q} {us:Array Value} (h:RelCs w M qs us):RelCs w' M' qs us :=
 ⟨h.1,fun i q hq=>by obtain⟨u,a1,a2,a3⟩:=h.2 i q hq;exact⟨u,a1,a2,hu.q a3⟩⟩
theorem RelCs.up {Z:Nat->Prop} (hu:Up Z w M w' M') (hl:∀ g,M.S g->g < w.heap.size) {qs:List Q} {us:Array Value} (h:RelCs w M qs us):RelCs w' M' qs us :=
 ⟨h.1,fun i q hq=>by obtain⟨u,a1,a2,a3⟩:=h.2 i q hq;exact⟨u,a1,a2,hu.q hl a3⟩⟩
theorem ny (hl:∀ g,M.S g->g < w.heap.size) {g:Nat} {cs:Array Value} (hg:¬ M.S g):Up (fun k=>k=g) w M (w.setRow g cs) M :=
 ⟨rfl,rfl,fun _ h=>h,fun _ h=>.inl h,fun k hk=>by simpa using hl k hk,fun k hk e=>hg (e ▸ hk),⟨rfl,rfl,rfl,by simp,fun k _ hk=>setRow_other w g k cs hk⟩⟩
def pa (P:Program) (c:Call) (x y:XO) (sz bytes:Nat):Bool:=match c.callee,c.args.toList,c.argTypes.toList with
 | .builtin .append,[x',y'],[t,t']=>t == t' && okO x' x && okO y' y && (match P.underlying t with
    | some (.slice e)=>(match P.info? e with
      | some i=>i.size == sz && sz != 0 && i.bytes == bytes && bytes != 0 && (match i.zero with|some z=>z.cells.size == sz|none=>false)
      | none=>false)
    | _=>false)
 | _,_,_=>false
def yo (P:Program) (c:Call) (x:XO) (zs:List C):Bool:=match c.callee,c.args.toList,c.argTypes.toList with
 | .builtin .clear,[x'],[t]=>okO x' x && (match P.underlying t with
    | some (.slice e)=>(match P.info? e with
      | some i=>(match i.zero with|some z=>eE z.cells.toList (zs.map .c)|none=>false)
      | none=>false)
    | _=>false)
 | _,_,_=>false
def yp (P:Program) (c:Call) (x y:XO) (sz:Nat):Bool:=match c.callee,c.args.toList,c.argTypes.toList with
 | .builtin .copy,[x',y'],[t,_]=>okO x' x && okO y' y && (match P.underlying t with
    | some (.slice e)=>(match P.info? e with
      | some i=>i.size == sz && sz != 0
      | none=>false)
    | _=>false)
 | _,_,_=>false
def yq (P:Program) (c:Call) (x n:XO) (zs:List C) (bytes:Nat):Bool:=match c.callee,c.args.toList,c.argTypes.toList with
 | .builtin .append,[x',n'],[t,t']=>okO x' x && okO n' n && (match P.underlying t' with|some (.int _)=>true|_=>false) && (match P.underlying t with
    | some (.slice e)=>(match P.info? e with
      | some i=>i.size == zs.length && i.bytes == bytes && (match i.zero with|some z=>eE z.cells.toList (zs.map .c)|none=>false)
      | none=>false)
    | _=>false)
 | _,_,_=>false
def pb (P:Program) (o:Op) (k:XK):Bool:=match k with
 | .st x y ag=>(match o with|.store t x' y'=>okO x' x && okO y' y && cF P t ag|_=>false)
 | .box y _=>(match o with|.box _ x=>okO x y|_=>false)
 | .alloc zs=>(match o with
   | .alloc t=>(match P.info? t with
     | some i=>(match i.zero with|some z=>eE z.cells.toList zs|none=>false)
     | none=>false)
   | _=>false)
 | .app x y sz bytes _=>(match o with|.call c=>pa P c x y sz bytes|_=>false)
 | .mk x zs bytes=>(match o with
   | .makeSlice t l c=>okO l x && okO c x && (match P.underlying t with
     | some (.slice e)=>(match P.info? e with
       | some i=>i.size == zs.length && i.bytes == bytes && (match i.zero with|some z=>eE z.cells.toList (zs.map .c)|none=>false)
       | none=>false)
     | _=>false)
   | _=>false)
 | .clr x zs=>(match o with|.call c=>yo P c x zs|_=>false)
 | .apn x n zs bytes=>(match o with|.call c=>yq P c x n zs bytes|_=>false)
 | .cpy x y sz=>(match o with|.call c=>yp P c x y sz|_=>false)
 | .bslx sz ps'=>(match o with|.buildSlice t len ps=>lg P t len ps sz ps'|_=>false)
 | .stx x y ag=>(match o with|.store t x' y'=>okO x' x && okO y' y && cF P t ag|_=>false)
 | .appx x y sz bytes=>(match o with|.call c=>pa P c x y sz bytes|_=>false)
 | .ldx x=>(match o with|.load t x'=>okO x' x && cF P t none|_=>false)
 | .mkf f x=>(match o with|.makeFunc (.func g) fi ca=>(match fi.toList,ca.toList with|[],[y]=>g == f && okO y x|_,_=>false)|_=>false)
 | _=>false
theorem Ip (hs:Sim X n B w0 σ a w M) {o:Oper} {t:TypeId} {x y:Operand} {x' y':XO} {ag:Option Nat} (ho:o.op=.store t x y) (hd:o.dst=none) (hx:okO x x'=true) (hy:okO y y'=true) (hag:cF P t ag=true)
 {g g':Bool} {i off:Nat} {p:PV} (e1:σ.v x'=(g,.q (.box i off))) (e2:σ.v y'=(g',p)) {qs ys:List Q} (hq:get? i σ.bx=some qs) (hys:cellsOf p ag=some ys) (hg:g=true) (hg':g'=true) (hl:off+ys.length<=qs.length)
 {next:Act->World->Prop} {Q:Exit->Act->World->Prop} (hn:∀ w' M',Sim X n B w0 { σ with bx:=upd i (place qs off ys) σ.bx } a w' M'->next a w'):o.wp P a w next Q:=by
 have rx:=aC (o:=x) (x:=x') hs.tm hx (by rw[e1];exact hg);rw[e1] at rx
 have ry:=aC (o:=y) (x:=y') hs.tm hy (by rw[e2];exact hg');rw[e2] at ry
 obtain⟨hrel,hlen⟩:=jE ry hys
 have hin:=get?_mem hq
 obtain⟨hB,ty,cells,hh,hsz,hc⟩:=hs.mem.box i qs hin
 simp only[ak,af] at rx
 have hrun:=sv (w:=w) hag hh (v:=a.eval y) (o:=off) (by rw[hrel.1,hlen]) (by omega) hrel.all_one
 have hu:=ny (M:=M) hs.mem.lt (g:=M.β i) (cs:=(cells.toList.take off++(a.eval y).cells.toList++cells.toList.drop (off+ag.getD 1)).toArray) (hs.mem.sb i qs hin)
 unfold Oper.wp
 have hex:(execOp a.eval o).run P w=.ok .skip (w.setRow (M.β i) (cells.toList.take off++(a.eval y).cells.toList++cells.toList.drop (off+ag.getD 1)).toArray):=by
  unfold execOp;rw[ho];simp only[rx,Sem.run_bind,hrun];rfl
 rw[hex]
 show next (a.put o.dst undef) _
 rw[hd]
 refine hn _ M ⟨hs.size,hs.defs,fun t p h=>hu.v hs.mem.lt (hs.tm t p h),?_,hs.fr.trans (hu.fr.weak hs.hB (fun g hg e=>?_)),by simpa using hs.hB,hs.sS,hs.sβ,hs.sρ⟩
 ·refine hs.mem.setBox hin hu (setRow_heap _ _ _ _ _ _ hh) ?_
  rw[<-hlen] at hu ⊢
  exact (Io ⟨hsz,hc⟩ hrel hl).up hu hs.mem.lt
 ·subst e
  rcases hB with h|h
  ·omega
  ·exact h
end
end Go.Proofs.Pw
namespace Go.Proofs.Pw
open Go.RowKit
variable [Globs]
section
variable {P:Program} {Γ:FuncId->Option Spec} {σ:St} {a:Act} {w w':World} {M M':Gh} {X:Nat->Prop} {B n:Nat} {w0:W0}
theorem yr (qs ys:List C) (o i:Nat) (h:o+ys.length<=qs.length):(eY qs o ys)[i]?=if o<=i/\i < o+ys.length then ys[i-o]? else qs[i]?:=ll qs ys o i h
theorem yu (qs ys:List C) (o:Nat) (h:o+ys.length<=qs.length):(eY qs o ys).length=qs.length:=by unfold eY;simp;omega
theorem sw {sz i k j:Nat} (hj:j < sz) (hik:i≠k):∀ off len,off+len<=sz->¬ (k*sz+off<=i*sz+j/\i*sz+j < k*sz+off+len):=by
 intro off len hl
 rcases Nat.lt_or_gt_of_ne hik with h|h
 ·have:=Nat.mul_le_mul_right sz (show i+1<=k by omega)
  rw[Nat.add_mul] at this;omega
 ·have:=Nat.mul_le_mul_right sz (show k+1<=i by omega)
  rw[Nat.add_mul] at this;omega
theorem ea {sz n k j:Nat} (hk:k < n) (hj:j < sz):k*sz+j < n*sz:=by
 have:=Nat.mul_le_mul_right sz (show k+1<=n by omega)
 rw[Nat.add_mul] at this;omega
theorem FlatX.turn {S:Nat->Prop} {h:List (Nat × Nat)->Value} {D:Nat->Prop} {sz:Nat} {es es':List (List C)} {us us':List Value} (k:FlatX w S h D sz es us) (hl:es'.length=es.length) (hsz:∀ (i:Nat) e,es'[i]?=some e->e.length=sz)
 (hus:us'.length=us.length) (hc:∀ (i j:Nat) e c,es'[i]?=some e->e[j]?=some c->(∃ e0,es[i]?=some e0/\e0[j]?=some c/\us'[i*sz+j]?=us[i*sz+j]?)\/∃ u,us'[i*sz+j]?=some u/\Rep w S c u):FlatX w S h D sz es' us':=by
 obtain⟨h1,h2,ψ,h3,h4,h5⟩:=k
 refine⟨hsz,by rw[hus,h2,hl],ψ,h3,h4,fun i j e c he hj=>?_⟩
 rcases hc i j e c he hj with ⟨e0,k1,k2,k3⟩|⟨u,k1,k2⟩
 ·obtain⟨u,k4,k5⟩:=h5 i j e0 c k1 k2
  exact⟨u,by rw[k3];exact k4,k5⟩
 ·exact⟨u,k1,.pl k2⟩
theorem Iq (hs:Sim X n B w0 σ a w M) {o:Oper} {t:TypeId} {x y:Operand} {x' y':XO} {ag:Option Nat} (ho:o.op=.store t x y) (hd:o.dst=none) (hx:okO x x'=true) (hy:okO y y'=true) (hag:cF P t ag=true)
 {g g':Bool} {i sz k off:Nat} {p:PV} (e1:σ.v x'=(g,.q (.rp i sz k off))) (e2:σ.v y'=(g',p)) {es:List (List C)} {ys:List Q} {cs:List C} (hq:get? i σ.rw=some (sz,es)) (hys:cellsOf p ag=some ys) (hcs:cC ys=some cs)
 (hg:g=true) (hg':g'=true) (hk:k < es.length) (hl:off+cs.length<=sz)
 {next:Act->World->Prop} {Q:Exit->Act->World->Prop} (hn:∀ w' M',Sim X n B w0 { σ with rw:=upd i (sz,es.set k (eY (es.getD k []) off cs)) σ.rw } a w' M'->next a w'):o.wp P a w next Q:=by
 have rx:=aC (o:=x) (x:=x') hs.tm hx (by rw[e1];exact hg);rw[e1] at rx
 have ry:=aC (o:=y) (x:=y') hs.tm hy (by rw[e2];exact hg');rw[e2] at ry
 obtain⟨hrel,hlen⟩:=jE ry hys
 obtain⟨hc1,hc2⟩:=jF hrel hcs
 have hcl:ys.length=cs.length:=(yd hcs).1
 have hin:=get?_mem hq
 obtain⟨h0,hp,hmine⟩:=hs.mem.row i sz es hin
 obtain⟨gg,nn,cap,hρ,hv⟩:=rx
 obtain⟨e,us,hown,hf,hnD⟩:∃ e us,w.ownsRow 0 e sz (M.ρ i).v es.length us/\FlatX w M.S (M.ρ i).h (M.ρ i).D sz es us/\∀ g,ax (M.ρ i).v g->¬ (M.ρ i).D g:=by
  rcases hp.1 with h|⟨rfl,_⟩
  ·exact h
  ·simp at hk
 have hf1:=hf.1
 have hf2:=hf.2.1
 rw[hρ] at hown
 obtain⟨hul,hown⟩:=hown
 obtain⟨gg',cap',cur,hh,_,hheap,hnc,hcm,hcs',htake⟩:=hown.resolve_left (fun h=>by cases h.1)
 injection hh with h1 h2 h3
 injection h1 with h1
 injection h1 with h1
 subst h1 h2 h3
 have hel:es[k]?=some (es.getD k []):=by simp[List.getD,List.getElem?_eq_getElem hk]
 generalize es.getD k []=ek at *
 have hesz:=hf1 k _ hel
 have hfit:k*sz+off+cs.length<=es.length*sz:=by
  have:=Nat.mul_le_mul_right sz (show k+1<=es.length by omega)
  rw[Nat.add_mul] at this;omega
 have hnc':=Nat.mul_le_mul_right sz hnc
 have hgd:ag.getD 1=cs.length:=by omega
 have hrun:=sv (w:=w) hag hheap (v:=a.eval y) (o:=k*sz+off) (by rw[hrel.1,hlen]) (by omega) hrel.all_one
 have hob:ax (M.ρ i).v gg:=by
  rw[hρ]
  cases cap with
  | zero=>omega
  | succ c=>simp[ax]
 have hpb:ae (M.ρ i) gg:=.inl hob
 have hnS:¬ M.S gg:=hs.mem.sr i _ gg hin hpb
 have hu0:=ny (M:=M) hs.mem.lt (g:=gg) (cs:=(cur.toList.take (k*sz+off)++(a.eval y).cells.toList++cur.toList.drop (k*sz+off+ag.getD 1)).toArray) hnS
 generalize hw':w.setRow gg (cur.toList.take (k*sz+off)++(a.eval y).cells.toList++cur.toList.drop (k*sz+off+ag.getD 1)).toArray=w' at *
 have hheap':w'.heap[gg]?=some (.cells (cur.toList.take (k*sz+off)++(a.eval y).cells.toList++cur.toList.drop (k*sz+off+ag.getD 1)).toArray e (0,0)):=by
  rw[<-hw'];exact setRow_heap _ _ _ _ _ _ hheap
 have hu:Up (ae (M.ρ i)) w M w' M:=⟨hu0.β,hu0.ρ,hu0.S,hu0.new,hu0.lt,fun k hk hp=>hs.mem.sr i _ k hin hp hk,hu0.fr.weak (Nat.le_refl _) (fun k _ e=>by rw[e];exact hpb)⟩
 unfold Oper.wp
 have hex:(execOp a.eval o).run P w=.ok .skip w':=by
  unfold execOp;rw[ho];simp only[hv,Sem.run_bind,hrun];rfl
 rw[hex]
 show next (a.put o.dst undef) _
 rw[hd]
 refine hn _ M ⟨hs.size,hs.defs,fun t p h=>hu.v hs.mem.lt (hs.tm t p h),?_,hs.fr.trans (hu.fr.weak hs.hB (fun g hg e=>?_)),Nat.le_trans hs.hB hu.fr.size,hs.sS,hs.sβ,hs.sρ⟩
 ·refine hs.mem.setRow hin hu h0 ⟨.inl ⟨e,(cur.toList.take (k*sz+off)++(a.eval y).cells.toList++cur.toList.drop (k*sz+off+ag.getD 1)).take (es.length*sz),?_,?_,hnD⟩,fun g hg=>Nat.lt_of_lt_of_le (hp.2 g hg) hu.fr.size⟩
  ·rw[hρ,List.length_set]
   refine⟨?_,.inr ⟨gg,cap,_,rfl,Nat.zero_le _,hheap',hnc,hcm,?_,by simp⟩⟩
   ·have hvl:(a.eval y).cells.toList.length=cs.length:=by simpa using hc1
    simp only[List.length_take,List.length_append,List.length_drop,Array.length_toList];omega
   ·have hvl:(a.eval y).cells.toList.length=cs.length:=by simpa using hc1
    simp only[List.size_toArray,List.length_append,List.length_take,List.length_drop,Array.length_toList];omega
  ·have hvl:(a.eval y).cells.toList.length=cs.length:=by simpa using hc1
   have hcurl:cur.toList.length=cap*sz:=by simpa using hcs'
   have hseg:=fun q=>ll cur.toList (a.eval y).cells.toList (k*sz+off) q (by rw[hvl];omega)
   rw[hvl] at hseg
   rw[hgd]
   have hold:∀ q,q < es.length*sz->cur.toList[q]?=us[q]?:=fun q hq=>by
    rw[<-htake,List.getElem?_take,if_pos hq]
   have hsame:∀ g,g≠gg->w'.heap[g]?=w.heap[g]?:=fun g hg=>by rw[<-hw'];exact setRow_other _ _ _ _ hg
   refine FlatX.move (w:=w) (S:=M.S) (fun _ h=>h) (fun g hg=>hsame g (fun e=>hnS (e ▸ hg))) ?_ (fun g hg=>hsame g (fun e=>hnD _ hob (e ▸ hg)))
   refine hf.turn (by simp) (fun i' e' hi'=>?_) ?_ (fun i' j e' c hi' hj=>?_)
   ·rw[List.getElem?_set] at hi'
    split at hi'
    ·simp at hi';subst hi';rw[yu _ _ _ (by rw[hesz];exact hl)];exact hesz
    ·exact hf1 _ _ hi'
   ·simp only[List.length_take,List.length_append,List.length_drop];omega
   ·rw[List.getElem?_set] at hi'
    split at hi'
    ·rename_i heq;subst heq
     simp at hi';subst hi'
     rw[yr _ _ _ _ (by rw[hesz];exact hl)] at hj
     split at hj
     ·rename_i hh
      obtain⟨u,g1,g2⟩:=hc2 _ c hj
      refine .inr ⟨u,?_,g2⟩
      rw[List.getElem?_take,if_pos (by omega),hseg,if_pos (by omega)]
      rw[show k*sz+j-(k*sz+off)=j-off by omega]
      simpa using g1
     ·rename_i hh
      have hjsz:j < sz:=by have:=(List.getElem?_eq_some_iff.1 hj).1;omega
      refine .inl ⟨_,hel,hj,?_⟩
      have:=ea hk hjsz
      rw[List.getElem?_take,if_pos (by omega),hseg,if_neg (by omega),hold _ (by omega)]
    ·rename_i hne
     have hjsz:j < sz:=by have:=(List.getElem?_eq_some_iff.1 hj).1;rw[hf1 _ _ hi'] at this;exact this
     have hilt:i' < es.length:=(List.getElem?_eq_some_iff.1 hi').1
     refine .inl ⟨_,hi',hj,?_⟩
     have:=ea hilt hjsz
     rw[List.getElem?_take,if_pos (by omega),hseg,if_neg (sw hjsz (fun e=>hne e.symm) off cs.length hl),hold _ (by omega)]
 ·rcases hmine g e with h|h
  ·omega
  ·exact h
end
end Go.Proofs.Pw
namespace Go.Proofs.Pw
open Go.RowKit
variable [Globs]
section
variable {P:Program} {Γ:FuncId->Option Spec} {σ:St} {a:Act} {w w':World} {M M':Gh} {X:Nat->Prop} {B n:Nat} {w0:W0}
theorem Sim.mapPut (hs:Sim X n B w0 σ a w M) {d:Nat} (hd:d < n) {f:Q->Q} (hf:∀ q v,af w M q v->af w' M' (f q) v) {bx':List (Nat × List Q)} {rw':List (Nat × Nat × List (List C))}
 (hm:Mem X B bx' rw' w' M') (hfr:Fr X B w w') {p:PV} {v:Value} (hv:ak w' M' p v) (hS:M'.S=M.S) (hβ:∀ i,n<=i->M'.β i=M.β i) (hρ:∀ i,n<=i->aS<=i->(M'.ρ i).v=(M.ρ i).v):Sim X n B w0 ⟨upd d p (σ.map f).tm,bx',rw'⟩ (a.put (some d) v) w' M':=by
 refine⟨by simpa [Act.put] using hs.size,hs.defs,fun t p' h=>?_,hm,hs.fr.trans hfr,Nat.le_trans hs.hB hfr.size,fun g hg=>hs.sS g (hS ▸ hg),fun i hi=>(hβ i hi).trans (hs.sβ i hi),fun i hi hb=>(hρ i hi hb).trans (hs.sρ i hi hb)⟩
 have hdn:d < a.tmps.size:=by rw[hs.size];exact hd
 rcases aE h with ⟨rfl,rfl⟩|⟨hne,h⟩
 ·simpa [Act.put,Array.getD,hdn] using hv
 ·simp only[St.map,List.mem_map,Prod.mk.injEq] at h
  obtain⟨⟨t',p0⟩,h1,rfl,rfl⟩:=h
  have he:(a.put (some d) v).tmps.getD t' undef=a.tmps.getD t' undef:=by
   simp only[Act.put,Array.getD_eq_getD_getElem?,Array.getElem?_setIfInBounds]
   rw[if_neg (fun e=>hne e.symm)]
  show ak w' M' _ ((a.put (some d) v).tmps.getD t' undef)
  rw[he];exact cX hf (hs.tm _ _ h1)
theorem yv (hs:Sim X n B w0 σ a w M) {o:Oper} {d:Nat} (hd:o.dst=some d) (hdn:d < n) {cells:Array Value} {t:TypeId} {qs:List Q} (hr:RelCs w M qs cells)
 (hrun:(execOp a.eval o).run P w=.ok (.value (.pointer (some ⟨w.heap.size,0,none⟩))) (w.alloc (.cells cells t)))
 {next:Act->World->Prop} {E:Exit->Act->World->Prop}
 (hn:∀ a' w' M',Sim X n B w0 { tm:=upd d (.q (.box d 0)) (σ.map (Q.killB d)).tm,bx:=upd d (qs.map (Q.killB d)) (σ.map (Q.killB d)).bx,rw:=σ.rw } a' w' M'->next a' w'):o.wp P a w next E:=by
 refine cG hrun (hn _ _ (M.nb d w.heap.size) ?_)
 obtain⟨h1,h2⟩:=hs.mem.newBox hs.hB d (t:=t) hr
 rw[hd]
 refine hs.mapPut hdn (oZ h2 hs.mem.lt) h1 (h2.fr.weak hs.hB (fun _ _ h=>h.elim)) ?_ rfl (fun i hi=>by simp only[Gh.nb];rw[if_neg (by omega)]) (fun _ _ _=>rfl)
 simp only[ak,af,Gh.nb,if_true]
theorem Ir {i:Nat} {cs:List C} (hr:∀ (o:Nat),af w { M with S:=fun g=>M.S g\/g=M.β i } (.el (cs.drop o)) (.pointer (some ⟨M.β i,o,none⟩))) (q:Q) (v:Value) (h:af w M q v):af w { M with S:=fun g=>M.S g\/g=M.β i } (q.pubB i cs) v:=by
 have mono:∀ {c v},Rep w M.S c v->Rep w (fun g=>M.S g\/g=M.β i) c v:=fun h=>h.mono (fun _ h=>.inl h) (fun _ _=>rfl)
 cases q with
 | no=>trivial
 | c x=>exact mono h
 | z _=>exact h
 | full sz es=>exact⟨mono h.1,h.2⟩
 | own j=>exact h
 | box j o =>
   simp only[Q.pubB]
   split
   ·rename_i he;subst he
    have:v=.pointer (some ⟨M.β j,o,none⟩):=h
    subst this;exact hr o
   ·exact h
 | el xs =>
   obtain⟨A,h1,h2⟩:=h
   exact⟨A,h1,fun j c hc=>by obtain⟨u,g1,g2,g3⟩:=h2 j c hc;exact⟨u,g1,.inl g2,mono g3⟩⟩
 | rp j sz k o=>exact h
 | nt _=>exact h
 | vw _ _ _ _=>exact h
 | vc _ _ _ _ _=>exact h
 | nr _ _=>exact h
 | np _ _ _ _ _=>exact h
theorem Is (hs:Sim X n B w0 σ a w M) {o:Oper} {d i:Nat} (hd:o.dst=some d) (hdn:d < n) {f:FuncId} {y:Operand} {qs:List Q} {cs:List C} (hq:get? i σ.bx=some qs) (hcs:cC qs=some cs)
 (hy:a.eval y=.pointer (some ⟨M.β i,0,none⟩)) (ho:o.op=.makeFunc (.func f) #[] #[y])
 {next:Act->World->Prop} {E:Exit->Act->World->Prop}
 (hn:∀ a' w' M',Sim X n B w0 { tm:=upd d (.q (.c (.clo f [.ptr cs]))) (σ.map (Q.pubB i cs)).tm,bx:=del i (σ.map (Q.pubB i cs)).bx,rw:=σ.rw } a' w' M'->next a' w'):o.wp P a w next E:=by
 have hin:=get?_mem hq
 obtain⟨hB,t,cells,h1,h2,h3⟩:=hs.mem.box i qs hin
 obtain⟨h4,h5⟩:=jF ⟨h2,h3⟩ hcs
 have hlt:M.β i < w.heap.size:=(Array.getElem?_eq_some_iff.1 h1).1
 have mono:∀ {c v},Rep w M.S c v->Rep w (fun g=>M.S g\/g=M.β i) c v:=fun h=>h.mono (fun _ h=>.inl h) (fun _ _=>rfl)
 have hr:∀ (o:Nat),af w { M with S:=fun g=>M.S g\/g=M.β i } (.el (cs.drop o)) (.pointer (some ⟨M.β i,o,none⟩)):=fun o=>by
  refine⟨_,rfl,fun j c hj=>?_⟩
  rw[List.getElem?_drop] at hj
  obtain⟨u,g1,g2⟩:=h5 _ c hj
  refine⟨u,?_,.inr rfl,mono g2⟩
  rw[Addr.add_lit]
  simp[World.cell?,h1,g1]
 have hq':=Ir (M:=M) (w:=w) hr
 have hbx:∀ {i' q1},(i',q1) ∈ del i (σ.map (Q.pubB i cs)).bx->i'≠i/\∃ q,(i',q) ∈ σ.bx/\q1=q.map (Q.pubB i cs):=fun {i' q1} h'=>by
  obtain⟨hne,h'⟩:=bh h'
  simp only[St.map,List.mem_map,Prod.mk.injEq] at h'
  obtain⟨⟨j,q⟩,hj,rfl,rfl⟩:=h'
  exact⟨hne,q,hj,rfl⟩
 have hmem:Mem X B (del i (σ.map (Q.pubB i cs)).bx) σ.rw w { M with S:=fun g=>M.S g\/g=M.β i }:=by
  refine⟨fun i' q1 h'=>?_,fun i' sz' es' h'=>?_,fun i' q1 j q2 h1 h2 hne=>?_,fun i' q1 j r h1 h2 hg=>?_,hs.mem.rr,fun g h=>?_,fun i' q1 h1 h=>?_,fun i' r g h1 hg h=>?_,?_⟩
  ·obtain⟨hne,q,hj,rfl⟩:=hbx h'
   obtain⟨hB',t',cells',h1,h2,h3⟩:=hs.mem.box i' q hj
   exact⟨hB',t',cells',h1,eF hq' ⟨h2,h3⟩⟩
  ·obtain⟨h1,h2,h3⟩:=hs.mem.row i' sz' es' h'
   exact⟨h1,h2.move (fun _ h=>.inl h) (fun _ _=>rfl) (fun _ _=>rfl),h3⟩
  ·obtain⟨_,q,hj,_⟩:=hbx h1;obtain⟨_,q',hj',_⟩:=hbx h2
   exact hs.mem.bb _ _ _ _ hj hj' hne
  ·obtain⟨_,q,hj,_⟩:=hbx h1
   exact hs.mem.br _ _ _ _ hj h2 hg
  ·rcases h with h|rfl
   ·exact hs.mem.lt g h
   ·exact hlt
  ·obtain⟨hne,q,hj,_⟩:=hbx h1
   rcases h with h|h
   ·exact hs.mem.sb _ _ hj h
   ·exact hs.mem.bb _ _ _ _ hj hin hne h
  ·rcases h with h|rfl
   ·exact hs.mem.sr _ _ g h1 hg h
   ·exact hs.mem.br _ _ _ _ hin h1 hg
  ·exact hs.mem.gl.map (fun _ h=>.inl h) (fun _ _=>rfl)
 have hrun:(execOp a.eval o).run P w=.ok (.value (.func (.func f) #[] #[a.eval y])) w:=by
  simp[execOp,ho,Instr.makeFunc]
 refine cG hrun (hn _ _ { M with S:=fun g=>M.S g\/g=M.β i } ?_)
 rw[hd]
 refine⟨by simpa [Act.put] using hs.size,hs.defs,fun t p' h=>?_,hmem,hs.fr,hs.hB,fun g hg=>?_,hs.sβ,hs.sρ⟩
 ·have hdn':d < a.tmps.size:=by rw[hs.size];exact hdn
  rcases aE h with ⟨rfl,rfl⟩|⟨hne,h⟩
  ·have:(a.put (some t) (.func (.func f) #[] #[a.eval y])).tmps.getD t undef=.func (.func f) #[] #[a.eval y]:=by simp[Act.put,Array.getD,hdn']
   rw[this]
   have hp:=yb (hr 0)
   rw[List.drop_zero,<-hy] at hp
   exact Rep.clo f [.ptr cs] [a.eval y] (fun _=>a.eval y) rfl (fun j c hj=>by cases j <;> simp_all) (fun j c hj=>by
    cases j with
    | zero=>simp at hj;subst hj;exact hp
    | succ j=>simp at hj)
  ·simp only[St.map,List.mem_map,Prod.mk.injEq] at h
   obtain⟨⟨t',p0⟩,h1,rfl,rfl⟩:=h
   have he:(a.put (some d) (.func (.func f) #[] #[a.eval y])).tmps.getD t' undef=a.tmps.getD t' undef:=by
    simp only[Act.put,Array.getD_eq_getD_getElem?,Array.getElem?_setIfInBounds]
    rw[if_neg (fun e=>hne e.symm)]
   show ak w _ _ ((a.put (some d) _).tmps.getD t' undef)
   rw[he];exact cX hq' (hs.tm _ _ h1)
 ·rcases hg with h|rfl
  ·exact hs.sS g h
  ·exact .inr hB
theorem sy (hl:∀ g,M.S g->g < w.heap.size) (cc:Array Value) (tt:TypeId):Up (fun _=>False) w M (w.alloc (.cells cc tt)) M :=
 ⟨rfl,rfl,fun _ h=>h,fun _ h=>.inl h,fun g hg=>by simp;have:=hl g hg;omega,fun _ _ h=>h,⟨rfl,rfl,rfl,by simp,fun k hk _=>Below.heap_alloc _ _ _ hk⟩⟩
theorem sC {sz:Nat} {es:List (List C)} {v:Value} (h:Rep w M.S (.row sz es) v):∃ A c,v=.slice A es.length c/\es.length<=c/\(es=[]\/∃ ad us,A=some ad/\Flat w M.S sz es us/\(∀ j u,us[j]?=some u->w.cell? (ad.add j)=some u)/\∀ u ∈ us,u.oneCell'=true):=by
 cases h with
 | nil _ A c=>exact⟨A,c,rfl,Nat.zero_le _,.inl rfl⟩
 | row _ _ ad c u hcap hS hsz hc hr =>
   refine⟨some ad,c,rfl,hcap,.inr ⟨ad,(List.range (es.length*sz)).map u,rfl,⟨hsz,by simp,fun i j e c he hj=>?_⟩,fun j uu hj=>?_,fun uu hu=>?_⟩⟩
   ·have hlt:j < sz:=by have:=(List.getElem?_eq_some_iff.1 hj).1;rw[hsz i e he] at this;exact this
    have hilt:i < es.length:=(List.getElem?_eq_some_iff.1 he).1
    have:=ea hilt hlt
    exact⟨u (i*sz+j),by simp[this],hr i j e c he hj⟩
   ·simp only[List.getElem?_map,Option.map_eq_some_iff] at hj
    obtain⟨j',hj',rfl⟩:=hj
    have hlt:j < es.length*sz:=by have:=(List.getElem?_eq_some_iff.1 hj').1;simpa using this
    simp[hlt] at hj';subst hj'
    have h0 : 0 < sz := by rcases Nat.eq_zero_or_pos sz with h | h; · subst h; simp at hlt
                           ·exact h
    have hi:j / sz < es.length:=Nat.div_lt_of_lt_mul (by rw[Nat.mul_comm];exact hlt)
    have he:=List.getElem?_eq_getElem hi
    have hm:j % sz < (es[j / sz]).length:=by rw[hsz _ _ he];exact Nat.mod_lt _ h0
    have:=hc (j / sz) (j % sz) _ _ he (List.getElem?_eq_getElem hm)
    rwa [show j / sz*sz+j % sz=j by rw[Nat.mul_comm];exact Nat.div_add_mod j sz] at this
   ·simp only[List.mem_map,List.mem_range] at hu
    obtain⟨j,hlt,rfl⟩:=hu
    have h0 : 0 < sz := by rcases Nat.eq_zero_or_pos sz with h | h; · subst h; simp at hlt
                           ·exact h
    have hi:j / sz < es.length:=Nat.div_lt_of_lt_mul (by rw[Nat.mul_comm];exact hlt)
    have he:=List.getElem?_eq_getElem hi
    have hm:j % sz < (es[j / sz]).length:=by rw[hsz _ _ he];exact Nat.mod_lt _ h0
    have:=(hr (j / sz) (j % sz) _ _ he (List.getElem?_eq_getElem hm)).one
    rwa [show j / sz*sz+j % sz=j by rw[Nat.mul_comm];exact Nat.div_add_mod j sz] at this
def RowC (w:World) (S:Nat->Prop) (sz:Nat) (ys:List (List C)) (v:Value):Prop :=
 ∃ A c,v=.slice A ys.length c/\ys.length<=c/\(ys=[]\/∃ ad us,A=some ad/\Flat w S sz ys us/\(∀ j u,us[j]?=some u->w.cell? (ad.add j)=some u)/\∀ u ∈ us,u.oneCell'=true)
theorem Flat.one {S:Nat->Prop} {sz:Nat} {es:List (List C)} {us:List Value} (h:Flat w S sz es us):∀ u ∈ us,u.oneCell'=true:=by
 intro u hu
 obtain⟨j,hj⟩:=List.getElem?_of_mem hu
 have hlt:j < es.length*sz:=by rw[<-h.2.1];exact (List.getElem?_eq_some_iff.1 hj).1
 have h0 : 0 < sz := by rcases Nat.eq_zero_or_pos sz with h | h; · subst h; simp at hlt
                        ·exact h
 have hi:j / sz < es.length:=Nat.div_lt_of_lt_mul (by rw[Nat.mul_comm];exact hlt)
 have he:=List.getElem?_eq_getElem hi
 have hm:j % sz < (es[j / sz]).length:=by rw[h.1 _ _ he];exact Nat.mod_lt _ h0
 obtain⟨u',h1,h2⟩:=h.2.2 _ _ _ _ he (List.getElem?_eq_getElem hm)
 rw[show j / sz*sz+j % sz=j by rw[Nat.mul_comm];exact Nat.div_add_mod j sz,hj] at h1
 cases h1;exact h2.one
theorem Flat.part {S:Nat->Prop} {sz lo n:Nat} {es:List (List C)} {us:List Value} (h:Flat w S sz es us) (hl:lo+n<=es.length):Flat w S sz ((es.take (lo+n)).drop lo) ((us.drop (lo*sz)).take (n*sz)):=by
 have hget:∀ (i:Nat) e,((es.take (lo+n)).drop lo)[i]?=some e->es[lo+i]?=some e/\i < n:=fun i e hi=>by
  rw[List.getElem?_drop,List.getElem?_take] at hi
  split at hi
  ·exact⟨hi,by omega⟩
  ·cases hi
 have hm:=Nat.mul_le_mul_right sz hl
 rw[Nat.add_mul] at hm
 have hul:=h.2.1
 refine⟨fun i e hi=>h.1 _ e (hget i e hi).1,?_,fun i j e c hi hj=>?_⟩
 ·simp only[List.length_take,List.length_drop,hul]
  rw[show min (lo+n) es.length-lo=n by omega];omega
 ·obtain⟨h1,h2⟩:=hget i e hi
  obtain⟨u,h3,h4⟩:=h.2.2 _ j e c h1 hj
  have hjl:j < sz:=by have:=(List.getElem?_eq_some_iff.1 hj).1;rw[h.1 _ e h1] at this;exact this
  have:=ea h2 hjl
  refine⟨u,?_,h4⟩
  rw[List.getElem?_take,if_pos (by omega),List.getElem?_drop,show lo*sz+(i*sz+j)=(lo+i)*sz+j by rw[Nat.add_mul];omega]
  exact h3
theorem RowC.part {S:Nat->Prop} {sz lo n:Nat} {es:List (List C)} {A A':Option Addr} {N c:Nat} (h:RowC w S sz es (.slice A N c)) (hl:lo+n<=es.length) (hA:lo < c->A'=A.map fun a=>a.add (lo*sz)) :
 RowC w S sz ((es.take (lo+n)).drop lo) (.slice A' n (c-lo)):=by
 obtain⟨A0,c0,h1,h2,h3⟩:=h
 cases h1
 have hlen:((es.take (lo+n)).drop lo).length=n:=by simp;omega
 refine⟨A',c-lo,by rw[hlen],by omega,?_⟩
 rcases Nat.eq_zero_or_pos n with hn|hn
 ·exact .inl (List.eq_nil_of_length_eq_zero (by omega))
 ·rcases h3 with h3|⟨ad,us,rfl,h4,h5,h6⟩
  ·subst h3;simp at hl;omega
  ·refine .inr ⟨ad.add (lo*sz),_,hA (by omega),h4.part hl,fun j u hj=>?_,(h4.part hl).one⟩
   rw[List.getElem?_take] at hj
   split at hj
   ·rw[List.getElem?_drop] at hj
    rw[kZ];exact h5 _ u hj
   ·cases hj
theorem nz {S:Nat->Prop} {sz:Nat} {es:List (List C)} {v:Value} (h:PrivV w S sz es v):RowC w S sz es v:=by
 rcases h with ⟨e,us,h1,h2⟩|⟨rfl,A,rfl⟩
 ·rcases h1.2 with ⟨rfl,h3⟩|⟨g,cap,cur,rfl,_,_,h3,_⟩
  ·have:=List.eq_nil_of_length_eq_zero h3
   subst this
   exact⟨none,0,rfl,Nat.le_refl _,.inl rfl⟩
  ·exact⟨_,_,rfl,h3,.inr ⟨_,us,rfl,h2,h1.cells rfl,h2.one⟩⟩
 ·exact⟨A,0,rfl,Nat.le_refl _,.inl rfl⟩
theorem lm (mem:Mem X B σ.bx σ.rw w M) {p:PV} {v:Value} {sz:Nat} {es:List (List C)} (h:ak w M p v) (hr:p.rowB σ=some (sz,es)):RowC w M.S sz es v:=by
 unfold PV.rowB at hr
 split at hr
 ·rename_i r
  split at hr
  ·rename_i sz1 es1 hq
   split at hr
   ·rename_i hpl
    simp only[Option.some.injEq,Prod.mk.injEq] at hr
    obtain⟨rfl,rfl⟩:=hr
    obtain⟨_,hp,_⟩:=mem.row r _ _ (get?_mem hq)
    rw[h.1];exact nz (hp.pl hpl)
   ·cases hr
  ·cases hr
 ·rename_i r sz0 lo n
  split at hr
  ·rename_i sz1 es1 hq
   split at hr
   ·rename_i hl
    obtain⟨hl,rfl,hpl⟩:=hl
    simp only[Option.some.injEq,Prod.mk.injEq] at hr
    obtain⟨rfl,rfl⟩:=hr
    obtain⟨_,hp,_⟩:=mem.row r _ es1 (get?_mem hq)
    obtain⟨A,m,c,A',hρ,hc,rfl,hA⟩:=h
    have hp:=hp.pl hpl
    rw[hρ] at hp
    exact (nz hp).part hl hA
   ·cases hr
  ·cases hr
 ·exact sC (iA h hr)
theorem Flat.append {S:Nat->Prop} {sz:Nat} {es ys:List (List C)} {us vs:List Value} (h:Flat w S sz es us) (k:Flat w S sz ys vs):Flat w S sz (es++ys) (us++vs):=by
 refine⟨fun i e hi=>?_,by rw[List.length_append,List.length_append,h.2.1,k.2.1,Nat.add_mul],fun i j e c hi hj=>?_⟩
 ·by_cases hlt:i < es.length
  ·rw[List.getElem?_append_left hlt] at hi;exact h.1 i e hi
  ·rw[List.getElem?_append_right (by omega)] at hi;exact k.1 _ e hi
 ·by_cases hlt:i < es.length
  ·rw[List.getElem?_append_left hlt] at hi
   obtain⟨u,h1,h2⟩:=h.2.2 i j e c hi hj
   exact⟨u,by rw[List.getElem?_append_left (List.getElem?_eq_some_iff.1 h1).1];exact h1,h2⟩
  ·rw[List.getElem?_append_right (by omega)] at hi
   obtain⟨u,h1,h2⟩:=k.2.2 _ j e c hi hj
   refine⟨u,?_,h2⟩
   have e1:i*sz=es.length*sz+(i-es.length)*sz:=by rw[<-Nat.add_mul];congr 1;omega
   rw[List.getElem?_append_right (by rw[h.2.1];omega),h.2.1,show i*sz+j-es.length*sz=(i-es.length)*sz+j by omega]
   exact h1
theorem FlatX.append {S:Nat->Prop} {h:List (Nat × Nat)->Value} {D:Nat->Prop} {sz:Nat} {es ys:List (List C)} {us vs:List Value} (k:FlatX w S h D sz es us) (k':Flat w S sz ys vs):FlatX w S h D sz (es++ys) (us++vs):=by
 obtain⟨h1,h2,ψ,h3,h4,h5⟩:=k
 refine⟨fun i e hi=>?_,by rw[List.length_append,List.length_append,h2,k'.2.1,Nat.add_mul],ψ,h3,h4,fun i j e c hi hj=>?_⟩
 ·by_cases hlt:i < es.length
  ·rw[List.getElem?_append_left hlt] at hi;exact h1 i e hi
  ·rw[List.getElem?_append_right (by omega)] at hi;exact k'.1 _ e hi
 ·by_cases hlt:i < es.length
  ·rw[List.getElem?_append_left hlt] at hi
   obtain⟨u,g1,g2⟩:=h5 i j e c hi hj
   exact⟨u,by rw[List.getElem?_append_left (List.getElem?_eq_some_iff.1 g1).1];exact g1,g2⟩
  ·rw[List.getElem?_append_right (by omega)] at hi
   obtain⟨u,g1,g2⟩:=k'.2.2 _ j e c hi hj
   refine⟨u,?_,.pl g2⟩
   have e1:i*sz=es.length*sz+(i-es.length)*sz:=by rw[<-Nat.add_mul];congr 1;omega
   rw[List.getElem?_append_right (by rw[h2];omega),h2,show i*sz+j-es.length*sz=(i-es.length)*sz+j by omega]
   exact g1
theorem FlatX.take {S:Nat->Prop} {h:List (Nat × Nat)->Value} {D:Nat->Prop} {sz n:Nat} {es:List (List C)} {us:List Value} (k:FlatX w S h D sz es us) (hn:n<=es.length):FlatX w S h D sz (es.take n) (us.take (n*sz)):=by
 obtain⟨h1,h2,ψ,h3,h4,h5⟩:=k
 have hsz:∀ (i:Nat) e,(es.take n)[i]?=some e->i < n/\es[i]?=some e:=fun i e he=>by
  rw[List.getElem?_take] at he
  split at he
  ·rename_i hi;exact⟨hi,he⟩
  ·cases he
 refine⟨fun i e he=>h1 i e (hsz i e he).2,?_,ψ,h3,h4,fun i j e c he hj=>?_⟩
 ·have:=Nat.mul_le_mul_right sz hn
  rw[List.length_take,List.length_take,h2,Nat.min_eq_left hn];omega
 ·obtain⟨hi,he⟩:=hsz i e he
  obtain⟨u,g1,g2⟩:=h5 i j e c he hj
  have hjs:j < sz:=by have:=(List.getElem?_eq_some_iff.1 hj).1;rw[h1 i e he] at this;exact this
  exact⟨u,by rw[List.getElem?_take,if_pos (ea hi hjs)];exact g1,g2⟩
def RV.hd (r:RV) (v:Value):RV:=⟨fun π=>if π=[] then v else r.h π,r.D⟩
@[simp] theorem RV.hd_v (r:RV) (v:Value):(r.hd v).v=v:=by simp[RV.hd,RV.v]
@[simp] theorem RV.hd_D (r:RV) (v:Value):(r.hd v).D=r.D:=rfl
theorem FlatX.hd {S:Nat->Prop} {r:RV} {v:Value} {sz:Nat} {es:List (List C)} {us:List Value} (k:FlatX w S r.h r.D sz es us):FlatX w S (r.hd v).h (r.hd v).D sz es us:=by
 have e:∀ i j,(fun π=>(r.hd v).h ((i,j)::π))=fun π=>r.h ((i,j)::π):=fun i j=>by funext π;simp[RV.hd]
 obtain⟨h1,h2,ψ,h3,h4,h5⟩:=k
 exact⟨h1,h2,ψ,h3,h4,fun i j e' c he hj=>by rw[e];exact h5 i j e' c he hj⟩
theorem nA {r:RV} {v:Value} {g:Nat}:ae (r.hd v) g ↔ ax v g\/r.D g:=by simp[ae]
theorem Flat.nil {S:Nat->Prop} {sz:Nat}:Flat w S sz [] []:=⟨by simp,by simp,by simp⟩
theorem pc {S:Nat->Prop} {sz:Nat} {es ys:List (List C)} {olds news:List Value} {r:RV} (h:FlatX w S r.h r.D sz es olds) (k:Flat w S sz ys news) (hl:∀ g,S g->g < w.heap.size) (hD:∀ g,r.D g->g < w.heap.size) {z:Value} (hz:z.cells.size=sz) {e:TypeId} {cap:Nat}
 (h1:es.length+ys.length<=cap) (h2:cap<=maxLen) :
 Priv (w.drew.alloc (.cells (olds.toArray++news.toArray++Builtin.zeroCells z.cells (cap-(es.length+ys.length))) e)) S sz (es++ys) (r.hd (.slice (some ⟨w.heap.size,0,none⟩) (es.length+ys.length) cap)):=by
 have hm:∀ g,g < w.heap.size->(w.drew.alloc (.cells (olds.toArray++news.toArray++Builtin.zeroCells z.cells (cap-(es.length+ys.length))) e)).heap[g]?=w.heap[g]?:=fun g hg=>Below.heap_alloc w.drew _ g (by simpa using hg)
 refine⟨.inl ⟨e,olds++news,⟨by rw[List.length_append,List.length_append,h.2.1,k.2.1,Nat.add_mul],.inr ⟨w.heap.size,cap,_,by rw[List.length_append,RV.hd_v],Nat.zero_le _,heap_alloc_new w.drew _,by rw[List.length_append];exact h1,h2,?_,?_⟩⟩,(h.append k).hd.move (fun _ h=>h) (fun g hg=>hm g (hl g hg)) (fun g hg=>hm g (hD g hg)),fun g hg hD'=>?_⟩,fun g hg=>oO (hD g hg) (hm g (hD g hg))⟩
 ·simp only[Array.size_append,List.size_toArray,size_zeroCells,h.2.1,k.2.1,hz]
  rw[<-Nat.add_mul,<-Nat.add_mul];congr 1;omega
 ·simp only[Array.toList_append,List.length_append]
  rw[List.take_append_of_le_length (by simp[h.2.1,k.2.1,Nat.add_mul])]
  exact List.take_of_length_le (by simp[h.2.1,k.2.1,Nat.add_mul])
 ·have:=hD g hD'
  rw[RV.hd_v] at hg
  cases cap <;> simp[ax] at hg;omega
theorem RV.of_hd (v:Value):(RV.of v).hd v=RV.of v:=by simp[RV.of,RV.hd]
theorem pd {t ty e:TypeId} {ti:TypeInfo} (ht:P.underlying t=some (.slice e)) (hi:P.info? e=some ti) {A A':Option Addr} {m c c':Nat} (hm:m<=c) :
 (Builtin.append_ #[t,t] ty #[.slice A m c,.slice A' 0 c']).run P w=.ok (.slice A m c) w:=by
 cases A <;> cases A' <;> simp[Builtin.append_,run_underlying ht,sizeOf,typeInfo,hi,Builtin.lenOf,Builtin.firstCells,hm,storeCells,loadCells,loadCellsFrom]
theorem sD {t ty e:TypeId} {ti:TypeInfo} {z:Value} {sz bytes:Nat} (ht:P.underlying t=some (.slice e)) (hi:P.info? e=some ti) (hsz:ti.size=sz) (hby:ti.bytes=bytes) (hz:ti.zero=some z) (hzs:z.cells.size=sz)
 (hl:∀ g,M.S g->g < w.heap.size) {A:Option Addr} {vy:Value} {es ys:List (List C)} (hy:RowC w M.S sz ys vy) (hb:(es.length+ys.length)*bytes<=140737488355328) (hmx:es.length+ys.length<=9223372036854775807)
 (ho:es=[]\/Rep w M.S (.row sz es) (.slice A es.length es.length)) (hne:es=[]\/0 < ys.length) :
 ∃ v' w',(Builtin.append_ #[t,t] ty #[.slice A es.length es.length,vy]).run P w=.ok v' w'/\Priv w' M.S sz (es++ys) (RV.of v')/\Fr (fun _=>False) w.heap.size w w'/\(∀ g,ax v' g->w.heap.size<=g):=by
 obtain⟨A',c',rfl,hcy,hy⟩:=hy
 by_cases hys:ys=[]
 ·subst hys
  have hes : es = [] := by rcases hne with h | h; · exact h
                           ·simp at h
  subst hes
  exact⟨_,w,pd ht hi (Nat.le_refl _),⟨.inr ⟨rfl,A,rfl⟩,fun _ h=>h.elim⟩,Fr.refl _ _ _,fun g hg=>by cases A <;> simp[ax] at hg⟩
 ·obtain⟨ad,us,rfl,hf,hcell,_⟩:=hy.resolve_left hys
  have hpos:0 < ys.length:=by cases ys with
   | nil=>exact absurd rfl hys
   | cons _ _=>simp
  have hgc:=grownCap_ge w (es.length+ys.length) es.length e
  have hgm:=grownCap_le_maxLen w (es.length+ys.length) es.length e (by simp only[maxLen];omega)
  have hfr:∀ cc tt,Fr (fun _=>False) w.heap.size w (w.drew.alloc (.cells cc tt)):=fun cc tt=>⟨rfl,rfl,rfl,by simp,fun k hk _=>Below.heap_alloc w.drew _ k (by simpa using hk)⟩
  have hpb:∀ n c g,ax (.slice (some ⟨w.heap.size,0,none⟩) n c) g->w.heap.size<=g:=fun n c g hg=>by
   cases c <;> simp[ax] at hg;omega
  have h63:((es.length+ys.length:Nat):Int)<=9223372036854775807:=by omega
  have hfit:=growslice_fits (need:=es.length+ys.length) (old:=es.length) (bytes:=ti.bytes) (by omega) (by rw[hby];exact hb)
  by_cases hA:A=none/\es=[]
  ·obtain⟨rfl,rfl⟩:=hA
   simp only[List.length_nil,Nat.zero_add] at *
   have hr:=run_append_nil (P:=P) w t ty e ti z ht hi hz ad ys.length c' us (by rw[hf.2.1,hsz]) hcell hpos h63 (by rw[hby];omega)
   have hg:=pc (w:=w) (S:=M.S) (e:=e) (r:=RV.of (.slice (some ⟨w.heap.size,0,none⟩) ys.length (grownCap w ys.length 0 e))) (Flat.nil (w:=w) (S:=M.S) (sz:=sz)).x hf hl (fun _ h=>h.elim) hzs (cap:=grownCap w ys.length 0 e) (by simpa using hgc) hgm
   simp only[List.nil_append,List.length_nil,Nat.zero_add,RV.of_hd] at hg
   refine⟨_,_,hr,?_,hfr _ _,hpb _ _⟩
   simpa using hg
  ·obtain⟨b,olds,rfl,hfo,hco⟩:∃ b olds,A=some b/\Flat w M.S sz es olds/\∀ j u,olds[j]?=some u->w.cell? (b.add j)=some u:=by
    rcases ho with he|ho
    ·subst he
     cases A with
     | none=>exact absurd ⟨rfl,rfl⟩ hA
     | some b=>exact⟨b,[],rfl,Flat.nil,by simp⟩
    ·obtain⟨A2,c2,he,_,h2⟩:=sC ho
     injection he with e1 _ e3
     rcases h2 with h2|⟨b,olds,h3,h4,h5,_⟩
     ·subst h2
      cases A with
      | none=>exact absurd ⟨rfl,rfl⟩ hA
      | some b=>exact⟨b,[],rfl,Flat.nil,by simp⟩
     ·exact⟨b,olds,e1.trans h3,h4,h5⟩
   have hr:=run_append_grow (P:=P) w t ty e ti z ht hi hz b es.length es.length olds (by rw[hfo.2.1,hsz]) hco ad ys.length c' us (by rw[hf.2.1,hsz]) hcell (by omega) h63 hfit
   refine⟨_,_,hr,?_,hfr _ _,hpb _ _⟩
   rw[<-RV.of_hd]
   exact pc (r:=RV.of (.slice (some ⟨w.heap.size,0,none⟩) (es.length+ys.length) (grownCap w (es.length+ys.length) es.length e))) hfo.x hf hl (fun _ h=>False.elim h) hzs hgc hgm
theorem yw {t ty e e':TypeId} {i:TypeInfo} (ht:P.underlying t=some (.slice e)) (hi:P.info? e=some i)
 {g sLen sCap:Nat} {cur:Array Value} (hg:w.heap[g]?=some (.cells cur e' (0,0)))
 {b:Addr} {m c:Nat} {news:List Value} (hl:news.length=m*i.size) (hnews:∀ j u,news[j]?=some u->w.cell? (b.add j)=some u) (h1:∀ u ∈ news,u.oneCell'=true)
 (hroom:sLen+m<=sCap) (hfit:sLen*i.size+news.length<=cur.size) :
 (Builtin.append_ #[t,t] ty #[.slice (some ⟨g,0,none⟩) sLen sCap,.slice (some b) m c]).run P w =
  .ok (.slice (some ⟨g,0,none⟩) (sLen+m) sCap) (w.setRow g (cur.toList.take (sLen*i.size)++news++cur.toList.drop (sLen*i.size+news.length)).toArray):=by
 have hf:=run_firstCells_some (P:=P) w i.size m b m c news hl hnews
 have hst:=run_storeCells_at P g (sLen*i.size) e' news 0 cur w hg (by simpa using hfit) h1
 simp only[Nat.add_zero] at hst
 simp[Builtin.append_,run_underlying ht,sizeOf,typeInfo,hi,Builtin.lenOf,hroom,hf,Addr.add_lit,hst]
theorem sE {t ty e:TypeId} {ti:TypeInfo} {z:Value} {sz bytes:Nat} (ht:P.underlying t=some (.slice e)) (hi:P.info? e=some ti) (hsz:ti.size=sz) (hby:ti.bytes=bytes) (hz:ti.zero=some z) (hzs:z.cells.size=sz)
 (hl:∀ g,M.S g->g < w.heap.size) {vo:RV} {vy:Value} {es ys:List (List C)} (hy:RowC w M.S sz ys vy) (hb:(es.length+ys.length)*bytes<=140737488355328) (hmx:es.length+ys.length<=9223372036854775807)
 (ho:Priv w M.S sz es vo) (hS:∀ g,ae vo g->¬ M.S g) :
 ∃ (v':RV) (w':World),(Builtin.append_ #[t,t] ty #[vo.v,vy]).run P w=.ok v'.v w'/\Priv w' M.S sz (es++ys) v'/\Fr (ae vo) w.heap.size w w'/\(∀ g,ae v' g->w.heap.size<=g\/ae vo g):=by
 have zero:∀ A,es=[]->vo.v=.slice A 0 0->∃ (v':RV) (w':World),(Builtin.append_ #[t,t] ty #[vo.v,vy]).run P w=.ok v'.v w'/\Priv w' M.S sz (es++ys) v'/\Fr (ae vo) w.heap.size w w'/\(∀ g,ae v' g->w.heap.size<=g\/ae vo g):=by
  intro A he hv
  subst he
  rw[hv]
  obtain⟨v',w',h1,h2,h3,h4⟩:=sD (es:=[]) (A:=A) ht hi hsz hby hz hzs hl hy hb hmx (.inl rfl) (.inl rfl)
  exact⟨RV.of v',w',h1,h2,h3.weak (Nat.le_refl _) (fun _ _ h=>h.elim),fun g hg=>.inl (h4 g (by simpa using hg))⟩
 have hDl:=ho.2
 rcases ho.1 with ⟨e',olds,hown,hfo,hnD⟩|⟨he,A,hv⟩
 ·rcases hown.2 with ⟨hv,h0⟩|⟨g,cap,cur,hv,_,hheap,hnc,hcm,hcs,htake⟩
  ·exact zero none (List.eq_nil_of_length_eq_zero h0) hv
  ·cases cap with
   | zero=>exact zero _ (List.eq_nil_of_length_eq_zero (by omega)) (by rw[hv,show es.length=0 by omega])
   | succ cap =>
     have hco:∀ j u,olds[j]?=some u->w.cell? ((⟨g,0,none⟩:Addr).add j)=some u:=hown.cells (by rw[hv];rfl)
     have hob:ax vo.v g:=by rw[hv];simp[ax]
     obtain⟨A',c',rfl,hcy,hy⟩:=hy
     by_cases hys:ys=[]
     ·subst hys
      refine⟨vo,w,by rw[hv];exact pd ht hi hnc,?_,Fr.refl _ _ _,fun g' hg=>.inr hg⟩
      rw[List.append_nil];exact ho
     ·obtain⟨ad,us,rfl,hf,hcell,hone⟩:=hy.resolve_left hys
      have hpos:0 < ys.length:=by cases ys with
       | nil=>exact absurd rfl hys
       | cons _ _=>simp
      by_cases hroom:es.length+ys.length<=cap+1
      ·have hmul:=Nat.mul_le_mul_right sz hroom
       rw[Nat.add_mul] at hmul
       have hr:=yw (P:=P) (ty:=ty) ht hi hheap (m:=ys.length) (c:=c') (by rw[hf.2.1,hsz]) hcell hone hroom (by rw[hsz,hf.2.1,hcs];omega)
       rw[hsz,hf.2.1] at hr
       have hnS:¬ M.S g:=hS g (.inl hob)
       have hsame:∀ g',g'≠g->(w.setRow g (cur.toList.take (es.length*sz)++us++cur.toList.drop (es.length*sz+ys.length*sz)).toArray).heap[g']?=w.heap[g']?:=fun g' hg'=>setRow_other w g g' _ hg'
       have hd':∀ g',vo.D g'->g'≠g:=fun g' hg' e=>hnD _ hob (e ▸ hg')
       refine⟨vo.hd (.slice (some ⟨g,0,none⟩) (es.length+ys.length) (cap+1)),_,by rw[hv,RV.hd_v];exact hr,⟨.inl ⟨e',olds++us,⟨by rw[List.length_append,List.length_append,hfo.2.1,hf.2.1,Nat.add_mul],.inr ⟨g,cap+1,_,by rw[List.length_append,RV.hd_v],Nat.zero_le _,setRow_heap _ _ _ _ _ _ hheap,by rw[List.length_append];exact hroom,hcm,?_,?_⟩⟩,
        (hfo.append hf).hd.move (fun _ k=>k) (fun g' hg'=>hsame g' (fun e=>hnS (e ▸ hg'))) (fun g' hg'=>hsame g' (hd' g' hg')),fun g' hg' hD'=>hd' g' hD' (by rw[RV.hd_v] at hg';simp[ax] at hg';exact hg'.symm)⟩,fun g' hg'=>oO (hDl g' hg') (hsame g' (hd' g' hg'))⟩,
        ⟨rfl,rfl,rfl,by simp,fun k _ hk=>setRow_other w g k _ (fun e=>hk (by rw[e];exact .inl hob))⟩,fun g' hg=>.inr ?_⟩
       ·have:=hf.2.1
        simp only[List.size_toArray,List.length_append,List.length_take,List.length_drop,Array.length_toList];omega
       ·rw[List.length_append,Nat.add_mul,htake]
        have h1:=hfo.2.1;have h2:=hf.2.1
        rw[List.take_append_of_le_length (by rw[List.length_append,h1,h2];omega)]
        exact List.take_of_length_le (by rw[List.length_append,h1,h2];omega)
       ·rcases nA.1 hg with hg|hg
        ·simp[ax] at hg;subst hg;exact .inl hob
        ·exact .inr hg
      ·have hgc:=grownCap_ge w (es.length+ys.length) (cap+1) e
       have hgm:=grownCap_le_maxLen w (es.length+ys.length) (cap+1) e (by simp only[maxLen];omega)
       have h63:((es.length+ys.length:Nat):Int)<=9223372036854775807:=by omega
       have hfit:=growslice_fits (need:=es.length+ys.length) (old:=cap+1) (bytes:=ti.bytes) (by omega) (by rw[hby];exact hb)
       have hr:=run_append_grow (P:=P) w t ty e ti z ht hi hz ⟨g,0,none⟩ es.length (cap+1) olds (by rw[hfo.2.1,hsz]) hco ad ys.length c' us (by rw[hf.2.1,hsz]) hcell (by omega) h63 hfit
       refine⟨_,_,by rw[hv,RV.hd_v];exact hr,pc hfo hf hl hDl hzs hgc hgm,⟨rfl,rfl,rfl,by simp,fun k hk _=>Below.heap_alloc w.drew _ k (by simpa using hk)⟩,fun g' hg=>?_⟩
       rcases nA.1 hg with hg|hg
       ·generalize grownCap w (es.length+ys.length) (cap+1) e=cc at hg
        cases cc <;> simp[ax] at hg;exact .inl (by omega)
       ·exact .inr (.inr hg)
 ·exact zero A he hv
end
end Go.Proofs.Pw
