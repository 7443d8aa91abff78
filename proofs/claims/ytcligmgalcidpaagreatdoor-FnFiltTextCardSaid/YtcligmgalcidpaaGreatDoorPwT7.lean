/- One operation of the small code, and a region in its order. -/
import Derived.Test.YtcligmgalcidpaaGreatDoorPwT6
set_option linter.unusedSimpArgs false
set_option linter.unusedVariables false
set_option linter.unusedSectionVars false
set_option maxRecDepth 20000
namespace Go.Proofs.Pw
open Go.RowKit
variable [Globs]
section
variable {P:Program} {Γ:FuncId->Option Spec} {σ σ':St} {a:Act} {w w':World} {M M':Gh} {X:Nat->Prop} {B n:Nat} {w0:W0} {ops:Array Oper} {o:Oper} {x:XOp}
def nF:XK->Bool
 | .st ..=>true
 | .mkf ..=>true
 | .box ..=>true
 | .alloc ..=>true
 | .app ..=>true
 | .mk ..=>true
 | .clr ..=>true
 | .apn ..=>true
 | .cpy ..=>true
 | .bslx ..=>true
 | .stx ..=>true
 | .appx ..=>true
 | .ldx ..=>true
 | _=>false
def yU:XK->Bool
 | .st ..=>true
 | .stx ..=>true
 | _=>false
def jI (ops:Array Oper):Option (Nat × Bool)->Option (Nat × Bool)->Bool
 | none,none=>true
 | some (j,wt),some (t,wt')=>wt == wt' && ((ops[j]?).bind (·.dst) == some t)
 | _,_=>false
def ce (P:Program) (n:Nat) (ops:Array Oper) (o:Oper) (x:XOp):Bool :=
 o.dst == x.dst && (match o.dst with|some d=>decide (d < n)|none=>true) && jI ops o.guard x.g &&
 (bif nF x.op then pb P o.op x.op && (bif yU x.op then o.dst.isNone else true) else dZ P o.op x.op)
theorem fP (h:ce P n ops o x=true):o.dst=x.dst/\∀ d,o.dst=some d->d < n:=by
 simp only[ce,Bool.and_eq_true,beq_iff_eq] at h
 refine⟨h.1.1.1,fun d hd=>?_⟩
 have:=h.1.1.2
 rw[hd] at this
 simpa using this
theorem gN (h:ce P n ops o x=true):jI ops o.guard x.g=true:=by
 simp only[ce,Bool.and_eq_true] at h;exact h.1.2
theorem Jo (h:ce P n ops o x=true) (he:nF x.op=true):pb P o.op x.op=true/\∀ y z ag,x.op=.st y z ag\/x.op=.stx y z ag->o.dst=none:=by
 simp only[ce,Bool.and_eq_true,he,cond_true] at h
 refine⟨h.2.1,fun y z ag hx=>?_⟩
 have:=h.2.2
 rcases hx with hx|hx <;> rw[hx] at this <;> simpa [yU] using this
theorem fg (h:ce P n ops o x=true) (he:nF x.op=false):dZ P o.op x.op=true:=by
 simp only[ce,Bool.and_eq_true,he,cond_false] at h;exact h.2
theorem yV {k:XK} {r:Prop × PV} (h:ah Γ σ k=some r):nF k=false:=by
 cases k <;> first|rfl|(simp[ah] at h)
theorem iD (h:jI ops o.guard none=true) (ts:Array Value):Region.wanted o (yielded ops ts)=true:=by
 cases hg:o.guard with
 | none=>simp[Region.wanted,hg]
 | some _=>rw[hg] at h;simp[jI] at h
theorem yW {t:Nat} {want g b:Bool} (h:jI ops o.guard (some (t,want))=true) (ht:∀ t p,(t,p) ∈ σ.tm->ak w M p (a.tmps.getD t undef)) (hu:(get (.q .no) t σ.tm).un=(g,.q (.c (.bool b)))) :
 Region.wanted o (yielded ops a.tmps)=(g && (b == want)):=by
 cases hg:o.guard with
 | none=>rw[hg] at h;simp[jI] at h
 | some jw =>
   obtain⟨j,wt⟩:=jw
   rw[hg] at h
   simp only[jI,Bool.and_eq_true,beq_iff_eq] at h
   obtain⟨rfl,hj⟩:=h
   simp only[Region.wanted,hg,yielded,hj,Option.bind_some]
   have hl:=gJ ht t
   cases g with
   | true =>
     have:=jC hl (by rw[hu])
     rw[hu] at this
     have hb:=gK this
     rw[Array.getD_eq_getD_getElem?] at hb
     cases hx:a.tmps[t]? with
     | none=>rw[hx] at hb;simp[undef] at hb
     | some v =>
       rw[hx] at hb
       simp only[Option.getD_some] at hb
       subst hb
       cases b <;> cases wt <;> rfl
   | false =>
     have:=HD hl (by rw[hu])
     rw[Array.getD_eq_getD_getElem?] at this
     cases hx:a.tmps[t]? with
     | none=>rfl
     | some v =>
       rw[hx] at this
       simp only[Option.getD_some] at this
       subst this
       rfl
theorem yX (G:GOK P Γ) (hok:ce P n ops o x=true) {vc:Prop} {p:PV} (he:bN Γ σ x=some (vc,p)) (hvc:vc)
 (ht:∀ t p,(t,p) ∈ σ.tm->ak w M p (a.tmps.getD t undef)) (mem:Mem X B σ.bx σ.rw w M) {K:Act->World->Prop} {E:Exit->Act->World->Prop}
 (hn:∀ v w' M',Up (fun _=>False) w M w' M'->ak w' M' p v->K (a.put o.dst v) w') :
 if Region.wanted o (yielded ops a.tmps) then o.wp P a w K E else K (a.put o.dst undef) w:=by
 unfold bN at he
 have hgd:=gN hok
 split at he
 ·rename_i t want hg
  rw[hg] at hgd
  split at he
  ·rename_i g b hu
   simp only[Option.map_eq_some_iff,Prod.mk.injEq] at he
   obtain⟨⟨vc',p'⟩,hev,rfl,rfl⟩:=he
   rw[yW hgd ht hu]
   split
   ·rename_i hw
    exact ym G (fg hok (yV hev)) hev (hvc hw) ht mem (fun v w' M' hu hr=>hn v w' M' hu ⟨fun _=>hr,fun h=>absurd (hw.symm.trans h) (by simp)⟩)
   ·rename_i hw
    exact hn undef w M (Up.refl mem.lt) ⟨fun h=>absurd h hw,fun _=>rfl⟩
  ·cases he
 ·rename_i hg
  rw[hg] at hgd
  rw[iD hgd,if_pos rfl]
  exact ym G (fg hok (yV he)) he hvc ht mem hn
theorem eb (hok:ce P n ops o x=true) (hg:x.g=none) (hef:nF x.op=true) (hs:Sim X n B w0 σ a w M) {vc:Prop} (he:bc σ x.dst x.op=some (vc,σ')) (hvc:vc)
 {K:Act->World->Prop} {E:Exit->Act->World->Prop} (hn:∀ a' w' M',Sim X n B w0 σ' a' w' M'->K a' w') :
 if Region.wanted o (yielded ops a.tmps) then o.wp P a w K E else K (a.put o.dst undef) w:=by
 have hgd:=gN hok
 rw[hg] at hgd
 obtain⟨h1,h2⟩:=fP hok
 obtain⟨h3,h4⟩:=Jo hok hef
 rw[iD hgd,if_pos rfl]
 exact IT hs h3 h2 h4 (by rw[h1];exact he) hvc hn
theorem sK (G:GOK P Γ) (hok:ce P n ops o x=true) (hg:x.g=none) (hs:Sim X n B w0 σ a w M) {f:FuncId} {xs:List XO}
 (hx:x.op=.call f xs\/(x.op=.callo f xs\/∃ y,x.op=.calli y xs/\σ.v y=(true,.q (.c (.fn f))))) {vc:Prop} (he:fM Γ σ x.dst f xs=some (vc,σ')) (hvc:vc)
 {K:Act->World->Prop} {E:Exit->Act->World->Prop} (hn:∀ a' w' M',Sim X n B w0 σ' a' w' M'->K a' w') :
 if Region.wanted o (yielded ops a.tmps) then o.wp P a w K E else K (a.put o.dst undef) w:=by
 have hgd:=gN hok
 rw[hg] at hgd
 obtain⟨h1,h2⟩:=fP hok
 rw[iD hgd,if_pos rfl]
 have h3:∃ c g,o.op=.call c/\c.callee=.value g/\a.eval g=.func (.func f) #[] #[]/\bJ c.args.toList xs=true:=by
  rcases hx with hx|hx|⟨y,hx,hy⟩
  ·have hm:=fg hok (by rw[hx];rfl)
   rw[hx] at hm
   simp only[dZ] at hm
   split at hm
   ·rename_i c ho
    unfold cW at hm
    split at hm
    ·rename_i g hc
     simp only[Bool.and_eq_true,beq_iff_eq] at hm
     obtain⟨rfl,hos⟩:=hm
     exact⟨c,_,ho,hc,rfl,hos⟩
    ·cases hm
   ·cases hm
  ·have hm:=fg hok (by rw[hx];rfl)
   rw[hx] at hm
   simp only[dZ] at hm
   split at hm
   ·rename_i c ho
    unfold cW at hm
    split at hm
    ·rename_i g hc
     simp only[Bool.and_eq_true,beq_iff_eq] at hm
     obtain⟨rfl,hos⟩:=hm
     exact⟨c,_,ho,hc,rfl,hos⟩
    ·cases hm
   ·cases hm
  ·have hm:=fg hok (by rw[hx];rfl)
   rw[hx] at hm
   simp only[dZ] at hm
   split at hm
   ·rename_i c ho
    unfold oY at hm
    split at hm
    ·rename_i g hc
     simp only[Bool.and_eq_true] at hm
     have rf:=aC (o:=g) (x:=y) hs.tm hm.1 (by rw[hy])
     rw[hy] at rf
     exact⟨c,_,ho,hc,xU rf,hm.2⟩
    ·cases hm
   ·cases hm
 obtain⟨c,g,ho,hc,hev,hos⟩:=h3
 obtain⟨k1,k2⟩:=yO G hs (dst:=o.dst) h2 (fun σ1 w1 M1 ht _=>pj ht hos) (by rw[h1];exact he) hvc
 obtain⟨dst,op,ty,pos,after,guard⟩:=o
 simp only at ho;subst ho
 exact fO (gL hc hev k1) (fun E=>k2 _ E (fun v w' M' h=>hn _ _ _ h))
theorem Jp (G:GOK P Γ) (hok:ce P n ops o x=true) (hg:x.g=none) (hs:Sim X n B w0 σ a w M) {f:FuncId} {xs:List XO} (hx:x.op=.callx f xs) {vc:Prop} (he:lc Γ σ x.dst f xs=some (vc,σ')) (hvc:vc)
 {K:Act->World->Prop} {E:Exit->Act->World->Prop} (hn:∀ a' w' M',Sim X n B w0 σ' a' w' M'->K a' w') :
 if Region.wanted o (yielded ops a.tmps) then o.wp P a w K E else K (a.put o.dst undef) w:=by
 have hgd:=gN hok
 rw[hg] at hgd
 obtain⟨h1,h2⟩:=fP hok
 rw[iD hgd,if_pos rfl]
 have hm:=fg hok (by rw[hx];rfl)
 rw[hx] at hm
 simp only[dZ] at hm
 split at hm
 ·rename_i c ho
  unfold cW at hm
  split at hm
  ·rename_i g hc
   simp only[Bool.and_eq_true,beq_iff_eq] at hm
   obtain⟨rfl,hos⟩:=hm
   obtain⟨k1,k2⟩:=Jk G hs (dst:=o.dst) h2 hos (by rw[h1];exact he) hvc
   obtain⟨dst,op,ty,pos,after,guard⟩:=o
   simp only at ho;subst ho
   exact fO (gL hc rfl k1) (fun E=>k2 _ E (fun v w' M' h=>hn _ _ _ h))
  ·cases hm
 ·cases hm
theorem Jq (G:GOK P Γ) (hok:ce P n ops o x=true) (hg:x.g=none) (hs:Sim X n B w0 σ a w M) {f:FuncId} {y z:XO} (hx:x.op=.callm f y z) {vc:Prop} (he:oR Γ σ x.dst f y z=some (vc,σ')) (hvc:vc)
 {K:Act->World->Prop} {E:Exit->Act->World->Prop} (hn:∀ a' w' M',Sim X n B w0 σ' a' w' M'->K a' w') :
 if Region.wanted o (yielded ops a.tmps) then o.wp P a w K E else K (a.put o.dst undef) w:=by
 have hgd:=gN hok
 rw[hg] at hgd
 obtain⟨h1,h2⟩:=fP hok
 rw[iD hgd,if_pos rfl]
 have hm:=fg hok (by rw[hx];rfl)
 rw[hx] at hm
 simp only[dZ] at hm
 split at hm
 ·rename_i c ho
  unfold cW at hm
  split at hm
  ·rename_i g hc
   simp only[Bool.and_eq_true,beq_iff_eq] at hm
   obtain⟨rfl,hos⟩:=hm
   obtain⟨k1,k2⟩:=Jn G hs (dst:=o.dst) h2 hos (by rw[h1];exact he) hvc
   obtain⟨dst,op,ty,pos,after,guard⟩:=o
   simp only at ho;subst ho
   exact fO (gL hc rfl k1) (fun E=>k2 _ E (fun v w' M' h=>hn _ _ _ h))
  ·cases hm
 ·cases hm
theorem Jr (G:GOK P Γ) (hok:ce P n ops o x=true) (hg:x.g=none) (hs:Sim X n B w0 σ a w M) {f:FuncId} {xs:List XO} {cs:List C} {y:XO}
 (hx:x.op=.calli y xs) (hy:σ.v y=(true,.q (.c (.clo f cs)))) {vc:Prop} (he:fM Γ σ x.dst f (xs++cs.map fun c=>.k c.toQ)=some (vc,σ')) (hvc:vc)
 {K:Act->World->Prop} {E:Exit->Act->World->Prop} (hn:∀ a' w' M',Sim X n B w0 σ' a' w' M'->K a' w') :
 if Region.wanted o (yielded ops a.tmps) then o.wp P a w K E else K (a.put o.dst undef) w:=by
 have hgd:=gN hok
 rw[hg] at hgd
 obtain⟨h1,h2⟩:=fP hok
 rw[iD hgd,if_pos rfl]
 have hm:=fg hok (by rw[hx];rfl)
 rw[hx] at hm
 simp only[dZ] at hm
 split at hm
 ·rename_i c ho
  unfold oY at hm
  split at hm
  ·rename_i g hc
   simp only[Bool.and_eq_true] at hm
   have rf:=aC (o:=g) (x:=y) hs.tm hm.1 (by rw[hy])
   rw[hy] at rf
   obtain⟨us,hev,hl,hr⟩:=If rf
   obtain⟨k1,k2⟩:=yO G hs (dst:=o.dst) (us:=c.args.toList.map a.eval++us) h2 (fun σ1 w1 M1 ht hmo=>All2.append (pj ht hm.2) (IY hl (fun j c hj=>by obtain⟨u,hu,h⟩:=hr j c hj;exact⟨u,hu,hmo _ _ h⟩))) (by rw[h1];exact he) hvc
   obtain⟨dst,op,ty,pos,after,guard⟩:=o
   simp only at ho;subst ho
   exact fO (Ig hc hev k1) (fun E=>k2 _ E (fun v w' M' h=>hn _ _ _ h))
  ·cases hm
 ·cases hm
theorem Js (G:GOK P Γ) (hok:ce P n ops o x=true) (hs:Sim X n B w0 σ a w M) {pre:Bool} {vc:Prop} (he:eD Γ pre σ x=some (vc,σ')) (hvc:vc)
 {K:Act->World->Prop} {E:Exit->Act->World->Prop} (hn:∀ a' w' M',Sim X n B w0 σ' a' w' M'->K a' w') :
 if Region.wanted o (yielded ops a.tmps) then o.wp P a w K E else K (a.put o.dst undef) w:=by
 obtain⟨h1,h2⟩:=fP hok
 have viaM:∀ {p},bN Γ σ x=some (vc,p)->σ'=σ.put x.dst p->if Region.wanted o (yielded ops a.tmps) then o.wp P a w K E else K (a.put o.dst undef) w:=fun {p} hm hσ=>by
  subst hσ
  refine yX G hok hm hvc hs.tm hs.mem (fun v w' M' hu hr=>hn _ _ M' ?_)
  rw[<-h1]
  exact hs.put h2 hu (fun _ _ h=>h.elim) (hs.mem.up hu (fun _ _ _ h=>h) (fun _ _ _ _ _ h=>h)) hr
 unfold eD at he
 split at he
 ·simp only[Option.map_eq_some_iff,Prod.mk.injEq] at he
  obtain⟨⟨vc',p⟩,hm,rfl,rfl⟩:=he
  exact viaM hm rfl
 ·rename_i hg
  split at he
  ·rename_i hx;exact eb hok hg (by rw[hx];rfl) hs (by rw[hx];exact he) hvc hn
  ·rename_i hx;exact eb hok hg (by rw[hx];rfl) hs (by rw[hx];exact he) hvc hn
  ·rename_i hx;exact eb hok hg (by rw[hx];rfl) hs (by rw[hx];exact he) hvc hn
  ·rename_i hx;exact eb hok hg (by rw[hx];rfl) hs (by rw[hx];exact he) hvc hn
  ·rename_i hx;exact eb hok hg (by rw[hx];rfl) hs (by rw[hx];exact he) hvc hn
  ·rename_i hx;exact eb hok hg (by rw[hx];rfl) hs (by rw[hx];exact he) hvc hn
  ·rename_i hx;exact eb hok hg (by rw[hx];rfl) hs (by rw[hx];exact he) hvc hn
  ·rename_i hx;exact eb hok hg (by rw[hx];rfl) hs (by rw[hx];exact he) hvc hn
  ·rename_i hx;exact eb hok hg (by rw[hx];rfl) hs (by rw[hx];exact he) hvc hn
  ·rename_i hx;exact eb hok hg (by rw[hx];rfl) hs (by rw[hx];exact he) hvc hn
  ·rename_i hx;exact eb hok hg (by rw[hx];rfl) hs (by rw[hx];exact he) hvc hn
  ·rename_i hx;exact eb hok hg (by rw[hx];rfl) hs (by rw[hx];exact he) hvc hn
  ·rename_i hx;exact eb hok hg (by rw[hx];rfl) hs (by rw[hx];exact he) hvc hn
  ·rename_i hx;exact Jp G hok hg hs hx he hvc hn
  ·rename_i hx;exact Jq G hok hg hs hx he hvc hn
  ·rename_i hx;exact sK G hok hg hs (.inl hx) he hvc hn
  ·rename_i hx;exact sK G hok hg hs (.inr (.inl hx)) he hvc hn
  ·rename_i f' xs hx
   split at he
   ·rename_i g f e1
    simp only[Option.map_eq_some_iff,Prod.mk.injEq] at he
    obtain⟨⟨vc',σ2⟩,hc,rfl,rfl⟩:=he
    exact sK G hok hg hs (.inr (.inr ⟨f',hx,by rw[e1,hvc.1]⟩)) hc hvc.2 hn
   ·rename_i g f cs e1
    simp only[Option.map_eq_some_iff,Prod.mk.injEq] at he
    obtain⟨⟨vc',σ2⟩,hc,rfl,rfl⟩:=he
    exact Jr G hok hg hs hx (by rw[e1,hvc.1]) hc hvc.2 hn
   ·cases he
  ·simp only[Option.map_eq_some_iff,Prod.mk.injEq] at he
   obtain⟨⟨vc',p⟩,hm,rfl,rfl⟩:=he
   exact viaM (by unfold bN;rw[hg];exact hm) rfl
theorem Jt (G:GOK P Γ) (hok:ce P n ops o x=true) (hg:x.g=none) (hs:Sim X n B w0 σ a w M) {f:FuncId} {xs:List XO} (hx:x.op=.callr f xs) {K':St->Prop} (he:dY Γ σ x.dst f xs K')
 {K:Act->World->Prop} {E:Exit->Act->World->Prop} (hn:∀ σ' a' w' M',K' σ'->Sim X n B w0 σ' a' w' M'->K a' w') :
 if Region.wanted o (yielded ops a.tmps) then o.wp P a w K E else K (a.put o.dst undef) w:=by
 have hgd:=gN hok
 rw[hg] at hgd
 obtain⟨h1,h2⟩:=fP hok
 rw[iD hgd,if_pos rfl]
 have hm:=fg hok (by rw[hx];rfl)
 rw[hx] at hm
 simp only[dZ] at hm
 split at hm
 ·rename_i c ho
  unfold cW at hm
  split at hm
  ·rename_i g hc
   simp only[Bool.and_eq_true,beq_iff_eq] at hm
   obtain⟨rfl,hos⟩:=hm
   obtain⟨k1,k2⟩:=yQ G hs (dst:=o.dst) h2 (fun σ1 w1 M1 ht _=>pj ht hos) (by rw[h1];exact he)
   obtain⟨dst,op,ty,pos,after,guard⟩:=o
   simp only at ho;subst ho
   exact fO (gL hc rfl k1) (fun E=>k2 _ E (fun σ' v w' M' h h'=>hn σ' _ _ _ h h'))
  ·cases hm
 ·cases hm
theorem Ju (G:GOK P Γ) (hok:ce P n ops o x=true) {t:Nat} {want b:Bool} (hg:x.g=some (t,want)) (hu:(get (.q .no) t σ.tm).un=(true,.q (.c (.bool b)))) (hs:Sim X n B w0 σ a w M) {f:FuncId} {xs:List XO} (hx:x.op=.callr f xs) {K':St->Prop}
 (he:(b == want)=true->dY Γ σ x.dst f xs K') (he':(b == want)=false->K' (σ.put x.dst (.gd false (.q (.c (.int .i64 0))))))
 {K:Act->World->Prop} {E:Exit->Act->World->Prop} (hn:∀ σ' a' w' M',K' σ'->Sim X n B w0 σ' a' w' M'->K a' w') :
 if Region.wanted o (yielded ops a.tmps) then o.wp P a w K E else K (a.put o.dst undef) w:=by
 have hgd:=gN hok
 rw[hg] at hgd
 obtain⟨h1,h2⟩:=fP hok
 rw[yW hgd hs.tm hu,Bool.true_and]
 split
 ·rename_i hb
  have hm:=fg hok (by rw[hx];rfl)
  rw[hx] at hm
  simp only[dZ] at hm
  split at hm
  ·rename_i c ho
   unfold cW at hm
   split at hm
   ·rename_i g hc
    simp only[Bool.and_eq_true,beq_iff_eq] at hm
    obtain⟨rfl,hos⟩:=hm
    obtain⟨k1,k2⟩:=yQ G hs (dst:=o.dst) h2 (fun σ1 w1 M1 ht _=>pj ht hos) (by rw[h1];exact he hb)
    obtain⟨dst,op,ty,pos,after,guard⟩:=o
    simp only at ho;subst ho
    exact fO (gL hc rfl k1) (fun E=>k2 _ E (fun σ' v w' M' h h'=>hn σ' _ _ _ h h'))
   ·cases hm
  ·cases hm
 ·rename_i hb
  refine hn _ _ w M (he' (by simpa using hb)) ?_
  rw[<-h1]
  exact hs.put h2 (Up.refl hs.mem.lt) (fun _ _ h=>h.elim) hs.mem ⟨fun h=>by simp at h,fun _=>rfl⟩
theorem PV.mapmap {f g:Q->Q}:∀ (p:PV),(p.map f).map g=p.map (g ∘ f)
 | .q x=>rfl
 | .agg xs=>by simp[PV.map]
 | .tup xs=>by
   simp only[PV.map,List.map_map]
   congr 1
   refine List.map_congr_left (fun x _=>?_)
   cases x <;> simp[SV.map]
 | .gd b p=>by simp only[PV.map];rw[PV.mapmap p]
theorem Jv (hok:ce P n ops o x=true) (hg:x.g=none) (hs:Sim X n B w0 σ a w M) {y:XO} (hx:x.op=.capr y) {K':St->Prop} (he:oS σ x.dst y K')
 {K:Act->World->Prop} {E:Exit->Act->World->Prop} (hn:∀ σ' a' w' M',K' σ'->Sim X n B w0 σ' a' w' M'->K a' w') :
 if Region.wanted o (yielded ops a.tmps) then o.wp P a w K E else K (a.put o.dst undef) w:=by
 have hgd:=gN hok
 rw[hg] at hgd
 obtain⟨h1,h2⟩:=fP hok
 rw[iD hgd,if_pos rfl]
 have hm:=fg hok (by rw[hx];rfl)
 rw[hx] at hm
 simp only[dZ] at hm
 unfold oW at hm
 split at hm <;> try (rename_i hh;cases hh;done)
 all_goals first|(cases hm;done)|skip
 rename_i c y' ho hy'
 cases hy'
 unfold oV at hm
 split at hm
 ·rename_i x0 t hcb hca hct
  simp only[Bool.and_eq_true] at hm
  obtain⟨hx0,hm⟩:=hm
  split at hm
  ·rename_i e ht
   unfold oS at he
   split at he
   ·rename_i g r d e1 e2
    split at he
    ·rename_i sz es hq
     obtain⟨hg1,hdr,hK⟩:=he
     have rx:=aC (o:=x0) (x:=y) hs.tm hx0 (by rw[e1];exact hg1)
     rw[e1] at rx
     have hin:=get?_mem hq
     obtain⟨A,c1,hρ,hcap⟩:=jD hs.mem hq
     obtain⟨h0,hp,_⟩:=hs.mem.row r _ es hin
     have hc63:(c1:Int)<=9223372036854775807:=by
      rcases hp.1 with ⟨e',us,h10,_⟩|⟨_,A2,h10⟩ <;> rw[hρ] at h10
      ·rcases h10.2 with ⟨h11,_⟩|⟨g1,cap,cur,h11,_,h12,h13,h14,_⟩
       ·injection h11 with _ _ h15;omega
       ·injection h11 with _ _ h15;simp only[maxLen] at h14;omega
      ·injection h10 with _ _ h15;omega
     have hd:o.dst=some d:=h1.trans e2
     have hdn:=h2 d hd
     have hs2:=hs.rowMove (d:=d) hin (.inl hdn) h0 hp (fun _ h=>h)
     have hv:=rx.1
     rw[hρ] at hv
     have hq2:∀ q v,af w M q v->af w (M.nr d (M.ρ r)) ((q.killO d).toVc r d sz es.length c1) v:=fun q v h=>by
      have hr2:=nB d q v h
      cases q with
      | own i =>
        by_cases hi:i=d
        ·simp[Q.killO,hi,Q.toVc,af]
        ·by_cases hir:i=r
         ·simp only[Q.killO,if_neg hi,Q.toVc,if_pos hir]
          have:=h.1
          rw[hir,hρ] at this
          exact⟨A,es.length,A,by simp[Gh.nr,hρ],by omega,by rw[this];rfl,fun _=>by cases A <;> simp[Addr.add]⟩
         ·simp only[Q.killO,if_neg hi,Q.toVc,if_neg hir,af,Gh.nr];exact h
      | rp i _ _ _=>by_cases hi:i=d <;> by_cases hir:i=r <;> simp_all [Q.killO,Q.toVc,af,Gh.nr]
      | vw i _ _ _=>by_cases hi:i=d <;> by_cases hir:i=r <;> simp_all [Q.killO,Q.toVc,af,Gh.nr]
      | vc i _ _ _ _=>by_cases hi:i=d <;> by_cases hir:i=r <;> simp_all [Q.killO,Q.toVc,af,Gh.nr]
      | nr i _=>by_cases hi:i=d <;> by_cases hir:i=r <;> simp_all [Q.killO,Q.toVc,af,Gh.nr]
      | np i _ _ _ _=>by_cases hi:i=d <;> by_cases hir:i=r <;> simp_all [Q.killO,Q.toVc,af,Gh.nr]
      | _=>exact h
     have hrun:(execOp a.eval o).run P w=.ok (.value (.int .i64 c1)) w:=by
      obtain⟨dst,op,ty,pos,after,guard⟩:=o
      simp only at ho;subst ho
      obtain⟨callee,args,argTypes⟩:=c
      simp only at hcb hca hct
      subst hcb
      have ha:args=#[x0]:=by rw[<-Array.toArray_toList (xs:=args),hca]
      have htt:argTypes=#[t]:=by rw[<-Array.toArray_toList (xs:=argTypes),hct]
      subst ha htt
      simp[execOp,resolve,invoke,builtin,Builtin.cap_,run_underlying ht,hv,goInt]
     refine cG hrun (hn _ _ _ (M.nr d (M.ρ r)) (hK c1 hcap hc63) ?_)
     rw[hd]
     refine⟨by simpa [Act.put] using hs.size,hs.defs,fun t' p' h=>?_,hs2.mem,hs2.fr,hs2.hB,hs2.sS,hs2.sβ,hs2.sρ⟩
     have hdn':d < a.tmps.size:=by rw[hs.size];exact hdn
     rcases aE h with ⟨rfl,rfl⟩|⟨hne,h⟩
     ·have:(a.put (some t') (.int .i64 c1)).tmps.getD t' undef=.int .i64 c1:=by simp[Act.put,Array.getD,hdn']
      rw[this];exact Rep.int _ _
     ·simp only[St.map,List.map_map,List.mem_map,Prod.mk.injEq] at h
      obtain⟨⟨t2,p0⟩,h3,rfl,rfl⟩:=h
      have he:(a.put (some d) (.int .i64 c1)).tmps.getD t2 undef=a.tmps.getD t2 undef:=by
       simp only[Act.put,Array.getD_eq_getD_getElem?,Array.getElem?_setIfInBounds]
       rw[if_neg (fun e=>hne e.symm)]
      show ak w _ _ ((a.put (some d) _).tmps.getD t2 undef)
      rw[he]
      have:=cX hq2 (hs.tm _ _ h3)
      rw[show (fun q=>(Q.killO d q).toVc r d sz es.length c1)=(Q.toVc r d sz es.length c1 ∘ Q.killO d) from rfl,<-PV.mapmap] at this
      exact this
    ·exact he.elim
   ·exact he.elim
  ·cases hm
 ·cases hm
theorem sL (G:GOK P Γ) (hok:ce P n ops o x=true) (hs:Sim X n B w0 σ a w M) {k:Nat} {K':St->Prop} (he:cE Γ k σ x K')
 {K:Act->World->Prop} {E:Exit->Act->World->Prop} (hn:∀ σ' a' w' M',K' σ'->Sim X n B w0 σ' a' w' M'->K a' w') :
 if Region.wanted o (yielded ops a.tmps) then o.wp P a w K E else K (a.put o.dst undef) w:=by
 unfold cE at he
 split at he
 ·rename_i f ys hx
  split at he
  ·rename_i hg
   exact Jt G hok hg hs hx he hn
  ·rename_i hg
   split at he
   ·rename_i b hu
    exact Ju G hok hg hu hs hx he.1 he.2 hn
   ·exact he.elim
  ·exact he.elim
 ·rename_i y hx
  split at he
  ·rename_i hg
   exact Jv hok hg hs hx he hn
  ·exact he.elim
 ·split at he
  ·rename_i vc σ' hst
   exact Js G hok hs hst he.1 (fun a' w' M' h=>hn σ' a' w' M' (he.2 he.1) h)
  ·exact he.elim
def ct (P:Program) (n:Nat) (ops:Array Oper):List Oper->List XOp->Bool
 | [],[]=>true
 | o::os,x::xs=>ce P n ops o x && ct P n ops os xs
 | _,_=>false
theorem Jw (G:GOK P Γ) {E:Exit->Act->World->Prop} {K:St->Prop} (hK:∀ σ' a' w' M',K σ'->Sim X n B w0 σ' a' w' M'->E .normal a' w'):∀ {l:List Oper} {xs:List XOp} {σ:St} {a:Act} {w:World} {M:Gh} {k:Nat},
 ct P n ops l xs=true->Sim X n B w0 σ a w M->cn Γ k xs σ K->wpList P ops E l a w:=by
 intro l
 induction l with
 | nil =>
   intro xs σ a w M k hok hs hr
   cases xs with
   | nil=>exact wpList_nil (hK σ a w M hr hs)
   | cons _ _=>simp[ct] at hok
 | cons o l ih =>
   intro xs σ a w M k hok hs hr
   cases xs with
   | nil=>simp[ct] at hok
   | cons x xs =>
     simp only[ct,Bool.and_eq_true] at hok
     simp only[cn] at hr
     exact wpList_step fun K hK=>sL G hok.1 hs hr (fun σ' a' w' M' hk h=>hK _ _ (ih hok.2 h hk))
end
end Go.Proofs.Pw
namespace Go.Proofs.Pw
open Go.RowKit
variable [Globs]
section
variable {P:Program} {Γ:FuncId->Option Spec} {σ σ':St}
def vl (d0:PV) (t:Nat) (L:Nat->Bool):Nat->List (Option Nat × PV)->PV
 | _,[]=>d0
 | i,(d,p)::r=>vl (if L i && d == some t then p else d0) t L (i+1) r
theorem pm {t:Nat} {L L':Nat->Bool}:∀ {r:List (Option Nat × PV)} {i:Nat} {d0:PV},(∀ j p,r[j]?=some (some t,p)->L (i+j)=L' (i+j))->vl d0 t L i r=vl d0 t L' i r:=by
 intro r
 induction r with
 | nil=>intro i d0 _;rfl
 | cons x r ih =>
   obtain⟨d,p⟩:=x
   intro i d0 h
   simp only[vl]
   have e:(if (L i && d == some t)=true then p else d0)=(if (L' i && d == some t)=true then p else d0):=by
    by_cases hd:d=some t
    ·subst hd
     have:=h 0 p (by simp)
     simp only[Nat.add_zero] at this
     rw[this]
    ·have:(d == some t)=false:=by simpa using hd
     simp[this]
   rw[e]
   exact ih (fun j p' hj=>by have:=h (j+1) p' (by simpa using hj);rwa [show i+(j+1)=i+1+j by omega] at this)
theorem pn {t:Nat} {L:Nat->Bool}:∀ {r:List (Option Nat × PV)} {i:Nat} {d0:PV},(∀ j p,r[j]?=some (some t,p)->L (i+j)=false)->vl d0 t L i r=d0:=by
 intro r
 induction r with
 | nil=>intro i d0 _;rfl
 | cons x r ih =>
   obtain⟨d,p⟩:=x
   intro i d0 h
   simp only[vl]
   rw[ih (fun j p' hj=>by have:=h (j+1) p' (by simpa using hj);rwa [show i+(j+1)=i+1+j by omega] at this)]
   by_cases hd:d=some t
   ·subst hd
    have:=h 0 p (by simp)
    simp only[Nat.add_zero] at this
    simp[this]
   ·have:(d == some t)=false:=by simpa using hd
    simp[this]
theorem Jx {t:Nat} {L:Nat->Bool} {p:PV}:∀ {r:List (Option Nat × PV)} {i j:Nat} {d0:PV},r[j]?=some (some t,p)->L (i+j)=true->(∀ j' p',j < j'->r[j']?=some (some t,p')->L (i+j')=false)->vl d0 t L i r=p:=by
 intro r
 induction r with
 | nil=>intro i j d0 h;simp at h
 | cons x r ih =>
   obtain⟨d,q⟩:=x
   intro i j d0 h hl hn
   simp only[vl]
   cases j with
   | zero =>
     simp only[List.getElem?_cons_zero,Option.some.injEq,Prod.mk.injEq] at h
     obtain⟨rfl,rfl⟩:=h
     simp only[Nat.add_zero] at hl
     rw[pn (fun j p' hj=>by have:=hn (j+1) p' (by omega) (by simpa using hj);rwa [show i+(j+1)=i+1+j by omega] at this)]
     simp[hl]
   | succ j =>
     exact ih (by simpa using h) (by rwa [show i+(j+1)=i+1+j by omega] at hl) (fun j' p' hj hp=>by have:=hn (j'+1) p' (by omega) (by simpa using hp);rwa [show i+(j'+1)=i+1+j' by omega] at this)
theorem Jy {α:Type} {d:α} {t u:Nat} (h:u≠t):∀ {l:List (Nat × α)},get d u (del t l)=get d u l:=by
 intro l
 induction l with
 | nil=>rfl
 | cons x l ih =>
   obtain⟨i,y⟩:=x
   simp only[del]
   split
   ·rename_i hi;simp only[get];rw[if_neg (by omega)];exact ih
   ·simp only[get];rw[ih]
theorem Jz {α:Type} {d y:α} {t u:Nat}:∀ {l:List (Nat × α)},get d u (upd t y l)=if t=u then y else get d u l:=by
 intro l
 induction l with
 | nil=>simp only[upd,get]
 | cons x l ih =>
   obtain⟨i,z⟩:=x
   simp only[upd]
   split
   ·rename_i hi
    subst hi
    simp only[get]
    split
    ·rfl
    ·rename_i hne;exact Jy (fun e=>hne e.symm)
   ·rename_i hi
    simp only[get,ih]
    by_cases h1:i=u <;> by_cases h2:t=u <;> simp[h1,h2]
    omega
theorem sM {dst:Option Nat} {p:PV} {t:Nat}:get (.q .no) t (σ.put dst p).tm=if dst=some t then p else get (.q .no) t σ.tm:=by
 cases dst with
 | none=>simp[St.put]
 | some d=>simp only[St.put,Jz,Option.some.injEq]
theorem po {dst:Option Nat} {p:PV}:(σ.put dst p).bx=σ.bx/\(σ.put dst p).rw=σ.rw:=by cases dst <;> exact⟨rfl,rfl⟩
theorem JA {dst:Option Nat} {p q:PV} {t:Nat} (h:(t,q) ∈ (σ.put dst p).tm):(dst=some t/\q=p)\/(dst≠some t/\(t,q) ∈ σ.tm):=by
 cases dst with
 | none=>exact .inr ⟨by simp,h⟩
 | some d =>
   rcases aE h with ⟨rfl,rfl⟩|⟨h1,h2⟩
   ·exact .inl ⟨rfl,rfl⟩
   ·exact .inr ⟨fun e=>h1 (by cases e;rfl),h2⟩
inductive Tr (Γ:FuncId->Option Spec):St->List XOp->List (Option Nat × PV)->St->Prop
 | nil (σ:St):Tr Γ σ [] [] σ
 | cons {σ σ':St} {x:XOp} {xs:List XOp} {tr:List (Option Nat × PV)} {vc:Prop} {p:PV} (h:bN Γ σ x=some (vc,p)) (hvc:vc) (t:Tr Γ (σ.put x.dst p) xs tr σ'):Tr Γ σ (x::xs) ((x.dst,p)::tr) σ'
theorem yY (x:XOp):eD Γ true σ x=(bN Γ σ x).map fun r=>(r.1,σ.put x.dst r.2):=by
 obtain⟨d,g,op⟩:=x
 cases g with
 | some _=>rfl
 | none=>cases op <;> rfl
theorem JB {K:St->Prop}:∀ {k:Nat} {xs:List XOp} {σ:St},k<=xs.length->cn Γ k xs σ K->∃ tr σ',Tr Γ σ (xs.take k) tr σ'/\cn Γ 0 (xs.drop k) σ' K:=by
 intro k
 induction k with
 | zero=>intro xs σ _ h;exact⟨[],σ,by simpa using Tr.nil σ,by simpa using h⟩
 | succ k ih =>
   intro xs σ hl h
   cases xs with
   | nil=>simp at hl
   | cons x xs =>
     simp only[cn,cE,show (k+1 != 0)=true from by simp,yY,Nat.add_sub_cancel] at h
     split at h
     ·exact h.elim
     ·exact h.elim
     split at h
     ·rename_i vc σ1 he
      simp only[Option.map_eq_some_iff,Prod.mk.injEq] at he
      obtain⟨⟨vc',p⟩,hm,rfl,rfl⟩:=he
      obtain⟨tr,σ',h1,h2⟩:=ih (by simpa using hl) (h.2 h.1)
      exact⟨_,σ',by simpa using Tr.cons hm h.1 h1,by simpa using h2⟩
     ·exact h.elim
theorem Tr.len {xs:List XOp} {tr:List (Option Nat × PV)} (h:Tr Γ σ xs tr σ'):tr.length=xs.length:=by
 induction h with
 | nil=>rfl
 | cons _ _ _ ih=>simp[ih]
theorem Tr.last {xs:List XOp} {tr:List (Option Nat × PV)} (h:Tr Γ σ xs tr σ'):∀ s,σ'.bx=σ.bx/\σ'.rw=σ.rw/\∀ t,get (.q .no) t σ'.tm=vl (get (.q .no) t σ.tm) t (fun _=>true) s tr:=by
 induction h with
 | nil=>intro s;exact⟨rfl,rfl,fun t=>rfl⟩
 | cons h hvc t ih =>
   intro s
   obtain⟨h1,h2,h3⟩:=ih (s+1)
   refine⟨h1.trans po.1,h2.trans po.2,fun t=>?_⟩
   rw[h3,sM]
   simp only[vl,Bool.true_and,beq_iff_eq]
theorem Tr.at {xs:List XOp} {tr:List (Option Nat × PV)} (h:Tr Γ σ xs tr σ'):∀ (s i:Nat) x,xs[i]?=some x->∃ σi vc p,bN Γ σi x=some (vc,p)/\vc/\tr[i]?=some (x.dst,p)/\σi.bx=σ.bx/\σi.rw=σ.rw /\
 ∀ t,get (.q .no) t σi.tm=vl (get (.q .no) t σ.tm) t (fun j=>decide (j < s+i)) s tr:=by
 induction h with
 | nil=>intro s i x hx;simp at hx
 | @cons σ σ' x0 xs tr vc p h hvc tt ih =>
   intro s i x hx
   cases i with
   | zero =>
     simp only[List.getElem?_cons_zero,Option.some.injEq] at hx
     subst hx
     exact⟨σ,vc,p,h,hvc,by simp,rfl,rfl,fun t=>by rw[pn];intro j p' _;simp⟩
   | succ i =>
     obtain⟨σi,vc',p',h1,h2,h3,h4,h5,h6⟩:=ih (s+1) i x (by simpa using hx)
     refine⟨σi,vc',p',h1,h2,by simpa using h3,h4.trans po.1,h5.trans po.2,fun t=>?_⟩
     rw[h6,sM]
     rw[show s+(i+1)=s+1+i from by omega]
     simp only[vl,show (decide (s < s+1+i))=true from by simp;omega,Bool.true_and,beq_iff_eq]
theorem Tr.stale {xs:List XOp} {tr:List (Option Nat × PV)} (h:Tr Γ σ xs tr σ') {t:Nat} {p:PV} (hp:(t,p) ∈ σ'.tm):p=get (.q .no) t σ'.tm\/((∀ (j:Nat) (p':PV),tr[j]?≠some (some t,p'))/\(t,p) ∈ σ.tm):=by
 induction h with
 | nil=>exact .inr ⟨by simp,hp⟩
 | @cons σ σ' x0 xs tr vc p0 h hvc tt ih =>
   rcases ih hp with h1|⟨h1,h2⟩
   ·exact .inl h1
   ·rcases JA h2 with ⟨h3,rfl⟩|⟨h3,h4⟩
    ·left
     rw[(tt.last 0).2.2,pn (fun j p' hj=>absurd hj (h1 j p')),sM,if_pos h3]
    ·refine .inr ⟨fun j p' hj=>?_,h4⟩
     cases j with
     | zero=>simp at hj;exact h3 hj.1
     | succ j=>exact h1 j p' (by simpa using hj)
end
end Go.Proofs.Pw
namespace Go.Proofs.Pw
open Go.RowKit
variable [Globs]
section
variable {P:Program} {Γ:FuncId->Option Spec} {σ σ':St} {a:Act} {w w':World} {M M':Gh} {X:Nat->Prop} {B n:Nat} {w0:W0} {ops:Array Oper}
def XO.rd:XO->List Nat
 | .t n=>[n]
 | .k _=>[]
def oRd:Option XO->List Nat
 | some x=>x.rd
 | none=>[]
def XK.rd:XK->List Nat
 | .mv x=>x.rd
 | .pick c a b=>c.rd++(a.rd++b.rd)
 | .bin _ _ x y=>x.rd++y.rd
 | .not x=>x.rd
 | .load x _=>x.rd
 | .fa x _=>x.rd
 | .ia x i _=>x.rd++i.rd
 | .idx x i=>x.rd++i.rd
 | .fld x _ _=>x.rd
 | .ext x _=>x.rd
 | .len x _=>x.rd
 | .call _ xs=>xs.flatMap XO.rd
 | .calli f xs=>f.rd++xs.flatMap XO.rd
 | .callr _ xs=>xs.flatMap XO.rd
 | .callo _ xs=>xs.flatMap XO.rd
 | .callb _ xs=>xs.flatMap XO.rd
 | .mm _ x y=>x.rd++y.rd
 | .mkf _ x=>x.rd
 | .sub x lo hi _=>x.rd++(oRd lo++oRd hi)
 | .conv _ x=>x.rd
 | .build _ ps=>ps.flatMap fun p=>p.2.1.rd
 | .bsl _ ps=>ps.flatMap fun p=>p.1.rd
 | .nilc x=>x.rd
 | .st x y _=>x.rd++y.rd
 | .box x _=>x.rd
 | .alloc _=>[]
 | .app x y _ _ ex=>x.rd++(y.rd++ex)
 | .mk x _ _=>x.rd
 | .glb _=>[]
 | .isn x=>x.rd
 | .cap x=>x.rd
 | .clr x _=>x.rd
 | .apn x n _ _=>x.rd++n.rd
 | .capr x=>x.rd
 | .ovl x y=>x.rd++y.rd
 | .cpy x y _=>x.rd++y.rd
 | .bslx _ ps=>ps.flatMap fun p=>p.1.rd
 | .stx x y _=>x.rd++y.rd
 | .appx x y _ _=>x.rd++y.rd
 | .ldx x=>x.rd
 | .callx _ xs=>xs.flatMap XO.rd
 | .callm _ x y=>x.rd++y.rd
 | .bts x=>x.rd
 | .callw _ xs=>xs.flatMap XO.rd
 | .sub3 x y z u _=>x.rd++(y.rd++(z.rd++u.rd))
def XOp.rd (x:XOp):List Nat:=(match x.g with|some (t,_)=>[t]|none=>[])++x.op.rd
def Sm (σ σ':St) (l:List Nat):Prop:=∀ t ∈ l,get (.q .no) t σ.tm=get (.q .no) t σ'.tm
theorem Sm.l {l l':List Nat} (h:Sm σ σ' (l++l')):Sm σ σ' l:=fun t ht=>h t (by simp[ht])
theorem Sm.r {l l':List Nat} (h:Sm σ σ' (l++l')):Sm σ σ' l':=fun t ht=>h t (by simp[ht])
theorem aj {x:XO} (h:Sm σ σ' x.rd):σ.v x=σ'.v x:=by
 cases x with
 | t n=>simp only[St.v];rw[h n (by simp[XO.rd])]
 | k q=>rfl
theorem lr:∀ {xs:List XO},Sm σ σ' (xs.flatMap XO.rd)->fK σ xs=fK σ' xs:=by
 intro xs
 induction xs with
 | nil=>intro _;rfl
 | cons x xs ih =>
   intro h
   rw[List.flatMap_cons] at h
   simp only[fK,aj h.l,ih h.r]
theorem JC (hr:σ.rw=σ'.rw) {qs:List Q}:dG σ qs=dG σ' qs:=by
 induction qs with
 | nil=>rfl
 | cons q qs ih =>
   have:q.toCB σ=q.toCB σ':=by cases q <;> simp only[Q.toCB,hr]
   simp only[dG,this,ih]
theorem JD (hr:σ.rw=σ'.rw):∀ {xs:List XO},Sm σ σ' (xs.flatMap XO.rd)->dk σ xs=dk σ' xs:=by
 intro xs
 induction xs with
 | nil=>intro _;rfl
 | cons x xs ih =>
   intro h
   rw[List.flatMap_cons] at h
   have:∀ p:PV,p.toDB σ=p.toDB σ':=fun p=>by
    cases p with
    | q x => have : x.toCB σ = x.toCB σ' := by cases x <;> simp only [Q.toCB, hr]
             simp only[PV.toDB,this]
    | agg qs=>simp only[PV.toDB,JC hr]
    | _=>rfl
   simp only[dk,aj h.l,ih h.r,this]
theorem yZ:∀ {ps:List (Nat × XO × Option Nat)} {r:Prop × List Q},Sm σ σ' (ps.flatMap fun p=>p.2.1.rd)->dX σ ps r=dX σ' ps r:=by
 intro ps
 induction ps with
 | nil=>intro r _;rfl
 | cons p ps ih =>
   obtain⟨o,x,ag⟩:=p
   intro r h
   rw[List.flatMap_cons] at h
   obtain⟨vc,qs⟩:=r
   simp only[dX,aj h.l]
   split
   ·exact ih h.r
   ·rfl
theorem za {sz:Nat}:∀ {ps:List (XO × Option Nat)},Sm σ σ' (ps.flatMap fun p=>p.1.rd)->fc σ sz ps=fc σ' sz ps:=by
 intro ps
 induction ps with
 | nil=>intro _;rfl
 | cons p ps ih =>
   obtain⟨x,ag⟩:=p
   intro h
   rw[List.flatMap_cons] at h
   simp only[fc,aj h.l,ih h.r]
theorem ls {d:Int} {x:Option XO} (h:Sm σ σ' (oRd x)):loX σ d x=loX σ' d x:=by
 cases x with
 | none=>rfl
 | some x=>simp only[loX];rw[aj h]
theorem zc (hb:σ.bx=σ'.bx) (hr:σ.rw=σ'.rw) {k:XK} (h:Sm σ σ' k.rd):ah Γ σ k=ah Γ σ' k:=by
 cases k with
 | mv x=>simp only[ah,aj h]
 | pick c a b=>simp only[ah,aj h.l,aj h.r.l,aj h.r.r]
 | bin bl op x y=>simp only[ah,aj h.l,aj h.r]
 | not x=>simp only[ah,aj h]
 | load x ag=>simp only[ah,aj h,hb,hr]
 | fa x off=>simp only[ah,aj h]
 | ia x i sz=>simp only[ah,aj h.l,aj h.r,hr]
 | idx x i=>simp only[ah,aj h.l,aj h.r]
 | fld x off ag=>simp only[ah,aj h]
 | ext x i=>simp only[ah,aj h]
 | len x str=>cases str <;> simp only[ah,aj h,hr]
 | call f xs=>simp only[ah,fd,lr h]
 | calli f xs=>simp only[ah,fd,aj h.l,lr h.r]
 | callr f xs=>rfl
 | callo f xs=>rfl
 | sub3 x y z u sz=>simp only[ah,aj h.l,aj h.r.l,aj h.r.r.l,aj h.r.r.r,hr]
 | callb f xs=>simp only[ah,jA,JD hr h]
 | mm mx x y=>simp only[ah,aj h.l,aj h.r]
 | mkf f x=>rfl
 | sub x lo hi sz=>cases sz <;> simp only[ah,aj h.l,ls h.r.l,ls h.r.r,hr]
 | isn x=>simp only[ah,aj h,hr]
 | cap x=>simp only[ah,aj h]
 | clr x zs=>rfl
 | apn x n zs bytes=>rfl
 | capr x=>rfl
 | ovl x y=>simp only[ah,aj h.l,aj h.r,hr]
 | cpy x y sz=>rfl
 | bslx sz ps=>rfl
 | stx x y ag=>rfl
 | appx x y sz bytes=>rfl
 | ldx x=>rfl
 | callx f xs=>rfl
 | callm f x y=>rfl
 | bts x=>simp only[ah,aj h]
 | callw f xs=>simp only[ah,nq,lr h]
 | conv k x=>simp only[ah,aj h]
 | build zs ps=>simp only[ah,yZ h]
 | bsl sz ps =>
   cases ps with
   | nil=>rfl
   | cons p ps=>simp only[ah,za h]
 | nilc x=>simp only[ah,aj h]
 | st x y ag=>rfl
 | box x ag=>rfl
 | alloc zs=>rfl
 | app x y sz bytes ex=>rfl
 | mk x zs bytes=>rfl
 | glb i=>rfl
theorem JE (hb:σ.bx=σ'.bx) (hr:σ.rw=σ'.rw) {x:XOp} (h:Sm σ σ' x.rd):bN Γ σ x=bN Γ σ' x:=by
 unfold XOp.rd at h
 unfold bN
 cases hg:x.g with
 | none=>rw[hg] at h;exact zc hb hr h.r
 | some tw =>
   obtain⟨t,want⟩:=tw
   rw[hg] at h
   simp only
   rw[h t (by simp),zc hb hr h.r]
theorem JF {t:Nat}:∀ {l:List Nat},t ∈ l->get (PV.q .no) t (l.map fun t=>(t,get (.q .no) t σ.tm))=get (.q .no) t σ.tm:=by
 intro l
 induction l with
 | nil=>intro h;simp at h
 | cons u l ih =>
   intro h
   simp only[List.map_cons,get]
   split
   ·rename_i he;rw[he]
   ·rename_i hne
    rcases List.mem_cons.1 h with h|h
    ·exact absurd h.symm hne
    ·exact ih h
def uni (a:List Nat):List Nat->List Nat
 | []=>a
 | x::r=>if a.contains x then uni a r else uni (x::a) r
theorem JG {j:Nat}:∀ {b a:List Nat},j ∈ uni a b->j ∈ a\/j ∈ b:=by
 intro b
 induction b with
 | nil=>intro a h;exact .inl h
 | cons x r ih =>
   intro a h
   simp only[uni] at h
   split at h
   ·rcases ih h with h|h
    ·exact .inl h
    ·exact .inr (by simp[h])
   ·rcases ih h with h|h
    ·rcases List.mem_cons.1 h with rfl|h
     ·exact .inr (by simp)
     ·exact .inl h
    ·exact .inr (by simp[h])
def lu (acc:List (List Nat)):List Edge->List Nat
 | []=>[]
 | e::es=>bif Region.binds .any e then uni (lu acc es) (e.on::acc.getD e.on []) else lu acc es
theorem JH {acc:List (List Nat)} {j:Nat}:∀ {es:List Edge},j ∈ lu acc es->∃ e ∈ es,Region.binds .any e=true/\(j=e.on\/j ∈ acc.getD e.on []):=by
 intro es
 induction es with
 | nil=>intro h;simp[lu] at h
 | cons e es ih =>
   intro h
   simp only[lu] at h
   cases hb:Region.binds .any e with
   | true =>
     rw[hb,cond_true] at h
     rcases JG h with h|h
     ·obtain⟨e',h1,h2⟩:=ih h;exact⟨e',by simp[h1],h2⟩
     ·exact⟨e,by simp,hb,by simpa using h⟩
   | false =>
     rw[hb,cond_false] at h
     obtain⟨e',h1,h2⟩:=ih h;exact⟨e',by simp[h1],h2⟩
def jJ (o:Oper) (acc:List (List Nat)):List Nat:=lu acc o.after.toList
def dl:List Oper->List (List Nat)->List (List Nat)
 | [],acc=>acc
 | o::os,acc=>dl os (acc++[jJ o acc])
def fQ (ops:Array Oper) (L:Nat->Bool):Prop:=∀ (i:Nat) o,ops[i]?=some o->L i=true->∀ e ∈ o.after,Region.binds .any e=true->L e.on=true
def pp (ops:Array Oper) (acc:List (List Nat)):Prop:=∀ (i:Nat) o,ops[i]?=some o->i < acc.length->∀ j ∈ acc.getD i [],∀ L,fQ ops L->(∀ e ∈ o.after,Region.binds .any e=true->L e.on=true)->L j=true
theorem zd:∀ {os:List Oper} {acc:List (List Nat)},(∀ j,os[j]?=ops[acc.length+j]?)->pp ops acc->pp ops (dl os acc):=by
 intro os
 induction os with
 | nil=>intro acc _ h;exact h
 | cons o os ih =>
   intro acc hl h
   refine ih (fun j=>by have:=hl (j+1);simpa [Nat.add_assoc,Nat.add_comm 1 j] using this) ?_
   intro i o' ho hi j hj L hc he
   by_cases hlt:i < acc.length
   ·refine h i o' ho hlt j ?_ L hc he
    simpa [List.getD_eq_getElem?_getD,List.getElem?_append_left hlt] using hj
   ·have hie:i=acc.length:=by simp at hi;omega
    subst hie
    have h0:=hl 0
    simp only[List.getElem?_cons_zero,Nat.add_zero,ho,Option.some.injEq] at h0
    subst h0
    rw[List.getD_eq_getElem?_getD,List.getElem?_append_right (Nat.le_refl _),Nat.sub_self,List.getElem?_cons_zero,Option.getD_some] at hj
    obtain⟨e,hem,hb,hj⟩:=JH hj
    have hem':e ∈ o.after:=by simpa using hem
    have h1:=he e hem' hb
    rcases hj with rfl|hj
    ·exact h1
    ·by_cases hel:e.on < acc.length
     ·cases hoe:ops[e.on]? with
      | none =>
        have h2:=(Array.getElem?_eq_some_iff.1 ho).1
        have h3:=Array.getElem?_eq_none_iff.1 hoe
        omega
      | some oe=>exact h e.on oe hoe hel j hj L hc (hc e.on oe hoe h1)
     ·rw[List.getD_eq_getElem?_getD,List.getElem?_eq_none (by omega)] at hj
      simp at hj
def pq (x y:XOp):Bool:=match y.dst with
 | none=>true
 | some t=>!x.rd.contains t && x.dst != some t
def sN (an:List (List Nat)) (x y:XOp) (i j:Nat):Bool:=i == j || pq x y || (decide (j < i) && (an.getD i []).contains j) || (decide (i < j) && (an.getD j []).contains i)
def pr (an:List (List Nat)) (xs:List XOp):Bool:=xs.zipIdx.all fun x=>xs.zipIdx.all fun y=>sN an x.1 y.1 x.2 y.2
def lv (ops:Array Oper):Bool:=ops.toList.zipIdx.all fun o=>o.1.after.all fun e=>!Region.binds .any e || decide (e.on < o.2)
def nG (an:List (List Nat)) (npre m:Nat):Bool:=(List.range m).all fun k=>decide (k < npre) || (List.range k).all fun j=>(an.getD k []).contains j
def nH (ops:Array Oper) (xs:List XOp) (npre:Nat):Bool :=
 decide (npre<=xs.length) && lv ops && nG (dl ops.toList []) npre xs.length && pr (dl ops.toList []) (xs.take npre)
end
end Go.Proofs.Pw
namespace Go.Proofs.Pw
open Go.RowKit
variable [Globs]
section
variable {P:Program} {Γ:FuncId->Option Spec} {σ σ':St} {a:Act} {w w':World} {M M':Gh} {X:Nat->Prop} {B n:Nat} {w0:W0} {ops:Array Oper}
def Lst (listed:Array Bool) (i:Nat):Bool:=listed.getD i false
def cnt (listed:Array Bool):Nat:=listed.toList.countP fun b=>!b
theorem sO {listed:Array Bool} (h:cnt listed=0) {i:Nat} (hi:i < listed.size):Lst listed i=true:=by
 unfold cnt at h
 rw[List.countP_eq_zero] at h
 have:=h listed[i] (by simp)
 simpa [Lst,Array.getD,hi] using this
theorem sP {listed:Array Bool} {i:Nat} (hi:i < listed.size) (h:Lst listed i=false):cnt (listed.setIfInBounds i true)+1=cnt listed:=by
 have hx:listed[i]=false:=by simpa [Lst,Array.getD,hi] using h
 have hpos:0 < listed.toList.countP fun b=>!b:=List.countP_pos_iff.2 ⟨listed[i],by simp,by simp[hx]⟩
 unfold cnt
 rw[Array.toList_setIfInBounds,List.countP_set (by simpa using hi)]
 simp only[Array.getElem_toList,hx,Bool.not_false,if_true,Bool.not_true,Bool.false_eq_true,if_false]
 omega
theorem fh {listed:Array Bool} {i j:Nat} (hi:i < listed.size):Lst (listed.setIfInBounds i true) j=(Lst listed j || decide (j=i)):=by
 simp only[Lst,Array.getD_eq_getD_getElem?,Array.getElem?_setIfInBounds]
 by_cases h:i=j
 ·subst h;simp[hi]
 ·rw[if_neg h];simp[show ¬ j=i from fun e=>h e.symm]
theorem nI {listed:Array Bool} {i:Nat} (hsz:listed.size=ops.size):i ∈ Region.ready .any ops listed ↔ i < ops.size/\Lst listed i=false/\∃ o,ops[i]?=some o/\∀ e ∈ o.after,Region.binds .any e=true->Lst listed e.on=true:=by
 simp only[Region.ready,List.mem_filter,List.mem_range,Bool.and_eq_true,Bool.not_eq_true']
 constructor
 ·rintro⟨h1,h2,h3⟩
  refine⟨h1,?_,?_⟩
  ·simpa [Lst,Array.getD,hsz,h1] using h2
  ·cases ho:ops[i]? with
   | none=>rw[ho] at h3;simp at h3
   | some o =>
     rw[ho] at h3
     simp only[Option.map_some,Option.getD_some,Array.all_eq_true_iff_forall_mem] at h3
     refine⟨o,rfl,fun e he hb=>?_⟩
     have:=h3 e he
     simpa [hb,Lst] using this
 ·rintro⟨h1,h2,o,ho,h3⟩
  refine⟨h1,?_,?_⟩
  ·simpa [Lst,Array.getD,hsz,h1] using h2
  ·rw[ho]
   simp only[Option.map_some,Option.getD_some,Array.all_eq_true_iff_forall_mem]
   intro e he
   cases hb:Region.binds .any e with
   | false=>simp
   | true=>simpa [Lst] using h3 e he hb
theorem JI (h:lv ops=true) {i:Nat} {o:Oper} (ho:ops[i]?=some o) {e:Edge} (he:e ∈ o.after) (hb:Region.binds .any e=true):e.on < i:=by
 unfold lv at h
 rw[List.all_eq_true] at h
 have:=h (o,i) (List.mem_zipIdx_iff_getElem?.2 (by simpa using ho))
 rw[Array.all_eq_true_iff_forall_mem] at this
 simpa [hb] using this e he
theorem sQ (h:lv ops=true) {listed:Array Bool} (hsz:listed.size=ops.size):∀ (i:Nat),i < ops.size->Lst listed i=false->∃ r,r ∈ Region.ready .any ops listed:=by
 intro i
 induction i using Nat.strongRecOn with
 | _ i ih =>
   intro hi hl
   by_cases hall:∀ j,j < i->Lst listed j=true
   ·refine⟨i,(nI hsz).2 ⟨hi,hl,ops[i],by simp[hi],fun e he hb=>hall _ (JI h (by simp[hi]) he hb)⟩⟩
   ·simp only[Classical.not_forall] at hall
    obtain⟨j,hj,hn⟩:=hall
    exact ih j hj (by omega) (by simpa using hn)
theorem sR {npre m:Nat} (h:nG (dl ops.toList []) npre m=true) {listed:Array Bool} (hc:fQ ops (Lst listed)) {i:Nat} {o:Oper} (ho:ops[i]?=some o) (him:i < m) (hn:npre<=i)
 (he:∀ e ∈ o.after,Region.binds .any e=true->Lst listed e.on=true):∀ j,j < i->Lst listed j=true:=by
 intro j hj
 unfold nG at h
 rw[List.all_eq_true] at h
 have:=h i (by simpa using him)
 simp only[Bool.or_eq_true,decide_eq_true_eq,List.all_eq_true,List.mem_range] at this
 have hmem:=(this.resolve_left (by omega)) j hj
 have hanc:pp ops (dl ops.toList []):=zd (by simp) (fun i o _ hi=>by simp at hi)
 by_cases hlen:i < (dl ops.toList []).length
 ·exact hanc i o ho hlen j (by simpa using hmem) _ hc he
 ·rw[List.getD_eq_getElem?_getD,List.getElem?_eq_none (by omega)] at hmem
  simp at hmem
theorem sT {an:Nat} {listed:Array Bool} (hc:fQ ops (Lst listed)) {i:Nat} {o:Oper} (ho:ops[i]?=some o)
 (he:∀ e ∈ o.after,Region.binds .any e=true->Lst listed e.on=true) (hm:an ∈ (dl ops.toList []).getD i []):Lst listed an=true:=by
 have hanc:pp ops (dl ops.toList []):=zd (by simp) (fun i o _ hi=>by simp at hi)
 by_cases hlen:i < (dl ops.toList []).length
 ·exact hanc i o ho hlen an hm _ hc he
 ·rw[List.getD_eq_getElem?_getD,List.getElem?_eq_none (by omega)] at hm
  simp at hm
theorem sU {listed:Array Bool} (hc:fQ ops (Lst listed)) {i:Nat} {o:Oper} (hi:i < listed.size) (ho:ops[i]?=some o)
 (he:∀ e ∈ o.after,Region.binds .any e=true->Lst listed e.on=true):fQ ops (Lst (listed.setIfInBounds i true)):=by
 intro j oj hj hl e hem hb
 rw[fh hi] at hl ⊢
 simp only[Bool.or_eq_true,decide_eq_true_eq] at hl ⊢
 rcases hl with hl|rfl
 ·exact .inl (hc j oj hj hl e hem hb)
 ·rw[ho] at hj;cases hj
  exact .inl (he e hem hb)
theorem sV {n:Nat}:∀ {os:List Oper} {xs:List XOp} {i:Nat} {o:Oper},ct P n ops os xs=true->os[i]?=some o->∃ x,xs[i]?=some x/\ce P n ops o x=true:=by
 intro os
 induction os with
 | nil=>intro xs i o _ h;simp at h
 | cons o' os ih =>
   intro xs i o hok h
   cases xs with
   | nil=>simp[ct] at hok
   | cons x xs =>
     simp only[ct,Bool.and_eq_true] at hok
     cases i with
     | zero=>simp at h;subst h;exact⟨x,rfl,hok.1⟩
     | succ i=>simpa using ih hok.2 (by simpa using h)
theorem sW {n:Nat}:∀ {os:List Oper} {xs:List XOp},ct P n ops os xs=true->os.length=xs.length:=by
 intro os
 induction os with
 | nil=>intro xs h;cases xs with
   | nil=>rfl
   | cons _ _=>simp[ct] at h
 | cons o os ih=>intro xs h;cases xs with
   | nil=>simp[ct] at h
   | cons x xs =>
     simp only[ct,Bool.and_eq_true] at h
     simp[ih h.2]
theorem sX (G:GOK P Γ) {E:Exit->Act->World->Prop} {K:St->Prop} (hK:∀ σ' a' w' M',K σ'->Sim X n B w0 σ' a' w' M'->E .normal a' w') {xs:List XOp} {npre:Nat} (hok:ct P n ops ops.toList xs=true)
 (hed:lv ops=true) (htl:nG (dl ops.toList []) npre xs.length=true) :
 ∀ (fuel k:Nat) (listed:Array Bool) (σ:St) (a:Act) (w:World) (M:Gh),npre<=k->k<=ops.size->listed.size=ops.size->(∀ i,i < ops.size->Lst listed i=decide (i < k))->fQ ops (Lst listed)->cnt listed<=fuel ->
  Sim X n B w0 σ a w M->cn Γ 0 (xs.drop k) σ K->wpAny P .any ops E fuel listed a w:=by
 have hlen:ops.size=xs.length:=by simpa using sW hok
 intro fuel
 induction fuel with
 | zero =>
   intro k listed σ a w M hk hks hsz hl hcl hc hs hr
   have hkk:k=ops.size:=by
    by_cases h:k=ops.size
    ·exact h
    ·have h1:=sO (by omega:cnt listed=0) (i:=k) (by omega)
     rw[hl k (by omega)] at h1;simp at h1
   refine⟨?_,?_⟩
   ·rw[List.eq_nil_iff_forall_not_mem]
    intro i hi
    obtain⟨h1,h2,_⟩:=(nI hsz).1 hi
    rw[hl i h1] at h2
    simp at h2;omega
   ·rw[hkk,hlen,List.drop_length] at hr
    exact hK σ a w M hr hs
 | succ fuel ih =>
   intro k listed σ a w M hk hks hsz hl hcl hc hs hr
   refine⟨fun hnil=>?_,fun i hi=>?_⟩
   ·have hkk:k=ops.size:=by
     by_cases h:k=ops.size
     ·exact h
     ·obtain⟨r,hr⟩:=sQ hed hsz k (by omega) (by rw[hl k (by omega)];simp)
      rw[hnil] at hr;simp at hr
    rw[hkk,hlen,List.drop_length] at hr
    exact hK σ a w M hr hs
   ·obtain⟨h1,h2,o,ho,he⟩:=(nI hsz).1 hi
    have hik:k<=i:=by rw[hl i h1] at h2;simpa using h2
    have hall:=sR htl hcl ho (by omega) (by omega) he
    have hki:i=k:=by
     by_cases h:i=k
     ·exact h
     ·have:=hall k (by omega)
      rw[hl k (by omega)] at this;simp at this
    subst hki
    obtain⟨x,hx,hop⟩:=sV hok (by simpa using ho)
    rw[List.drop_eq_getElem_cons (by omega)] at hr
    have hx':xs[i]'(by omega)=x:=by
     rw[List.getElem?_eq_getElem (by omega)] at hx;simpa using hx
    rw[hx'] at hr
    simp only[cn] at hr
    unfold wpOp
    rw[ho]
    have key:=sL (K:=wpAny P .any ops E fuel (listed.setIfInBounds i true)) (E:=E) G hop hs hr (fun σ1 a' w' M' hk h=>ih (i+1) _ σ1 a' w' M' (by omega) (by omega) (by simpa using hsz) (fun j hj=>by
     rw[fh (by omega),hl j hj]
     rw[<-Bool.decide_or]
     congr 1
     exact propext ⟨fun h=>by omega,fun h=>by omega⟩) (sU hcl (by omega) ho he) (by have:=sP (listed:=listed) (i:=i) (by omega) h2;omega) h hk)
    simp only
    split
    ·rename_i hw;rw[if_pos hw] at key;exact .inl key
    ·rename_i hw;rw[if_neg hw] at key;exact key
end
end Go.Proofs.Pw
namespace Go.Proofs.Pw
open Go.RowKit
variable [Globs]
section
variable {P:Program} {Γ:FuncId->Option Spec} {σ σ':St} {a:Act} {w w':World} {M M':Gh} {X:Nat->Prop} {B n:Nat} {w0:W0} {ops:Array Oper}
theorem JJ {an:List (List Nat)} {xs:List XOp} (h:pr an xs=true) {i j:Nat} {x y:XOp} (hx:xs[i]?=some x) (hy:xs[j]?=some y):sN an x y i j=true:=by
 unfold pr at h
 rw[List.all_eq_true] at h
 have h1:=h (x,i) (List.mem_zipIdx_iff_getElem?.2 hx)
 rw[List.all_eq_true] at h1
 exact h1 (y,j) (List.mem_zipIdx_iff_getElem?.2 hy)
theorem ze {xs:List XOp} {npre:Nat} (hp:pr (dl ops.toList []) (xs.take npre)=true) {listed:Array Bool} (hcl:fQ ops (Lst listed)) {i j:Nat} {x y:XOp} {o:Oper} (hi:Lst listed i=false) (ho:ops[i]?=some o)
 (he:∀ e ∈ o.after,Region.binds .any e=true->Lst listed e.on=true) (hj:j < ops.size) (hx:(xs.take npre)[i]?=some x) (hy:(xs.take npre)[j]?=some y) (hf:pq x y=false) :
 Lst listed j=decide (j < i):=by
 have h:=JJ hp hx hy
 unfold sN at h
 rw[hf] at h
 simp only[Bool.or_false,Bool.or_eq_true,beq_iff_eq,Bool.and_eq_true,decide_eq_true_eq,List.contains_iff_mem] at h
 rcases h with (rfl|⟨h1,h2⟩)|⟨h1,h2⟩
 ·rw[hi];simp
 ·rw[sT hcl ho he h2];simp[h1]
 ·have:Lst listed j=false:=by
   cases hl:Lst listed j with
   | false=>rfl
   | true =>
     have hoj:ops[j]?=some ops[j]:=by simp[hj]
     have:=sT hcl hoj (hcl j _ hoj hl) h2
     rw[hi] at this;cases this
  rw[this];simp;omega
theorem JK {d:Nat} {v:Value} (h:d < a.tmps.size):(a.put (some d) v).tmps.getD d undef=v:=by
 simp[Act.put,Array.getD_eq_getD_getElem?,h]
theorem zf {dst:Option Nat} {t:Nat} {v:Value} (h:dst≠some t):(a.put dst v).tmps.getD t undef=a.tmps.getD t undef:=by
 cases dst with
 | none=>rfl
 | some d =>
   simp only[Act.put,Array.getD_eq_getD_getElem?,Array.getElem?_setIfInBounds]
   rw[if_neg (fun e=>h (by rw[e]))]
theorem JL (G:GOK P Γ) {E:Exit->Act->World->Prop} {K:St->Prop} (hK:∀ σ' a' w' M',K σ'->Sim X n B w0 σ' a' w' M'->E .normal a' w') {xs:List XOp} {npre:Nat} (hok:ct P n ops ops.toList xs=true)
 (hdr:nH ops xs npre=true) {σ0 σk:St} {tr:List (Option Nat × PV)} (htr:Tr Γ σ0 (xs.take npre) tr σk) (hrun:cn Γ 0 (xs.drop npre) σk K) :
 ∀ (fuel:Nat) (listed:Array Bool) (a:Act) (w:World) (M:Gh),listed.size=ops.size->fQ ops (Lst listed)->(∀ i,i < ops.size->Lst listed i=true->i < npre)->cnt listed<=fuel ->
  Sim X n B w0 { σ0 with tm:=[] } a w M->(∀ t,ak w M (vl (get (.q .no) t σ0.tm) t (Lst listed) 0 tr) (a.tmps.getD t undef)) ->
  (∀ t p,(t,p) ∈ σ0.tm->(∀ (j:Nat) p',tr[j]?=some (some t,p')->Lst listed j=false)->ak w M p (a.tmps.getD t undef))->wpAny P .any ops E fuel listed a w:=by
 have hlen:ops.size=xs.length:=by simpa using sW hok
 simp only[nH,Bool.and_eq_true,decide_eq_true_eq] at hdr
 obtain⟨⟨⟨hn,hed⟩,htl⟩,hpr⟩:=hdr
 have htlen:tr.length=npre:=by rw[htr.len,List.length_take];omega
 intro fuel
 induction fuel with
 | zero =>
   intro listed a w M hsz hcl hpre hc hs hag hst
   have hall:∀ i,i < npre->Lst listed i=true:=fun i hi=>sO (by omega) (by omega)
   obtain⟨hb,hr,hlast⟩:=htr.last 0
   refine sX G hK hok hed htl 0 npre listed σk a w M (Nat.le_refl _) (by omega) hsz (fun i hi=>?_) hcl hc ⟨hs.size,hs.defs,fun t p hp=>?_,by rw[hb,hr];exact hs.mem,hs.fr,hs.hB,hs.sS,hs.sβ,hs.sρ⟩ hrun
   ·by_cases h:i < npre
    ·rw[hall i h];simp[h]
    ·cases hl:Lst listed i with
     | false=>simp[h]
     | true=>exact absurd (hpre i hi hl) h
   ·rcases htr.stale hp with rfl|⟨h1,h2⟩
    ·rw[hlast t,pm (L':=Lst listed) (fun j p' hj=>by rw[Nat.zero_add,hall j (by rw[<-htlen];exact (List.getElem?_eq_some_iff.1 hj).1)])]
     exact hag t
    ·exact hst t p h2 (fun j p' hj=>absurd hj (h1 j p'))
 | succ fuel ih =>
   intro listed a w M hsz hcl hpre hc hs hag hst
   by_cases hall:∀ i,i < npre->Lst listed i=true
   ·obtain⟨hb,hr,hlast⟩:=htr.last 0
    refine sX G hK hok hed htl (fuel+1) npre listed σk a w M (Nat.le_refl _) (by omega) hsz (fun i hi=>?_) hcl hc ⟨hs.size,hs.defs,fun t p hp=>?_,by rw[hb,hr];exact hs.mem,hs.fr,hs.hB,hs.sS,hs.sβ,hs.sρ⟩ hrun
    ·by_cases h:i < npre
     ·rw[hall i h];simp[h]
     ·cases hl:Lst listed i with
      | false=>simp[h]
      | true=>exact absurd (hpre i hi hl) h
    ·rcases htr.stale hp with rfl|⟨h1,h2⟩
     ·rw[hlast t,pm (L':=Lst listed) (fun j p' hj=>by rw[Nat.zero_add,hall j (by rw[<-htlen];exact (List.getElem?_eq_some_iff.1 hj).1)])]
      exact hag t
     ·exact hst t p h2 (fun j p' hj=>absurd hj (h1 j p'))
   ·refine⟨fun hnil=>?_,fun i hi=>?_⟩
    ·simp only[Classical.not_forall] at hall
     obtain⟨i,hi,hl⟩:=hall
     obtain⟨r,hr⟩:=sQ hed hsz i (by omega) (by simpa using hl)
     rw[hnil] at hr;simp at hr
    ·obtain⟨h1,h2,o,ho,he⟩:=(nI hsz).1 hi
     by_cases hin:npre<=i
     ·exact absurd (fun j hj=>sR htl hcl ho (by omega) hin he j (by omega)) hall
     ·obtain⟨x,hx,hop⟩:=sV hok (by simpa using ho)
      have hxt:(xs.take npre)[i]?=some x:=by rw[List.getElem?_take,if_pos (by omega)];exact hx
      obtain⟨σi,vc,p,hst',hvc,hti,hb,hr,hget⟩:=htr.at 0 i x hxt
      have hwr:∀ (j:Nat) t p',tr[j]?=some (some t,p')->∃ y,(xs.take npre)[j]?=some y/\y.dst=some t/\j < ops.size:=fun j t p' hj=>by
       have hjl:j < npre:=by rw[<-htlen];exact (List.getElem?_eq_some_iff.1 hj).1
       have hjx:j < xs.length:=by omega
       have hy:(xs.take npre)[j]?=some xs[j]:=by rw[List.getElem?_take,if_pos hjl];simp[hjx]
       obtain⟨_,_,q,_,_,hq,_⟩:=htr.at 0 j _ hy
       rw[hq] at hj
       simp only[Option.some.injEq,Prod.mk.injEq] at hj
       exact⟨_,hy,hj.1,by omega⟩
      obtain⟨hd1,hd2⟩:=fP hop
      unfold wpOp
      rw[ho]
      have hkeep:bN Γ { σi with tm:=x.rd.map fun t=>(t,get (.q .no) t σi.tm) } x=some (vc,p):=by
       rw[<-hst']
       exact JE (σ:={ σi with tm:=x.rd.map fun t=>(t,get (.q .no) t σi.tm) }) (σ':=σi) rfl rfl (fun t ht=>JF (σ:=σi) ht)
      have key:=yX (K:=wpAny P .any ops E fuel (listed.setIfInBounds i true)) (E:=E) G hop hkeep hvc (a:=a) (w:=w) (M:=M) (X:=X) (B:=B) (fun t q hq=>by
       simp only[List.mem_map,Prod.mk.injEq] at hq
       obtain⟨t',ht',rfl,rfl⟩:=hq
       rw[hget,pm (L':=Lst listed)]
       ·exact hag t'
       ·intro j p' hj
        obtain⟨y,hy,hyd,hjs⟩:=hwr j _ p' hj
        rw[Nat.zero_add,Nat.zero_add]
        refine (ze hpr hcl h2 ho he hjs hxt hy ?_).symm
        simp only[pq,hyd,Bool.and_eq_false_iff,Bool.not_eq_false']
        exact .inl (by simpa using ht'))
       (by rw[show ({ σi with tm:=x.rd.map fun t=>(t,get (.q .no) t σi.tm) }:St).bx=σ0.bx from hb,show ({ σi with tm:=x.rd.map fun t=>(t,get (.q .no) t σi.tm) }:St).rw=σ0.rw from hr];exact hs.mem)
       (fun v w' M' hu hv=>by
        refine ih (listed.setIfInBounds i true) (a.put o.dst v) w' M' (by simpa using hsz) (sU hcl (by omega) ho he) (fun j hj hl=>?_) (by have:=sP (listed:=listed) (i:=i) (by omega) h2;omega) ⟨?_,?_,?_,?_,?_,?_,hs.upS hu,by rw[hu.β];exact hs.sβ,by rw[hu.ρ];exact hs.sρ⟩ (fun t=>?_) (fun t q hq hnw=>?_)
        ·rw[fh (by omega)] at hl
         simp only[Bool.or_eq_true,decide_eq_true_eq] at hl
         rcases hl with hl|rfl
         ·exact hpre j hj hl
         ·omega
        ·have:=hs.size
         cases hdd:o.dst <;> simpa [Act.put] using this
        ·have:=hs.defs
         cases hdd:o.dst <;> simpa [Act.put] using this
        ·intro t q hq;simp at hq
        ·exact hs.mem.up hu (fun _ _ _ h=>h) (fun _ _ _ _ _ h=>h)
        ·exact hs.fr.trans (hu.fr.weak hs.hB (fun _ _ h=>h.elim))
        ·exact Nat.le_trans hs.hB hu.fr.size
        ·by_cases hdt:o.dst=some t
         ·rw[hdt,JK (by rw[hs.size];exact hd2 t hdt)]
          rw[hd1] at hdt
          rw[hdt] at hti
          rw[Jx hti (by rw[Nat.zero_add,fh (by omega)];simp) (fun j' p' hlt hj'=>by
           obtain⟨y,hy,hyd,hjs⟩:=hwr j' _ p' hj'
           rw[Nat.zero_add,fh (by omega),ze hpr hcl h2 ho he hjs hxt hy (by simp[pq,hyd,hdt])]
           simp;omega)]
          exact hv
         ·rw[zf hdt]
          rw[pm (L':=Lst listed) (fun j p' hj=>by
           rw[Nat.zero_add,fh (by omega)]
           by_cases hji:j=i
           ·subst hji
            rw[hti] at hj
            simp only[Option.some.injEq,Prod.mk.injEq] at hj
            exact absurd (hd1.trans hj.1) hdt
           ·simp[hji])]
          exact hu.v hs.mem.lt (hag t)
        ·by_cases hdt:o.dst=some t
         ·have:=hnw i p (by rw[hti,<-hd1,hdt])
          rw[fh (by omega)] at this
          simp at this
         ·rw[zf hdt]
          refine hu.v hs.mem.lt (hst t q hq (fun j p' hj=>?_))
          have:=hnw j p' hj
          rw[fh (by omega)] at this
          simp only[Bool.or_eq_false_iff] at this
          exact this.1)
      simp only
      split
      ·rename_i hw;rw[if_pos hw] at key;exact .inl key
      ·rename_i hw;rw[if_neg hw] at key;exact key
theorem Sim.drew (hs:Sim X n B w0 σ a w M):Sim X n B w0 σ a { w with drawn:=w.drawn+1 } M:=by
 have hu:Up (fun _=>False) w M { w with drawn:=w.drawn+1 } M:=⟨rfl,rfl,fun _ h=>h,fun _ h=>.inl h,hs.mem.lt,fun _ _ h=>h,⟨rfl,rfl,rfl,Nat.le_refl _,fun _ _ _=>rfl⟩⟩
 exact⟨hs.size,hs.defs,fun t p h=>hu.v hs.mem.lt (hs.tm t p h),hs.mem.up hu (fun _ _ _ h=>h) (fun _ _ _ _ _ h=>h),hs.fr.trans (hu.fr.weak hs.hB (fun _ _ h=>h.elim)),hs.hB,hs.sS,hs.sβ,hs.sρ⟩
theorem JM (hm:P.follows .mixedOrders=true) (G:GOK P Γ) {E:Exit->Act->World->Prop} {K:St->Prop} (hK:∀ σ' a' w' M',K σ'->Sim X n B w0 σ' a' w' M'->E .normal a' w') {xs:List XOp} {npre:Nat} (hok:ct P n ops ops.toList xs=true)
 (hdr:nH ops xs npre=true) (hs:Sim X n B w0 σ a w M) (hr:cn Γ npre xs σ K) {id:Nat}:(Code.region id ops true).wp P E a w:=by
 have hn:npre<=xs.length:=by
  simp only[nH,Bool.and_eq_true,decide_eq_true_eq] at hdr
  exact hdr.1.1.1
 obtain⟨tr,σk,h1,h2⟩:=JB hn hr
 have hs':=hs.drew
 have hL:∀ i,Lst (Array.replicate ops.size false) i=false:=fun i=>by
  simp only[Lst,Array.getD_eq_getD_getElem?,Array.getElem?_replicate]
  split <;> rfl
 refine wp_region_any hm (JL G hK hok hdr h1 h2 ops.size _ a _ M (by simp) (fun i o _ hl=>?_) (fun i _ hl=>?_) ?_ ⟨hs'.size,hs'.defs,fun t q h=>?_,hs'.mem,hs'.fr,hs'.hB,hs'.sS,hs'.sβ,hs'.sρ⟩ (fun t=>?_) (fun t p hp _=>hs'.tm t p hp))
 ·rw[hL] at hl;cases hl
 ·rw[hL] at hl;cases hl
 ·refine Nat.le_trans (List.countP_le_length ..) (by simp)
 ·simp at h
 ·rw[pn (fun j p _=>hL _)]
  exact gJ hs'.tm t
end
end Go.Proofs.Pw
namespace Go.Proofs.Pw
open Go.RowKit
variable [Globs]
abbrev Kil:=Option (Bool × Nat)
def ay:Kil->Q->Q
 | none=>id
 | some (false,d)=>Q.killB d
 | some (true,d)=>Q.killO d
structure Updr where
 s:Option PV
 bs:List (Nat × List Q)
 rs:List (Nat × Nat × List (List C))
def updL {α:Type}:List (Nat × α)->List (Nat × α)->List (Nat × α)
 | [],l=>l
 | u::us,l=>updL us (upd u.1 u.2 l)
def St.kil (k:Kil) (σ:St):St:=match k with
 | none=>σ
 | some _=>σ.map (ay k)
def putO (d:Option Nat) (s:Option PV) (l:List (Nat × PV)):List (Nat × PV):=match d,s with
 | some d,some p=>upd d p l
 | _,_=>l
def Updr.app (k:Kil) (d:Option Nat) (u:Updr) (σ:St):St:=⟨putO d u.s (σ.kil k).tm,updL u.bs (σ.kil k).bx,updL u.rs (σ.kil k).rw⟩
def PV.ids:PV->List (Bool × Nat)
 | .q (.box i _)=>[(false,i)]
 | .q (.rp i _ _ _)=>[(true,i)]
 | .q (.own i)=>[(true,i)]
 | .q (.vw i _ _ _)=>[(true,i)]
 | .q (.vc i _ _ _ _)=>[(true,i)]
 | .q (.nr i _)=>[(true,i)]
 | .q (.np i _ _ _ _)=>[(true,i)]
 | _=>[]
def cu (σ:St) (x:XOp):List (Bool × Nat):=match x.op with
 | .load y _=>(σ.v y).2.ids
 | .ia y _ _=>(σ.v y).2.ids
 | .len y _=>(σ.v y).2.ids
 | .st y _ _=>(σ.v y).2.ids
 | .sub y _ _ _=>(σ.v y).2.ids
 | .isn y=>(σ.v y).2.ids
 | .ovl _ y=>(σ.v y).2.ids
 | .sub3 y _ _ _ _=>(σ.v y).2.ids
 | .app y z _ _ _=>(σ.v y).2.ids++(σ.v z).2.ids
 | .callr _ ys=>ys.flatMap fun y=>(σ.v y).2.ids
 | .callo _ ys=>ys.flatMap fun y=>(σ.v y).2.ids
 | .callb _ ys=>ys.flatMap fun y=>(σ.v y).2.owns.map fun i=>(true,i)
 | .callx _ ys=>ys.flatMap fun y=>(σ.v y).2.owns.map fun i=>(true,i)
 | .appx y z _ _=>(σ.v y).2.ids++(σ.v z).2.ids
 | _=>[]
def aG (σ:St) (x:XOp):Kil:=match x.g,x.op,x.dst with
 | none,.box _ _,some d=>some (false,d)
 | none,.alloc _,some d=>some (false,d)
 | none,.app y z _ _ _,some d=>match (σ.v y).2 with
   | .q (.own r)=>some (true,r)
   | .q (.vw r _ lo n)=>match get? r σ.rw,(σ.v z).2.rowB σ with
     | some (_,es),some (_,ys)=>if lo+n+ys.length<=es.length then none else some (true,r)
     | _,_=>some (true,r)
   | _=>some (true,d)
 | none,.mk _ _ _,some d=>some (true,d)
 | none,.callo _ _,some d=>some (true,d)
 | none,.callx _ _,some d=>some (true,d)
 | none,.appx y _ _ _,some d=>match (σ.v y).2 with
   | .q (.own r)=>some (true,r)
   | _=>some (true,d)
 | _,_,_=>none
def dK (x:XOp):List Nat:=match x.op with
 | .app (.t n) _ _ _ ex=>if ex.isEmpty then [n] else ex
 | .appx (.t n) _ _ _=>[n]
 | _=>[]
def co (σ0:St):List XO->List Bool->List AV->Option (List (Nat × List Q))
 | [],[],[]=>some []
 | _::xs,false::ms,.gone::os=>co σ0 xs ms os
 | x::xs,true::ms,.ref cs::os=>match (σ0.v x).2,co σ0 xs ms os with
   | .q (.box i _),some b=>some ((i,cs.map .c)::b)
   | _,_=>none
 | _,_,_=>none
def Spec.ne (sp:Spec) (ds:List AV):Prop:=∃ r o,sp.may ds r o
def fR (Γ:FuncId->Option Spec) (σ:St) (f:FuncId) (ys:List XO) (K:Updr->Prop):Prop:=match Γ f with
 | some sp=>match cO σ ys sp.md with
   | some (vc,ds)=>(fL σ ys sp.md=[]/\cV (aT σ ys sp.md)=true/\vc/\sp.pre ds/\sp.ne ds)/\sp.all ds (fun r o=>orF (cD r) (fun p=>orF (co σ ys sp.md o) (fun b=>K ⟨some p,b,[]⟩)))
   | none=>False
 | none=>False
def isW:XK->Bool
 | .st ..=>true
 | .box ..=>true
 | .alloc ..=>true
 | .app ..=>true
 | .mk ..=>true
 | .callr ..=>true
 | .callo ..=>true
 | .callx ..=>true
 | .appx ..=>true
 | _=>false
def bz (Γ:FuncId->Option Spec) (σ:St) (x:XOp) (K:Updr->Prop):Prop:=match x.g,x.op with
 | none,.st a b ag=>match σ.v a,σ.v b with
   | (g,.q (.box i o)),(g',p)=>match get? i σ.bx,cellsOf p ag with
     | some qs,some ys=>(g=true/\g'=true/\o+ys.length<=qs.length)/\K ⟨none,[(i,place qs o ys)],[]⟩
     | _,_=>False
   | (g,.q (.rp i sz k o)),(g',p)=>match get? i σ.rw,cellsOf p ag with
     | some (sz',es),some ys=>match cC ys with
       | some cs=>(g=true/\g'=true/\sz'=sz/\k < es.length/\o+cs.length<=sz)/\K ⟨none,[],[(i,sz,es.set k (eY (es.getD k []) o cs))]⟩
       | none=>False
     | _,_=>False
   | _,_=>False
 | none,.box a ag=>match x.dst,σ.v a with
   | some d,(g,p)=>match cellsOf p ag with
     | some ys=>g=true/\K ⟨some (.q (.box d 0)),[(d,ys.map (Q.killB d))],[]⟩
     | none=>False
   | none,_=>False
 | none,.alloc zs=>match x.dst with
   | some d=>True/\K ⟨some (.q (.box d 0)),[(d,zs.map (Q.killB d))],[]⟩
   | none=>False
 | none,.app a b sz bytes _=>match x.dst,σ.v a,σ.v b with
   | some _,(g,.q (.own r)),(g',p)=>match get? r σ.rw,p.rowB σ with
     | some (sz',es),some (sz'',ys)=>(g=true/\g'=true/\sz'=sz/\sz''=sz/\(es.length+ys.length)*bytes<=140737488355328/\r < aS)/\K ⟨some (.q (.own r)),[],[(r,sz,es++ys)]⟩
     | _,_=>False
   | some _,(g,.q (.vw r sz1 lo n)),(g',p)=>match get? r σ.rw,p.rowB σ with
     | some (sz',es),some (sz'',ys)=>if lo+n+ys.length<=es.length then
        (g=true/\g'=true/\sz1=sz/\sz'=sz/\sz''=sz)/\K ⟨some (.q (.vw r sz lo (n+ys.length))),[],[(r,sz,es.take (lo+n)++ys++es.drop (lo+n+ys.length))]⟩
       else if lo=0/\r < aS/\n<=es.length then
        (g=true/\g'=true/\sz1=sz/\sz'=sz/\sz''=sz/\(n+ys.length)*bytes<=140737488355328)/\K ⟨some (.q (.own r)),[],[(r,sz,es.take n++ys)]⟩
       else False
     | _,_=>False
   | some d,(g,p),(g',p')=>match p,p'.rowB σ with
     | .q (.z sz'),some (sz'',ys)=>(g=true/\g'=true/\sz'=sz/\sz''=sz/\ys.length*bytes<=140737488355328)/\K ⟨some (.q (.own d)),[],[(d,sz,ys)]⟩
     | .q (.full sz' es),some (sz'',ys)=>(g=true/\g'=true/\sz'=sz/\sz''=sz/\0 < ys.length/\(es.length+ys.length)*bytes<=140737488355328)/\K ⟨some (.q (.own d)),[],[(d,sz,es++ys)]⟩
     | _,_=>False
   | none,_,_=>False
 | none,.mk n zs bytes=>match x.dst,σ.v n with
   | some d,(g,.q (.c (.int _ m)))=>(g=true/\0<=m/\m<=9223372036854775807/\bytes*m<=281474976710656/\0 < zs.length)/\K ⟨some (.q (.own d)),[],[(d,zs.length,List.replicate m.toNat zs)]⟩
   | _,_=>False
 | none,.callr f ys=>fR Γ σ f ys K
 | none,.callo f ys=>match x.dst,Γ f with
   | some d,some sp=>match cO σ ys sp.md with
     | some (vc,ds)=>match sp.res ds,co σ ys sp.md (sp.out ds) with
       | [.own sz es],some []=>(sp.alts=none/\fL σ ys sp.md=[]/\cV (aT σ ys sp.md)=true/\vc/\sp.pre ds)/\K ⟨some (.q (.own d)),[],[(d,sz,es)]⟩
       | _,_=>False
     | none=>False
   | _,_=>False
 | none,.appx a b sz bytes=>match x.dst,σ.v a,σ.v b with
   | some _,(g,.q (.own r)),(g',.q (.own s))=>match get? r σ.rw,get? s σ.rw with
     | some (sz',es),some (sz'',ys)=>(g=true/\g'=true/\sz'=sz/\sz''=sz/\(es.length+ys.length)*bytes<=140737488355328/\r≠s/\r < aS)/\K ⟨some (.q (.own r)),[],[(r,sz,es++ys),(s,sz,jkR ys)]⟩
     | _,_=>False
   | _,_,_=>False
 | none,.callx f ys=>match x.dst,Γ f with
   | some d,some sp=>match dk σ ys with
     | some (vc,ds)=>match sp.res ds with
       | [.own sz es]=>(sp.alts=none/\flR es=true/\vc/\sp.pre ds)/\K ⟨some (.q (.own d)),[],[(d,sz,es)]⟩
       | _=>False
     | none=>False
   | _,_=>False
 | some (t,want),.callr f ys=>match (get (.q .no) t σ.tm).un with
   | (true,.q (.c (.bool b)))=>((b == want)=true->fR Γ σ f ys K)/\((b == want)=false->K ⟨some (.gd false (.q (.c (.int .i64 0)))),[],[]⟩)
   | _=>False
 | _,.mkf _ _=>False
 | _,_=>match bN Γ σ x with
   | some (vc,p)=>vc/\K ⟨some p,[],[]⟩
   | none=>False
theorem zg (Γ:FuncId->Option Spec) (σ:St) (f:FuncId) (ys:List XO):∃ (vc:Prop) (O:Updr->Prop),(vc->∃ u,O u)/\∀ K,fR Γ σ f ys K ↔ (vc/\∀ u,O u->K u):=by
 have fal:∃ (vc:Prop) (O:Updr->Prop),(vc->∃ u,O u)/\∀ K:Updr->Prop,False ↔ (vc/\∀ u,O u->K u):=⟨False,fun _=>False,fun h=>h.elim,by simp⟩
 unfold fR
 split
 ·rename_i sp _
  split
  ·rename_i _ vc ds _
   refine⟨(fL σ ys sp.md=[]/\cV (aT σ ys sp.md)=true/\vc/\sp.pre ds/\sp.ne ds)/\sp.all ds (fun r o=>orF (cD r) (fun _=>orF (co σ ys sp.md o) (fun _=>True))),
    fun u=>∃ r o p b,sp.may ds r o/\cD r=some p/\co σ ys sp.md o=some b/\u=⟨some p,b,[]⟩,?_,fun K=>⟨?_,?_⟩⟩
   ·rintro⟨⟨_,_,_,_,r,o,hro⟩,hall⟩
    obtain⟨d,hd,h2⟩:=iC (hall r o hro)
    obtain⟨b,hb,_⟩:=iC h2
    exact⟨_,r,o,d,b,hro,hd,hb,rfl⟩
   ·rintro⟨h1,h2⟩
    refine⟨⟨h1,fun r o hro=>yP (fun _ h3=>yP (fun _ _=>trivial) h3) (h2 r o hro)⟩,?_⟩
    rintro u ⟨r,o,d,b,hro,hd,hb,rfl⟩
    have h3:orF (cD r) (fun p=>orF (co σ ys sp.md o) (fun b=>K ⟨some p,b,[]⟩)):=h2 r o hro
    rw[hd] at h3
    have h4:orF (co σ ys sp.md o) (fun b=>K ⟨some d,b,[]⟩):=h3
    rw[hb] at h4;exact h4
   ·rintro⟨⟨h1,h2⟩,h3⟩
    refine⟨h1,fun r o hro=>?_⟩
    obtain⟨d,hd,h4⟩:=iC (h2 r o hro)
    obtain⟨b,hb,_⟩:=iC h4
    show orF (cD r) (fun p=>orF (co σ ys sp.md o) (fun b=>K ⟨some p,b,[]⟩))
    rw[hd]
    show orF (co σ ys sp.md o) (fun b=>K ⟨some d,b,[]⟩)
    rw[hb]
    exact h3 _ ⟨r,o,d,b,hro,hd,hb,rfl⟩
  ·exact fal
 ·exact fal
theorem nJ (Γ:FuncId->Option Spec) (σ:St) (x:XOp):∃ (vc:Prop) (O:Updr->Prop),(vc->∃ u,O u)/\∀ K,bz Γ σ x K ↔ (vc/\∀ u,O u->K u):=by
 have fal:∃ (vc:Prop) (O:Updr->Prop),(vc->∃ u,O u)/\∀ K:Updr->Prop,False ↔ (vc/\∀ u,O u->K u):=⟨False,fun _=>False,fun h=>h.elim,by simp⟩
 have fn:∀ (vc:Prop) (u0:Updr),∃ (vc':Prop) (O:Updr->Prop),(vc'->∃ u,O u)/\∀ K:Updr->Prop,(vc/\K u0) ↔ (vc'/\∀ u,O u->K u):=fun vc u0=>⟨vc,fun u=>u=u0,fun _=>⟨u0,rfl⟩,by simp⟩
 unfold bz
 split
 ·split
  ·split
   ·exact fn _ _
   ·exact fal
  ·split
   ·split
    ·exact fn _ _
    ·exact fal
   ·exact fal
  ·exact fal
 ·split
  ·split
   ·exact fn _ _
   ·exact fal
  ·exact fal
 ·split
  ·exact fn _ _
  ·exact fal
 ·split
  ·split
   ·exact fn _ _
   ·exact fal
  ·split
   ·split
    ·exact fn _ _
    ·split
     ·exact fn _ _
     ·exact fal
   ·exact fal
  ·split
   ·exact fn _ _
   ·exact fn _ _
   ·exact fal
  ·exact fal
 ·split
  ·exact fn _ _
  ·exact fal
 ·exact zg Γ σ _ _
 ·split
  ·split
   ·split
    ·exact fn _ _
    ·exact fal
   ·exact fal
  ·exact fal
 ·split
  ·split
   ·exact fn _ _
   ·exact fal
  ·exact fal
 ·split
  ·split
   ·split
    ·exact fn _ _
    ·exact fal
   ·exact fal
  ·exact fal
 ·rename_i t want f ys _ _
  split
  ·rename_i b _
   obtain⟨vc,O,h1,h2⟩:=zg Γ σ f ys
   refine⟨(b == want)=true->vc,fun u=>((b == want)=true/\O u)\/((b == want)=false/\u=⟨some (.gd false (.q (.c (.int .i64 0)))),[],[]⟩),fun hv=>?_,fun K=>?_⟩
   ·by_cases hb:(b == want)=true
    ·obtain⟨u,hu⟩:=h1 (hv hb)
     exact⟨u,.inl ⟨hb,hu⟩⟩
    ·exact⟨_,.inr ⟨by simpa using hb,rfl⟩⟩
   ·simp only[h2]
    constructor
    ·rintro⟨h3,h4⟩
     refine⟨fun hb=>(h3 hb).1,?_⟩
     rintro u (⟨hb,hu⟩|⟨hb,rfl⟩)
     ·exact (h3 hb).2 u hu
     ·exact h4 hb
    ·rintro⟨h3,h4⟩
     exact⟨fun hb=>⟨h3 hb,fun u hu=>h4 u (.inl ⟨hb,hu⟩)⟩,fun hb=>h4 _ (.inr ⟨hb,rfl⟩)⟩
  ·exact fal
 ·exact fal
 ·split
  ·exact fn _ _
  ·exact fal
theorem pt {Γ:FuncId->Option Spec} {σ:St} {x:XOp} {K K':Updr->Prop} (hK:∀ u,K u->K' u) (h:bz Γ σ x K):bz Γ σ x K':=by
 obtain⟨vc,O,_,h1⟩:=nJ Γ σ x
 rw[h1] at h ⊢
 exact⟨h.1,fun u hu=>hK u (h.2 u hu)⟩
end Go.Proofs.Pw
namespace Go.Proofs.Pw
open Go.RowKit
variable [Globs]
section
variable {Γ:FuncId->Option Spec} {σ σ':St}
def Lk (σ σ':St) (id:Bool × Nat):Prop:=if id.1 then get? id.2 σ.rw=get? id.2 σ'.rw else get? id.2 σ.bx=get? id.2 σ'.bx
def LkL (σ σ':St) (l:List (Bool × Nat)):Prop:=∀ id ∈ l,Lk σ σ' id
theorem LkL.l {l l':List (Bool × Nat)} (h:LkL σ σ' (l++l')):LkL σ σ' l:=fun id hi=>h id (by simp[hi])
theorem LkL.r {l l':List (Bool × Nat)} (h:LkL σ σ' (l++l')):LkL σ σ' l':=fun id hi=>h id (by simp[hi])
theorem LkL.box {l:List (Bool × Nat)} {i:Nat} (h:LkL σ σ' l) (hi:(false,i) ∈ l):get? i σ.bx=get? i σ'.bx:=by have:=h _ hi;simpa [Lk] using this
theorem LkL.row {l:List (Bool × Nat)} {i:Nat} (h:LkL σ σ' l) (hi:(true,i) ∈ l):get? i σ.rw=get? i σ'.rw:=by have:=h _ hi;simpa [Lk] using this
def JN (σ:St) (k:XK):List (Bool × Nat):=cu σ ⟨none,none,k⟩
theorem zh:∀ {xs:List XO},Sm σ σ' (xs.flatMap XO.rd)->LkL σ σ' (xs.flatMap fun y=>(σ.v y).2.owns.map fun i=>(true,i))->dk σ xs=dk σ' xs:=by
 intro xs
 induction xs with
 | nil=>intro _ _;rfl
 | cons x xs ih =>
   intro h hm
   rw[List.flatMap_cons] at h hm
   simp only[dk]
   rw[ih h.r hm.r,<-aj h.l]
   have hm':=hm.l
   generalize σ.v x=vx at *
   obtain⟨g,p⟩:=vx
   have hq:∀ q:Q,LkL σ σ' ((iw q).map fun i=>(true,i))->q.toCB σ=q.toCB σ':=fun q hq=>by
    cases q with
    | own i=>simp only[Q.toCB];rw[hq.row (by simp[iw])]
    | _=>rfl
   have:p.toDB σ=p.toDB σ':=by
    cases p with
    | q x=>simp only[PV.toDB];rw[hq x hm']
    | agg qs =>
      simp only[PV.toDB]
      have:dG σ qs=dG σ' qs:=by
       simp only[PV.owns] at hm'
       clear h hm ih
       induction qs with
       | nil=>rfl
       | cons q qs ih =>
         rw[List.flatMap_cons,List.map_append] at hm'
         simp only[dG,hq q hm'.l,ih hm'.r]
      rw[this]
    | _=>rfl
   cases dk σ' xs with
   | none=>rfl
   | some r=>obtain⟨vc,ds⟩:=r;simp only[this]
theorem zi {k:XK} (h:Sm σ σ' k.rd) (hm:LkL σ σ' (JN σ k)):ah Γ σ k=ah Γ σ' k:=by
 cases k with
 | mv x=>simp only[ah,aj h]
 | pick c a b=>simp only[ah,aj h.l,aj h.r.l,aj h.r.r]
 | bin bl op x y=>simp only[ah,aj h.l,aj h.r]
 | not x=>simp only[ah,aj h]
 | load x ag =>
   simp only[ah]
   rw[<-aj h]
   have hm':LkL σ σ' (σ.v x).2.ids:=hm
   split
   ·rfl
   ·rename_i g i o e1
    rw[e1] at hm'
    rw[hm'.box (i:=i) (by simp[PV.ids])]
   ·rename_i g i sz k o e1
    rw[e1] at hm'
    rw[hm'.row (i:=i) (by simp[PV.ids])]
   ·rfl
 | fa x off=>simp only[ah,aj h]
 | ia x i sz =>
   simp only[ah]
   rw[<-aj h.l,<-aj h.r]
   have hm':LkL σ σ' (σ.v x).2.ids:=hm
   split
   ·rename_i g p g' k n e1 e2
    split
    ·rename_i _ r
     rw[e1] at hm'
     rw[hm'.row (i:=r) (by simp[PV.ids])]
    ·rename_i _ r _ _ _
     rw[e1] at hm'
     rw[hm'.row (i:=r) (by simp[PV.ids])]
    ·rfl
   ·rfl
 | idx x i=>simp only[ah,aj h.l,aj h.r]
 | fld x off ag=>simp only[ah,aj h]
 | ext x i=>simp only[ah,aj h]
 | len x str =>
   cases str with
   | true=>simp only[ah,aj h]
   | false =>
     simp only[ah]
     rw[<-aj h]
     have hm':LkL σ σ' (σ.v x).2.ids:=hm
     split
     ·rename_i g r e1
      rw[e1] at hm'
      rw[hm'.row (i:=r) (by simp[PV.ids])]
     ·rfl
     ·rfl
     ·rfl
 | call f xs=>simp only[ah,fd,lr h]
 | calli f xs=>simp only[ah,fd,aj h.l,lr h.r]
 | callr f xs=>rfl
 | callo f xs=>rfl
 | sub3 x y z u sz =>
   have hm':LkL σ σ' (σ.v x).2.ids:=hm
   simp only[ah]
   rw[<-aj h.l,<-aj h.r.l,<-aj h.r.r.l,<-aj h.r.r.r]
   split
   ·rename_i g r _ _ _ _ _ _ _ _ _ e1 _ _ _
    rw[e1] at hm'
    rw[hm'.row (i:=r) (by simp[PV.ids])]
   ·rfl
 | callb f xs=>simp only[ah,jA,zh h hm]
 | mm mx x y=>simp only[ah,aj h.l,aj h.r]
 | mkf f x=>rfl
 | sub x lo hi sz =>
   cases sz with
   | zero=>simp only[ah,aj h.l,ls h.r.l,ls h.r.r]
   | succ sz =>
     have hm':LkL σ σ' (σ.v x).2.ids:=hm
     simp only[ah]
     rw[<-aj h.l,<-ls h.r.l]
     simp only[<-fun d=>ls (d:=d) h.r.r]
     split
     ·rename_i g r gl l e1 e2
      rw[e1] at hm'
      rw[hm'.row (i:=r) (by simp[PV.ids])]
     ·rename_i g r sz' lo' n gl l e1 e2
      rw[e1] at hm'
      rw[hm'.row (i:=r) (by simp[PV.ids])]
     ·rfl
     ·rfl
     ·rfl
     ·rfl
 | capr x=>rfl
 | ovl x y =>
   have hm':LkL σ σ' (σ.v y).2.ids:=hm
   simp only[ah]
   rw[<-aj h.l,<-aj h.r]
   split
   ·rename_i g p g' r _ _ _ _ e1 e2
    rw[e2] at hm'
    rw[hm'.row (i:=r) (by simp[PV.ids])]
   ·rfl
 | cap x=>simp only[ah,aj h]
 | isn x =>
   have hm':LkL σ σ' (σ.v x).2.ids:=hm
   simp only[ah]
   rw[<-aj h]
   split
   ·rename_i g r e1
    rw[e1] at hm'
    rw[hm'.row (i:=r) (by simp[PV.ids])]
   ·rfl
 | clr x zs=>rfl
 | apn x n zs bytes=>rfl
 | cpy x y sz=>rfl
 | bslx sz ps=>rfl
 | stx x y ag=>rfl
 | appx x y sz bytes=>rfl
 | ldx x=>rfl
 | callx f xs=>rfl
 | callm f x y=>rfl
 | bts x=>simp only[ah,aj h]
 | callw f xs=>simp only[ah,nq,lr h]
 | conv k x=>simp only[ah,aj h]
 | build zs ps=>simp only[ah,yZ h]
 | bsl sz ps =>
   cases ps with
   | nil=>rfl
   | cons p ps=>simp only[ah,za h]
 | nilc x=>simp only[ah,aj h]
 | st x y ag=>rfl
 | box x ag=>rfl
 | alloc zs=>rfl
 | app x y sz bytes ex=>rfl
 | mk x zs bytes=>rfl
 | glb i=>rfl
theorem JO {x:XOp} (h:Sm σ σ' x.rd) (hm:LkL σ σ' (cu σ x)):bN Γ σ x=bN Γ σ' x:=by
 unfold XOp.rd at h
 unfold bN
 cases hg:x.g with
 | none=>rw[hg] at h;exact zi h.r hm
 | some tw =>
   obtain⟨t,want⟩:=tw
   rw[hg] at h
   simp only
   rw[h t (by simp),zi h.r hm]
theorem zj:∀ {xs:List XO} {ms:List Bool},Sm σ σ' (xs.flatMap XO.rd)->LkL σ σ' (xs.flatMap fun y=>(σ.v y).2.ids)->cO σ xs ms=cO σ' xs ms:=by
 intro xs
 induction xs with
 | nil=>intro ms _ _;cases ms <;> rfl
 | cons x xs ih =>
   intro ms h hm
   rw[List.flatMap_cons] at h hm
   cases ms with
   | nil=>rfl
   | cons m ms =>
     simp only[cO]
     rw[ih h.r hm.r,<-aj h.l]
     have hm':=hm.l
     split
     ·split
      ·rfl
      ·rename_i i e1
       rw[e1] at hm'
       rw[hm'.box (i:=i) (by simp[PV.ids])]
      ·rename_i r e1
       rw[e1] at hm'
       rw[hm'.row (i:=r) (by simp[PV.ids])]
      ·rfl
     ·rfl
theorem zk:∀ {xs:List XO} {ms:List Bool},Sm σ σ' (xs.flatMap XO.rd)->fL σ xs ms=fL σ' xs ms:=by
 intro xs
 induction xs with
 | nil=>intro ms _;cases ms <;> rfl
 | cons x xs ih =>
   intro ms h
   rw[List.flatMap_cons] at h
   cases ms with
   | nil=>rfl
   | cons m ms=>simp only[fL,ih h.r,aj h.l]
theorem zl:∀ {xs:List XO} {ms:List Bool},Sm σ σ' (xs.flatMap XO.rd)->aT σ xs ms=aT σ' xs ms:=by
 intro xs
 induction xs with
 | nil=>intro ms _;cases ms <;> rfl
 | cons x xs ih =>
   intro ms h
   rw[List.flatMap_cons] at h
   cases ms with
   | nil=>rfl
   | cons m ms=>rw[lp,lp,ih h.r,aj h.l]
theorem zm:∀ {xs:List XO} {ms:List Bool} {os:List AV},Sm σ σ' (xs.flatMap XO.rd)->co σ xs ms os=co σ' xs ms os:=by
 intro xs
 induction xs with
 | nil=>intro ms os _;cases ms <;> cases os <;> rfl
 | cons x xs ih =>
   intro ms os h
   rw[List.flatMap_cons] at h
   cases ms with
   | nil=>rfl
   | cons m ms =>
     cases os with
     | nil=>cases m <;> rfl
     | cons o os =>
       cases m <;> cases o <;> simp only[co,ih h.r,aj h.l]
theorem zn {p:PV} (hm:LkL σ σ' p.ids):p.rowB σ=p.rowB σ':=by
 unfold PV.rowB
 split
 ·rename_i r;rw[hm.row (i:=r) (by simp[PV.ids])]
 ·rename_i r sz lo n;rw[hm.row (i:=r) (by simp[PV.ids])]
 ·rfl
theorem sY {x:XOp} (h:Sm σ σ' x.rd):cu σ x=cu σ' x:=by
 unfold XOp.rd at h
 replace h:=h.r
 obtain⟨d,g,k⟩:=x
 have hl:∀ {ys:List XO},Sm σ σ' (ys.flatMap XO.rd)->(ys.flatMap fun y=>(σ.v y).2.ids)=ys.flatMap fun y=>(σ'.v y).2.ids:=by
  intro ys
  induction ys with
  | nil=>intro _;rfl
  | cons y ys ih =>
    intro h
    rw[List.flatMap_cons] at h ⊢
    rw[List.flatMap_cons,aj h.l,ih h.r]
 have hb:∀ {ys:List XO},Sm σ σ' (ys.flatMap XO.rd)->(ys.flatMap fun y=>(σ.v y).2.owns.map fun i=>(true,i))=ys.flatMap fun y=>(σ'.v y).2.owns.map fun i=>(true,i):=by
  intro ys
  induction ys with
  | nil=>intro _;rfl
  | cons y ys ih =>
    intro h
    rw[List.flatMap_cons] at h ⊢
    rw[List.flatMap_cons,aj h.l,ih h.r]
 cases k <;> simp only[cu] <;> simp only[XK.rd] at h
 case load=>rw[aj h]
 case ovl=>rw[aj h.r]
 case sub3=>rw[aj h.l]
 case ia=>rw[aj h.l]
 case len=>rw[aj h]
 case callr=>exact hl h
 case callo=>exact hl h
 case callb=>exact hb h
 case callx=>exact hb h
 case appx=>rw[aj h.l,aj h.r]
 case sub=>rw[aj h.l]
 case st=>rw[aj h.l]
 case app=>rw[aj h.l,aj h.r.l]
 case isn=>rw[aj h]
theorem pu {x:XOp} (h:Sm σ σ' x.rd) (hm:LkL σ σ' (cu σ x)):aG σ x=aG σ' x:=by
 unfold XOp.rd at h
 replace h:=h.r
 obtain⟨d,g,k⟩:=x
 cases k <;> cases g <;> cases d <;> simp only[aG] <;> simp only[XK.rd] at h
 rotate_left
 ·rw[<-aj h.l]
 rename_i a b _ _ _ _
 have hm':LkL σ σ' ((σ.v a).2.ids++(σ.v b).2.ids):=hm
 rw[<-aj h.l,<-aj h.r.l]
 split
 ·rfl
 ·rename_i r _ lo n e1
  rw[e1] at hm'
  rw[hm'.l.row (i:=r) (by simp[PV.ids]),zn hm'.r]
 ·rfl
theorem zo {f:FuncId} {ys:List XO} {K:Updr->Prop} (h:Sm σ σ' (ys.flatMap XO.rd)) (hm':LkL σ σ' (ys.flatMap fun y=>(σ.v y).2.ids)) (he:fR Γ σ f ys K):fR Γ σ' f ys K:=by
 unfold fR at he ⊢
 split
 ·rename_i sp hsp
  rw[hsp] at he
  simp only at he
  rw[<-zj h hm',<-zk h,<-zl h]
  simp only[<-fun o=>zm (σ:=σ) (σ':=σ') (ms:=sp.md) (os:=o) h]
  exact he
 ·rename_i hsp
  rw[hsp] at he
  exact he.elim
theorem sZ {x:XOp} {K:Updr->Prop} (h:Sm σ σ' x.rd) (hm:LkL σ σ' (cu σ x)) (he:bz Γ σ x K):bz Γ σ' x K:=by
 have hst:=JO (Γ:=Γ) h hm
 unfold XOp.rd at h
 have hg:=h.l
 replace h:=h.r
 obtain⟨d,g,k⟩:=x
 cases k <;> cases g <;> simp only[bz] at he ⊢ <;> simp only[XK.rd] at h <;> first|(rw[<-hst];exact he)|exact he|skip
 ·
  exact zo h hm he
 ·rename_i f ys tw
  rw[<-hg tw.1 (by simp)]
  split at he
  ·exact⟨fun hb=>zo h hm (he.1 hb),he.2⟩
  ·exact he.elim
 ·
  rename_i a b ag
  have hm':LkL σ σ' (σ.v a).2.ids:=hm
  rw[<-aj h.l,<-aj h.r]
  generalize σ.v a=va at *
  generalize σ.v b=vb at *
  split at he
  ·have:=hm'.box (i:=_) (List.mem_singleton.2 rfl)
   rw[this] at he
   exact he
  ·have:=hm'.row (i:=_) (List.mem_singleton.2 rfl)
   rw[this] at he
   exact he
  ·exact he.elim
 ·rw[<-aj h];exact he
 ·
  rename_i a b sz bytes ex
  have hm':LkL σ σ' ((σ.v a).2.ids++(σ.v b).2.ids):=hm
  have hb:=zn hm'.r
  rw[<-aj h.l,<-aj h.r.l]
  generalize σ.v a=va at *
  generalize σ.v b=vb at *
  split at he
  ·have:=hm'.l.row (i:=_) (List.mem_singleton.2 rfl)
   simp only at hb ⊢
   rw[this,hb] at he
   exact he
  ·have:=hm'.l.row (i:=_) (List.mem_singleton.2 rfl)
   simp only at hb ⊢
   rw[this,hb] at he
   exact he
  ·rename_i dd g p g' p' hno hno'
   simp only at hb
   rw[hb] at he
   exact he
  ·exact he.elim
 ·rw[<-aj h];exact he
 ·
  rename_i f ys
  split at he
  ·rename_i d' sp hsp
   rw[<-zj h hm,<-zk h,<-zl h]
   simp only[<-fun o=>zm (σ:=σ) (σ':=σ') (ms:=sp.md) (os:=o) h]
   exact he
  ·exact he.elim
 ·
  rename_i a b sz bytes
  have hm':LkL σ σ' ((σ.v a).2.ids++(σ.v b).2.ids):=hm
  rw[<-aj h.l,<-aj h.r]
  generalize σ.v a=va at *
  generalize σ.v b=vb at *
  split at he
  ·have h1:=hm'.l.row (i:=_) (List.mem_singleton.2 rfl)
   have h2:=hm'.r.row (i:=_) (List.mem_singleton.2 rfl)
   rw[h1,h2] at he
   exact he
  ·exact he.elim
 ·
  rename_i f ys
  rw[<-zh h hm];exact he
end
end Go.Proofs.Pw
