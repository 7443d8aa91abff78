/- All operations that write, in one theorem. -/
import Derived.Test.YtcligmgalcidpaaGreatDoorPwT3
set_option linter.unusedSimpArgs false
set_option linter.unusedVariables false
set_option linter.unusedSectionVars false
set_option maxRecDepth 20000
namespace Go.Proofs.Pw
open Go.RowKit
variable [Globs]
section
variable {P:Program} {Γ:FuncId->Option Spec} {σ:St} {a:Act} {w w':World} {M M':Gh} {X:Nat->Prop} {B n:Nat} {w0:W0}
theorem jG (hs:Sim X n B w0 σ a w M) {o:Oper} {d r sz:Nat} (hd:o.dst=some d) (hdn:d < n) {es:List (List C)} {v':RV} {w':World} {Z:Nat->Prop} (h0:0 < sz)
 (hrun:(execOp a.eval o).run P w=.ok (.value v'.v) w') (hp:Priv w' M.S sz es v') (hfr:Fr Z w.heap.size w w') (hz:∀ g,Z g->∃ x,(r,x) ∈ σ.rw/\ae (M.ρ r) g)
 (hb:∀ g,ae v' g->w.heap.size<=g\/∃ x,(r,x) ∈ σ.rw/\ae (M.ρ r) g) (hrn:r < n\/r < aS)
 {next:Act->World->Prop} {E:Exit->Act->World->Prop}
 (hn:∀ a' w' M',Sim X n B w0 { tm:=upd d (.q (.own r)) (σ.map (Q.killO r)).tm,bx:=(σ.map (Q.killO r)).bx,rw:=upd r (sz,es) σ.rw } a' w' M'->next a' w'):o.wp P a w next E:=by
 have hu:Up Z w M w' M:=⟨rfl,rfl,fun _ h=>h,fun _ h=>.inl h,fun g hg=>Nat.lt_of_lt_of_le (hs.mem.lt g hg) hfr.size,fun g hg hZ=>by obtain⟨x,hx,hg'⟩:=hz g hZ;exact hs.mem.sr _ _ g hx hg' hg,hfr⟩
 refine cG hrun (hn _ _ (M.nr r v') ?_)
 rw[hd]
 refine hs.mapPut hdn (eG hu hs.mem.lt) (hs.mem.newRow hs.hB h0 hu hz hp hb) (hfr.weak hs.hB (fun g hg hZ=>?_)) ?_ rfl (fun _ _=>rfl) ?_
 ·obtain⟨⟨sz',es'⟩,hx,hg'⟩:=hz g hZ
  rcases (hs.mem.row _ sz' es' hx).2.2 g hg' with h|h
  ·omega
  ·exact h
 rotate_left
 ·intro i hi hbi;simp only[Gh.nr];rw[if_neg (by omega)]
 ·simp only[ak,af,Gh.nr,if_true]
  refine⟨trivial,?_⟩
  rcases hp.1 with ⟨_,_,h,_⟩|⟨_,A,h⟩
  ·rcases h.2 with ⟨h,_⟩|⟨_,_,_,h,_⟩ <;> rw[h] <;> rfl
  ·rw[h];rfl
theorem yy {c:Call} {dst:Option Tmp} {ty:TypeId} {pos:String} {after:Array Edge} {guard:Option (Nat × Bool)} {x y:Operand} {t:TypeId} (hb:c.callee=.builtin .append) (ha:c.args=#[x,y]) (ht:c.argTypes=#[t,t]) :
 (execOp a.eval ⟨dst,.call c,ty,pos,after,guard⟩).run P w=((Builtin.append_ #[t,t] ty #[a.eval x,a.eval y]).run P w).andThen fun v w'=>.ok (.value v) w':=by
 simp[execOp,resolve,hb,ha,ht,invoke,builtin]
theorem nB (r:Nat) (q:Q) (v:Value) (h:af w M q v):af w M (q.killO r) v:=by
 cases q with
 | own i=>simp only[Q.killO];split;trivial;exact h
 | rp i sz k o=>simp only[Q.killO];split;trivial;exact h
 | vw i sz lo n=>simp only[Q.killO];split;trivial;exact h
 | vc i sz lo n c=>simp only[Q.killO];split;trivial;exact h
 | nr i π=>simp only[Q.killO];split;trivial;exact h
 | np i π sz k o=>simp only[Q.killO];split;trivial;exact h
 | _=>exact h
theorem Sim.rowMove (hs:Sim X n B w0 σ a w M) {r d sz sz':Nat} {es es':List (List C)} {v':RV} (hin:(r,sz',es') ∈ σ.rw) (hd:d < n\/d < aS) (h0:0 < sz) (hp:Priv w M.S sz es v') (hsub:∀ g,ae v' g->ae (M.ρ r) g) :
 Sim X n B w0 (σ.rowMove r d sz es) a w (M.nr d v'):=by
 have m:=hs.mem
 have hm1:Mem X B (St.map (Q.killO r) σ).bx (del r σ.rw) w M:=by
  have hbx:∀ {i' q1},(i',q1) ∈ (σ.map (Q.killO r)).bx->∃ q,(i',q) ∈ σ.bx/\q1=q.map (Q.killO r):=fun {i' q1} h'=>by
   simp only[St.map,List.mem_map,Prod.mk.injEq] at h'
   obtain⟨⟨j,q⟩,hj,rfl,rfl⟩:=h'
   exact⟨q,hj,rfl⟩
  refine⟨fun i q1 h=>?_,fun i sz es h=>m.row i sz es (bh h).2,fun i q i' q' h h'=>?_,fun i q i' x h h'=>?_,fun i x i' x' g h h'=>m.rr i x i' x' g (bh h).2 (bh h').2,m.lt,fun i q h=>?_,fun i x g h=>m.sr i x g (bh h).2,m.gl⟩
  ·obtain⟨q,hj,rfl⟩:=hbx h
   obtain⟨hB',t',cells',h1,h2,h3⟩:=m.box i q hj
   exact⟨hB',t',cells',h1,eF (nB r) ⟨h2,h3⟩⟩
  ·obtain⟨q1,hj,_⟩:=hbx h;obtain⟨q2,hj',_⟩:=hbx h'
   exact m.bb i q1 i' q2 hj hj'
  ·obtain⟨q1,hj,_⟩:=hbx h
   exact m.br i q1 i' x hj (bh h').2
  ·obtain⟨q1,hj,_⟩:=hbx h
   exact m.sb i q1 hj
 have hm2:=Mem.getRow (σ:=⟨(St.map (Q.killO r) σ).tm,(St.map (Q.killO r) σ).bx,del r σ.rw⟩) (d:=d) hm1 h0 hp (fun g hg=>(m.row r sz' es' hin).2.2 g (hsub g hg)) (fun g hg=>m.sr r _ g hin (hsub g hg))
  (fun i q h hg=>by
   simp only[St.map,List.mem_map,Prod.mk.injEq] at h
   obtain⟨⟨j,q'⟩,hj,rfl,rfl⟩:=h
   exact m.br j q' r _ hj hin (hsub _ hg))
  (fun i x g h hg hg'=>m.rr i x r _ g (bh h).2 hin (bh h).1 hg (hsub g hg'))
 refine⟨hs.size,hs.defs,fun t p h=>?_,hm2,hs.fr,hs.hB,hs.sS,hs.sβ,fun i hi hb=>?_⟩
 ·simp only[St.rowMove,St.map,List.map_map,List.mem_map,Prod.mk.injEq] at h
  obtain⟨⟨t',p0⟩,h1,rfl,rfl⟩:=h
  exact cX (eG (Up.refl m.lt) m.lt) (cX (nB r) (hs.tm _ _ h1))
 ·simp only[Gh.nr];rw[if_neg (by omega)];exact hs.sρ i hi hb
theorem FlatX.place {S:Nat->Prop} {hh:List (Nat × Nat)->Value} {D:Nat->Prop} {sz o:Nat} {es ys:List (List C)} {olds us:List Value} (h:FlatX w S hh D sz es olds) (k:Flat w S sz ys us) (hl:o+ys.length<=es.length) :
 FlatX w S hh D sz (es.take o++ys++es.drop (o+ys.length)) (olds.take (o*sz)++us++olds.drop (o*sz+us.length)):=by
 have hm:=Nat.mul_le_mul_right sz hl
 rw[Nat.add_mul] at hm
 have hu:=k.2.1
 have ho:=h.2.1
 have hg1:=fun i=>ll es ys o i hl
 have hg2:=fun i=>ll olds us (o*sz) i (by omega)
 refine h.turn (by simp;omega) (fun i e he=>?_) (by simp;omega) (fun i j e c he hj=>?_)
 ·rw[hg1] at he
  split at he
  ·exact k.1 _ e he
  ·exact h.1 i e he
 ·rw[hg1] at he
  have hjs:j < sz:=by
   have hl:=(List.getElem?_eq_some_iff.1 hj).1
   split at he
   ·rw[k.1 _ e he] at hl;exact hl
   ·rw[h.1 i e he] at hl;exact hl
  rw[hg2]
  split at he
  ·rename_i hi
   obtain⟨u,h1,h2⟩:=k.2.2 _ j e c he hj
   have h3:=ea (n:=ys.length) (k:=i-o) (by omega) hjs
   have h4:i*sz=o*sz+(i-o)*sz:=by rw[<-Nat.add_mul];congr 1;omega
   refine .inr ⟨u,?_,h2⟩
   rw[if_pos (by omega),show i*sz+j-o*sz=(i-o)*sz+j by omega]
   exact h1
  ·rename_i hi
   refine .inl ⟨e,he,hj,if_neg ?_⟩
   rcases Nat.lt_or_ge i o with h'|h'
   ·have:=ea h' hjs;omega
   ·have:=Nat.mul_le_mul_right sz (show o+ys.length<=i by omega)
    rw[Nat.add_mul] at this;omega
theorem sF (hs:Sim X n B w0 σ a w M) {r sz o:Nat} {es ys:List (List C)} {us:List Value} (hq:get? r σ.rw=some (sz,es)) (hl:o+ys.length<=es.length) (h0:0 < ys.length) (hf:Flat w M.S sz ys us) :
 ∃ g N cap cur e,(M.ρ r).v=.slice (some ⟨g,0,none⟩) N cap/\es.length<=cap/\w.heap[g]?=some (.cells cur e (0,0))/\o*sz+us.length<=cur.size /\
  Sim X n B w0 { σ with rw:=upd r (sz,es.take o++ys++es.drop (o+ys.length)) σ.rw } a (w.setRow g (cur.toList.take (o*sz)++us++cur.toList.drop (o*sz+us.length)).toArray) M:=by
 have hin:=get?_mem hq
 obtain⟨hsz,hp,hmine⟩:=hs.mem.row r sz es hin
 obtain⟨e,olds,hown,hfo,hnD⟩:∃ e us,w.ownsRow 0 e sz (M.ρ r).v es.length us/\FlatX w M.S (M.ρ r).h (M.ρ r).D sz es us/\∀ g,ax (M.ρ r).v g->¬ (M.ρ r).D g:=by
  rcases hp.1 with h|⟨rfl,_⟩
  ·exact h
  ·rw[List.length_nil] at hl;omega
 obtain⟨hul,hown⟩:=hown
 obtain⟨g,cap,cur,hρ,hx,hheap,hnc,hcm,hcs,htake⟩:=hown.resolve_left (fun h=>by omega)
 have hm1:=Nat.mul_le_mul_right sz hl
 have hm2:=Nat.mul_le_mul_right sz hnc
 rw[Nat.add_mul] at hm1
 have hus:=hf.2.1
 have hcur:o*sz+us.length<=cur.size:=by omega
 refine⟨g,_,cap,cur,e,hρ,hnc,hheap,hcur,?_⟩
 have hob:ax (M.ρ r).v g:=by
  rw[hρ]
  cases cap with
  | zero=>omega
  | succ c=>simp[ax]
 have hpb:ae (M.ρ r) g:=.inl hob
 have hnS:¬ M.S g:=hs.mem.sr r _ g hin hpb
 have hu0:=ny (M:=M) hs.mem.lt (g:=g) (cs:=(cur.toList.take (o*sz)++us++cur.toList.drop (o*sz+us.length)).toArray) hnS
 have hheap':(w.setRow g (cur.toList.take (o*sz)++us++cur.toList.drop (o*sz+us.length)).toArray).heap[g]?=some (.cells (cur.toList.take (o*sz)++us++cur.toList.drop (o*sz+us.length)).toArray e (0,0)):=setRow_heap _ _ _ _ _ _ hheap
 have hu:Up (ae (M.ρ r)) w M (w.setRow g (cur.toList.take (o*sz)++us++cur.toList.drop (o*sz+us.length)).toArray) M:=⟨hu0.β,hu0.ρ,hu0.S,hu0.new,hu0.lt,fun k hk hp=>hs.mem.sr r _ k hin hp hk,hu0.fr.weak (Nat.le_refl _) (fun k _ e=>by rw[e];exact hpb)⟩
 have hlen:(es.take o++ys++es.drop (o+ys.length)).length=es.length:=by simp;omega
 refine⟨hs.size,hs.defs,fun t p h=>hu.v hs.mem.lt (hs.tm t p h),?_,hs.fr.trans (hu.fr.weak hs.hB (fun g hg e=>?_)),Nat.le_trans hs.hB hu.fr.size,hs.sS,hs.sβ,hs.sρ⟩
 ·refine hs.mem.setRow hin hu hsz ⟨.inl ⟨e,olds.take (o*sz)++us++olds.drop (o*sz+us.length),?_,?_,hnD⟩,fun g hg=>Nat.lt_of_lt_of_le (hp.2 g hg) hu.fr.size⟩
  ·rw[hρ,hlen]
   have hol:=hfo.2.1
   refine⟨by simp only[List.length_append,List.length_take,List.length_drop];omega,.inr ⟨g,cap,_,rfl,Nat.zero_le _,hheap',hnc,hcm,?_,?_⟩⟩
   ·simp only[List.size_toArray,List.length_append,List.length_take,List.length_drop,Array.length_toList];omega
   ·have hlt:(cur.toList.take (o*sz)).length=o*sz:=by simp;omega
    rw[<-htake,List.append_assoc,List.append_assoc,List.take_append,List.take_append]
    rw[List.take_take,List.take_take,List.drop_take,hlt]
    rw[Nat.min_eq_right (by omega),Nat.min_eq_left (by omega)]
    rw[List.take_of_length_le (l:=us) (by omega),Nat.sub_sub]
  ·refine (hfo.place hf hl).move hu.S (hu.keep hs.mem.lt) (fun g' hg'=>setRow_other _ _ _ _ (fun e=>hnD _ hob (e ▸ hg')))
 ·rcases hmine g e with h|h
  ·omega
  ·exact h
theorem pf {α:Type} (t:Nat) (y:α):∀ l:List (Nat × α),(t,y) ∈ upd t y l:=by
 intro l
 induction l with
 | nil=>simp[upd]
 | cons x l ih =>
   obtain⟨i,z⟩:=x
   simp only[upd]
   split
   ·simp
   ·exact List.mem_cons_of_mem _ ih
theorem Sim.updSame (hs:Sim X n B w0 σ a w M) {r:Nat} {x:Nat × List (List C)} (hq:get? r σ.rw=some x):Sim X n B w0 { σ with rw:=upd r x σ.rw } a w M:=by
 have hr:∀ {i y},(i,y) ∈ upd r x σ.rw->(i,y) ∈ σ.rw:=fun h=>by
  rcases aE h with ⟨rfl,rfl⟩|⟨_,h⟩
  ·exact get?_mem hq
  ·exact h
 have m:=hs.mem
 exact⟨hs.size,hs.defs,hs.tm,⟨m.box,fun i sz es h=>m.row i sz es (hr h),m.bb,fun i q i' r h h'=>m.br i q i' r h (hr h'),fun i r i' r' g h h'=>m.rr i r i' r' g (hr h) (hr h'),m.lt,m.sb,fun i r g h=>m.sr i r g (hr h),m.gl⟩,hs.fr,hs.hB,hs.sS,hs.sβ,hs.sρ⟩
theorem Sim.putSame (hs:Sim X n B w0 σ a w M) {d:Nat} (hd:d < n) {p:PV} {v:Value} (hv:ak w M p v):Sim X n B w0 { σ with tm:=upd d p σ.tm } (a.put (some d) v) w M :=
 hs.put (dst:=some d) (fun d' h=>by cases h;exact hd) (Up.refl hs.mem.lt) (fun _ _ h=>h.elim) hs.mem hv
theorem Priv.cut {S:Nat->Prop} {sz n:Nat} {es:List (List C)} {r:RV} {A A':Option Addr} {m c:Nat} (h:Priv w S sz es r) (hv:r.v=.slice A m c) (hn:n<=es.length) (hA:0 < c->A'=A):Priv w S sz (es.take n) (r.hd (.slice A' n c)):=by
 have hl:(es.take n).length=n:=by simp;omega
 refine⟨?_,h.2⟩
 rcases Nat.eq_zero_or_pos c with hc|hc
 ·subst hc
  have:es.length=0:=by
   rcases h.1 with ⟨e,us,h1,_⟩|⟨rfl,_⟩
   ·rcases h1.2 with ⟨_,h⟩|⟨g,cap,cur,h2,_,_,h3,_⟩
    ·exact h
    ·rw[hv] at h2;cases h2;omega
   ·rfl
  have hn0:n=0:=by omega
  subst hn0
  exact .inr ⟨by simp,A',RV.hd_v _ _⟩
 ·rw[hA hc]
  rcases h.1 with ⟨e,us,h1,h2,hnD⟩|⟨rfl,A2,h2⟩
  ·rcases h1.2 with ⟨h3,_⟩|⟨g,cap,cur,h3,h4,h5,h6,h7,h8,h9⟩
   ·rw[hv] at h3;cases h3;omega
   ·rw[hv] at h3;cases h3
    refine .inl ⟨e,us.take (n*sz),⟨?_,.inr ⟨g,c,cur,by rw[hl,RV.hd_v],Nat.zero_le _,h5,by rw[hl];omega,h7,h8,?_⟩⟩,(h2.take hn).hd,fun g' hg'=>hnD g' ?_⟩
    ·rw[hl,List.length_take,h2.2.1]
     exact Nat.min_eq_left (Nat.mul_le_mul_right sz hn)
    ·rw[hl,<-h9,List.take_take,Nat.min_eq_left (Nat.mul_le_mul_right sz hn)]
    ·rw[RV.hd_v] at hg';rw[hv]
     cases c with
     | zero=>omega
     | succ c=>exact hg'
  ·rw[hv] at h2;cases h2;omega
theorem Iu {t ty e e':TypeId} {i:TypeInfo} (ht:P.underlying t=some (.slice e)) (hi:P.info? e=some i)
 {g sOff sLen sCap:Nat} {cur:Array Value} (hg:w.heap[g]?=some (.cells cur e' (0,0)))
 {b:Addr} {m c:Nat} {news:List Value} (hl:news.length=m*i.size) (hnews:∀ j u,news[j]?=some u->w.cell? (b.add j)=some u) (h1:∀ u ∈ news,u.oneCell'=true)
 (hroom:sLen+m<=sCap) (hfit:sOff+sLen*i.size+news.length<=cur.size) :
 (Builtin.append_ #[t,t] ty #[.slice (some ⟨g,sOff,none⟩) sLen sCap,.slice (some b) m c]).run P w =
  .ok (.slice (some ⟨g,sOff,none⟩) (sLen+m) sCap) (w.setRow g (cur.toList.take (sOff+sLen*i.size)++news++cur.toList.drop (sOff+sLen*i.size+news.length)).toArray):=by
 have hf:=run_firstCells_some (P:=P) w i.size m b m c news hl hnews
 have hst:=run_storeCells_at P g (sOff+sLen*i.size) e' news 0 cur w hg (by simpa using hfit) h1
 simp only[Nat.add_zero] at hst
 simp[Builtin.append_,run_underlying ht,sizeOf,typeInfo,hi,Builtin.lenOf,hroom,hf,Addr.add_lit,hst]
theorem yz {α:Type} {t i:Nat} {x:α} (h:i≠t):∀ {l:List (Nat × α)},(i,x) ∈ l->(i,x) ∈ del t l:=by
 intro l
 induction l with
 | nil=>intro h;simp at h
 | cons z l ih =>
   obtain⟨j,z⟩:=z
   intro hm
   simp only[del]
   split
   ·rename_i he
    rcases List.mem_cons.1 hm with hm|hm
    ·cases hm;exact absurd he h
    ·exact ih hm
   ·rcases List.mem_cons.1 hm with hm|hm
    ·rw[hm];simp
    ·exact List.mem_cons_of_mem _ (ih hm)
theorem sG {α:Type} {t i:Nat} {x y:α} (h:i≠t):∀ {l:List (Nat × α)},(i,x) ∈ l->(i,x) ∈ upd t y l:=by
 intro l
 induction l with
 | nil=>intro h;simp at h
 | cons z l ih =>
   obtain⟨j,z⟩:=z
   intro hm
   simp only[upd]
   split
   ·rename_i he
    rcases List.mem_cons.1 hm with hm|hm
    ·cases hm;exact absurd he h
    ·exact List.mem_cons_of_mem _ (yz h hm)
   ·rcases List.mem_cons.1 hm with hm|hm
    ·rw[hm];simp
    ·exact List.mem_cons_of_mem _ (ih hm)
theorem Q.killO2 (r:Nat) (q:Q):(q.killO r).killO r=q.killO r:=by
 cases q with
 | own i=>by_cases h:i=r <;> simp[Q.killO,h]
 | rp i _ _ _=>by_cases h:i=r <;> simp[Q.killO,h]
 | vw i _ _ _=>by_cases h:i=r <;> simp[Q.killO,h]
 | vc i _ _ _ _=>by_cases h:i=r <;> simp[Q.killO,h]
 | nr i _=>by_cases h:i=r <;> simp[Q.killO,h]
 | np i _ _ _ _=>by_cases h:i=r <;> simp[Q.killO,h]
 | _=>rfl
theorem PV.killO2 (r:Nat):∀ (p:PV),(p.map (Q.killO r)).map (Q.killO r)=p.map (Q.killO r)
 | .q x=>by simp[PV.map,Q.killO2]
 | .agg xs=>by simp[PV.map,Q.killO2]
 | .tup xs=>by
   simp only[PV.map,List.map_map,PV.tup.injEq,List.map_inj_left]
   intro s _
   cases s <;> simp[SV.map,Q.killO2]
 | .gd b p=>by simp only[PV.map];rw[PV.killO2 r p]
theorem Sim.sub {σ':St} (hs:Sim X n B w0 σ a w M) (ht:∀ p ∈ σ'.tm,p ∈ σ.tm) (hb:∀ p ∈ σ'.bx,p ∈ σ.bx) (hr:∀ p ∈ σ'.rw,p ∈ σ.rw):Sim X n B w0 σ' a w M :=
 ⟨hs.size,hs.defs,fun t p h=>hs.tm t p (ht _ h),⟨fun i q h=>hs.mem.box i q (hb _ h),fun i sz es h=>hs.mem.row i sz es (hr _ h),fun i q j q' h k=>hs.mem.bb i q j q' (hb _ h) (hb _ k),fun i q j r h k=>hs.mem.br i q j r (hb _ h) (hr _ k),fun i r j r' g h k=>hs.mem.rr i r j r' g (hr _ h) (hr _ k),hs.mem.lt,fun i q h=>hs.mem.sb i q (hb _ h),fun i r g h=>hs.mem.sr i r g (hr _ h),hs.mem.gl⟩,hs.fr,hs.hB,hs.sS,hs.sβ,hs.sρ⟩
theorem Iv (hs:Sim X n B w0 σ a w M) {o:Oper} {d:Nat} (e1:o.dst=some d) (hdn:d < n) {t e:TypeId} {ti:TypeInfo} {z:Value} {sz bytes:Nat} (ht:P.underlying t=some (.slice e)) (hi:P.info? e=some ti) (hsz:ti.size=sz) (hby:ti.bytes=bytes) (hz:ti.zero=some z) (hzs:z.cells.size=sz) (h0:0 < sz)
 {x y:Operand} (hrun:∀ v' w',(Builtin.append_ #[t,t] o.type #[a.eval x,a.eval y]).run P w=.ok v' w'->(execOp a.eval o).run P w=.ok (.value v') w')
 {r:Nat} {es ys:List (List C)} (hq:get? r σ.rw=some (sz,es)) (rx:ak w M (.q (.own r)) (a.eval x)) (hy:RowC w M.S sz ys (a.eval y)) (h3:(es.length+ys.length)*bytes<=140737488355328) (hmx:es.length+ys.length<=9223372036854775807)
 {next:Act->World->Prop} {E:Exit->Act->World->Prop} (hn:∀ a' w' M',Sim X n B w0 (nu d d sz (es++ys) (σ.rowMove r d sz es)) a' w' M'->next a' w'):o.wp P a w next E:=by
 have hv:=rx.1
 have hin:=get?_mem hq
 obtain⟨_,hp,_⟩:=hs.mem.row r _ es hin
 have hs2:=hs.rowMove (d:=d) hin (.inl hdn) h0 hp (fun _ h=>h)
 obtain⟨v',w',k1,k2,k3,k4⟩:=sE (ty:=o.type) ht hi hsz hby hz hzs hs.mem.lt hy h3 hmx hp (fun g hg=>hs.mem.sr _ _ g hin hg)
 rw[<-hv] at k1
 have hρ:(M.nr d (M.ρ r)).ρ d=M.ρ r:=by simp[Gh.nr]
 have hin2:(d,sz,es) ∈ (σ.rowMove r d sz es).rw:=(pf _ _ _)
 exact jG hs2 e1 hdn h0 (hrun _ _ k1) k2 k3 (fun g hg=>⟨_,hin2,by rw[hρ];exact hg⟩) (fun g hg=>(k4 g hg).imp id (fun h=>⟨_,hin2,by rw[hρ];exact h⟩)) (.inl hdn) hn
theorem Iw (hs:Sim X n B w0 σ a w M) {o:Oper} {d:Nat} (e1:o.dst=some d) (hdn:d < n) {t e:TypeId} {ti:TypeInfo} {sz:Nat} (ht:P.underlying t=some (.slice e)) (hi:P.info? e=some ti) (hsz:ti.size=sz)
 {x y:Operand} (hrun:∀ v' w',(Builtin.append_ #[t,t] o.type #[a.eval x,a.eval y]).run P w=.ok v' w'->(execOp a.eval o).run P w=.ok (.value v') w')
 {r lo n1:Nat} {es ys:List (List C)} (hq:get? r σ.rw=some (sz,es)) (rx:ak w M (.q (.vw r sz lo n1)) (a.eval x)) (hy:RowC w M.S sz ys (a.eval y)) (hfit:lo+n1+ys.length<=es.length)
 {next:Act->World->Prop} {E:Exit->Act->World->Prop} (hn:∀ a' w' M',Sim X n B w0 { tm:=upd d (.q (.vw r sz lo (n1+ys.length))) σ.tm,bx:=σ.bx,rw:=upd r (sz,es.take (lo+n1)++ys++es.drop (lo+n1+ys.length)) σ.rw } a' w' M'->next a' w'):o.wp P a w next E:=by
 obtain⟨A,m,c,A',hρ,hc,hv,hA⟩:=rx
 obtain⟨B2,c2,hvy,hcy,hy⟩:=hy
 by_cases hys:ys=[]
 ·subst hys
  have hr0:=pd (P:=P) (w:=w) (ty:=o.type) (t:=t) ht hi (A:=A') (A':=B2) (m:=n1) (c:=c-lo) (c':=c2) (by omega)
  refine cG (hrun _ _ (by rw[hv,hvy];exact hr0)) (hn _ _ M ?_)
  have e4:es.take (lo+n1)++[]++es.drop (lo+n1+([]:List (List C)).length)=es:=by simp
  rw[e4,e1]
  have hs2:=hs.putSame (d:=d) hdn (p:=.q (.vw r sz lo (n1+0))) (v:=.slice A' n1 (c-lo)) ⟨A,m,c,A',hρ,hc,rfl,hA⟩
  exact hs2.updSame hq
 ·obtain⟨ad,us,rfl,hf,hcell,hone⟩:=hy.resolve_left hys
  have hpos:0 < ys.length:=by cases ys with
   | nil=>exact absurd rfl hys
   | cons _ _=>simp
  obtain⟨gg,N,cap,cur,ee,hρ2,hcap,hheap,hcur,hs2⟩:=sF hs hq hfit hpos hf
  have hρ3:=hρ
  rw[hρ2] at hρ3
  cases hρ3
  have hA2:=hA (by omega)
  subst hA2
  have hr1:=Iu (P:=P) (ty:=o.type) (t:=t) ht hi hheap (b:=ad) (m:=ys.length) (c:=c2) (sOff:=lo*sz) (sLen:=n1) (sCap:=c-lo) (by rw[hf.2.1,hsz]) hcell hone (by omega) (by rw[hsz];rw[Nat.add_mul] at hcur;exact hcur)
  rw[hsz,<-Nat.add_mul] at hr1
  have hv2:a.eval x=.slice (some ⟨gg,lo*sz,none⟩) n1 (c-lo):=by rw[hv];simp[Addr.add_lit]
  refine cG (hrun _ _ (by rw[hv2,hvy];exact hr1)) (hn _ _ M ?_)
  rw[e1]
  exact hs2.putSame (d:=d) hdn (p:=.q (.vw r sz lo (n1+ys.length))) ⟨_,_,c,some ⟨gg,lo*sz,none⟩,hρ,by omega,rfl,fun _=>by simp[Addr.add_lit]⟩
theorem Ix (hs:Sim X n B w0 σ a w M) {o:Oper} {d:Nat} (e1:o.dst=some d) (hdn:d < n) {t e:TypeId} {ti:TypeInfo} {z:Value} {sz bytes:Nat} (ht:P.underlying t=some (.slice e)) (hi:P.info? e=some ti) (hsz:ti.size=sz) (hby:ti.bytes=bytes) (hz:ti.zero=some z) (hzs:z.cells.size=sz) (h0:0 < sz)
 {x y:Operand} (hrun:∀ v' w',(Builtin.append_ #[t,t] o.type #[a.eval x,a.eval y]).run P w=.ok v' w'->(execOp a.eval o).run P w=.ok (.value v') w')
 {r n1:Nat} {es ys:List (List C)} (hq:get? r σ.rw=some (sz,es)) (rx:ak w M (.q (.vw r sz 0 n1)) (a.eval x)) (hy:RowC w M.S sz ys (a.eval y)) (hB:r < aS) (hnl:n1<=es.length) (h3:(n1+ys.length)*bytes<=140737488355328) (hmx:n1+ys.length<=9223372036854775807)
 {next:Act->World->Prop} {E:Exit->Act->World->Prop} (hn:∀ a' w' M',Sim X n B w0 (nu d r sz (es.take n1++ys) σ) a' w' M'->next a' w'):o.wp P a w next E:=by
 have hin:=get?_mem hq
 obtain⟨_,hp,_⟩:=hs.mem.row r _ es hin
 obtain⟨A,m,c,A',hρ,hc,hv,hA⟩:=rx
 have hA':0 < c->A'=A:=fun h=>by rw[hA h];cases A <;> simp[Addr.add]
 have hp2:Priv w M.S sz (es.take n1) ((M.ρ r).hd (.slice A' n1 c)):=hp.cut hρ hnl hA'
 have hsub:∀ g,ae ((M.ρ r).hd (.slice A' n1 c)) g->ae (M.ρ r) g:=fun g hg=>by
  rcases nA.1 hg with hg|hg
  ·refine .inl ?_
   rw[hρ]
   rcases Nat.eq_zero_or_pos c with h|h
   ·subst h;cases A' <;> simp[ax] at hg
   ·rw[hA' h] at hg
    cases c with
    | zero=>omega
    | succ c=>cases A with
      | none=>exact hg.elim
      | some ad=>exact hg
  ·exact .inr hg
 have hs2:=hs.rowMove (d:=r) hin (.inr hB) h0 hp2 hsub
 have hl2:(es.take n1).length=n1:=by simp;omega
 obtain⟨v',w',k1,k2,k3,k4⟩:=sE (ty:=o.type) ht hi hsz hby hz hzs hs.mem.lt hy (by rw[hl2];exact h3) (by rw[hl2];exact hmx) hp2 (fun g hg=>hs.mem.sr _ _ g hin (hsub g hg))
 rw[Nat.sub_zero] at hv
 rw[RV.hd_v,<-hv] at k1
 have hρ3:(M.nr r ((M.ρ r).hd (.slice A' n1 c))).ρ r=(M.ρ r).hd (.slice A' n1 c):=by simp[Gh.nr]
 have hin2:(r,sz,es.take n1) ∈ (σ.rowMove r r sz (es.take n1)).rw:=(pf _ _ _)
 refine jG hs2 e1 hdn h0 (hrun _ _ k1) k2 k3 (fun g hg=>⟨_,hin2,by rw[hρ3];exact hg⟩) (fun g hg=>(k4 g hg).imp id (fun h=>⟨_,hin2,by rw[hρ3];exact h⟩)) (.inr hB) (fun a' w' M' h=>hn a' w' M' (h.sub (fun p hp=>?_) (fun p hp=>?_) (fun p hp=>?_)))
 ·show p ∈ upd d (PV.q (.own r)) (St.map (Q.killO r) (σ.rowMove r r sz (es.take n1))).tm
  obtain⟨t',p'⟩:=p
  rcases aE hp with ⟨rfl,rfl⟩|⟨hne,hp⟩
  ·exact pf _ _ _
  ·refine sG hne ?_
   simp only[St.map,List.mem_map,Prod.mk.injEq] at hp
   obtain⟨⟨t2,p2⟩,hp3,rfl,rfl⟩:=hp
   simp only[St.rowMove,St.map,List.map_map,List.mem_map]
   exact⟨(t2,p2),hp3,by simp[PV.killO2]⟩
 ·obtain⟨t',p'⟩:=p
  change (t',p') ∈ (St.map (Q.killO r) σ).bx at hp
  show (t',p') ∈ (St.map (Q.killO r) (σ.rowMove r r sz (es.take n1))).bx
  simp only[St.map,List.mem_map,Prod.mk.injEq] at hp
  obtain⟨⟨t2,p2⟩,hp3,rfl,rfl⟩:=hp
  simp only[St.rowMove,St.map,List.map_map,List.mem_map]
  refine⟨(t2,p2),hp3,?_⟩
  simp[Q.killO2]
 ·obtain⟨t',p'⟩:=p
  rcases aE hp with ⟨rfl,rfl⟩|⟨hne,hp⟩
  ·exact pf _ _ _
  ·exact sG hne (sG hne (yz hne hp))
theorem yA {z:Value} {zs:List C} (hr:RelCs w M (zs.map .c) z.cells) (m:Nat):Flat w M.S zs.length (List.replicate m zs) (Builtin.zeroCells z.cells m).toList:=by
 have hzl:z.cells.size=zs.length:=by simpa using hr.1
 refine⟨fun i' e' he'=>?_,by simp[Builtin.zeroCells,hzl],fun i' j e' c' he' hj=>?_⟩
 ·rw[List.getElem?_replicate] at he'
  split at he' <;> cases he';rfl
 ·rw[List.getElem?_replicate] at he'
  split at he'
  ·rename_i hlt
   cases he'
   obtain⟨u,g1,_,g3⟩:=hr.2 j (.c c') (by simp[hj])
   have hjl:j < zs.length:=(List.getElem?_eq_some_iff.1 hj).1
   have:=ea hlt hjl
   refine⟨u,?_,g3⟩
   have hmod:(i'*zs.length+j) % z.cells.size=j:=by rw[hzl,Nat.mul_comm,Nat.mul_add_mod];exact Nat.mod_eq_of_lt hjl
   simp[Builtin.zeroCells,hzl,this,getElem!_def]
   rw[Nat.mod_eq_of_lt hjl,g1]
  ·cases he'
theorem Iy {t ty e e':TypeId} {i:TypeInfo} {z:Value} (ht:P.underlying t=some (.slice e)) (hi:P.info? e=some i) (hz:i.zero=some z) {g off m c:Nat} {cur:Array Value} (hg:w.heap[g]?=some (.cells cur e' (0,0))) (hm:0 < m)
 (h1:∀ u ∈ (Builtin.zeroCells z.cells m).toList,u.oneCell'=true) (hfit:off+(Builtin.zeroCells z.cells m).toList.length<=cur.size) :
 (Builtin.clear_ #[t] ty #[.slice (some ⟨g,off,none⟩) m c]).run P w=.ok (.tuple #[]) (w.setRow g (cur.toList.take off++(Builtin.zeroCells z.cells m).toList++cur.toList.drop (off+(Builtin.zeroCells z.cells m).toList.length)).toArray):=by
 obtain⟨m',rfl⟩:∃ k,m=k+1:=⟨m-1,by omega⟩
 have hst:=run_storeCells_at P g off e' (Builtin.zeroCells z.cells (m'+1)).toList 0 cur w hg (by simpa using hfit) h1
 simp only[Nat.add_zero] at hst
 simp[Builtin.clear_,run_underlying ht,zeroValue,typeInfo,hi,hz,hst]
theorem Iz {t ty e:TypeId} (ht:P.underlying t=some (.slice e)) {A:Option Addr} {c:Nat}:(Builtin.clear_ #[t] ty #[.slice A 0 c]).run P w=.ok (.tuple #[]) w:=by
 cases A <;> simp[Builtin.clear_,run_underlying ht]
theorem IA (hs:Sim X n B w0 σ a w M) {o:Oper} {c:Call} (ho:o.op=.call c) {x0:Operand} {t e:TypeId} {x:XO} {zs:List C} (hcb:c.callee=.builtin .clear) (hca:c.args.toList=[x0]) (hct:c.argTypes.toList=[t]) (hx:okO x0 x=true)
 {ti:TypeInfo} {z:Value} (ht:P.underlying t=some (.slice e)) (hi:P.info? e=some ti) (hz:ti.zero=some z) (hk:eE z.cells.toList (zs.map .c)=true) (hdst:∀ d,o.dst=some d->d < n)
 {vc:Prop} {σ':St} (he:bc σ o.dst (.clr x zs)=some (vc,σ')) (hvc:vc) {next:Act->World->Prop} {E:Exit->Act->World->Prop} (hn:∀ a' w' M',Sim X n B w0 σ' a' w' M'->next a' w'):o.wp P a w next E:=by
 have hca':c.args=#[x0]:=by rw[<-Array.toArray_toList (xs:=c.args),hca]
 have hct':c.argTypes=#[t]:=by rw[<-Array.toArray_toList (xs:=c.argTypes),hct]
 have hr:RelCs w M (zs.map .c) z.cells:=by simpa using nw (w:=w) (M:=M) hk
 have rx:=aC (o:=x0) (x:=x) hs.tm hx
 have hrun:∀ v' w',(Builtin.clear_ #[t] o.type #[a.eval x0]).run P w=.ok v' w'->(execOp a.eval o).run P w=.ok (.value v') w':=fun v' w' h=>by
  obtain⟨dst,op,ty,pos,after,guard⟩:=o
  simp only at ho;subst ho
  simp only at h
  simp[execOp,resolve,hcb,hca',hct',invoke,builtin,h]
 have fin:∀ {τ:St} {w'},Sim X n B w0 τ a w' M->Sim X n B w0 (τ.put o.dst (.q .no)) (a.put o.dst (.tuple #[])) w' M:=fun {τ w'} h=>h.put hdst (Up.refl h.mem.lt) (fun _ _ h=>h.elim) h.mem trivial
 have key:∀ {r lo m:Nat} {es:List (List C)} {A:Option Addr} {cc:Nat},get? r σ.rw=some (zs.length,es)->lo+m<=es.length->a.eval x0=.slice A m cc->(∀ g N cap,0 < m->(M.ρ r).v=.slice (some ⟨g,0,none⟩) N cap->es.length<=cap->A=some ⟨g,lo*zs.length,none⟩) ->
  (∀ a' w' M',Sim X n B w0 (St.put { σ with rw:=upd r (zs.length,es.take lo++List.replicate m zs++es.drop (lo+m)) σ.rw } o.dst (.q .no)) a' w' M'->next a' w')->o.wp P a w next E:=by
  intro r lo m es A cc hq hl hv hA hn
  rcases Nat.eq_zero_or_pos m with h0|h0
  ·subst h0
   refine cG (hrun _ _ (by rw[hv];exact Iz ht)) (hn _ _ M (fin ?_))
   have e4:es.take lo++List.replicate 0 zs++es.drop (lo+0)=es:=by simp
   rw[e4];exact hs.updSame hq
  ·have hf:=yA hr m
   obtain⟨gg,N,cap,cur,ee,hρ,hcap,hheap,hcur,hs2⟩:=sF hs hq (o:=lo) (by simpa using hl) (by simpa using h0) hf
   have hA2:=hA gg N cap h0 hρ hcap
   subst hA2
   refine cG (hrun _ _ (by rw[hv];exact Iy ht hi hz hheap h0 hf.one hcur)) (hn _ _ M (fin ?_))
   simpa using hs2
 simp only[bc] at he
 split at he
 ·rename_i g r e1
  rw[e1] at rx
  simp only[Option.map_eq_some_iff,Prod.mk.injEq] at he
  obtain⟨⟨sz',es⟩,hq,rfl,rfl⟩:=he
  obtain⟨hg,hsz⟩:=hvc
  simp only at hsz
  subst hsz
  obtain⟨A,cc,hρ,hcap⟩:=jD hs.mem hq
  have hv:=(rx hg).1
  rw[hρ] at hv
  refine key (lo:=0) (m:=es.length) hq (by omega) hv (fun g N cap h0 h1 h2=>?_) (fun a' w' M' h=>hn a' w' M' ?_)
  ·rw[hρ] at h1;cases h1;simp
  ·simpa using h
 ·rename_i g r sz lo m e1
  rw[e1] at rx
  simp only[Option.map_eq_some_iff,Prod.mk.injEq] at he
  obtain⟨⟨sz',es⟩,hq,rfl,rfl⟩:=he
  obtain⟨hg,h1,h2,hl⟩:=hvc
  simp only at h2 hl
  subst h2;subst h1
  obtain⟨A,mm,cc,A',hρ,hc,hv,hA⟩:=rx hg
  refine key (lo:=lo) (m:=m) hq hl hv (fun g N cap h0 h1 h2=>?_) hn
  rw[hρ] at h1;cases h1
  rw[hA (by omega)];simp[Addr.add_lit]
 ·cases he
theorem yB (hs:Sim X n B w0 σ a w M) {o:Oper} {c:Call} (ho:o.op=.call c) {x0 n0:Operand} {t tn e:TypeId} {kn:IntKind} (hcb:c.callee=.builtin .append) (hca:c.args=#[x0,n0]) (hct:c.argTypes=#[t,tn]) (htn:P.underlying tn=some (.int kn))
 {ti:TypeInfo} {z:Value} {zs:List C} {bytes:Nat} (ht:P.underlying t=some (.slice e)) (hi:P.info? e=some ti) (hsz:ti.size=zs.length) (hby:ti.bytes=bytes) (hz':ti.zero=some z) (hz:eE z.cells.toList (zs.map .c)=true) {d:Nat} (e1:o.dst=some d) (hdst:∀ d,o.dst=some d->d < n)
 {A:Option Addr} {es:List (List C)} {cc:Nat} {k:IntKind} {N:Nat} (hv:a.eval x0=.slice A es.length cc) (hy:RowC w M.S zs.length es (.slice A es.length cc)) (hln:a.eval n0=.int k N) (h0:0 < N) (hg:cc < es.length+N) (hNb:(es.length+N)*bytes<=140737488355328) (h62:es.length+N<=4611686018427387904) (h5:0 < zs.length)
 {next:Act->World->Prop} {E:Exit->Act->World->Prop} (hn:∀ a' w' M',Sim X n B w0 { tm:=upd d (.q (.own d)) (σ.map (Q.killO d)).tm,bx:=(σ.map (Q.killO d)).bx,rw:=upd d (zs.length,es++List.replicate N zs) σ.rw } a' w' M'->next a' w'):o.wp P a w next E:=by
 have hr:RelCs w M (zs.map .c) z.cells:=by simpa using nw (w:=w) (M:=M) hz
 have hzl:z.cells.size=zs.length:=by simpa using hr.1
 obtain⟨olds,hfo,hold⟩:∃ olds,Flat w M.S zs.length es olds/\(Builtin.firstCells ti.size es.length (.slice A es.length cc)).run P w.drew=.ok olds.toArray w.drew:=by
  obtain⟨A2,c2,he,_,h2⟩:=hy
  cases he
  rcases h2 with rfl|⟨ad,us,rfl,hf,hcell,_⟩
  ·refine⟨[],Flat.nil,?_⟩
   cases A with
   | none=>exact run_firstCells_none w.drew ti.size 0 0 _
   | some ad=>exact run_firstCells_some w.drew ti.size 0 ad 0 _ [] (by simp) (fun j v hj=>by simp at hj)
  ·exact⟨us,hf,run_firstCells_some w.drew ti.size es.length ad es.length _ us (by rw[hf.2.1,hsz]) (fun j v hj=>hcell j v hj)⟩
 have hNb':N*bytes<=(es.length+N)*bytes:=Nat.mul_le_mul_right _ (by omega)
 have hfit:=growslice_fits (need:=es.length+N) (old:=cc) (bytes:=ti.bytes) (by omega) (by rw[hby];exact hNb)
 have hap:=Lib.run_append_grow_zeros (P:=P) w t tn o.type e ti z k kn ht htn hi hz' A es.length cc olds hold N h0 (by omega) hg (by omega) (by rw[hby];omega) hfit
 have hgc:=grownCap_ge w (es.length+N) cc e
 have hgm:=grownCap_le_maxLen w (es.length+N) cc e (by simp only[maxLen];omega)
 have hnf:Flat w M.S zs.length (List.replicate N zs) (Builtin.zeroCells z.cells N).toList:=yA hr N
 have hgp:=pc (w:=w) (S:=M.S) (e:=e) (r:=RV.of (.slice (some ⟨w.heap.size,0,none⟩) (es.length+N) (grownCap w (es.length+N) cc e))) hfo.x hnf hs.mem.lt (fun _ h=>False.elim h) hzl (cap:=grownCap w (es.length+N) cc e) (by simpa using hgc) hgm
 simp only[Array.toArray_toList,List.length_replicate,RV.of_hd] at hgp
 refine jG (Z:=fun _=>False) hs e1 (hdst _ e1) h5 (v':=RV.of (.slice (some ⟨w.heap.size,0,none⟩) (es.length+N) (grownCap w (es.length+N) cc e))) (w':=w.drew.alloc (.cells (olds.toArray++Builtin.zeroCells z.cells N++Builtin.zeroCells z.cells (grownCap w (es.length+N) cc e-(es.length+N))) e))
  (by
   obtain⟨dst,op,ty,pos,after,guard⟩:=o
   simp only at ho;subst ho
   simp only at hap
   simp only[execOp,resolve,hcb,hca,hct,invoke,builtin,List.map_toArray,List.map_cons,List.map_nil,hv,hln,Sem.run_bind,Sem.run_pure,Result.andThen_ok,hap,RV.of_v]) hgp ?_ (fun g hg=>hg.elim) (fun g hg=>?_) (.inl (hdst _ e1)) hn
 ·exact⟨rfl,rfl,rfl,by simp,fun k hk _=>Below.heap_alloc w.drew _ k (by simpa using hk)⟩
 ·rw[gG] at hg
  generalize grownCap w (es.length+N) cc e=cc at hg
  cases cc <;> simp[ax] at hg;exact .inl (by omega)
theorem IB {r:Nat} {g N N' cap:Nat} {Z:Nat->Prop} (hu:Up Z w M w' M) (hl:∀ g,M.S g->g < w.heap.size) (hρ:(M.ρ r).v=.slice (some ⟨g,0,none⟩) N cap) {v':RV} (hv':v'.v=.slice (some ⟨g,0,none⟩) N' cap) (q:Q) (v:Value) (h:af w M q v):af w' (M.nr r v') (q.killW r) v:=by
 have h':=hu.q hl h
 cases q with
 | own i =>
   simp only[Q.killW]
   split
   ·trivial
   ·rename_i hne;simp only[af,Gh.nr,if_neg hne] at *;exact h'
 | rp i sz k o =>
   by_cases hi:i=r
   ·subst hi
    obtain⟨g',n',c',h1,h2⟩:=h'
    rw[hρ] at h1;cases h1
    exact⟨g,N',cap,by simp[Gh.nr,hv'],h2⟩
   ·simp only[Q.killW,af,Gh.nr,if_neg hi] at *;exact h'
 | vw i sz lo n =>
   by_cases hi:i=r
   ·subst hi
    obtain⟨A,m,c,A',h1,h2,h3,h4⟩:=h'
    rw[hρ] at h1;cases h1
    exact⟨some ⟨g,0,none⟩,N',cap,A',by simp[Gh.nr,hv'],h2,h3,h4⟩
   ·simp only[Q.killW,af,Gh.nr,if_neg hi] at *;exact h'
 | vc i sz lo n c =>
   by_cases hi:i=r
   ·subst hi
    obtain⟨A,m,A',h1,h2,h3,h4⟩:=h'
    rw[hρ] at h1;cases h1
    exact⟨some ⟨g,0,none⟩,N',A',by simp[Gh.nr,hv'],h2,h3,h4⟩
   ·simp only[Q.killW,af,Gh.nr,if_neg hi] at *;exact h'
 | nr i π =>
   simp only[Q.killW]
   split
   ·trivial
   ·rename_i hne;simp only[af,Gh.nr,if_neg hne] at *;exact h'
 | np i π sz k o =>
   simp only[Q.killW]
   split
   ·trivial
   ·rename_i hne;simp only[af,Gh.nr,if_neg hne] at *;exact h'
 | _=>exact h'
theorem IC (hs:Sim X n B w0 σ a w M) {r sz o:Nat} {es ys:List (List C)} {us:List Value} (hq:get? r σ.rw=some (sz,es)) (hB:r < aS) (ho:o<=es.length) (hl:es.length<=o+ys.length) (h0:0 < ys.length) {A:Option Addr} {m cp:Nat} (hρ0:(M.ρ r).v=.slice A m cp) (hcp:o+ys.length<=cp) (hf:Flat w M.S sz ys us) :
 ∃ g N cap cur e,(M.ρ r).v=.slice (some ⟨g,0,none⟩) N cap/\es.length<=cap/\w.heap[g]?=some (.cells cur e (0,0))/\o*sz+us.length<=cur.size /\
  Sim X n B w0 { tm:=(σ.map (Q.killW r)).tm,bx:=(σ.map (Q.killO r)).bx,rw:=upd r (sz,es.take o++ys) σ.rw } a (w.setRow g (cur.toList.take (o*sz)++us++cur.toList.drop (o*sz+us.length)).toArray) (M.nr r ((M.ρ r).hd (.slice (some ⟨g,0,none⟩) (o+ys.length) cap))):=by
 have hin:=get?_mem hq
 obtain⟨hsz,hp,hmine⟩:=hs.mem.row r sz es hin
 obtain⟨e,olds,hown,hfo,hnD⟩:∃ e us,w.ownsRow 0 e sz (M.ρ r).v es.length us/\FlatX w M.S (M.ρ r).h (M.ρ r).D sz es us/\∀ g,ax (M.ρ r).v g->¬ (M.ρ r).D g:=by
  rcases hp.1 with h|⟨_,A2,h⟩
  ·exact h
  ·rw[hρ0] at h;cases h;omega
 obtain⟨hul,hown⟩:=hown
 obtain⟨g,cap,cur,hρ,hx,hheap,hnc,hcm,hcs,htake⟩:=hown.resolve_left (fun h=>by rw[hρ0] at h;cases h.1;omega)
 have hcc:cap=cp:=by rw[hρ0] at hρ;cases hρ;rfl
 subst hcc
 have hm1:=Nat.mul_le_mul_right sz hcp
 have hm2:=Nat.mul_le_mul_right sz hnc
 have hm3:=Nat.mul_le_mul_right sz ho
 rw[Nat.add_mul] at hm1
 have hus:=hf.2.1
 have hcur:o*sz+us.length<=cur.size:=by omega
 refine⟨g,_,cap,cur,e,hρ,hnc,hheap,hcur,?_⟩
 have hob:ax (M.ρ r).v g:=by
  rw[hρ]
  cases cap with
  | zero=>omega
  | succ c=>simp[ax]
 have hpb:ae (M.ρ r) g:=.inl hob
 have hnS:¬ M.S g:=hs.mem.sr r _ g hin hpb
 have hu0:=ny (M:=M) hs.mem.lt (g:=g) (cs:=(cur.toList.take (o*sz)++us++cur.toList.drop (o*sz+us.length)).toArray) hnS
 have hheap':(w.setRow g (cur.toList.take (o*sz)++us++cur.toList.drop (o*sz+us.length)).toArray).heap[g]?=some (.cells (cur.toList.take (o*sz)++us++cur.toList.drop (o*sz+us.length)).toArray e (0,0)):=setRow_heap _ _ _ _ _ _ hheap
 have hu:Up (ae (M.ρ r)) w M (w.setRow g (cur.toList.take (o*sz)++us++cur.toList.drop (o*sz+us.length)).toArray) M:=⟨hu0.β,hu0.ρ,hu0.S,hu0.new,hu0.lt,fun k hk hp=>hs.mem.sr r _ k hin hp hk,hu0.fr.weak (Nat.le_refl _) (fun k _ e=>by rw[e];exact hpb)⟩
 have hlen:(es.take o++ys).length=o+ys.length:=by simp;omega
 have hol:=hfo.2.1
 have hpr:Priv (w.setRow g (cur.toList.take (o*sz)++us++cur.toList.drop (o*sz+us.length)).toArray) M.S sz (es.take o++ys) ((M.ρ r).hd (.slice (some ⟨g,0,none⟩) (o+ys.length) cap)):=by
  refine⟨.inl ⟨e,olds.take (o*sz)++us,?_,?_,fun g' hg'=>hnD g' ?_⟩,fun g hg=>Nat.lt_of_lt_of_le (hp.2 g hg) hu.fr.size⟩
  ·rw[hlen]
   refine⟨by simp only[List.length_append,List.length_take];rw[Nat.add_mul];omega,.inr ⟨g,cap,_,RV.hd_v _ _,Nat.zero_le _,hheap',hcp,hcm,?_,?_⟩⟩
   ·simp only[List.size_toArray,List.length_append,List.length_take,List.length_drop,Array.length_toList];omega
   ·have hlt:(cur.toList.take (o*sz)).length=o*sz:=by simp;omega
    rw[<-htake,List.take_take,Nat.min_eq_left (by omega)]
    rw[List.take_append_of_le_length (by rw[List.length_append,hlt,Nat.add_mul];omega)]
    exact List.take_of_length_le (by rw[List.length_append,hlt,Nat.add_mul];omega)
  ·exact ((hfo.take ho).append hf).hd.move hu.S (hu.keep hs.mem.lt) (fun g' hg'=>setRow_other _ _ _ _ (fun e=>hnD _ hob (e ▸ hg')))
  ·rw[RV.hd_v] at hg';rw[hρ]
   cases cap with
   | zero=>exact hg'.elim
   | succ c=>exact hg'
 have hpb':∀ k,ae ((M.ρ r).hd (.slice (some ⟨g,0,none⟩) (o+ys.length) cap)) k->ae (M.ρ r) k:=fun k hk=>by
  rcases nA.1 hk with hk|hk
  ·refine .inl ?_
   rw[hρ]
   cases cap with
   | zero=>exact hk.elim
   | succ c=>exact hk
  ·exact .inr hk
 have hm:=hs.mem.newRow hs.hB (d:=r) hsz hu (fun k hk=>⟨_,hin,hk⟩) hpr (fun k hk=>.inr ⟨_,hin,hpb' k hk⟩)
 refine⟨hs.size,hs.defs,fun t p h=>?_,hm,hs.fr.trans (hu.fr.weak hs.hB (fun g hg e=>?_)),Nat.le_trans hs.hB hu.fr.size,hs.sS,hs.sβ,fun i hi hb=>?_⟩
 ·simp only[St.map,List.mem_map,Prod.mk.injEq] at h
  obtain⟨⟨t',p0⟩,h1,rfl,rfl⟩:=h
  exact cX (IB hu hs.mem.lt hρ (RV.hd_v _ _)) (hs.tm _ _ h1)
 ·rcases hmine g e with h|h
  ·omega
  ·exact h
 ·simp only[Gh.nr];rw[if_neg (by omega)];exact hs.sρ i hi hb
theorem ID {t t' ty e:TypeId} {ti:TypeInfo} (ht:P.underlying t=some (.slice e)) (hi:P.info? e=some ti) {A A':Option Addr} {n1 c1 m c:Nat} (h:min n1 m=0) :
 (Builtin.copy_ #[t,t'] ty #[.slice A n1 c1,.slice A' m c]).run P w=.ok (.int .i64 0) w:=by
 have h':Nat.min m n1=0:=by rw[Nat.min_comm] at h;exact h
 have hf:(Builtin.firstCells ti.size 0 (.slice A' m c)).run P w=.ok #[] w:=by
  cases A' with
  | none=>exact run_firstCells_none w ti.size 0 _ _
  | some ad=>exact run_firstCells_some w ti.size 0 ad _ _ [] (by simp) (fun j v hj=>by simp at hj)
 cases A <;> simp[Builtin.copy_,run_underlying ht,Builtin.lenOf,sizeOf,typeInfo,hi,h',hf,storeCells,goInt]
theorem IE {t t' ty e e':TypeId} {ti:TypeInfo} (ht:P.underlying t=some (.slice e)) (hi:P.info? e=some ti) {g off n1 c1 m c:Nat} {cur:Array Value} (hg:w.heap[g]?=some (.cells cur e' (0,0))) {ad:Addr} {k:Nat} (hk:min n1 m=k) {us:List Value} (hl:us.length=k*ti.size)
 (hus:∀ j u,us[j]?=some u->w.cell? (ad.add j)=some u) (h1:∀ u ∈ us,u.oneCell'=true) (hfit:off+us.length<=cur.size) :
 (Builtin.copy_ #[t,t'] ty #[.slice (some ⟨g,off,none⟩) n1 c1,.slice (some ad) m c]).run P w=.ok (.int .i64 k) (w.setRow g (cur.toList.take off++us++cur.toList.drop (off+us.length)).toArray):=by
 have h':Nat.min m n1=k:=by rw[Nat.min_comm] at hk;exact hk
 have hf:=run_firstCells_some (P:=P) w ti.size k ad m c us hl hus
 have hst:=run_storeCells_at P g off e' us 0 cur w hg (by simpa using hfit) h1
 simp only[Nat.add_zero] at hst
 simp[Builtin.copy_,run_underlying ht,Builtin.lenOf,sizeOf,typeInfo,hi,h',hf,hst,goInt]
theorem IF (mem:Mem X B σ.bx σ.rw w M) {p:PV} {v:Value} {sz m k:Nat} {ys:List (List C)} (h:ak w M p v) (hr:p.srcB σ=some (sz,m,ys)) (hky:k<=ys.length) :
 ∃ A c,v=.slice A m c/\(k=0\/∃ ad us,A=some ad/\Flat w M.S sz (ys.take k) us/\∀ j u,us[j]?=some u->w.cell? (ad.add j)=some u):=by
 have data:∀ {sz:Nat} {es:List (List C)} {v:Value},RowC w M.S sz es v->k<=es.length->∃ A c,v=.slice A es.length c/\(k=0\/∃ ad us,A=some ad/\Flat w M.S sz (es.take k) us/\∀ j u,us[j]?=some u->w.cell? (ad.add j)=some u):=by
  intro sz es v hc hk
  obtain⟨A,c,rfl,h2,h3⟩:=hc
  refine⟨A,c,rfl,?_⟩
  rcases Nat.eq_zero_or_pos k with h0|h0
  ·exact .inl h0
  ·rcases h3 with rfl|⟨ad,us,rfl,h4,h5,_⟩
   ·simp at hk;omega
   ·have:=h4.part (lo:=0) (n:=k) (by omega)
    simp only[Nat.zero_add,List.drop_zero,Nat.zero_mul] at this
    refine .inr ⟨ad,_,rfl,this,fun j u hj=>?_⟩
    rw[List.getElem?_take] at hj
    split at hj
    ·exact h5 j u hj
    ·cases hj
 have view:∀ {r sz lo n:Nat} {es:List (List C)} {A A':Option Addr} {mm c:Nat},get? r σ.rw=some (sz,es)->(M.ρ r).v=.slice A mm c->lo+n<=c->(lo < c->A'=A.map fun a=>a.add (lo*sz))->k<=(es.drop lo).length->aW es=true ->
  ∃ A2 c2,Value.slice A' n (c-lo)=.slice A2 n c2/\(k=0\/∃ ad us,A2=some ad/\Flat w M.S sz ((es.drop lo).take k) us/\∀ j u,us[j]?=some u->w.cell? (ad.add j)=some u):=by
  intro r sz lo n es A A' mm c hq hρ hc hA hk hpl
  refine⟨A',_,rfl,?_⟩
  rcases Nat.eq_zero_or_pos k with h0|h0
  ·exact .inl h0
  ·obtain⟨_,hp,_⟩:=mem.row r _ es (get?_mem hq)
   have hp:=hp.pl hpl
   rw[hρ] at hp
   rw[List.length_drop] at hk
   obtain⟨A2,c2,h1,h2,h3⟩:=(nz hp).part (lo:=lo) (n:=k) (by omega) hA
   injection h1 with i1 i2 i3
   subst i1
   have e:(es.take (lo+k)).drop lo=(es.drop lo).take k:=by rw[List.drop_take];congr 1;omega
   rcases h3 with h3|⟨ad,us,rfl,h4,h5,_⟩
   ·rw[e] at h3
    have:=congrArg List.length h3
    simp at this;omega
   ·rw[e] at h4
    exact .inr ⟨ad,us,rfl,h4,h5⟩
 unfold PV.srcB at hr
 split at hr
 ·rename_i r
  split at hr
  ·rename_i sz' es hq
   split at hr
   ·rename_i hpl
    simp only[Option.some.injEq,Prod.mk.injEq] at hr
    obtain⟨rfl,rfl,rfl⟩:=hr
    obtain⟨_,hp,_⟩:=mem.row r _ es (get?_mem hq)
    rw[h.1];exact data (nz (hp.pl hpl)) hky
   ·cases hr
  ·cases hr
 ·rename_i r sz0 lo n
  split at hr
  ·rename_i sz1 es1 hq
   split at hr
   ·rename_i hl
    obtain⟨hl,hpl⟩:=hl
    subst hl
    simp only[Option.some.injEq,Prod.mk.injEq] at hr
    obtain⟨rfl,rfl,rfl⟩:=hr
    obtain⟨A,m,c,A',hρ,hc,rfl,hA⟩:=h
    exact view hq hρ hc hA hky hpl
   ·cases hr
  ·cases hr
 ·rename_i r sz0 lo n c0
  split at hr
  ·rename_i sz1 es1 hq
   split at hr
   ·rename_i hl
    obtain⟨hl,hpl⟩:=hl
    subst hl
    simp only[Option.some.injEq,Prod.mk.injEq] at hr
    obtain⟨rfl,rfl,rfl⟩:=hr
    obtain⟨A,m,A',hρ,hc,rfl,hA⟩:=h
    exact view hq hρ hc hA hky hpl
   ·cases hr
  ·cases hr
 ·simp only[Option.map_eq_some_iff,Prod.mk.injEq] at hr
  obtain⟨⟨sz',es⟩,hq,rfl,rfl,rfl⟩:=hr
  exact data (sC (iA h hq)) hky
theorem IG {q:Q} {v:Value} {r sz lo n:Nat} (h:af w M q v) (hq:q.vwOf=some (r,sz,lo,n)):∃ A m c A',(M.ρ r).v=.slice A m c/\lo+n<=c/\v=.slice A' n (c-lo)/\(lo < c->A'=A.map fun a=>a.add (lo*sz)):=by
 cases q <;> simp only[Q.vwOf,Option.some.injEq,Prod.mk.injEq,reduceCtorEq] at hq
 ·obtain⟨rfl,rfl,rfl,rfl⟩:=hq;exact h
 ·obtain⟨rfl,rfl,rfl,rfl⟩:=hq
  obtain⟨A,m,A',h⟩:=h
  exact⟨A,m,_,A',h⟩
theorem IH (hs:Sim X n B w0 σ a w M) {o:Oper} {c:Call} (ho:o.op=.call c) {x0 y0:Operand} {t t' e:TypeId} {x y:XO} {sz:Nat} (hcb:c.callee=.builtin .copy) (hca:c.args=#[x0,y0]) (hct:c.argTypes=#[t,t']) (hx:okO x0 x=true) (hy:okO y0 y=true)
 {ti:TypeInfo} (ht:P.underlying t=some (.slice e)) (hi:P.info? e=some ti) (hsz:ti.size=sz) (h0:0 < sz) (hdst:∀ d,o.dst=some d->d < n)
 {vc:Prop} {σ':St} (he:bc σ o.dst (.cpy x y sz)=some (vc,σ')) (hvc:vc) {next:Act->World->Prop} {E:Exit->Act->World->Prop} (hn:∀ a' w' M',Sim X n B w0 σ' a' w' M'->next a' w'):o.wp P a w next E:=by
 have hrun:∀ v' w',(Builtin.copy_ #[t,t'] o.type #[a.eval x0,a.eval y0]).run P w=.ok v' w'->(execOp a.eval o).run P w=.ok (.value v') w':=fun v' w' h=>by
  obtain⟨dst,op,ty,pos,after,guard⟩:=o
  simp only at ho;subst ho
  simp only at h
  simp[execOp,resolve,hcb,hca,hct,invoke,builtin,h]
 have fin:∀ {τ:St} {w' M'} {k:Nat},Sim X n B w0 τ a w' M'->Sim X n B w0 (τ.put o.dst (.q (.c (.int .i64 k)))) (a.put o.dst (.int .i64 k)) w' M':=fun {τ w' M' k} h=>h.put hdst (Up.refl h.mem.lt) (fun _ _ h=>h.elim) h.mem (Rep.int _ _)
 simp only[bc] at he
 split at he
 ·rename_i g q g' p e1 e2
  split at he
  ·rename_i r sz1 lo n1 sz2 m ys hvw hsrc
   split at he
   ·rename_i sz' es hq
    have main:g=true->g'=true->sz1=sz->sz2=sz->sz'=sz->min n1 m<=ys.length->lo<=es.length->∀ (τ:St),
     (min n1 m=0->∃ M',Sim X n B w0 τ a w M') ->
     (0 < min n1 m->∀ (us:List Value) A mm cp,(M.ρ r).v=.slice A mm cp->lo+min n1 m<=cp->Flat w M.S sz (ys.take (min n1 m)) us ->
      ∃ gg N cap cur ee M',(M.ρ r).v=.slice (some ⟨gg,0,none⟩) N cap/\es.length<=cap/\w.heap[gg]?=some (.cells cur ee (0,0))/\lo*sz+us.length<=cur.size/\Sim X n B w0 τ a (w.setRow gg (cur.toList.take (lo*sz)++us++cur.toList.drop (lo*sz+us.length)).toArray) M') ->
     (∀ a' w' M',Sim X n B w0 (τ.put o.dst (.q (.c (.int .i64 (min n1 m:Nat))))) a' w' M'->next a' w')->o.wp P a w next E:=by
     intro hg hg' h1 h2 h3 h4 h5 τ z1 z2 hn
     subst h1 h2 h3
     have rx:=aC (o:=x0) (x:=x) hs.tm hx (by rw[e1];exact hg);rw[e1] at rx
     have ry:=aC (o:=y0) (x:=y) hs.tm hy (by rw[e2];exact hg');rw[e2] at ry
     obtain⟨A,mm,cp,A',hρ,hc,hv,hA⟩:=IG rx hvw
     obtain⟨A2,c2,hv2,hus⟩:=IF hs.mem ry hsrc (k:=min n1 m) h4
     rcases Nat.eq_zero_or_pos (min n1 m) with hk|hk
     ·obtain⟨M',hM⟩:=z1 hk
      refine cG (hrun _ _ (by rw[hv,hv2];exact ID ht hi hk)) (hn _ _ M' ?_)
      rw[hk];exact fin hM
     ·obtain⟨ad,us,rfl,hf,hcell⟩:=hus.resolve_left (by omega)
      obtain⟨gg,N,cap,cur,ee,M',hρ2,hcap,hheap,hcur,hM⟩:=z2 hk us A mm cp hρ (by omega) hf
      rw[hρ] at hρ2;cases hρ2
      have hA2:=hA (by omega)
      simp only[Option.map_some,Addr.add_lit,Nat.zero_add] at hA2
      subst hA2
      have hlen:(ys.take (min n1 m)).length=min n1 m:=by simp;omega
      refine cG (hrun _ _ (by rw[hv,hv2];exact IE ht hi hheap (k:=min n1 m) rfl (by rw[hf.2.1,hlen,hsz]) hcell hf.one hcur)) (hn _ _ M' (fin hM))
    split at he
    ·rename_i hfit
     simp only[Option.some.injEq,Prod.mk.injEq] at he
     obtain⟨rfl,rfl⟩:=he
     obtain⟨hg,hg',h1,h2,h3,h4⟩:=hvc
     have hlen:(ys.take (min n1 m)).length=min n1 m:=by simp;omega
     refine main hg hg' h1 h2 h3 h4 (by omega) _ (fun hk=>⟨M,?_⟩) (fun hk us A mm cp hρ hc hf=>?_) hn
     ·subst h3
      rw[hk,List.take_zero,List.append_nil,Nat.add_zero,List.take_append_drop]
      exact hs.updSame hq
     ·subst h3
      obtain⟨gg,N,cap,cur,ee,k1,k2,k3,k4,k5⟩:=sF hs hq (o:=lo) (ys:=ys.take (min n1 m)) (by rw[hlen];exact hfit) (by rw[hlen];exact hk) hf
      rw[hlen] at k5
      exact⟨gg,N,cap,cur,ee,M,k1,k2,k3,k4,k5⟩
    ·rename_i hfit
     split at he
     ·rename_i hB
      simp only[Option.some.injEq,Prod.mk.injEq] at he
      obtain⟨rfl,rfl⟩:=he
      obtain⟨hg,hg',h1,h2,h3,h4,h5⟩:=hvc
      have hlen:(ys.take (min n1 m)).length=min n1 m:=by simp;omega
      refine main hg hg' h1 h2 h3 h4 h5 _ (fun hk=>by omega) (fun hk us A mm cp hρ hc hf=>?_) hn
      subst h3
      obtain⟨gg,N,cap,cur,ee,k1,k2,k3,k4,k5⟩:=IC hs hq hB h5 (by rw[hlen];omega) (by rw[hlen];exact hk) hρ (by rw[hlen];exact hc) hf
      exact⟨gg,N,cap,cur,ee,_,k1,k2,k3,k4,k5⟩
     ·cases he
   ·cases he
  ·cases he
 ·cases he
end
end Go.Proofs.Pw
