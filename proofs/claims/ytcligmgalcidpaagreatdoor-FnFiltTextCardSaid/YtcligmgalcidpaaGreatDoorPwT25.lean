/- Listed arrays of numbers and lists of texts read as they are told. -/
import Derived.Test.YtcligmgalcidpaaGreatDoorPwT24
import Derived.Lib.LaidTab
import Derived.LaidMore
import Derived.LaidLaws
import Derived.Handed
set_option linter.unusedSimpArgs false
set_option linter.unusedVariables false
set_option linter.unusedSectionVars false
set_option maxRecDepth 20000
namespace Go.Proofs.Pw
open Go.RowKit Go.ChangeShapes Go.WideShapes
theorem kY {P:Program} {W:World} {x:String × DataW Unit} {r:List (String × DataW Unit)} {ps:List MemPlace} (h:DataW.LaidVars P W (x::r) ps):∃ ps',DataW.LaidVars P W r ps':=by
 obtain⟨g',t',cs,fuel,p,q,hg',ht',hv,htr,hr,_⟩:=h
 exact⟨q,hr⟩
theorem XE {P:Program} {W:World} {nm:String} {d:DataW Unit} {ns:List Int} {r:List (String × DataW Unit)} {ps:List MemPlace} {g n:Nat} {t e:TypeId} {k:IntKind} (hg:P.globalNamed nm=some g) (ht:(P.globals[g]?).map (·.type)=some t)
 (hu:P.underlying t=some (.array n e)) (he:P.underlying e=some (.int k)) (hc:P.cellsOf e=1) (hct:P.cellsOf t=n) (hd:d=Lib.tabData k ns) (h:DataW.LaidVars P W ((nm,d)::r) ps) :
 Old W g/\∃ ty x,W.heap[g]?=some (.cells (ns.map fun z=>Value.int k z).toArray ty x):=by
 obtain⟨g',t',cs,fuel,p,q,hg',ht',hv,htr,hr,_⟩:=h
 obtain rfl:=Option.some.inj (hg.symm.trans hg')
 obtain rfl:=Option.some.inj (ht.symm.trans ht')
 subst hd
 have hcs:=Lib.cells_of_tab hu he hc hct htr
 have hcs':cs=(ns.map fun z=>Value.int k z).toArray:=by rw[<-hcs]
 unfold World.var? at hv
 rw[hg] at hv
 simp only[Option.bind_some] at hv
 split at hv
 ·rename_i cs' ty x hh
  cases hv
  refine⟨?_,ty,x,by rw[hh,hcs']⟩
  rcases Nat.lt_or_ge g W.heap.size with h|h
  ·exact h
  ·rw[Array.getElem?_eq_none h] at hh;cases hh
 ·cases hv
theorem XF {P:Program} {W:World} {nm:String} {d:DataW Unit} {ws:List ByteArray} {r:List (String × DataW Unit)} {ps:List MemPlace} {g:Nat} {t e:TypeId} (hg:P.globalNamed nm=some g) (ht:(P.globals[g]?).map (·.type)=some t)
 (hu:P.underlying t=some (.slice e)) (he:P.underlying e=some .string) (hc:P.cellsOf e=1) (h0:0 < ws.length) (hd:d=.slice (ws.map fun s=>.lit (.string s.data.toList)) []) (h:DataW.LaidVars P W ((nm,d)::r) ps) :
 Old W g/\∃ u,W.cell? ⟨g,0,none⟩=some u/\Rep W (Old W) (.row 1 (aa ws)) u:=by
 obtain⟨g',t',cs,fuel,p,q,hg',ht',hv,htr,hr,_⟩:=h
 obtain rfl:=Option.some.inj (hg.symm.trans hg')
 obtain rfl:=Option.some.inj (ht.symm.trans ht')
 subst hd
 obtain⟨a,cap,hcs,hle,hcell⟩:=open_row hu hc htr
 rw[List.length_map] at hcs hle
 have key:∀ (i:Nat) s,ws[i]?=some s->W.cell? (a.add i)=some (.string s):=fun i s hs=>by
  obtain⟨v,n,q',hv',htv⟩:=hcell i (.lit (.string s.data.toList)) (by simp[hs])
  obtain⟨s',hs1,hs2,_⟩:=DataW.trod_string he htv
  simp only[List.cons.injEq,and_true] at hs1
  simp only[Prod.mk.injEq,DataW.lit.injEq,Lit.string.injEq] at hs2
  rw[hv',hs1]
  have e:s'=s:=by
   have:=hs2.1
   cases s;cases s'
   simp at this
   rw[this]
  rw[e]
 have hcc:=World.var?_cell hg hv 0
 rw[Array.eq_one_of_toList hcs] at hcc
 have hcc':W.cell? ⟨g,0,none⟩=some (.slice (some a) ws.length cap):=by simpa using hcc
 refine⟨nj hcc',_,hcc',?_⟩
 have hl:(aa ws).length=ws.length:=bw ws
 have hk:∀ (i j:Nat) e' c,(aa ws)[i]?=some e'->e'[j]?=some c->∃ s,ws[i]?=some s/\j=0/\c=.str s:=fun i j e' c he' hj=>by
  simp only[aa,List.getElem?_map,Option.map_eq_some_iff] at he'
  obtain⟨s,hs,rfl⟩:=he'
  cases j with
  | zero=>simp at hj;exact⟨s,hs,rfl,hj.symm⟩
  | succ j=>simp at hj
 have:=Rep.row (w:=W) (S:=Old W) 1 (aa ws) a cap (fun i=>.string (ws.getD i ⟨#[]⟩)) (by omega) (by
  have:=nj (key 0 ws[0] (by simp[h0]));rwa [iv] at this) (fun i e' he'=>by
   simp only[aa,List.getElem?_map,Option.map_eq_some_iff] at he'
   obtain⟨s,_,rfl⟩:=he';rfl) (fun i j e' c he' hj=>by
   obtain⟨s,h1,rfl,rfl⟩:=hk i j e' c he' hj
   have:=key i s h1
   simp only[Nat.mul_one,Nat.add_zero]
   rw[this]
   simp[List.getD,h1]) (fun i j e' c he' hj=>by
   obtain⟨s,h1,rfl,rfl⟩:=hk i j e' c he' hj
   have e2:ws.getD (i*1+0) ⟨#[]⟩=s:=by simp[List.getD,h1]
   simp only[e2]
   exact Rep.str s)
 rwa [hl] at this
end Go.Proofs.Pw
namespace Go.Proofs.Pw
open Go.RowKit Go.ChangeShapes Go.WideShapes
theorem Hy {P:Program} {W:World} {nm name:String} {d:DataW Unit} {r:List (String × DataW Unit)} {ps:List MemPlace} {g:Nat} {t:TypeId} {ms:Array (String × TypeId)} (hg:P.globalNamed nm=some g) (ht:(P.globals[g]?).map (·.type)=some t)
 (hu:P.underlying t=some (.interface ms)) (h:DataW.LaidVars P W ((nm,.iface name d)::r) ps) :
 Old W g/\∃ u,W.cell? ⟨g,0,none⟩=some u/\Rep W (Old W) .ifc u:=by
 obtain⟨g',t',cs,fuel,p,q,hg',ht',hv,htr,hr,_⟩:=h
 obtain rfl:=Option.some.inj (hg.symm.trans hg')
 obtain rfl:=Option.some.inj (ht.symm.trans ht')
 obtain⟨_,u,v,hcs,_,_⟩:=iface_of_trod hu htr
 have hcc:=World.var?_cell hg hv 0
 rw[Array.eq_one_of_toList hcs] at hcc
 have hcc':W.cell? ⟨g,0,none⟩=some (.iface u v):=by simpa using hcc
 exact⟨nj hcc',_,hcc',.ifc _ _⟩
end Go.Proofs.Pw
namespace Go.Proofs.Pw
open Go
theorem XG {H:Type} {enc:TypeId × Value->H} {C:Checked} {os:Os} {f:FuncId} {fn:Func} {s:ChangeSpec} {X:World->Array Value->Prop}
 (hX:∀ (w w':World) (args:Array Value),w.heap=w'.heap->X w args->X w' args)
 (own:ownKnob C.prog.godebug=none) (started:os.Started) (noInit:C.prog.inits.idxOf? f=none) (hfn:C.prog.funcs[f]?=some fn)
 (witness:∃ (w:World) (tape:Tape) (i:Input),w.os=os/\(w.forCall tape i).Shaped C.prog/\i.vars=[]/\Input.okWide C.prog (w.forCall tape i) .any w.heap.size f i /\
  ((s.pre enc C.prog fn [] false (w.forCall tape i).memory i.args/\X (w.forCall tape i).memory i.args)/\sizedMet enc C.prog fn (OpenSpec.ofChange s) false (w.forCall tape i).memory i.args)/\({}:Assume).holds C.prog (lone (Frame.enter C.prog f i.args .normal) [] (w.forCall tape i)))
 (run:∀ (W:World) (base:Nat) (args:Array Value) (ds gs:List (DataW H)) (before:List MemPlace),
  (∀ (j:Nat) t v,fn.params[j]?=some t->args[j]?=some v->Value.okWide C.prog W .any base t v) ->
  DataW.Whole enc C.prog fn.params.toList s.vars false W args.toList ds gs before ->
  (DataW.weightsEach C.prog (fn.params.toList++s.plain.varTypes C.prog) (ds++gs)).all (·<=reachBytes)=true->X W args->W.ShapedOpen C.prog ->
  Calls C.prog f args W fun e W'=>∃ v,e=.returned v/\s.post enc C.prog fn false true false false W args v W') :
 ReturnsInHanded {} C os f .any (fun w args=>(s.pre enc C.prog fn [] false w args/\X w args)/\sizedMet enc C.prog fn (OpenSpec.ofChange s) false w args) (s.post enc C.prog fn false true false false):=by
 refine returnsInHanded_of_calls own started noInit witness ?_
 intro w tape i _ hsh _ ⟨_,_,_,fn',hfn',_,_,_,_,hval⟩ ⟨⟨⟨ds,gs,before,hw,_⟩,hx⟩,hz⟩ _
 cases Option.some.inj (hfn'.symm.trans hfn)
 refine (run (w.forCall tape i) w.heap.size i.args ds gs before hval (DataW.Whole.of_heap (w':=w.forCall tape i) (by rfl) hw) (hz.weights hw) (hX _ _ _ (by rfl) hx) hsh).mono ?_
 rintro e W' ⟨v,rfl,hp⟩
 exact ChangeSpec.post_blind hp
end Go.Proofs.Pw
