/- Two neighbours change places. -/
import Derived.Test.YtcligmgalcidpaaGreatDoorPwT7
import Derived.Deep.LoopGhost
set_option linter.unusedSimpArgs false
set_option linter.unusedVariables false
set_option linter.unusedSectionVars false
set_option maxRecDepth 20000
namespace Go.Proofs.Pw
open Go.RowKit
variable [Globs]
section
variable {α:Type}
theorem MD {t:Nat} {e:Nat × α}:∀ {l:List (Nat × α)},e ∈ del t l ↔ e.1≠t/\e ∈ l:=by
 intro l
 induction l with
 | nil=>simp[del]
 | cons x l ih =>
   obtain⟨i,y⟩:=x
   simp only[del]
   split
   ·rename_i hi;subst hi
    rw[ih]
    constructor
    ·exact fun h=>⟨h.1,List.mem_cons_of_mem _ h.2⟩
    ·rintro⟨h1,h2⟩
     rcases List.mem_cons.1 h2 with rfl|h2
     ·exact absurd rfl h1
     ·exact⟨h1,h2⟩
   ·rename_i hi
    simp only[List.mem_cons,ih]
    constructor
    ·rintro (rfl|h)
     ·exact⟨hi,.inl rfl⟩
     ·exact⟨h.1,.inr h.2⟩
    ·rintro⟨h1,rfl|h2⟩
     ·exact .inl rfl
     ·exact .inr ⟨h1,h2⟩
theorem la {t:Nat} {y:α} {e:Nat × α}:∀ {l:List (Nat × α)},e ∈ upd t y l ↔ e=(t,y)\/(e.1≠t/\e ∈ l):=by
 intro l
 induction l with
 | nil=>simp[upd]
 | cons x l ih =>
   obtain⟨i,z⟩:=x
   simp only[upd]
   split
   ·rename_i hi;subst hi
    simp only[List.mem_cons,MD]
    constructor
    ·rintro (rfl|h)
     ·exact .inl rfl
     ·exact .inr ⟨h.1,.inr h.2⟩
    ·rintro (rfl|⟨h1,rfl|h2⟩)
     ·exact .inl rfl
     ·exact absurd rfl h1
     ·exact .inr ⟨h1,h2⟩
   ·rename_i hi
    simp only[List.mem_cons,ih]
    constructor
    ·rintro (rfl|rfl|h)
     ·exact .inr ⟨hi,.inl rfl⟩
     ·exact .inl rfl
     ·exact .inr ⟨h.1,.inr h.2⟩
    ·rintro (rfl|⟨h1,rfl|h2⟩)
     ·exact .inr (.inl rfl)
     ·exact .inl rfl
     ·exact .inr (.inr ⟨h1,h2⟩)
theorem get?_del' {t u:Nat} (h:u≠t):∀ {l:List (Nat × α)},get? u (del t l)=get? u l:=get?_del (fun e=>h e.symm)
theorem get?_upd {t u:Nat} {y:α}:∀ {l:List (Nat × α)},get? u (upd t y l)=if t=u then some y else get? u l:=by
 intro l
 induction l with
 | nil=>simp only[upd,get?]
 | cons x l ih =>
   obtain⟨i,z⟩:=x
   simp only[upd]
   split
   ·rename_i hi
    subst hi
    simp only[get?]
    split
    ·rfl
    ·rename_i hne;exact get?_del' (fun e=>hne e.symm)
   ·rename_i hi
    simp only[get?,ih]
    by_cases h1:i=u <;> by_cases h2:t=u <;> simp[h1,h2]
    omega
def EqL (l l':List (Nat × α)):Prop:=(∀ e,e ∈ l ↔ e ∈ l')/\∀ t,get? t l=get? t l'
theorem EqL.refl (l:List (Nat × α)):EqL l l:=⟨fun _=>Iff.rfl,fun _=>rfl⟩
theorem EqL.trans {a b c:List (Nat × α)} (h:EqL a b) (k:EqL b c):EqL a c:=⟨fun e=>(h.1 e).trans (k.1 e),fun t=>(h.2 t).trans (k.2 t)⟩
theorem EqL.upd {l l':List (Nat × α)} (h:EqL l l') (t:Nat) (y:α):EqL (upd t y l) (upd t y l') :=
 ⟨fun e=>by rw[la,la,h.1 e],fun u=>by rw[get?_upd,get?_upd,h.2 u]⟩
theorem EqL.updL {us:List (Nat × α)}:∀ {l l':List (Nat × α)},EqL l l'->EqL (updL us l) (updL us l'):=by
 induction us with
 | nil=>intro l l' h;exact h
 | cons u us ih=>intro l l' h;exact ih (h.upd u.1 u.2)
theorem Bz {t u:Nat} {y z:α} (h:t≠u) (l:List (Nat × α)):EqL (upd t y (upd u z l)) (upd u z (upd t y l)):=by
 refine⟨fun e=>?_,fun v=>?_⟩
 ·simp only[la]
  constructor
  ·rintro (rfl|⟨h1,rfl|⟨h2,h3⟩⟩)
   ·exact .inr ⟨h,.inl rfl⟩
   ·exact .inl rfl
   ·exact .inr ⟨h2,.inr ⟨h1,h3⟩⟩
  ·rintro (rfl|⟨h1,rfl|⟨h2,h3⟩⟩)
   ·exact .inr ⟨fun e=>h e.symm,.inl rfl⟩
   ·exact .inl rfl
   ·exact .inr ⟨h2,.inr ⟨h1,h3⟩⟩
 ·simp only[get?_upd]
  by_cases h1:t=v <;> by_cases h2:u=v <;> simp[h1,h2]
  omega
theorem ME {t:Nat} {y:α} {us:List (Nat × α)} (h:∀ e ∈ us,e.1≠t):∀ (l:List (Nat × α)),EqL (upd t y (updL us l)) (updL us (upd t y l)):=by
 induction us with
 | nil=>intro l;exact EqL.refl _
 | cons u us ih =>
   intro l
   refine (ih (fun e he=>h e (by simp[he])) (upd u.1 u.2 l)).trans (EqL.updL (Bz (fun e=>h u (by simp) e.symm) l))
theorem BA {us vs:List (Nat × α)} (h:∀ e ∈ us,∀ e' ∈ vs,e.1≠e'.1):∀ (l:List (Nat × α)),EqL (updL us (updL vs l)) (updL vs (updL us l)):=by
 induction us with
 | nil=>intro l;exact EqL.refl _
 | cons u us ih =>
   intro l
   exact (EqL.updL (ME (fun e he e'=>h u (by simp) e he e'.symm) l)).trans (ih (fun e he=>h e (by simp[he])) (upd u.1 u.2 l))
theorem MF {e:Nat × α} {us:List (Nat × α)}:∀ {l:List (Nat × α)},e ∈ updL us l->e ∈ us\/((∀ u ∈ us,u.1≠e.1)/\e ∈ l):=by
 induction us with
 | nil=>intro l h;exact .inr ⟨by simp,h⟩
 | cons u us ih =>
   intro l h
   rcases ih h with h|⟨h1,h2⟩
   ·exact .inl (by simp[h])
   ·rcases la.1 h2 with rfl|⟨h3,h4⟩
    ·exact .inl (by simp)
    ·exact .inr ⟨fun v hv=>by
      rcases List.mem_cons.1 hv with rfl|hv
      ·exact fun e=>h3 e.symm
      ·exact h1 v hv,h4⟩
theorem MG {e:Nat × α} {us:List (Nat × α)}:∀ {l:List (Nat × α)},(∀ u ∈ us,u.1≠e.1)->e ∈ l->e ∈ updL us l:=by
 induction us with
 | nil=>intro l _ h;exact h
 | cons u us ih=>intro l h h';exact ih (fun v hv=>h v (by simp[hv])) (la.2 (.inr ⟨fun e=>h u (by simp) e.symm,h'⟩))
theorem get?_updL {t:Nat} {us:List (Nat × α)}:∀ {l:List (Nat × α)},(∀ u ∈ us,u.1≠t)->get? t (updL us l)=get? t l:=by
 induction us with
 | nil=>intro l _;rfl
 | cons u us ih =>
   intro l h
   show get? t (updL us (upd u.1 u.2 l))=_
   rw[ih (fun v hv=>h v (by simp[hv])),get?_upd,if_neg (h u (by simp))]
def bp {β:Type} (f:α->β) (l:List (Nat × α)):List (Nat × β):=l.map fun x=>(x.1,f x.2)
theorem BB {β:Type} {f:α->β} {e:Nat × β} {l:List (Nat × α)}:e ∈ bp f l ↔ ∃ p,(e.1,p) ∈ l/\e.2=f p:=by
 simp only[bp,List.mem_map]
 constructor
 ·rintro⟨⟨i,p⟩,h,rfl⟩;exact⟨p,h,rfl⟩
 ·rintro⟨p,h,he⟩;exact⟨(e.1,p),h,by rw[<-he]⟩
theorem get?_mapV {β:Type} {f:α->β} {t:Nat}:∀ {l:List (Nat × α)},get? t (bp f l)=(get? t l).map f:=by
 intro l
 induction l with
 | nil=>rfl
 | cons x l ih =>
   obtain⟨i,z⟩:=x
   show get? t ((i,f z)::bp f l)=_
   simp only[get?]
   split
   ·rfl
   ·exact ih
theorem MH {f:α->α} {t:Nat}:∀ {l:List (Nat × α)},del t (bp f l)=bp f (del t l):=by
 intro l
 induction l with
 | nil=>rfl
 | cons x l ih =>
   obtain⟨i,z⟩:=x
   show del t ((i,f z)::bp f l)=_
   simp only[del]
   split
   ·exact ih
   ·rw[ih];rfl
theorem BC {f:α->α} {t:Nat} {y:α} (h:f y=y):∀ {l:List (Nat × α)},upd t y (bp f l)=bp f (upd t y l):=by
 intro l
 induction l with
 | nil=>simp[upd,bp,h]
 | cons x l ih =>
   obtain⟨i,z⟩:=x
   show upd t y ((i,f z)::bp f l)=_
   simp only[upd]
   split
   ·rw[MH];simp[bp,h]
   ·rw[ih];rfl
theorem BD {f:α->α} {us:List (Nat × α)} (h:∀ e ∈ us,f e.2=e.2):∀ {l:List (Nat × α)},updL us (bp f l)=bp f (updL us l):=by
 induction us with
 | nil=>intro l;rfl
 | cons u us ih =>
   intro l
   show updL us (upd u.1 u.2 (bp f l))=bp f (updL us (upd u.1 u.2 l))
   rw[BC (h u (by simp)),ih (fun e he=>h e (by simp[he]))]
theorem get_get? {d:α} {t:Nat}:∀ {l:List (Nat × α)},get d t l=(get? t l).getD d:=by
 intro l
 induction l with
 | nil=>rfl
 | cons x l ih =>
   obtain⟨i,z⟩:=x
   simp only[get,get?]
   split
   ·rfl
   ·exact ih
end
theorem PV.map_map {f g:Q->Q}:∀ (p:PV),(p.map f).map g=p.map (g ∘ f)
 | .q x=>rfl
 | .agg xs=>by simp[PV.map]
 | .tup xs=>by
   simp only[PV.map,List.map_map]
   congr 1
   refine List.map_congr_left (fun x _=>?_)
   cases x <;> simp[SV.map]
 | .gd b p=>by simp only[PV.map];rw[PV.map_map p]
theorem PV.map_congr {f g:Q->Q} (h:∀ q,f q=g q) (p:PV):p.map f=p.map g:=by rw[show f=g from funext h]
theorem kil_comm (k k':Kil) (q:Q):aE k (aE k' q)=aE k' (aE k q):=by
 rcases k with _|⟨b,d⟩
 ·rfl
 ·rcases k' with _|⟨b',d'⟩
  ·rfl
  ·cases b <;> cases b' <;> cases q with
   | own i=>by_cases h1:i=d <;> by_cases h2:i=d' <;> simp_all [aE,Q.killB,Q.killO]
   | box i o=>by_cases h1:i=d <;> by_cases h2:i=d' <;> simp_all [aE,Q.killB,Q.killO]
   | rp i sz k o=>by_cases h1:i=d <;> by_cases h2:i=d' <;> simp_all [aE,Q.killB,Q.killO]
   | vw i sz k o=>by_cases h1:i=d <;> by_cases h2:i=d' <;> simp_all [aE,Q.killB,Q.killO]
   | vc i sz k o cp=>by_cases h1:i=d <;> by_cases h2:i=d' <;> simp_all [aE,Q.killB,Q.killO]
   | nr i π=>by_cases h1:i=d <;> by_cases h2:i=d' <;> simp_all [aE,Q.killB,Q.killO]
   | np i π sz k o=>by_cases h1:i=d <;> by_cases h2:i=d' <;> simp_all [aE,Q.killB,Q.killO]
   | _=>rfl
theorem PV.kil_comm (k k':Kil) (p:PV):(p.map (aE k)).map (aE k')=(p.map (aE k')).map (aE k):=by
 rw[PV.map_map,PV.map_map];exact PV.map_congr (fun q=>Pw.kil_comm k' k q) p
theorem L.kil_comm (k k':Kil) (l:List Q):(l.map (aE k)).map (aE k')=(l.map (aE k')).map (aE k):=by
 rw[List.map_map,List.map_map];exact List.map_congr_left (fun q _=>Pw.kil_comm k' k q)
theorem Q.kil_back {k k':Kil} (h:k'=none\/k'≠k) {q:Q} (he:aE k' (aE k q)=aE k q):aE k' q=q:=by
 rcases k' with _|⟨b',d'⟩
 ·rfl
 ·have hne:=h.resolve_left (by simp)
  rcases k with _|⟨b,d⟩
  ·exact he
  ·cases b <;> cases b' <;> cases q with
   | own i=>by_cases h1:i=d <;> by_cases h2:i=d' <;> simp_all [aE,Q.killB,Q.killO]
   | box i o=>by_cases h1:i=d <;> by_cases h2:i=d' <;> simp_all [aE,Q.killB,Q.killO]
   | rp i sz k o=>by_cases h1:i=d <;> by_cases h2:i=d' <;> simp_all [aE,Q.killB,Q.killO]
   | vw i sz k o=>by_cases h1:i=d <;> by_cases h2:i=d' <;> simp_all [aE,Q.killB,Q.killO]
   | vc i sz k o cp=>by_cases h1:i=d <;> by_cases h2:i=d' <;> simp_all [aE,Q.killB,Q.killO]
   | nr i π=>by_cases h1:i=d <;> by_cases h2:i=d' <;> simp_all [aE,Q.killB,Q.killO]
   | np i π sz k o=>by_cases h1:i=d <;> by_cases h2:i=d' <;> simp_all [aE,Q.killB,Q.killO]
   | _=>rfl
theorem L.kil_back {k k':Kil} (h:k'=none\/k'≠k):∀ {l:List Q},(l.map (aE k)).map (aE k')=l.map (aE k)->l.map (aE k')=l:=by
 intro l
 induction l with
 | nil=>intro _;rfl
 | cons q l ih =>
   intro he
   simp only[List.map_cons,List.cons.injEq] at he ⊢
   exact⟨Q.kil_back h he.1,ih he.2⟩
theorem SV.kil_back {k k':Kil} (h:k'=none\/k'≠k) {s:SV} (he:(s.map (aE k)).map (aE k')=s.map (aE k)):s.map (aE k')=s:=by
 cases s with
 | q x=>simp only[SV.map,SV.q.injEq] at he ⊢;exact Q.kil_back h he
 | agg xs=>simp only[SV.map,SV.agg.injEq] at he ⊢;exact L.kil_back h he
theorem PV.kil_back {k k':Kil} (h:k'=none\/k'≠k):∀ {p:PV},(p.map (aE k)).map (aE k')=p.map (aE k)->p.map (aE k')=p
 | .q x,he=>by simp only[PV.map,PV.q.injEq] at he ⊢;exact Q.kil_back h he
 | .agg xs,he=>by simp only[PV.map,PV.agg.injEq] at he ⊢;exact L.kil_back h he
 | .tup xs,he=>by
   simp only[PV.map,PV.tup.injEq] at he ⊢
   induction xs with
   | nil=>rfl
   | cons s xs ih =>
     simp only[List.map_cons,List.cons.injEq] at he ⊢
     exact⟨SV.kil_back h he.1,ih he.2⟩
 | .gd b p,he=>by
   simp only[PV.map,PV.gd.injEq,true_and] at he ⊢
   exact PV.kil_back h he
def Q.pl:Q->Prop
 | .own _=>False
 | .box _ _=>False
 | .rp _ _ _ _=>False
 | .vw _ _ _ _=>False
 | .vc _ _ _ _ _=>False
 | .nr _ _=>False
 | .np _ _ _ _ _=>False
 | _=>True
def plL:List Q->Prop
 | []=>True
 | q::r=>q.pl/\plL r
def SV.pl:SV->Prop
 | .q x=>x.pl
 | .agg xs=>plL xs
def plS:List SV->Prop
 | []=>True
 | s::r=>s.pl/\plS r
def PV.pl:PV->Prop
 | .q x=>x.pl
 | .agg xs=>plL xs
 | .tup xs=>plS xs
 | .gd _ p=>p.pl
theorem Q.pl_kil {q:Q} (h:q.pl) (k:Kil):aE k q=q:=by
 rcases k with _|⟨b,d⟩
 ·rfl
 ·cases b <;> cases q <;> first|exact h.elim|rfl
theorem qy {l:List Q} (h:plL l) (k:Kil):l.map (aE k)=l:=by
 induction l with
 | nil=>rfl
 | cons q l ih=>simp only[List.map_cons];rw[Q.pl_kil h.1,ih h.2]
theorem SV.pl_kil {s:SV} (h:s.pl) (k:Kil):s.map (aE k)=s:=by
 cases s with
 | q x=>simp only[SV.map];rw[Q.pl_kil h]
 | agg xs=>simp only[SV.map];rw[qy h]
theorem PV.pl_kil:∀ {p:PV},p.pl->∀ (k:Kil),p.map (aE k)=p
 | .q x,h,k=>by simp only[PV.map];rw[Q.pl_kil h]
 | .agg xs,h,k=>by simp only[PV.map];rw[qy h]
 | .tup xs,h,k=>by
   simp only[PV.map]
   congr 1
   induction xs with
   | nil=>rfl
   | cons s xs ih=>simp only[List.map_cons];rw[SV.pl_kil h.1,ih h.2]
 | .gd b p,h,k=>by simp only[PV.map];rw[PV.pl_kil (p:=p) h]
theorem uO (cs:List C):plL (cs.map .c):=by
 induction cs with
 | nil=>trivial
 | cons c cs ih=>exact⟨trivial,ih⟩
end Go.Proofs.Pw
namespace Go.Proofs.Pw
open Go.RowKit
variable [Globs]
def lb (k:Kil) (l:List Q):Prop:=l.map (aE k)=l
def jv (k:Kil) (p:PV):Prop:=p.map (aE k)=p
def mD (k:Kil) (e:List Nat):List (Nat × PV)->Prop
 | []=>True
 | (t,p)::l=>(t ∈ e\/jv k p)/\mD k e l
def lc (k:Kil):List (Nat × List Q)->Prop
 | []=>True
 | (_,l)::r=>lb k l/\lc k r
def plT (d:Option Nat):List (Nat × PV)->Prop
 | []=>True
 | (t,p)::l=>(d=some t->p.pl)/\plT d l
def jx (σ:St) (x:XOp):Prop:=(match aK σ x with
 | none=>True
 | k=>mD k (dV x) σ.tm/\lc k σ.bx)/\plT x.dst σ.tm
def plA (us:List (Nat × List Q)):List (Nat × List Q)->Prop
 | []=>True
 | (i,l)::r=>((us.any fun u=>u.1 == i)=true->plL l)/\plA us r
def ld (k:Kil) (u:Updr):Prop:=(match u.s with|none=>True|some p=>jv k p)/\lc k u.bs
structure Rc where
 mem:List (Bool × Nat)
 wr:List (Bool × Nat)
 k:Kil
 u:Updr
def oJ:Kil->List (Bool × Nat)
 | none=>[]
 | some x=>[x]
def wrU (k:Kil) (u:Updr):List (Bool × Nat):=oJ k++(u.bs.map (fun e=>(false,e.1))++u.rs.map (fun e=>(true,e.1)))
def fh (σ:St) (x:XOp) (u:Updr):Rc:=⟨cD σ x,wrU (aK σ x) u,aK σ x,u⟩
def cP (a b:List (Bool × Nat)):Bool:=a.all fun x=>!(b.any fun y=>y.1 == x.1 && y.2 == x.2)
theorem qz {a b:List (Bool × Nat)} (h:cP a b=true) {x:Bool × Nat} (hx:x ∈ a) (hx':x ∈ b):False:=by
 unfold cP at h
 rw[List.all_eq_true] at h
 have h1:=h x hx
 simp only[Bool.not_eq_true',List.any_eq_false] at h1
 exact h1 x hx' (by simp)
def jy (ry rx:Rc):Prop:=(cP ry.wr (rx.mem++rx.wr)=true/\cP rx.wr ry.mem=true)/\ld ry.k rx.u/\ld rx.k ry.u
def one (Γ:FuncId->Option Spec) (σ:St) (x:XOp) (F:Rc->St->Prop):Prop:=jx σ x/\bO Γ σ x (fun u=>plA u.bs σ.bx/\F (fh σ x u) (u.app (aK σ x) x.dst σ))
theorem MI {k:Kil} {e:List Nat}:∀ {l:List (Nat × PV)},mD k e l ↔ ∀ t p,(t,p) ∈ l->t ∈ e\/jv k p:=by
 intro l
 induction l with
 | nil=>simp[mD]
 | cons x l ih =>
   obtain⟨t,p⟩:=x
   simp only[mD,ih,List.mem_cons,Prod.mk.injEq]
   constructor
   ·rintro⟨h1,h2⟩ t' p' (⟨rfl,rfl⟩|h)
    ·exact h1
    ·exact h2 _ _ h
   ·exact fun h=>⟨h _ _ (.inl ⟨rfl,rfl⟩),fun t' p' h'=>h _ _ (.inr h')⟩
theorem mE {k:Kil}:∀ {l:List (Nat × List Q)},lc k l ↔ ∀ t p,(t,p) ∈ l->lb k p:=by
 intro l
 induction l with
 | nil=>simp[lc]
 | cons x l ih =>
   obtain⟨t,p⟩:=x
   simp only[lc,ih,List.mem_cons,Prod.mk.injEq]
   constructor
   ·rintro⟨h1,h2⟩ t' p' (⟨rfl,rfl⟩|h)
    ·exact h1
    ·exact h2 _ _ h
   ·exact fun h=>⟨h _ _ (.inl ⟨rfl,rfl⟩),fun t' p' h'=>h _ _ (.inr h')⟩
theorem MJ {d:Option Nat}:∀ {l:List (Nat × PV)},plT d l ↔ ∀ t p,(t,p) ∈ l->d=some t->p.pl:=by
 intro l
 induction l with
 | nil=>simp[plT]
 | cons x l ih =>
   obtain⟨t,p⟩:=x
   simp only[plT,ih,List.mem_cons,Prod.mk.injEq]
   constructor
   ·rintro⟨h1,h2⟩ t' p' (⟨rfl,rfl⟩|h)
    ·exact h1
    ·exact h2 _ _ h
   ·exact fun h=>⟨h _ _ (.inl ⟨rfl,rfl⟩),fun t' p' h'=>h _ _ (.inr h')⟩
theorem le {us:List (Nat × List Q)}:∀ {l:List (Nat × List Q)},plA us l ↔ ∀ t p,(t,p) ∈ l->(∃ u ∈ us,u.1=t)->plL p:=by
 intro l
 induction l with
 | nil=>simp[plA]
 | cons x l ih =>
   obtain⟨t,p⟩:=x
   simp only[plA,ih,List.mem_cons,Prod.mk.injEq,List.any_eq_true,beq_iff_eq]
   constructor
   ·rintro⟨h1,h2⟩ t' p' (⟨rfl,rfl⟩|h)
    ·exact h1
    ·exact h2 _ _ h
   ·exact fun h=>⟨h _ _ (.inl ⟨rfl,rfl⟩),fun t' p' h'=>h _ _ (.inr h')⟩
theorem jz (p:PV):jv none p:=by
 unfold jv
 induction p with
 | q x=>rfl
 | agg xs=>simp[PV.map,aE]
 | tup xs =>
   simp only[PV.map]
   congr 1
   induction xs with
   | nil=>rfl
   | cons s xs ih=>rw[List.map_cons,ih];cases s <;> simp[SV.map,aE]
 | gd b p ih=>simp only[PV.map];rw[ih]
theorem lf (l:List Q):lb none l:=by simp[lb,aE]
theorem iv {σ:St} {x:XOp}:jx σ x ↔ ((∀ t p,(t,p) ∈ σ.tm->t ∈ dV x\/jv (aK σ x) p)/\∀ t l,(t,l) ∈ σ.bx->lb (aK σ x) l)/\∀ t p,(t,p) ∈ σ.tm->x.dst=some t->p.pl:=by
 unfold jx
 rw[MJ]
 split
 ·rename_i h
  rw[h]
  exact⟨fun h=>⟨⟨fun t p _=>.inr (jz p),fun t l _=>lf l⟩,h.2⟩,fun h=>⟨trivial,h.2⟩⟩
 ·rw[MI,mE]
theorem kil_tm (k:Kil) (σ:St):(σ.kil k).tm=match k with|none=>σ.tm|some _=>bp (PV.map (aE k)) σ.tm:=by cases k <;> rfl
theorem oK {k:Kil} {σ:St} {t:Nat} {p:PV}:(t,p) ∈ (σ.kil k).tm ↔ ∃ q,(t,q) ∈ σ.tm/\p=q.map (aE k):=by
 cases k with
 | none=>exact⟨fun h=>⟨p,h,(jz p).symm⟩,fun ⟨q,h,he⟩=>by rw[he,(jz q:q.map (aE none)=q)];exact h⟩
 | some _=>exact BB (e:=(t,p))
theorem qA {k:Kil} {σ:St} {t:Nat} {p:List Q}:(t,p) ∈ (σ.kil k).bx ↔ ∃ q,(t,q) ∈ σ.bx/\p=q.map (aE k):=by
 cases k with
 | none=>exact⟨fun h=>⟨p,h,(lf p).symm⟩,fun ⟨q,h,he⟩=>by rw[he,(lf q:q.map (aE none)=q)];exact h⟩
 | some _=>exact BB (e:=(t,p))
theorem lg {k:Kil} {σ:St}:(σ.kil k).rw=σ.rw:=by cases k <;> rfl
theorem uP {k:Kil} {σ:St} {t:Nat}:get? t (σ.kil k).tm=(get? t σ.tm).map (PV.map (aE k)):=by
 cases k with
 | none=>show get? t σ.tm=_;cases get? t σ.tm <;> simp;exact (jz _).symm
 | some _=>exact get?_mapV
theorem uQ {k:Kil} {σ:St} {t:Nat}:get? t (σ.kil k).bx=(get? t σ.bx).map (List.map (aE k)):=by
 cases k with
 | none=>show get? t σ.bx=_;cases get? t σ.bx <;> simp;exact (lf _).symm
 | some _=>exact get?_mapV
theorem get?_mem' {α:Type} {t:Nat} {y:α}:∀ {l:List (Nat × α)},get? t l=some y->(t,y) ∈ l:=by
 intro l
 induction l with
 | nil=>intro h;simp[get?] at h
 | cons x l ih =>
   obtain⟨i,z⟩:=x
   intro h
   simp only[get?] at h
   split at h
   ·rename_i hi;subst hi;cases h;simp
   ·exact List.mem_cons_of_mem _ (ih h)
def Eqv (σ σ':St):Prop:=EqL σ.tm σ'.tm/\EqL σ.bx σ'.bx/\EqL σ.rw σ'.rw
theorem Eqv.refl (σ:St):Eqv σ σ:=⟨EqL.refl _,EqL.refl _,EqL.refl _⟩
theorem EqL.symm {α:Type} {a b:List (Nat × α)} (h:EqL a b):EqL b a:=⟨fun e=>(h.1 e).symm,fun t=>(h.2 t).symm⟩
theorem Eqv.symm {σ σ':St} (h:Eqv σ σ'):Eqv σ' σ:=⟨h.1.symm,h.2.1.symm,h.2.2.symm⟩
theorem Eqv.trans {a b c:St} (h:Eqv a b) (k:Eqv b c):Eqv a c:=⟨h.1.trans k.1,h.2.1.trans k.2.1,h.2.2.trans k.2.2⟩
theorem Eqv.sm {σ σ':St} (h:Eqv σ σ') (l:List Nat):Sm σ σ' l:=fun t _=>by rw[get_get?,get_get?,h.1.2 t]
theorem Eqv.lk {σ σ':St} (h:Eqv σ σ') (l:List (Bool × Nat)):LkL σ σ' l:=fun id _=>by
 unfold Lk
 split
 ·exact h.2.2.2 _
 ·exact h.2.1.2 _
theorem EqL.kil_tm {σ σ':St} (h:Eqv σ σ') (k:Kil):EqL (σ.kil k).tm (σ'.kil k).tm :=
 ⟨fun e=>by
  obtain⟨t,p⟩:=e
  rw[oK,oK]
  exact⟨fun ⟨q,h1,h2⟩=>⟨q,(h.1.1 _).1 h1,h2⟩,fun ⟨q,h1,h2⟩=>⟨q,(h.1.1 _).2 h1,h2⟩⟩,fun t=>by rw[uP,uP,h.1.2 t]⟩
theorem EqL.kil_bx {σ σ':St} (h:Eqv σ σ') (k:Kil):EqL (σ.kil k).bx (σ'.kil k).bx :=
 ⟨fun e=>by
  obtain⟨t,p⟩:=e
  rw[qA,qA]
  exact⟨fun ⟨q,h1,h2⟩=>⟨q,(h.2.1.1 _).1 h1,h2⟩,fun ⟨q,h1,h2⟩=>⟨q,(h.2.1.1 _).2 h1,h2⟩⟩,fun t=>by rw[uQ,uQ,h.2.1.2 t]⟩
theorem EqL.putO {l l':List (Nat × PV)} (h:EqL l l') (d:Option Nat) (s:Option PV):EqL (putO d s l) (putO d s l'):=by
 unfold Pw.putO
 split
 ·exact h.upd _ _
 ·exact h
theorem Eqv.app {σ σ':St} (h:Eqv σ σ') (k:Kil) (d:Option Nat) (u:Updr):Eqv (u.app k d σ) (u.app k d σ') :=
 ⟨(EqL.kil_tm h k).putO d u.s,(EqL.kil_bx h k).updL,by
  show EqL (updL u.rs (σ.kil k).rw) (updL u.rs (σ'.kil k).rw)
  rw[lg,lg]
  exact h.2.2.updL⟩
theorem MK {Γ:FuncId->Option Spec} {σ σ':St} (h:Eqv σ σ') {x:XOp} {F:Rc->St->Prop} (ho:one Γ σ x F):one Γ σ' x (fun r τ'=>∃ τ,Eqv τ τ'/\F r τ):=by
 have h1:=h.sm x.rd
 have hk:=qx h1 (h.lk _)
 have hm:=uM h1
 refine⟨?_,qw ?_ (uN h1 (h.lk _) ho.2)⟩
 ·have h2:=iv.1 ho.1
  rw[hk] at h2
  exact iv.2 ⟨⟨fun t p hp=>h2.1.1 t p ((h.1.1 _).2 hp),fun t l hl=>h2.1.2 t l ((h.2.1.1 _).2 hl)⟩,fun t p hp=>h2.2 t p ((h.1.1 _).2 hp)⟩
 ·rintro u ⟨h2,h3⟩
  refine⟨le.2 fun t l hl=>le.1 h2 t l ((h.2.1.1 _).2 hl),u.app (aK σ' x) x.dst σ,h.app _ _ u,?_⟩
  rw[<-hk]
  unfold fh at h3 ⊢
  rw[hk,hm] at h3
  rwa [hk]
theorem mF {Γ:FuncId->Option Spec} {σ:St} {x:XOp} {F F':Rc->St->Prop} (h:∀ r τ,F r τ->F' r τ) (ho:one Γ σ x F):one Γ σ x F' :=
 ⟨ho.1,qw (fun _ h'=>⟨h'.1,h _ _ h'.2⟩) ho.2⟩
end Go.Proofs.Pw
namespace Go.Proofs.Pw
open Go.RowKit
variable [Globs]
theorem BE {α:Type} {f:α->α} (h:∀ a,f a=a) (l:List (Nat × α)):bp f l=l:=by
 induction l with
 | nil=>rfl
 | cons x l ih=>show (x.1,f x.2)::bp f l=_;rw[h,ih]
theorem qB {k:Kil} {σ:St}:(σ.kil k).tm=bp (PV.map (aE k)) σ.tm:=by
 cases k with
 | none=>exact (BE (fun p=>(jz p:_)) _).symm
 | some _=>rfl
theorem qC {k:Kil} {σ:St}:(σ.kil k).bx=bp (List.map (aE k)) σ.bx:=by
 cases k with
 | none=>exact (BE (fun p=>(lf p:_)) _).symm
 | some _=>rfl
theorem BF {α:Type} {f g:α->α} (h:∀ a,f (g a)=g (f a)) (l:List (Nat × α)):bp f (bp g l)=bp g (bp f l):=by
 induction l with
 | nil=>rfl
 | cons x l ih=>show (x.1,f (g x.2))::bp f (bp g l)=(x.1,g (f x.2))::bp g (bp f l);rw[h,ih]
theorem BG {f:PV->PV} {d:Option Nat} {s:Option PV} (h:∀ p,s=some p->f p=p) {l:List (Nat × PV)}:bp f (putO d s l)=putO d s (bp f l):=by
 unfold putO
 split
 ·exact (BC (h _ rfl)).symm
 ·rfl
theorem ML {d d':Option Nat} {s s':Option PV} (h:∀ t,d=some t->d'=some t->False) (l:List (Nat × PV)):EqL (putO d s (putO d' s' l)) (putO d' s' (putO d s l)):=by
 cases d with
 | none=>cases d' <;> exact EqL.refl _
 | some t =>
   cases d' with
   | none=>exact EqL.refl _
   | some t' =>
     cases s <;> cases s' <;> try exact EqL.refl _
     exact Bz (fun e=>h t rfl (by rw[e])) l
theorem uR {k:Kil} {u:Updr} (h:ld k u):∀ p,u.s=some p->p.map (aE k)=p:=fun p hp=>by
 have h1:=h.1
 rw[hp] at h1
 exact h1
theorem qD {ky kx:Kil} {uy ux:Updr} (h:cP (wrU ky uy) (wrU kx ux)=true):(∀ e ∈ ux.bs,∀ e' ∈ uy.bs,e.1≠e'.1)/\(∀ e ∈ ux.rs,∀ e' ∈ uy.rs,e.1≠e'.1)/\(ky=none\/ky≠kx):=by
 refine⟨fun e he e' he' hee=>?_,fun e he e' he' hee=>?_,?_⟩
 ·refine qz h (x:=(false,e'.1)) ?_ ?_
  ·simp only[wrU,List.mem_append,List.mem_map];exact .inr (.inl ⟨e',he',rfl⟩)
  ·simp only[wrU,List.mem_append,List.mem_map];exact .inr (.inl ⟨e,he,by rw[hee]⟩)
 ·refine qz h (x:=(true,e'.1)) ?_ ?_
  ·simp only[wrU,List.mem_append,List.mem_map];exact .inr (.inr ⟨e',he',rfl⟩)
  ·simp only[wrU,List.mem_append,List.mem_map];exact .inr (.inr ⟨e,he,by rw[hee]⟩)
 ·cases ky with
  | none=>exact .inl rfl
  | some b =>
    right
    rintro rfl
    exact qz h (x:=b) (by simp[wrU,oJ]) (by simp[wrU,oJ])
theorem MM {σ:St} {kx ky:Kil} {ux uy:Updr} {dx dy:Option Nat} (hd:∀ t,dx=some t->dy=some t->False) (hw:cP (wrU ky uy) (wrU kx ux)=true) (h1:ld ky ux) (h2:ld kx uy) :
 Eqv (ux.app kx dx (uy.app ky dy σ)) (uy.app ky dy (ux.app kx dx σ)):=by
 obtain⟨w1,w2,_⟩:=qD hw
 refine⟨?_,?_,?_⟩
 ·show EqL (putO dx ux.s ((uy.app ky dy σ).kil kx).tm) (putO dy uy.s ((ux.app kx dx σ).kil ky).tm)
  rw[qB,qB]
  show EqL (putO dx ux.s (bp _ (putO dy uy.s (σ.kil ky).tm))) (putO dy uy.s (bp _ (putO dx ux.s (σ.kil kx).tm)))
  rw[BG (uR h2),BG (uR h1),qB,qB,BF (fun p=>PV.kil_comm ky kx p)]
  exact ML hd _
 ·show EqL (updL ux.bs ((uy.app ky dy σ).kil kx).bx) (updL uy.bs ((ux.app kx dx σ).kil ky).bx)
  rw[qC,qC]
  show EqL (updL ux.bs (bp _ (updL uy.bs (σ.kil ky).bx))) (updL uy.bs (bp _ (updL ux.bs (σ.kil kx).bx)))
  rw[<-BD (fun e he=>mE.1 h2.2 e.1 e.2 he),<-BD (fun e he=>mE.1 h1.2 e.1 e.2 he),qC,qC,BF (fun p=>L.kil_comm ky kx p)]
  exact BA w1 _
 ·show EqL (updL ux.rs ((uy.app ky dy σ).kil kx).rw) (updL uy.rs ((ux.app kx dx σ).kil ky).rw)
  rw[lg,lg]
  show EqL (updL ux.rs (updL uy.rs (σ.kil ky).rw)) (updL uy.rs (updL ux.rs (σ.kil kx).rw))
  rw[lg,lg]
  exact BA w2 _
structure Stt (y x:XOp):Prop where
 yx:∀ d,y.dst=some d->d ∉ x.rd
 xy:∀ d,x.dst=some d->d ∉ y.rd
 dd:∀ t,x.dst=some t->y.dst=some t->False
 ex:∀ t ∈ dV y,t ∉ x.rd
 xe:∀ t ∈ dV x,t ∉ y.rd
theorem MN {x:XOp} {t:Nat} (h:t ∈ dV x):t ∈ x.rd:=by
 obtain⟨d,g,k⟩:=x
 cases k with
 | app a b sz bytes ex =>
   cases a with
   | t n =>
     simp only[dV] at h
     split at h
     ·simp only[List.mem_singleton] at h
      subst h
      simp[XOp.rd,XK.rd,XO.rd]
     ·simp[XOp.rd,XK.rd,h]
   | k q=>simp[dV] at h
 | appx a b sz bytes =>
   cases a with
   | t n =>
     simp only[dV,List.mem_singleton] at h
     subst h
     simp[XOp.rd,XK.rd,XO.rd]
   | k q=>simp[dV] at h
 | _=>simp[dV] at h
section
variable {Γ:FuncId->Option Spec} {σ:St} {x y:XOp}
theorem get?_app_tm {k:Kil} {d:Option Nat} {u:Updr} {t:Nat} (h:d≠some t):get? t (u.app k d σ).tm=(get? t σ.tm).map (PV.map (aE k)):=by
 show get? t (putO d u.s (σ.kil k).tm)=_
 rw[<-uP]
 unfold putO
 split
 ·rw[get?_upd,if_neg (fun e=>h (by rw[e]))]
 ·rfl
theorem MO {k:Kil} {d:Option Nat} {u:Updr} {t:Nat} (h:d≠some t) (hk:∀ p,(t,p) ∈ σ.tm->jv k p):get (.q .no) t (u.app k d σ).tm=get (.q .no) t σ.tm:=by
 rw[get_get?,get_get?,get?_app_tm h]
 cases hg:get? t σ.tm with
 | none=>rfl
 | some p=>exact hk p (get?_mem' hg)
theorem MP {k:Kil} {d:Option Nat} {u:Updr} {id:Bool × Nat} (h:id ∉ wrU k u) (hk:∀ i l,(i,l) ∈ σ.bx->lb k l):Lk σ (u.app k d σ) id:=by
 obtain⟨b,i⟩:=id
 simp only[wrU,List.mem_append,List.mem_map,not_or,not_exists,not_and] at h
 unfold Lk
 cases b with
 | true =>
   simp only[if_true]
   show _=get? i (updL u.rs (σ.kil k).rw)
   rw[lg,get?_updL (fun e he h'=>h.2.2 e he (by rw[h']))]
 | false =>
   simp only[Bool.false_eq_true,if_false]
   show _=get? i (updL u.bs (σ.kil k).bx)
   rw[get?_updL (fun e he h'=>h.2.1 e he (by rw[h'])),uQ]
   cases hg:get? i σ.bx with
   | none=>rfl
   | some l=>exact congrArg some (hk i l (get?_mem' hg)).symm
theorem lh (hy:jx σ y) (h1:∀ d,y.dst=some d->d ∉ x.rd) (h2:∀ t ∈ dV y,t ∉ x.rd) {u:Updr}:Sm σ (u.app (aK σ y) y.dst σ) x.rd:=fun t ht=>by
 refine (MO (fun e=>h1 t e ht) (fun p hp=>?_)).symm
 exact ((iv.1 hy).1.1 t p hp).resolve_left (fun h=>h2 t h ht)
theorem oL (hy:jx σ y) {u:Updr} {l:List (Bool × Nat)} (h:cP (wrU (aK σ y) u) l=true):LkL σ (u.app (aK σ y) y.dst σ) l:=fun id hid =>
 MP (fun hw=>qz h hw hid) (iv.1 hy).1.2
theorem Sm.symm {σ σ':St} {l:List Nat} (h:Sm σ σ' l):Sm σ' σ l:=fun t ht=>(h t ht).symm
theorem LkL.symm {σ σ':St} {l:List (Bool × Nat)} (h:LkL σ σ' l):LkL σ' σ l:=fun id hid=>by
 have:=h id hid
 unfold Lk at this ⊢
 split at this <;> rename_i hb
 ·rw[if_pos hb];exact this.symm
 ·rw[if_neg hb];exact this.symm
theorem BH {k:Kil} {d:Option Nat} {u:Updr} {t:Nat} {p:PV} (h:(t,p) ∈ (u.app k d σ).tm):(d=some t/\u.s=some p)\/∃ q,(t,q) ∈ σ.tm/\p=q.map (aE k):=by
 have h':(t,p) ∈ putO d u.s (σ.kil k).tm:=h
 unfold putO at h'
 split at h'
 ·rename_i d0 p0 hs
  rcases la.1 h' with h1|⟨_,h1⟩
  ·simp only[Prod.mk.injEq] at h1
   exact .inl ⟨by rw[h1.1],by rw[hs,h1.2]⟩
  ·exact .inr (oK.1 h1)
 ·exact .inr (oK.1 h')
theorem BI {k:Kil} {d:Option Nat} {u:Updr} {t:Nat} {q:PV} (h:(t,q) ∈ σ.tm) (hd:d≠some t):(t,q.map (aE k)) ∈ (u.app k d σ).tm:=by
 show _ ∈ putO d u.s (σ.kil k).tm
 have:(t,q.map (aE k)) ∈ (σ.kil k).tm:=oK.2 ⟨q,h,rfl⟩
 unfold putO
 split
 ·exact la.2 (.inr ⟨fun e=>hd (by rw[<-e]),this⟩)
 ·exact this
theorem BJ {k:Kil} {d:Option Nat} {u:Updr} {t:Nat} {p:List Q} (h:(t,p) ∈ (u.app k d σ).bx):(t,p) ∈ u.bs\/((∀ e ∈ u.bs,e.1≠t)/\∃ q,(t,q) ∈ σ.bx/\p=q.map (aE k)):=by
 rcases MF (l:=(σ.kil k).bx) h with h1|⟨h1,h2⟩
 ·exact .inl h1
 ·exact .inr ⟨h1,qA.1 h2⟩
theorem BK {k:Kil} {d:Option Nat} {u:Updr} {t:Nat} {q:List Q} (h:(t,q) ∈ σ.bx) (hd:∀ e ∈ u.bs,e.1≠t):(t,q.map (aE k)) ∈ (u.app k d σ).bx :=
 MG hd (qA.2 ⟨q,h,rfl⟩)
theorem MQ (hst:Stt y x) {K:Rc->Rc->St->Prop} (hp:∀ ry rx τ,K ry rx τ->jy ry rx)
 (h:one Γ σ y (fun ry σ1=>one Γ σ1 x (fun rx σ2=>K ry rx σ2))):one Γ σ x (fun rx τ1=>one Γ τ1 y (fun ry τ2=>∃ σ2,Eqv σ2 τ2/\K ry rx σ2)):=by
 obtain⟨hiy,hey⟩:=h
 have iy:=iv.1 hiy
 obtain⟨vy,Oy,ney,hny⟩:=oI Γ σ y
 obtain⟨vx,Ox,nex,hnx⟩:=oI Γ σ x
 rw[hny] at hey
 obtain⟨hvy,hOy⟩:=hey
 have hk:∀ uy:Updr,cP (wrU (aK σ y) uy) (cD σ x)=true->aK (uy.app (aK σ y) y.dst σ) x=aK σ x:=fun uy h6=>(qx (lh hiy hst.yx hst.ex) (oL hiy h6)).symm
 have hm:∀ uy:Updr,cD (uy.app (aK σ y) y.dst σ) x=cD σ x:=fun uy=>(uM (lh hiy hst.yx hst.ex)).symm
 have hboth:∀ uy,Oy uy->cP (wrU (aK σ y) uy) (cD σ x)=true/\vx/\plA uy.bs σ.bx/\jx (uy.app (aK σ y) y.dst σ) x/\∀ ux,Ox ux->plA ux.bs (uy.app (aK σ y) y.dst σ).bx/\K (fh σ y uy) (fh σ x ux) (ux.app (aK σ x) x.dst (uy.app (aK σ y) y.dst σ)):=by
  intro uy huy
  obtain⟨h1,h2,h3⟩:=hOy uy huy
  obtain⟨v1,O1,ne1,hn1⟩:=oI Γ (uy.app (aK σ y) y.dst σ) x
  have h4:=(hn1 _).1 h3
  obtain⟨u0,hu0⟩:=ne1 h4.1
  have h5:=(hp _ _ _ (h4.2 u0 hu0).2).1.1
  have h6:cP (wrU (aK σ y) uy) (cD σ x)=true:=by
   rw[<-hm uy]
   unfold cP at h5 ⊢
   rw[List.all_eq_true] at h5 ⊢
   intro z hz
   have:=h5 z hz
   simp only[Bool.not_eq_true',List.any_eq_false,List.mem_append] at this ⊢
   exact fun a ha=>this a (.inl ha)
  have h7:=uN (lh hiy hst.yx hst.ex (u:=uy)).symm (by rw[hm];exact (oL hiy h6).symm) h3
  rw[hnx] at h7
  refine⟨h6,h7.1,h1,h2,fun ux hux=>?_⟩
  obtain⟨h8,h9⟩:=h7.2 ux hux
  refine⟨h8,?_⟩
  unfold fh at h9 ⊢
  rw[hk uy h6,hm] at h9
  exact h9
 obtain⟨uy0,huy0⟩:=ney hvy
 have hvx:=(hboth uy0 huy0).2.1
 obtain⟨ux0,hux0⟩:=nex hvx
 have pk:∀ {uy ux},Oy uy->Ox ux->jy (fh σ y uy) (fh σ x ux):=fun hy hx=>hp _ _ _ ((hboth _ hy).2.2.2.2 _ hx).2
 have dw:∀ {uy ux},Oy uy->Ox ux->cP (wrU (aK σ y) uy) (wrU (aK σ x) ux)=true:=fun hy hx=>by
  have h5:=(pk hy hx).1.1
  unfold cP at h5 ⊢
  rw[List.all_eq_true] at h5 ⊢
  intro z hz
  have:=h5 z hz
  simp only[Bool.not_eq_true',List.any_eq_false,List.mem_append] at this ⊢
  exact fun a ha=>this a (.inr ha)
 have hkk:aK σ x=none\/aK σ x≠aK σ y:=by
  rcases (qD (dw huy0 hux0)).2.2 with h|h
  ·cases hx:aK σ x with
   | none=>exact .inl rfl
   | some b=>exact .inr (by rw[h];simp)
  ·exact .inr (fun e=>h e.symm)
 have hix:jx σ x:=by
  have i1:=iv.1 (hboth uy0 huy0).2.2.2.1
  rw[hk uy0 (hboth uy0 huy0).1] at i1
  refine iv.2 ⟨⟨fun t p hp=>?_,fun t l hl=>?_⟩,fun t p hp hd=>?_⟩
  ·by_cases hdt:y.dst=some t
   ·exact .inr (PV.pl_kil (iy.2 t p hp hdt) _)
   ·rcases i1.1.1 t _ (BI hp hdt) with h1|h1
    ·exact .inl h1
    ·exact .inr (PV.kil_back hkk h1)
  ·by_cases hb:∃ e ∈ uy0.bs,e.1=t
   ·exact qy (le.1 (hboth uy0 huy0).2.2.1 t l hl hb) _
   ·exact L.kil_back hkk (i1.1.2 t _ (BK hl (fun e he h=>hb ⟨e,he,h⟩)))
  ·have h1:=i1.2 t _ (BI (k:=aK σ y) (u:=uy0) hp (fun e=>hst.dd t hd e)) hd
   rwa [(iy.1.1 t p hp).resolve_left (fun h=>hst.xy t hd (MN h))] at h1
 have ix:=iv.1 hix
 refine⟨hix,(hnx _).2 ⟨hvx,fun ux hux=>⟨?_,?_,?_⟩⟩⟩
 ·refine le.2 fun t l hl he=>?_
  have h1:=le.1 ((hboth uy0 huy0).2.2.2.2 ux hux).1 t _ (BK (k:=aK σ y) (d:=y.dst) hl (fun e he' h'=>by
   obtain⟨e0,h2,h3⟩:=he
   exact (qD (dw huy0 hux)).1 e0 h2 e he' (h3.trans h'.symm))) he
  rwa [iy.1.2 t l hl] at h1
 ·
  have h1x:cP (wrU (aK σ x) ux) (cD σ y)=true:=(pk huy0 hux).1.2
  have hkx:aK (ux.app (aK σ x) x.dst σ) y=aK σ y:=(qx (lh hix hst.xy hst.xe) (oL hix h1x)).symm
  refine iv.2 ⟨⟨fun t p hp=>?_,fun t l hl=>?_⟩,fun t p hp hd=>?_⟩
  ·rw[hkx]
   rcases BH hp with ⟨_,hs⟩|⟨q,hq,rfl⟩
   ·exact .inr (uR (pk huy0 hux).2.1 _ hs)
   ·rcases iy.1.1 t q hq with h1|h1
    ·exact .inl h1
    ·right
     show PV.map (aE (aK σ y)) (PV.map (aE (aK σ x)) q)=PV.map (aE (aK σ x)) q
     rw[PV.kil_comm,(h1:q.map (aE (aK σ y))=q)]
  ·rw[hkx]
   rcases BJ hl with hs|⟨_,q,hq,rfl⟩
   ·exact mE.1 (pk huy0 hux).2.1.2 t l hs
   ·show List.map (aE (aK σ y)) (List.map (aE (aK σ x)) q)=List.map (aE (aK σ x)) q
    rw[L.kil_comm,(iy.1.2 t q hq:q.map (aE (aK σ y))=q)]
  ·rcases BH hp with ⟨hs,_⟩|⟨q,hq,rfl⟩
   ·exact (hst.dd t hs hd).elim
   ·have:=iy.2 t q hq hd
    rw[PV.pl_kil this];exact this
 ·have h1:cP (wrU (aK σ x) ux) (cD σ y)=true:=(pk huy0 hux).1.2
  refine uN (lh hix hst.xy hst.xe) (oL hix h1) ((hny _).2 ⟨hvy,fun uy huy=>⟨?_,?_⟩⟩)
  ·refine le.2 fun t l hl he=>?_
   rcases BJ hl with hs|⟨_,q,hq,rfl⟩
   ·obtain⟨e0,h2,h3⟩:=he
    exact ((qD (dw huy hux)).1 _ hs e0 h2 h3.symm).elim
   ·have:=le.1 (hboth uy huy).2.2.1 t q hq he
    rw[qy this];exact this
  ·have hkx:aK (ux.app (aK σ x) x.dst σ) y=aK σ y:=(qx (lh hix hst.xy hst.xe) (oL hix h1)).symm
   have hmx:cD (ux.app (aK σ x) x.dst σ) y=cD σ y:=(uM (lh hix hst.xy hst.xe)).symm
   refine⟨ux.app (aK σ x) x.dst (uy.app (aK σ y) y.dst σ),?_,?_⟩
   ·rw[hkx]
    exact MM hst.dd (dw huy hux) (pk huy hux).2.1 (pk huy hux).2.2
   ·have:=((hboth uy huy).2.2.2.2 ux hux).2
    unfold fh at this ⊢
    rw[hkx,hmx]
    exact this
end
end Go.Proofs.Pw
namespace Go.Proofs.Pw
open Go.RowKit
variable [Globs]
def oM:XK->Bool
 | .load ..=>false
 | .ia ..=>false
 | .len ..=>false
 | .st ..=>false
 | .app ..=>false
 | .sub ..=>false
 | .isn ..=>false
 | .ovl ..=>false
 | .sub3 ..=>false
 | .callr ..=>false
 | .callo ..=>false
 | .callb ..=>false
 | .callx ..=>false
 | .appx ..=>false
 | _=>true
def isK:XK->Bool
 | .box ..=>true
 | .alloc ..=>true
 | .app ..=>true
 | .mk ..=>true
 | .callo ..=>true
 | .callx ..=>true
 | .appx ..=>true
 | _=>false
def li:XK->Bool
 | .pick ..=>true
 | .bin ..=>true
 | .mm ..=>true
 | .not ..=>true
 | .idx ..=>true
 | .len ..=>true
 | .call ..=>true
 | .callb ..=>true
 | .calli ..=>true
 | .isn ..=>true
 | .cap ..=>true
 | .conv ..=>true
 | .bsl ..=>true
 | .glb ..=>true
 | _=>false
def qE (y x:XOp):Bool:=(!isW y.op && !isW x.op) || ((oM y.op && !isW y.op) && (li y.op || !isK x.op)) || ((oM x.op && !isW x.op) && (li x.op || !isK y.op))
def plO:Option PV->Prop
 | none=>True
 | some p=>p.pl
structure Info (x:XOp) (r:Rc):Prop where
 w:isW x.op=false->r.wr=[]/\r.k=none/\r.u.bs=[]
 m:oM x.op=true->r.mem=[]
 k:isK x.op=false->r.k=none
 p:li x.op=true->plO r.u.s
theorem lj {σ:St} {x:XOp} (h:isK x.op=false):aK σ x=none:=by
 obtain⟨d,g,k⟩:=x
 cases k <;> first|(simp[isK] at h;done)|(cases g <;> cases d <;> rfl)
theorem BL {σ:St} {x:XOp} (h:oM x.op=true):cD σ x=[]:=by
 obtain⟨d,g,k⟩:=x
 cases k <;> first|rfl|(simp[oM] at h)
theorem MR (d:DV):d.toP.pl:=by
 cases d with
 | one c=>cases c <;> trivial
 | agg cs=>exact uO cs
theorem MS (ds:List DV):plS (ds.map DV.toS):=by
 induction ds with
 | nil=>trivial
 | cons d r ih =>
   refine⟨?_,ih⟩
   cases d with
   | one c=>trivial
   | agg cs=>exact uO cs
theorem BM {ds:List AV} {p:PV} (h:cL ds=some p):p.pl:=by
 unfold cL at h
 split at h
 ·cases h;exact MR _
 ·cases h;exact MS _
 ·cases h
theorem BN {Γ:FuncId->Option Spec} {σ:St} {f:FuncId} {xs:List XO} {vc:Prop} {p:PV} (h:fL Γ σ f xs=some (vc,p)):p.pl:=by
 unfold fL at h
 split at h
 ·split at h
  ·simp only[Option.map_eq_some_iff,Prod.mk.injEq] at h
   obtain⟨q,hq,_,rfl⟩:=h
   exact BM hq
  ·cases h
 ·cases h
theorem BO {Γ:FuncId->Option Spec} {σ:St} {k:XK} (hk:li k=true) {vc:Prop} {p:PV} (h:ai Γ σ k=some (vc,p)):p.pl:=by
 cases k <;> first|(simp[li] at hk;done)|skip
 case pick=>simp only[ai] at h;split at h <;> first|(cases h;trivial)|(split at h <;> cases h;trivial)|cases h
 case bin =>
  simp only[ai] at h
  split at h
  ·simp only[Option.map_eq_some_iff,Prod.mk.injEq] at h
   obtain⟨r,_,_,rfl⟩:=h
   trivial
  ·cases h
 case not=>simp only[ai] at h;split at h <;> cases h;trivial
 case idx=>simp only[ai] at h;split at h <;> cases h;trivial
 case len x str =>
  cases str with
  | true=>simp only[ai] at h;split at h <;> cases h;trivial
  | false =>
    simp only[ai] at h
    split at h
    ·simp only[Option.map_eq_some_iff,Prod.mk.injEq] at h
     obtain⟨r,_,_,rfl⟩:=h
     trivial
    ·cases h;trivial
    ·cases h;trivial
    ·simp only[Option.map_eq_some_iff,Prod.mk.injEq] at h
     obtain⟨r,_,_,rfl⟩:=h
     trivial
 case call f xs=>exact BN h
 case callb f xs =>
  simp only[ai,kQ] at h
  split at h
  ·split at h
   ·split at h
    ·rename_i p' hp
     split at h
     ·cases h;exact BM hp
     ·cases h
    ·cases h
   ·cases h
  ·cases h
 case calli f xs =>
  simp only[ai] at h
  split at h
  ·simp only[Option.map_eq_some_iff,Prod.mk.injEq] at h
   obtain⟨⟨v,q⟩,hr,_,rfl⟩:=h
   exact BN hr
  ·cases h
 case mm=>simp only[ai] at h;split at h <;> first|(split at h <;> cases h;trivial)|cases h
 case cap x=>simp only[ai] at h;split at h <;> first|(cases h;trivial)|cases h
 case isn x =>
  simp only[ai] at h
  split at h <;>
  ·simp only[Option.map_eq_some_iff,Prod.mk.injEq] at h
   obtain⟨r,_,_,rfl⟩:=h
   trivial
 case conv=>simp only[ai] at h;split at h <;> cases h;trivial
 case bsl sz parts =>
  cases parts with
  | nil=>simp only[ai] at h;cases h;trivial
  | cons a r =>
    simp only[ai,Option.map_eq_some_iff,Prod.mk.injEq] at h
    obtain⟨q,_,_,rfl⟩:=h
    trivial
 case glb =>
  simp only[ai,Option.map_eq_some_iff,Prod.mk.injEq] at h
  obtain⟨q,_,_,rfl⟩:=h
  trivial
theorem MT {Γ:FuncId->Option Spec} {σ:St} {x:XOp} (hk:li x.op=true) {vc:Prop} {p:PV} (h:ce Γ σ x=some (vc,p)):p.pl:=by
 unfold ce at h
 split at h
 ·split at h
  ·simp only[Option.map_eq_some_iff,Prod.mk.injEq] at h
   obtain⟨⟨v,q⟩,hr,_,rfl⟩:=h
   exact (BO hk hr:q.pl)
  ·cases h
 ·exact BO hk h
theorem BP {Γ:FuncId->Option Spec} {σ:St} {x:XOp} {K:Updr->Prop} (hx:isW x.op=false) (h:bO Γ σ x K):∃ vc p,ce Γ σ x=some (vc,p)/\vc/\K ⟨some p,[],[]⟩:=by
 have key:(match ce Γ σ x with|some (vc,p)=>vc/\K ⟨some p,[],[]⟩|none=>False)->∃ vc p,ce Γ σ x=some (vc,p)/\vc/\K ⟨some p,[],[]⟩:=fun h=>by
  split at h
  ·rename_i vc p e;exact⟨vc,p,e,h.1,h.2⟩
  ·exact h.elim
 obtain⟨d,g,k⟩:=x
 cases k <;> cases g <;> first|(simp[isW] at hx;done)|exact h.elim|exact key h
theorem MU {Γ:FuncId->Option Spec} {σ:St} {x:XOp} {K:Updr->Prop} (h:bO Γ σ x K):bO Γ σ x (fun u=>Info x (fh σ x u)/\K u):=by
 cases hw:isW x.op with
 | true =>
   have hr:li x.op=false:=by
    obtain⟨d,g,k⟩:=x
    cases k <;> first|rfl|(simp[isW] at hw)
   refine qw (fun u hu=>⟨⟨fun h=>?_,fun h=>BL h,fun h=>lj h,fun h=>?_⟩,hu⟩) h
   ·rw[hw] at h;cases h
   ·rw[hr] at h;cases h
 | false =>
   obtain⟨vc,p,h1,h2,h3⟩:=BP hw h
   have hK:isK x.op=false:=by
    obtain⟨d,g,k⟩:=x
    cases k <;> first|rfl|(simp[isW] at hw)
   have hi:Info x (fh σ x ⟨some p,[],[]⟩):=⟨fun _=>⟨by simp[fh,wrU,lj hK,oJ],lj hK,rfl⟩,fun h=>BL h,fun h=>lj h,fun h=>MT h h1⟩
   have key:∀ (F:Updr->Prop),F ⟨some p,[],[]⟩->bO Γ σ x F:=fun F hF=>by
    have h4:=h
    obtain⟨d,g,k⟩:=x
    cases k <;> cases g <;> first|(simp[isW] at hw;done)|exact h4.elim|(simp only[bO,h1];exact⟨h2,hF⟩)
   exact key _ ⟨hi,h3⟩
theorem BQ {Γ:FuncId->Option Spec} {σ:St} {x:XOp} {F:Rc->St->Prop} (h:one Γ σ x F):one Γ σ x (fun r τ=>Info x r/\F r τ) :=
 ⟨h.1,qw (fun _ h=>⟨h.2.1,h.1,h.2.2⟩) (MU h.2)⟩
theorem qF {k:Kil} {u:Updr} (h:plO u.s\/k=none) (hb:u.bs=[]):ld k u:=by
 refine⟨?_,by rw[hb];trivial⟩
 cases hs:u.s with
 | none=>trivial
 | some p =>
   rcases h with h|h
   ·rw[hs] at h;exact PV.pl_kil h _
   ·rw[h];exact jz p
theorem BR (a:List (Bool × Nat)):cP a []=true:=by unfold cP;rw[List.all_eq_true];intro z _;rfl
theorem MV {y x:XOp} {ry rx:Rc} (h:qE y x=true) (iy:Info y ry) (ix:Info x rx):jy ry rx:=by
 simp only[qE,Bool.or_eq_true,Bool.and_eq_true,Bool.not_eq_true'] at h
 rcases h with (⟨h1,h2⟩|⟨⟨h1,h2⟩,h3⟩)|⟨⟨h1,h2⟩,h3⟩
 ·obtain⟨a1,a2,a3⟩:=iy.w h1
  obtain⟨b1,b2,b3⟩:=ix.w h2
  refine⟨⟨by rw[a1];rfl,by rw[b1];rfl⟩,?_,?_⟩
  ·rw[a2];exact qF (.inr rfl) b3
  ·rw[b2];exact qF (.inr rfl) a3
 ·obtain⟨a1,a2,a3⟩:=iy.w h2
  refine⟨⟨by rw[a1];rfl,by rw[iy.m h1];exact BR _⟩,?_,?_⟩
  ·rw[a2]
   refine⟨?_,mE.2 fun _ l _=>lf l⟩
   cases rx.u.s with
   | none=>trivial
   | some p=>exact jz p
  ·exact qF (h3.imp iy.p ix.k) a3
 ·obtain⟨b1,b2,b3⟩:=ix.w h2
  refine⟨⟨by rw[b1,ix.m h1];exact BR _,by rw[b1];rfl⟩,?_,?_⟩
  ·exact qF (h3.imp ix.p iy.k) b3
  ·rw[b2]
   refine⟨?_,mE.2 fun _ l _=>lf l⟩
   cases ry.u.s with
   | none=>trivial
   | some p=>exact jz p
abbrev dW:=Nat->Option Rc
def cz (p:dW) (i:Nat) (r:Rc):dW:=fun j=>if j=i then some r else p j
def fj (p:dW):List Nat->Rc->Prop
 | [],_=>True
 | j::js,r=>(match p j with|some ry=>jy ry r|none=>True)/\fj p js r
def dX (Γ:FuncId->Option Spec) (prs:List (List Nat)):dW->List (XOp × Nat)->St->(St->Prop)->Prop
 | _,[],σ,K=>K σ
 | p,(x,i)::rest,σ,K=>one Γ σ x (fun r σ'=>fj p (prs.getD i []) r/\dX Γ prs (cz p i r) rest σ' K)
theorem oN {p:dW} {r:Rc}:∀ {l:List Nat},fj p l r ↔ ∀ j ∈ l,∀ ry,p j=some ry->jy ry r:=by
 intro l
 induction l with
 | nil=>simp[fj]
 | cons j l ih =>
   simp only[fj,ih,List.mem_cons]
   constructor
   ·rintro⟨h1,h2⟩ j' (rfl|h) ry hr
    ·rw[hr] at h1;exact h1
    ·exact h2 j' h ry hr
   ·intro h
    refine⟨?_,fun j' h'=>h j' (.inr h')⟩
    split
    ·rename_i ry hr;exact h j (.inl rfl) ry hr
    ·trivial
section
variable {Γ:FuncId->Option Spec} {prs:List (List Nat)}
theorem MW {K:St->Prop} (hK:∀ σ σ',Eqv σ σ'->K σ->K σ'):∀ {rest:List (XOp × Nat)} {p:dW} {σ σ':St},Eqv σ σ'->dX Γ prs p rest σ K->dX Γ prs p rest σ' K:=by
 intro rest
 induction rest with
 | nil=>intro p σ σ' h hr;exact hK _ _ h hr
 | cons x rest ih =>
   obtain⟨x,i⟩:=x
   intro p σ σ' h hr
   exact mF (fun r τ' ⟨τ,he,h1,h2⟩=>⟨h1,ih he h2⟩) (MK h hr)
theorem BS {K K':St->Prop} (hK:∀ σ,K σ->K' σ):∀ {rest:List (XOp × Nat)} {p:dW} {σ:St},dX Γ prs p rest σ K->dX Γ prs p rest σ K':=by
 intro rest
 induction rest with
 | nil=>intro p σ hr;exact hK _ hr
 | cons x rest ih =>
   obtain⟨x,i⟩:=x
   intro p σ hr
   exact mF (fun r τ' ⟨h1,h2⟩=>⟨h1,ih h2⟩) hr
theorem MX {σ:St} {x:XOp} {F:Rc->St->Prop} {A:Prop} (h:one Γ σ x F) (hA:∀ r τ,F r τ->A):A:=by
 obtain⟨vc,O,hne,hn⟩:=oI Γ σ x
 have h1:=(hn _).1 h.2
 obtain⟨u,hu⟩:=hne h1.1
 exact hA _ _ (h1.2 u hu).2
theorem MY {p:dW} {i j:Nat} (h:i≠j) (r r':Rc):cz (cz p i r) j r'=cz (cz p j r') i r:=by
 funext t
 unfold cz
 by_cases h1:t=i <;> by_cases h2:t=j <;> simp[h1,h2] <;> (intro h3;omega)
theorem MZ {K:St->Prop} (hK:∀ σ σ',Eqv σ σ'->K σ->K σ') {B:List (XOp × Nat)} {i:Nat} {x:XOp}:∀ {A:List (XOp × Nat)} {p:dW} {σ:St},
 (∀ y ∈ A,p y.2=none/\y.2≠i/\Stt y.1 x/\(y.2 ∈ prs.getD i []\/qE y.1 x=true)/\i ∉ prs.getD y.2 [])->A.Pairwise (fun y z=>y.2≠z.2)->dX Γ prs p (A++(x,i)::B) σ K ->
 one Γ σ x (fun r σ'=>fj p (prs.getD i []) r/\dX Γ prs (cz p i r) (A++B) σ' K):=by
 intro A
 induction A with
 | nil=>intro p σ _ _ h;exact h
 | cons y A ih =>
   obtain⟨y,j⟩:=y
   intro p σ hA hnd h
   obtain⟨hpj,hji,hst,hpr,hnp⟩:=hA (y,j) (by simp)
   simp only[List.pairwise_cons] at hnd
   have h1:one Γ σ y (fun ry σ1=>one Γ σ1 x (fun rx σ2=>(jy ry rx/\fj p (prs.getD j []) ry/\fj (cz p j ry) (prs.getD i []) rx)/\dX Γ prs (cz (cz p j ry) i rx) (A++B) σ2 K)):=by
    refine mF ?_ (BQ h)
    rintro ry σ1 ⟨iy,h2,h3⟩
    have h4:=ih (fun z hz=>by
     obtain⟨a1,a2⟩:=hA z (by simp[hz])
     refine⟨?_,a2⟩
     unfold cz
     rw[if_neg (fun e=>hnd.1 z hz e.symm)]
     exact a1) hnd.2 h3
    refine mF ?_ (BQ h4)
    rintro rx σ2 ⟨ix,h5,h6⟩
    refine⟨⟨?_,h2,h5⟩,h6⟩
    rcases hpr with hpr|hpr
    ·exact oN.1 h5 j hpr ry (by simp[cz])
    ·exact MV hpr iy ix
   refine mF ?_ (MQ hst (K:=fun ry rx σ2=>(jy ry rx/\fj p (prs.getD j []) ry/\fj (cz p j ry) (prs.getD i []) rx)/\dX Γ prs (cz (cz p j ry) i rx) (A++B) σ2 K) (fun _ _ _ h=>h.1.1) h1)
   intro rx τ1 h2
   refine⟨MX h2 (fun ry τ2 ⟨σ2,_,⟨_,_,h3⟩,_⟩=>oN.2 fun j' hj' r' hr'=>oN.1 h3 j' hj' r' ?_),?_⟩
   ·unfold cz
    rw[if_neg (fun e=>by rw[e,hpj] at hr';cases hr')]
    exact hr'
   ·refine mF ?_ h2
    rintro ry τ2 ⟨σ2,he,⟨_,h3,_⟩,h4⟩
    refine⟨oN.2 fun j' hj' r' hr'=>oN.1 h3 j' hj' r' ?_,?_⟩
    ·unfold cz at hr'
     rw[if_neg (fun e=>hnp (by rw[<-e];exact hj'))] at hr'
     exact hr'
    ·rw[MY (fun e=>hji e.symm)]
     exact MW hK he h4
end
end Go.Proofs.Pw
namespace Go.Proofs.Pw
open Go.RowKit
variable [Globs]
section
variable {P:Program} {Γ:FuncId->Option Spec} {σ σ':St} {a:Act} {w w':World} {M M':Gh} {X:Nat->Prop} {B n:Nat} {w0:W0} {ops:Array Oper}
theorem Sim.eqv (he:Eqv σ σ') (hs:Sim X n B w0 σ' a w M):Sim X n B w0 σ a w M:=by
 refine⟨hs.size,hs.defs,fun t p h=>hs.tm t p ((he.1.1 _).1 h),?_,hs.fr,hs.hB,hs.sS,hs.sβ,hs.sρ⟩
 have hb:∀ {i qs},(i,qs) ∈ σ.bx->(i,qs) ∈ σ'.bx:=fun h=>(he.2.1.1 _).1 h
 have hr:∀ {i r},(i,r) ∈ σ.rw->(i,r) ∈ σ'.rw:=fun h=>(he.2.2.1 _).1 h
 have m:=hs.mem
 exact⟨fun i qs h=>m.box i qs (hb h),fun i sz es h=>m.row i sz es (hr h),fun i q i' q' h h'=>m.bb i q i' q' (hb h) (hb h'),fun i q i' r h h'=>m.br i q i' r (hb h) (hr h'),
  fun i r i' r' g h h'=>m.rr i r i' r' g (hr h) (hr h'),m.lt,fun i q h=>m.sb i q (hb h),fun i r g h=>m.sr i r g (hr h),m.gl⟩
theorem BT {σ0:St}:∀ {xs:List XO} {ms:List Bool} {os:List AV} {b:List (Nat × List Q)} {σ:St},cy σ0 xs ms os=some b->cr σ0 xs ms os σ=some { σ with bx:=updL b σ.bx }:=by
 intro xs
 induction xs with
 | nil =>
   intro ms os b σ h
   cases ms <;> cases os <;> simp only[cy,reduceCtorEq,Option.some.injEq] at h
   subst h;rfl
 | cons x xs ih =>
   intro ms os b σ h
   cases ms with
   | nil=>simp[cy] at h
   | cons m ms =>
     cases os with
     | nil=>cases m <;> simp[cy] at h
     | cons o os =>
       cases m with
       | false =>
         cases o <;> simp only[cy,reduceCtorEq] at h
         simp only[cr]
         exact ih h
       | true =>
         cases o <;> simp only[cy,reduceCtorEq] at h
         simp only[cr]
         split at h
         ·rename_i i o' b' e1 e2
          cases h
          rw[e1]
          simp only
          rw[ih e2]
          rfl
         ·cases h
theorem BU {f:FuncId} {ys:List XO} {d:Option Nat} {K:Updr->Prop} (h:gL Γ σ f ys K):eF Γ σ d f ys (fun σ'=>∃ u:Updr,K u/\σ'=u.app none d σ):=by
 unfold gL at h
 unfold eF
 split at h
 ·rename_i sp hsp
  rw[hsp]
  simp only
  split at h
  ·rename_i vc ds ha
   obtain⟨⟨h1,h2,h3,h4,h5⟩,h6⟩:=h
   have hp:σ.pubs ys sp.md=σ:=by unfold St.pubs;rw[h1];rfl
   rw[hp,ha]
   refine⟨h2,h3,h4,fun r o hro=>?_⟩
   obtain⟨p,hr,h7⟩:=jt (h6 r o hro)
   obtain⟨b,hb,h8⟩:=jt h7
   rw[BT hb]
   show orF (eZ d r { σ with bx:=updL b σ.bx }) _
   have:eZ d r { σ with bx:=updL b σ.bx }=some (({ σ with bx:=updL b σ.bx }:St).put d p):=by
    unfold eZ
    split
    ·simp[cL,bX] at hr
    ·simp[cL,bX] at hr
    ·rw[hr]
   rw[this]
   exact⟨_,h8,by cases d <;> rfl⟩
  ·exact h.elim
 ·exact h.elim
theorem BV {d:Option Nat} {p:PV}:σ.put d p=Updr.app none d ⟨some p,[],[]⟩ σ:=by cases d <;> rfl
theorem Na {x:XOp} {K:Updr->Prop} (h:bO Γ σ x K):∃ k,cM Γ k σ x (fun σ'=>∃ u:Updr,K u/\σ'=u.app (aK σ x) x.dst σ):=by
 cases hw:isW x.op with
 | false =>
   obtain⟨vc,p,h1,h2,h3⟩:=BP hw h
   refine⟨1,?_⟩
   have hk:aK σ x=none:=lj (by
    obtain⟨d,g,k⟩:=x
    cases k <;> first|rfl|(simp[isW] at hw))
   unfold cM
   split
   ·rename_i f ys hx;rw[hx] at hw;simp[isW] at hw
   ·rename_i y hx
    exfalso
    obtain⟨d,g,k⟩:=x
    simp only at hx
    subst hx
    unfold ce at h1
    cases g with
    | none=>simp[ai] at h1
    | some tw=>simp only at h1;split at h1 <;> simp[ai] at h1
   ·rw[show ((1:Nat) != 0)=true from rfl,Bi,h1]
    refine⟨h2,fun _=>⟨_,h3,?_⟩⟩
    rw[hk]
    exact BV
 | true =>
   refine⟨0,?_⟩
   obtain⟨d,g,k⟩:=x
   cases k <;> first|(simp[isW] at hw;done)|skip
   case callr f ys =>
    cases g with
    | none =>
      have:aK σ ⟨d,none,.callr f ys⟩=none:=lj rfl
      rw[this]
      exact BU h
    | some tw =>
      obtain⟨t,want⟩:=tw
      have:aK σ ⟨d,some (t,want),.callr f ys⟩=none:=lj rfl
      rw[this]
      simp only[bO] at h
      simp only[cM]
      split at h
      ·rename_i b e1
       rw[e1]
       exact⟨fun hb=>BU (h.1 hb),fun hb=>⟨_,h.2 hb,BV⟩⟩
      ·exact h.elim
   all_goals cases g with
    | some tw =>
      simp only[bO,ce] at h
      split at h
      ·rename_i vc p e1
       split at e1
       ·simp[ai] at e1
       ·cases e1
      ·exact h.elim
    | none=>?_
   case st.none a b ag =>
    simp only[bO] at h
    simp only[cM,fd,bj,bne_self_eq_false]
    split at h
    ·split at h
     ·rename_i e0 e0' _ _ qs ys e1 e2
      rw[e0,e0']
      simp only[e1,e2]
      exact⟨h.1,fun _=>⟨_,h.2,by cases d <;> rfl⟩⟩
     ·exact h.elim
    ·split at h
     ·rename_i e0 e0' _ _ sz' es ys e1 e2
      split at h
      ·rename_i cs e3
       rw[e0,e0']
       simp only[e1,e2,e3]
       exact⟨h.1,fun _=>⟨_,h.2,by cases d <;> rfl⟩⟩
      ·exact h.elim
     ·exact h.elim
    ·exact h.elim
   case box.none a ag =>
    cases d with
    | none=>exact h.elim
    | some d =>
      simp only[bO] at h
      simp only[cM,fd,bj,bne_self_eq_false]
      split at h
      ·rename_i ys e1
       simp only[e1]
       exact⟨h.1,fun _=>⟨_,h.2,rfl⟩⟩
      ·exact h.elim
   case alloc.none zs =>
    cases d with
    | none=>exact h.elim
    | some d=>exact⟨trivial,fun _=>⟨_,h.2,rfl⟩⟩
   case app.none a b sz bytes ex =>
    cases d with
    | none=>exact h.elim
    | some d =>
      simp only[bO] at h
      simp only[cM,fd,bj,bne_self_eq_false]
      simp only[aK]
      split at h
      ·rename_i d' g r g' p hd e0 e0'
       cases hd
       rw[e0,e0']
       split at h
       ·rename_i sz' es sz'' ys e1 e2
        simp only[e1,e2]
        rw[if_neg (by have:=h.1.2.2.2.2.2;omega)]
        exact⟨⟨h.1.1,h.1.2.1,h.1.2.2.1,h.1.2.2.2.1,h.1.2.2.2.2.1⟩,fun _=>⟨_,h.2,rfl⟩⟩
       ·exact h.elim
      ·rename_i d' g r sz1 lo n1 g' p hd e0 e0'
       cases hd
       rw[e0,e0']
       split at h
       ·rename_i sz' es sz'' ys e1 e2
        simp only[e1,e2]
        split at h
        ·rename_i hfit
         rw[if_pos hfit,if_pos hfit]
         exact⟨h.1,fun _=>⟨_,h.2,rfl⟩⟩
        ·rename_i hfit
         rw[if_neg hfit,if_neg hfit]
         split at h
         ·rename_i hlo
          rw[if_pos hlo]
          exact⟨h.1,fun _=>⟨_,h.2,rfl⟩⟩
         ·exact h.elim
       ·exact h.elim
      ·rename_i d' g p g' p' hno hno' hd e0 e0'
       cases hd
       rw[e0,e0']
       split at h
       ·rename_i sz' sz'' ys e2
        simp only[e2]
        exact⟨h.1,fun _=>⟨_,h.2,rfl⟩⟩
       ·rename_i sz' es sz'' ys e2
        simp only[e2]
        exact⟨h.1,fun _=>⟨_,h.2,rfl⟩⟩
       ·exact h.elim
      ·exact h.elim
   case callo.none f ys =>
    cases d with
    | none =>
      simp only[bO] at h
    | some d =>
      simp only[bO] at h
      simp only[cM,fd,bne_self_eq_false]
      split at h
      ·rename_i d' sp hd hsp
       cases hd
       split at h
       ·rename_i vc ds ha
        split at h
        ·rename_i sz es e1 e2
         obtain⟨⟨h0,h1,h2,h3,h4⟩,h5⟩:=h
         have hp:σ.pubs ys sp.md=σ:=by unfold St.pubs;rw[h1];rfl
         have ho:=BT (σ:=σ) e2
         simp only[gG,hsp,h0,hp,ha,h2,if_true,ho,e1,eZ,Option.map_some]
         exact⟨⟨h3,h4⟩,fun _=>⟨_,h5,rfl⟩⟩
        ·exact h.elim
       ·exact h.elim
      ·exact h.elim
   case appx.none a b sz bytes =>
    cases d with
    | none=>exact h.elim
    | some d =>
      simp only[bO] at h
      simp only[cM,fd,bj,bne_self_eq_false]
      simp only[aK]
      split at h
      ·rename_i d' g r g' s hd e0 e0'
       cases hd
       rw[e0,e0']
       split at h
       ·rename_i sz' es sz'' ys e1 e2
        simp only[e1,e2]
        rw[if_neg (by have:=h.1.2.2.2.2.2;omega)]
        exact⟨⟨h.1.1,h.1.2.1,h.1.2.2.1,h.1.2.2.2.1,h.1.2.2.2.2.1⟩,fun _=>⟨_,h.2,rfl⟩⟩
       ·exact h.elim
      ·exact h.elim
   case callx.none f ys =>
    cases d with
    | none =>
      simp only[bO] at h
    | some d =>
      simp only[bO] at h
      simp only[cM,fd,bne_self_eq_false]
      split at h
      ·rename_i d' sp hd hsp
       cases hd
       split at h
       ·rename_i vc ds ha
        split at h
        ·rename_i sz es e1
         obtain⟨⟨h0,h1,h3,h4⟩,h5⟩:=h
         simp only[mg,hsp,h0,ha,e1,List.all_cons,List.all_nil,AV.fl,h1,Bool.and_true,if_true,eZ,Option.map_some]
         exact⟨⟨h3,h4⟩,fun _=>⟨_,h5,rfl⟩⟩
        ·exact h.elim
       ·exact h.elim
      ·exact h.elim
   case mk.none m zs bytes =>
    cases d with
    | none =>
      simp only[bO] at h
    | some d =>
      simp only[bO] at h
      simp only[cM,fd,bj,bne_self_eq_false]
      split at h
      ·rename_i d' g k m' hd e0
       cases hd
       rw[e0]
       exact⟨h.1,fun _=>⟨_,h.2,rfl⟩⟩
      ·exact h.elim
end
end Go.Proofs.Pw
namespace Go.Proofs.Pw
open Go.RowKit
variable [Globs]
section
variable {P:Program} {Γ:FuncId->Option Spec} {σ σ':St} {a:Act} {w w':World} {M M':Gh} {X:Nat->Prop} {B n:Nat} {w0:W0} {ops:Array Oper}
def qG (a b:List Nat):Bool:=a.all fun x=>!b.contains x
def uS (y x:XOp):Bool:=(match y.dst with|some d=>!x.rd.contains d|none=>true) && (match x.dst with|some d=>!y.rd.contains d && y.dst != some d|none=>true) && qG (dV y) x.rd && qG (dV x) y.rd
theorem BW {a b:List Nat} (h:qG a b=true):∀ t ∈ a,t ∉ b:=fun t ht hb=>by
 unfold qG at h
 rw[List.all_eq_true] at h
 have:=h t ht
 simp at this
 exact this hb
theorem Nb {y x:XOp} (h:uS y x=true):Stt y x:=by
 simp only[uS,Bool.and_eq_true] at h
 obtain⟨⟨⟨h1,h2⟩,h3⟩,h4⟩:=h
 refine⟨fun d hd=>?_,fun d hd=>?_,fun t ht hy=>?_,BW h3,BW h4⟩
 ·rw[hd] at h1;simpa using h1
 ·rw[hd] at h2;simp at h2;exact h2.1
 ·rw[ht] at h2;simp at h2;exact h2.2 hy
def BX (an prs:List (List Nat)) (y x:XOp) (j i:Nat):Bool:=(an.getD i []).contains j || (uS y x && ((prs.getD i []).contains j || qE y x))
def qH:List (List Nat)->Nat->Bool
 | [],_=>true
 | l::r,i=>l.all (fun j=>decide (j < i)) && qH r (i+1)
theorem Nc:∀ {l:List (List Nat)} {k i:Nat},qH l k=true->∀ j ∈ l.getD i [],j < k+i:=by
 intro l
 induction l with
 | nil=>intro k i _ j hj;simp at hj
 | cons x l ih =>
   intro k i h j hj
   simp only[qH,Bool.and_eq_true,List.all_eq_true,decide_eq_true_eq] at h
   cases i with
   | zero=>simp at hj;have:=h.1 j hj;omega
   | succ i=>have:=ih h.2 j (by simpa using hj) (i:=i);omega
def qI (ops:Array Oper) (xs:List XOp) (npre:Nat) (prs:List (List Nat)):Bool :=
 decide (npre<=xs.length) && mC ops && oF (dF ops.toList []) npre xs.length && qH prs 0 &&
  ((xs.take npre).zipIdx.all fun x=>(xs.take npre).zipIdx.all fun y=>decide (x.2<=y.2) || BX (dF ops.toList []) prs y.1 x.1 y.2 x.2)
def left (L:Nat->Bool) (l:List (XOp × Nat)):List (XOp × Nat):=l.filter fun p=>!L p.2
theorem Nd {L L':Nat->Bool} {i:Nat} (hL:∀ j,L' j=(L j || decide (j=i))) (hi:L i=false) {x:XOp}:∀ {l:List (XOp × Nat)},l.Pairwise (fun y z=>y.2 < z.2)->(x,i) ∈ l ->
 ∃ A B,left L l=A++(x,i)::B/\left L' l=A++B/\∀ y ∈ A,y ∈ l/\y.2 < i/\L y.2=false:=by
 intro l
 induction l with
 | nil=>intro _ h;simp at h
 | cons z l ih =>
   intro hp hm
   obtain⟨z,k⟩:=z
   simp only[List.pairwise_cons] at hp
   have tail:i < k->left L l=left L' l->False\/True:=fun _ _=>.inr trivial
   rcases List.mem_cons.1 hm with he|hm
   ·cases he
    have hsame:left L l=left L' l:=by
     unfold left
     refine List.filter_congr fun p hp'=>?_
     rw[hL]
     have:=hp.1 p hp'
     have:decide (p.2=i)=false:=by simp;omega
     rw[this,Bool.or_false]
    refine⟨[],left L l,?_,?_,by simp⟩
    ·simp[left,hi]
    ·rw[hsame];simp[left,hL]
   ·obtain⟨A,B,h1,h2,h3⟩:=ih hp.2 hm
    have hk:k < i:=hp.1 _ hm
    have hk':L' k=L k:=by
     rw[hL]
     have:decide (k=i)=false:=by simp;omega
     rw[this,Bool.or_false]
    cases hlk:L k with
    | true =>
      rw[hlk] at hk'
      refine⟨A,B,?_,?_,fun y hy=>⟨List.mem_cons_of_mem _ (h3 y hy).1,(h3 y hy).2⟩⟩
      ·rw[<-h1];simp[left,hlk]
      ·rw[<-h2];simp[left,hk']
    | false =>
      rw[hlk] at hk'
      refine⟨(z,k)::A,B,?_,?_,fun y hy=>?_⟩
      ·rw[List.cons_append,<-h1];simp[left,hlk]
      ·rw[List.cons_append,<-h2];simp[left,hk']
      ·rcases List.mem_cons.1 hy with rfl|hy
       ·exact⟨by simp,hk,hlk⟩
       ·exact⟨List.mem_cons_of_mem _ (h3 y hy).1,(h3 y hy).2⟩
theorem BY (l:List XOp):∀ k,(l.zipIdx k).Pairwise (fun y z=>y.2 < z.2):=by
 induction l with
 | nil=>intro k;simp
 | cons x l ih =>
   intro k
   rw[List.zipIdx_cons,List.pairwise_cons]
   refine⟨fun z hz=>?_,ih (k+1)⟩
   have:=(List.mem_zipIdx hz).1
   show k < z.2
   omega
theorem Nf {l:List (XOp × Nat)} (h:l.Pairwise (fun y z=>y.2 < z.2)):l.Pairwise (fun y z=>y.2≠z.2):=h.imp (fun h=>by omega)
def qJ (Γ:FuncId->Option Spec) (tl:List XOp) (K:St->Prop) (σ:St):Prop:=∃ σ',Eqv σ' σ/\cx Γ 0 tl σ' K
theorem Ng (G:GOK P Γ) {E:Exit->Act->World->Prop} {K:St->Prop} (hK:∀ σ' a' w' M',K σ'->Sim X n B w0 σ' a' w' M'->E .normal a' w') {xs:List XOp} {npre:Nat} {prs:List (List Nat)} (hok:cC P n ops ops.toList xs=true)
 (hdr:qI ops xs npre prs=true) :
 ∀ (fuel:Nat) (listed:Array Bool) (p:dW) (σ:St) (a:Act) (w:World) (M:Gh),listed.size=ops.size->gK ops (Lst listed)->(∀ i,i < ops.size->Lst listed i=true->i < npre)->cnt listed<=fuel ->
  (∀ i,Lst listed i=false->p i=none)->Sim X n B w0 σ a w M->dX Γ prs p (left (Lst listed) (xs.take npre).zipIdx) σ (qJ Γ (xs.drop npre) K)->wpAny P .any ops E fuel listed a w:=by
 have hlen:ops.size=xs.length:=by simpa using uK hok
 simp only[qI,Bool.and_eq_true,decide_eq_true_eq] at hdr
 obtain⟨⟨⟨⟨hn,hed⟩,htl⟩,hlt⟩,hpr⟩:=hdr
 have hEK:∀ σ σ',Eqv σ σ'->qJ Γ (xs.drop npre) K σ->qJ Γ (xs.drop npre) K σ':=fun σ σ' he ⟨τ,h1,h2⟩=>⟨τ,h1.trans he,h2⟩
 have fin:∀ (fuel:Nat) (listed:Array Bool) (p:dW) (σ:St) (a:Act) (w:World) (M:Gh),listed.size=ops.size->gK ops (Lst listed)->(∀ i,i < ops.size->Lst listed i=true->i < npre)->cnt listed<=fuel->(∀ i,i < npre->Lst listed i=true) ->
  Sim X n B w0 σ a w M->dX Γ prs p (left (Lst listed) (xs.take npre).zipIdx) σ (qJ Γ (xs.drop npre) K)->wpAny P .any ops E fuel listed a w:=by
  intro fuel listed p σ a w M hsz hcl hpre hc hall hs hr
  have hnil:left (Lst listed) (xs.take npre).zipIdx=[]:=by
   unfold left
   rw[List.filter_eq_nil_iff]
   intro z hz
   have h1:=(List.mem_zipIdx hz).2.1
   rw[List.length_take] at h1
   simp[hall z.2 (by omega)]
  rw[hnil] at hr
  obtain⟨τ,h1,h2⟩:=hr
  refine uL G hK hok hed htl fuel npre listed τ a w M (Nat.le_refl _) (by omega) hsz (fun i hi=>?_) hcl hc (hs.eqv h1) h2
  by_cases h:i < npre
  ·rw[hall i h];simp[h]
  ·cases hl:Lst listed i with
   | false=>simp[h]
   | true=>exact absurd (hpre i hi hl) h
 intro fuel
 induction fuel with
 | zero =>
   intro listed p σ a w M hsz hcl hpre hc hp hs hr
   exact fin 0 listed p σ a w M hsz hcl hpre hc (fun i hi=>uD (by omega) (by omega)) hs hr
 | succ fuel ih =>
   intro listed p σ a w M hsz hcl hpre hc hp hs hr
   by_cases hall:∀ i,i < npre->Lst listed i=true
   ·exact fin (fuel+1) listed p σ a w M hsz hcl hpre hc hall hs hr
   ·refine⟨fun hnil=>?_,fun i hi=>?_⟩
    ·simp only[Classical.not_forall] at hall
     obtain⟨i,hi,hl⟩:=hall
     obtain⟨r,hr⟩:=uF hed hsz i (by omega) (by simpa using hl)
     rw[hnil] at hr;simp at hr
    ·obtain⟨h1,h2,o,ho,he⟩:=(oH hsz).1 hi
     by_cases hin:npre<=i
     ·exact absurd (fun j hj=>uG htl hcl ho (by omega) hin he j (by omega)) hall
     ·obtain⟨x,hx,hop⟩:=uJ hok (by simpa using ho)
      have hxt:(xs.take npre)[i]?=some x:=by rw[List.getElem?_take,if_pos (by omega)];exact hx
      have hxm:(x,i) ∈ (xs.take npre).zipIdx:=List.mem_zipIdx_iff_getElem?.2 hxt
      obtain⟨A,C,hA1,hA2,hA3⟩:=Nd (L':=Lst (listed.setIfInBounds i true)) (fun j=>fP (by omega)) h2 (BY _ 0) hxm
      rw[hA1] at hr
      have hcm:=MZ hEK (fun y hy=>by
       obtain⟨b1,b2,b3⟩:=hA3 y hy
       rw[List.all_eq_true] at hpr
       have c1:=hpr _ hxm
       rw[List.all_eq_true] at c1
       have c2:=c1 y b1
       simp only[Bool.or_eq_true,decide_eq_true_eq] at c2
       have c3:=c2.resolve_left (by omega)
       simp only[BX,Bool.or_eq_true,List.contains_iff_mem] at c3
       have c4:y.2 ∉ (dF ops.toList []).getD i []:=fun hm=>by
        have:=uH hcl ho he hm
        rw[b3] at this;cases this
       have c5:=c3.resolve_left c4
       simp only[Bool.and_eq_true,Bool.or_eq_true,List.contains_iff_mem] at c5
       exact⟨hp _ b3,by omega,Nb c5.1,c5.2,fun hm=>by have:=Nc hlt _ hm;omega⟩) (by
        have hq:(left (Lst listed) (xs.take npre).zipIdx).Pairwise (fun y z=>y.2 < z.2):=(BY _ 0).filter _
        rw[hA1,List.pairwise_append] at hq
        exact Nf hq.1) hr
      obtain⟨k,hst⟩:=Na hcm.2
      unfold wpOp
      rw[ho]
      have key:=uA (K:=wpAny P .any ops E fuel (listed.setIfInBounds i true)) (E:=E) G hop hs hst (fun σ1 a' w' M' ⟨u,⟨_,_,hu⟩,hσ⟩ hs'=>by
       subst hσ
       rw[<-hA2] at hu
       refine ih (listed.setIfInBounds i true) _ _ a' w' M' (by simpa using hsz) (uI hcl (by omega) ho he) (fun j hj hl=>?_) (by have:=uE (listed:=listed) (i:=i) (by omega) h2;omega) (fun j hj=>?_) hs' hu
       ·rw[fP (by omega)] at hl
        simp only[Bool.or_eq_true,decide_eq_true_eq] at hl
        rcases hl with hl|rfl
        ·exact hpre j hj hl
        ·omega
       ·rw[fP (by omega)] at hj
        simp only[Bool.or_eq_false_iff,decide_eq_false_iff_not] at hj
        unfold cz
        rw[if_neg hj.2]
        exact hp j hj.1)
      simp only
      split
      ·rename_i hw;rw[if_pos hw] at key;exact .inl key
      ·rename_i hw;rw[if_neg hw] at key;exact key
theorem Nh (hm:P.follows .mixedOrders=true) (G:GOK P Γ) {E:Exit->Act->World->Prop} {K:St->Prop} (hK:∀ σ' a' w' M',K σ'->Sim X n B w0 σ' a' w' M'->E .normal a' w') {xs:List XOp} {npre:Nat} {prs:List (List Nat)} (hok:cC P n ops ops.toList xs=true)
 (hdr:qI ops xs npre prs=true) (hs:Sim X n B w0 σ a w M) (hr:dX Γ prs (fun _=>none) (xs.take npre).zipIdx σ (cx Γ 0 (xs.drop npre) · K)) {id:Nat}:(Code.region id ops true).wp P E a w:=by
 have hL:∀ i,Lst (Array.replicate ops.size false) i=false:=fun i=>by
  simp only[Lst,Array.getD_eq_getD_getElem?,Array.getElem?_replicate]
  split <;> rfl
 refine wp_region_any hm (Ng G hK hok hdr ops.size _ (fun _=>none) σ a _ M (by simp) (fun i o _ hl=>?_) (fun i _ hl=>?_) ?_ (fun _ _=>rfl) hs.drew ?_)
 ·rw[hL] at hl;cases hl
 ·rw[hL] at hl;cases hl
 ·refine Nat.le_trans (List.countP_le_length ..) (by simp)
 ·have:left (Lst (Array.replicate ops.size false)) (xs.take npre).zipIdx=(xs.take npre).zipIdx:=by
   unfold left
   rw[List.filter_eq_self]
   intro z _
   rw[hL];rfl
  rw[this]
  exact BS (fun σ h=>⟨σ,Eqv.refl σ,h⟩) hr
end
end Go.Proofs.Pw
namespace Go.Proofs.Pw
open Go.RowKit
variable [Globs]
def iw (Γ:FuncId->Option Spec) (prs:List (List Nat)):Nat->dW->List XOp->St->(St->Prop)->Prop
 | _,_,[],σ,K=>K σ
 | i,p,x::rest,σ,K=>one Γ σ x (fun r σ'=>fj p (prs.getD i []) r/\iw Γ prs (i+1) (cz p i r) rest σ' K)
theorem BZ {Γ:FuncId->Option Spec} {prs:List (List Nat)} {K:St->Prop}:∀ {xs:List XOp} {i:Nat} {p:dW} {σ:St},iw Γ prs i p xs σ K=dX Γ prs p (xs.zipIdx i) σ K:=by
 intro xs
 induction xs with
 | nil=>intro i p σ;rfl
 | cons x xs ih =>
   intro i p σ
   rw[List.zipIdx_cons]
   simp only[iw,dX,ih]
inductive X where
 | skip
 | bad
 | ret
 | exit (id:Nat)
 | seq (a b:X)
 | cond (c:XO) (a b:X)
 | block (id:Nat) (b:X)
 | loop (b:X)
 | reg (ops:List XOp) (dr:Option Nat) (live:List Nat)
 | mix (hd tl:List XOp) (prs:List (List Nat)) (live:List Nat)
 | gh (x:X)
def St.keep (σ:St) (live:List Nat):St:={ σ with tm:=live.map fun t=>(t,get (.q .no) t σ.tm) }
inductive Ex where
 | normal
 | exit (id:Nat)
 | ret
def Le (σ σ':St):Prop:=∀ X n B w0 a w M,Sim X n B w0 σ a w M->∃ M',Sim X n B w0 σ' a w M'
def LeS (σ:St) (T:St->Prop):Prop:=∀ X n B w0 a w M,Sim X n B w0 σ a w M->∃ σ' M',T σ'/\Sim X n B w0 σ' a w M'
def pwL (F:(Ex->St->Prop)->St->Prop) (Q:Ex->St->Prop) (σ:St):Prop:=∃ I:Nat->St->Prop,(∃ n σ',Le σ σ'/\I n σ') /\
 ∀ n σ,I n σ->F (fun e σ'=>match e with|.normal=>∃ m σ'',m < n/\Le σ' σ''/\I m σ''|.exit i=>Q (.exit i) σ'|.ret=>Q .ret σ') σ
def oO (N:St->Prop) (Q:Ex->St->Prop):Ex->St->Prop
 | .normal,σ=>N σ
 | e,σ=>Q e σ
def ll (id:Nat) (Q:Ex->St->Prop):Ex->St->Prop
 | .exit i,σ=>if i=id then Q .normal σ else Q (.exit i) σ
 | e,σ=>Q e σ
def pw (Γ:FuncId->Option Spec):X->(Ex->St->Prop)->St->Prop
 | .skip,Q,σ=>Q .normal σ
 | .bad,_,_=>False
 | .ret,Q,σ=>Q .ret σ
 | .exit id,Q,σ=>Q (.exit id) σ
 | .seq a b,Q,σ=>pw Γ a (oO (pw Γ b Q) Q) σ
 | .cond c a b,Q,σ=>match σ.v c with
   | (g,.q (.c (.bool t)))=>g=true/\(t=true->pw Γ a Q σ)/\(t=false->pw Γ b Q σ)
   | (g,.q (.nt t))=>g=true/\(t=true->pw Γ a Q σ)/\pw Γ b Q σ
   | _=>False
 | .block id b,Q,σ=>pw Γ b (ll id Q) σ
 | .loop b,Q,σ=>pwL (pw Γ b) Q σ
 | .reg ops dr live,Q,σ=>cx Γ (dr.getD 0) ops σ (fun σ'=>Q .normal (σ'.keep live))
 | .mix hd tl prs live,Q,σ=>iw Γ prs 0 (fun _=>none) hd σ (fun σ'=>cx Γ 0 tl σ' (fun σ''=>Q .normal (σ''.keep live)))
 | .gh x,Q,σ=>∃ T:St->Prop,LeS σ T/\∀ σ',T σ'->pw Γ x Q σ'
end Go.Proofs.Pw
namespace Go.Proofs.Pw
open Go.RowKit
variable [Globs]
section
variable {P:Program} {Γ:FuncId->Option Spec} {σ σ':St} {a:Act} {w w':World} {M M':Gh} {X₀:Nat->Prop} {B n:Nat} {w0:W0} {ops:Array Oper}
def ao (P:Program) (n:Nat):Code->X->Bool
 | _,.bad=>true
 | c,.gh x=>ao P n c x
 | .skip,.skip=>true
 | .ret,.ret=>true
 | .exit i,.exit j=>i == j
 | .seq a b,.seq x y=>ao P n a x && ao P n b y
 | .cond c a b,.cond y x x'=>okO c y && ao P n a x && ao P n b x'
 | .block i c,.block j x=>i == j && ao P n c x
 | .loop c,.loop x=>ao P n c x
 | .region _ ops draw,.reg xs dr _=>cC P n ops ops.toList xs && (match draw,dr with
   | false,none=>true
   | true,some npre=>oG ops xs npre && P.follows .mixedOrders
   | _,_=>false)
 | .region _ ops draw,.mix hd tl prs _=>cC P n ops ops.toList (hd++tl) && (draw && qI ops (hd++tl) hd.length prs && P.follows .mixedOrders)
 | _,_=>false
theorem Sim.keep (hs:Sim X₀ n B w0 σ a w M) (live:List Nat):Sim X₀ n B w0 (σ.keep live) a w M :=
 ⟨hs.size,hs.defs,fun t p h=>by
  simp only[St.keep,List.mem_map,Prod.mk.injEq] at h
  obtain⟨t',_,rfl,rfl⟩:=h
  exact io hs.tm _,hs.mem,hs.fr,hs.hB,hs.sS,hs.sβ,hs.sρ⟩
def post (Q:Ex->St->Prop) (X₀:Nat->Prop) (n B:Nat) (w0:W0):Exit->Act->World->Prop
 | .normal,a,w=>∃ σ M,Q .normal σ/\Sim X₀ n B w0 σ a w M
 | .exit i,a,w=>∃ σ M,Q (.exit i) σ/\Sim X₀ n B w0 σ a w M
 | .ret,a,w=>∃ σ M,Q .ret σ/\Sim X₀ n B w0 σ a w M
 | _,_,_=>False
theorem Ni (G:GOK P Γ):∀ (x:X) {c:Code} {Q:Ex->St->Prop} {σ:St} {a:Act} {w:World} {M:Gh},ao P n c x=true->pw Γ x Q σ->Sim X₀ n B w0 σ a w M->c.wp P (post Q X₀ n B w0) a w:=by
 intro x
 induction x with
 | bad=>intro c Q σ a w M _ hp;exact hp.elim
 | skip =>
   intro c Q σ a w M hc hp hs
   cases c <;> simp[ao] at hc
   exact wp_skip ⟨σ,M,hp,hs⟩
 | ret =>
   intro c Q σ a w M hc hp hs
   cases c <;> simp[ao] at hc
   exact wp_ret ⟨σ,M,hp,hs⟩
 | exit id =>
   intro c Q σ a w M hc hp hs
   cases c <;> simp[ao] at hc
   subst hc
   exact wp_exit ⟨σ,M,hp,hs⟩
 | seq x y ihx ihy =>
   intro c Q σ a w M hc hp hs
   cases c <;> simp[ao] at hc
   obtain⟨h1,h2⟩:=hc
   refine wp_seq (wp_mono (ihx h1 hp hs) ?_)
   intro e a' w' h
   cases e with
   | normal=>obtain⟨σ',M',hq,hs'⟩:=h;exact ihy h2 hq hs'
   | exit i=>exact h
   | ret=>exact h
   | goto l=>exact h.elim
   | panic ch=>exact h.elim
   | outgrown=>exact h.elim
 | cond y x x' ihx ihy =>
   intro c Q σ a w M hc hp hs
   cases c <;> simp[ao] at hc
   obtain⟨⟨h0,h1⟩,h2⟩:=hc
   simp only[pw] at hp
   split at hp
   ·rename_i g t e1
    obtain⟨hg,ht,hf⟩:=hp
    have:=aF hs.tm h0 (by rw[e1];exact hg)
    rw[e1] at this
    exact wp_cond_split (ip this) (fun h=>ihx h1 (ht h) hs) (fun h=>ihy h2 (hf h) hs)
   ·rename_i g t e1
    obtain⟨hg,ht,hf⟩:=hp
    have:=aF hs.tm h0 (by rw[e1];exact hg)
    rw[e1] at this
    obtain⟨b,hb,hbt⟩:=this
    exact wp_cond_split hb (fun h=>ihx h1 (ht (hbt h)) hs) (fun _=>ihy h2 hf hs)
   ·exact hp.elim
 | block id x ih =>
   intro c Q σ a w M hc hp hs
   cases c <;> simp[ao] at hc
   obtain⟨rfl,h1⟩:=hc
   refine wp_block (wp_mono (ih h1 hp hs) ?_)
   intro e a' w' h
   cases e with
   | normal=>exact h
   | exit i =>
     obtain⟨σ',M',hq,hs'⟩:=h
     simp only[Exit.inBlock]
     simp only[ll] at hq
     split
     ·rename_i hi;rw[if_pos hi] at hq;exact⟨σ',M',hq,hs'⟩
     ·rename_i hi;rw[if_neg hi] at hq;exact⟨σ',M',hq,hs'⟩
   | ret=>exact h
   | goto l=>exact h.elim
   | panic ch=>exact h.elim
   | outgrown=>exact h.elim
 | loop x ih =>
   intro c Q σ a w M hc hp hs
   cases c <;> simp[ao] at hc
   obtain⟨I,⟨k,σ',hle,hI⟩,hr⟩:=hp
   obtain⟨M1,h1⟩:=hle _ _ _ _ _ _ _ hs
   refine wp_loop_ghost (fun k a w=>∃ σ M,I k σ/\Sim X₀ n B w0 σ a w M) k ⟨σ',M1,hI,h1⟩ ?_
   rintro k a w ⟨σ,M,hI,hs⟩
   refine wp_mono (ih hc (hr k σ hI) hs) ?_
   intro e a' w' h
   cases e with
   | normal =>
     obtain⟨σ1,M1,⟨m,σ2,hlt,hle,hI⟩,hs1⟩:=h
     obtain⟨M2,hs2⟩:=hle _ _ _ _ _ _ _ hs1
     exact⟨m,hlt,σ2,M2,hI,hs2⟩
   | exit i=>exact h
   | ret=>exact h
   | goto l=>exact h.elim
   | panic ch=>exact h.elim
   | outgrown=>exact h.elim
 | reg xs dr live =>
   intro c Q σ a w M hc hp hs
   cases c with
   | region id ops draw =>
     simp only[ao,Bool.and_eq_true] at hc
     obtain⟨h1,h2⟩:=hc
     have hK:∀ σ' a' w' M',Q .normal (σ'.keep live)->Sim X₀ n B w0 σ' a' w' M'->post Q X₀ n B w0 .normal a' w':=fun σ' a' w' M' h hs=>⟨_,M',h,hs.keep live⟩
     split at h2
     ·exact wp_region_list (Mk G hK h1 hs hp)
     ·rename_i npre
      simp only[Bool.and_eq_true] at h2
      exact MA h2.2 G hK h1 h2.1 hs hp
     ·cases h2
   | _=>simp[ao] at hc
 | mix hd tl prs live =>
   intro c Q σ a w M hc hp hs
   cases c with
   | region id ops draw =>
     simp only[ao,Bool.and_eq_true] at hc
     obtain⟨h1,⟨rfl,h2⟩,h3⟩:=hc
     have hK:∀ σ' a' w' M',Q .normal (σ'.keep live)->Sim X₀ n B w0 σ' a' w' M'->post Q X₀ n B w0 .normal a' w':=fun σ' a' w' M' h hs=>⟨_,M',h,hs.keep live⟩
     have hp':iw Γ prs 0 (fun _=>none) hd σ (fun σ'=>cx Γ 0 tl σ' (fun σ''=>Q .normal (σ''.keep live))):=hp
     rw[BZ] at hp'
     refine Nh h3 G hK h1 h2 hs ?_
     rw[List.take_left,List.drop_left]
     exact hp'
   | _=>simp[ao] at hc
 | gh x ih =>
   intro c Q σ a w M hc hp hs
   obtain⟨T,hT,hx⟩:=hp
   obtain⟨σ',M',hσ,hs'⟩:=hT _ _ _ _ _ _ _ hs
   have hc':ao P n c x=true:=by cases c <;> simpa [ao] using hc
   exact ih hc' (hx σ' hσ) hs'
inductive RX where
 | tmp (t:Nat)
 | cell (t:Nat) (ag:Option Nat)
def ap (P:Program):List ResultVar->List RX->Bool
 | [],[]=>true
 | .tmp t::rs,.tmp t'::xs=>t == t' && ap P rs xs
 | .cell t ty::rs,.cell t' ag::xs=>t == t' && cN P ty ag && ap P rs xs
 | _,_=>false
def jA (σ:St):RX->Option (Prop × PV)
 | .tmp t=>some ((σ.v (.t t)).1=true,(σ.v (.t t)).2)
 | .cell t ag=>match σ.v (.t t) with
   | (g,.q (.box i 0))=>(get? i σ.bx).map fun qs=>(g=true/\(fJ qs 0 ag).1,(fJ qs 0 ag).2)
   | _=>none
def mG (σ:St):List RX->Option (Prop × List AV)
 | []=>some (True,[])
 | r::rs=>match jA σ r,mG σ rs with
   | some (vc,p),some (vc',ds)=>p.toD.map fun d=>(vc/\vc',.d d::ds)
   | _,_=>none
def jB (σ:St):List RX->List Nat
 | []=>[]
 | r::rs=>(match jA σ r with|some (_,p)=>p.owns|none=>[])++jB σ rs
def di (σ:St):Nat->List AV->List Nat
 | _,[]=>[]
 | k,.ref _::as=>((get? k σ.bx).getD []).flatMap jo++di σ (k+1) as
 | k,_::as=>di σ (k+1) as
def cE (σ:St):Nat->List AV->Option (List AV)
 | _,[]=>some []
 | k,.ref _::as=>match (get? k σ.bx).bind cK,cE σ (k+1) as with
   | some cs,some os=>some (.ref cs::os)
   | _,_=>none
 | k,.own _ _::as=>match get? (k+aV) σ.rw with
   | some (sz,es)=>(cE σ (k+1) as).map fun os=>.own sz es::os
   | none=>(cE σ (k+1) as).map fun os=>.gone::os
 | k,_::as=>(cE σ (k+1) as).map fun os=>.gone::os
def bC:Nat->Nat->List AV->St
 | _,_,[]=>⟨[],[],[]⟩
 | i,k,.d x::as=>{ bC (i+1) (k+1) as with tm:=(i,x.toP)::(bC (i+1) (k+1) as).tm }
 | i,k,.ref cs::as=>{ bC (i+1) (k+1) as with tm:=(i,.q (.box k 0))::(bC (i+1) (k+1) as).tm,bx:=(k,cs.map .c)::(bC (i+1) (k+1) as).bx }
 | i,k,.own sz es::as=>{ bC (i+1) (k+1) as with tm:=(i,.q (.own (k+aV)))::(bC (i+1) (k+1) as).tm,rw:=(k+aV,sz,es)::(bC (i+1) (k+1) as).rw }
 | i,k,.gone::as=>bC (i+1) (k+1) as
 | i,k,.ag _::as=>bC (i+1) (k+1) as
def agI:List Pt->List Q->List Nat
 | .o _ _::ps,.own i::qs=>i::agI ps qs
 | _::ps,_::qs=>agI ps qs
 | _,_=>[]
def gM:AV->PV->List Nat
 | .own _ _,.q (.own i)=>[i]
 | .ag ps,.agg qs=>agI ps qs
 | _,_=>[]
def oP (σ:St) (r:RX) (x:AV):List Nat:=match jA σ r with
 | some (_,p)=>gM x p
 | none=>[]
def fQ (σ:St):List RX->List AV->List Nat
 | r::rs,x::as=>oP σ r x++fQ σ rs as
 | _,_=>[]
def lm (σ:St):List Pt->List Q->Prop
 | [],[]=>True
 | .c x::ps,q::qs=>q.toC=some x/\lm σ ps qs
 | .o sz es::ps,.own i::qs=>get? i σ.rw=some (sz,es)/\lm σ ps qs
 | .o sz es::ps,.z sz'::qs=>(sz'=sz/\0 < sz/\es=[])/\lm σ ps qs
 | _,_=>False
def qK (σ:St) (x:AV) (p:PV):Prop:=match x with
 | .d x=>p.toD=some x
 | .own sz es=>match p with
   | .q (.own i)=>get? i σ.rw=some (sz,es)
   | .q (.z sz')=>sz'=sz/\0 < sz/\es=[]
   | _=>False
 | .ag ps=>match p with
   | .agg qs=>lm σ ps qs
   | _=>False
 | _=>False
def gOk (σ:St):List RX->List AV->Prop
 | [],[]=>True
 | r::rs,x::as=>(match jA σ r with|some (vc,p)=>vc/\qK σ x p|none=>False)/\gOk σ rs as
 | _,_=>False
def qL (l:List Nat) (r:List (Nat × Nat × List (List C))):List (Nat × Nat × List (List C)):=l.foldl (fun r i=>del i r) r
def St.delO (i:Nat) (σ:St):St:={ σ with rw:=del i σ.rw }
def qM (l is:List Nat):List Nat:=is.filter fun i=>!l.contains i
def Ca (n:Nat) (sp:Spec) (args ds:List AV) (rs:List RX) (σ σ':St):Prop:=bF (fQ σ' rs ds)=true/\gOk σ' rs ds/\cE { σ' with rw:=qL (fQ σ' rs ds) σ'.rw } n args=some (sp.out args)
def fR (n:Nat) (sp:Spec) (args:List AV) (rs:List RX) (σ:St):Prop :=
 match sp.res args with
 | [.own sz es]=>match rs with
   | [.tmp t]=>match σ.v (.t t) with
     | (g,.q (.own i))=>g=true/\get? i σ.rw=some (sz,es)/\cE ((((di σ n args).filter (fun j=>j != i)).foldl (fun σ i=>σ.pub i) σ).delO i) n args=some (sp.out args)
     | (g,.q (.z sz'))=>g=true/\sz'=sz/\0 < sz/\es=[]/\cE ((di σ n args).foldl (fun σ i=>σ.pub i) σ) n args=some (sp.out args)
     | _=>False
   | _=>False
 | [.ref cs]=>match rs with
   | [.tmp t]=>match σ.v (.t t) with
     | (g,.q (.box i 0))=>g=true/\(get? i σ.bx).bind cK=some cs/\cE (((di { σ with bx:=del i σ.bx } n args).foldl (fun σ i=>σ.pub i) { σ with bx:=del i σ.bx })) n args=some (sp.out args)
     | _=>False
   | _=>False
 | ds=>match bX ds with
   | some _=>match mG ((jB σ rs++di σ n args).foldl (fun σ i=>σ.pub i) σ) rs with
     | some (vc,ds')=>vc/\ds=ds'/\cE ((jB σ rs++di σ n args).foldl (fun σ i=>σ.pub i) σ) n args=some (sp.out args)
     | none=>False
   | none=>Ca n sp args ds rs σ ((qM (fQ σ rs ds) (jB σ rs++di σ n args)).foldl (fun σ i=>σ.pub i) σ)
end
end Go.Proofs.Pw
namespace Go.Proofs.Pw
open Go.RowKit
variable [Globs]
section
variable {P:Program} {Γ:FuncId->Option Spec} {σ σ':St} {a:Act} {w w':World} {M M':Gh} {n:Nat}
theorem All3.at {α β γ:Type} {R:α->β->γ->Prop} {xs:List α} {ys:List β} {zs:List γ} (h:All3 R xs ys zs):∀ {j:Nat} {x:α},xs[j]?=some x->∃ y z,ys[j]?=some y/\zs[j]?=some z/\R x y z:=by
 induction h with
 | nil=>intro j x hx;simp at hx
 | cons h _ ih =>
   intro j x hx
   cases j with
   | zero=>simp at hx;subst hx;exact⟨_,_,rfl,rfl,h⟩
   | succ j=>simpa using ih (by simpa using hx)
theorem All3.len {α β γ:Type} {R:α->β->γ->Prop} {xs:List α} {ys:List β} {zs:List γ} (h:All3 R xs ys zs):ys.length=xs.length:=by
 induction h with
 | nil=>rfl
 | cons _ _ ih=>simp[ih]
theorem Apart.two {S:Nat->Prop} {ps:List (Nat->Prop)} (h:Apart S ps):∀ {i j:Nat} {p q:Nat->Prop} {g:Nat},ps[i]?=some p->ps[j]?=some q->i≠j->p g->¬ q g:=by
 induction ps with
 | nil=>intro i j p q g hp;simp at hp
 | cons r ps ih =>
   intro i j p q g hp hq hne hg hg'
   cases i with
   | zero =>
     cases j with
     | zero=>exact hne rfl
     | succ j =>
       simp at hp hq;subst hp
       exact h.2.1 g hg q (List.mem_of_getElem? hq) hg'
   | succ i =>
     cases j with
     | zero =>
       simp at hp hq;subst hq
       exact h.2.1 g hg' p (List.mem_of_getElem? hp) hg
     | succ j=>exact ih h.2.2 (by simpa using hp) (by simpa using hq) (by omega) hg hg'
def oQ (k:Nat):AV->PV->Prop
 | .d d,p=>p=d.toP
 | .ref _,p=>p=.q (.box k 0)
 | .own _ _,p=>p=.q (.own (k+aV))
 | .gone,_=>False
 | .ag _,_=>False
theorem Nj {t:Nat} {p:PV}:∀ {args:List AV} {i k:Nat},(t,p) ∈ (bC i k args).tm->∃ j x,t=i+j/\args[j]?=some x/\oQ (k+j) x p:=by
 intro args
 induction args with
 | nil=>intro i k h;simp[bC] at h
 | cons y args ih =>
   intro i k h
   have rest:(t,p) ∈ (bC (i+1) (k+1) args).tm->∃ j x,t=i+j/\(y::args)[j]?=some x/\oQ (k+j) x p:=fun h=>by
    obtain⟨j,x,h1,h2,h3⟩:=ih h
    exact⟨j+1,x,by omega,by simpa using h2,by rw[show k+(j+1)=k+1+j by omega];exact h3⟩
   cases y with
   | d x =>
     simp only[bC,List.mem_cons,Prod.mk.injEq] at h
     rcases h with ⟨rfl,rfl⟩|h
     ·exact⟨0,_,rfl,rfl,rfl⟩
     ·exact rest h
   | ref cs =>
     simp only[bC,List.mem_cons,Prod.mk.injEq] at h
     rcases h with ⟨rfl,rfl⟩|h
     ·exact⟨0,_,rfl,rfl,rfl⟩
     ·exact rest h
   | own sz es =>
     simp only[bC,List.mem_cons,Prod.mk.injEq] at h
     rcases h with ⟨rfl,rfl⟩|h
     ·exact⟨0,_,rfl,rfl,rfl⟩
     ·exact rest h
   | gone=>exact rest h
   | ag _=>exact rest h
theorem Cb {t:Nat} {qs:List Q}:∀ {args:List AV} {i k:Nat},(t,qs) ∈ (bC i k args).bx->∃ j cs,t=k+j/\args[j]?=some (.ref cs)/\qs=cs.map .c:=by
 intro args
 induction args with
 | nil=>intro i k h;simp[bC] at h
 | cons y args ih =>
   intro i k h
   have rest:(t,qs) ∈ (bC (i+1) (k+1) args).bx->∃ j cs,t=k+j/\(y::args)[j]?=some (.ref cs)/\qs=cs.map .c:=fun h=>by
    obtain⟨j,x,h1,h2,h3⟩:=ih h
    exact⟨j+1,x,by omega,by simpa using h2,h3⟩
   cases y with
   | ref cs =>
     simp only[bC,List.mem_cons,Prod.mk.injEq] at h
     rcases h with ⟨rfl,rfl⟩|h
     ·exact⟨0,_,rfl,rfl,rfl⟩
     ·exact rest h
   | d x=>exact rest h
   | own sz es=>exact rest h
   | gone=>exact rest h
   | ag _=>exact rest h
theorem Cc {t sz:Nat} {es:List (List C)}:∀ {args:List AV} {i k:Nat},(t,sz,es) ∈ (bC i k args).rw->∃ j,t=k+j+aV/\args[j]?=some (.own sz es):=by
 intro args
 induction args with
 | nil=>intro i k h;simp[bC] at h
 | cons y args ih =>
   intro i k h
   have rest:(t,sz,es) ∈ (bC (i+1) (k+1) args).rw->∃ j,t=k+j+aV/\(y::args)[j]?=some (.own sz es):=fun h=>by
    obtain⟨j,h1,h2⟩:=ih h
    exact⟨j+1,by omega,by simpa using h2⟩
   cases y with
   | own sz' es' =>
     simp only[bC,List.mem_cons,Prod.mk.injEq] at h
     rcases h with ⟨rfl,rfl,rfl⟩|h
     ·exact⟨0,rfl,rfl⟩
     ·exact rest h
   | d x=>exact rest h
   | ref cs=>exact rest h
   | gone=>exact rest h
   | ag _=>exact rest h
def oR:Value->Nat
 | .pointer (some a)=>a.block
 | _=>0
def Gh.init (n:Nat) (vs:List Value) (rs:Nat->RV) (S:Nat->Prop):Gh:={ β:=fun i=>oR (vs.getD (i-n) undef),ρ:=fun i=>rs (i-aV-n),S:=S }
def qN (w:World) (S:Nat->Prop) (args:List AV) (vs:List Value) (fps:List (Nat->Prop)) (rs:Nat->RV):Prop :=
 ∀ (j:Nat) sz es v fp,args[j]?=some (.own sz es)->vs[j]?=some v->fps[j]?=some fp->v=(rs j).v/\Priv w S sz es (rs j)/\∀ g,fp g ↔ af (rs j) g
theorem Nk {args:List AV} {S:Nat->Prop} {vs:List Value} {fps:List (Nat->Prop)} (hA:All3 (RepA w S) args vs fps):∃ rs,qN w S args vs fps rs:=by
 induction hA with
 | nil=>exact⟨fun _=>RV.of undef,fun j sz es v fp h=>by simp at h⟩
 | @cons x v0 fp0 _ _ _ h _ ih =>
   obtain⟨rs,hr⟩:=ih
   have key:∃ r:RV,∀ sz es,x=.own sz es->v0=r.v/\Priv w S sz es r/\∀ g,fp0 g ↔ af r g:=by
    cases x with
    | own sz es=>obtain⟨_,r,h1⟩:=h;exact⟨r,fun sz' es' e=>by cases e;exact h1⟩
    | _=>exact⟨RV.of undef,fun _ _ e=>by cases e⟩
   obtain⟨r,hk⟩:=key
   refine⟨fun j=>match j with|0=>r|j+1=>rs j,fun j sz es v fp h1 h2 h3=>?_⟩
   cases j with
   | zero=>simp at h1 h2 h3;subst h2 h3;exact hk sz es h1
   | succ j=>exact hr j sz es v fp (by simpa using h1) (by simpa using h2) (by simpa using h3)
theorem Nl {args:List AV} {S:Nat->Prop} {vs:List Value} {fps:List (Nat->Prop)} (hG:Gl w S) (hS:∀ g,S g->g < w.heap.size) (ha:Apart S fps) (hA:All3 (RepA w S) args vs fps) (hn:args.length<=n) {rs:Nat->RV} (hrs:qN w S args vs fps rs) :
 Sim (Any fps) n w.heap.size ⟨w,S,(Gh.init n vs rs S).β,(Gh.init n vs rs S).ρ⟩ (bC 0 n args) { tmps:=vs.toArray++Array.replicate (n-vs.toArray.size) undef,defers:=[] } w (Gh.init n vs rs S):=by
 have hlen:=hA.len
 have hv:∀ (j:Nat) v,vs[j]?=some v->vs.getD (n+j-n) undef=v:=fun j v h=>by
  rw[Nat.add_sub_cancel_left];simp[h]
 have box:∀ {t qs},(t,qs) ∈ (bC 0 n args).bx->∃ j cs fp,t=n+j/\qs=cs.map .c/\fps[j]?=some fp/\oi w S cs ((Gh.init n vs rs S).β t)/\fp ((Gh.init n vs rs S).β t):=fun {t qs} h=>by
  obtain⟨j,cs,rfl,h2,rfl⟩:=Cb h
  obtain⟨v,fp,h3,h4,g,rfl,h6,h7⟩:=hA.at h2
  have hb:(Gh.init n vs rs S).β (n+j)=g:=by simp only[Gh.init];rw[hv j _ h3];rfl
  exact⟨j,cs,fp,rfl,rfl,h4,by rw[hb];exact h6,by rw[hb];exact (h7 g).2 rfl⟩
 have row:∀ {t sz es},(t,sz,es) ∈ (bC 0 n args).rw->∃ j fp,t=n+j+aV/\fps[j]?=some fp/\0 < sz/\Priv w S sz es ((Gh.init n vs rs S).ρ t)/\∀ g,fp g ↔ af ((Gh.init n vs rs S).ρ t) g:=fun {t sz es} h=>by
  obtain⟨j,rfl,h2⟩:=Cc h
  obtain⟨v,fp,h3,h4,h5,_⟩:=hA.at h2
  obtain⟨_,h6,h7⟩:=hrs j _ _ v fp h2 h3 h4
  have hb:(Gh.init n vs rs S).ρ (n+j+aV)=rs j:=by simp only[Gh.init];rw[Nat.add_sub_cancel,Nat.add_sub_cancel_left]
  exact⟨j,fp,rfl,h4,h5,by rw[hb];exact h6,by rw[hb];exact h7⟩
 have any:∀ {j:Nat} {fp g},fps[j]?=some fp->fp g->Any fps g:=fun h hg=>⟨_,List.mem_of_getElem? h,hg⟩
 refine⟨by simp;omega,rfl,fun t p h=>?_,⟨fun i qs h=>?_,fun i sz es h=>?_,fun i q i' q' h h' hne=>?_,fun i q i' r h h' hg=>?_,fun i r i' r' g h h' hne hg hg'=>?_,hS,fun i q h=>?_,fun i r g h hg=>?_,hG⟩,Fr.refl _ _ _,Nat.le_refl _,fun g h=>.inl h,fun _ _=>rfl,fun _ _ _=>rfl⟩
 ·obtain⟨j,x,rfl,h2,h3⟩:=Nj h
  obtain⟨v,fp,h4,h5,h6⟩:=hA.at h2
  have hj:j < vs.length:=(List.getElem?_eq_some_iff.1 h4).1
  have he:(vs.toArray++Array.replicate (n-vs.toArray.size) undef).getD (0+j) undef=v:=by
   rw[Nat.zero_add,Array.getD_eq_getD_getElem?,Array.getElem?_append_left (by simpa using hj)]
   simp[h4]
  show ay w _ p ((vs.toArray++Array.replicate (n-vs.toArray.size) undef).getD (0+j) undef)
  rw[he]
  cases x with
  | d d=>simp only[oQ] at h3;subst h3;exact ug (M:=Gh.init n vs rs S) h6.1
  | ref cs =>
    simp only[oQ] at h3;subst h3
    obtain⟨g,rfl,_⟩:=h6
    show _=_
    simp only[Gh.init];rw[hv j _ h4];rfl
  | own sz es =>
    simp only[oQ] at h3;subst h3
    obtain⟨k1,k2,_⟩:=hrs j _ _ v fp h2 h4 h5
    refine⟨?_,by rw[k1];exact oD k2⟩
    simp only[Gh.init];rw[Nat.add_sub_cancel,Nat.add_sub_cancel_left];exact k1
  | gone=>exact h3.elim
  | ag _=>exact h3.elim
 ·obtain⟨j,cs,fp,rfl,rfl,h3,h4,h5⟩:=box h
  exact⟨.inr (any h3 h5),uv (M:=Gh.init n vs rs S) h4⟩
 ·obtain⟨j,fp,rfl,h2,h3,h4,h5⟩:=row h
  exact⟨h3,h4,fun g hg=>.inr (any h2 ((h5 g).2 hg))⟩
 ·obtain⟨j,cs,fp,rfl,rfl,h3,_,h5⟩:=box h
  obtain⟨j',cs',fp',rfl,rfl,h3',_,h5'⟩:=box h'
  exact fun e=>ha.two h3 h3' (by omega) h5 (e ▸ h5')
 ·obtain⟨j,cs,fp,rfl,rfl,h3,_,h5⟩:=box h
  obtain⟨sz,es⟩:=r
  obtain⟨j',fp',rfl,h2',_,_,h5'⟩:=row h'
  by_cases hj:j=j'
  ·subst hj
   obtain⟨j0,_,e1,e2,_⟩:=Cb h
   obtain⟨j1,e3,e4⟩:=Cc h'
   have e5:j0=j1:=by omega
   subst e5
   rw[e2] at e4;cases e4
  ·exact ha.two h3 h2' hj h5 ((h5' _).2 hg)
 ·obtain⟨sz,es⟩:=r
  obtain⟨sz',es'⟩:=r'
  obtain⟨j,fp,rfl,h2,_,_,h5⟩:=row h
  obtain⟨j',fp',rfl,h2',_,_,h5'⟩:=row h'
  exact ha.two h2 h2' (by omega) ((h5 _).2 hg) ((h5' _).2 hg')
 ·obtain⟨j,cs,fp,rfl,rfl,h3,_,h5⟩:=box h
  exact ha.notS (any h3 h5)
 ·obtain⟨sz,es⟩:=r
  obtain⟨j,fp,rfl,h2,_,_,h5⟩:=row h
  exact ha.notS (any h2 ((h5 _).2 hg))
end
end Go.Proofs.Pw
