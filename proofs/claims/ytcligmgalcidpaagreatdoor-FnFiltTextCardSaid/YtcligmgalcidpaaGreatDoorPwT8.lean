/- Two neighbours change places. -/
import Derived.Test.YtcligmgalcidpaaGreatDoorPwT7
import Derived.Deep.LoopGhost
set_option linter.unusedSimpArgs false
set_option linter.unusedVariables false
set_option linter.unusedSectionVars false
set_option maxRecDepth 20000
namespace Go.Proofs.Pw
open Go.RowKit
variable [Globs]
section
variable {α:Type}
theorem JP {t:Nat} {e:Nat × α}:∀ {l:List (Nat × α)},e ∈ del t l ↔ e.1≠t/\e ∈ l:=by
 intro l
 induction l with
 | nil=>simp[del]
 | cons x l ih =>
   obtain⟨i,y⟩:=x
   simp only[del]
   split
   ·rename_i hi;subst hi
    rw[ih]
    constructor
    ·exact fun h=>⟨h.1,List.mem_cons_of_mem _ h.2⟩
    ·rintro⟨h1,h2⟩
     rcases List.mem_cons.1 h2 with rfl|h2
     ·exact absurd rfl h1
     ·exact⟨h1,h2⟩
   ·rename_i hi
    simp only[List.mem_cons,ih]
    constructor
    ·rintro (rfl|h)
     ·exact⟨hi,.inl rfl⟩
     ·exact⟨h.1,.inr h.2⟩
    ·rintro⟨h1,rfl|h2⟩
     ·exact .inl rfl
     ·exact .inr ⟨h1,h2⟩
theorem jK {t:Nat} {y:α} {e:Nat × α}:∀ {l:List (Nat × α)},e ∈ upd t y l ↔ e=(t,y)\/(e.1≠t/\e ∈ l):=by
 intro l
 induction l with
 | nil=>simp[upd]
 | cons x l ih =>
   obtain⟨i,z⟩:=x
   simp only[upd]
   split
   ·rename_i hi;subst hi
    simp only[List.mem_cons,JP]
    constructor
    ·rintro (rfl|h)
     ·exact .inl rfl
     ·exact .inr ⟨h.1,.inr h.2⟩
    ·rintro (rfl|⟨h1,rfl|h2⟩)
     ·exact .inl rfl
     ·exact absurd rfl h1
     ·exact .inr ⟨h1,h2⟩
   ·rename_i hi
    simp only[List.mem_cons,ih]
    constructor
    ·rintro (rfl|rfl|h)
     ·exact .inr ⟨hi,.inl rfl⟩
     ·exact .inl rfl
     ·exact .inr ⟨h.1,.inr h.2⟩
    ·rintro (rfl|⟨h1,rfl|h2⟩)
     ·exact .inr (.inl rfl)
     ·exact .inl rfl
     ·exact .inr (.inr ⟨h1,h2⟩)
theorem get?_del' {t u:Nat} (h:u≠t):∀ {l:List (Nat × α)},get? u (del t l)=get? u l:=get?_del (fun e=>h e.symm)
theorem get?_upd {t u:Nat} {y:α}:∀ {l:List (Nat × α)},get? u (upd t y l)=if t=u then some y else get? u l:=by
 intro l
 induction l with
 | nil=>simp only[upd,get?]
 | cons x l ih =>
   obtain⟨i,z⟩:=x
   simp only[upd]
   split
   ·rename_i hi
    subst hi
    simp only[get?]
    split
    ·rfl
    ·rename_i hne;exact get?_del' (fun e=>hne e.symm)
   ·rename_i hi
    simp only[get?,ih]
    by_cases h1:i=u <;> by_cases h2:t=u <;> simp[h1,h2]
    omega
def EqL (l l':List (Nat × α)):Prop:=(∀ e,e ∈ l ↔ e ∈ l')/\∀ t,get? t l=get? t l'
theorem EqL.refl (l:List (Nat × α)):EqL l l:=⟨fun _=>Iff.rfl,fun _=>rfl⟩
theorem EqL.trans {a b c:List (Nat × α)} (h:EqL a b) (k:EqL b c):EqL a c:=⟨fun e=>(h.1 e).trans (k.1 e),fun t=>(h.2 t).trans (k.2 t)⟩
theorem EqL.upd {l l':List (Nat × α)} (h:EqL l l') (t:Nat) (y:α):EqL (upd t y l) (upd t y l') :=
 ⟨fun e=>by rw[jK,jK,h.1 e],fun u=>by rw[get?_upd,get?_upd,h.2 u]⟩
theorem EqL.updL {us:List (Nat × α)}:∀ {l l':List (Nat × α)},EqL l l'->EqL (updL us l) (updL us l'):=by
 induction us with
 | nil=>intro l l' h;exact h
 | cons u us ih=>intro l l' h;exact ih (h.upd u.1 u.2)
theorem zp {t u:Nat} {y z:α} (h:t≠u) (l:List (Nat × α)):EqL (upd t y (upd u z l)) (upd u z (upd t y l)):=by
 refine⟨fun e=>?_,fun v=>?_⟩
 ·simp only[jK]
  constructor
  ·rintro (rfl|⟨h1,rfl|⟨h2,h3⟩⟩)
   ·exact .inr ⟨h,.inl rfl⟩
   ·exact .inl rfl
   ·exact .inr ⟨h2,.inr ⟨h1,h3⟩⟩
  ·rintro (rfl|⟨h1,rfl|⟨h2,h3⟩⟩)
   ·exact .inr ⟨fun e=>h e.symm,.inl rfl⟩
   ·exact .inl rfl
   ·exact .inr ⟨h2,.inr ⟨h1,h3⟩⟩
 ·simp only[get?_upd]
  by_cases h1:t=v <;> by_cases h2:u=v <;> simp[h1,h2]
  omega
theorem JQ {t:Nat} {y:α} {us:List (Nat × α)} (h:∀ e ∈ us,e.1≠t):∀ (l:List (Nat × α)),EqL (upd t y (updL us l)) (updL us (upd t y l)):=by
 induction us with
 | nil=>intro l;exact EqL.refl _
 | cons u us ih =>
   intro l
   refine (ih (fun e he=>h e (by simp[he])) (upd u.1 u.2 l)).trans (EqL.updL (zp (fun e=>h u (by simp) e.symm) l))
theorem zq {us vs:List (Nat × α)} (h:∀ e ∈ us,∀ e' ∈ vs,e.1≠e'.1):∀ (l:List (Nat × α)),EqL (updL us (updL vs l)) (updL vs (updL us l)):=by
 induction us with
 | nil=>intro l;exact EqL.refl _
 | cons u us ih =>
   intro l
   exact (EqL.updL (JQ (fun e he e'=>h u (by simp) e he e'.symm) l)).trans (ih (fun e he=>h e (by simp[he])) (upd u.1 u.2 l))
theorem JR {e:Nat × α} {us:List (Nat × α)}:∀ {l:List (Nat × α)},e ∈ updL us l->e ∈ us\/((∀ u ∈ us,u.1≠e.1)/\e ∈ l):=by
 induction us with
 | nil=>intro l h;exact .inr ⟨by simp,h⟩
 | cons u us ih =>
   intro l h
   rcases ih h with h|⟨h1,h2⟩
   ·exact .inl (by simp[h])
   ·rcases jK.1 h2 with rfl|⟨h3,h4⟩
    ·exact .inl (by simp)
    ·exact .inr ⟨fun v hv=>by
      rcases List.mem_cons.1 hv with rfl|hv
      ·exact fun e=>h3 e.symm
      ·exact h1 v hv,h4⟩
theorem JS {e:Nat × α} {us:List (Nat × α)}:∀ {l:List (Nat × α)},(∀ u ∈ us,u.1≠e.1)->e ∈ l->e ∈ updL us l:=by
 induction us with
 | nil=>intro l _ h;exact h
 | cons u us ih=>intro l h h';exact ih (fun v hv=>h v (by simp[hv])) (jK.2 (.inr ⟨fun e=>h u (by simp) e.symm,h'⟩))
theorem get?_updL {t:Nat} {us:List (Nat × α)}:∀ {l:List (Nat × α)},(∀ u ∈ us,u.1≠t)->get? t (updL us l)=get? t l:=by
 induction us with
 | nil=>intro l _;rfl
 | cons u us ih =>
   intro l h
   show get? t (updL us (upd u.1 u.2 l))=_
   rw[ih (fun v hv=>h v (by simp[hv])),get?_upd,if_neg (h u (by simp))]
def bi {β:Type} (f:α->β) (l:List (Nat × α)):List (Nat × β):=l.map fun x=>(x.1,f x.2)
theorem zt {β:Type} {f:α->β} {e:Nat × β} {l:List (Nat × α)}:e ∈ bi f l ↔ ∃ p,(e.1,p) ∈ l/\e.2=f p:=by
 simp only[bi,List.mem_map]
 constructor
 ·rintro⟨⟨i,p⟩,h,rfl⟩;exact⟨p,h,rfl⟩
 ·rintro⟨p,h,he⟩;exact⟨(e.1,p),h,by rw[<-he]⟩
theorem get?_mapV {β:Type} {f:α->β} {t:Nat}:∀ {l:List (Nat × α)},get? t (bi f l)=(get? t l).map f:=by
 intro l
 induction l with
 | nil=>rfl
 | cons x l ih =>
   obtain⟨i,z⟩:=x
   show get? t ((i,f z)::bi f l)=_
   simp only[get?]
   split
   ·rfl
   ·exact ih
theorem JT {f:α->α} {t:Nat}:∀ {l:List (Nat × α)},del t (bi f l)=bi f (del t l):=by
 intro l
 induction l with
 | nil=>rfl
 | cons x l ih =>
   obtain⟨i,z⟩:=x
   show del t ((i,f z)::bi f l)=_
   simp only[del]
   split
   ·exact ih
   ·rw[ih];rfl
theorem zu {f:α->α} {t:Nat} {y:α} (h:f y=y):∀ {l:List (Nat × α)},upd t y (bi f l)=bi f (upd t y l):=by
 intro l
 induction l with
 | nil=>simp[upd,bi,h]
 | cons x l ih =>
   obtain⟨i,z⟩:=x
   show upd t y ((i,f z)::bi f l)=_
   simp only[upd]
   split
   ·rw[JT];simp[bi,h]
   ·rw[ih];rfl
theorem zv {f:α->α} {us:List (Nat × α)} (h:∀ e ∈ us,f e.2=e.2):∀ {l:List (Nat × α)},updL us (bi f l)=bi f (updL us l):=by
 induction us with
 | nil=>intro l;rfl
 | cons u us ih =>
   intro l
   show updL us (upd u.1 u.2 (bi f l))=bi f (updL us (upd u.1 u.2 l))
   rw[zu (h u (by simp)),ih (fun e he=>h e (by simp[he]))]
theorem get_get? {d:α} {t:Nat}:∀ {l:List (Nat × α)},get d t l=(get? t l).getD d:=by
 intro l
 induction l with
 | nil=>rfl
 | cons x l ih =>
   obtain⟨i,z⟩:=x
   simp only[get,get?]
   split
   ·rfl
   ·exact ih
end
theorem PV.map_map {f g:Q->Q}:∀ (p:PV),(p.map f).map g=p.map (g ∘ f)
 | .q x=>rfl
 | .agg xs=>by simp[PV.map]
 | .tup xs=>by
   simp only[PV.map,List.map_map]
   congr 1
   refine List.map_congr_left (fun x _=>?_)
   cases x <;> simp[SV.map]
 | .gd b p=>by simp only[PV.map];rw[PV.map_map p]
theorem PV.map_congr {f g:Q->Q} (h:∀ q,f q=g q) (p:PV):p.map f=p.map g:=by rw[show f=g from funext h]
theorem kil_comm (k k':Kil) (q:Q):ay k (ay k' q)=ay k' (ay k q):=by
 rcases k with _|⟨b,d⟩
 ·rfl
 ·rcases k' with _|⟨b',d'⟩
  ·rfl
  ·cases b <;> cases b' <;> cases q with
   | own i=>by_cases h1:i=d <;> by_cases h2:i=d' <;> simp_all [ay,Q.killB,Q.killO]
   | box i o=>by_cases h1:i=d <;> by_cases h2:i=d' <;> simp_all [ay,Q.killB,Q.killO]
   | rp i sz k o=>by_cases h1:i=d <;> by_cases h2:i=d' <;> simp_all [ay,Q.killB,Q.killO]
   | vw i sz k o=>by_cases h1:i=d <;> by_cases h2:i=d' <;> simp_all [ay,Q.killB,Q.killO]
   | vc i sz k o cp=>by_cases h1:i=d <;> by_cases h2:i=d' <;> simp_all [ay,Q.killB,Q.killO]
   | nr i π=>by_cases h1:i=d <;> by_cases h2:i=d' <;> simp_all [ay,Q.killB,Q.killO]
   | np i π sz k o=>by_cases h1:i=d <;> by_cases h2:i=d' <;> simp_all [ay,Q.killB,Q.killO]
   | _=>rfl
theorem PV.kil_comm (k k':Kil) (p:PV):(p.map (ay k)).map (ay k')=(p.map (ay k')).map (ay k):=by
 rw[PV.map_map,PV.map_map];exact PV.map_congr (fun q=>Pw.kil_comm k' k q) p
theorem L.kil_comm (k k':Kil) (l:List Q):(l.map (ay k)).map (ay k')=(l.map (ay k')).map (ay k):=by
 rw[List.map_map,List.map_map];exact List.map_congr_left (fun q _=>Pw.kil_comm k' k q)
theorem Q.kil_back {k k':Kil} (h:k'=none\/k'≠k) {q:Q} (he:ay k' (ay k q)=ay k q):ay k' q=q:=by
 rcases k' with _|⟨b',d'⟩
 ·rfl
 ·have hne:=h.resolve_left (by simp)
  rcases k with _|⟨b,d⟩
  ·exact he
  ·cases b <;> cases b' <;> cases q with
   | own i=>by_cases h1:i=d <;> by_cases h2:i=d' <;> simp_all [ay,Q.killB,Q.killO]
   | box i o=>by_cases h1:i=d <;> by_cases h2:i=d' <;> simp_all [ay,Q.killB,Q.killO]
   | rp i sz k o=>by_cases h1:i=d <;> by_cases h2:i=d' <;> simp_all [ay,Q.killB,Q.killO]
   | vw i sz k o=>by_cases h1:i=d <;> by_cases h2:i=d' <;> simp_all [ay,Q.killB,Q.killO]
   | vc i sz k o cp=>by_cases h1:i=d <;> by_cases h2:i=d' <;> simp_all [ay,Q.killB,Q.killO]
   | nr i π=>by_cases h1:i=d <;> by_cases h2:i=d' <;> simp_all [ay,Q.killB,Q.killO]
   | np i π sz k o=>by_cases h1:i=d <;> by_cases h2:i=d' <;> simp_all [ay,Q.killB,Q.killO]
   | _=>rfl
theorem L.kil_back {k k':Kil} (h:k'=none\/k'≠k):∀ {l:List Q},(l.map (ay k)).map (ay k')=l.map (ay k)->l.map (ay k')=l:=by
 intro l
 induction l with
 | nil=>intro _;rfl
 | cons q l ih =>
   intro he
   simp only[List.map_cons,List.cons.injEq] at he ⊢
   exact⟨Q.kil_back h he.1,ih he.2⟩
theorem SV.kil_back {k k':Kil} (h:k'=none\/k'≠k) {s:SV} (he:(s.map (ay k)).map (ay k')=s.map (ay k)):s.map (ay k')=s:=by
 cases s with
 | q x=>simp only[SV.map,SV.q.injEq] at he ⊢;exact Q.kil_back h he
 | agg xs=>simp only[SV.map,SV.agg.injEq] at he ⊢;exact L.kil_back h he
theorem PV.kil_back {k k':Kil} (h:k'=none\/k'≠k):∀ {p:PV},(p.map (ay k)).map (ay k')=p.map (ay k)->p.map (ay k')=p
 | .q x,he=>by simp only[PV.map,PV.q.injEq] at he ⊢;exact Q.kil_back h he
 | .agg xs,he=>by simp only[PV.map,PV.agg.injEq] at he ⊢;exact L.kil_back h he
 | .tup xs,he=>by
   simp only[PV.map,PV.tup.injEq] at he ⊢
   induction xs with
   | nil=>rfl
   | cons s xs ih =>
     simp only[List.map_cons,List.cons.injEq] at he ⊢
     exact⟨SV.kil_back h he.1,ih he.2⟩
 | .gd b p,he=>by
   simp only[PV.map,PV.gd.injEq,true_and] at he ⊢
   exact PV.kil_back h he
def Q.pl:Q->Prop
 | .own _=>False
 | .box _ _=>False
 | .rp _ _ _ _=>False
 | .vw _ _ _ _=>False
 | .vc _ _ _ _ _=>False
 | .nr _ _=>False
 | .np _ _ _ _ _=>False
 | _=>True
def plL:List Q->Prop
 | []=>True
 | q::r=>q.pl/\plL r
def SV.pl:SV->Prop
 | .q x=>x.pl
 | .agg xs=>plL xs
def plS:List SV->Prop
 | []=>True
 | s::r=>s.pl/\plS r
def PV.pl:PV->Prop
 | .q x=>x.pl
 | .agg xs=>plL xs
 | .tup xs=>plS xs
 | .gd _ p=>p.pl
theorem Q.pl_kil {q:Q} (h:q.pl) (k:Kil):ay k q=q:=by
 rcases k with _|⟨b,d⟩
 ·rfl
 ·cases b <;> cases q <;> first|exact h.elim|rfl
theorem pv {l:List Q} (h:plL l) (k:Kil):l.map (ay k)=l:=by
 induction l with
 | nil=>rfl
 | cons q l ih=>simp only[List.map_cons];rw[Q.pl_kil h.1,ih h.2]
theorem SV.pl_kil {s:SV} (h:s.pl) (k:Kil):s.map (ay k)=s:=by
 cases s with
 | q x=>simp only[SV.map];rw[Q.pl_kil h]
 | agg xs=>simp only[SV.map];rw[pv h]
theorem PV.pl_kil:∀ {p:PV},p.pl->∀ (k:Kil),p.map (ay k)=p
 | .q x,h,k=>by simp only[PV.map];rw[Q.pl_kil h]
 | .agg xs,h,k=>by simp only[PV.map];rw[pv h]
 | .tup xs,h,k=>by
   simp only[PV.map]
   congr 1
   induction xs with
   | nil=>rfl
   | cons s xs ih=>simp only[List.map_cons];rw[SV.pl_kil h.1,ih h.2]
 | .gd b p,h,k=>by simp only[PV.map];rw[PV.pl_kil (p:=p) h]
theorem ta (cs:List C):plL (cs.map .c):=by
 induction cs with
 | nil=>trivial
 | cons c cs ih=>exact⟨trivial,ih⟩
end Go.Proofs.Pw
namespace Go.Proofs.Pw
open Go.RowKit
variable [Globs]
def jL (k:Kil) (l:List Q):Prop:=l.map (ay k)=l
def iE (k:Kil) (p:PV):Prop:=p.map (ay k)=p
def lx (k:Kil) (e:List Nat):List (Nat × PV)->Prop
 | []=>True
 | (t,p)::l=>(t ∈ e\/iE k p)/\lx k e l
def jM (k:Kil):List (Nat × List Q)->Prop
 | []=>True
 | (_,l)::r=>jL k l/\jM k r
def plT (d:Option Nat):List (Nat × PV)->Prop
 | []=>True
 | (t,p)::l=>(d=some t->p.pl)/\plT d l
def iF (σ:St) (x:XOp):Prop:=(match aG σ x with
 | none=>True
 | k=>lx k (dK x) σ.tm/\jM k σ.bx)/\plT x.dst σ.tm
def plA (us:List (Nat × List Q)):List (Nat × List Q)->Prop
 | []=>True
 | (i,l)::r=>((us.any fun u=>u.1 == i)=true->plL l)/\plA us r
def jN (k:Kil) (u:Updr):Prop:=(match u.s with|none=>True|some p=>iE k p)/\jM k u.bs
structure Rc where
 mem:List (Bool × Nat)
 wr:List (Bool × Nat)
 k:Kil
 u:Updr
def nK:Kil->List (Bool × Nat)
 | none=>[]
 | some x=>[x]
def wrU (k:Kil) (u:Updr):List (Bool × Nat):=nK k++(u.bs.map (fun e=>(false,e.1))++u.rs.map (fun e=>(true,e.1)))
def eH (σ:St) (x:XOp) (u:Updr):Rc:=⟨cu σ x,wrU (aG σ x) u,aG σ x,u⟩
def cH (a b:List (Bool × Nat)):Bool:=a.all fun x=>!(b.any fun y=>y.1 == x.1 && y.2 == x.2)
theorem px {a b:List (Bool × Nat)} (h:cH a b=true) {x:Bool × Nat} (hx:x ∈ a) (hx':x ∈ b):False:=by
 unfold cH at h
 rw[List.all_eq_true] at h
 have h1:=h x hx
 simp only[Bool.not_eq_true',List.any_eq_false] at h1
 exact h1 x hx' (by simp)
def iG (ry rx:Rc):Prop:=(cH ry.wr (rx.mem++rx.wr)=true/\cH rx.wr ry.mem=true)/\jN ry.k rx.u/\jN rx.k ry.u
def one (Γ:FuncId->Option Spec) (σ:St) (x:XOp) (F:Rc->St->Prop):Prop:=iF σ x/\bz Γ σ x (fun u=>plA u.bs σ.bx/\F (eH σ x u) (u.app (aG σ x) x.dst σ))
theorem JU {k:Kil} {e:List Nat}:∀ {l:List (Nat × PV)},lx k e l ↔ ∀ t p,(t,p) ∈ l->t ∈ e\/iE k p:=by
 intro l
 induction l with
 | nil=>simp[lx]
 | cons x l ih =>
   obtain⟨t,p⟩:=x
   simp only[lx,ih,List.mem_cons,Prod.mk.injEq]
   constructor
   ·rintro⟨h1,h2⟩ t' p' (⟨rfl,rfl⟩|h)
    ·exact h1
    ·exact h2 _ _ h
   ·exact fun h=>⟨h _ _ (.inl ⟨rfl,rfl⟩),fun t' p' h'=>h _ _ (.inr h')⟩
theorem ly {k:Kil}:∀ {l:List (Nat × List Q)},jM k l ↔ ∀ t p,(t,p) ∈ l->jL k p:=by
 intro l
 induction l with
 | nil=>simp[jM]
 | cons x l ih =>
   obtain⟨t,p⟩:=x
   simp only[jM,ih,List.mem_cons,Prod.mk.injEq]
   constructor
   ·rintro⟨h1,h2⟩ t' p' (⟨rfl,rfl⟩|h)
    ·exact h1
    ·exact h2 _ _ h
   ·exact fun h=>⟨h _ _ (.inl ⟨rfl,rfl⟩),fun t' p' h'=>h _ _ (.inr h')⟩
theorem JV {d:Option Nat}:∀ {l:List (Nat × PV)},plT d l ↔ ∀ t p,(t,p) ∈ l->d=some t->p.pl:=by
 intro l
 induction l with
 | nil=>simp[plT]
 | cons x l ih =>
   obtain⟨t,p⟩:=x
   simp only[plT,ih,List.mem_cons,Prod.mk.injEq]
   constructor
   ·rintro⟨h1,h2⟩ t' p' (⟨rfl,rfl⟩|h)
    ·exact h1
    ·exact h2 _ _ h
   ·exact fun h=>⟨h _ _ (.inl ⟨rfl,rfl⟩),fun t' p' h'=>h _ _ (.inr h')⟩
theorem jO {us:List (Nat × List Q)}:∀ {l:List (Nat × List Q)},plA us l ↔ ∀ t p,(t,p) ∈ l->(∃ u ∈ us,u.1=t)->plL p:=by
 intro l
 induction l with
 | nil=>simp[plA]
 | cons x l ih =>
   obtain⟨t,p⟩:=x
   simp only[plA,ih,List.mem_cons,Prod.mk.injEq,List.any_eq_true,beq_iff_eq]
   constructor
   ·rintro⟨h1,h2⟩ t' p' (⟨rfl,rfl⟩|h)
    ·exact h1
    ·exact h2 _ _ h
   ·exact fun h=>⟨h _ _ (.inl ⟨rfl,rfl⟩),fun t' p' h'=>h _ _ (.inr h')⟩
theorem iH (p:PV):iE none p:=by
 unfold iE
 induction p with
 | q x=>rfl
 | agg xs=>simp[PV.map,ay]
 | tup xs =>
   simp only[PV.map]
   congr 1
   induction xs with
   | nil=>rfl
   | cons s xs ih=>rw[List.map_cons,ih];cases s <;> simp[SV.map,ay]
 | gd b p ih=>simp only[PV.map];rw[ih]
theorem jP (l:List Q):jL none l:=by simp[jL,ay]
theorem gO {σ:St} {x:XOp}:iF σ x ↔ ((∀ t p,(t,p) ∈ σ.tm->t ∈ dK x\/iE (aG σ x) p)/\∀ t l,(t,l) ∈ σ.bx->jL (aG σ x) l)/\∀ t p,(t,p) ∈ σ.tm->x.dst=some t->p.pl:=by
 unfold iF
 rw[JV]
 split
 ·rename_i h
  rw[h]
  exact⟨fun h=>⟨⟨fun t p _=>.inr (iH p),fun t l _=>jP l⟩,h.2⟩,fun h=>⟨trivial,h.2⟩⟩
 ·rw[JU,ly]
theorem kil_tm (k:Kil) (σ:St):(σ.kil k).tm=match k with|none=>σ.tm|some _=>bi (PV.map (ay k)) σ.tm:=by cases k <;> rfl
theorem nL {k:Kil} {σ:St} {t:Nat} {p:PV}:(t,p) ∈ (σ.kil k).tm ↔ ∃ q,(t,q) ∈ σ.tm/\p=q.map (ay k):=by
 cases k with
 | none=>exact⟨fun h=>⟨p,h,(iH p).symm⟩,fun ⟨q,h,he⟩=>by rw[he,(iH q:q.map (ay none)=q)];exact h⟩
 | some _=>exact zt (e:=(t,p))
theorem pz {k:Kil} {σ:St} {t:Nat} {p:List Q}:(t,p) ∈ (σ.kil k).bx ↔ ∃ q,(t,q) ∈ σ.bx/\p=q.map (ay k):=by
 cases k with
 | none=>exact⟨fun h=>⟨p,h,(jP p).symm⟩,fun ⟨q,h,he⟩=>by rw[he,(jP q:q.map (ay none)=q)];exact h⟩
 | some _=>exact zt (e:=(t,p))
theorem jQ {k:Kil} {σ:St}:(σ.kil k).rw=σ.rw:=by cases k <;> rfl
theorem tc {k:Kil} {σ:St} {t:Nat}:get? t (σ.kil k).tm=(get? t σ.tm).map (PV.map (ay k)):=by
 cases k with
 | none=>show get? t σ.tm=_;cases get? t σ.tm <;> simp;exact (iH _).symm
 | some _=>exact get?_mapV
theorem td {k:Kil} {σ:St} {t:Nat}:get? t (σ.kil k).bx=(get? t σ.bx).map (List.map (ay k)):=by
 cases k with
 | none=>show get? t σ.bx=_;cases get? t σ.bx <;> simp;exact (jP _).symm
 | some _=>exact get?_mapV
theorem get?_mem' {α:Type} {t:Nat} {y:α}:∀ {l:List (Nat × α)},get? t l=some y->(t,y) ∈ l:=by
 intro l
 induction l with
 | nil=>intro h;simp[get?] at h
 | cons x l ih =>
   obtain⟨i,z⟩:=x
   intro h
   simp only[get?] at h
   split at h
   ·rename_i hi;subst hi;cases h;simp
   ·exact List.mem_cons_of_mem _ (ih h)
def Eqv (σ σ':St):Prop:=EqL σ.tm σ'.tm/\EqL σ.bx σ'.bx/\EqL σ.rw σ'.rw
theorem Eqv.refl (σ:St):Eqv σ σ:=⟨EqL.refl _,EqL.refl _,EqL.refl _⟩
theorem EqL.symm {α:Type} {a b:List (Nat × α)} (h:EqL a b):EqL b a:=⟨fun e=>(h.1 e).symm,fun t=>(h.2 t).symm⟩
theorem Eqv.symm {σ σ':St} (h:Eqv σ σ'):Eqv σ' σ:=⟨h.1.symm,h.2.1.symm,h.2.2.symm⟩
theorem Eqv.trans {a b c:St} (h:Eqv a b) (k:Eqv b c):Eqv a c:=⟨h.1.trans k.1,h.2.1.trans k.2.1,h.2.2.trans k.2.2⟩
theorem Eqv.sm {σ σ':St} (h:Eqv σ σ') (l:List Nat):Sm σ σ' l:=fun t _=>by rw[get_get?,get_get?,h.1.2 t]
theorem Eqv.lk {σ σ':St} (h:Eqv σ σ') (l:List (Bool × Nat)):LkL σ σ' l:=fun id _=>by
 unfold Lk
 split
 ·exact h.2.2.2 _
 ·exact h.2.1.2 _
theorem EqL.kil_tm {σ σ':St} (h:Eqv σ σ') (k:Kil):EqL (σ.kil k).tm (σ'.kil k).tm :=
 ⟨fun e=>by
  obtain⟨t,p⟩:=e
  rw[nL,nL]
  exact⟨fun ⟨q,h1,h2⟩=>⟨q,(h.1.1 _).1 h1,h2⟩,fun ⟨q,h1,h2⟩=>⟨q,(h.1.1 _).2 h1,h2⟩⟩,fun t=>by rw[tc,tc,h.1.2 t]⟩
theorem EqL.kil_bx {σ σ':St} (h:Eqv σ σ') (k:Kil):EqL (σ.kil k).bx (σ'.kil k).bx :=
 ⟨fun e=>by
  obtain⟨t,p⟩:=e
  rw[pz,pz]
  exact⟨fun ⟨q,h1,h2⟩=>⟨q,(h.2.1.1 _).1 h1,h2⟩,fun ⟨q,h1,h2⟩=>⟨q,(h.2.1.1 _).2 h1,h2⟩⟩,fun t=>by rw[td,td,h.2.1.2 t]⟩
theorem EqL.putO {l l':List (Nat × PV)} (h:EqL l l') (d:Option Nat) (s:Option PV):EqL (putO d s l) (putO d s l'):=by
 unfold Pw.putO
 split
 ·exact h.upd _ _
 ·exact h
theorem Eqv.app {σ σ':St} (h:Eqv σ σ') (k:Kil) (d:Option Nat) (u:Updr):Eqv (u.app k d σ) (u.app k d σ') :=
 ⟨(EqL.kil_tm h k).putO d u.s,(EqL.kil_bx h k).updL,by
  show EqL (updL u.rs (σ.kil k).rw) (updL u.rs (σ'.kil k).rw)
  rw[jQ,jQ]
  exact h.2.2.updL⟩
theorem JW {Γ:FuncId->Option Spec} {σ σ':St} (h:Eqv σ σ') {x:XOp} {F:Rc->St->Prop} (ho:one Γ σ x F):one Γ σ' x (fun r τ'=>∃ τ,Eqv τ τ'/\F r τ):=by
 have h1:=h.sm x.rd
 have hk:=pu h1 (h.lk _)
 have hm:=sY h1
 refine⟨?_,pt ?_ (sZ h1 (h.lk _) ho.2)⟩
 ·have h2:=gO.1 ho.1
  rw[hk] at h2
  exact gO.2 ⟨⟨fun t p hp=>h2.1.1 t p ((h.1.1 _).2 hp),fun t l hl=>h2.1.2 t l ((h.2.1.1 _).2 hl)⟩,fun t p hp=>h2.2 t p ((h.1.1 _).2 hp)⟩
 ·rintro u ⟨h2,h3⟩
  refine⟨jO.2 fun t l hl=>jO.1 h2 t l ((h.2.1.1 _).2 hl),u.app (aG σ' x) x.dst σ,h.app _ _ u,?_⟩
  rw[<-hk]
  unfold eH at h3 ⊢
  rw[hk,hm] at h3
  rwa [hk]
theorem lz {Γ:FuncId->Option Spec} {σ:St} {x:XOp} {F F':Rc->St->Prop} (h:∀ r τ,F r τ->F' r τ) (ho:one Γ σ x F):one Γ σ x F' :=
 ⟨ho.1,pt (fun _ h'=>⟨h'.1,h _ _ h'.2⟩) ho.2⟩
end Go.Proofs.Pw
namespace Go.Proofs.Pw
open Go.RowKit
variable [Globs]
theorem zw {α:Type} {f:α->α} (h:∀ a,f a=a) (l:List (Nat × α)):bi f l=l:=by
 induction l with
 | nil=>rfl
 | cons x l ih=>show (x.1,f x.2)::bi f l=_;rw[h,ih]
theorem pA {k:Kil} {σ:St}:(σ.kil k).tm=bi (PV.map (ay k)) σ.tm:=by
 cases k with
 | none=>exact (zw (fun p=>(iH p:_)) _).symm
 | some _=>rfl
theorem pB {k:Kil} {σ:St}:(σ.kil k).bx=bi (List.map (ay k)) σ.bx:=by
 cases k with
 | none=>exact (zw (fun p=>(jP p:_)) _).symm
 | some _=>rfl
theorem zx {α:Type} {f g:α->α} (h:∀ a,f (g a)=g (f a)) (l:List (Nat × α)):bi f (bi g l)=bi g (bi f l):=by
 induction l with
 | nil=>rfl
 | cons x l ih=>show (x.1,f (g x.2))::bi f (bi g l)=(x.1,g (f x.2))::bi g (bi f l);rw[h,ih]
theorem zy {f:PV->PV} {d:Option Nat} {s:Option PV} (h:∀ p,s=some p->f p=p) {l:List (Nat × PV)}:bi f (putO d s l)=putO d s (bi f l):=by
 unfold putO
 split
 ·exact (zu (h _ rfl)).symm
 ·rfl
theorem JX {d d':Option Nat} {s s':Option PV} (h:∀ t,d=some t->d'=some t->False) (l:List (Nat × PV)):EqL (putO d s (putO d' s' l)) (putO d' s' (putO d s l)):=by
 cases d with
 | none=>cases d' <;> exact EqL.refl _
 | some t =>
   cases d' with
   | none=>exact EqL.refl _
   | some t' =>
     cases s <;> cases s' <;> try exact EqL.refl _
     exact zp (fun e=>h t rfl (by rw[e])) l
theorem tf {k:Kil} {u:Updr} (h:jN k u):∀ p,u.s=some p->p.map (ay k)=p:=fun p hp=>by
 have h1:=h.1
 rw[hp] at h1
 exact h1
theorem pC {ky kx:Kil} {uy ux:Updr} (h:cH (wrU ky uy) (wrU kx ux)=true):(∀ e ∈ ux.bs,∀ e' ∈ uy.bs,e.1≠e'.1)/\(∀ e ∈ ux.rs,∀ e' ∈ uy.rs,e.1≠e'.1)/\(ky=none\/ky≠kx):=by
 refine⟨fun e he e' he' hee=>?_,fun e he e' he' hee=>?_,?_⟩
 ·refine px h (x:=(false,e'.1)) ?_ ?_
  ·simp only[wrU,List.mem_append,List.mem_map];exact .inr (.inl ⟨e',he',rfl⟩)
  ·simp only[wrU,List.mem_append,List.mem_map];exact .inr (.inl ⟨e,he,by rw[hee]⟩)
 ·refine px h (x:=(true,e'.1)) ?_ ?_
  ·simp only[wrU,List.mem_append,List.mem_map];exact .inr (.inr ⟨e',he',rfl⟩)
  ·simp only[wrU,List.mem_append,List.mem_map];exact .inr (.inr ⟨e,he,by rw[hee]⟩)
 ·cases ky with
  | none=>exact .inl rfl
  | some b =>
    right
    rintro rfl
    exact px h (x:=b) (by simp[wrU,nK]) (by simp[wrU,nK])
theorem JY {σ:St} {kx ky:Kil} {ux uy:Updr} {dx dy:Option Nat} (hd:∀ t,dx=some t->dy=some t->False) (hw:cH (wrU ky uy) (wrU kx ux)=true) (h1:jN ky ux) (h2:jN kx uy) :
 Eqv (ux.app kx dx (uy.app ky dy σ)) (uy.app ky dy (ux.app kx dx σ)):=by
 obtain⟨w1,w2,_⟩:=pC hw
 refine⟨?_,?_,?_⟩
 ·show EqL (putO dx ux.s ((uy.app ky dy σ).kil kx).tm) (putO dy uy.s ((ux.app kx dx σ).kil ky).tm)
  rw[pA,pA]
  show EqL (putO dx ux.s (bi _ (putO dy uy.s (σ.kil ky).tm))) (putO dy uy.s (bi _ (putO dx ux.s (σ.kil kx).tm)))
  rw[zy (tf h2),zy (tf h1),pA,pA,zx (fun p=>PV.kil_comm ky kx p)]
  exact JX hd _
 ·show EqL (updL ux.bs ((uy.app ky dy σ).kil kx).bx) (updL uy.bs ((ux.app kx dx σ).kil ky).bx)
  rw[pB,pB]
  show EqL (updL ux.bs (bi _ (updL uy.bs (σ.kil ky).bx))) (updL uy.bs (bi _ (updL ux.bs (σ.kil kx).bx)))
  rw[<-zv (fun e he=>ly.1 h2.2 e.1 e.2 he),<-zv (fun e he=>ly.1 h1.2 e.1 e.2 he),pB,pB,zx (fun p=>L.kil_comm ky kx p)]
  exact zq w1 _
 ·show EqL (updL ux.rs ((uy.app ky dy σ).kil kx).rw) (updL uy.rs ((ux.app kx dx σ).kil ky).rw)
  rw[jQ,jQ]
  show EqL (updL ux.rs (updL uy.rs (σ.kil ky).rw)) (updL uy.rs (updL ux.rs (σ.kil kx).rw))
  rw[jQ,jQ]
  exact zq w2 _
structure Stt (y x:XOp):Prop where
 yx:∀ d,y.dst=some d->d ∉ x.rd
 xy:∀ d,x.dst=some d->d ∉ y.rd
 dd:∀ t,x.dst=some t->y.dst=some t->False
 ex:∀ t ∈ dK y,t ∉ x.rd
 xe:∀ t ∈ dK x,t ∉ y.rd
theorem JZ {x:XOp} {t:Nat} (h:t ∈ dK x):t ∈ x.rd:=by
 obtain⟨d,g,k⟩:=x
 cases k with
 | app a b sz bytes ex =>
   cases a with
   | t n =>
     simp only[dK] at h
     split at h
     ·simp only[List.mem_singleton] at h
      subst h
      simp[XOp.rd,XK.rd,XO.rd]
     ·simp[XOp.rd,XK.rd,h]
   | k q=>simp[dK] at h
 | appx a b sz bytes =>
   cases a with
   | t n =>
     simp only[dK,List.mem_singleton] at h
     subst h
     simp[XOp.rd,XK.rd,XO.rd]
   | k q=>simp[dK] at h
 | _=>simp[dK] at h
section
variable {Γ:FuncId->Option Spec} {σ:St} {x y:XOp}
theorem get?_app_tm {k:Kil} {d:Option Nat} {u:Updr} {t:Nat} (h:d≠some t):get? t (u.app k d σ).tm=(get? t σ.tm).map (PV.map (ay k)):=by
 show get? t (putO d u.s (σ.kil k).tm)=_
 rw[<-tc]
 unfold putO
 split
 ·rw[get?_upd,if_neg (fun e=>h (by rw[e]))]
 ·rfl
theorem Ka {k:Kil} {d:Option Nat} {u:Updr} {t:Nat} (h:d≠some t) (hk:∀ p,(t,p) ∈ σ.tm->iE k p):get (.q .no) t (u.app k d σ).tm=get (.q .no) t σ.tm:=by
 rw[get_get?,get_get?,get?_app_tm h]
 cases hg:get? t σ.tm with
 | none=>rfl
 | some p=>exact hk p (get?_mem' hg)
theorem Kb {k:Kil} {d:Option Nat} {u:Updr} {id:Bool × Nat} (h:id ∉ wrU k u) (hk:∀ i l,(i,l) ∈ σ.bx->jL k l):Lk σ (u.app k d σ) id:=by
 obtain⟨b,i⟩:=id
 simp only[wrU,List.mem_append,List.mem_map,not_or,not_exists,not_and] at h
 unfold Lk
 cases b with
 | true =>
   simp only[if_true]
   show _=get? i (updL u.rs (σ.kil k).rw)
   rw[jQ,get?_updL (fun e he h'=>h.2.2 e he (by rw[h']))]
 | false =>
   simp only[Bool.false_eq_true,if_false]
   show _=get? i (updL u.bs (σ.kil k).bx)
   rw[get?_updL (fun e he h'=>h.2.1 e he (by rw[h'])),td]
   cases hg:get? i σ.bx with
   | none=>rfl
   | some l=>exact congrArg some (hk i l (get?_mem' hg)).symm
theorem jR (hy:iF σ y) (h1:∀ d,y.dst=some d->d ∉ x.rd) (h2:∀ t ∈ dK y,t ∉ x.rd) {u:Updr}:Sm σ (u.app (aG σ y) y.dst σ) x.rd:=fun t ht=>by
 refine (Ka (fun e=>h1 t e ht) (fun p hp=>?_)).symm
 exact ((gO.1 hy).1.1 t p hp).resolve_left (fun h=>h2 t h ht)
theorem nM (hy:iF σ y) {u:Updr} {l:List (Bool × Nat)} (h:cH (wrU (aG σ y) u) l=true):LkL σ (u.app (aG σ y) y.dst σ) l:=fun id hid =>
 Kb (fun hw=>px h hw hid) (gO.1 hy).1.2
theorem Sm.symm {σ σ':St} {l:List Nat} (h:Sm σ σ' l):Sm σ' σ l:=fun t ht=>(h t ht).symm
theorem LkL.symm {σ σ':St} {l:List (Bool × Nat)} (h:LkL σ σ' l):LkL σ' σ l:=fun id hid=>by
 have:=h id hid
 unfold Lk at this ⊢
 split at this <;> rename_i hb
 ·rw[if_pos hb];exact this.symm
 ·rw[if_neg hb];exact this.symm
theorem zA {k:Kil} {d:Option Nat} {u:Updr} {t:Nat} {p:PV} (h:(t,p) ∈ (u.app k d σ).tm):(d=some t/\u.s=some p)\/∃ q,(t,q) ∈ σ.tm/\p=q.map (ay k):=by
 have h':(t,p) ∈ putO d u.s (σ.kil k).tm:=h
 unfold putO at h'
 split at h'
 ·rename_i d0 p0 hs
  rcases jK.1 h' with h1|⟨_,h1⟩
  ·simp only[Prod.mk.injEq] at h1
   exact .inl ⟨by rw[h1.1],by rw[hs,h1.2]⟩
  ·exact .inr (nL.1 h1)
 ·exact .inr (nL.1 h')
theorem zB {k:Kil} {d:Option Nat} {u:Updr} {t:Nat} {q:PV} (h:(t,q) ∈ σ.tm) (hd:d≠some t):(t,q.map (ay k)) ∈ (u.app k d σ).tm:=by
 show _ ∈ putO d u.s (σ.kil k).tm
 have:(t,q.map (ay k)) ∈ (σ.kil k).tm:=nL.2 ⟨q,h,rfl⟩
 unfold putO
 split
 ·exact jK.2 (.inr ⟨fun e=>hd (by rw[<-e]),this⟩)
 ·exact this
theorem zC {k:Kil} {d:Option Nat} {u:Updr} {t:Nat} {p:List Q} (h:(t,p) ∈ (u.app k d σ).bx):(t,p) ∈ u.bs\/((∀ e ∈ u.bs,e.1≠t)/\∃ q,(t,q) ∈ σ.bx/\p=q.map (ay k)):=by
 rcases JR (l:=(σ.kil k).bx) h with h1|⟨h1,h2⟩
 ·exact .inl h1
 ·exact .inr ⟨h1,pz.1 h2⟩
theorem zD {k:Kil} {d:Option Nat} {u:Updr} {t:Nat} {q:List Q} (h:(t,q) ∈ σ.bx) (hd:∀ e ∈ u.bs,e.1≠t):(t,q.map (ay k)) ∈ (u.app k d σ).bx :=
 JS hd (pz.2 ⟨q,h,rfl⟩)
theorem Kc (hst:Stt y x) {K:Rc->Rc->St->Prop} (hp:∀ ry rx τ,K ry rx τ->iG ry rx)
 (h:one Γ σ y (fun ry σ1=>one Γ σ1 x (fun rx σ2=>K ry rx σ2))):one Γ σ x (fun rx τ1=>one Γ τ1 y (fun ry τ2=>∃ σ2,Eqv σ2 τ2/\K ry rx σ2)):=by
 obtain⟨hiy,hey⟩:=h
 have iy:=gO.1 hiy
 obtain⟨vy,Oy,ney,hny⟩:=nJ Γ σ y
 obtain⟨vx,Ox,nex,hnx⟩:=nJ Γ σ x
 rw[hny] at hey
 obtain⟨hvy,hOy⟩:=hey
 have hk:∀ uy:Updr,cH (wrU (aG σ y) uy) (cu σ x)=true->aG (uy.app (aG σ y) y.dst σ) x=aG σ x:=fun uy h6=>(pu (jR hiy hst.yx hst.ex) (nM hiy h6)).symm
 have hm:∀ uy:Updr,cu (uy.app (aG σ y) y.dst σ) x=cu σ x:=fun uy=>(sY (jR hiy hst.yx hst.ex)).symm
 have hboth:∀ uy,Oy uy->cH (wrU (aG σ y) uy) (cu σ x)=true/\vx/\plA uy.bs σ.bx/\iF (uy.app (aG σ y) y.dst σ) x/\∀ ux,Ox ux->plA ux.bs (uy.app (aG σ y) y.dst σ).bx/\K (eH σ y uy) (eH σ x ux) (ux.app (aG σ x) x.dst (uy.app (aG σ y) y.dst σ)):=by
  intro uy huy
  obtain⟨h1,h2,h3⟩:=hOy uy huy
  obtain⟨v1,O1,ne1,hn1⟩:=nJ Γ (uy.app (aG σ y) y.dst σ) x
  have h4:=(hn1 _).1 h3
  obtain⟨u0,hu0⟩:=ne1 h4.1
  have h5:=(hp _ _ _ (h4.2 u0 hu0).2).1.1
  have h6:cH (wrU (aG σ y) uy) (cu σ x)=true:=by
   rw[<-hm uy]
   unfold cH at h5 ⊢
   rw[List.all_eq_true] at h5 ⊢
   intro z hz
   have:=h5 z hz
   simp only[Bool.not_eq_true',List.any_eq_false,List.mem_append] at this ⊢
   exact fun a ha=>this a (.inl ha)
  have h7:=sZ (jR hiy hst.yx hst.ex (u:=uy)).symm (by rw[hm];exact (nM hiy h6).symm) h3
  rw[hnx] at h7
  refine⟨h6,h7.1,h1,h2,fun ux hux=>?_⟩
  obtain⟨h8,h9⟩:=h7.2 ux hux
  refine⟨h8,?_⟩
  unfold eH at h9 ⊢
  rw[hk uy h6,hm] at h9
  exact h9
 obtain⟨uy0,huy0⟩:=ney hvy
 have hvx:=(hboth uy0 huy0).2.1
 obtain⟨ux0,hux0⟩:=nex hvx
 have pk:∀ {uy ux},Oy uy->Ox ux->iG (eH σ y uy) (eH σ x ux):=fun hy hx=>hp _ _ _ ((hboth _ hy).2.2.2.2 _ hx).2
 have dw:∀ {uy ux},Oy uy->Ox ux->cH (wrU (aG σ y) uy) (wrU (aG σ x) ux)=true:=fun hy hx=>by
  have h5:=(pk hy hx).1.1
  unfold cH at h5 ⊢
  rw[List.all_eq_true] at h5 ⊢
  intro z hz
  have:=h5 z hz
  simp only[Bool.not_eq_true',List.any_eq_false,List.mem_append] at this ⊢
  exact fun a ha=>this a (.inr ha)
 have hkk:aG σ x=none\/aG σ x≠aG σ y:=by
  rcases (pC (dw huy0 hux0)).2.2 with h|h
  ·cases hx:aG σ x with
   | none=>exact .inl rfl
   | some b=>exact .inr (by rw[h];simp)
  ·exact .inr (fun e=>h e.symm)
 have hix:iF σ x:=by
  have i1:=gO.1 (hboth uy0 huy0).2.2.2.1
  rw[hk uy0 (hboth uy0 huy0).1] at i1
  refine gO.2 ⟨⟨fun t p hp=>?_,fun t l hl=>?_⟩,fun t p hp hd=>?_⟩
  ·by_cases hdt:y.dst=some t
   ·exact .inr (PV.pl_kil (iy.2 t p hp hdt) _)
   ·rcases i1.1.1 t _ (zB hp hdt) with h1|h1
    ·exact .inl h1
    ·exact .inr (PV.kil_back hkk h1)
  ·by_cases hb:∃ e ∈ uy0.bs,e.1=t
   ·exact pv (jO.1 (hboth uy0 huy0).2.2.1 t l hl hb) _
   ·exact L.kil_back hkk (i1.1.2 t _ (zD hl (fun e he h=>hb ⟨e,he,h⟩)))
  ·have h1:=i1.2 t _ (zB (k:=aG σ y) (u:=uy0) hp (fun e=>hst.dd t hd e)) hd
   rwa [(iy.1.1 t p hp).resolve_left (fun h=>hst.xy t hd (JZ h))] at h1
 have ix:=gO.1 hix
 refine⟨hix,(hnx _).2 ⟨hvx,fun ux hux=>⟨?_,?_,?_⟩⟩⟩
 ·refine jO.2 fun t l hl he=>?_
  have h1:=jO.1 ((hboth uy0 huy0).2.2.2.2 ux hux).1 t _ (zD (k:=aG σ y) (d:=y.dst) hl (fun e he' h'=>by
   obtain⟨e0,h2,h3⟩:=he
   exact (pC (dw huy0 hux)).1 e0 h2 e he' (h3.trans h'.symm))) he
  rwa [iy.1.2 t l hl] at h1
 ·
  have h1x:cH (wrU (aG σ x) ux) (cu σ y)=true:=(pk huy0 hux).1.2
  have hkx:aG (ux.app (aG σ x) x.dst σ) y=aG σ y:=(pu (jR hix hst.xy hst.xe) (nM hix h1x)).symm
  refine gO.2 ⟨⟨fun t p hp=>?_,fun t l hl=>?_⟩,fun t p hp hd=>?_⟩
  ·rw[hkx]
   rcases zA hp with ⟨_,hs⟩|⟨q,hq,rfl⟩
   ·exact .inr (tf (pk huy0 hux).2.1 _ hs)
   ·rcases iy.1.1 t q hq with h1|h1
    ·exact .inl h1
    ·right
     show PV.map (ay (aG σ y)) (PV.map (ay (aG σ x)) q)=PV.map (ay (aG σ x)) q
     rw[PV.kil_comm,(h1:q.map (ay (aG σ y))=q)]
  ·rw[hkx]
   rcases zC hl with hs|⟨_,q,hq,rfl⟩
   ·exact ly.1 (pk huy0 hux).2.1.2 t l hs
   ·show List.map (ay (aG σ y)) (List.map (ay (aG σ x)) q)=List.map (ay (aG σ x)) q
    rw[L.kil_comm,(iy.1.2 t q hq:q.map (ay (aG σ y))=q)]
  ·rcases zA hp with ⟨hs,_⟩|⟨q,hq,rfl⟩
   ·exact (hst.dd t hs hd).elim
   ·have:=iy.2 t q hq hd
    rw[PV.pl_kil this];exact this
 ·have h1:cH (wrU (aG σ x) ux) (cu σ y)=true:=(pk huy0 hux).1.2
  refine sZ (jR hix hst.xy hst.xe) (nM hix h1) ((hny _).2 ⟨hvy,fun uy huy=>⟨?_,?_⟩⟩)
  ·refine jO.2 fun t l hl he=>?_
   rcases zC hl with hs|⟨_,q,hq,rfl⟩
   ·obtain⟨e0,h2,h3⟩:=he
    exact ((pC (dw huy hux)).1 _ hs e0 h2 h3.symm).elim
   ·have:=jO.1 (hboth uy huy).2.2.1 t q hq he
    rw[pv this];exact this
  ·have hkx:aG (ux.app (aG σ x) x.dst σ) y=aG σ y:=(pu (jR hix hst.xy hst.xe) (nM hix h1)).symm
   have hmx:cu (ux.app (aG σ x) x.dst σ) y=cu σ y:=(sY (jR hix hst.xy hst.xe)).symm
   refine⟨ux.app (aG σ x) x.dst (uy.app (aG σ y) y.dst σ),?_,?_⟩
   ·rw[hkx]
    exact JY hst.dd (dw huy hux) (pk huy hux).2.1 (pk huy hux).2.2
   ·have:=((hboth uy huy).2.2.2.2 ux hux).2
    unfold eH at this ⊢
    rw[hkx,hmx]
    exact this
end
end Go.Proofs.Pw
namespace Go.Proofs.Pw
open Go.RowKit
variable [Globs]
def nN:XK->Bool
 | .load ..=>false
 | .ia ..=>false
 | .len ..=>false
 | .st ..=>false
 | .app ..=>false
 | .sub ..=>false
 | .isn ..=>false
 | .ovl ..=>false
 | .sub3 ..=>false
 | .callr ..=>false
 | .callo ..=>false
 | .callb ..=>false
 | .callx ..=>false
 | .appx ..=>false
 | _=>true
def isK:XK->Bool
 | .box ..=>true
 | .alloc ..=>true
 | .app ..=>true
 | .mk ..=>true
 | .callo ..=>true
 | .callx ..=>true
 | .appx ..=>true
 | _=>false
def jS:XK->Bool
 | .pick ..=>true
 | .bin ..=>true
 | .mm ..=>true
 | .not ..=>true
 | .idx ..=>true
 | .len ..=>true
 | .call ..=>true
 | .callb ..=>true
 | .calli ..=>true
 | .isn ..=>true
 | .cap ..=>true
 | .conv ..=>true
 | .bsl ..=>true
 | .glb ..=>true
 | _=>false
def pD (y x:XOp):Bool:=(!isW y.op && !isW x.op) || ((nN y.op && !isW y.op) && (jS y.op || !isK x.op)) || ((nN x.op && !isW x.op) && (jS x.op || !isK y.op))
def plO:Option PV->Prop
 | none=>True
 | some p=>p.pl
structure Info (x:XOp) (r:Rc):Prop where
 w:isW x.op=false->r.wr=[]/\r.k=none/\r.u.bs=[]
 m:nN x.op=true->r.mem=[]
 k:isK x.op=false->r.k=none
 p:jS x.op=true->plO r.u.s
theorem jT {σ:St} {x:XOp} (h:isK x.op=false):aG σ x=none:=by
 obtain⟨d,g,k⟩:=x
 cases k <;> first|(simp[isK] at h;done)|(cases g <;> cases d <;> rfl)
theorem zE {σ:St} {x:XOp} (h:nN x.op=true):cu σ x=[]:=by
 obtain⟨d,g,k⟩:=x
 cases k <;> first|rfl|(simp[nN] at h)
theorem Kd (d:DV):d.toP.pl:=by
 cases d with
 | one c=>cases c <;> trivial
 | agg cs=>exact ta cs
theorem Ke (ds:List DV):plS (ds.map DV.toS):=by
 induction ds with
 | nil=>trivial
 | cons d r ih =>
   refine⟨?_,ih⟩
   cases d with
   | one c=>trivial
   | agg cs=>exact ta cs
theorem zF {ds:List AV} {p:PV} (h:cD ds=some p):p.pl:=by
 unfold cD at h
 split at h
 ·cases h;exact Kd _
 ·cases h;exact Ke _
 ·cases h
theorem zG {Γ:FuncId->Option Spec} {σ:St} {f:FuncId} {xs:List XO} {vc:Prop} {p:PV} (h:fd Γ σ f xs=some (vc,p)):p.pl:=by
 unfold fd at h
 split at h
 ·split at h
  ·simp only[Option.map_eq_some_iff,Prod.mk.injEq] at h
   obtain⟨q,hq,_,rfl⟩:=h
   exact zF hq
  ·cases h
 ·cases h
theorem zH {Γ:FuncId->Option Spec} {σ:St} {k:XK} (hk:jS k=true) {vc:Prop} {p:PV} (h:ah Γ σ k=some (vc,p)):p.pl:=by
 cases k <;> first|(simp[jS] at hk;done)|skip
 case pick=>simp only[ah] at h;split at h <;> first|(cases h;trivial)|(split at h <;> cases h;trivial)|cases h
 case bin =>
  simp only[ah] at h
  split at h
  ·simp only[Option.map_eq_some_iff,Prod.mk.injEq] at h
   obtain⟨r,_,_,rfl⟩:=h
   trivial
  ·cases h
 case not=>simp only[ah] at h;split at h <;> cases h;trivial
 case idx=>simp only[ah] at h;split at h <;> cases h;trivial
 case len x str =>
  cases str with
  | true=>simp only[ah] at h;split at h <;> cases h;trivial
  | false =>
    simp only[ah] at h
    split at h
    ·simp only[Option.map_eq_some_iff,Prod.mk.injEq] at h
     obtain⟨r,_,_,rfl⟩:=h
     trivial
    ·cases h;trivial
    ·cases h;trivial
    ·simp only[Option.map_eq_some_iff,Prod.mk.injEq] at h
     obtain⟨r,_,_,rfl⟩:=h
     trivial
 case call f xs=>exact zG h
 case callb f xs =>
  simp only[ah,jA] at h
  split at h
  ·split at h
   ·split at h
    ·rename_i p' hp
     split at h
     ·cases h;exact zF hp
     ·cases h
    ·cases h
   ·cases h
  ·cases h
 case calli f xs =>
  simp only[ah] at h
  split at h
  ·simp only[Option.map_eq_some_iff,Prod.mk.injEq] at h
   obtain⟨⟨v,q⟩,hr,_,rfl⟩:=h
   exact zG hr
  ·cases h
 case mm=>simp only[ah] at h;split at h <;> first|(split at h <;> cases h;trivial)|cases h
 case cap x=>simp only[ah] at h;split at h <;> first|(cases h;trivial)|cases h
 case isn x =>
  simp only[ah] at h
  split at h <;>
  ·simp only[Option.map_eq_some_iff,Prod.mk.injEq] at h
   obtain⟨r,_,_,rfl⟩:=h
   trivial
 case conv=>simp only[ah] at h;split at h <;> cases h;trivial
 case bsl sz parts =>
  cases parts with
  | nil=>simp only[ah] at h;cases h;trivial
  | cons a r =>
    simp only[ah,Option.map_eq_some_iff,Prod.mk.injEq] at h
    obtain⟨q,_,_,rfl⟩:=h
    trivial
 case glb =>
  simp only[ah,Option.map_eq_some_iff,Prod.mk.injEq] at h
  obtain⟨q,_,_,rfl⟩:=h
  trivial
theorem Kf {Γ:FuncId->Option Spec} {σ:St} {x:XOp} (hk:jS x.op=true) {vc:Prop} {p:PV} (h:bN Γ σ x=some (vc,p)):p.pl:=by
 unfold bN at h
 split at h
 ·split at h
  ·simp only[Option.map_eq_some_iff,Prod.mk.injEq] at h
   obtain⟨⟨v,q⟩,hr,_,rfl⟩:=h
   exact (zH hk hr:q.pl)
  ·cases h
 ·exact zH hk h
theorem zI {Γ:FuncId->Option Spec} {σ:St} {x:XOp} {K:Updr->Prop} (hx:isW x.op=false) (h:bz Γ σ x K):∃ vc p,bN Γ σ x=some (vc,p)/\vc/\K ⟨some p,[],[]⟩:=by
 have key:(match bN Γ σ x with|some (vc,p)=>vc/\K ⟨some p,[],[]⟩|none=>False)->∃ vc p,bN Γ σ x=some (vc,p)/\vc/\K ⟨some p,[],[]⟩:=fun h=>by
  split at h
  ·rename_i vc p e;exact⟨vc,p,e,h.1,h.2⟩
  ·exact h.elim
 obtain⟨d,g,k⟩:=x
 cases k <;> cases g <;> first|(simp[isW] at hx;done)|exact h.elim|exact key h
theorem Kg {Γ:FuncId->Option Spec} {σ:St} {x:XOp} {K:Updr->Prop} (h:bz Γ σ x K):bz Γ σ x (fun u=>Info x (eH σ x u)/\K u):=by
 cases hw:isW x.op with
 | true =>
   have hr:jS x.op=false:=by
    obtain⟨d,g,k⟩:=x
    cases k <;> first|rfl|(simp[isW] at hw)
   refine pt (fun u hu=>⟨⟨fun h=>?_,fun h=>zE h,fun h=>jT h,fun h=>?_⟩,hu⟩) h
   ·rw[hw] at h;cases h
   ·rw[hr] at h;cases h
 | false =>
   obtain⟨vc,p,h1,h2,h3⟩:=zI hw h
   have hK:isK x.op=false:=by
    obtain⟨d,g,k⟩:=x
    cases k <;> first|rfl|(simp[isW] at hw)
   have hi:Info x (eH σ x ⟨some p,[],[]⟩):=⟨fun _=>⟨by simp[eH,wrU,jT hK,nK],jT hK,rfl⟩,fun h=>zE h,fun h=>jT h,fun h=>Kf h h1⟩
   have key:∀ (F:Updr->Prop),F ⟨some p,[],[]⟩->bz Γ σ x F:=fun F hF=>by
    have h4:=h
    obtain⟨d,g,k⟩:=x
    cases k <;> cases g <;> first|(simp[isW] at hw;done)|exact h4.elim|(simp only[bz,h1];exact⟨h2,hF⟩)
   exact key _ ⟨hi,h3⟩
theorem zJ {Γ:FuncId->Option Spec} {σ:St} {x:XOp} {F:Rc->St->Prop} (h:one Γ σ x F):one Γ σ x (fun r τ=>Info x r/\F r τ) :=
 ⟨h.1,pt (fun _ h=>⟨h.2.1,h.1,h.2.2⟩) (Kg h.2)⟩
theorem pE {k:Kil} {u:Updr} (h:plO u.s\/k=none) (hb:u.bs=[]):jN k u:=by
 refine⟨?_,by rw[hb];trivial⟩
 cases hs:u.s with
 | none=>trivial
 | some p =>
   rcases h with h|h
   ·rw[hs] at h;exact PV.pl_kil h _
   ·rw[h];exact iH p
theorem zK (a:List (Bool × Nat)):cH a []=true:=by unfold cH;rw[List.all_eq_true];intro z _;rfl
theorem Kh {y x:XOp} {ry rx:Rc} (h:pD y x=true) (iy:Info y ry) (ix:Info x rx):iG ry rx:=by
 simp only[pD,Bool.or_eq_true,Bool.and_eq_true,Bool.not_eq_true'] at h
 rcases h with (⟨h1,h2⟩|⟨⟨h1,h2⟩,h3⟩)|⟨⟨h1,h2⟩,h3⟩
 ·obtain⟨a1,a2,a3⟩:=iy.w h1
  obtain⟨b1,b2,b3⟩:=ix.w h2
  refine⟨⟨by rw[a1];rfl,by rw[b1];rfl⟩,?_,?_⟩
  ·rw[a2];exact pE (.inr rfl) b3
  ·rw[b2];exact pE (.inr rfl) a3
 ·obtain⟨a1,a2,a3⟩:=iy.w h2
  refine⟨⟨by rw[a1];rfl,by rw[iy.m h1];exact zK _⟩,?_,?_⟩
  ·rw[a2]
   refine⟨?_,ly.2 fun _ l _=>jP l⟩
   cases rx.u.s with
   | none=>trivial
   | some p=>exact iH p
  ·exact pE (h3.imp iy.p ix.k) a3
 ·obtain⟨b1,b2,b3⟩:=ix.w h2
  refine⟨⟨by rw[b1,ix.m h1];exact zK _,by rw[b1];rfl⟩,?_,?_⟩
  ·exact pE (h3.imp ix.p iy.k) b3
  ·rw[b2]
   refine⟨?_,ly.2 fun _ l _=>jP l⟩
   cases ry.u.s with
   | none=>trivial
   | some p=>exact iH p
abbrev dL:=Nat->Option Rc
def cq (p:dL) (i:Nat) (r:Rc):dL:=fun j=>if j=i then some r else p j
def eI (p:dL):List Nat->Rc->Prop
 | [],_=>True
 | j::js,r=>(match p j with|some ry=>iG ry r|none=>True)/\eI p js r
def dM (Γ:FuncId->Option Spec) (prs:List (List Nat)):dL->List (XOp × Nat)->St->(St->Prop)->Prop
 | _,[],σ,K=>K σ
 | p,(x,i)::rest,σ,K=>one Γ σ x (fun r σ'=>eI p (prs.getD i []) r/\dM Γ prs (cq p i r) rest σ' K)
theorem nO {p:dL} {r:Rc}:∀ {l:List Nat},eI p l r ↔ ∀ j ∈ l,∀ ry,p j=some ry->iG ry r:=by
 intro l
 induction l with
 | nil=>simp[eI]
 | cons j l ih =>
   simp only[eI,ih,List.mem_cons]
   constructor
   ·rintro⟨h1,h2⟩ j' (rfl|h) ry hr
    ·rw[hr] at h1;exact h1
    ·exact h2 j' h ry hr
   ·intro h
    refine⟨?_,fun j' h'=>h j' (.inr h')⟩
    split
    ·rename_i ry hr;exact h j (.inl rfl) ry hr
    ·trivial
section
variable {Γ:FuncId->Option Spec} {prs:List (List Nat)}
theorem Ki {K:St->Prop} (hK:∀ σ σ',Eqv σ σ'->K σ->K σ'):∀ {rest:List (XOp × Nat)} {p:dL} {σ σ':St},Eqv σ σ'->dM Γ prs p rest σ K->dM Γ prs p rest σ' K:=by
 intro rest
 induction rest with
 | nil=>intro p σ σ' h hr;exact hK _ _ h hr
 | cons x rest ih =>
   obtain⟨x,i⟩:=x
   intro p σ σ' h hr
   exact lz (fun r τ' ⟨τ,he,h1,h2⟩=>⟨h1,ih he h2⟩) (JW h hr)
theorem zL {K K':St->Prop} (hK:∀ σ,K σ->K' σ):∀ {rest:List (XOp × Nat)} {p:dL} {σ:St},dM Γ prs p rest σ K->dM Γ prs p rest σ K':=by
 intro rest
 induction rest with
 | nil=>intro p σ hr;exact hK _ hr
 | cons x rest ih =>
   obtain⟨x,i⟩:=x
   intro p σ hr
   exact lz (fun r τ' ⟨h1,h2⟩=>⟨h1,ih h2⟩) hr
theorem Kj {σ:St} {x:XOp} {F:Rc->St->Prop} {A:Prop} (h:one Γ σ x F) (hA:∀ r τ,F r τ->A):A:=by
 obtain⟨vc,O,hne,hn⟩:=nJ Γ σ x
 have h1:=(hn _).1 h.2
 obtain⟨u,hu⟩:=hne h1.1
 exact hA _ _ (h1.2 u hu).2
theorem Kk {p:dL} {i j:Nat} (h:i≠j) (r r':Rc):cq (cq p i r) j r'=cq (cq p j r') i r:=by
 funext t
 unfold cq
 by_cases h1:t=i <;> by_cases h2:t=j <;> simp[h1,h2] <;> (intro h3;omega)
theorem Kl {K:St->Prop} (hK:∀ σ σ',Eqv σ σ'->K σ->K σ') {B:List (XOp × Nat)} {i:Nat} {x:XOp}:∀ {A:List (XOp × Nat)} {p:dL} {σ:St},
 (∀ y ∈ A,p y.2=none/\y.2≠i/\Stt y.1 x/\(y.2 ∈ prs.getD i []\/pD y.1 x=true)/\i ∉ prs.getD y.2 [])->A.Pairwise (fun y z=>y.2≠z.2)->dM Γ prs p (A++(x,i)::B) σ K ->
 one Γ σ x (fun r σ'=>eI p (prs.getD i []) r/\dM Γ prs (cq p i r) (A++B) σ' K):=by
 intro A
 induction A with
 | nil=>intro p σ _ _ h;exact h
 | cons y A ih =>
   obtain⟨y,j⟩:=y
   intro p σ hA hnd h
   obtain⟨hpj,hji,hst,hpr,hnp⟩:=hA (y,j) (by simp)
   simp only[List.pairwise_cons] at hnd
   have h1:one Γ σ y (fun ry σ1=>one Γ σ1 x (fun rx σ2=>(iG ry rx/\eI p (prs.getD j []) ry/\eI (cq p j ry) (prs.getD i []) rx)/\dM Γ prs (cq (cq p j ry) i rx) (A++B) σ2 K)):=by
    refine lz ?_ (zJ h)
    rintro ry σ1 ⟨iy,h2,h3⟩
    have h4:=ih (fun z hz=>by
     obtain⟨a1,a2⟩:=hA z (by simp[hz])
     refine⟨?_,a2⟩
     unfold cq
     rw[if_neg (fun e=>hnd.1 z hz e.symm)]
     exact a1) hnd.2 h3
    refine lz ?_ (zJ h4)
    rintro rx σ2 ⟨ix,h5,h6⟩
    refine⟨⟨?_,h2,h5⟩,h6⟩
    rcases hpr with hpr|hpr
    ·exact nO.1 h5 j hpr ry (by simp[cq])
    ·exact Kh hpr iy ix
   refine lz ?_ (Kc hst (K:=fun ry rx σ2=>(iG ry rx/\eI p (prs.getD j []) ry/\eI (cq p j ry) (prs.getD i []) rx)/\dM Γ prs (cq (cq p j ry) i rx) (A++B) σ2 K) (fun _ _ _ h=>h.1.1) h1)
   intro rx τ1 h2
   refine⟨Kj h2 (fun ry τ2 ⟨σ2,_,⟨_,_,h3⟩,_⟩=>nO.2 fun j' hj' r' hr'=>nO.1 h3 j' hj' r' ?_),?_⟩
   ·unfold cq
    rw[if_neg (fun e=>by rw[e,hpj] at hr';cases hr')]
    exact hr'
   ·refine lz ?_ h2
    rintro ry τ2 ⟨σ2,he,⟨_,h3,_⟩,h4⟩
    refine⟨nO.2 fun j' hj' r' hr'=>nO.1 h3 j' hj' r' ?_,?_⟩
    ·unfold cq at hr'
     rw[if_neg (fun e=>hnp (by rw[<-e];exact hj'))] at hr'
     exact hr'
    ·rw[Kk (fun e=>hji e.symm)]
     exact Ki hK he h4
end
end Go.Proofs.Pw
namespace Go.Proofs.Pw
open Go.RowKit
variable [Globs]
section
variable {P:Program} {Γ:FuncId->Option Spec} {σ σ':St} {a:Act} {w w':World} {M M':Gh} {X:Nat->Prop} {B n:Nat} {w0:W0} {ops:Array Oper}
theorem Sim.eqv (he:Eqv σ σ') (hs:Sim X n B w0 σ' a w M):Sim X n B w0 σ a w M:=by
 refine⟨hs.size,hs.defs,fun t p h=>hs.tm t p ((he.1.1 _).1 h),?_,hs.fr,hs.hB,hs.sS,hs.sβ,hs.sρ⟩
 have hb:∀ {i qs},(i,qs) ∈ σ.bx->(i,qs) ∈ σ'.bx:=fun h=>(he.2.1.1 _).1 h
 have hr:∀ {i r},(i,r) ∈ σ.rw->(i,r) ∈ σ'.rw:=fun h=>(he.2.2.1 _).1 h
 have m:=hs.mem
 exact⟨fun i qs h=>m.box i qs (hb h),fun i sz es h=>m.row i sz es (hr h),fun i q i' q' h h'=>m.bb i q i' q' (hb h) (hb h'),fun i q i' r h h'=>m.br i q i' r (hb h) (hr h'),
  fun i r i' r' g h h'=>m.rr i r i' r' g (hr h) (hr h'),m.lt,fun i q h=>m.sb i q (hb h),fun i r g h=>m.sr i r g (hr h),m.gl⟩
theorem zM {σ0:St}:∀ {xs:List XO} {ms:List Bool} {os:List AV} {b:List (Nat × List Q)} {σ:St},co σ0 xs ms os=some b->bZ σ0 xs ms os σ=some { σ with bx:=updL b σ.bx }:=by
 intro xs
 induction xs with
 | nil =>
   intro ms os b σ h
   cases ms <;> cases os <;> simp only[co,reduceCtorEq,Option.some.injEq] at h
   subst h;rfl
 | cons x xs ih =>
   intro ms os b σ h
   cases ms with
   | nil=>simp[co] at h
   | cons m ms =>
     cases os with
     | nil=>cases m <;> simp[co] at h
     | cons o os =>
       cases m with
       | false =>
         cases o <;> simp only[co,reduceCtorEq] at h
         simp only[bZ]
         exact ih h
       | true =>
         cases o <;> simp only[co,reduceCtorEq] at h
         simp only[bZ]
         split at h
         ·rename_i i o' b' e1 e2
          cases h
          rw[e1]
          simp only
          rw[ih e2]
          rfl
         ·cases h
theorem zN {f:FuncId} {ys:List XO} {d:Option Nat} {K:Updr->Prop} (h:fR Γ σ f ys K):dY Γ σ d f ys (fun σ'=>∃ u:Updr,K u/\σ'=u.app none d σ):=by
 unfold fR at h
 unfold dY
 split at h
 ·rename_i sp hsp
  rw[hsp]
  simp only
  split at h
  ·rename_i vc ds ha
   obtain⟨⟨h1,h2,h3,h4,h5⟩,h6⟩:=h
   have hp:σ.pubs ys sp.md=σ:=by unfold St.pubs;rw[h1];rfl
   rw[hp,ha]
   refine⟨h2,h3,h4,fun r o hro=>?_⟩
   obtain⟨p,hr,h7⟩:=iC (h6 r o hro)
   obtain⟨b,hb,h8⟩:=iC h7
   rw[zM hb]
   show orF (ez d r { σ with bx:=updL b σ.bx }) _
   have:ez d r { σ with bx:=updL b σ.bx }=some (({ σ with bx:=updL b σ.bx }:St).put d p):=by
    unfold ez
    split
    ·simp[cD,bI] at hr
    ·simp[cD,bI] at hr
    ·rw[hr]
   rw[this]
   exact⟨_,h8,by cases d <;> rfl⟩
  ·exact h.elim
 ·exact h.elim
theorem zO {d:Option Nat} {p:PV}:σ.put d p=Updr.app none d ⟨some p,[],[]⟩ σ:=by cases d <;> rfl
theorem Km {x:XOp} {K:Updr->Prop} (h:bz Γ σ x K):∃ k,cE Γ k σ x (fun σ'=>∃ u:Updr,K u/\σ'=u.app (aG σ x) x.dst σ):=by
 cases hw:isW x.op with
 | false =>
   obtain⟨vc,p,h1,h2,h3⟩:=zI hw h
   refine⟨1,?_⟩
   have hk:aG σ x=none:=jT (by
    obtain⟨d,g,k⟩:=x
    cases k <;> first|rfl|(simp[isW] at hw))
   unfold cE
   split
   ·rename_i f ys hx;rw[hx] at hw;simp[isW] at hw
   ·rename_i y hx
    exfalso
    obtain⟨d,g,k⟩:=x
    simp only at hx
    subst hx
    unfold bN at h1
    cases g with
    | none=>simp[ah] at h1
    | some tw=>simp only at h1;split at h1 <;> simp[ah] at h1
   ·rw[show ((1:Nat) != 0)=true from rfl,yY,h1]
    refine⟨h2,fun _=>⟨_,h3,?_⟩⟩
    rw[hk]
    exact zO
 | true =>
   refine⟨0,?_⟩
   obtain⟨d,g,k⟩:=x
   cases k <;> first|(simp[isW] at hw;done)|skip
   case callr f ys =>
    cases g with
    | none =>
      have:aG σ ⟨d,none,.callr f ys⟩=none:=jT rfl
      rw[this]
      exact zN h
    | some tw =>
      obtain⟨t,want⟩:=tw
      have:aG σ ⟨d,some (t,want),.callr f ys⟩=none:=jT rfl
      rw[this]
      simp only[bz] at h
      simp only[cE]
      split at h
      ·rename_i b e1
       rw[e1]
       exact⟨fun hb=>zN (h.1 hb),fun hb=>⟨_,h.2 hb,zO⟩⟩
      ·exact h.elim
   all_goals cases g with
    | some tw =>
      simp only[bz,bN] at h
      split at h
      ·rename_i vc p e1
       split at e1
       ·simp[ah] at e1
       ·cases e1
      ·exact h.elim
    | none=>?_
   case st.none a b ag =>
    simp only[bz] at h
    simp only[cE,eD,bc,bne_self_eq_false]
    split at h
    ·split at h
     ·rename_i e0 e0' _ _ qs ys e1 e2
      rw[e0,e0']
      simp only[e1,e2]
      exact⟨h.1,fun _=>⟨_,h.2,by cases d <;> rfl⟩⟩
     ·exact h.elim
    ·split at h
     ·rename_i e0 e0' _ _ sz' es ys e1 e2
      split at h
      ·rename_i cs e3
       rw[e0,e0']
       simp only[e1,e2,e3]
       exact⟨h.1,fun _=>⟨_,h.2,by cases d <;> rfl⟩⟩
      ·exact h.elim
     ·exact h.elim
    ·exact h.elim
   case box.none a ag =>
    cases d with
    | none=>exact h.elim
    | some d =>
      simp only[bz] at h
      simp only[cE,eD,bc,bne_self_eq_false]
      split at h
      ·rename_i ys e1
       simp only[e1]
       exact⟨h.1,fun _=>⟨_,h.2,rfl⟩⟩
      ·exact h.elim
   case alloc.none zs =>
    cases d with
    | none=>exact h.elim
    | some d=>exact⟨trivial,fun _=>⟨_,h.2,rfl⟩⟩
   case app.none a b sz bytes ex =>
    cases d with
    | none=>exact h.elim
    | some d =>
      simp only[bz] at h
      simp only[cE,eD,bc,bne_self_eq_false]
      simp only[aG]
      split at h
      ·rename_i d' g r g' p hd e0 e0'
       cases hd
       rw[e0,e0']
       split at h
       ·rename_i sz' es sz'' ys e1 e2
        simp only[e1,e2]
        rw[if_neg (by have:=h.1.2.2.2.2.2;omega)]
        exact⟨⟨h.1.1,h.1.2.1,h.1.2.2.1,h.1.2.2.2.1,h.1.2.2.2.2.1⟩,fun _=>⟨_,h.2,rfl⟩⟩
       ·exact h.elim
      ·rename_i d' g r sz1 lo n1 g' p hd e0 e0'
       cases hd
       rw[e0,e0']
       split at h
       ·rename_i sz' es sz'' ys e1 e2
        simp only[e1,e2]
        split at h
        ·rename_i hfit
         rw[if_pos hfit,if_pos hfit]
         exact⟨h.1,fun _=>⟨_,h.2,rfl⟩⟩
        ·rename_i hfit
         rw[if_neg hfit,if_neg hfit]
         split at h
         ·rename_i hlo
          rw[if_pos hlo]
          exact⟨h.1,fun _=>⟨_,h.2,rfl⟩⟩
         ·exact h.elim
       ·exact h.elim
      ·rename_i d' g p g' p' hno hno' hd e0 e0'
       cases hd
       rw[e0,e0']
       split at h
       ·rename_i sz' sz'' ys e2
        simp only[e2]
        exact⟨h.1,fun _=>⟨_,h.2,rfl⟩⟩
       ·rename_i sz' es sz'' ys e2
        simp only[e2]
        exact⟨h.1,fun _=>⟨_,h.2,rfl⟩⟩
       ·exact h.elim
      ·exact h.elim
   case callo.none f ys =>
    cases d with
    | none =>
      simp only[bz] at h
    | some d =>
      simp only[bz] at h
      simp only[cE,eD,bne_self_eq_false]
      split at h
      ·rename_i d' sp hd hsp
       cases hd
       split at h
       ·rename_i vc ds ha
        split at h
        ·rename_i sz es e1 e2
         obtain⟨⟨h0,h1,h2,h3,h4⟩,h5⟩:=h
         have hp:σ.pubs ys sp.md=σ:=by unfold St.pubs;rw[h1];rfl
         have ho:=zM (σ:=σ) e2
         simp only[fM,hsp,h0,hp,ha,h2,if_true,ho,e1,ez,Option.map_some]
         exact⟨⟨h3,h4⟩,fun _=>⟨_,h5,rfl⟩⟩
        ·exact h.elim
       ·exact h.elim
      ·exact h.elim
   case appx.none a b sz bytes =>
    cases d with
    | none=>exact h.elim
    | some d =>
      simp only[bz] at h
      simp only[cE,eD,bc,bne_self_eq_false]
      simp only[aG]
      split at h
      ·rename_i d' g r g' s hd e0 e0'
       cases hd
       rw[e0,e0']
       split at h
       ·rename_i sz' es sz'' ys e1 e2
        simp only[e1,e2]
        rw[if_neg (by have:=h.1.2.2.2.2.2;omega)]
        exact⟨⟨h.1.1,h.1.2.1,h.1.2.2.1,h.1.2.2.2.1,h.1.2.2.2.2.1⟩,fun _=>⟨_,h.2,rfl⟩⟩
       ·exact h.elim
      ·exact h.elim
   case callx.none f ys =>
    cases d with
    | none =>
      simp only[bz] at h
    | some d =>
      simp only[bz] at h
      simp only[cE,eD,bne_self_eq_false]
      split at h
      ·rename_i d' sp hd hsp
       cases hd
       split at h
       ·rename_i vc ds ha
        split at h
        ·rename_i sz es e1
         obtain⟨⟨h0,h1,h3,h4⟩,h5⟩:=h
         simp only[lc,hsp,h0,ha,e1,List.all_cons,List.all_nil,AV.fl,h1,Bool.and_true,if_true,ez,Option.map_some]
         exact⟨⟨h3,h4⟩,fun _=>⟨_,h5,rfl⟩⟩
        ·exact h.elim
       ·exact h.elim
      ·exact h.elim
   case mk.none m zs bytes =>
    cases d with
    | none =>
      simp only[bz] at h
    | some d =>
      simp only[bz] at h
      simp only[cE,eD,bc,bne_self_eq_false]
      split at h
      ·rename_i d' g k m' hd e0
       cases hd
       rw[e0]
       exact⟨h.1,fun _=>⟨_,h.2,rfl⟩⟩
      ·exact h.elim
end
end Go.Proofs.Pw
namespace Go.Proofs.Pw
open Go.RowKit
variable [Globs]
section
variable {P:Program} {Γ:FuncId->Option Spec} {σ σ':St} {a:Act} {w w':World} {M M':Gh} {X:Nat->Prop} {B n:Nat} {w0:W0} {ops:Array Oper}
def pF (a b:List Nat):Bool:=a.all fun x=>!b.contains x
def tg (y x:XOp):Bool:=(match y.dst with|some d=>!x.rd.contains d|none=>true) && (match x.dst with|some d=>!y.rd.contains d && y.dst != some d|none=>true) && pF (dK y) x.rd && pF (dK x) y.rd
theorem zQ {a b:List Nat} (h:pF a b=true):∀ t ∈ a,t ∉ b:=fun t ht hb=>by
 unfold pF at h
 rw[List.all_eq_true] at h
 have:=h t ht
 simp at this
 exact this hb
theorem Kn {y x:XOp} (h:tg y x=true):Stt y x:=by
 simp only[tg,Bool.and_eq_true] at h
 obtain⟨⟨⟨h1,h2⟩,h3⟩,h4⟩:=h
 refine⟨fun d hd=>?_,fun d hd=>?_,fun t ht hy=>?_,zQ h3,zQ h4⟩
 ·rw[hd] at h1;simpa using h1
 ·rw[hd] at h2;simp at h2;exact h2.1
 ·rw[ht] at h2;simp at h2;exact h2.2 hy
def zR (an prs:List (List Nat)) (y x:XOp) (j i:Nat):Bool:=(an.getD i []).contains j || (tg y x && ((prs.getD i []).contains j || pD y x))
def pG:List (List Nat)->Nat->Bool
 | [],_=>true
 | l::r,i=>l.all (fun j=>decide (j < i)) && pG r (i+1)
theorem Ko:∀ {l:List (List Nat)} {k i:Nat},pG l k=true->∀ j ∈ l.getD i [],j < k+i:=by
 intro l
 induction l with
 | nil=>intro k i _ j hj;simp at hj
 | cons x l ih =>
   intro k i h j hj
   simp only[pG,Bool.and_eq_true,List.all_eq_true,decide_eq_true_eq] at h
   cases i with
   | zero=>simp at hj;have:=h.1 j hj;omega
   | succ i=>have:=ih h.2 j (by simpa using hj) (i:=i);omega
def pH (ops:Array Oper) (xs:List XOp) (npre:Nat) (prs:List (List Nat)):Bool :=
 decide (npre<=xs.length) && lv ops && nG (dl ops.toList []) npre xs.length && pG prs 0 &&
  ((xs.take npre).zipIdx.all fun x=>(xs.take npre).zipIdx.all fun y=>decide (x.2<=y.2) || zR (dl ops.toList []) prs y.1 x.1 y.2 x.2)
def left (L:Nat->Bool) (l:List (XOp × Nat)):List (XOp × Nat):=l.filter fun p=>!L p.2
theorem Kp {L L':Nat->Bool} {i:Nat} (hL:∀ j,L' j=(L j || decide (j=i))) (hi:L i=false) {x:XOp}:∀ {l:List (XOp × Nat)},l.Pairwise (fun y z=>y.2 < z.2)->(x,i) ∈ l ->
 ∃ A B,left L l=A++(x,i)::B/\left L' l=A++B/\∀ y ∈ A,y ∈ l/\y.2 < i/\L y.2=false:=by
 intro l
 induction l with
 | nil=>intro _ h;simp at h
 | cons z l ih =>
   intro hp hm
   obtain⟨z,k⟩:=z
   simp only[List.pairwise_cons] at hp
   have tail:i < k->left L l=left L' l->False\/True:=fun _ _=>.inr trivial
   rcases List.mem_cons.1 hm with he|hm
   ·cases he
    have hsame:left L l=left L' l:=by
     unfold left
     refine List.filter_congr fun p hp'=>?_
     rw[hL]
     have:=hp.1 p hp'
     have:decide (p.2=i)=false:=by simp;omega
     rw[this,Bool.or_false]
    refine⟨[],left L l,?_,?_,by simp⟩
    ·simp[left,hi]
    ·rw[hsame];simp[left,hL]
   ·obtain⟨A,B,h1,h2,h3⟩:=ih hp.2 hm
    have hk:k < i:=hp.1 _ hm
    have hk':L' k=L k:=by
     rw[hL]
     have:decide (k=i)=false:=by simp;omega
     rw[this,Bool.or_false]
    cases hlk:L k with
    | true =>
      rw[hlk] at hk'
      refine⟨A,B,?_,?_,fun y hy=>⟨List.mem_cons_of_mem _ (h3 y hy).1,(h3 y hy).2⟩⟩
      ·rw[<-h1];simp[left,hlk]
      ·rw[<-h2];simp[left,hk']
    | false =>
      rw[hlk] at hk'
      refine⟨(z,k)::A,B,?_,?_,fun y hy=>?_⟩
      ·rw[List.cons_append,<-h1];simp[left,hlk]
      ·rw[List.cons_append,<-h2];simp[left,hk']
      ·rcases List.mem_cons.1 hy with rfl|hy
       ·exact⟨by simp,hk,hlk⟩
       ·exact⟨List.mem_cons_of_mem _ (h3 y hy).1,(h3 y hy).2⟩
theorem zS (l:List XOp):∀ k,(l.zipIdx k).Pairwise (fun y z=>y.2 < z.2):=by
 induction l with
 | nil=>intro k;simp
 | cons x l ih =>
   intro k
   rw[List.zipIdx_cons,List.pairwise_cons]
   refine⟨fun z hz=>?_,ih (k+1)⟩
   have:=(List.mem_zipIdx hz).1
   show k < z.2
   omega
theorem Kq {l:List (XOp × Nat)} (h:l.Pairwise (fun y z=>y.2 < z.2)):l.Pairwise (fun y z=>y.2≠z.2):=h.imp (fun h=>by omega)
def pI (Γ:FuncId->Option Spec) (tl:List XOp) (K:St->Prop) (σ:St):Prop:=∃ σ',Eqv σ' σ/\cn Γ 0 tl σ' K
theorem Kr (G:GOK P Γ) {E:Exit->Act->World->Prop} {K:St->Prop} (hK:∀ σ' a' w' M',K σ'->Sim X n B w0 σ' a' w' M'->E .normal a' w') {xs:List XOp} {npre:Nat} {prs:List (List Nat)} (hok:ct P n ops ops.toList xs=true)
 (hdr:pH ops xs npre prs=true) :
 ∀ (fuel:Nat) (listed:Array Bool) (p:dL) (σ:St) (a:Act) (w:World) (M:Gh),listed.size=ops.size->fQ ops (Lst listed)->(∀ i,i < ops.size->Lst listed i=true->i < npre)->cnt listed<=fuel ->
  (∀ i,Lst listed i=false->p i=none)->Sim X n B w0 σ a w M->dM Γ prs p (left (Lst listed) (xs.take npre).zipIdx) σ (pI Γ (xs.drop npre) K)->wpAny P .any ops E fuel listed a w:=by
 have hlen:ops.size=xs.length:=by simpa using sW hok
 simp only[pH,Bool.and_eq_true,decide_eq_true_eq] at hdr
 obtain⟨⟨⟨⟨hn,hed⟩,htl⟩,hlt⟩,hpr⟩:=hdr
 have hEK:∀ σ σ',Eqv σ σ'->pI Γ (xs.drop npre) K σ->pI Γ (xs.drop npre) K σ':=fun σ σ' he ⟨τ,h1,h2⟩=>⟨τ,h1.trans he,h2⟩
 have fin:∀ (fuel:Nat) (listed:Array Bool) (p:dL) (σ:St) (a:Act) (w:World) (M:Gh),listed.size=ops.size->fQ ops (Lst listed)->(∀ i,i < ops.size->Lst listed i=true->i < npre)->cnt listed<=fuel->(∀ i,i < npre->Lst listed i=true) ->
  Sim X n B w0 σ a w M->dM Γ prs p (left (Lst listed) (xs.take npre).zipIdx) σ (pI Γ (xs.drop npre) K)->wpAny P .any ops E fuel listed a w:=by
  intro fuel listed p σ a w M hsz hcl hpre hc hall hs hr
  have hnil:left (Lst listed) (xs.take npre).zipIdx=[]:=by
   unfold left
   rw[List.filter_eq_nil_iff]
   intro z hz
   have h1:=(List.mem_zipIdx hz).2.1
   rw[List.length_take] at h1
   simp[hall z.2 (by omega)]
  rw[hnil] at hr
  obtain⟨τ,h1,h2⟩:=hr
  refine sX G hK hok hed htl fuel npre listed τ a w M (Nat.le_refl _) (by omega) hsz (fun i hi=>?_) hcl hc (hs.eqv h1) h2
  by_cases h:i < npre
  ·rw[hall i h];simp[h]
  ·cases hl:Lst listed i with
   | false=>simp[h]
   | true=>exact absurd (hpre i hi hl) h
 intro fuel
 induction fuel with
 | zero =>
   intro listed p σ a w M hsz hcl hpre hc hp hs hr
   exact fin 0 listed p σ a w M hsz hcl hpre hc (fun i hi=>sO (by omega) (by omega)) hs hr
 | succ fuel ih =>
   intro listed p σ a w M hsz hcl hpre hc hp hs hr
   by_cases hall:∀ i,i < npre->Lst listed i=true
   ·exact fin (fuel+1) listed p σ a w M hsz hcl hpre hc hall hs hr
   ·refine⟨fun hnil=>?_,fun i hi=>?_⟩
    ·simp only[Classical.not_forall] at hall
     obtain⟨i,hi,hl⟩:=hall
     obtain⟨r,hr⟩:=sQ hed hsz i (by omega) (by simpa using hl)
     rw[hnil] at hr;simp at hr
    ·obtain⟨h1,h2,o,ho,he⟩:=(nI hsz).1 hi
     by_cases hin:npre<=i
     ·exact absurd (fun j hj=>sR htl hcl ho (by omega) hin he j (by omega)) hall
     ·obtain⟨x,hx,hop⟩:=sV hok (by simpa using ho)
      have hxt:(xs.take npre)[i]?=some x:=by rw[List.getElem?_take,if_pos (by omega)];exact hx
      have hxm:(x,i) ∈ (xs.take npre).zipIdx:=List.mem_zipIdx_iff_getElem?.2 hxt
      obtain⟨A,C,hA1,hA2,hA3⟩:=Kp (L':=Lst (listed.setIfInBounds i true)) (fun j=>fh (by omega)) h2 (zS _ 0) hxm
      rw[hA1] at hr
      have hcm:=Kl hEK (fun y hy=>by
       obtain⟨b1,b2,b3⟩:=hA3 y hy
       rw[List.all_eq_true] at hpr
       have c1:=hpr _ hxm
       rw[List.all_eq_true] at c1
       have c2:=c1 y b1
       simp only[Bool.or_eq_true,decide_eq_true_eq] at c2
       have c3:=c2.resolve_left (by omega)
       simp only[zR,Bool.or_eq_true,List.contains_iff_mem] at c3
       have c4:y.2 ∉ (dl ops.toList []).getD i []:=fun hm=>by
        have:=sT hcl ho he hm
        rw[b3] at this;cases this
       have c5:=c3.resolve_left c4
       simp only[Bool.and_eq_true,Bool.or_eq_true,List.contains_iff_mem] at c5
       exact⟨hp _ b3,by omega,Kn c5.1,c5.2,fun hm=>by have:=Ko hlt _ hm;omega⟩) (by
        have hq:(left (Lst listed) (xs.take npre).zipIdx).Pairwise (fun y z=>y.2 < z.2):=(zS _ 0).filter _
        rw[hA1,List.pairwise_append] at hq
        exact Kq hq.1) hr
      obtain⟨k,hst⟩:=Km hcm.2
      unfold wpOp
      rw[ho]
      have key:=sL (K:=wpAny P .any ops E fuel (listed.setIfInBounds i true)) (E:=E) G hop hs hst (fun σ1 a' w' M' ⟨u,⟨_,_,hu⟩,hσ⟩ hs'=>by
       subst hσ
       rw[<-hA2] at hu
       refine ih (listed.setIfInBounds i true) _ _ a' w' M' (by simpa using hsz) (sU hcl (by omega) ho he) (fun j hj hl=>?_) (by have:=sP (listed:=listed) (i:=i) (by omega) h2;omega) (fun j hj=>?_) hs' hu
       ·rw[fh (by omega)] at hl
        simp only[Bool.or_eq_true,decide_eq_true_eq] at hl
        rcases hl with hl|rfl
        ·exact hpre j hj hl
        ·omega
       ·rw[fh (by omega)] at hj
        simp only[Bool.or_eq_false_iff,decide_eq_false_iff_not] at hj
        unfold cq
        rw[if_neg hj.2]
        exact hp j hj.1)
      simp only
      split
      ·rename_i hw;rw[if_pos hw] at key;exact .inl key
      ·rename_i hw;rw[if_neg hw] at key;exact key
theorem Ks (hm:P.follows .mixedOrders=true) (G:GOK P Γ) {E:Exit->Act->World->Prop} {K:St->Prop} (hK:∀ σ' a' w' M',K σ'->Sim X n B w0 σ' a' w' M'->E .normal a' w') {xs:List XOp} {npre:Nat} {prs:List (List Nat)} (hok:ct P n ops ops.toList xs=true)
 (hdr:pH ops xs npre prs=true) (hs:Sim X n B w0 σ a w M) (hr:dM Γ prs (fun _=>none) (xs.take npre).zipIdx σ (cn Γ 0 (xs.drop npre) · K)) {id:Nat}:(Code.region id ops true).wp P E a w:=by
 have hL:∀ i,Lst (Array.replicate ops.size false) i=false:=fun i=>by
  simp only[Lst,Array.getD_eq_getD_getElem?,Array.getElem?_replicate]
  split <;> rfl
 refine wp_region_any hm (Kr G hK hok hdr ops.size _ (fun _=>none) σ a _ M (by simp) (fun i o _ hl=>?_) (fun i _ hl=>?_) ?_ (fun _ _=>rfl) hs.drew ?_)
 ·rw[hL] at hl;cases hl
 ·rw[hL] at hl;cases hl
 ·refine Nat.le_trans (List.countP_le_length ..) (by simp)
 ·have:left (Lst (Array.replicate ops.size false)) (xs.take npre).zipIdx=(xs.take npre).zipIdx:=by
   unfold left
   rw[List.filter_eq_self]
   intro z _
   rw[hL];rfl
  rw[this]
  exact zL (fun σ h=>⟨σ,Eqv.refl σ,h⟩) hr
end
end Go.Proofs.Pw
namespace Go.Proofs.Pw
open Go.RowKit
variable [Globs]
def gQ (Γ:FuncId->Option Spec) (prs:List (List Nat)):Nat->dL->List XOp->St->(St->Prop)->Prop
 | _,_,[],σ,K=>K σ
 | i,p,x::rest,σ,K=>one Γ σ x (fun r σ'=>eI p (prs.getD i []) r/\gQ Γ prs (i+1) (cq p i r) rest σ' K)
theorem zU {Γ:FuncId->Option Spec} {prs:List (List Nat)} {K:St->Prop}:∀ {xs:List XOp} {i:Nat} {p:dL} {σ:St},gQ Γ prs i p xs σ K=dM Γ prs p (xs.zipIdx i) σ K:=by
 intro xs
 induction xs with
 | nil=>intro i p σ;rfl
 | cons x xs ih =>
   intro i p σ
   rw[List.zipIdx_cons]
   simp only[gQ,dM,ih]
inductive X where
 | skip
 | bad
 | ret
 | exit (id:Nat)
 | seq (a b:X)
 | cond (c:XO) (a b:X)
 | block (id:Nat) (b:X)
 | loop (b:X)
 | reg (ops:List XOp) (dr:Option Nat) (live:List Nat)
 | mix (hd tl:List XOp) (prs:List (List Nat)) (live:List Nat)
 | gh (x:X)
def St.keep (σ:St) (live:List Nat):St:={ σ with tm:=live.map fun t=>(t,get (.q .no) t σ.tm) }
inductive Ex where
 | normal
 | exit (id:Nat)
 | ret
def Le (σ σ':St):Prop:=∀ X n B w0 a w M,Sim X n B w0 σ a w M->∃ M',Sim X n B w0 σ' a w M'
def LeS (σ:St) (T:St->Prop):Prop:=∀ X n B w0 a w M,Sim X n B w0 σ a w M->∃ σ' M',T σ'/\Sim X n B w0 σ' a w M'
def pwL (F:(Ex->St->Prop)->St->Prop) (Q:Ex->St->Prop) (σ:St):Prop:=∃ I:Nat->St->Prop,(∃ n σ',Le σ σ'/\I n σ') /\
 ∀ n σ,I n σ->F (fun e σ'=>match e with|.normal=>∃ m σ'',m < n/\Le σ' σ''/\I m σ''|.exit i=>Q (.exit i) σ'|.ret=>Q .ret σ') σ
def nP (N:St->Prop) (Q:Ex->St->Prop):Ex->St->Prop
 | .normal,σ=>N σ
 | e,σ=>Q e σ
def jU (id:Nat) (Q:Ex->St->Prop):Ex->St->Prop
 | .exit i,σ=>if i=id then Q .normal σ else Q (.exit i) σ
 | e,σ=>Q e σ
def pw (Γ:FuncId->Option Spec):X->(Ex->St->Prop)->St->Prop
 | .skip,Q,σ=>Q .normal σ
 | .bad,_,_=>False
 | .ret,Q,σ=>Q .ret σ
 | .exit id,Q,σ=>Q (.exit id) σ
 | .seq a b,Q,σ=>pw Γ a (nP (pw Γ b Q) Q) σ
 | .cond c a b,Q,σ=>match σ.v c with
   | (g,.q (.c (.bool t)))=>g=true/\(t=true->pw Γ a Q σ)/\(t=false->pw Γ b Q σ)
   | (g,.q (.nt t))=>g=true/\(t=true->pw Γ a Q σ)/\pw Γ b Q σ
   | _=>False
 | .block id b,Q,σ=>pw Γ b (jU id Q) σ
 | .loop b,Q,σ=>pwL (pw Γ b) Q σ
 | .reg ops dr live,Q,σ=>cn Γ (dr.getD 0) ops σ (fun σ'=>Q .normal (σ'.keep live))
 | .mix hd tl prs live,Q,σ=>gQ Γ prs 0 (fun _=>none) hd σ (fun σ'=>cn Γ 0 tl σ' (fun σ''=>Q .normal (σ''.keep live)))
 | .gh x,Q,σ=>∃ T:St->Prop,LeS σ T/\∀ σ',T σ'->pw Γ x Q σ'
end Go.Proofs.Pw
namespace Go.Proofs.Pw
open Go.RowKit
variable [Globs]
section
variable {P:Program} {Γ:FuncId->Option Spec} {σ σ':St} {a:Act} {w w':World} {M M':Gh} {X₀:Nat->Prop} {B n:Nat} {w0:W0} {ops:Array Oper}
def al (P:Program) (n:Nat):Code->X->Bool
 | _,.bad=>true
 | c,.gh x=>al P n c x
 | .skip,.skip=>true
 | .ret,.ret=>true
 | .exit i,.exit j=>i == j
 | .seq a b,.seq x y=>al P n a x && al P n b y
 | .cond c a b,.cond y x x'=>okO c y && al P n a x && al P n b x'
 | .block i c,.block j x=>i == j && al P n c x
 | .loop c,.loop x=>al P n c x
 | .region _ ops draw,.reg xs dr _=>ct P n ops ops.toList xs && (match draw,dr with
   | false,none=>true
   | true,some npre=>nH ops xs npre && P.follows .mixedOrders
   | _,_=>false)
 | .region _ ops draw,.mix hd tl prs _=>ct P n ops ops.toList (hd++tl) && (draw && pH ops (hd++tl) hd.length prs && P.follows .mixedOrders)
 | _,_=>false
theorem Sim.keep (hs:Sim X₀ n B w0 σ a w M) (live:List Nat):Sim X₀ n B w0 (σ.keep live) a w M :=
 ⟨hs.size,hs.defs,fun t p h=>by
  simp only[St.keep,List.mem_map,Prod.mk.injEq] at h
  obtain⟨t',_,rfl,rfl⟩:=h
  exact gJ hs.tm _,hs.mem,hs.fr,hs.hB,hs.sS,hs.sβ,hs.sρ⟩
def post (Q:Ex->St->Prop) (X₀:Nat->Prop) (n B:Nat) (w0:W0):Exit->Act->World->Prop
 | .normal,a,w=>∃ σ M,Q .normal σ/\Sim X₀ n B w0 σ a w M
 | .exit i,a,w=>∃ σ M,Q (.exit i) σ/\Sim X₀ n B w0 σ a w M
 | .ret,a,w=>∃ σ M,Q .ret σ/\Sim X₀ n B w0 σ a w M
 | _,_,_=>False
theorem Kt (G:GOK P Γ):∀ (x:X) {c:Code} {Q:Ex->St->Prop} {σ:St} {a:Act} {w:World} {M:Gh},al P n c x=true->pw Γ x Q σ->Sim X₀ n B w0 σ a w M->c.wp P (post Q X₀ n B w0) a w:=by
 intro x
 induction x with
 | bad=>intro c Q σ a w M _ hp;exact hp.elim
 | skip =>
   intro c Q σ a w M hc hp hs
   cases c <;> simp[al] at hc
   exact wp_skip ⟨σ,M,hp,hs⟩
 | ret =>
   intro c Q σ a w M hc hp hs
   cases c <;> simp[al] at hc
   exact wp_ret ⟨σ,M,hp,hs⟩
 | exit id =>
   intro c Q σ a w M hc hp hs
   cases c <;> simp[al] at hc
   subst hc
   exact wp_exit ⟨σ,M,hp,hs⟩
 | seq x y ihx ihy =>
   intro c Q σ a w M hc hp hs
   cases c <;> simp[al] at hc
   obtain⟨h1,h2⟩:=hc
   refine wp_seq (wp_mono (ihx h1 hp hs) ?_)
   intro e a' w' h
   cases e with
   | normal=>obtain⟨σ',M',hq,hs'⟩:=h;exact ihy h2 hq hs'
   | exit i=>exact h
   | ret=>exact h
   | goto l=>exact h.elim
   | panic ch=>exact h.elim
   | outgrown=>exact h.elim
 | cond y x x' ihx ihy =>
   intro c Q σ a w M hc hp hs
   cases c <;> simp[al] at hc
   obtain⟨⟨h0,h1⟩,h2⟩:=hc
   simp only[pw] at hp
   split at hp
   ·rename_i g t e1
    obtain⟨hg,ht,hf⟩:=hp
    have:=aC hs.tm h0 (by rw[e1];exact hg)
    rw[e1] at this
    exact wp_cond_split (gK this) (fun h=>ihx h1 (ht h) hs) (fun h=>ihy h2 (hf h) hs)
   ·rename_i g t e1
    obtain⟨hg,ht,hf⟩:=hp
    have:=aC hs.tm h0 (by rw[e1];exact hg)
    rw[e1] at this
    obtain⟨b,hb,hbt⟩:=this
    exact wp_cond_split hb (fun h=>ihx h1 (ht (hbt h)) hs) (fun _=>ihy h2 hf hs)
   ·exact hp.elim
 | block id x ih =>
   intro c Q σ a w M hc hp hs
   cases c <;> simp[al] at hc
   obtain⟨rfl,h1⟩:=hc
   refine wp_block (wp_mono (ih h1 hp hs) ?_)
   intro e a' w' h
   cases e with
   | normal=>exact h
   | exit i =>
     obtain⟨σ',M',hq,hs'⟩:=h
     simp only[Exit.inBlock]
     simp only[jU] at hq
     split
     ·rename_i hi;rw[if_pos hi] at hq;exact⟨σ',M',hq,hs'⟩
     ·rename_i hi;rw[if_neg hi] at hq;exact⟨σ',M',hq,hs'⟩
   | ret=>exact h
   | goto l=>exact h.elim
   | panic ch=>exact h.elim
   | outgrown=>exact h.elim
 | loop x ih =>
   intro c Q σ a w M hc hp hs
   cases c <;> simp[al] at hc
   obtain⟨I,⟨k,σ',hle,hI⟩,hr⟩:=hp
   obtain⟨M1,h1⟩:=hle _ _ _ _ _ _ _ hs
   refine wp_loop_ghost (fun k a w=>∃ σ M,I k σ/\Sim X₀ n B w0 σ a w M) k ⟨σ',M1,hI,h1⟩ ?_
   rintro k a w ⟨σ,M,hI,hs⟩
   refine wp_mono (ih hc (hr k σ hI) hs) ?_
   intro e a' w' h
   cases e with
   | normal =>
     obtain⟨σ1,M1,⟨m,σ2,hlt,hle,hI⟩,hs1⟩:=h
     obtain⟨M2,hs2⟩:=hle _ _ _ _ _ _ _ hs1
     exact⟨m,hlt,σ2,M2,hI,hs2⟩
   | exit i=>exact h
   | ret=>exact h
   | goto l=>exact h.elim
   | panic ch=>exact h.elim
   | outgrown=>exact h.elim
 | reg xs dr live =>
   intro c Q σ a w M hc hp hs
   cases c with
   | region id ops draw =>
     simp only[al,Bool.and_eq_true] at hc
     obtain⟨h1,h2⟩:=hc
     have hK:∀ σ' a' w' M',Q .normal (σ'.keep live)->Sim X₀ n B w0 σ' a' w' M'->post Q X₀ n B w0 .normal a' w':=fun σ' a' w' M' h hs=>⟨_,M',h,hs.keep live⟩
     split at h2
     ·exact wp_region_list (Jw G hK h1 hs hp)
     ·rename_i npre
      simp only[Bool.and_eq_true] at h2
      exact JM h2.2 G hK h1 h2.1 hs hp
     ·cases h2
   | _=>simp[al] at hc
 | mix hd tl prs live =>
   intro c Q σ a w M hc hp hs
   cases c with
   | region id ops draw =>
     simp only[al,Bool.and_eq_true] at hc
     obtain⟨h1,⟨rfl,h2⟩,h3⟩:=hc
     have hK:∀ σ' a' w' M',Q .normal (σ'.keep live)->Sim X₀ n B w0 σ' a' w' M'->post Q X₀ n B w0 .normal a' w':=fun σ' a' w' M' h hs=>⟨_,M',h,hs.keep live⟩
     have hp':gQ Γ prs 0 (fun _=>none) hd σ (fun σ'=>cn Γ 0 tl σ' (fun σ''=>Q .normal (σ''.keep live))):=hp
     rw[zU] at hp'
     refine Ks h3 G hK h1 h2 hs ?_
     rw[List.take_left,List.drop_left]
     exact hp'
   | _=>simp[al] at hc
 | gh x ih =>
   intro c Q σ a w M hc hp hs
   obtain⟨T,hT,hx⟩:=hp
   obtain⟨σ',M',hσ,hs'⟩:=hT _ _ _ _ _ _ _ hs
   have hc':al P n c x=true:=by cases c <;> simpa [al] using hc
   exact ih hc' (hx σ' hσ) hs'
inductive RX where
 | tmp (t:Nat)
 | cell (t:Nat) (ag:Option Nat)
def am (P:Program):List ResultVar->List RX->Bool
 | [],[]=>true
 | .tmp t::rs,.tmp t'::xs=>t == t' && am P rs xs
 | .cell t ty::rs,.cell t' ag::xs=>t == t' && cF P ty ag && am P rs xs
 | _,_=>false
def iI (σ:St):RX->Option (Prop × PV)
 | .tmp t=>some ((σ.v (.t t)).1=true,(σ.v (.t t)).2)
 | .cell t ag=>match σ.v (.t t) with
   | (g,.q (.box i 0))=>(get? i σ.bx).map fun qs=>(g=true/\(eZ qs 0 ag).1,(eZ qs 0 ag).2)
   | _=>none
def lA (σ:St):List RX->Option (Prop × List AV)
 | []=>some (True,[])
 | r::rs=>match iI σ r,lA σ rs with
   | some (vc,p),some (vc',ds)=>p.toD.map fun d=>(vc/\vc',.d d::ds)
   | _,_=>none
def iJ (σ:St):List RX->List Nat
 | []=>[]
 | r::rs=>(match iI σ r with|some (_,p)=>p.owns|none=>[])++iJ σ rs
def cY (σ:St):Nat->List AV->List Nat
 | _,[]=>[]
 | k,.ref _::as=>((get? k σ.bx).getD []).flatMap iw++cY σ (k+1) as
 | k,_::as=>cY σ (k+1) as
def cv (σ:St):Nat->List AV->Option (List AV)
 | _,[]=>some []
 | k,.ref _::as=>match (get? k σ.bx).bind cC,cv σ (k+1) as with
   | some cs,some os=>some (.ref cs::os)
   | _,_=>none
 | k,.own _ _::as=>match get? (k+aS) σ.rw with
   | some (sz,es)=>(cv σ (k+1) as).map fun os=>.own sz es::os
   | none=>(cv σ (k+1) as).map fun os=>.gone::os
 | k,_::as=>(cv σ (k+1) as).map fun os=>.gone::os
def bp:Nat->Nat->List AV->St
 | _,_,[]=>⟨[],[],[]⟩
 | i,k,.d x::as=>{ bp (i+1) (k+1) as with tm:=(i,x.toP)::(bp (i+1) (k+1) as).tm }
 | i,k,.ref cs::as=>{ bp (i+1) (k+1) as with tm:=(i,.q (.box k 0))::(bp (i+1) (k+1) as).tm,bx:=(k,cs.map .c)::(bp (i+1) (k+1) as).bx }
 | i,k,.own sz es::as=>{ bp (i+1) (k+1) as with tm:=(i,.q (.own (k+aS)))::(bp (i+1) (k+1) as).tm,rw:=(k+aS,sz,es)::(bp (i+1) (k+1) as).rw }
 | i,k,.gone::as=>bp (i+1) (k+1) as
 | i,k,.ag _::as=>bp (i+1) (k+1) as
def agI:List Pt->List Q->List Nat
 | .o _ _::ps,.own i::qs=>i::agI ps qs
 | _::ps,_::qs=>agI ps qs
 | _,_=>[]
def fS:AV->PV->List Nat
 | .own _ _,.q (.own i)=>[i]
 | .ag ps,.agg qs=>agI ps qs
 | _,_=>[]
def nQ (σ:St) (r:RX) (x:AV):List Nat:=match iI σ r with
 | some (_,p)=>fS x p
 | none=>[]
def fj (σ:St):List RX->List AV->List Nat
 | r::rs,x::as=>nQ σ r x++fj σ rs as
 | _,_=>[]
def jV (σ:St):List Pt->List Q->Prop
 | [],[]=>True
 | .c x::ps,q::qs=>q.toC=some x/\jV σ ps qs
 | .o sz es::ps,.own i::qs=>get? i σ.rw=some (sz,es)/\jV σ ps qs
 | .o sz es::ps,.z sz'::qs=>(sz'=sz/\0 < sz/\es=[])/\jV σ ps qs
 | _,_=>False
def pJ (σ:St) (x:AV) (p:PV):Prop:=match x with
 | .d x=>p.toD=some x
 | .own sz es=>match p with
   | .q (.own i)=>get? i σ.rw=some (sz,es)
   | .q (.z sz')=>sz'=sz/\0 < sz/\es=[]
   | _=>False
 | .ag ps=>match p with
   | .agg qs=>jV σ ps qs
   | _=>False
 | _=>False
def gOk (σ:St):List RX->List AV->Prop
 | [],[]=>True
 | r::rs,x::as=>(match iI σ r with|some (vc,p)=>vc/\pJ σ x p|none=>False)/\gOk σ rs as
 | _,_=>False
def pK (l:List Nat) (r:List (Nat × Nat × List (List C))):List (Nat × Nat × List (List C)):=l.foldl (fun r i=>del i r) r
def St.delO (i:Nat) (σ:St):St:={ σ with rw:=del i σ.rw }
def pL (l is:List Nat):List Nat:=is.filter fun i=>!l.contains i
def zV (n:Nat) (sp:Spec) (args ds:List AV) (rs:List RX) (σ σ':St):Prop:=bt (fj σ' rs ds)=true/\gOk σ' rs ds/\cv { σ' with rw:=pK (fj σ' rs ds) σ'.rw } n args=some (sp.out args)
def fk (n:Nat) (sp:Spec) (args:List AV) (rs:List RX) (σ:St):Prop :=
 match sp.res args with
 | [.own sz es]=>match rs with
   | [.tmp t]=>match σ.v (.t t) with
     | (g,.q (.own i))=>g=true/\get? i σ.rw=some (sz,es)/\cv ((((cY σ n args).filter (fun j=>j != i)).foldl (fun σ i=>σ.pub i) σ).delO i) n args=some (sp.out args)
     | (g,.q (.z sz'))=>g=true/\sz'=sz/\0 < sz/\es=[]/\cv ((cY σ n args).foldl (fun σ i=>σ.pub i) σ) n args=some (sp.out args)
     | _=>False
   | _=>False
 | [.ref cs]=>match rs with
   | [.tmp t]=>match σ.v (.t t) with
     | (g,.q (.box i 0))=>g=true/\(get? i σ.bx).bind cC=some cs/\cv (((cY { σ with bx:=del i σ.bx } n args).foldl (fun σ i=>σ.pub i) { σ with bx:=del i σ.bx })) n args=some (sp.out args)
     | _=>False
   | _=>False
 | ds=>match bI ds with
   | some _=>match lA ((iJ σ rs++cY σ n args).foldl (fun σ i=>σ.pub i) σ) rs with
     | some (vc,ds')=>vc/\ds=ds'/\cv ((iJ σ rs++cY σ n args).foldl (fun σ i=>σ.pub i) σ) n args=some (sp.out args)
     | none=>False
   | none=>zV n sp args ds rs σ ((pL (fj σ rs ds) (iJ σ rs++cY σ n args)).foldl (fun σ i=>σ.pub i) σ)
end
end Go.Proofs.Pw
namespace Go.Proofs.Pw
open Go.RowKit
variable [Globs]
section
variable {P:Program} {Γ:FuncId->Option Spec} {σ σ':St} {a:Act} {w w':World} {M M':Gh} {n:Nat}
theorem All3.at {α β γ:Type} {R:α->β->γ->Prop} {xs:List α} {ys:List β} {zs:List γ} (h:All3 R xs ys zs):∀ {j:Nat} {x:α},xs[j]?=some x->∃ y z,ys[j]?=some y/\zs[j]?=some z/\R x y z:=by
 induction h with
 | nil=>intro j x hx;simp at hx
 | cons h _ ih =>
   intro j x hx
   cases j with
   | zero=>simp at hx;subst hx;exact⟨_,_,rfl,rfl,h⟩
   | succ j=>simpa using ih (by simpa using hx)
theorem All3.len {α β γ:Type} {R:α->β->γ->Prop} {xs:List α} {ys:List β} {zs:List γ} (h:All3 R xs ys zs):ys.length=xs.length:=by
 induction h with
 | nil=>rfl
 | cons _ _ ih=>simp[ih]
theorem Apart.two {S:Nat->Prop} {ps:List (Nat->Prop)} (h:Apart S ps):∀ {i j:Nat} {p q:Nat->Prop} {g:Nat},ps[i]?=some p->ps[j]?=some q->i≠j->p g->¬ q g:=by
 induction ps with
 | nil=>intro i j p q g hp;simp at hp
 | cons r ps ih =>
   intro i j p q g hp hq hne hg hg'
   cases i with
   | zero =>
     cases j with
     | zero=>exact hne rfl
     | succ j =>
       simp at hp hq;subst hp
       exact h.2.1 g hg q (List.mem_of_getElem? hq) hg'
   | succ i =>
     cases j with
     | zero =>
       simp at hp hq;subst hq
       exact h.2.1 g hg' p (List.mem_of_getElem? hp) hg
     | succ j=>exact ih h.2.2 (by simpa using hp) (by simpa using hq) (by omega) hg hg'
def nR (k:Nat):AV->PV->Prop
 | .d d,p=>p=d.toP
 | .ref _,p=>p=.q (.box k 0)
 | .own _ _,p=>p=.q (.own (k+aS))
 | .gone,_=>False
 | .ag _,_=>False
theorem Ku {t:Nat} {p:PV}:∀ {args:List AV} {i k:Nat},(t,p) ∈ (bp i k args).tm->∃ j x,t=i+j/\args[j]?=some x/\nR (k+j) x p:=by
 intro args
 induction args with
 | nil=>intro i k h;simp[bp] at h
 | cons y args ih =>
   intro i k h
   have rest:(t,p) ∈ (bp (i+1) (k+1) args).tm->∃ j x,t=i+j/\(y::args)[j]?=some x/\nR (k+j) x p:=fun h=>by
    obtain⟨j,x,h1,h2,h3⟩:=ih h
    exact⟨j+1,x,by omega,by simpa using h2,by rw[show k+(j+1)=k+1+j by omega];exact h3⟩
   cases y with
   | d x =>
     simp only[bp,List.mem_cons,Prod.mk.injEq] at h
     rcases h with ⟨rfl,rfl⟩|h
     ·exact⟨0,_,rfl,rfl,rfl⟩
     ·exact rest h
   | ref cs =>
     simp only[bp,List.mem_cons,Prod.mk.injEq] at h
     rcases h with ⟨rfl,rfl⟩|h
     ·exact⟨0,_,rfl,rfl,rfl⟩
     ·exact rest h
   | own sz es =>
     simp only[bp,List.mem_cons,Prod.mk.injEq] at h
     rcases h with ⟨rfl,rfl⟩|h
     ·exact⟨0,_,rfl,rfl,rfl⟩
     ·exact rest h
   | gone=>exact rest h
   | ag _=>exact rest h
theorem zW {t:Nat} {qs:List Q}:∀ {args:List AV} {i k:Nat},(t,qs) ∈ (bp i k args).bx->∃ j cs,t=k+j/\args[j]?=some (.ref cs)/\qs=cs.map .c:=by
 intro args
 induction args with
 | nil=>intro i k h;simp[bp] at h
 | cons y args ih =>
   intro i k h
   have rest:(t,qs) ∈ (bp (i+1) (k+1) args).bx->∃ j cs,t=k+j/\(y::args)[j]?=some (.ref cs)/\qs=cs.map .c:=fun h=>by
    obtain⟨j,x,h1,h2,h3⟩:=ih h
    exact⟨j+1,x,by omega,by simpa using h2,h3⟩
   cases y with
   | ref cs =>
     simp only[bp,List.mem_cons,Prod.mk.injEq] at h
     rcases h with ⟨rfl,rfl⟩|h
     ·exact⟨0,_,rfl,rfl,rfl⟩
     ·exact rest h
   | d x=>exact rest h
   | own sz es=>exact rest h
   | gone=>exact rest h
   | ag _=>exact rest h
theorem zX {t sz:Nat} {es:List (List C)}:∀ {args:List AV} {i k:Nat},(t,sz,es) ∈ (bp i k args).rw->∃ j,t=k+j+aS/\args[j]?=some (.own sz es):=by
 intro args
 induction args with
 | nil=>intro i k h;simp[bp] at h
 | cons y args ih =>
   intro i k h
   have rest:(t,sz,es) ∈ (bp (i+1) (k+1) args).rw->∃ j,t=k+j+aS/\(y::args)[j]?=some (.own sz es):=fun h=>by
    obtain⟨j,h1,h2⟩:=ih h
    exact⟨j+1,by omega,by simpa using h2⟩
   cases y with
   | own sz' es' =>
     simp only[bp,List.mem_cons,Prod.mk.injEq] at h
     rcases h with ⟨rfl,rfl,rfl⟩|h
     ·exact⟨0,rfl,rfl⟩
     ·exact rest h
   | d x=>exact rest h
   | ref cs=>exact rest h
   | gone=>exact rest h
   | ag _=>exact rest h
def nS:Value->Nat
 | .pointer (some a)=>a.block
 | _=>0
def Gh.init (n:Nat) (vs:List Value) (rs:Nat->RV) (S:Nat->Prop):Gh:={ β:=fun i=>nS (vs.getD (i-n) undef),ρ:=fun i=>rs (i-aS-n),S:=S }
def pM (w:World) (S:Nat->Prop) (args:List AV) (vs:List Value) (fps:List (Nat->Prop)) (rs:Nat->RV):Prop :=
 ∀ (j:Nat) sz es v fp,args[j]?=some (.own sz es)->vs[j]?=some v->fps[j]?=some fp->v=(rs j).v/\Priv w S sz es (rs j)/\∀ g,fp g ↔ ae (rs j) g
theorem Kv {args:List AV} {S:Nat->Prop} {vs:List Value} {fps:List (Nat->Prop)} (hA:All3 (RepA w S) args vs fps):∃ rs,pM w S args vs fps rs:=by
 induction hA with
 | nil=>exact⟨fun _=>RV.of undef,fun j sz es v fp h=>by simp at h⟩
 | @cons x v0 fp0 _ _ _ h _ ih =>
   obtain⟨rs,hr⟩:=ih
   have key:∃ r:RV,∀ sz es,x=.own sz es->v0=r.v/\Priv w S sz es r/\∀ g,fp0 g ↔ ae r g:=by
    cases x with
    | own sz es=>obtain⟨_,r,h1⟩:=h;exact⟨r,fun sz' es' e=>by cases e;exact h1⟩
    | _=>exact⟨RV.of undef,fun _ _ e=>by cases e⟩
   obtain⟨r,hk⟩:=key
   refine⟨fun j=>match j with|0=>r|j+1=>rs j,fun j sz es v fp h1 h2 h3=>?_⟩
   cases j with
   | zero=>simp at h1 h2 h3;subst h2 h3;exact hk sz es h1
   | succ j=>exact hr j sz es v fp (by simpa using h1) (by simpa using h2) (by simpa using h3)
theorem Kw {args:List AV} {S:Nat->Prop} {vs:List Value} {fps:List (Nat->Prop)} (hG:Gl w S) (hS:∀ g,S g->g < w.heap.size) (ha:Apart S fps) (hA:All3 (RepA w S) args vs fps) (hn:args.length<=n) {rs:Nat->RV} (hrs:pM w S args vs fps rs) :
 Sim (Any fps) n w.heap.size ⟨w,S,(Gh.init n vs rs S).β,(Gh.init n vs rs S).ρ⟩ (bp 0 n args) { tmps:=vs.toArray++Array.replicate (n-vs.toArray.size) undef,defers:=[] } w (Gh.init n vs rs S):=by
 have hlen:=hA.len
 have hv:∀ (j:Nat) v,vs[j]?=some v->vs.getD (n+j-n) undef=v:=fun j v h=>by
  rw[Nat.add_sub_cancel_left];simp[h]
 have box:∀ {t qs},(t,qs) ∈ (bp 0 n args).bx->∃ j cs fp,t=n+j/\qs=cs.map .c/\fps[j]?=some fp/\nk w S cs ((Gh.init n vs rs S).β t)/\fp ((Gh.init n vs rs S).β t):=fun {t qs} h=>by
  obtain⟨j,cs,rfl,h2,rfl⟩:=zW h
  obtain⟨v,fp,h3,h4,g,rfl,h6,h7⟩:=hA.at h2
  have hb:(Gh.init n vs rs S).β (n+j)=g:=by simp only[Gh.init];rw[hv j _ h3];rfl
  exact⟨j,cs,fp,rfl,rfl,h4,by rw[hb];exact h6,by rw[hb];exact (h7 g).2 rfl⟩
 have row:∀ {t sz es},(t,sz,es) ∈ (bp 0 n args).rw->∃ j fp,t=n+j+aS/\fps[j]?=some fp/\0 < sz/\Priv w S sz es ((Gh.init n vs rs S).ρ t)/\∀ g,fp g ↔ ae ((Gh.init n vs rs S).ρ t) g:=fun {t sz es} h=>by
  obtain⟨j,rfl,h2⟩:=zX h
  obtain⟨v,fp,h3,h4,h5,_⟩:=hA.at h2
  obtain⟨_,h6,h7⟩:=hrs j _ _ v fp h2 h3 h4
  have hb:(Gh.init n vs rs S).ρ (n+j+aS)=rs j:=by simp only[Gh.init];rw[Nat.add_sub_cancel,Nat.add_sub_cancel_left]
  exact⟨j,fp,rfl,h4,h5,by rw[hb];exact h6,by rw[hb];exact h7⟩
 have any:∀ {j:Nat} {fp g},fps[j]?=some fp->fp g->Any fps g:=fun h hg=>⟨_,List.mem_of_getElem? h,hg⟩
 refine⟨by simp;omega,rfl,fun t p h=>?_,⟨fun i qs h=>?_,fun i sz es h=>?_,fun i q i' q' h h' hne=>?_,fun i q i' r h h' hg=>?_,fun i r i' r' g h h' hne hg hg'=>?_,hS,fun i q h=>?_,fun i r g h hg=>?_,hG⟩,Fr.refl _ _ _,Nat.le_refl _,fun g h=>.inl h,fun _ _=>rfl,fun _ _ _=>rfl⟩
 ·obtain⟨j,x,rfl,h2,h3⟩:=Ku h
  obtain⟨v,fp,h4,h5,h6⟩:=hA.at h2
  have hj:j < vs.length:=(List.getElem?_eq_some_iff.1 h4).1
  have he:(vs.toArray++Array.replicate (n-vs.toArray.size) undef).getD (0+j) undef=v:=by
   rw[Nat.zero_add,Array.getD_eq_getD_getElem?,Array.getElem?_append_left (by simpa using hj)]
   simp[h4]
  show ak w _ p ((vs.toArray++Array.replicate (n-vs.toArray.size) undef).getD (0+j) undef)
  rw[he]
  cases x with
  | d d=>simp only[nR] at h3;subst h3;exact ss (M:=Gh.init n vs rs S) h6.1
  | ref cs =>
    simp only[nR] at h3;subst h3
    obtain⟨g,rfl,_⟩:=h6
    show _=_
    simp only[Gh.init];rw[hv j _ h4];rfl
  | own sz es =>
    simp only[nR] at h3;subst h3
    obtain⟨k1,k2,_⟩:=hrs j _ _ v fp h2 h4 h5
    refine⟨?_,by rw[k1];exact nE k2⟩
    simp only[Gh.init];rw[Nat.add_sub_cancel,Nat.add_sub_cancel_left];exact k1
  | gone=>exact h3.elim
  | ag _=>exact h3.elim
 ·obtain⟨j,cs,fp,rfl,rfl,h3,h4,h5⟩:=box h
  exact⟨.inr (any h3 h5),sI (M:=Gh.init n vs rs S) h4⟩
 ·obtain⟨j,fp,rfl,h2,h3,h4,h5⟩:=row h
  exact⟨h3,h4,fun g hg=>.inr (any h2 ((h5 g).2 hg))⟩
 ·obtain⟨j,cs,fp,rfl,rfl,h3,_,h5⟩:=box h
  obtain⟨j',cs',fp',rfl,rfl,h3',_,h5'⟩:=box h'
  exact fun e=>ha.two h3 h3' (by omega) h5 (e ▸ h5')
 ·obtain⟨j,cs,fp,rfl,rfl,h3,_,h5⟩:=box h
  obtain⟨sz,es⟩:=r
  obtain⟨j',fp',rfl,h2',_,_,h5'⟩:=row h'
  by_cases hj:j=j'
  ·subst hj
   obtain⟨j0,_,e1,e2,_⟩:=zW h
   obtain⟨j1,e3,e4⟩:=zX h'
   have e5:j0=j1:=by omega
   subst e5
   rw[e2] at e4;cases e4
  ·exact ha.two h3 h2' hj h5 ((h5' _).2 hg)
 ·obtain⟨sz,es⟩:=r
  obtain⟨sz',es'⟩:=r'
  obtain⟨j,fp,rfl,h2,_,_,h5⟩:=row h
  obtain⟨j',fp',rfl,h2',_,_,h5'⟩:=row h'
  exact ha.two h2 h2' (by omega) ((h5 _).2 hg) ((h5' _).2 hg')
 ·obtain⟨j,cs,fp,rfl,rfl,h3,_,h5⟩:=box h
  exact ha.notS (any h3 h5)
 ·obtain⟨sz,es⟩:=r
  obtain⟨j,fp,rfl,h2,_,_,h5⟩:=row h
  exact ha.notS (any h2 ((h5 _).2 hg))
end
end Go.Proofs.Pw
