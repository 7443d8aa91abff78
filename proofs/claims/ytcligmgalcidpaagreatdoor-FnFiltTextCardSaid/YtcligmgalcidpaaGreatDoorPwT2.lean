/- The small code is held against the loaded one: the operations. -/
import Derived.Test.YtcligmgalcidpaaGreatDoorPwT1
import Derived.Lib.SliceRun
set_option linter.unusedSimpArgs false
set_option linter.unusedVariables false
set_option linter.unusedSectionVars false
set_option maxRecDepth 20000
namespace Go.Proofs.Pw
open Go.RowKit
variable [Globs]
def okO:Operand->XO->Bool
 | .tmp n,.t m=>n == m
 | .const (.int k n),.k (.c (.int k' n'))=>decide (k=k') && decide (n=n')
 | .const (.bool b),.k (.c (.bool b'))=>b == b'
 | .const (.string s),.k (.c (.str s'))=>decide (s.data.toList=s'.data.toList)
 | .const (.slice none 0 0),.k (.z _)=>true
 | .const (.slice none 0 0),.k (.c (.zz _))=>true
 | .func f,.k (.c (.fn g))=>f == g
 | .const _,.k .no=>true
 | _,_=>false
def cF (P:Program) (t:TypeId):Option Nat->Bool
 | some n=>match P.underlying t,P.info? t with
   | some (.struct _),some i=>i.size == n
   | _,_=>false
 | none=>match P.underlying t,P.info? t with
   | some (.struct _),_=>false
   | some (.array ..),_=>false
   | some _,some i=>i.size == 1
   | _,_=>false
def oU:Option Operand->Option XO->Bool
 | none,none=>true
 | some o,some x=>okO o x
 | _,_=>false
section
variable {σ:St} {a:Act} {w:World} {M:Gh}
theorem xP {α:Type} {d:α} {t:Nat}:∀ {l:List (Nat × α)},(t,get d t l) ∈ l\/get d t l=d:=by
 intro l
 induction l with
 | nil=>exact .inr rfl
 | cons x r ih =>
   obtain⟨i,x⟩:=x
   simp only[get]
   split
   ·subst_vars;exact .inl (by simp)
   ·rcases ih with h|h
    ·exact .inl (List.mem_cons_of_mem _ h)
    ·exact .inr h
theorem get?_mem {α:Type} {t:Nat} {y:α}:∀ {l:List (Nat × α)},get? t l=some y->(t,y) ∈ l:=by
 intro l
 induction l with
 | nil=>intro h;simp[get?] at h
 | cons x r ih =>
   obtain⟨i,x⟩:=x
   intro h
   simp only[get?] at h
   split at h
   ·subst_vars;simp at h;subst h;simp
   ·exact List.mem_cons_of_mem _ (ih h)
theorem jC {p:PV} {v:Value} (h:ak w M p v):p.un.1=true->ak w M p.un.2 v:=by
 induction p with
 | q x=>exact fun _=>h
 | agg x=>exact fun _=>h
 | tup x=>exact fun _=>h
 | gd b p ih =>
   intro hb
   simp only[PV.un,Bool.and_eq_true] at hb
   exact ih (h.1 hb.1) hb.2
theorem HD {p:PV} {v:Value} (h:ak w M p v):p.un.1=false->v=undef:=by
 induction p with
 | q x=>intro h;cases h
 | agg x=>intro h;cases h
 | tup x=>intro h;cases h
 | gd b p ih =>
   intro hb
   cases b with
   | false=>exact h.2 rfl
   | true=>exact ih (h.1 rfl) (by simpa [PV.un] using hb)
theorem gJ (ht:∀ t p,(t,p) ∈ σ.tm->ak w M p (a.tmps.getD t undef)) (n:Nat):ak w M (get (.q .no) n σ.tm) (a.tmps.getD n undef):=by
 rcases xP (d:=PV.q .no) (t:=n) (l:=σ.tm) with h|h
 ·exact ht _ _ h
 ·rw[h];trivial
theorem aC (ht:∀ t p,(t,p) ∈ σ.tm->ak w M p (a.tmps.getD t undef)) {o:Operand} {x:XO} (h:okO o x=true) (hg:(σ.v x).1=true):ak w M (σ.v x).2 (a.eval o):=by
 unfold okO at h
 split at h
 ·rw[beq_iff_eq] at h;subst h
  exact jC (gJ ht _) hg
 ·simp only[Bool.and_eq_true,decide_eq_true_eq] at h
  obtain⟨rfl,rfl⟩:=h
  exact Rep.int _ _
 ·rw[beq_iff_eq] at h;subst h
  exact Rep.bool _
 ·rename_i s s'
  simp only[decide_eq_true_eq] at h
  have:s=s':=by
   cases s;cases s';rename_i x y;cases x;cases y;simp_all
  subst this
  exact Rep.str _
 ·exact⟨none,rfl⟩
 ·exact Rep.zz _ _
 ·rw[beq_iff_eq] at h;subst h
  exact Rep.fn _
 ·trivial
 ·cases h
end
end Go.Proofs.Pw
namespace Go.Proofs.Pw
variable [Globs]
open Go.RowKit
def sf (P:Program) (t:TypeId) (bl:Bool):Bool:=match bl,P.underlying t with
 | true,some .bool=>true
 | false,some (.int _)=>true
 | false,some .string=>true
 | _,_=>false
theorem HE {P:Program} {t:TypeId} (h:sf P t true=true):P.underlying t=some .bool:=by
 unfold sf at h
 split at h <;> simp_all
def xQ (P:Program) (c:Call) (y:XO) (s:Bool):Bool:=match c.callee,c.args.toList,c.argTypes.toList with
 | .builtin .len,[x],[t]=>okO x y && (match s,P.underlying t with
    | true,some .string=>true
    | false,some (.slice _)=>true
    | _,_=>false)
 | _,_,_=>false
def oV (P:Program) (c:Call) (y:XO):Bool:=match c.callee,c.args.toList,c.argTypes.toList with
 | .builtin .cap,[x],[t]=>okO x y && (match P.underlying t with|some (.slice _)=>true|_=>false)
 | _,_,_=>false
def okOv (P : Program) (fn : Func) : Bool := (Extern.allGenericRows.lookup fn.name).isNone && (Extern.allTypedRows.lookup fn.name).isNone && (Extern.allRows.lookup fn.name).isNone && (Extern.allGenericRows.lookup fn.origin).isNone && fn.origin == "slices.overlaps" &&
 (match fn.params[0]? with
 | some t=>(match P.underlying t with
   | some (.slice e)=>(P.info? e).isSome
   | _=>false)
 | none=>false)
def xR (P:Program) (c:Call) (x y:XO):Bool:=match c.callee,c.args.toList with
 | .value (.func f),[x',y']=>okO x' x && okO y' y && (match P.funcs[f]? with
   | some fn => fn.name != "runtime.NumGoroutine" && fn.body.isNone && (Extern.findNext fn).isNone && okOv P fn
   | none=>false)
 | _,_=>false
def xT (c:Call) (mx:Bool) (x y:XO):Bool:=match c.callee,c.args.toList with
 | .builtin b,[u,v]=>(match mx,b with|true,.max=>true|false,.min=>true|_,_=>false) && okO u x && okO v y
 | _,_=>false
def oW (P:Program):Op->XK->Bool
 | .move x,.mv y=>okO x y
 | .assign x,.mv y=>okO x y
 | .pick c a b,.pick c' a' b'=>okO c c' && okO a a' && okO b b'
 | .binOp .eql t x (.const (.slice none 0 0)) _,.isn y=>okO x y && (match P.underlying t with|some (.slice _)=>true|_=>false)
 | .binOp op t x y _,.bin bl op' x' y'=>decide (op=op') && okO x x' && okO y y' && sf P t bl
 | .unOp .neg _ x,.bin false .sub (.k (.c (.int _ z))) y=>decide (z=0) && okO x y
 | .unOp .not _ x,.not y=>okO x y
 | .load t x,.load y ag=>okO x y && cF P t ag
 | .fieldAddr s x f,.fa y off=>okO x y && (match P.underlying s with
    | some (.struct fs)=>(match fs[f]? with
      | some fl=>fl.offset == off && (match P.info? fl.type with|some i=>i.size != 0|none=>false)
      | none=>false)
    | _=>false)
 | .indexAddr t x i,.ia y j sz=>okO x y && okO i j && (match P.underlying t with
    | some (.slice e)=>(match P.info? e with|some i=>i.size == sz && i.size != 0|none=>false)
    | _=>false)
 | .index t x i,.idx y j=>okO x y && okO i j && (match P.underlying t with|some .string=>true|_=>false)
 | .field t x f,.fld y off ag=>okO x y && (match P.underlying t with
    | some (.struct fs)=>(match fs[f]? with
      | some fl=>fl.offset == off && cF P fl.type ag
      | none=>false)
    | _=>false)
 | .extract x i,.ext y j=>okO x y && i == j
 | .call c,.len y s=>xQ P c y s
 | .call c,.cap y=>oV P c y
 | .call c,.capr y=>oV P c y
 | .call c,.ovl x y=>xR P c x y
 | .call c,.mm mx x y=>xT c mx x y
 | .slice t x lo hi none,.sub y lo' hi' sz=>okO x y && oU lo lo' && oU hi hi' && (match sz,P.underlying t with
    | 0,some .string=>true
    | _+1,some (.slice e)=>(match P.info? e with|some i=>i.size == sz|none=>false)
    | _,_=>false)
 | .slice t x (some lo) (some hi) (some mx),.sub3 y lo' hi' mx' sz=>okO x y && okO lo lo' && okO hi hi' && okO mx mx' && (match P.underlying t with
    | some (.slice e)=>(match P.info? e with|some i=>i.size == sz|none=>false)
    | _=>false)
 | .convert s d x,.conv k y=>okO x y && (match P.underlying s,P.underlying d with
    | some (.int _),some (.int k')=>decide (k=k')
    | _,_=>false)
 | .convert s d x,.bts y=>okO x y && (match P.underlying s,P.underlying d with
    | some (.slice e),some .string=>(match P.underlying e with|some (.int .u8)=>true|_=>false)
    | _,_=>false)
 | .nilCheck x,.nilc y=>okO x y
 | _,_=>false
section
variable {P:Program} {Γ:FuncId->Option Spec} {σ:St} {a:Act} {w:World} {M:Gh} {X:Nat->Prop} {B:Nat}
theorem cd {k:IntKind} {n:Int} {v:Value} (h:Rep w M.S (.int k n) v):v=.int k n:=by cases h;rfl
theorem gK {b:Bool} {v:Value} (h:Rep w M.S (.bool b) v):v=.bool b:=by cases h;rfl
theorem nv {s:ByteArray} {v:Value} (h:Rep w M.S (.str s) v):v=.string s:=by cases h;rfl
theorem xU {f:FuncId} {v:Value} (h:Rep w M.S (.fn f) v):v=.func (.func f) #[] #[]:=by cases h;rfl
theorem oX {sz:Nat} {es:List (List C)} {v:Value} (h:Rep w M.S (.row sz es) v):∃ A c,v=.slice A es.length c/\es.length<=c:=by
 cases h with
 | nil _ A c=>exact⟨A,c,rfl,Nat.zero_le _⟩
 | row _ _ A c u hc=>exact⟨some A,c,rfl,hc⟩
theorem iA {p:PV} {v:Value} {sz:Nat} {es:List (List C)} (h:ak w M p v) (hr:p.row=some (sz,es)):Rep w M.S (.row sz es) v:=by
 unfold PV.row at hr
 split at hr
 ·simp at hr;obtain⟨rfl,rfl⟩:=hr;exact h
 ·simp at hr;obtain⟨rfl,rfl⟩:=hr;exact h.1
 ·simp at hr;obtain⟨rfl,rfl⟩:=hr;obtain⟨A,rfl⟩:=h;exact .nil _ _ _
 ·cases hr
theorem xX (mem:Mem X B σ.bx σ.rw w M) {r sz:Nat} {es:List (List C)} (h:get? r σ.rw=some (sz,es)):∃ A c,(M.ρ r).v=.slice A es.length c:=by
 obtain⟨_,hp,_⟩:=mem.row r sz es (get?_mem h)
 rcases hp.1 with ⟨e,us,h1,_⟩|⟨rfl,A,h⟩
 ·rcases h1.2 with ⟨h2,h3⟩|⟨g,cap,cur,h2,_⟩
  ·rw[h3];exact⟨none,0,h2⟩
  ·exact⟨_,_,h2⟩
 ·exact⟨A,0,h⟩
theorem HF (mem:Mem X B σ.bx σ.rw w M) {r sz:Nat} {es:List (List C)} (h:get? r σ.rw=some (sz,es)) {n c:Nat} (hv:(M.ρ r).v=.slice none n c):es=[]:=by
 obtain⟨_,hp,_⟩:=mem.row r sz es (get?_mem h)
 rcases hp.1 with ⟨e,us,h1,_⟩|⟨rfl,_⟩
 ·rcases h1.2 with ⟨h2,h3⟩|⟨g,cap,cur,h2,_⟩
  ·exact List.eq_nil_of_length_eq_zero h3
  ·rw[hv] at h2;cases h2
 ·rfl
theorem HG {sz:Nat} {es:List (List C)} {n c:Nat} (h:Rep w M.S (.row sz es) (.slice none n c)):es=[]:=by
 cases h;rfl
theorem HH {bl:Bool} {op:BinOp} {t:TypeId} {x y:Operand} {ca cb c:C} {vc:Prop} {va vb:Value} (hb:la bl op ca cb=some (vc,c)) (hvc:vc)
 (ht:bl=true->P.underlying t=some .bool) (ha:Rep w M.S ca va) (hb':Rep w M.S cb vb) :
 ∃ v,((do eqGuard op t x y va vb;binOp op t va vb):Sem Value).run P w=.ok v w/\Rep w M.S c v:=by
 unfold la at hb
 split at hb
 ·rename_i k m k' n
  have e1:=cd ha;have e2:=cd hb';subst e1 e2
  split at hb
  ·rename_i hk;subst hk
   have hg:∀ op,(eqGuard op t x y (.int k m) (.int k n)).run P w=.ok () w:=by intro op;cases op <;> simp[eqGuard]
   split at hb <;> simp only[Option.some.injEq,Prod.mk.injEq,reduceCtorEq] at hb <;> obtain⟨rfl,rfl⟩:=hb <;>
    simp only[Sem.run_bind,hg,Result.andThen_ok]
   ·exact⟨_,by simp[binOp,Op.intArith,jt hvc],Rep.int _ _⟩
   ·exact⟨_,by simp[binOp,Op.intArith,jt hvc],Rep.int _ _⟩
   ·exact⟨_,by simp[binOp,Op.intArith,jt hvc],Rep.int _ _⟩
   ·exact⟨_,by simp[binOp,Op.intDiv,jt hvc.2,hvc.1],Rep.int _ _⟩
   ·exact⟨_,by simp[binOp,Op.intDiv,hvc],Rep.int _ _⟩
   ·obtain⟨rfl,rfl,h1,h2⟩:=hvc
    have e:Int.fdiv m 2=m / 2:=Int.fdiv_eq_ediv_of_nonneg m (by omega)
    exact⟨_,by simp[binOp,Op.shift,IntKind.bits,e],Rep.int _ _⟩
   ·obtain⟨rfl,h1,h2,h3,h4⟩:=hvc
    refine⟨.int .i64 ((m.toNat ^^^ n.toNat:Nat):Int),?_,Rep.int _ _⟩
    obtain⟨a,rfl⟩:=Int.eq_ofNat_of_zero_le h1
    obtain⟨b,rfl⟩:=Int.eq_ofNat_of_zero_le h3
    have hx:a ^^^ b < 2 ^ 63:=Nat.xor_lt_two_pow (by omega) (by omega)
    have e1:(BitVec.ofInt 64 (a:Int) ^^^ BitVec.ofInt 64 (b:Int)).toNat=a ^^^ b:=by
     rw[BitVec.toNat_xor]
     simp only[BitVec.toNat_ofInt]
     congr 1 <;> omega
    have e2:IntKind.i64.wrap ((a ^^^ b:Nat):Int)=((a ^^^ b:Nat):Int):=jt (k:=.i64) ⟨by omega,by omega⟩
    have e3:IntKind.i64.wrap ((BitVec.ofInt IntKind.i64.bits (a:Int) ^^^ BitVec.ofInt IntKind.i64.bits (b:Int)).toNat:Int)=((a ^^^ b:Nat):Int):=by
     rw[show (BitVec.ofInt IntKind.i64.bits (a:Int) ^^^ BitVec.ofInt IntKind.i64.bits (b:Int)).toNat=a ^^^ b from e1];exact e2
    simp only[binOp,Op.intBits,e3,Int.toNat_natCast]
    rfl
   ·refine⟨.bool (decide (m=n)),?_,Rep.bool _⟩
    simp[binOp,Op.intCmp];by_cases h:m=n <;> simp[h]
   ·refine⟨.bool (!decide (m=n)),?_,Rep.bool _⟩
    simp[binOp,Op.intCmp];by_cases h:m=n <;> simp[h]
   ·exact⟨.bool (decide (m < n)),by simp[binOp,Op.intCmp],Rep.bool _⟩
   ·exact⟨.bool (decide (m<=n)),by simp[binOp,Op.intCmp],Rep.bool _⟩
   ·exact⟨.bool (decide (n < m)),by simp[binOp,Op.intCmp],Rep.bool _⟩
   ·exact⟨.bool (decide (n<=m)),by simp[binOp,Op.intCmp],Rep.bool _⟩
  ·split at hb
   ·simp only[Option.some.injEq,Prod.mk.injEq] at hb
    exact (hb.1 ▸ hvc:False).elim
   ·cases hb
 ·rename_i s s'
  have e1:=nv ha;have e2:=nv hb';subst e1 e2
  have hg:∀ op,(eqGuard op t x y (.string s) (.string s')).run P w=.ok () w:=by intro op;cases op <;> simp[eqGuard]
  have heq:(s.toList == s'.toList)=decide (s=s'):=by
   rw[ByteArray.toList_eq,ByteArray.toList_eq,Bool.eq_iff_iff,beq_iff_eq,decide_eq_true_eq]
   refine⟨fun h=>?_,fun h=>by rw[h]⟩
   cases s;cases s';rename_i x y;cases x;cases y;simp_all
  split at hb <;> simp only[Option.some.injEq,Prod.mk.injEq,reduceCtorEq] at hb <;> obtain⟨rfl,rfl⟩:=hb <;> simp only[Sem.run_bind,hg,Result.andThen_ok]
  ·refine⟨_,?_,Rep.str _⟩
   have:¬ (9223372036854775807 < ((s.size:Int)+(s'.size:Int))):=by omega
   simp[binOp,Op.stringOp,this,IntKind.max,IntKind.signed,IntKind.bits]
  ·exact⟨.bool (decide (s=s')),by simp[binOp,Op.stringOp,heq],Rep.bool _⟩
  ·exact⟨.bool (!decide (s=s')),by simp[binOp,Op.stringOp,heq],Rep.bool _⟩
  ·have h1:decide (sl s s')=Op.bytesLess s.toList s'.toList:=Bool.decide_eq_true
   exact⟨.bool (decide (sl s s')),by rw[h1];simp[binOp,Op.stringOp],Rep.bool _⟩
  ·have h1:decide (sl s s'\/s=s')=(Op.bytesLess s.toList s'.toList || decide (s=s')):=by rw[Bool.decide_or];congr 1;exact Bool.decide_eq_true
   exact⟨.bool (decide (sl s s'\/s=s')),by rw[h1];simp[binOp,Op.stringOp,heq],Rep.bool _⟩
  ·have h1:decide (¬ (sl s s'\/s=s'))=!(Op.bytesLess s.toList s'.toList || decide (s=s')):=by rw[decide_not,Bool.decide_or];congr 2;exact Bool.decide_eq_true
   exact⟨.bool (decide (¬ (sl s s'\/s=s'))),by rw[h1];simp[binOp,Op.stringOp,heq],Rep.bool _⟩
  ·have h1:decide (¬ sl s s')=!(Op.bytesLess s.toList s'.toList):=by rw[decide_not];congr 1;exact Bool.decide_eq_true
   exact⟨.bool (decide (¬ sl s s')),by rw[h1];simp[binOp,Op.stringOp],Rep.bool _⟩
 ·simp only[Option.some.injEq,Prod.mk.injEq] at hb
  obtain⟨rfl,_⟩:=hb
  exact hvc.elim
 ·rename_i b b'
  have e1:=gK ha;have e2:=gK hb';subst e1 e2
  have hg:∀ op,(eqGuard op t x y (.bool b) (.bool b')).run P w=.ok () w:=by intro op;cases op <;> simp[eqGuard]
  split at hb <;> simp only[Option.some.injEq,Prod.mk.injEq,reduceCtorEq] at hb <;> obtain⟨rfl,rfl⟩:=hb <;> simp only[Sem.run_bind,hg,Result.andThen_ok]
  ·exact⟨.bool (b == b'),by simp[binOp,run_equal_bool w t b b' (ht rfl)],Rep.bool _⟩
  ·exact⟨.bool (b != b'),by simp[binOp,run_equal_bool w t b b' (ht rfl),bne],Rep.bool _⟩
 ·cases hb
end
end Go.Proofs.Pw
namespace Go.Proofs.Pw
open Go.RowKit
variable [Globs]
section
variable {P:Program} {Γ:FuncId->Option Spec} {σ:St} {a:Act} {w:World} {M:Gh} {X:Nat->Prop} {B:Nat}
def iB (ag:Option Nat) (us:Nat->Value):Value:=match ag with
 | none=>us 0
 | some n=>.agg ((List.range n).map us).toArray
theorem sg {t:TypeId} {n:Nat} (h:cF P t (some n)=true):∃ fs i,P.underlying t=some (.struct fs)/\P.info? t=some i/\i.size=n:=by
 simp only[cF] at h
 split at h
 ·rename_i fs i h1 h2;exact⟨fs,i,h1,h2,by simpa using h⟩
 ·cases h
theorem sh {t:TypeId} (h:cF P t none=true):∃ d i,P.underlying t=some d/\P.info? t=some i/\i.size=1/\(∀ w,(isAgg t).run P w=.ok false w):=by
 simp only[cF] at h
 split at h
 ·cases h
 ·cases h
 ·rename_i d i h1 h2 h3 h4
  refine⟨d,i,h3,h4,by simpa using h,fun w=>?_⟩
  simp only[isAgg,Sem.run_bind,run_underlying h3,Result.andThen_ok]
  rfl
 ·cases h
theorem ld {t:TypeId} {ag:Option Nat} (h:cF P t ag=true) {ad:Addr} {us:Nat->Value} (hc:∀ j,j < ag.getD 1->w.cell? (ad.add j)=some (us j)) :
 (Instr.loadAt t (.pointer (some ad))).run P w=.ok (iB ag us) w:=by
 cases ag with
 | none =>
   obtain⟨d,i,h1,h2,h3,h4⟩:=sh h
   have:=hc 0 (by simp)
   simp only[Addr.add,if_true] at this
   simp[Instr.loadAt,Instr.sureAddr,loadVar,h4,this,iB]
 | some n =>
   obtain⟨fs,i,h1,h2,h3⟩:=sg h
   subst h3
   have:=run_loadCells (P:=P) (w:=w) ad i.size us (fun j hj=>hc j (by simpa using hj))
   simp[Instr.loadAt,Instr.sureAddr,loadVar,isAgg,run_underlying h1,sizeOf,typeInfo,h2,this,iB]
theorem HI {xs:List C} {ag:Option Nat} {us:Nat->Value} (hp:(jv xs ag).1) (hr:∀ (j:Nat) c,xs[j]?=some c->Rep w M.S c (us j)) :
 ak w M (jv xs ag).2 (iB ag us):=by
 cases ag with
 | none =>
   simp only[jv] at *
   refine hr 0 _ ?_
   simp[List.getD,List.getElem?_eq_getElem hp]
 | some n =>
   have hp':n<=xs.length:=hp
   refine⟨_,rfl,by simp;omega,fun i q hq=>?_⟩
   replace hq:((xs.take n).map Q.c)[i]?=some q:=hq
   simp only[List.getElem?_map,Option.map_eq_some_iff] at hq
   obtain⟨c,hc,rfl⟩:=hq
   rw[List.getElem?_take] at hc
   split at hc
   case isFalse=>cases hc
   rename_i hi
   exact⟨us i,by simp[hi],(hr i c hc).one,hr i c hc⟩
theorem HJ {i k o:Nat} {c:C} {u:Value} {D:Nat->Prop} (h:RepX w M.S (fun π=>(M.ρ i).h ((k,o)::π)) c u D):af w M (c.toL i k o) u:=by
 cases h with
 | pl hr =>
   cases hr with
   | jk _ _=>trivial
   | _=>first|exact .int _ _|exact .bool _|exact .str _|exact .fn _|exact .nil _ _ _|exact .row _ _ _ _ _ (by assumption) (by assumption) (by assumption) (by assumption) (by assumption)|exact .ptr _ _ _ (by assumption) (by assumption) (by assumption)|exact .clo _ _ _ _ (by assumption) (by assumption) (by assumption)|exact .zz _ _|exact .ifc _ _
 | jk _=>trivial
 | nil h0 hh=>exact⟨hh.symm,rfl⟩
 | own _ _ hh=>exact⟨hh.symm,rfl⟩
theorem HK {i k:Nat}:∀ {cs:List C} {o j:Nat} {q:Q},(dj i k o cs)[j]?=some q->∃ c,cs[j]?=some c/\q=c.toL i k (o+j):=by
 intro cs
 induction cs with
 | nil=>intro o j q h;simp[dj] at h
 | cons c cs ih =>
   intro o j q h
   cases j with
   | zero=>simp only[dj,List.getElem?_cons_zero,Option.some.injEq] at h;exact⟨c,rfl,h.symm⟩
   | succ j =>
     simp only[dj,List.getElem?_cons_succ] at h
     obtain⟨c',h1,h2⟩:=ih h
     exact⟨c',by simpa using h1,by rw[h2];congr 1;omega⟩
theorem HL {i k:Nat}:∀ {cs:List C} {o:Nat},(dj i k o cs).length=cs.length:=by
 intro cs
 induction cs with
 | nil=>intro o;rfl
 | cons c cs ih=>intro o;simp[dj,ih]
theorem HM {i k o:Nat} {xs:List C} {ag:Option Nat} {us:Nat->Value} (hp:(jx i k o xs ag).1) (hr:∀ (j:Nat) c,xs[j]?=some c->(us j).oneCell'=true/\af w M (c.toL i k (o+j)) (us j)) :
 ak w M (jx i k o xs ag).2 (iB ag us):=by
 cases ag with
 | none =>
   simp only[jx] at *
   refine (hr 0 _ ?_).2
   simp[List.getD,List.getElem?_eq_getElem hp]
 | some n =>
   have hp':n<=xs.length:=hp
   refine⟨_,rfl,by rw[HL];simp;omega,fun j q hq=>?_⟩
   obtain⟨c,hc,rfl⟩:=HK hq
   rw[List.getElem?_take] at hc
   split at hc
   case isFalse=>cases hc
   rename_i hi
   exact⟨us j,by simp[hi],(hr j c hc).1,(hr j c hc).2⟩
theorem HN {i k o:Nat} {xs:List C} {ag:Option Nat} (hp:(jx i k o xs ag).1):ag.getD 1<=xs.length:=by
 cases ag with
 | none=>exact hp
 | some n=>exact hp
theorem si {qs:List Q} {o:Nat} {ag:Option Nat} {us:Nat->Value} (hp:(eZ qs o ag).1) (hr:∀ (j:Nat) q,qs[o+j]?=some q->(us j).oneCell'=true/\af w M q (us j)) :
 ak w M (eZ qs o ag).2 (iB ag us):=by
 cases ag with
 | none =>
   simp only[eZ] at *
   refine (hr 0 _ ?_).2
   simp[List.getD,List.getElem?_eq_getElem hp]
 | some n =>
   have hp':o+n<=qs.length:=hp
   refine⟨_,rfl,by simp;omega,fun i q hq=>?_⟩
   replace hq:((qs.drop o).take n)[i]?=some q:=hq
   rw[List.getElem?_take] at hq
   split at hq
   ·rename_i hi
    rw[List.getElem?_drop] at hq
    exact⟨us i,by simp[hi],(hr i q hq).1,(hr i q hq).2⟩
   ·cases hq
theorem HO {xs:List C} {ag:Option Nat} (hp:(jv xs ag).1):ag.getD 1<=xs.length:=by
 cases ag with
 | none=>exact hp
 | some n=>exact hp
theorem sj {qs:List Q} {o:Nat} {ag:Option Nat} (hp:(eZ qs o ag).1):o+ag.getD 1<=qs.length:=by
 cases ag with
 | none=>exact hp
 | some n=>exact hp
end
end Go.Proofs.Pw
namespace Go.Proofs.Pw
open Go.RowKit
variable [Globs]
section
variable {P:Program} {Γ:FuncId->Option Spec} {σ:St} {a:Act} {w:World} {M:Gh} {X:Nat->Prop} {B:Nat}
theorem HP {t:TypeId} {ag:Option Nat} (h:cF P t ag=true) {us:Array Value} {off:Nat} (hl:off+ag.getD 1<=us.size) :
 (part t us off).run P w=.ok (iB ag fun j=>us.getD (off+j) undef) w:=by
 cases ag with
 | none =>
   obtain⟨d,i,h1,h2,h3,h4⟩:=sh h
   have hl':off < us.size:=hl
   simp[part,h4,Array.getD,hl',iB]
 | some n =>
   obtain⟨fs,i,h1,h2,h3⟩:=sg h
   subst h3
   have hl':off+i.size<=us.size:=hl
   simp only[part,isAgg,Sem.run_bind,run_underlying h1,Result.andThen_ok,Sem.run_pure,if_true,sizeOf,typeInfo,run_program,h2]
   refine congrArg (fun x=>Result.ok (Value.agg x) w) ?_
   apply Array.ext
   ·simp;omega
   ·intro j h1 h2
    simp at h1 h2
    have:off+j < us.size:=by omega
    simp[Array.getD,this]
theorem le {isS:Bool} {len cap:Nat} {lo hi:Option Value} {l h:Int} (hl:(lo=none/\l=0)\/∃ k,lo=some (.int k l)) (hh:(hi=none/\h=len)\/∃ k,hi=some (.int k h))
 (h0:0<=l) (h1:l<=h) (h2:h<=cap):(Instr.sliceBounds isS len cap lo hi none).run P w=.ok (l.toNat,h.toNat,cap) w:=by
 have e:(h.toNat:Int)=h:=Int.toNat_of_nonneg (by omega)
 have h3:0<=h:=by omega
 rcases hl with ⟨rfl,rfl⟩|⟨k,rfl⟩ <;> rcases hh with ⟨rfl,rfl⟩|⟨k',rfl⟩ <;> simp[Instr.sliceBounds,run_sliceBound, *]
theorem HQ {sz:Nat} {es:List (List C)} {A:Option Addr} {n c l h:Nat} (hr:Rep w M.S (.row sz es) (.slice A n c)) (hl:l<=h) (hh:h<=es.length) :
 Rep w M.S (.row sz ((es.take h).drop l)) (.slice (if c=l then A else A.map fun a=>a.add (l*sz)) (h-l) (c-l)):=by
 have hlen:((es.take h).drop l).length=h-l:=by simp;omega
 by_cases he:(es.take h).drop l=[]
 ·rw[he] at hlen ⊢
  simp at hlen
  rw[show h-l=0 by omega]
  exact .nil _ _ _
 ·cases hr with
  | nil=>simp at he
  | row _ _ ad _ u hcap hS hsz hc hr =>
    have hne:h-l≠0:=fun h0=>he (List.eq_nil_of_length_eq_zero (by omega))
    rw[if_neg (by omega),<-hlen]
    have hget:∀ (i:Nat) e,((es.take h).drop l)[i]?=some e->es[l+i]?=some e:=fun i e hi=>by
     rw[List.getElem?_drop,List.getElem?_take] at hi
     split at hi
     ·exact hi
     ·cases hi
    refine .row _ _ (ad.add (l*sz)) _ (fun j=>u (l*sz+j)) (by omega) (by rw[iv];exact hS) (fun i e hi=>hsz _ e (hget i e hi)) (fun i j e c hi hj=>?_) (fun i j e c hi hj=>?_)
    ·rw[kZ,show l*sz+(i*sz+j)=(l+i)*sz+j by rw[Nat.add_mul];omega]
     exact hc _ _ e c (hget i e hi) hj
    ·rw[show l*sz+(i*sz+j)=(l+i)*sz+j by rw[Nat.add_mul];omega]
     exact hr _ _ e c (hget i e hi) hj
theorem jD (mem:Mem X B σ.bx σ.rw w M) {r sz:Nat} {es:List (List C)} (h:get? r σ.rw=some (sz,es)):∃ A c,(M.ρ r).v=.slice A es.length c/\es.length<=c:=by
 obtain⟨_,hp,_⟩:=mem.row r sz es (get?_mem h)
 rcases hp.1 with ⟨e,us,h1,_⟩|⟨rfl,A,h⟩
 ·rcases h1.2 with ⟨h2,h3⟩|⟨g,cap,cur,h2,_,_,h3,_⟩
  ·rw[h3];exact⟨none,0,h2,Nat.le_refl _⟩
  ·exact⟨_,_,h2,h3⟩
 ·exact⟨A,0,h,Nat.le_refl _⟩
theorem HR (ht:∀ t p,(t,p) ∈ σ.tm->ak w M p (a.tmps.getD t undef)) {o:Operand} {x:XO} (h:okO o x=true) (hg:(σ.v x).1=true) {n:Int} (hn:asInt? (σ.v x).2=some n) :
 ∃ k,a.eval o=.int k n:=by
 have r:=aC ht h hg
 unfold asInt? at hn
 split at hn
 ·rename_i k m e
  rw[e] at r
  simp at hn;subst hn
  exact⟨k,cd r⟩
 ·cases hn
theorem xY (ht:∀ t p,(t,p) ∈ σ.tm->ak w M p (a.tmps.getD t undef)) {o:Option Operand} {x:Option XO} (h:oU o x=true) {d:Int} {r:Bool × Int} (hr:loX σ d x=some r) (hg:r.1=true) :
 (o.map a.eval=none/\r.2=d)\/∃ k,o.map a.eval=some (.int k r.2):=by
 unfold oU at h
 split at h
 ·simp only[loX,Option.some.injEq] at hr
  subst hr
  exact .inl ⟨rfl,rfl⟩
 ·simp only[loX,Option.map_eq_some_iff] at hr
  obtain⟨n,hn,rfl⟩:=hr
  obtain⟨k,hk⟩:=HR ht h hg hn
  exact .inr ⟨k,by simp[hk]⟩
 ·cases h
theorem HS {params results:Array TypeId} {t e:TypeId} {ti:TypeInfo} (hp:params[0]?=some t) (ht:P.underlying t=some (.slice e)) (hi:P.info? e=some ti) {A0 A:Option Addr} {n0 c0 n c:Nat}
 (h1:0 < n0->∀ ad,A0=some ad->∃ tt k,w.shape? ad.block=some (tt,k+1)) (h2:0 < n->∀ bd,A=some bd->∃ cur tt,w.heap[bd.block]?=some (.cells cur tt (0,0)))
 (hne:0 < n0->0 < n->∀ ad bd,A0=some ad->A=some bd->ad.block≠bd.block) :
 (Extern.SlicesOverlaps.overlaps params results #[.slice A0 n0 c0,.slice A n c]).run P w=.ok (.bool false) w:=by
 have hz:∀ w,(Go.sizeOf e).run P w=.ok ti.size w:=fun w=>by simp[sizeOf,typeInfo,hi]
 change Sem.run P (α:=Value) (do
  let some t := params[0]? | stuck "slices.overlaps: no parameter types"
  let .slice elem <- underlying t | stuck "slices.overlaps: slice type expected"
  let size <- sizeOf elem
  match A0,A with
  | some a,some b =>
    if n0=0\/n=0\/size=0 then pure (Value.bool false)
    else if a.block != b.block && (<- frozen a) && (<- frozen b) then unsupported .addressObserved
    else do
     if a.block != b.block then do
      noView a;noView b
      if <- mayBeOne a b then return Value.bool ((<- choose (.extern "sameAddr.stringBytes" 2)) == 1)
     pure (Value.bool (a.block == b.block && a.off < b.off+n*size && b.off < a.off+n0*size))
  | _,_=>pure (Value.bool false)) w=_
 cases A0 with
 | none=>simp[hp,run_underlying ht,hz]
 | some ad =>
   cases A with
   | none=>simp[hp,run_underlying ht,hz]
   | some bd =>
     by_cases h0:n0=0\/n=0\/ti.size=0
     ·simp[hp,run_underlying ht,hz,h0]
     ·obtain⟨tt,k,hsa⟩:=h1 (by omega) ad rfl
      obtain⟨cur,tb,hb⟩:=h2 (by omega) bd rfl
      have hn:=hne (by omega) (by omega) ad bd rfl rfl
      have hnb:(ad.block != bd.block)=true:=by simpa using hn
      have hnb':(ad.block == bd.block)=false:=by simpa using hn
      have hsb:w.shape? bd.block=some (tb,cur.size):=by simp[World.shape?,hb]
      have hfb:w.frozen? bd=false:=by simp[World.frozen?,hb]
      have hfb':w.frozen? { block:=bd.block,off:=cur.size }=false:=by simp[World.frozen?,hb]
      cases hf1:w.frozen? ad <;> cases hf2:w.frozen? { block:=ad.block,off:=k+1 } <;>
       simp[hp,run_underlying ht,hz,h0,hnb,hnb',frozen,noView,viewAt,mayBeOne,stringish,shape,Sem.run,hsa,hsb,hfb,hfb',hf1,hf2]
theorem HT:∀ {es:List (List C)} {l:List Int},ju es=some l->es.length=l.length/\∀ (j:Nat) n,l[j]?=some n->es[j]?=some [.int .u8 n]:=by
 intro es
 induction es with
 | nil=>intro l h;simp only[ju,Option.some.injEq] at h;subst h;simp
 | cons e es ih =>
   intro l h
   unfold ju at h
   split at h
   ·cases ‹_::_=[]›
   ·rename_i n r heq
    cases heq
    simp only[Option.map_eq_some_iff] at h
    obtain⟨l',h1,rfl⟩:=h
    obtain⟨i1,i2⟩:=ih h1
    refine⟨by simp[i1],fun j m hj=>?_⟩
    cases j with
    | zero=>simp at hj;subst hj;rfl
    | succ j=>simpa using i2 j m (by simpa using hj)
   ·cases h
theorem HU {es:List (List C)} {l:List Int} {v:Value} (h:Rep w M.S (.row 1 es) v) (hl:ju es=some l):∃ A c,v=.slice A es.length c/\(Conv.bytesToString v).run P w=.ok (.string (fJ l)) w:=by
 obtain⟨h1,h2⟩:=HT hl
 cases h with
 | nil _ A c =>
   have:=List.eq_nil_of_length_eq_zero (l:=l) (by simpa using h1.symm)
   subst this
   refine⟨A,c,rfl,?_⟩
   cases A with
   | none=>simp[Conv.bytesToString,fJ]
   | some a=>exact run_bytesToString w a 0 c [] (by simp[loadCells,loadCellsFrom])
 | row _ _ a c u hcap hS hsz hc hr =>
   refine⟨some a,c,rfl,run_bytesToString w a _ c l ?_⟩
   have:=run_loadCells_list (P:=P) (w:=w) a (l.map (Value.int .u8)) (fun j v hj=>by
    simp only[List.getElem?_map,Option.map_eq_some_iff] at hj
    obtain⟨n,hn,rfl⟩:=hj
    have he:=h2 j n hn
    have hu:=hr j 0 _ _ he (List.getElem?_cons_zero ..)
    have hcc:=hc j 0 _ _ he (List.getElem?_cons_zero ..)
    rw[cd hu] at hcc
    simpa using hcc)
   simpa [h1] using this
theorem HV {o:Oper} {k:XK} {vc:Prop} {p:PV} (hk:oW P o.op k=true) (he:ah Γ σ k=some (vc,p)) (hvc:vc)
 (ht:∀ t p,(t,p) ∈ σ.tm->ak w M p (a.tmps.getD t undef)) (mem:Mem X B σ.bx σ.rw w M) :
 ∃ v,(execOp a.eval o).run P w=.ok (.value v) w/\ak w M p v:=by
 obtain⟨dst,op,ty,pos,after,guard⟩:=o
 simp only at hk
 unfold oW at hk
 split at hk
 ·
  simp only[ah,Option.some.injEq,Prod.mk.injEq] at he
  obtain⟨rfl,rfl⟩:=he
  exact⟨_,by simp[execOp],aC ht hk hvc⟩
 ·simp only[ah,Option.some.injEq,Prod.mk.injEq] at he
  obtain⟨rfl,rfl⟩:=he
  exact⟨_,by simp[execOp],aC ht hk hvc⟩
 ·
  rename_i c x y c' x' y'
  simp only[Bool.and_eq_true] at hk
  obtain⟨⟨hc,hx⟩,hy⟩:=hk
  simp only[ah] at he
  have rc:=aC (o:=c) (x:=c') ht hc;have rx:=aC (o:=x) (x:=x') ht hx;have ry:=aC (o:=y) (x:=y') ht hy
  split at he
  ·rename_i gc t ga b gb b' e1 e2 e3
   simp only[Option.some.injEq,Prod.mk.injEq] at he
   obtain⟨rfl,rfl⟩:=he
   rw[e1] at rc;rw[e2] at rx;rw[e3] at ry
   have h1:=gK (rc hvc.1)
   cases t with
   | true=>have h2:=gK (rx (hvc.2.1 rfl));exact⟨.bool b,by simp[execOp,h1,asBool,h2],Rep.bool _⟩
   | false=>have h2:=gK (ry (hvc.2.2 rfl));exact⟨.bool b',by simp[execOp,h1,asBool,h2],Rep.bool _⟩
  ·rename_i gc t ga k b gb k' b' e1 e2 e3
   split at he
   ·rename_i hkk;subst hkk
    simp only[Option.some.injEq,Prod.mk.injEq] at he
    obtain⟨rfl,rfl⟩:=he
    rw[e1] at rc;rw[e2] at rx;rw[e3] at ry
    have h1:=gK (rc hvc.1)
    cases t with
    | true=>have h2:=cd (rx (hvc.2.1 rfl));exact⟨.int k b,by simp[execOp,h1,asBool,h2],Rep.int _ _⟩
    | false=>have h2:=cd (ry (hvc.2.2 rfl));exact⟨.int k b',by simp[execOp,h1,asBool,h2],Rep.int _ _⟩
   ·cases he
  ·cases he
 ·
  rename_i t x yt y
  simp only[Bool.and_eq_true] at hk
  obtain⟨hx,hz⟩:=hk
  have rx:=aC (o:=x) (x:=y) ht hx
  split at hz
  ·rename_i e hs
   have hrun:∀ (A:Option Addr) (n c:Nat),a.eval x=.slice A n c->(execOp a.eval ⟨dst,.binOp .eql t x (.const (.slice none 0 0)) yt,ty,pos,after,guard⟩).run P w=.ok (.value (.bool A.isNone)) w:=fun A n c hv=>by
    have:=Lib.run_eql_slice_nil (P:=P) w t e A n c 0 0 hs
    have hc:a.eval (.const (.slice none 0 0))=.slice none 0 0:=rfl
    simp[execOp,hv,hc,eqGuard,this]
   simp only[ah] at he
   split at he
   ·rename_i g r e1
    rw[e1] at rx
    simp only[Option.map_eq_some_iff,Prod.mk.injEq] at he
    obtain⟨⟨sz',es⟩,hq,rfl,rfl⟩:=he
    have hv:=rx hvc
    simp only[ak,af] at hv
    replace hv:=hv.1
    obtain⟨A,c,h⟩:=xX mem hq
    refine⟨_,hrun A _ c (hv.trans h),A.isNone,rfl,fun hA=>?_⟩
    cases A with
    | none=>rw[HF mem hq h];rfl
    | some a=>cases hA
   ·rename_i g p e1 hno
    rw[hno] at rx
    simp only[Option.map_eq_some_iff,Prod.mk.injEq] at he
    obtain⟨⟨sz',es⟩,hq,rfl,rfl⟩:=he
    have hr:=iA (rx hvc) hq
    obtain⟨A,c,h,_⟩:=oX hr
    refine⟨_,hrun A _ c h,A.isNone,rfl,fun hA=>?_⟩
    cases A with
    | none=>rw[h] at hr;rw[HG hr];rfl
    | some a=>cases hA
  ·cases hz
 ·
  rename_i op t x y yt bl op' x' y'
  simp only[Bool.and_eq_true,decide_eq_true_eq] at hk
  obtain⟨⟨⟨rfl,hx⟩,hy⟩,hbl⟩:=hk
  have rx:=aC (o:=x) (x:=x') ht hx;have ry:=aC (o:=y) (x:=y') ht hy
  simp only[ah] at he
  split at he
  ·rename_i g ca g' cb e1 e2
   rw[e1] at rx;rw[e2] at ry
   simp only[Option.map_eq_some_iff,Prod.mk.injEq] at he
   obtain⟨⟨vc',c⟩,hb,rfl,rfl⟩:=he
   obtain⟨v,h1,h2⟩:=HH (t:=t) (x:=x) (y:=y) hb hvc.2.2 (fun hb=>by subst hb;exact HE hbl) (rx hvc.1) (ry hvc.2.1)
   exact⟨v,by simp only[execOp,Sem.run_bind] at h1 ⊢;rw[h1];rfl,h2⟩
  ·cases he
 ·
  rename_i t x k z y
  simp only[Bool.and_eq_true,decide_eq_true_eq] at hk
  obtain⟨rfl,hk⟩:=hk
  simp only[ah] at he
  have ry:=aC (o:=x) (x:=y) ht hk
  split at he
  ·rename_i g ca g' cb e1 e2
   rw[e2] at ry
   simp only[Option.map_eq_some_iff,Prod.mk.injEq] at he
   obtain⟨⟨vc',c⟩,hb,rfl,rfl⟩:=he
   simp only[St.v,Prod.mk.injEq,PV.q.injEq,Q.c.injEq] at e1
   obtain⟨rfl,rfl⟩:=e1
   cases cb with
   | int k' n =>
     simp only[la] at hb
     split at hb
     ·rename_i hkk;subst hkk
      simp only[Option.some.injEq,Prod.mk.injEq] at hb
      obtain⟨rfl,rfl⟩:=hb
      have:=cd (ry hvc.2.1)
      exact⟨.int k (0-n),by simp only[execOp,this,Op.unary,Op.intArith,jt hvc.2.2];rfl,Rep.int _ _⟩
     ·cases hb
   | _=>simp[la] at hb
  ·cases he
 ·
  rename_i t x y
  simp only[ah] at he
  have ry:=aC (o:=x) (x:=y) ht hk
  split at he
  ·rename_i g b e1
   rw[e1] at ry
   simp only[Option.some.injEq,Prod.mk.injEq] at he
   obtain⟨rfl,rfl⟩:=he
   have:=gK (ry hvc)
   exact⟨.bool (!b),by simp[execOp,this,Op.unary],Rep.bool _⟩
  ·cases he
 ·
  rename_i t x y ag
  simp only[Bool.and_eq_true] at hk
  obtain⟨hx,hag⟩:=hk
  have rx:=aC (o:=x) (x:=y) ht hx
  simp only[ah] at he
  split at he
  ·rename_i g xs e1
   rw[e1] at rx
   simp only[Option.some.injEq,Prod.mk.injEq] at he
   obtain⟨rfl,rfl⟩:=he
   obtain⟨ad,h1,h2⟩:=rx hvc.1
   have hlen:=HO hvc.2
   have hc:∀ j,j < ag.getD 1->w.cell? (ad.add j)=some ((w.cell? (ad.add j)).getD undef):=fun j hj=>by
    obtain⟨u,hu,_⟩:=h2 j _ (List.getElem?_eq_getElem (show j < xs.length by omega))
    rw[hu];rfl
   have hr:∀ (j:Nat) c,xs[j]?=some c->Rep w M.S c ((w.cell? (ad.add j)).getD undef):=fun j c hj=>by
    obtain⟨u,hu,_,h⟩:=h2 j c hj
    rw[hu];exact h
   refine⟨_,?_,HI hvc.2 hr⟩
   simp only[execOp,h1,Sem.run_bind,ld hag hc];rfl
  ·rename_i g i o e1
   rw[e1] at rx
   simp only[Option.map_eq_some_iff,Prod.mk.injEq] at he
   obtain⟨qs,hq,rfl,rfl⟩:=he
   have h1:=rx hvc.1
   obtain⟨_,t',cells,hh,hsz,hcell⟩:=mem.box i qs (get?_mem hq)
   have hlen:=sj hvc.2
   have hcc:∀ j,o+j < qs.length->w.cell? ((⟨M.β i,o,none⟩:Addr).add j)=some (cells.getD (o+j) undef):=fun j hj=>by
    rw[Addr.add_lit,cell_of_row w (M.β i) (o+j) cells t' (0,0) hh]
    have:o+j < cells.size:=by omega
    simp[Array.getD,this]
   refine⟨_,?_,si (us:=fun j=>cells.getD (o+j) undef) hvc.2 (fun j q hj=>?_)⟩
   ·simp only[ak,af] at h1
    simp only[execOp,h1,Sem.run_bind,ld hag (fun j hj=>hcc j (by omega))];rfl
   ·obtain⟨u,hu,h3,h4⟩:=hcell (o+j) q hj
    have:cells.getD (o+j) undef=u:=by simp[hu]
    simp only[this];exact⟨h3,h4⟩
  ·rename_i g i sz k o e1
   rw[e1] at rx
   simp only[Option.map_eq_some_iff,Prod.mk.injEq] at he
   obtain⟨⟨sz',es⟩,hq,rfl,rfl⟩:=he
   obtain⟨hg,h0,h1,h2⟩:=hvc
   simp only at h0 h1 h2
   obtain⟨g',n,cap,hρ,hv⟩:=rx hg
   obtain⟨_,hp,_⟩:=mem.row i sz' es (get?_mem hq)
   rcases hp.1 with ⟨e,us,h3,⟨h4,h5,ψ,_,_,h6⟩,_⟩|⟨he',_⟩
   ·rw[hρ] at h3
    have hn:n=es.length:=by
     rcases h3.2 with ⟨h,_⟩|⟨_,_,_,h,_⟩
     ·cases h
     ·injection h
    subst hn
    have hel:es[k]?=some (es.getD k []):=by simp[List.getD,List.getElem?_eq_getElem h1]
    have hsz:=h4 k _ hel
    have hlen:=HN h2
    simp only[List.length_take,List.length_drop] at hlen
    have hcell:∀ j c,(es.getD k [])[o+j]?=some c->∃ u,w.cell? ((⟨g',k*sz+o,none⟩:Addr).add j)=some u/\RepX w M.S (fun π=>(M.ρ i).h ((k,o+j)::π)) c u (ψ (k*sz'+(o+j))):=fun j c hc=>by
     obtain⟨u,hu,hr⟩:=h6 k (o+j) _ c hel hc
     refine⟨u,?_,hr⟩
     have:=h3.cells (g:=g') rfl (k*sz'+(o+j)) u hu
     rw[Addr.add_lit] at this ⊢
     rw[<-this,h0];congr 2;omega
    have hc:∀ j,j < ag.getD 1->w.cell? ((⟨g',k*sz+o,none⟩:Addr).add j)=some ((w.cell? ((⟨g',k*sz+o,none⟩:Addr).add j)).getD undef):=fun j hj=>by
     obtain⟨u,hu,_⟩:=hcell j _ (List.getElem?_eq_getElem (show o+j < (es.getD k []).length by omega))
     rw[hu];rfl
    have hr:∀ (j:Nat) c,(((es.getD k []).drop o).take (ag.getD 1))[j]?=some c->((w.cell? ((⟨g',k*sz+o,none⟩:Addr).add j)).getD undef).oneCell'=true/\af w M (c.toL i k (o+j)) ((w.cell? ((⟨g',k*sz+o,none⟩:Addr).add j)).getD undef):=fun j c hj=>by
     rw[List.getElem?_take] at hj
     split at hj
     ·rw[List.getElem?_drop] at hj
      obtain⟨u,hu,h⟩:=hcell j c hj
      rw[hu];exact⟨h.one,HJ h⟩
     ·cases hj
    refine⟨_,?_,HM h2 hr⟩
    simp only[execOp,hv,Sem.run_bind,ld hag hc];rfl
   ·subst he';simp at h1
  ·cases he
 ·
  rename_i s x f y off
  simp only[Bool.and_eq_true] at hk
  obtain⟨hx,hf⟩:=hk
  have rx:=aC (o:=x) (x:=y) ht hx
  split at hf
  ·rename_i fs hs
   split at hf
   ·rename_i fl hfl
    simp only[Bool.and_eq_true,beq_iff_eq] at hf
    obtain⟨rfl,hi⟩:=hf
    split at hi
    ·rename_i ti hti
     have hsz:ti.size≠0:=by simpa using hi
     have hrun:∀ ad:Addr,(Instr.fieldAt s (.pointer (some ad)) f).run P w=.ok (.pointer (some (ad.add fl.offset))) w:=fun ad=>by
      simp[Instr.fieldAt,run_underlying hs,hfl,Instr.sureAddr,fieldPlace,sizeOf,typeInfo,hti,hsz]
     simp only[ah] at he
     split at he
     ·rename_i g xs e1
      rw[e1] at rx
      simp only[Option.some.injEq,Prod.mk.injEq] at he
      obtain⟨rfl,rfl⟩:=he
      obtain⟨ad,h1,h2⟩:=rx hvc
      refine⟨.pointer (some (ad.add fl.offset)),by simp only[execOp,h1,Sem.run_bind,hrun];rfl,ad.add fl.offset,rfl,fun j c hj=>?_⟩
      rw[List.getElem?_drop] at hj
      obtain⟨u,a1,a2,a3⟩:=h2 _ c hj
      exact⟨u,by rw[kZ];exact a1,by rw[iv];exact a2,a3⟩
     ·rename_i g i o e1
      rw[e1] at rx
      simp only[Option.some.injEq,Prod.mk.injEq] at he
      obtain⟨rfl,rfl⟩:=he
      have h1:=rx hvc
      simp only[ak,af] at h1
      exact⟨_,by simp only[execOp,h1,Sem.run_bind,hrun];rfl,by simp[ak,af,Addr.add_lit]⟩
     ·rename_i g i sz k o e1
      rw[e1] at rx
      simp only[Option.some.injEq,Prod.mk.injEq] at he
      obtain⟨rfl,rfl⟩:=he
      obtain⟨g',n,c,h1,h2⟩:=rx hvc
      exact⟨_,by simp only[execOp,h2,Sem.run_bind,hrun];rfl,g',n,c,h1,by simp[Addr.add_lit,Nat.add_assoc]⟩
     ·cases he
    ·cases hi
   ·cases hf
  ·cases hf
 ·
  rename_i t x i y j sz
  simp only[Bool.and_eq_true] at hk
  obtain⟨⟨hx,hi⟩,hz⟩:=hk
  have rx:=aC (o:=x) (x:=y) ht hx;have ri:=aC (o:=i) (x:=j) ht hi
  split at hz
  ·rename_i e hs
   split at hz
   ·rename_i ti hti
    simp only[Bool.and_eq_true,beq_iff_eq] at hz
    obtain⟨rfl,hz0⟩:=hz
    have hrun:∀ (ad:Addr) (n c:Nat) (k:IntKind) (m:Int),0<=m->m < n->(Instr.indexAt t (.slice (some ad) n c) (.int k m)).run P w=.ok (.pointer (some (ad.add (m.toNat*ti.size)))) w:=fun ad n c k m h0 h1=>by
     simp[Instr.indexAt,asIntOf,run_underlying hs,h0,h1,sizeOf,typeInfo,hti]
    simp only[ah] at he
    split at he
    ·rename_i g p g' kk n e1 e2
     rw[e1] at rx;rw[e2] at ri
     split at he
     ·rename_i r
      simp only[Option.map_eq_some_iff,Prod.mk.injEq] at he
      obtain⟨⟨sz',es⟩,hq,rfl,rfl⟩:=he
      obtain⟨hg,hg',h0,h1,h2⟩:=hvc
      simp only at h0 h2
      have hv:=rx hg;have hn:=cd (ri hg')
      simp only[ak,af] at hv
      replace hv:=hv.1
      obtain⟨_,hp,_⟩:=mem.row r sz' es (get?_mem hq)
      rcases hp with ⟨e',us,h3,_⟩|⟨rfl,_⟩
      ·rcases h3.2 with ⟨h,h'⟩|⟨gg,cap,cur,h,_⟩
       ·simp[h'] at h2;omega
       ·refine⟨.pointer (some ((⟨gg,0,none⟩:Addr).add (n.toNat*ti.size))),by simp only[execOp,hv,h,hn,Sem.run_bind,hrun _ _ _ _ _ h1 h2];rfl,gg,_,_,h,by simp[Addr.add_lit]⟩
      ·simp at h2;omega
     ·rename_i r sz2 lo m
      simp only[Option.map_eq_some_iff,Prod.mk.injEq] at he
      obtain⟨⟨sz',es⟩,hq,rfl,rfl⟩:=he
      obtain⟨hg,hg',h0,h00,h1,h2,h3⟩:=hvc
      simp only at h0 h3
      have hv:=rx hg;have hn:=cd (ri hg')
      obtain⟨A,m',c,A',hρ,hc,hv,hA'⟩:=hv
      obtain⟨_,hp,_⟩:=mem.row r sz' es (get?_mem hq)
      rcases hp with ⟨e',us,h4,_⟩|⟨rfl,_⟩
      ·rcases h4.2 with ⟨h,h'⟩|⟨gg,cap,cur,h,_⟩
       ·simp[h'] at h3;omega
       ·have hA:A=some ⟨gg,0,none⟩:=by rw[hρ] at h;cases h;rfl
        subst hA
        rw[hA' (by omega)] at hv
        have hsz:sz2=ti.size:=by omega
        refine⟨.pointer (some ((⟨gg,lo*sz2,none⟩:Addr).add (n.toNat*ti.size))),by simp only[execOp,hv,hn,Option.map_some,Addr.add_lit,Nat.zero_add,Sem.run_bind,hrun _ _ _ _ _ h1 h2];rfl,gg,_,_,h,?_⟩
        simp[Addr.add_lit,Nat.add_mul,h0,hsz]
      ·simp at h3;omega
     ·rename_i hno hno'
      simp only[Option.map_eq_some_iff,Prod.mk.injEq] at he
      obtain⟨⟨sz',es⟩,hq,rfl,rfl⟩:=he
      obtain⟨hg,hg',h0,h1,h2⟩:=hvc
      simp only at h0 h2
      have hv:=iA (rx hg) hq;have hn:=cd (ri hg')
      generalize hvv:a.eval x=vv at hv
      cases hv with
      | nil _ A c=>simp at h2;omega
      | row _ _ ad cap u hcap hS hsz hc hr =>
        have hlt:n.toNat < es.length:=by omega
        have hel:es[n.toNat]?=some (es.getD n.toNat []):=by simp[List.getD,List.getElem?_eq_getElem hlt]
        refine⟨.pointer (some (ad.add (n.toNat*ti.size))),by simp only[execOp,hvv,hn,Sem.run_bind,hrun _ _ _ _ _ h1 h2];rfl,_,rfl,fun j c hj=>?_⟩
        refine⟨u (n.toNat*sz'+j),?_,by rw[iv];exact hS,hr _ _ _ _ hel hj⟩
        rw[kZ,<-h0];exact hc _ _ _ _ hel hj
    ·cases he
   ·cases hz
  ·cases hz
 ·
  rename_i t x i y j
  simp only[Bool.and_eq_true] at hk
  obtain⟨⟨hx,hi⟩,hz⟩:=hk
  have rx:=aC (o:=x) (x:=y) ht hx;have ri:=aC (o:=i) (x:=j) ht hi
  split at hz
  ·rename_i hs
   simp only[ah] at he
   split at he
   ·rename_i g s g' kk n e1 e2
    rw[e1] at rx;rw[e2] at ri
    simp only[Option.some.injEq,Prod.mk.injEq] at he
    obtain⟨rfl,rfl⟩:=he
    obtain⟨hg,hg',h0,h1⟩:=hvc
    have hv:=nv (rx hg);have hn:=cd (ri hg')
    have hlt:n.toNat < s.size:=by omega
    refine⟨.int .u8 (dW s n.toNat),?_,Rep.int _ _⟩
    have hb:s[n.toNat]?=some s[n.toNat]:=by simp[hlt]
    have hbb:dW s n.toNat=(s[n.toNat].toNat:Int):=by
     have:s[n.toNat]=s.data[n.toNat]'(by simpa using hlt):=rfl
     simp only[dW,this]
     congr 2
     have hl:n.toNat < s.data.toList.length:=by simpa using hlt
     simp only[List.getD,List.getElem?_eq_getElem hl,Option.getD_some]
     simp
    simp only[execOp,hv,hn,Sem.run_bind,Instr.index,asIntOf,Sem.run_pure,Result.andThen_ok,run_underlying hs,h0,if_true,hb,hbb]
   ·cases he
  ·cases hz
 ·
  rename_i t x f y off ag
  simp only[Bool.and_eq_true] at hk
  obtain⟨hx,hf⟩:=hk
  have rx:=aC (o:=x) (x:=y) ht hx
  split at hf
  ·rename_i fs hs
   split at hf
   ·rename_i fl hfl
    simp only[Bool.and_eq_true,beq_iff_eq] at hf
    obtain⟨rfl,hag⟩:=hf
    simp only[ah] at he
    split at he
    ·rename_i g qs e1
     rw[e1] at rx
     simp only[Option.some.injEq,Prod.mk.injEq] at he
     obtain⟨rfl,rfl⟩:=he
     obtain⟨hg,hl⟩:=hvc
     obtain⟨us,h1,h2,h3⟩:=rx hg
     have hlen:=sj hl
     refine⟨_,?_,si (us:=fun j=>us.getD (fl.offset+j) undef) hl (fun j q hj=>?_)⟩
     ·simp only[execOp,h1,Sem.run_bind,Instr.field,run_underlying hs,Result.andThen_ok,hfl,asAgg,Sem.run_pure,HP hag (show fl.offset+ag.getD 1<=us.size by omega)]
     ·obtain⟨u,a1,a2,a3⟩:=h3 _ q hj
      have:us.getD (fl.offset+j) undef=u:=by simp[a1]
      simp only[this];exact⟨a2,a3⟩
    ·cases he
   ·cases hf
  ·cases hf
 ·
  rename_i x i y j
  simp only[Bool.and_eq_true,beq_iff_eq] at hk
  obtain⟨hx,rfl⟩:=hk
  have rx:=aC (o:=x) (x:=y) ht hx
  simp only[ah] at he
  split at he
  ·rename_i g xs e1
   rw[e1] at rx
   split at he
   ·rename_i q hq
    simp only[Option.some.injEq,Prod.mk.injEq] at he
    obtain⟨rfl,rfl⟩:=he
    obtain⟨vs,h1,h2⟩:=rx hvc
    obtain⟨v,hv,hr⟩:=h2.get _ _ hq
    exact⟨v,by simp[execOp,h1,Instr.extract,hv],hr⟩
   ·rename_i qs hq
    simp only[Option.some.injEq,Prod.mk.injEq] at he
    obtain⟨rfl,rfl⟩:=he
    obtain⟨vs,h1,h2⟩:=rx hvc
    obtain⟨v,hv,hr⟩:=h2.get _ _ hq
    exact⟨v,by simp[execOp,h1,Instr.extract,hv],hr⟩
   ·cases he
  ·cases he
 ·
  rename_i c y st
  unfold xQ at hk
  split at hk
  ·rename_i x t hb hxs hts
   simp only[Bool.and_eq_true] at hk
   obtain⟨hx,hz⟩:=hk
   have rx:=aC (o:=x) (x:=y) ht hx
   obtain⟨callee,args,argTypes⟩:=c
   simp only at hb hxs hts
   subst hb
   have ha:args=#[x]:=by rw[<-Array.toArray_toList (xs:=args),hxs]
   have htt:argTypes=#[t]:=by rw[<-Array.toArray_toList (xs:=argTypes),hts]
   subst ha htt
   split at hz
   ·rename_i hs
    simp only[ah] at he
    split at he
    ·rename_i g s e1
     rw[e1] at rx
     simp only[Option.some.injEq,Prod.mk.injEq] at he
     obtain⟨rfl,rfl⟩:=he
     have hv:=nv (rx hvc)
     exact⟨.int .i64 s.size,by simp[execOp,resolve,invoke,builtin,Builtin.len_,run_underlying hs,hv,goInt],Rep.int _ _⟩
    ·cases he
   ·rename_i e hs
    have hrun:∀ (A:Option Addr) (n c:Nat),a.eval x=.slice A n c->(execOp a.eval ⟨dst,.call { callee:=.builtin .len,args:=#[x],argTypes:=#[t] },ty,pos,after,guard⟩).run P w=.ok (.value (.int .i64 n)) w:=fun A n c hv=>by
     simp[execOp,resolve,invoke,builtin,Builtin.len_,run_underlying hs,hv,goInt]
    simp only[ah] at he
    split at he
    ·rename_i g r e1
     rw[e1] at rx
     simp only[Option.map_eq_some_iff,Prod.mk.injEq] at he
     obtain⟨⟨sz',es⟩,hq,rfl,rfl⟩:=he
     have hv:=rx hvc
     simp only[ak,af] at hv
     replace hv:=hv.1
     obtain⟨A,c,h⟩:=xX mem hq
     exact⟨_,hrun A _ c (hv.trans h),Rep.int _ _⟩
    ·rename_i g r sz2 lo n e1
     rw[e1] at rx
     simp only[Option.some.injEq,Prod.mk.injEq] at he
     obtain⟨rfl,rfl⟩:=he
     obtain⟨A,m',c,A',_,_,hv,_⟩:=rx hvc
     exact⟨_,hrun _ _ _ hv,Rep.int _ _⟩
    ·rename_i g r sz2 lo n c2 e1
     rw[e1] at rx
     simp only[Option.some.injEq,Prod.mk.injEq] at he
     obtain⟨rfl,rfl⟩:=he
     obtain⟨A,m',A',_,_,hv,_⟩:=rx hvc
     exact⟨_,hrun _ _ _ hv,Rep.int _ _⟩
    ·rename_i g p hno1 hno2 hno3 hno
     rw[hno] at rx
     simp only[Option.map_eq_some_iff,Prod.mk.injEq] at he
     obtain⟨⟨sz',es⟩,hq,rfl,rfl⟩:=he
     obtain⟨A,c,h,_⟩:=oX (iA (rx hvc) hq)
     exact⟨_,hrun A _ c h,Rep.int _ _⟩
   ·cases hz
  ·cases hk
 ·
  rename_i c y
  unfold oV at hk
  split at hk
  ·rename_i x t hb hxs hts
   simp only[Bool.and_eq_true] at hk
   obtain⟨hx,hz⟩:=hk
   have rx:=aC (o:=x) (x:=y) ht hx
   obtain⟨callee,args,argTypes⟩:=c
   simp only at hb hxs hts
   subst hb
   have ha:args=#[x]:=by rw[<-Array.toArray_toList (xs:=args),hxs]
   have htt:argTypes=#[t]:=by rw[<-Array.toArray_toList (xs:=argTypes),hts]
   subst ha htt
   split at hz
   ·rename_i e hs
    simp only[ah] at he
    split at he
    ·rename_i g s e1
     rw[e1] at rx
     simp only[Option.some.injEq,Prod.mk.injEq] at he
     obtain⟨rfl,rfl⟩:=he
     obtain⟨A,hv⟩:=rx hvc
     exact⟨.int .i64 0,by simp[execOp,resolve,invoke,builtin,Builtin.cap_,run_underlying hs,hv,goInt],Rep.int _ _⟩
    ·cases he
   ·cases hz
  ·cases hk
 ·
  simp[ah] at he
 ·
  rename_i c y z
  unfold xR at hk
  split at hk
  ·rename_i f u v hcb hca
   simp only[Bool.and_eq_true] at hk
   obtain⟨⟨hu,hv⟩,hf⟩:=hk
   split at hf
   ·rename_i fn hfn
    simp only[Bool.and_eq_true,okOv,beq_iff_eq,Option.isNone_iff_eq_none] at hf
    obtain⟨⟨⟨h1,h2⟩,h3⟩,⟨⟨⟨⟨h4,h5⟩,h6⟩,h7⟩,h8⟩,h9⟩:=hf
    split at h9
    ·rename_i t hpar
     split at h9
     ·rename_i e hund
      obtain⟨ti,hti⟩:=Option.isSome_iff_exists.1 h9
      simp only[ah] at he
      split at he
      ·rename_i g p g' r sz lo n c2 e1 e2
       split at he
       ·rename_i s s2 hrow hq
        simp only[Option.some.injEq,Prod.mk.injEq] at he
        obtain⟨rfl,rfl⟩:=he
        have ru:=aC (o:=u) (x:=y) ht hu (by rw[e1];exact hvc.1);rw[e1] at ru
        have rv:=aC (o:=v) (x:=z) ht hv (by rw[e2];exact hvc.2.1);rw[e2] at rv
        obtain⟨s,es⟩:=s
        obtain⟨s2,es2⟩:=s2
        have hr:=iA ru hrow
        obtain⟨A0,c0,hu',_⟩:=oX hr
        obtain⟨A,m,A',hρ,hcap,hv',hA'⟩:=rv
        have hs0:0 < s:=hvc.2.2
        obtain⟨_,hp,_⟩:=mem.row r _ _ (get?_mem hq)
        have key:0 < n->∀ bd,A'=some bd->ae (M.ρ r) bd.block/\∃ cur tt,w.heap[bd.block]?=some (.cells cur tt (0,0)):=fun hn bd hbd=>by
         have hbd2:=hA' (by omega)
         rw[hbd] at hbd2
         rcases hp.1 with ⟨e',us,h10,_⟩|⟨_,A2,h10⟩
         ·rw[hρ] at h10
          rcases h10.2 with ⟨h11,_⟩|⟨g1,cap,cur,h11,_,h12,h13,_⟩
          ·cases h11;simp at hbd2
          ·cases h11
           simp only[Option.map_some,Option.some.injEq] at hbd2
           rw[hbd2,iv]
           refine⟨?_,cur,e',h12⟩
           cases c2 with
           | zero=>omega
           | succ c2=>exact .inl (by rw[hρ];simp[ax])
         ·rw[hρ] at h10;cases h10;omega
        have hov:=HS (P:=P) (w:=w) (results:=fn.resultTypes) hpar hund hti (A0:=A0) (A:=A') (n0:=es.length) (c0:=c0) (n:=n) (c:=c2-lo)
         (fun h0 ad had=>by
          rw[hu'] at hr
          cases hr with
          | nil=>simp at h0
          | row _ _ ad' cap uu hcap' hS hsz hc hr' =>
            cases had
            have he0:=List.getElem?_eq_getElem h0
            have hl0:=hsz 0 _ he0
            have:=hc 0 0 _ _ he0 (List.getElem?_eq_getElem (by rw[hl0];exact hs0))
            obtain⟨tt,k,h13,h14,_⟩:=World.shape?_of_cell? this
            rw[iv] at h13
            cases k with
            | zero=>omega
            | succ k=>exact⟨tt,k,h13⟩)
         (fun h0 bd hbd=>(key h0 bd hbd).2)
         (fun h0 h0' ad bd had hbd heq=>by
          rw[hu'] at hr
          cases hr with
          | nil=>simp at h0
          | row _ _ ad' cap uu hcap' hS hsz hc hr' =>
            cases had
            exact mem.sr r _ _ (get?_mem hq) (key h0' bd hbd).1 (heq ▸ hS))
        have hfind:Extern.find fn=some (Extern.SlicesOverlaps.overlaps fn.params fn.resultTypes):=by
         have hl : Extern.allTypedRows.lookup "slices.overlaps" = some Extern.SlicesOverlaps.overlaps := by rfl
         rw[h8] at h7
         simp only[Extern.find,h4,h5,h6,h8,h7,hl,Option.map_none,Option.map_some]
         rfl
        have hrun:=run_callFunc_extern (P:=P) (f:=f) hfn (by simpa using h1) (by simp[h2]) h3 hfind #[a.eval u,a.eval v] w
        rw[hu',hv',hov] at hrun
        obtain⟨callee,args,argTypes⟩:=c
        simp only at hcb hca
        subst hcb
        have ha:args=#[u,v]:=by rw[<-Array.toArray_toList (xs:=args),hca]
        subst ha
        have hg:a.eval (.func f)=.func (.func f) #[] #[]:=rfl
        exact⟨.bool false,by simp[execOp,resolve,hg,Deferred.ofValue,invoke,hu',hv',hrun],Rep.bool _⟩
       ·cases he
      ·cases he
     ·cases h9
    ·cases h9
   ·cases hf
  ·cases hk
 ·
  rename_i c mx y z
  unfold xT at hk
  split at hk
  ·rename_i b u v hcb hca
   simp only[Bool.and_eq_true] at hk
   obtain⟨⟨hb,hu⟩,hv⟩:=hk
   have ru:=aC (o:=u) (x:=y) ht hu
   have rv:=aC (o:=v) (x:=z) ht hv
   obtain⟨callee,args,argTypes⟩:=c
   simp only at hcb hca
   subst hcb
   have ha:args=#[u,v]:=by rw[<-Array.toArray_toList (xs:=args),hca]
   subst ha
   simp only[ah] at he
   split at he
   ·rename_i g k m g' k' n e1 e2
    rw[e1] at ru;rw[e2] at rv
    split at he
    ·rename_i hkk;subst hkk
     simp only[Option.some.injEq,Prod.mk.injEq] at he
     obtain⟨rfl,rfl⟩:=he
     have hu':=cd (ru hvc.1)
     have hv':=cd (rv hvc.2)
     split at hb
     ·exact⟨.int k (if n > m then n else m),by simp[execOp,resolve,invoke,builtin,hu',hv',Builtin.max_,Builtin.max2],by simp only[if_true];exact Rep.int k _⟩
     ·exact⟨.int k (if n < m then n else m),by simp[execOp,resolve,invoke,builtin,hu',hv',Builtin.min_,Builtin.min2],by simp only[Bool.false_eq_true,if_false];exact Rep.int k _⟩
     ·cases hb
    ·cases he
   ·cases he
  ·cases hk
 ·
  rename_i t x lo hi y lo' hi' sz
  simp only[Bool.and_eq_true] at hk
  obtain⟨⟨⟨hx,hlo⟩,hhi⟩,hz⟩:=hk
  have rx:=aC (o:=x) (x:=y) ht hx
  have hL:∀ d gl l,loX σ d lo'=some (gl,l)->gl=true->(lo.map a.eval=none/\l=d)\/∃ k,lo.map a.eval=some (.int k l):=fun d gl l h hg=>xY ht hlo h hg
  have hH:∀ d h,loX σ d hi'=some h->h.1=true->(hi.map a.eval=none/\h.2=d)\/∃ k,hi.map a.eval=some (.int k h.2):=fun d h hh hg=>xY ht hhi hh hg
  split at hz
  ·rename_i hs
   simp only[ah] at he
   split at he
   ·rename_i g s gl l e1 e2
    rw[e1] at rx
    simp only[Option.map_eq_some_iff,Prod.mk.injEq] at he
    obtain⟨h,hh,rfl,rfl⟩:=he
    obtain⟨hg,hgl,hgh,h0,h1,h2⟩:=hvc
    have hv:=nv (rx hg)
    have hb:=le (P:=P) (w:=w) (isS:=false) (len:=s.size) (cap:=s.size) (hL 0 gl l e2 hgl) (hH _ h hh hgh) h0 h1 h2
    refine⟨.string (s.extract l.toNat h.2.toNat),?_,Rep.str _⟩
    simp[execOp,Instr.sliceAt,run_underlying hs,hv,Instr.slice,hb]
   ·cases he
  ·rename_i n e hs
   split at hz
   ·rename_i ti hti
    simp only[beq_iff_eq] at hz
    simp only[ah] at he
    split at he
    ·rename_i g r gl l e1 e2
     rw[e1] at rx
     split at he
     ·rename_i sz' es hq
      simp only[Option.map_eq_some_iff,Prod.mk.injEq] at he
      obtain⟨h,hh,rfl,rfl⟩:=he
      obtain⟨rfl,hg,hgl,hgh,h0,h1,h2⟩:=hvc
      have hv:=rx hg
      simp only[ak,af] at hv
      replace hv:=hv.1
      obtain⟨A,c,hρ,hcap⟩:=jD mem hq
      rw[hρ] at hv
      have hb:=le (P:=P) (w:=w) (isS:=true) (len:=es.length) (cap:=c) (hL 0 gl l e2 hgl) (hH _ h hh hgh) h0 h1 (by omega)
      refine⟨_,?_,A,_,c,(if c=l.toNat then A else A.map fun a=>a.add (l.toNat*(n+1))),hρ,by omega,rfl,fun h=>by rw[if_neg (by omega)]⟩
      simp[execOp,Instr.sliceAt,run_underlying hs,hv,Instr.slice,hb,sizeOf,typeInfo,hti,hz]
     ·cases he
    ·rename_i g r sz2 lo2 n2 gl l e1 e2
     rw[e1] at rx
     split at he
     ·rename_i sz3 es hq
      simp only[Option.map_eq_some_iff,Prod.mk.injEq] at he
      obtain⟨h,hh,rfl,rfl⟩:=he
      obtain⟨rfl,hg,hgl,hgh,h0,h1,h2⟩:=hvc
      obtain⟨A,m',c,A',hρ,hcap,hv,hA'⟩:=rx hg
      have hc2:lo2+h.2<=(c:Int):=by
       rcases h2 with h2|h2
       ·omega
       ·obtain⟨A2,c2,hρ2,hc2⟩:=jD mem hq
        rw[hρ] at hρ2;cases hρ2;omega
      have hb:=le (P:=P) (w:=w) (isS:=true) (len:=n2) (cap:=c-lo2) (hL 0 gl l e2 hgl) (hH _ h hh hgh) h0 h1 (by omega)
      refine⟨.slice (if c-lo2=l.toNat then A' else A'.map fun a=>a.add (l.toNat*(n+1))) (h.2.toNat-l.toNat) (c-lo2-l.toNat),?_,A,_,c,_,hρ,by omega,by rw[Nat.sub_sub],fun hlt=>?_⟩
      ·simp[execOp,Instr.sliceAt,run_underlying hs,hv,Instr.slice,hb,sizeOf,typeInfo,hti,hz]
      ·rw[if_neg (by omega),hA' (by omega)]
       cases A with
       | none=>rfl
       | some ad=>simp[kZ,Nat.add_mul]
     ·cases he
    ·rename_i g r sz2 lo2 n2 c2 gl l e1 e2
     rw[e1] at rx
     simp only[Option.map_eq_some_iff,Prod.mk.injEq] at he
     obtain⟨h,hh,rfl,rfl⟩:=he
     obtain⟨rfl,hg,hgl,hgh,h0,h1,h2⟩:=hvc
     obtain⟨A,m',A',hρ,hcap,hv,hA'⟩:=rx hg
     have hb:=le (P:=P) (w:=w) (isS:=true) (len:=n2) (cap:=c2-lo2) (hL 0 gl l e2 hgl) (hH _ h hh hgh) h0 h1 (by omega)
     refine⟨.slice (if c2-lo2=l.toNat then A' else A'.map fun a=>a.add (l.toNat*(n+1))) (h.2.toNat-l.toNat) (c2-lo2-l.toNat),?_,A,_,_,hρ,by omega,by rw[Nat.sub_sub],fun hlt=>?_⟩
     ·simp[execOp,Instr.sliceAt,run_underlying hs,hv,Instr.slice,hb,sizeOf,typeInfo,hti,hz]
     ·rw[if_neg (by omega),hA' (by omega)]
      cases A with
      | none=>rfl
      | some ad=>simp[kZ,Nat.add_mul]
    ·rename_i g sz' gl l e1 e2
     rw[e1] at rx
     simp only[Option.map_eq_some_iff,Prod.mk.injEq] at he
     obtain⟨h,hh,rfl,rfl⟩:=he
     obtain⟨rfl,hg,hgl,hgh,h0,h1⟩:=hvc
     obtain⟨A,hv⟩:=rx hg
     have hb:=le (P:=P) (w:=w) (isS:=true) (len:=0) (cap:=0) (hL 0 gl l e2 hgl) (hH _ h hh hgh) (by omega) (by omega) (by omega)
     rw[h0,h1] at hb
     refine⟨.slice (if 0=(0:Int).toNat then A else A.map fun a=>a.add ((0:Int).toNat*(n+1))) ((0:Int).toNat-(0:Int).toNat) (0-(0:Int).toNat),?_,_,rfl⟩
     simp[execOp,Instr.sliceAt,run_underlying hs,hv,Instr.slice,hb,sizeOf,typeInfo,hti,hz]
    ·rename_i g p gl l hno1 hno2 hno3 hno4 e1 e2
     rw[e1] at rx
     split at he
     ·rename_i sz' es hrow
      simp only[Option.map_eq_some_iff,Prod.mk.injEq] at he
      obtain⟨h,hh,rfl,rfl⟩:=he
      obtain⟨rfl,hg,hgl,hgh,h0,h1,h2⟩:=hvc
      have hr:=iA (rx hg) hrow
      obtain⟨A,c,hv,hc⟩:=oX hr
      rw[hv] at hr
      have hb:=le (P:=P) (w:=w) (isS:=true) (len:=es.length) (cap:=c) (hL 0 gl l e2 hgl) (hH _ h hh hgh) h0 h1 (by omega)
      refine⟨_,?_,HQ (l:=l.toNat) (h:=h.2.toNat) hr (by omega) (by omega)⟩
      simp[execOp,Instr.sliceAt,run_underlying hs,hv,Instr.slice,hb,sizeOf,typeInfo,hti,hz]
     ·cases he
    ·cases he
   ·cases hz
  ·cases hz
 ·
  rename_i t x lo hi mx y lo' hi' mx' sz
  simp only[Bool.and_eq_true] at hk
  obtain⟨⟨⟨⟨hx,hlo⟩,hhi⟩,hmx⟩,hz⟩:=hk
  have rx:=aC (o:=x) (x:=y) ht hx;have rl:=aC (o:=lo) (x:=lo') ht hlo;have rh:=aC (o:=hi) (x:=hi') ht hhi;have rm:=aC (o:=mx) (x:=mx') ht hmx
  split at hz
  ·rename_i e hs
   split at hz
   ·rename_i ti hti
    simp only[ah] at he
    split at he
    ·rename_i g r gl kl l gh kh h gm km m e1 e2 e3 e4
     split at he
     ·rename_i sz' es hq
      simp only[Option.some.injEq,Prod.mk.injEq] at he
      obtain⟨rfl,rfl⟩:=he
      obtain⟨_,hg,hgl,hgh,hgm,h0,h1,h2,h3⟩:=hvc
      rw[e1] at rx;rw[e2] at rl;rw[e3] at rh;rw[e4] at rm
      have hv:=(rx hg).1
      obtain⟨A,c,hρ,hcap⟩:=jD mem hq
      rw[hρ] at hv
      have vl:=cd (rl hgl);have vh:=cd (rh hgh);have vm:=cd (rm hgm)
      have c1:¬ m < 0:=by omega
      have c2:m<=(c:Int):=by omega
      have c3:¬ h < 0:=by omega
      have c4:¬ l < 0:=by omega
      have em:(m.toNat:Int)=m:=Int.toNat_of_nonneg (by omega)
      have eh:(h.toNat:Int)=h:=Int.toNat_of_nonneg (by omega)
      refine⟨_,by simp[execOp,Instr.sliceAt,run_underlying hs,hv,vl,vh,vm,Instr.slice,Instr.sliceBounds,run_sliceBound,c1,c2,c3,c4,h0,h1,h2,em,eh,show 0<=h by omega,show 0<=m by omega,sizeOf,typeInfo,hti];rfl,trivial⟩
     ·cases he
    ·cases he
   ·cases hz
  ·cases hz
 ·
  rename_i s d x k y
  simp only[Bool.and_eq_true] at hk
  obtain⟨hx,hz⟩:=hk
  have rx:=aC (o:=x) (x:=y) ht hx
  split at hz
  ·rename_i k1 k2 hs hd
   simp only[decide_eq_true_eq] at hz
   subst hz
   simp only[ah] at he
   split at he
   ·rename_i g k' n e1
    rw[e1] at rx
    simp only[Option.some.injEq,Prod.mk.injEq] at he
    obtain⟨rfl,rfl⟩:=he
    have hv:=cd (rx hvc.1)
    exact⟨.int k n,by simp[execOp,convert,run_underlying hs,run_underlying hd,hv,Conv.intToInt,jt hvc.2],Rep.int _ _⟩
   ·cases he
  ·cases hz
 ·
  rename_i s d x y
  simp only[Bool.and_eq_true] at hk
  obtain⟨hx,hz⟩:=hk
  split at hz
  ·rename_i e hs hd
   split at hz
   ·rename_i he8
    simp only[ah] at he
    split at he
    ·rename_i sz es hr
     simp only[Option.map_eq_some_iff,Prod.mk.injEq] at he
     obtain⟨l,hl,rfl,rfl⟩:=he
     obtain⟨hg,rfl⟩:=hvc
     have rx:=iA (aC (o:=x) (x:=y) ht hx hg) hr
     obtain⟨A,c,hv,hrun⟩:=HU (P:=P) rx hl
     rw[hv] at hrun
     exact⟨_,by simp[execOp,hv,run_convert_bytes_string w s d e A es.length c hs he8 hd,hrun],Rep.str _⟩
    ·cases he
   ·cases hz
  ·cases hz
 ·
  rename_i x y
  have rx:=aC (o:=x) (x:=y) ht hk
  simp only[ah] at he
  split at he
  ·rename_i g xs e1
   rw[e1] at rx
   simp only[Option.some.injEq,Prod.mk.injEq] at he
   obtain⟨rfl,rfl⟩:=he
   obtain⟨ad,h1,h2⟩:=rx hvc
   exact⟨_,by simp[execOp,h1],ad,rfl,h2⟩
  ·rename_i g i o e1
   rw[e1] at rx
   simp only[Option.some.injEq,Prod.mk.injEq] at he
   obtain⟨rfl,rfl⟩:=he
   have h1:=rx hvc
   simp only[ak,af] at h1
   exact⟨_,by simp[execOp,h1],rfl⟩
  ·rename_i g i sz k o e1
   rw[e1] at rx
   simp only[Option.some.injEq,Prod.mk.injEq] at he
   obtain⟨rfl,rfl⟩:=he
   obtain⟨g',n,c,h1,h2⟩:=rx hvc
   exact⟨_,by simp[execOp,h2],g',n,c,h1,rfl⟩
  ·cases he
 ·cases hk
end
end Go.Proofs.Pw
namespace Go.Proofs.Pw
open Go.RowKit
variable [Globs]
section
variable {P:Program} {Γ:FuncId->Option Spec} {σ:St} {a:Act} {w:World} {M:Gh} {X:Nat->Prop} {B:Nat}
def RelCs (w:World) (M:Gh) (qs:List Q) (cs:Array Value):Prop :=
 cs.size=qs.length/\∀ (i:Nat) q,qs[i]?=some q->∃ u,cs[i]?=some u/\u.oneCell'=true/\af w M q u
theorem HW {q:Q} {v:Value} (h:af w M q v) (hq:q≠.no):v.oneCell'=true:=by
 cases q with
 | no=>exact absurd rfl hq
 | c x=>exact h.one
 | z _=>obtain⟨a,rfl⟩:=h;rfl
 | full _ _=>exact h.1.one
 | own i=>exact h.2
 | box i o=>simp only[af] at h;subst h;rfl
 | el xs=>obtain⟨a,rfl,_⟩:=h;rfl
 | rp _ _ _ _=>obtain⟨_,_,_,_,rfl⟩:=h;rfl
 | nt _=>obtain⟨_,rfl,_⟩:=h;rfl
 | vw _ _ _ _=>obtain⟨_,_,_,_,_,_,rfl,_⟩:=h;rfl
 | vc _ _ _ _ _=>obtain⟨_,_,_,_,_,rfl,_⟩:=h;rfl
 | nr _ _=>exact h.2
 | np _ _ _ _ _=>obtain⟨_,_,_,_,rfl⟩:=h;rfl
theorem HX {v:Value} (h:v.oneCell'=true):v.cells=#[v]:=by cases v <;> first|rfl|cases h
theorem jE {p:PV} {v:Value} {ag:Option Nat} {ys:List Q} (h:ak w M p v) (hc:cellsOf p ag=some ys):RelCs w M ys v.cells/\ys.length=ag.getD 1:=by
 unfold cellsOf at hc
 split at hc
 ·cases hc
 ·rename_i q hne
  simp at hc;subst hc
  have h1:=HW h (fun e=>hne (by rw[e]))
  rw[HX h1]
  refine⟨⟨rfl,fun i q' hq=>?_⟩,rfl⟩
  cases i with
  | zero=>simp at hq;subst hq;exact⟨v,rfl,h1,h⟩
  | succ i=>simp at hq
 ·rename_i qs n
  split at hc
  ·simp at hc;subst hc
   obtain⟨us,rfl,h2,h3⟩:=h
   exact⟨⟨h2,h3⟩,by assumption⟩
  ·cases hc
 ·cases hc
theorem sk (off:Nat):∀ (l:List Value) (s:Nat) (cs:Array Value),off+s+l.length<=cs.size ->
 ((l.zipIdx s).foldl (fun cs (x:Value × Nat)=>cs.setIfInBounds (off+x.2) x.1) cs).size=cs.size /\
 ∀ k,((l.zipIdx s).foldl (fun cs (x:Value × Nat)=>cs.setIfInBounds (off+x.2) x.1) cs)[k]?=if off+s<=k/\k < off+s+l.length then l[k-(off+s)]? else cs[k]?:=by
 intro l
 induction l with
 | nil=>intro s cs _;simp;intro k h1 h2;omega
 | cons v l ih =>
   intro s cs h
   simp only[List.length_cons] at h
   simp only[List.zipIdx_cons,List.foldl_cons]
   obtain⟨h1,h2⟩:=ih (s+1) (cs.setIfInBounds (off+s) v) (by simp;omega)
   refine⟨by rw[h1];simp,fun k=>?_⟩
   rw[h2 k]
   simp only[List.length_cons]
   by_cases hk:k=off+s
   ·subst hk
    rw[if_neg (by omega),if_pos (by omega)]
    simp[show off+s < cs.size by omega]
   ·by_cases hlt:off+s<=k/\k < off+s+(l.length+1)
    ·rw[if_pos (by omega),if_pos hlt]
     rw[show k-(off+s)=(k-(off+(s+1)))+1 by omega,List.getElem?_cons_succ]
    ·rw[if_neg (by omega),if_neg hlt,Array.getElem?_setIfInBounds,if_neg (by omega)]
theorem xZ (qs ys:List Q) (o i:Nat) (h:o+ys.length<=qs.length):(place qs o ys)[i]?=if o<=i/\i < o+ys.length then ys[i-o]? else qs[i]?:=by
 unfold place
 by_cases h1:i < o
 ·rw[if_neg (by omega),List.append_assoc,List.getElem?_append_left (by simp;omega),List.getElem?_take,if_pos h1]
 ·by_cases h2:i < o+ys.length
  ·rw[if_pos (by omega),List.append_assoc,List.getElem?_append_right (by simp;omega),List.getElem?_append_left (by simp;omega)]
   simp[show min o qs.length=o by omega]
  ·rw[if_neg (by omega),List.getElem?_append_right (by simp;omega),List.getElem?_drop]
   congr 1;simp;omega
theorem ya (qs ys:List Q) (o:Nat) (h:o+ys.length<=qs.length):(place qs o ys).length=qs.length:=by
 unfold place;simp;omega
theorem HY {qs ys:List Q} {cs:Array Value} {v:Value} {o:Nat} (hq:RelCs w M qs cs) (hy:RelCs w M ys v.cells) (hl:o+ys.length<=qs.length) :
 RelCs w M (place qs o ys) (v.cells.zipIdx.foldl (fun cs (x:Value × Nat)=>cs.setIfInBounds (o+x.2) x.1) cs):=by
 have hz:v.cells.zipIdx.foldl (fun cs (x:Value × Nat)=>cs.setIfInBounds (o+x.2) x.1) cs=(v.cells.toList.zipIdx 0).foldl (fun cs (x:Value × Nat)=>cs.setIfInBounds (o+x.2) x.1) cs:=by
  rw[<-Array.foldl_toList];congr 1;simp
 have hlen:v.cells.toList.length=ys.length:=by simpa using hy.1
 obtain⟨h1,h2⟩:=sk o v.cells.toList 0 cs (by rw[hlen,hq.1];omega)
 rw[hz]
 refine⟨by rw[h1,hq.1,ya _ _ _ hl],fun i q hi=>?_⟩
 rw[xZ _ _ _ _ hl] at hi
 rw[h2 i,hlen]
 split at hi
 ·rw[if_pos (by omega)]
  obtain⟨u,a1,a2⟩:=hy.2 _ q hi
  exact⟨u,by simpa using a1,a2⟩
 ·rw[if_neg (by omega)]
  exact hq.2 _ q hi
def okV:Value->Q->Bool
 | .int k n,.c (.int k' n')=>decide (k=k') && decide (n=n')
 | .bool b,.c (.bool b')=>b == b'
 | .string s,.c (.str s')=>decide (s.data.toList=s'.data.toList)
 | .slice none 0 0,.z _=>true
 | .slice none 0 0,.c (.row _ [])=>true
 | v,.no=>v.oneCell'
 | _,_=>false
def eE:List Value->List Q->Bool
 | [],[]=>true
 | v::vs,q::qs=>okV v q && eE vs qs
 | _,_=>false
theorem HZ {v:Value} {q:Q} (h:okV v q=true):v.oneCell'=true/\af w M q v:=by
 unfold okV at h
 split at h
 ·simp only[Bool.and_eq_true,decide_eq_true_eq] at h
  obtain⟨rfl,rfl⟩:=h
  exact⟨rfl,Rep.int _ _⟩
 ·rw[beq_iff_eq] at h;subst h;exact⟨rfl,Rep.bool _⟩
 ·rename_i s s'
  simp only[decide_eq_true_eq] at h
  have:s=s':=by cases s;cases s';rename_i x y;cases x;cases y;simp_all
  subst this;exact⟨rfl,Rep.str _⟩
 ·exact⟨rfl,none,rfl⟩
 ·exact⟨rfl,Rep.nil _ _ _⟩
 ·exact⟨h,trivial⟩
 ·cases h
theorem nw:∀ {vs:List Value} {qs:List Q},eE vs qs=true->RelCs w M qs vs.toArray:=by
 intro vs
 induction vs with
 | nil=>intro qs h;cases qs <;> simp[eE] at h;exact⟨rfl,fun i q hq=>by simp at hq⟩
 | cons v vs ih =>
   intro qs h
   cases qs with
   | nil=>simp[eE] at h
   | cons q qs =>
     simp only[eE,Bool.and_eq_true] at h
     obtain⟨h1,h2⟩:=ih h.2
     refine⟨by simpa using h1,fun i q' hq=>?_⟩
     cases i with
     | zero=>simp at hq;subst hq;exact⟨v,by simp,HZ h.1⟩
     | succ i=>simpa using h2 i q' (by simpa using hq)
def lf (P:Program) (fs:Array Field):List (Nat × Operand)->List (Nat × XO × Option Nat)->Bool
 | [],[]=>true
 | (i,o)::r,(off,x,ag)::r'=>okO o x && (match fs[i]? with
    | some f=>f.offset == off && (match P.info? f.type with|some ti=>ti.size == ag.getD 1|none=>false)
    | none=>false) && lf P fs r r'
 | _,_=>false
def sn (P:Program) (t:TypeId) (ps:Array (Nat × Operand)) (zs:List Q) (ps':List (Nat × XO × Option Nat)):Bool :=
 match P.underlying t,P.info? t with
 | some (.struct fs),some i=>(match i.zero with
   | some z=>eE z.cells.toList zs && lf P fs ps.toList ps' && (fs.toList.mapM (fun f=>(P.info? f.type).map fun i=>(f.offset,i.size))).isSome
   | none=>false)
 | _,_=>false
theorem Ia {fs:List Field}:∀ {places:List (Nat × Nat)},fs.mapM (fun f=>(P.info? f.type).map fun i=>(f.offset,i.size))=some places ->
 ∀ (i:Nat) f ti,fs[i]?=some f->P.info? f.type=some ti->places[i]?=some (f.offset,ti.size):=by
 induction fs with
 | nil=>intro places _ i f ti hf;simp at hf
 | cons g fs ih =>
   intro places h i f ti hf hti
   simp only[List.mapM_cons,Option.bind_eq_bind,Option.pure_def] at h
   cases hi:P.info? g.type with
   | none=>simp[hi] at h
   | some gi =>
     cases hr:fs.mapM (fun f=>(P.info? f.type).map fun i=>(f.offset,i.size)) with
     | none=>simp[hi,hr] at h
     | some rest =>
       simp[hi,hr] at h
       subst h
       cases i with
       | zero=>simp at hf;subst hf;rw[hi] at hti;cases hti;simp
       | succ i=>simpa using ih hr i f ti (by simpa using hf) hti
theorem Ib:∀ (ps':List (Nat × XO × Option Nat)) (vc0 vc:Prop) (qs qs':List Q),dX σ ps' (vc0,qs)=some (vc,qs')->vc->vc0:=by
 intro ps'
 induction ps' with
 | nil =>
   intro vc0 vc qs qs' h hv
   simp only[dX,Option.some.injEq,Prod.mk.injEq] at h
   rw[h.1];exact hv
 | cons p' ps' ih =>
   intro vc0 vc qs qs' h hv
   obtain⟨off,x,ag⟩:=p'
   simp only[dX] at h
   split at h
   ·exact (ih _ _ _ _ h hv).1
   ·cases h
theorem Ic (ht:∀ t p,(t,p) ∈ σ.tm->ak w M p (a.tmps.getD t undef)) {fs:Array Field} {places:List (Nat × Nat)} (hp:fs.toList.mapM (fun f=>(P.info? f.type).map fun i=>(f.offset,i.size))=some places) :
 ∀ (ps:List (Nat × Operand)) (ps':List (Nat × XO × Option Nat)) (vc0 vc:Prop) (qs qs':List Q) (cs:Array Value),lf P fs ps ps'=true->dX σ ps' (vc0,qs)=some (vc,qs')->vc ->
  RelCs w M qs cs->∃ cs',Instr.fill (places.toArray[·]?) cs (ps.map fun (i,x)=>(i,a.eval x))=some cs'/\RelCs w M qs' cs':=by
 intro ps
 induction ps with
 | nil =>
   intro ps' vc0 vc qs qs' cs hk hb hvc hr
   cases ps' with
   | nil =>
     simp only[dX,Option.some.injEq,Prod.mk.injEq] at hb
     exact⟨cs,by simp[Instr.fill],by rw[<-hb.2];exact hr⟩
   | cons _ _=>simp[lf] at hk
 | cons p ps ih =>
   intro ps' vc0 vc qs qs' cs hk hb hvc hr
   obtain⟨i,o⟩:=p
   cases ps' with
   | nil=>simp[lf] at hk
   | cons p' ps' =>
     obtain⟨off,x,ag⟩:=p'
     simp only[lf,Bool.and_eq_true] at hk
     obtain⟨⟨ho,hf⟩,hk⟩:=hk
     split at hf
     ·rename_i f hfi
      simp only[Bool.and_eq_true,beq_iff_eq] at hf
      obtain⟨rfl,hi⟩:=hf
      split at hi
      ·rename_i ti hti
       rw[beq_iff_eq] at hi
       simp only[dX] at hb
       split at hb
       ·rename_i ys hy
        obtain⟨hv0,hg,hle⟩:=Ib _ _ _ _ _ hb hvc
        have rx:=aC (o:=o) (x:=x) ht ho hg
        obtain⟨hrel,hlen⟩:=jE rx hy
        obtain⟨cs',h1,h2⟩:=ih ps' _ vc _ qs' _ hk hb hvc (HY hr hrel hle)
        refine⟨cs',?_,h2⟩
        have hpl:=Ia hp i f ti (by simpa using hfi) hti
        have hpl':places.toArray[i]?=some (f.offset,ti.size):=by simpa using hpl
        simp only[List.map_cons,Instr.fill,hpl']
        rw[if_neg]
        ·exact h1
        ·have:=hrel.1;have:=hr.1
         simp only[ne_eq,Bool.or_eq_true,decide_eq_true_eq,not_or]
         omega
       ·cases hb
      ·cases hi
     ·cases hf
theorem Id (ht:∀ t p,(t,p) ∈ σ.tm->ak w M p (a.tmps.getD t undef)) {t:TypeId} {ps:Array (Nat × Operand)} {zs:List Q} {ps':List (Nat × XO × Option Nat)} (hk:sn P t ps zs ps'=true)
 {vc:Prop} {qs:List Q} (hb:dX σ ps' (True,zs)=some (vc,qs)) (hvc:vc) :
 ∃ v,(Instr.build t (ps.map fun (i,x)=>(i,a.eval x))).run P w=.ok v w/\gF w M qs v:=by
 unfold sn at hk
 split at hk
 ·rename_i fs i hu hi
  split at hk
  ·rename_i z hz
   simp only[Bool.and_eq_true] at hk
   obtain⟨⟨h1,h2⟩,h3⟩:=hk
   obtain⟨places,hp⟩:=Option.isSome_iff_exists.1 h3
   have hz':RelCs w M zs z.cells:=by simpa using nw (w:=w) (M:=M) h1
   obtain⟨cs',h4,h5⟩:=Ic ht hp ps.toList ps' True vc zs qs z.cells h2 hb hvc hz'
   refine⟨.agg cs',run_build w t _ cs' ?_,cs',rfl,h5⟩
   simp only[Program.built,hi,hu,hz,hp,Array.toList_map]
   exact h4
  ·cases hk
 ·cases hk
end
end Go.Proofs.Pw
namespace Go.Proofs.Pw
open Go.RowKit
variable [Globs]
section
variable {P:Program} {Γ:FuncId->Option Spec} {σ:St} {a:Act} {w:World} {M:Gh} {X:Nat->Prop} {B:Nat}
theorem yb {xs:List C} {v:Value} (h:af w M (.el xs) v):Rep w M.S (.ptr xs) v:=by
 obtain⟨a,rfl,h2⟩:=h
 have h3:∀ j,∃ u,∀ c,xs[j]?=some c->w.cell? (a.add j)=some u/\M.S a.block/\Rep w M.S c u:=fun j=>by
  cases hj:xs[j]? with
  | none=>exact⟨undef,fun c hc=>by cases hc⟩
  | some c0 =>
    obtain⟨u,g1,g2,g3⟩:=h2 j c0 hj
    exact⟨u,fun c hc=>by cases hc;exact⟨g1,g2,g3⟩⟩
 refine .ptr xs a (fun j=>Classical.choose (h3 j)) (fun j c hj=>(Classical.choose_spec (h3 j) c hj).2.1) (fun j c hj=>(Classical.choose_spec (h3 j) c hj).1) (fun j c hj=>(Classical.choose_spec (h3 j) c hj).2.2)
theorem yc {c:C} {v:Value} (h:Rep w M.S c v):af w M c.toQ v:=by
 cases h with
 | ptr cs a u hS hc hr=>exact⟨a,rfl,fun j c hj=>⟨u j,hc j c hj,hS j c hj,hr j c hj⟩⟩
 | int k n=>exact Rep.int k n
 | bool b=>exact Rep.bool b
 | str s=>exact Rep.str s
 | fn f=>exact Rep.fn f
 | nil sz a cap=>exact Rep.nil sz a cap
 | row sz es a cap u h1 h2 h3 h4 h5=>exact Rep.row sz es a cap u h1 h2 h3 h4 h5
 | clo f cs us u h1 h2 h3=>exact Rep.clo f cs us u h1 h2 h3
 | zz sz a=>exact⟨a,rfl⟩
 | jk _ h1=>exact Rep.jk _ h1
 | ifc t p=>exact Rep.ifc t p
theorem cQ {q:Q} {c:C} {v:Value} (h:af w M q v) (hc:q.toC=some c):Rep w M.S c v:=by
 cases q <;> simp[Q.toC] at hc
 ·subst hc;exact h
 ·subst hc;obtain⟨a,rfl⟩:=h;exact .nil _ _ _
 ·subst hc;exact h.1
 ·subst hc;exact yb h
theorem yd:∀ {qs:List Q} {cs:List C},cC qs=some cs->qs.length=cs.length/\∀ (i:Nat) c,cs[i]?=some c->∃ q,qs[i]?=some q/\q.toC=some c:=by
 intro qs
 induction qs with
 | nil=>intro cs h;simp[cC] at h;subst h;simp
 | cons q qs ih =>
   intro cs h
   simp only[cC] at h
   split at h
   ·rename_i c cs' h1 h2
    simp at h;subst h
    obtain⟨h3,h4⟩:=ih h2
    refine⟨by simp[h3],fun i c' hi=>?_⟩
    cases i with
    | zero=>simp at hi;subst hi;exact⟨q,by simp,h1⟩
    | succ i=>simpa using h4 i c' (by simpa using hi)
   ·cases h
theorem jF {qs:List Q} {cs:List C} {us:Array Value} (h:RelCs w M qs us) (hc:cC qs=some cs):us.size=cs.length/\∀ (i:Nat) c,cs[i]?=some c->∃ u,us[i]?=some u/\Rep w M.S c u:=by
 obtain⟨h1,h2⟩:=yd hc
 refine⟨h.1.trans h1,fun i c hi=>?_⟩
 obtain⟨q,hq,hqc⟩:=h2 i c hi
 obtain⟨u,hu,_,hr⟩:=h.2 i q hq
 exact⟨u,hu,cQ hr hqc⟩
def dH:Nat->List (Nat × Operand)->List (XO × Option Nat)->Nat->Bool
 | _,[],[],_=>true
 | k,(i,o)::r,(x,ag)::r',sz=>i == k && okO o x && ag.getD 1 == sz && dH (k+1) r r' sz
 | _,_,_,_=>false
def lg (P:Program) (t:TypeId) (len:Nat) (ps:Array (Nat × Operand)) (sz:Nat) (ps':List (XO × Option Nat)):Bool :=
 match P.underlying t with
 | some (.slice e)=>(match P.info? e with
   | some i=>i.size == sz && sz != 0 && len == ps'.length && dH 0 ps.toList ps' sz && decide (len*sz<=16777216) && (match i.zero with|some z=>z.cells.size == sz|none=>false)
   | none=>false)
 | _=>false
theorem ye:∀ {ps:List (Nat × Operand)} {ps':List (XO × Option Nat)} {k sz:Nat},dH k ps ps' sz=true->ps.length=ps'.length:=by
 intro ps
 induction ps with
 | nil=>intro ps' k sz h;cases ps' <;> simp[dH] at h;rfl
 | cons p ps ih =>
   intro ps' k sz h
   cases ps' with
   | nil=>simp[dH] at h
   | cons p' ps'=>simp only[dH,Bool.and_eq_true] at h;simp[ih h.2]
theorem yf (ht:∀ t p,(t,p) ∈ σ.tm->ak w M p (a.tmps.getD t undef)) {sz:Nat} :
 ∀ (ps:List (Nat × Operand)) (ps':List (XO × Option Nat)) (k:Nat) (vc:Prop) (es:List (List C)) (cs:Array Value),dH k ps ps' sz=true->fc σ sz ps'=some (vc,es)->vc ->
  cs.size=(k+ps.length)*sz->∃ cs',Instr.fill (fun i=>some (i*sz,sz)) cs (ps.map fun (i,x)=>(i,a.eval x))=some cs'/\cs'.size=cs.size/\(∀ j,j < k*sz->cs'[j]?=cs[j]?) /\
   es.length=ps'.length/\(∀ (i:Nat) e,es[i]?=some e->e.length=sz)/\∀ (i j:Nat) e c,es[i]?=some e->e[j]?=some c->∃ u,cs'[(k+i)*sz+j]?=some u/\Rep w M.S c u:=by
 intro ps
 induction ps with
 | nil =>
   intro ps' k vc es cs hk hb hvc hs
   cases ps' with
   | nil =>
     simp only[fc,Option.some.injEq,Prod.mk.injEq] at hb
     rw[<-hb.2]
     exact⟨cs,by simp[Instr.fill],rfl,fun _ _=>rfl,rfl,by simp,by simp⟩
   | cons _ _=>simp[dH] at hk
 | cons p ps ih =>
   intro ps' k vc es cs hk hb hvc hs
   obtain⟨i,o⟩:=p
   cases ps' with
   | nil=>simp[dH] at hk
   | cons p' ps' =>
     obtain⟨x,ag⟩:=p'
     simp only[dH,Bool.and_eq_true,beq_iff_eq] at hk
     obtain⟨⟨⟨rfl,ho⟩,hag⟩,hk⟩:=hk
     simp only[fc] at hb
     split at hb
     ·rename_i g p vc' es' e1 e2
      split at hb
      ·rename_i qs hq
       split at hb
       ·rename_i cs0 hc0
        simp only[Option.some.injEq,Prod.mk.injEq] at hb
        obtain⟨rfl,rfl⟩:=hb
        obtain⟨hg,hl,hv⟩:=hvc
        have rx:=aC (o:=o) (x:=x) ht ho (by rw[e1];exact hg)
        rw[e1] at rx
        obtain⟨hrel,hlen⟩:=jE rx hq
        obtain⟨hs1,hs2⟩:=jF hrel hc0
        generalize hvv:a.eval o=v at *
        have hvl:v.cells.toList.length=sz:=by simp[hs1,hl]
        simp only[List.length_cons] at hs
        have hroom:i*sz+0+v.cells.toList.length<=cs.size:=by rw[hvl,hs];have:=Nat.add_mul i (ps.length+1) sz;have:=Nat.add_mul ps.length 1 sz;omega
        obtain⟨g1,g2⟩:=sk (i*sz) v.cells.toList 0 cs hroom
        have hz:v.cells.zipIdx.foldl (fun cs (x:Value × Nat)=>cs.setIfInBounds (i*sz+x.2) x.1) cs=(v.cells.toList.zipIdx 0).foldl (fun cs (x:Value × Nat)=>cs.setIfInBounds (i*sz+x.2) x.1) cs:=by
         rw[<-Array.foldl_toList];congr 1;simp
        have hm:(i+1)*sz=i*sz+sz:=by rw[Nat.add_mul];omega
        obtain⟨cs',f1,f2,f3,f4,f5,f6⟩:=ih ps' (i+1) vc' es' _ hk e2 hv (by rw[g1,hs];congr 1;omega)
        refine⟨cs',?_,f2.trans g1,fun j hj=>?_,by simp[f4],fun j e he=>?_,fun j j' e c he hc=>?_⟩
        ·simp only[List.map_cons,Instr.fill]
         rw[if_neg]
         ·rw[hvv,hz];exact f1
         ·rw[hvv]
          have:v.cells.size=sz:=by simpa using hvl
          simp only[ne_eq,Bool.or_eq_true,decide_eq_true_eq,not_or]
          simp at hroom
          omega
        ·rw[f3 j (by omega),g2 j,if_neg (by omega)]
        ·cases j with
         | zero=>simp at he;subst he;exact hl
         | succ j=>exact f5 j e (by simpa using he)
        ·cases j with
         | zero =>
           simp at he;subst he
           obtain⟨u,hu,hr⟩:=hs2 j' c hc
           have hj':j' < sz:=by have:=(List.getElem?_eq_some_iff.1 hc).1;omega
           refine⟨u,?_,hr⟩
           rw[Nat.add_zero,f3 _ (by omega),g2,if_pos (by omega)]
           rw[show i*sz+j'-(i*sz+0)=j' by omega]
           simpa using hu
         | succ j =>
           obtain⟨u,hu,hr⟩:=f6 j j' e c (by simpa using he) hc
           exact⟨u,by rw[show i+(j+1)=i+1+j by omega];exact hu,hr⟩
       ·cases hb
      ·cases hb
     ·cases hb
theorem Ie (ht:∀ t p,(t,p) ∈ σ.tm->ak w M p (a.tmps.getD t undef)) (hl:∀ g,M.S g->g < w.heap.size) {t:TypeId} {len:Nat} {ps:Array (Nat × Operand)} {sz:Nat} {ps':List (XO × Option Nat)}
 (hk:lg P t len ps sz ps'=true) {vc:Prop} {p:PV} (hb:ah Γ σ (.bsl sz ps')=some (vc,p)) (hvc:vc) :
 ∃ v w' M',(Instr.buildSlice t len (ps.map fun (i,x)=>(i,a.eval x))).run P w=.ok v w'/\Up (fun _=>False) w M w' M'/\ak w' M' p v:=by
 unfold lg at hk
 split at hk
 ·rename_i e hu
  split at hk
  ·rename_i i hi
   simp only[Bool.and_eq_true,beq_iff_eq,bne_iff_ne,ne_eq,decide_eq_true_eq] at hk
   obtain⟨⟨⟨⟨⟨rfl,h0⟩,rfl⟩,h1⟩,h2⟩,h3⟩:=hk
   split at h3
   ·rename_i z hz
    rw[beq_iff_eq] at h3
    have hpl:=ye h1
    obtain⟨es,hes,hres,hp⟩:∃ es,fc σ i.size ps'=some (vc,es)/\es.length=ps'.length/\((ps'=[]/\p=.q (.z i.size))\/(ps'≠[]/\p=.q (.full i.size es))):=by
     cases ps' with
     | nil =>
       simp only[ah,Option.some.injEq,Prod.mk.injEq] at hb
       exact⟨[],by simp[fc,<-hb.1],rfl,.inl ⟨rfl,hb.2.symm⟩⟩
     | cons q r =>
       simp only[ah,Option.map_eq_some_iff,Prod.mk.injEq] at hb
       obtain⟨⟨vc',es⟩,h4,rfl,rfl⟩:=hb
       obtain⟨_,_,_,_,h5,_⟩:=yf (sz:=i.size) ht ps.toList (q::r) 0 vc' es ((Array.range (ps.toList.length*i.size)).map (z.cells[· % z.cells.size]!)) h1 h4 hvc (by simp)
       exact⟨es,h4,h5,.inr ⟨by simp,rfl⟩⟩
    obtain⟨cs',f1,f2,_,_,f5,f6⟩:=yf (sz:=i.size) ht ps.toList ps' 0 vc es ((Array.range (ps.toList.length*i.size)).map (z.cells[· % z.cells.size]!)) h1 hes hvc (by simp)
    simp only[Array.length_toList,Nat.zero_add] at f1 f2 f6
    have hrun:(Instr.buildSlice t ps'.length (ps.map fun (i,x)=>(i,a.eval x))).run P w=.ok (.slice (some ⟨w.heap.size,0,none⟩) ps'.length ps'.length) (w.alloc (.cells cs' e)):=by
     have hps:ps.size=ps'.length:=by simpa using hpl
     have hfill:Instr.fill (fun j=>some (j*i.size,i.size)) ((Array.range (ps'.length*i.size)).map (z.cells[· % z.cells.size]!)) (ps.toList.map fun x=>(x.1,a.eval x.2))=some cs':=by
      rw[<-hps];exact f1
     have hbig:¬ (16777216 < ps'.length*i.size):=by omega
     by_cases hn:ps'.length*i.size=0
     ·have hp0:ps'.length=0:=by
       rcases Nat.mul_eq_zero.1 hn with h|h
       ·exact h
       ·exact absurd h h0
      have hpe:ps.toList=[]:=List.eq_nil_of_length_eq_zero (by omega)
      rw[hpe] at hfill
      simp only[hp0,List.map_nil,Instr.fill,Nat.zero_mul,Option.some.injEq] at hfill
      subst hfill
      simp[Instr.buildSlice,run_underlying hu,sizeOf,typeInfo,hi,hp0,newRow,hpe,Instr.fill,show Array.range 0=#[] from rfl]
     ·simp[Instr.buildSlice,run_underlying hu,sizeOf,typeInfo,hi,zeroValue,hz,hbig,hn,hfill,newRow]
    refine⟨_,_,{ M with S:=fun g=>M.S g\/g=w.heap.size },hrun,⟨rfl,rfl,fun g h=>.inl h,fun g h=>?_,fun g h=>?_,fun _ _ h=>h,?_⟩,?_⟩
    ·rcases h with h|h
     ·exact .inl h
     ·exact .inr (by omega)
    ·simp;rcases h with h|h
     ·have:=hl g h;omega
     ·omega
    ·exact⟨rfl,rfl,rfl,by simp,fun k' hk' _=>Below.heap_alloc w _ k' hk'⟩
    ·rcases hp with ⟨rfl,rfl⟩|⟨hne,rfl⟩
     ·exact⟨_,rfl⟩
     ·have hesne:es≠[]:=by intro h;subst h;simp at hres;exact hne (List.eq_nil_of_length_eq_zero hres.symm)
      rw[<-hres]
      refine⟨.row _ _ ⟨w.heap.size,0,none⟩ _ (fun j=>cs'.getD j undef) (Nat.le_refl _) (.inr rfl) f5 (fun i' j e' c he hc=>?_) (fun i' j e' c he hc=>?_),_,rfl⟩
      ·obtain⟨u,hu',_⟩:=f6 i' j e' c he hc
       rw[Addr.add_lit,Nat.zero_add,cell_of_row _ w.heap.size _ cs' e (0,0) (heap_alloc_new w _)]
       simp[hu']
      ·obtain⟨u,hu',hr⟩:=f6 i' j e' c he hc
       have:cs'.getD (i'*i.size+j) undef=u:=by simp[hu']
       rw[this]
       exact hr.mono (fun g h=>.inl h) (fun g h=>Below.heap_alloc w _ g (hl g h))
   ·cases h3
  ·cases hk
 ·cases hk
end
end Go.Proofs.Pw
namespace Go.Proofs.Pw
open Go.RowKit
variable [Globs]
section
variable {P:Program} {Γ:FuncId->Option Spec} {σ:St} {a:Act} {w w':World} {M M':Gh} {X:Nat->Prop} {B n:Nat} {w0:W0}
theorem sq {S:Nat->Prop} {sz:Nat} {es es':List (List C)} {r:RV} (h:Priv w S sz es r) (hpl:dtR es=some es'):Rep w (fun g=>S g\/ae r g) (.row sz es') r.v:=by
 have hlen:=(se hpl).1
 rcases h.1 with ⟨e,us,hown,hf,_⟩|⟨rfl,A,hv⟩
 ·have hf:=hf.plf hpl
  rcases hown.2 with ⟨hv,h0⟩|⟨g,cap,cur,hv,_,hheap,hnc,_⟩
  ·rw[hv]
   have:=List.eq_nil_of_length_eq_zero (hlen.trans h0)
   subst this;exact .nil ..
  ·cases cap with
   | zero =>
     have:=List.eq_nil_of_length_eq_zero (l:=es') (by omega)
     subst this;rw[hv,show es.length=0 by omega];exact .nil ..
   | succ cap =>
     rw[hv,<-hlen]
     refine .row sz es' _ _ (fun k=>us.getD k undef) (by omega) (.inr (.inl (by rw[hv];simp[ax]))) hf.1 (fun i j e c he hj=>?_) (fun i j e c he hj=>?_)
     ·obtain⟨u,h1,_⟩:=hf.2.2 i j e c he hj
      rw[hown.cells (by rw[hv];rfl) _ _ h1];simp[h1]
     ·obtain⟨u,h1,h2⟩:=hf.2.2 i j e c he hj
      simp only[List.getD_eq_getElem?_getD,h1,Option.getD_some]
      exact h2.mono (fun _ h=>h.imp id .inr) (fun _ _=>rfl)
 ·rw[hv]
  have:=List.eq_nil_of_length_eq_zero (l:=es') hlen
  subst this;exact .nil ..
theorem All3.lens {α β γ:Type} {R:α->β->γ->Prop} {xs:List α} {ys:List β} {zs:List γ} (h:All3 R xs ys zs):xs.length=ys.length:=by
 induction h with
 | nil=>rfl
 | cons _ _ ih=>simp[ih]
theorem RepR.all3 {S:Nat->Prop} {ds:List AV} {v:Value} {fps:List (Nat->Prop)} (h:RepR w S ds v fps):∃ vs,All3 (RepA w S) ds vs fps/\(vs=[v]\/(vs.length≠1/\v=.tuple vs.toArray)):=by
 unfold RepR at h
 split at h
 ·exact⟨_,.cons h .nil,.inl rfl⟩
 ·obtain⟨h1,vs,rfl,h2⟩:=h
  exact⟨vs,h2,.inr ⟨by rw[<-h2.lens];exact h1,rfl⟩⟩
def Pt.dt:Pt->Prop
 | .c _=>True
 | .o _ es=>(dtR es).isSome=true
def AV.dt:AV->Prop
 | .ag ps=>∀ p ∈ ps,p.dt
 | .own _ es=>(dtR es).isSome=true
 | .ref _=>False
 | _=>True
def Spec.weak (sp:Spec):Spec:={ sp with res:=fun ds=>(sp.res ds).map AV.weak,alts:=sp.alts.map fun R ds r o=>∃ r',R ds r' o/\r=r'.map AV.weak }
theorem yg {w:World} {S:Nat->Prop} {sz:Nat} {es:List (List C)} {r:RV} (h:Priv w S sz es r) (hd:(dtR es).isSome=true):Rep w (fun g=>S g\/ae r g) (.row sz ((dtR es).getD [])) r.v:=by
 obtain⟨es',he⟩:=Option.isSome_iff_exists.1 hd
 rw[he];exact sq h he
theorem RepP.weak {w:World} {S S':Nat->Prop} {p:Pt} {u:Value} {f:Nat->Prop} (h:RepP w S p u f) (hp:p.dt) (hS:∀ g,S g->S' g) (hf:∀ g,f g->S' g):Rep w S' p.toC u:=by
 cases p with
 | c x=>exact h.1.mono hS (fun _ _=>rfl)
 | o sz es =>
   obtain⟨_,r,rfl,h1,h2⟩:=h
   exact (yg h1 hp).mono (fun g hg=>hg.elim (hS g) (fun hg=>hf g ((h2 g).2 hg))) (fun _ _=>rfl)
theorem RepPs.weak {w:World} {S S':Nat->Prop} {ps:List Pt} {us:List Value} {fs:List (Nat->Prop)} (h:All3 (RepP w S) ps us fs) (hp:∀ p ∈ ps,p.dt) (hS:∀ g,S g->S' g) (hf:∀ g,Any fs g->S' g) :
 us.length=ps.length/\∀ (i:Nat) c,(ps.map Pt.toC)[i]?=some c->∃ u,us[i]?=some u/\Rep w S' c u:=by
 induction h with
 | nil=>exact⟨rfl,fun i c hc=>by simp at hc⟩
 | @cons p u f ps us fs h1 _ ih =>
   obtain⟨i1,i2⟩:=ih (fun p h=>hp p (by simp[h])) (fun g ⟨q,hq,hg⟩=>hf g ⟨q,by simp[hq],hg⟩)
   refine⟨by simp[i1],fun i c hc=>?_⟩
   cases i with
   | zero =>
     simp only[List.map_cons,List.getElem?_cons_zero,Option.some.injEq] at hc
     subst hc
     exact⟨u,rfl,h1.weak (hp _ (by simp)) hS (fun g hg=>hf g ⟨f,by simp,hg⟩)⟩
   | succ i=>simpa using i2 i c (by simpa using hc)
theorem RepA.weak {w:World} {S S':Nat->Prop} {x:AV} {v:Value} {fp:Nat->Prop} (h:RepA w S x v fp) (hS:∀ g,S g->S' g) (hf:∀ g,fp g->S' g) (hx:x.dt):RepA w S' x.weak v (fun _=>False):=by
 cases x with
 | d x=>exact⟨h.1.mono hS (fun _ _=>rfl),fun _ h=>h⟩
 | ref cs=>exact hx.elim
 | gone=>exact fun _ h=>h
 | own sz es =>
   obtain⟨_,r,rfl,h1,h2⟩:=h
   exact⟨(yg h1 hx).mono (fun g hg=>hg.elim (hS g) (fun hg=>hf g ((h2 g).2 hg))) (fun _ _=>rfl),fun _ h=>h⟩
 | ag ps =>
   obtain⟨us,fs,rfl,h1,_,h3⟩:=h
   obtain⟨k1,k2⟩:=RepPs.weak h1 hx hS (fun g hg=>hf g ((h3 g).2 hg))
   exact⟨⟨us.toArray,rfl,by simpa using k1,fun i c hc=>by simpa using k2 i c hc⟩,fun _ h=>h⟩
theorem All3.weak {w:World} {S S':Nat->Prop} {xs:List AV} {vs:List Value} {fps:List (Nat->Prop)} (h:All3 (RepA w S) xs vs fps) (hS:∀ g,S g->S' g) (hf:∀ g,Any fps g->S' g) (hx:∀ x ∈ xs,x.dt) :
 All3 (RepA w S') (xs.map AV.weak) vs (xs.map fun _ _=>False):=by
 induction h with
 | nil=>exact .nil
 | @cons x v f xs vs fs h1 _ ih=>exact .cons (h1.weak hS (fun g hg=>hf g ⟨f,by simp,hg⟩) (hx x (by simp))) (ih (fun g ⟨q,hq,hg⟩=>hf g ⟨q,by simp[hq],hg⟩) (fun y hy=>hx y (by simp[hy])))
theorem RepR.weak {S:Nat->Prop} {r:List AV} {v:Value} {rfs:List (Nat->Prop)} (h:RepR w S r v rfs) (hr:∀ x ∈ r,x.dt):RepR w (fun g=>S g\/Any rfs g) (r.map AV.weak) v (r.map fun _ _=>False):=by
 obtain⟨us,a1,a2⟩:=RepR.all3 h
 have a3:=a1.weak (S':=fun g=>S g\/Any rfs g) (fun _ h=>.inl h) (fun _ h=>.inr h) hr
 rcases a2 with rfl|⟨a2,rfl⟩
 ·cases a1 with
  | cons b1 b2=>cases b2;cases a3 with
    | cons c1 _=>exact c1
 ·have hl:=a1.lens
  have hl2:(r.map AV.weak).length≠1:=by simpa [hl] using a2
  unfold RepR
  split
  ·rename_i e _;exact absurd (by have:=congrArg List.length e;simpa using this) (by simpa using hl2)
  ·exact⟨hl2,us,rfl,a3⟩
theorem AV.dt_of {x:AV} (h:x.dtb=true):x.dt:=by
 cases x with
 | ag ps=>intro p hp;simp only[AV.dtb,List.all_eq_true] at h;have:=h p hp;cases p <;> first|trivial|exact this
 | own _ es=>exact h
 | ref _=>cases h
 | d _=>trivial
 | gone=>trivial
end
end Go.Proofs.Pw
