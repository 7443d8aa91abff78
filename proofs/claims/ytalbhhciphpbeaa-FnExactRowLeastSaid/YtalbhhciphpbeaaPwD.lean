/- Trees, filters and tasks, as they lie in cells. -/
import Derived.Test.YtalbhhciphpbeaaPwL
set_option linter.unusedSimpArgs false
set_option linter.unusedVariables false
namespace Go.Proofs.Pw

inductive T where
  | mk (kind n : Int) (s : ByteArray) (keys : List ByteArray) (list : List T)
inductive F where
  | mk (kind n : Int) (s : ByteArray) (v : T) (kids : List F)
structure Tk where
  v : T
  todo : List F
structure Gn where
  tasks : List Tk
  fuel : Int
  code : Int

def strs (ks : List ByteArray) : List (List C) := ks.map fun s => [.str s]
mutual
def T.enc : T → List C
  | .mk k n s ks l => [.int .i64 k, .int .i64 n, .str s, .row 1 (strs ks), .row 5 (encL l)]
def encL : List T → List (List C)
  | [] => []
  | t :: l => t.enc :: encL l
end
mutual
def F.enc : F → List C
  | .mk k n s v l => [.int .i64 k, .int .i64 n, .str s] ++ v.enc ++ [.row 9 (encF l)]
def encF : List F → List (List C)
  | [] => []
  | t :: l => t.enc :: encF l
end
def Tk.enc (t : Tk) : List C := t.v.enc ++ [.row 9 (encF t.todo)]
def encTk (l : List Tk) : List (List C) := l.map Tk.enc
def Gn.enc (g : Gn) : List C := [.row 6 (encTk g.tasks), .int .i64 g.fuel, .int .i64 g.code]

theorem encL_map (l : List T) : encL l = l.map T.enc := by
  induction l with
  | nil => simp [encL]
  | cons t l ih => simp [encL, ih]
theorem encF_map (l : List F) : encF l = l.map F.enc := by
  induction l with
  | nil => simp [encF]
  | cons t l ih => simp [encF, ih]
theorem encL_len (l : List T) : (encL l).length = l.length := by rw [encL_map]; simp
theorem encF_len (l : List F) : (encF l).length = l.length := by rw [encF_map]; simp
theorem strs_len (l : List ByteArray) : (strs l).length = l.length := by simp [strs]
theorem encTk_len (l : List Tk) : (encTk l).length = l.length := by simp [encTk]
theorem T.enc_len (t : T) : t.enc.length = 5 := by cases t; simp [T.enc]
theorem F.enc_len (f : F) : f.enc.length = 9 := by cases f; simp [F.enc, T.enc_len]

theorem strs_inj {a b : List ByteArray} (h : strs a = strs b) : a = b := by
  induction a generalizing b with
  | nil => cases b with
    | nil => rfl
    | cons _ _ => simp [strs] at h
  | cons x a ih => cases b with
    | nil => simp [strs] at h
    | cons y b =>
      simp only [strs, List.map_cons, List.cons.injEq, C.str.injEq, and_true] at h
      rw [h.1, ih h.2]
mutual
theorem T.enc_inj : ∀ {a b : T}, a.enc = b.enc → a = b
  | .mk k n s ks l, .mk k' n' s' ks' l', h => by
    simp only [T.enc, List.cons.injEq, C.int.injEq, C.str.injEq, C.row.injEq, true_and, and_true] at h
    obtain ⟨rfl, rfl, rfl, h4, h5⟩ := h
    rw [strs_inj h4, encL_inj h5]
theorem encL_inj : ∀ {a b : List T}, encL a = encL b → a = b
  | [], [], _ => rfl
  | [], _ :: _, h => by simp [encL] at h
  | _ :: _, [], h => by simp [encL] at h
  | x :: a, y :: b, h => by
    simp only [encL, List.cons.injEq] at h
    rw [T.enc_inj h.1, encL_inj h.2]
end
theorem app_inj {α : Type} {a b c d : List α} (h : a ++ b = c ++ d) (hl : a.length = c.length) : a = c ∧ b = d := List.append_inj h hl
mutual
theorem F.enc_inj : ∀ {a b : F}, a.enc = b.enc → a = b
  | .mk k n s v l, .mk k' n' s' v' l', h => by
    simp only [F.enc, List.cons_append, List.nil_append, List.cons.injEq, C.int.injEq, C.str.injEq, true_and] at h
    obtain ⟨rfl, rfl, rfl, h4⟩ := h
    obtain ⟨h5, h6⟩ := app_inj h4 (by rw [T.enc_len, T.enc_len])
    simp only [List.cons.injEq, C.row.injEq, true_and, and_true] at h6
    rw [T.enc_inj h5, encF_inj h6]
theorem encF_inj : ∀ {a b : List F}, encF a = encF b → a = b
  | [], [], _ => rfl
  | [], _ :: _, h => by simp [encF] at h
  | _ :: _, [], h => by simp [encF] at h
  | x :: a, y :: b, h => by
    simp only [encF, List.cons.injEq] at h
    rw [F.enc_inj h.1, encF_inj h.2]
end
theorem Tk.enc_len (f : Tk) : f.enc.length = 6 := by simp [Tk.enc, T.enc_len]
theorem Tk.enc_inj {a b : Tk} (h : a.enc = b.enc) : a = b := by
  obtain ⟨v, l⟩ := a
  obtain ⟨v', l'⟩ := b
  simp only [Tk.enc] at h
  obtain ⟨h5, h6⟩ := app_inj h (by rw [T.enc_len, T.enc_len])
  simp only [List.cons.injEq, C.row.injEq, true_and, and_true] at h6
  rw [T.enc_inj h5, encF_inj h6]
theorem encTk_inj {a b : List Tk} (h : encTk a = encTk b) : a = b := by
  induction a generalizing b with
  | nil => cases b with
    | nil => rfl
    | cons _ _ => simp [encTk] at h
  | cons x a ih => cases b with
    | nil => simp [encTk] at h
    | cons y b =>
      simp only [encTk, List.map_cons, List.cons.injEq] at h
      rw [Tk.enc_inj h.1, ih h.2]
theorem Gn.enc_inj {a b : Gn} (h : a.enc = b.enc) : a = b := by
  obtain ⟨t, f, c⟩ := a
  obtain ⟨t', f', c'⟩ := b
  simp only [Gn.enc, List.cons.injEq, C.row.injEq, C.int.injEq, true_and, and_true] at h
  obtain ⟨h1, rfl, rfl⟩ := h
  rw [encTk_inj h1]
end Go.Proofs.Pw
namespace Go.Proofs.Pw
theorem strs_at {l : List ByteArray} {i : Nat} {s : ByteArray} (h : l[i]? = some s) : (strs l).getD i [] = [.str s] := by simp [strs, h]
theorem encL_at {l : List T} {i : Nat} {t : T} (h : l[i]? = some t) : (encL l).getD i [] = t.enc := by simp [encL_map, h]
theorem drop_at {α : Type} {l : List α} {i : Nat} (h : i < l.length) : ∃ x, l[i]? = some x ∧ l.drop i = x :: l.drop (i + 1) ∧ x ∈ l := ⟨l[i], by simp [h], List.drop_eq_getElem_cons h, by simp⟩
end Go.Proofs.Pw
namespace Go.Proofs.Pw
theorem strs_eq {a b : List ByteArray} : strs a = strs b ↔ a = b := ⟨strs_inj, fun h => h ▸ rfl⟩
theorem T.enc_eq {a b : T} : a.enc = b.enc ↔ a = b := ⟨T.enc_inj, fun h => h ▸ rfl⟩
theorem encL_eq {a b : List T} : encL a = encL b ↔ a = b := ⟨encL_inj, fun h => h ▸ rfl⟩
theorem F.enc_eq {a b : F} : a.enc = b.enc ↔ a = b := ⟨F.enc_inj, fun h => h ▸ rfl⟩
theorem encF_eq {a b : List F} : encF a = encF b ↔ a = b := ⟨encF_inj, fun h => h ▸ rfl⟩
theorem Tk.enc_eq {a b : Tk} : a.enc = b.enc ↔ a = b := ⟨Tk.enc_inj, fun h => h ▸ rfl⟩
theorem encTk_eq {a b : List Tk} : encTk a = encTk b ↔ a = b := ⟨encTk_inj, fun h => h ▸ rfl⟩
theorem Gn.enc_eq {a b : Gn} : a.enc = b.enc ↔ a = b := ⟨Gn.enc_inj, fun h => h ▸ rfl⟩
end Go.Proofs.Pw
namespace Go.Proofs.Pw
noncomputable instance T.dec : DecidableEq T := fun a b => Classical.propDecidable (a = b)
noncomputable instance F.dec : DecidableEq F := fun a b => Classical.propDecidable (a = b)
noncomputable instance Tk.dec : DecidableEq Tk := fun a b => Classical.propDecidable (a = b)
noncomputable instance Gn.dec : DecidableEq Gn := fun a b => Classical.propDecidable (a = b)
theorem ne_at {α : Type} {a b : List α} {i : Nat} {x y : α} (hx : a[i]? = some x) (hy : b[i]? = some y) (h : x ≠ y) : a ≠ b := fun e => by
  subst e; rw [hx] at hy; exact h (by simpa using hy)
theorem take_at {α : Type} {a b : List α} {i : Nat} {x : α} (hx : a[i]? = some x) (hy : b[i]? = some x) (h : a.take i = b.take i) : a.take (i + 1) = b.take (i + 1) := by
  rw [List.take_add_one, List.take_add_one, h, hx, hy]
theorem take_all {α : Type} {a b : List α} (hl : a.length = b.length) (h : a.take a.length = b.take a.length) : a = b := by
  rw [List.take_length, hl, List.take_length] at h; exact h
end Go.Proofs.Pw
namespace Go.Proofs.Pw
theorem T.enc_take (t : T) : (t.enc.map Q.c).take 5 = t.enc.map Q.c := List.take_of_length_le (by simp [T.enc_len])
theorem F.enc_take (t : F) : (t.enc.map Q.c).take 9 = t.enc.map Q.c := List.take_of_length_le (by simp [F.enc_len])
end Go.Proofs.Pw
namespace Go.Proofs.Pw
theorem T.enc_take5 (t : T) : t.enc.take 5 = t.enc := List.take_of_length_le (by simp [T.enc_len])
theorem F.enc_take9 (t : F) : t.enc.take 9 = t.enc := List.take_of_length_le (by simp [F.enc_len])
theorem Tk.enc_take6 (t : Tk) : t.enc.take 6 = t.enc := List.take_of_length_le (by simp [Tk.enc_len])
/-- Bytes, as they lie in cells. -/
def ints (k : IntKind) (bs : List Int) : List (List C) := bs.map fun n => [.int k n]
theorem ints_len (k : IntKind) (bs : List Int) : (ints k bs).length = bs.length := by simp [ints]
theorem ints_at {k : IntKind} {l : List Int} {i : Nat} {n : Int} (h : l[i]? = some n) : (ints k l).getD i [] = [.int k n] := by simp [ints, h]
theorem ints_inj {k : IntKind} : ∀ {a b : List Int}, ints k a = ints k b → a = b := by
  intro a
  induction a with
  | nil => intro b h; cases b with
    | nil => rfl
    | cons _ _ => simp [ints] at h
  | cons x a ih => intro b h; cases b with
    | nil => simp [ints] at h
    | cons y b =>
      simp only [ints, List.map_cons, List.cons.injEq, C.int.injEq, true_and, and_true] at h
      rw [h.1, ih h.2]
theorem ints_eq {k : IntKind} {a b : List Int} : ints k a = ints k b ↔ a = b := ⟨ints_inj, fun h => h ▸ rfl⟩
end Go.Proofs.Pw
namespace Go.Proofs.Pw
theorem plainR_nil : plainR [] = true := rfl
theorem plainR_cons (e : List C) (es : List (List C)) : plainR (e :: es) = (e.all plainC && plainR es) := rfl
theorem plainR_app (a b : List (List C)) : plainR (a ++ b) = (plainR a && plainR b) := by simp [plainR]
theorem plainR_sub {a b : List (List C)} (h : plainR b = true) (hs : ∀ e ∈ a, e ∈ b) : plainR a = true := by
  unfold plainR at *; rw [List.all_eq_true] at *; exact fun e he => h e (hs e he)
theorem plainR_take {a : List (List C)} (n : Nat) (h : plainR a = true) : plainR (a.take n) = true := plainR_sub h (fun _ => List.mem_of_mem_take)
theorem plainR_drop {a : List (List C)} (n : Nat) (h : plainR a = true) : plainR (a.drop n) = true := plainR_sub h (fun _ => List.mem_of_mem_drop)
theorem plainR_strs (l : List ByteArray) : plainR (strs l) = true := by
  unfold plainR strs; rw [List.all_map]; simp [plainC, Function.comp_def]
theorem plainR_ints (k : IntKind) (l : List Int) : plainR (ints k l) = true := by
  unfold plainR ints; rw [List.all_map]; simp [plainC, Function.comp_def]
theorem T.enc_plain (t : T) : t.enc.all plainC = true := by cases t; simp [T.enc, plainC]
theorem F.enc_plain (t : F) : t.enc.all plainC = true := by
  cases t; simp only [F.enc, List.all_append, T.enc_plain]; rfl
theorem Tk.enc_plain (t : Tk) : t.enc.all plainC = true := by
  cases t; simp only [Tk.enc, List.all_append, T.enc_plain]; rfl
theorem plainR_encL (l : List T) : plainR (encL l) = true := by
  induction l with
  | nil => rfl
  | cons t l ih => simp only [encL, plainR_cons, T.enc_plain, ih]; rfl
theorem plainR_encF (l : List F) : plainR (encF l) = true := by
  induction l with
  | nil => rfl
  | cons t l ih => simp only [encF, plainR_cons, F.enc_plain, ih]; rfl
theorem plainR_encTk (l : List Tk) : plainR (encTk l) = true := by
  induction l with
  | nil => rfl
  | cons t l ih => simp only [encTk, List.map_cons, plainR_cons, Tk.enc_plain]; exact ih
theorem plainR_rep (n : Nat) (e : List C) (h : e.all plainC = true) : plainR (List.replicate n e) = true := by
  induction n with
  | zero => rfl
  | succ n ih => rw [List.replicate_succ, plainR_cons, h, ih]; rfl
theorem plainR_set {a : List (List C)} (i : Nat) {e : List C} (h : plainR a = true) (he : e.all plainC = true) : plainR (a.set i e) = true := by
  unfold plainR at *; rw [List.all_eq_true] at h ⊢
  intro x hx
  rcases List.mem_or_eq_of_mem_set hx with hx | rfl
  · exact h x hx
  · exact he
theorem toLs_plain {i k : Nat} : ∀ {cs : List C} {o : Nat}, cs.all plainC = true → toLs i k o cs = cs.map Q.c := by
  intro cs
  induction cs with
  | nil => intro o _; rfl
  | cons c cs ih =>
    intro o h
    simp only [List.all_cons, Bool.and_eq_true] at h
    simp only [toLs, List.map_cons, ih h.2]
    cases c <;> first | rfl | cases h.1
theorem T.enc_toLs (i k o : Nat) (t : T) : toLs i k o t.enc = t.enc.map Q.c := toLs_plain t.enc_plain
theorem F.enc_toLs (i k o : Nat) (t : F) : toLs i k o t.enc = t.enc.map Q.c := toLs_plain t.enc_plain
theorem Tk.enc_toLs (i k o : Nat) (t : Tk) : toLs i k o t.enc = t.enc.map Q.c := toLs_plain t.enc_plain
theorem killN_map (i : Nat) (cs : List C) : (cs.map Q.c).map (Q.killN i) = cs.map Q.c := by rw [List.map_map]; rfl
@[simp] theorem dtR_strs (l : List ByteArray) : dtR (strs l) = some (strs l) := dtR_plain (plainR_strs l)
@[simp] theorem dtR_ints (k : IntKind) (l : List Int) : dtR (ints k l) = some (ints k l) := dtR_plain (plainR_ints k l)
@[simp] theorem dtR_encL (l : List T) : dtR (encL l) = some (encL l) := dtR_plain (plainR_encL l)
@[simp] theorem dtR_encF (l : List F) : dtR (encF l) = some (encF l) := dtR_plain (plainR_encF l)
@[simp] theorem dtR_encTk (l : List Tk) : dtR (encTk l) = some (encTk l) := dtR_plain (plainR_encTk l)
attribute [simp] plainR_strs plainR_ints plainR_encL plainR_encF plainR_encTk
attribute [go_sem] loadL C.toL toLs Q.killN plainR_nil plainR_cons plainR_app plainR_take plainR_drop plainR_strs plainR_ints T.enc_plain F.enc_plain Tk.enc_plain plainR_encL plainR_encF plainR_encTk plainR_rep plainR_set T.enc_toLs F.enc_toLs Tk.enc_toLs killN_map dtR_plain plainC List.all_cons List.all_nil
end Go.Proofs.Pw
namespace Go.Proofs.Pw
attribute [go_sem] initX DV.toP C.toQ Q.pubB Option.bind_some List.map_cons List.map_nil pw_seq pw_reg pw_cond condQ_t condQ_f condQ_d condQ_n not_dec pw_ret pw_skip pw_exit pw_block thenQ_n thenQ_r thenQ_e blkQ_n blkQ_r blkQ_e loopQ_n loopQ_r loopQ_e runX stepR callR orF Spec.at stepX stepM evalK callX callE Gam get? argsX argsE pubIds St.pubs mutIds PV.rowB BASE ltB rowApp St.rowMove St.delO delL List.filter_nil List.filter_cons true_or or_true false_or List.getElem?_cons_zero List.getElem?_cons_succ Nat.zero_add Nat.sub_zero Int.toNat_zero nodupIds outE retE retP allD DV.toS St.v get PV.un PV.row Option.map St.put upd del binC rg St.keep List.map Option.getD effK bne_self_eq_false if_true Bool.true_and Nat.reduceEqDiff if_false reduceIte reduceCtorEq Nat.reduceAdd true_and endQ finX resD resV resOwns refOwns outX PV.owns ownsQ List.append_nil List.nil_append List.foldl PV.toD Q.toC allC and_true implies_true true_implies false_implies AV.d.injEq AV.ref.injEq Option.some.injEq DV.one.injEq DV.agg.injEq C.int.injEq C.bool.injEq C.str.injEq C.row.injEq List.cons.injEq loadC loadQ cellsOf List.length_cons List.length_nil List.getD_cons_zero List.getD_cons_succ List.drop List.take decide_true decide_false Int.toNat_natCast Bool.false_and Bool.and_true Bool.and_false St.map PV.map SV.map St.pub Q.pub del Q.killB Q.killO buildX bslX place placeC asInt? loX Nat.reduceLeDiff Nat.reduceLT List.append List.cons_append Option.bind Bool.not_true Bool.not_false Nat.reduceSub Nat.reduceBNe Nat.add_zero List.getD_nil strs_len encL_len encF_len encTk_len allC_map owns_map C.def killB_map killO_map pub_map T.enc_take F.enc_take T.enc_take5 F.enc_take9 Tk.enc_take6 Nat.le_refl List.length_map List.drop_zero List.flatMap_cons List.flatMap_nil List.any_nil List.any_cons Nat.reduceBEq beq_self_eq_true Bool.or_false pick_or pick_and pick_t pick_f dec_and bq_t bq_f decide_eq_true_eq decide_eq_false_iff_not imp_self not_true_eq_false not_false_eq_true
attribute [go_sem] argsB PV.toDB Q.toCB allCB callB flatP flatC flatS svL svP addR agQ agR pid nodupN List.contains_nil List.contains_cons finG gIds idsR oneI agI gOk oneOk ptOk notIn pw_mix effR Updr.app putO updL St.kil kilQ kilP kilL invC opKil excOf invT invB plT plA rcOf wrU kilI memK PV.ids disj pairOk okPast setP invU outB PV.pl Q.pl plL plL_map id_eq List.map_id List.isEmpty_nil List.mem_singleton
attribute [go_sem ↓] runH one effC
end Go.Proofs.Pw
/- What fits into a machine's memory. -/
namespace Go.Proofs.Pw
def lenB (B : Int) (n : Nat) : Prop := (n : Int) ≤ B
def i64 (n : Int) : Prop := -9223372036854775808 ≤ n ∧ n ≤ 9223372036854775807
def strsFit (B : Int) (ks : List ByteArray) : Prop := lenB B ks.length ∧ ∀ s ∈ ks, lenB B s.size
mutual
def T.fit (B : Int) : T → Prop
  | .mk k n s ks l => i64 k ∧ i64 n ∧ lenB B s.size ∧ strsFit B ks ∧ lenB B l.length ∧ fitL B l
def fitL (B : Int) : List T → Prop
  | [] => True
  | t :: l => t.fit B ∧ fitL B l
end
mutual
def F.fit (B : Int) : F → Prop
  | .mk k n s v l => i64 k ∧ i64 n ∧ lenB B s.size ∧ v.fit B ∧ lenB B l.length ∧ fitF B l
def fitF (B : Int) : List F → Prop
  | [] => True
  | t :: l => t.fit B ∧ fitF B l
end
def Tk.fit (B : Int) (t : Tk) : Prop := t.v.fit B ∧ lenB B t.todo.length ∧ fitF B t.todo
def fitTk (B : Int) (l : List Tk) : Prop := ∀ t ∈ l, t.fit B
def Gn.fit (B : Int) (g : Gn) : Prop := lenB B g.tasks.length ∧ fitTk B g.tasks ∧ i64 g.fuel ∧ i64 g.code
theorem fitL_mem {B : Int} {l : List T} (h : fitL B l) : ∀ t ∈ l, t.fit B := by
  induction l with
  | nil => simp
  | cons x l ih =>
    simp only [fitL] at h
    intro t ht
    rcases List.mem_cons.1 ht with rfl | ht
    · exact h.1
    · exact ih h.2 t ht
theorem size_mem {α : Type} [SizeOf α] {l : List α} {x : α} (h : x ∈ l) : SizeOf.sizeOf x < SizeOf.sizeOf l := List.sizeOf_lt_of_mem h

/-! ### Counting down -/
def szStr : List ByteArray → Int → Int
  | [], left => left
  | s :: r, left => if left - s.size < 0 then -1 else szStr r (left - s.size)
def szStrS (ks : List ByteArray) (left : Int) : Int := if left - ks.length < 0 then -1 else szStr ks (left - ks.length)
mutual
def szT : T → Int → Int
  | .mk _ _ s ks l, left => if left - s.size < 0 then -1 else if szStrS ks (left - s.size) < 0 then -1 else if szStrS ks (left - s.size) - l.length < 0 then -1 else szTL l (szStrS ks (left - s.size) - l.length)
def szTL : List T → Int → Int
  | [], left => left
  | t :: r, left => if szT t left < 0 then -1 else szTL r (szT t left)
end
def szTS (l : List T) (left : Int) : Int := if left - l.length < 0 then -1 else szTL l (left - l.length)
theorem szStr_le : ∀ {ks : List ByteArray} {left : Int}, 0 ≤ left → szStr ks left ≤ left ∧ -1 ≤ szStr ks left := by
  intro ks
  induction ks with
  | nil => intro left h; simp only [szStr]; omega
  | cons s r ih =>
    intro left h
    simp only [szStr]
    split
    · omega
    · have := ih (left := left - s.size) (by omega); omega
theorem szStrS_le {ks : List ByteArray} {left : Int} (h : 0 ≤ left) : szStrS ks left ≤ left ∧ -1 ≤ szStrS ks left := by
  simp only [szStrS]
  split
  · omega
  · have := szStr_le (ks := ks) (left := left - ks.length) (by omega); omega
mutual
theorem szT_le : ∀ {t : T} {left : Int}, 0 ≤ left → szT t left ≤ left ∧ -1 ≤ szT t left
  | .mk k n s ks l, left, h => by
    simp only [szT]
    split
    · omega
    · have h1 := szStrS_le (ks := ks) (left := left - s.size) (by omega)
      split
      · omega
      · split
        · omega
        · have h2 := szTL_le (l := l) (left := szStrS ks (left - s.size) - l.length) (by omega); omega
theorem szTL_le : ∀ {l : List T} {left : Int}, 0 ≤ left → szTL l left ≤ left ∧ -1 ≤ szTL l left
  | [], left, h => by simp only [szTL]; omega
  | t :: r, left, h => by
    simp only [szTL]
    have h1 := szT_le (t := t) h
    split
    · omega
    · have h2 := szTL_le (l := r) (left := szT t left) (by omega); omega
end
theorem szTS_le {l : List T} {left : Int} (h : 0 ≤ left) : szTS l left ≤ left ∧ -1 ≤ szTS l left := by
  simp only [szTS]
  split
  · omega
  · have := szTL_le (l := l) (left := left - l.length) (by omega); omega
mutual
def szF : F → Int → Int
  | .mk _ _ s v l, left => if left - s.size < 0 then -1 else if szT v (left - s.size) < 0 then -1 else if szT v (left - s.size) - l.length < 0 then -1 else szFL l (szT v (left - s.size) - l.length)
def szFL : List F → Int → Int
  | [], left => left
  | t :: r, left => if szF t left < 0 then -1 else szFL r (szF t left)
end
mutual
theorem szF_le : ∀ {t : F} {left : Int}, 0 ≤ left → szF t left ≤ left ∧ -1 ≤ szF t left
  | .mk k n s v l, left, h => by
    simp only [szF]
    split
    · omega
    · have h1 := szT_le (t := v) (left := left - s.size) (by omega)
      split
      · omega
      · split
        · omega
        · have h2 := szFL_le (l := l) (left := szT v (left - s.size) - l.length) (by omega); omega
theorem szFL_le : ∀ {l : List F} {left : Int}, 0 ≤ left → szFL l left ≤ left ∧ -1 ≤ szFL l left
  | [], left, h => by simp only [szFL]; omega
  | t :: r, left, h => by
    simp only [szFL]
    have h1 := szF_le (t := t) h
    split
    · omega
    · have h2 := szFL_le (l := r) (left := szF t left) (by omega); omega
end
end Go.Proofs.Pw
/- What is a tree that is ok, told of trees. -/
namespace Go.Proofs.Pw
/-- Small letters, and not too many. -/
def letter (x : UInt8) : Prop := 97 ≤ x.toNat ∧ x.toNat ≤ 122
def okS (s : ByteArray) : Prop := (∀ x ∈ s.data.toList, letter x) ∧ s.size ≤ 12
noncomputable instance (s : ByteArray) : Decidable (okS s) := Classical.propDecidable _
theorem byteAt_get {s : ByteArray} {i : Nat} (h : i < s.size) : ∃ x, s.data.toList[i]? = some x ∧ byteAt s i = (x.toNat : Int) ∧ x ∈ s.data.toList := by
  have h' : i < s.data.toList.length := by simpa using h
  refine ⟨s.data.toList[i], by simp, ?_, List.getElem_mem h'⟩
  unfold byteAt
  rw [List.getD_eq_getElem?_getD, List.getElem?_eq_getElem h']; rfl
theorem bl_tri : ∀ (x y : List UInt8), (¬ (Op.bytesLess x y = true ∨ x = y)) ↔ Op.bytesLess y x = true := by
  intro x
  induction x with
  | nil => intro y; cases y <;> simp [Op.bytesLess]
  | cons a x ih =>
    intro y
    cases y with
    | nil => simp [Op.bytesLess]
    | cons b y =>
      have := ih y
      simp only [Op.bytesLess, Bool.or_eq_true, decide_eq_true_eq, Bool.and_eq_true, beq_iff_eq, List.cons.injEq]
      have h1 : a < b ↔ a.toNat < b.toNat := UInt8.lt_iff_toNat_lt
      have h2 : b < a ↔ b.toNat < a.toNat := UInt8.lt_iff_toNat_lt
      have h3 : a = b ↔ a.toNat = b.toNat := UInt8.toNat_inj.symm
      rw [h1, h2, h3, eq_comm (a := b), h3]
      constructor
      · intro h
        by_cases e : a.toNat = b.toNat
        · exact .inr ⟨e, this.1 (fun k => h (k.elim (fun k => .inl (.inr ⟨e, k⟩)) (fun k => .inr ⟨e, k⟩)))⟩
        · refine .inl ?_
          have : ¬ a.toNat < b.toNat := fun k => h (.inl (.inl k))
          omega
      · rintro (h | ⟨e, h⟩) k
        · rcases k with (k | ⟨k, _⟩) | ⟨k, _⟩ <;> omega
        · refine this.2 h ?_
          rcases k with (k | ⟨_, k⟩) | ⟨_, k⟩
          · omega
          · exact .inl k
          · exact .inr k
theorem ba_eq {a b : ByteArray} (h : a.toList = b.toList) : a = b := by
  rw [ByteArray.toList_eq, ByteArray.toList_eq] at h
  cases a; cases b; rename_i x y; cases x; cases y; simp_all
theorem sl_tri (a b : ByteArray) : (¬ (sl a b ∨ a = b)) ↔ sl b a := by
  have := bl_tri a.toList b.toList
  unfold sl
  rw [← this]
  constructor
  · intro h k; exact h (k.imp id ba_eq)
  · intro h k; exact h (k.imp id (fun e => by rw [e]))
def okKeysN (ks : List ByteArray) (n : Nat) : Prop := (∀ (j : Nat) k, j < n → ks[j]? = some k → okS k) ∧ ∀ (j : Nat) a b, j + 1 < n → ks[j]? = some a → ks[j + 1]? = some b → sl a b
def okKeys (ks : List ByteArray) : Prop := okKeysN ks ks.length
noncomputable instance (ks : List ByteArray) : Decidable (okKeys ks) := Classical.propDecidable _
theorem okKeysN_zero (ks : List ByteArray) : okKeysN ks 0 := ⟨fun _ _ h => by omega, fun _ _ _ h => by omega⟩
theorem okKeysN_succ {ks : List ByteArray} {n : Nat} {k : ByteArray} (h : okKeysN ks n) (hk : ks[n]? = some k) (h1 : okS k) (h2 : ∀ a, 0 < n → ks[n - 1]? = some a → sl a k) : okKeysN ks (n + 1) := by
  refine ⟨fun j x hj hx => ?_, fun j a b hj ha hb => ?_⟩
  · by_cases e : j = n
    · subst e; rw [hk] at hx; cases hx; exact h1
    · exact h.1 j x (by omega) hx
  · by_cases e : j + 1 = n
    · subst e; rw [hk] at hb; cases hb; exact h2 a (by omega) (by simpa using ha)
    · exact h.2 j a b (by omega) ha hb
theorem okKeys_at {ks : List ByteArray} {n : Nat} {k : ByteArray} (h : okKeys ks) (hk : ks[n]? = some k) : okS k := h.1 n k (List.getElem?_eq_some_iff.1 hk).1 hk
theorem okKeys_lt {ks : List ByteArray} {n : Nat} {a k : ByteArray} (h : okKeys ks) (hn : 0 < n) (ha : ks[n - 1]? = some a) (hk : ks[n]? = some k) : sl a k := by
  have := (List.getElem?_eq_some_iff.1 hk).1
  exact h.2 (n - 1) a k (by omega) ha (by rw [Nat.sub_add_cancel hn]; exact hk)
mutual
def formT : T → Int → Prop
  | .mk k n s ks l, d => 1 ≤ d ∧ (k = 3 ∨ n = 0) ∧ (k = 4 ∨ s = ⟨#[]⟩) ∧ (k = 6 ∨ ks = []) ∧ (5 ≤ k ∨ l = []) ∧ 0 ≤ k ∧ k ≤ 6 ∧ -1000000 ≤ n ∧ n ≤ 1000000 ∧ okS s ∧ (k = 6 → ks.length = l.length ∧ okKeys ks) ∧ formL l (d - 1)
def formL : List T → Int → Prop
  | [], _ => True
  | t :: l, d => formT t d ∧ formL l d
end
noncomputable instance (t : T) (d : Int) : Decidable (formT t d) := Classical.propDecidable _
theorem formL_mem {l : List T} {d : Int} : formL l d ↔ ∀ t ∈ l, formT t d := by
  induction l with
  | nil => simp [formL]
  | cons x l ih => simp [formL, ih]
theorem okS_nil : okS ⟨#[]⟩ := ⟨by simp, by decide⟩
/-! How many parts, up to so deep. -/
mutual
def manyT : T → Int → Int
  | .mk _ _ _ _ l, d => 1 + manyL l d
def manyL : List T → Int → Int
  | [], _ => 0
  | t :: l, d => if 0 < d then manyT t (d - 1) + manyL l d else 0
end
/-! All its parts. -/
mutual
def sizeT : T → Int
  | .mk _ _ _ _ l => 1 + sizeL l
def sizeL : List T → Int
  | [] => 0
  | t :: l => sizeT t + sizeL l
end
def okT (t : T) : Prop := formT t 6 ∧ manyT t 6 ≤ 60
noncomputable instance (t : T) : Decidable (okT t) := Classical.propDecidable _
end Go.Proofs.Pw
namespace Go.Proofs.Pw
mutual
theorem manyT_le : ∀ (t : T) (d : Int), 0 ≤ manyT t d ∧ manyT t d ≤ sizeT t
  | .mk k n s ks l, d => by
    have := manyL_le l d
    simp only [manyT, sizeT]; omega
theorem manyL_le : ∀ (l : List T) (d : Int), 0 ≤ manyL l d ∧ manyL l d ≤ sizeL l
  | [], d => by simp [manyL, sizeL]
  | t :: l, d => by
    have h1 := manyT_le t (d - 1)
    have h2 := manyL_le l d
    simp only [manyL, sizeL]
    split <;> omega
end
theorem sizeL_at {l : List T} {i : Nat} {t : T} (h : l[i]? = some t) : sizeT t ≤ sizeL l := by
  induction l generalizing i with
  | nil => simp at h
  | cons x l ih =>
    have h2 := manyL_le l 0
    have h3 := manyT_le x 0
    cases i with
    | zero => simp at h; subst h; simp only [sizeL]; omega
    | succ i => have := ih (by simpa using h); simp only [sizeL]; omega
end Go.Proofs.Pw
namespace Go.Proofs.Pw
theorem formL_len {l : List T} {d : Int} (h : l.length = 0) : formL l d := by
  cases l with
  | nil => simp [formL]
  | cons _ _ => simp at h
end Go.Proofs.Pw
namespace Go.Proofs.Pw
def headOk (k n : Int) (s : ByteArray) (ks : List ByteArray) (l : List T) : Prop :=
  (k = 3 ∨ n = 0) ∧ (k = 4 ∨ s = ⟨#[]⟩) ∧ (k = 6 ∨ ks.length = 0) ∧ (5 ≤ k ∨ l.length = 0) ∧ 0 ≤ k ∧ k ≤ 6 ∧ -1000000 ≤ n ∧ n ≤ 1000000 ∧ okS s ∧ (k = 6 → ks.length = l.length) ∧ okKeys ks
noncomputable instance (k n : Int) (s : ByteArray) (ks : List ByteArray) (l : List T) : Decidable (headOk k n s ks l) := Classical.propDecidable _
mutual
noncomputable def okI : T → Int → Int → Bool × Int
  | .mk k n s ks l, d, left => if 1 ≤ left ∧ d ≤ 6 ∧ headOk k n s ks l then okIL l (d + 1) (left - 1) else (false, left - 1)
noncomputable def okIL : List T → Int → Int → Bool × Int
  | [], _, left => (true, left)
  | t :: r, d, left => if (okI t d left).1 = true then okIL r d (okI t d left).2 else (false, (okI t d left).2)
end
mutual
theorem okI_le : ∀ (t : T) (d left : Int), (okI t d left).2 ≤ left ∧ ((okI t d left).1 = true → 0 ≤ (okI t d left).2)
  | .mk k n s ks l, d, left => by
    have := okIL_le l (d + 1) (left - 1)
    simp only [okI]
    split
    · exact ⟨by omega, fun h => this.2 (by omega) h⟩
    · exact ⟨by simp only; omega, fun h => by simp at h⟩
theorem okIL_le : ∀ (l : List T) (d left : Int), (okIL l d left).2 ≤ left ∧ (0 ≤ left → (okIL l d left).1 = true → 0 ≤ (okIL l d left).2)
  | [], d, left => by simp [okIL]
  | t :: r, d, left => by
    have h1 := okI_le t d left
    have h2 := okIL_le r d (okI t d left).2
    simp only [okIL]
    split
    · rename_i h; exact ⟨by omega, fun _ h' => h2.2 (h1.2 h) h'⟩
    · rename_i h; exact ⟨h1.1, fun _ h' => by simp at h'⟩
end
end Go.Proofs.Pw
namespace Go.Proofs.Pw
def T.zero : T := .mk 0 0 ⟨#[]⟩ [] []
theorem T.zero_enc : T.zero.enc = [.int .i64 0, .int .i64 0, .str ⟨#[]⟩, .row 1 [], .row 5 []] := by simp [T.zero, T.enc, strs, encL]
end Go.Proofs.Pw
/- What is a filter that is ok, told of filters. -/
namespace Go.Proofs.Pw
def kidsOf (k : Int) : Int :=
  if k = 1 ∨ k = 2 ∨ k = 3 ∨ k = 4 ∨ k = 5 ∨ k = 13 ∨ k = 14 ∨ k = 15 ∨ k = 18 ∨ k = 19 then 0
  else if k = 12 ∨ k = 17 ∨ k = 21 then 1
  else if k = 6 ∨ k = 7 ∨ k = 9 ∨ k = 10 ∨ k = 11 ∨ k = 16 ∨ k = 20 then 2
  else if k = 8 then 3 else -1
mutual
def wayF : F → Prop
  | .mk k _ _ _ l => (k = 1 ∨ k = 3 ∨ k = 4 ∨ k = 5 ∨ k = 18) ∨ ((k = 6 ∨ k = 7) ∧ wayL l 0 ∧ wayL l 1) ∨ (k = 8 ∧ wayL l 1 ∧ wayL l 2)
def wayL : List F → Nat → Prop
  | [], _ => False
  | t :: _, 0 => wayF t
  | _ :: r, n + 1 => wayL r n
end
noncomputable instance (f : F) : Decidable (wayF f) := Classical.propDecidable _
mutual
def kindedF : F → Prop
  | .mk k _ _ _ l => kidsOf k = l.length ∧ kindedL l
def kindedL : List F → Prop
  | [] => True
  | t :: l => kindedF t ∧ kindedL l
end
def cleanF (k n : Int) (s : ByteArray) (v : T) : Prop := (k = 4 ∨ n = 0) ∧ ((k = 3 ∨ k = 21) ∨ s = ⟨#[]⟩) ∧ (k = 2 ∨ v = T.zero)
noncomputable instance (k n : Int) (s : ByteArray) (v : T) : Decidable (cleanF k n s v) := Classical.propDecidable _
mutual
def formF : F → Int → Prop
  | .mk k n s v l, d => 1 ≤ d ∧ kidsOf k = l.length ∧ cleanF k n s v ∧ okS s ∧ -60 ≤ n ∧ n < 60 ∧ okT v ∧ formFL l (d - 1) ∧ (k = 20 → wayL l 0)
def formFL : List F → Int → Prop
  | [], _ => True
  | t :: l, d => formF t d ∧ formFL l d
end
noncomputable instance (t : F) (d : Int) : Decidable (formF t d) := Classical.propDecidable _
mutual
theorem formF_kinded : ∀ {t : F} {d : Int}, formF t d → kindedF t
  | .mk k n s v l, d, h => by
    simp only [formF] at h
    exact ⟨h.2.1, formFL_kinded h.2.2.2.2.2.2.2.1⟩
theorem formFL_kinded : ∀ {l : List F} {d : Int}, formFL l d → kindedL l
  | [], _, _ => trivial
  | t :: l, d, h => by
    simp only [formFL] at h
    exact ⟨formF_kinded h.1, formFL_kinded h.2⟩
end
mutual
def manyF : F → Int → Int
  | .mk _ _ _ _ l, d => 1 + manyFL l d
def manyFL : List F → Int → Int
  | [], _ => 0
  | t :: l, d => if 0 < d then manyF t (d - 1) + manyFL l d else 0
end
mutual
def sizeF : F → Int
  | .mk _ _ _ _ l => 1 + sizeFL l
def sizeFL : List F → Int
  | [] => 0
  | t :: l => sizeF t + sizeFL l
end
def okF (t : F) : Prop := formF t 7 ∧ manyF t 7 ≤ 16
noncomputable instance (t : F) : Decidable (okF t) := Classical.propDecidable _
/-! All its trees are small. -/
mutual
def smallF : F → Prop
  | .mk _ _ _ v l => sizeT v ≤ 1048577 ∧ smallFL l
def smallFL : List F → Prop
  | [] => True
  | t :: l => smallF t ∧ smallFL l
end
mutual
theorem manyF_le : ∀ (t : F) (d : Int), 0 ≤ manyF t d ∧ manyF t d ≤ sizeF t
  | .mk k n s v l, d => by
    have := manyFL_le l d
    simp only [manyF, sizeF]; omega
theorem manyFL_le : ∀ (l : List F) (d : Int), 0 ≤ manyFL l d ∧ manyFL l d ≤ sizeFL l
  | [], d => by simp [manyFL, sizeFL]
  | t :: l, d => by
    have h1 := manyF_le t (d - 1)
    have h2 := manyFL_le l d
    simp only [manyFL, sizeFL]
    split <;> omega
end
end Go.Proofs.Pw
namespace Go.Proofs.Pw
def cleanQ : F → Prop
  | .mk k n s v _ => cleanF k n s v
noncomputable instance (f : F) : Decidable (cleanQ f) := Classical.propDecidable _
end Go.Proofs.Pw
namespace Go.Proofs.Pw
def headF (k n : Int) (s : ByteArray) (v : T) (l : List F) : Prop :=
  1 ≤ k ∧ k ≤ 21 ∧ kidsOf k = l.length ∧ cleanF k n s v ∧ -60 ≤ n ∧ n ≤ 59 ∧ okS s ∧ (okI v 1 60).1 = true
noncomputable instance (k n : Int) (s : ByteArray) (v : T) (l : List F) : Decidable (headF k n s v l) := Classical.propDecidable _
noncomputable instance (k : Int) (l : List F) : Decidable (k = 20 → wayL l 0) := Classical.propDecidable _
mutual
noncomputable def okFI : F → Int → Int → Bool × Int
  | .mk k n s v l, d, left => if 1 ≤ left ∧ d ≤ 7 ∧ headF k n s v l then (if (okFIL l (d + 1) (left - 1)).1 = true then (decide (k = 20 → wayL l 0), (okFIL l (d + 1) (left - 1)).2) else (false, (okFIL l (d + 1) (left - 1)).2)) else (false, left - 1)
noncomputable def okFIL : List F → Int → Int → Bool × Int
  | [], _, left => (true, left)
  | t :: r, d, left => if (okFI t d left).1 = true then okFIL r d (okFI t d left).2 else (false, (okFI t d left).2)
end
mutual
theorem okFI_le : ∀ (t : F) (d left : Int), (okFI t d left).2 ≤ left ∧ ((okFI t d left).1 = true → 0 ≤ (okFI t d left).2 ∧ kindedF t)
  | .mk k n s v l, d, left => by
    have h := okFIL_le l (d + 1) (left - 1)
    simp only [okFI, kindedF]
    split
    · rename_i hc
      split
      · rename_i hr
        exact ⟨by simp only; omega, fun _ => ⟨(h.2 (by omega) hr).1, hc.2.2.2.2.1, (h.2 (by omega) hr).2⟩⟩
      · exact ⟨by simp only; omega, fun h => by simp at h⟩
    · exact ⟨by simp only; omega, fun h => by simp at h⟩
theorem okFIL_le : ∀ (l : List F) (d left : Int), (okFIL l d left).2 ≤ left ∧ (0 ≤ left → (okFIL l d left).1 = true → 0 ≤ (okFIL l d left).2 ∧ kindedL l)
  | [], d, left => by simp [okFIL, kindedL]
  | t :: r, d, left => by
    have h1 := okFI_le t d left
    have h2 := okFIL_le r d (okFI t d left).2
    simp only [okFIL, kindedL]
    split
    · rename_i h; exact ⟨by omega, fun _ h' => ⟨(h2.2 (h1.2 h).1 h').1, (h1.2 h).2, (h2.2 (h1.2 h).1 h').2⟩⟩
    · rename_i h; exact ⟨h1.1, fun _ h' => by simp at h'⟩
end
end Go.Proofs.Pw
/- What is a generator that is ok. -/
namespace Go.Proofs.Pw
def okTk (t : Tk) : Prop := okT t.v ∧ t.todo.length ≤ 40 ∧ ∀ f ∈ t.todo, okF f
def okGn (g : Gn) : Prop := 0 ≤ g.fuel ∧ g.fuel ≤ 400 ∧ 0 ≤ g.code ∧ g.code ≤ 3 ∧ (g.code = 0 ∨ g.tasks.length = 0) ∧ g.tasks.length ≤ 2000 ∧ ∀ t ∈ g.tasks, okTk t
noncomputable instance (g : Gn) : Decidable (okGn g) := Classical.propDecidable _
def okTkI (t : Tk) : Prop := (okI t.v 1 60).1 = true ∧ t.todo.length ≤ 40 ∧ ∀ f ∈ t.todo, (okFI f 1 16).1 = true
def okGnI (g : Gn) : Prop := 0 ≤ g.fuel ∧ g.fuel ≤ 400 ∧ 0 ≤ g.code ∧ g.code ≤ 3 ∧ (g.code = 0 ∨ g.tasks.length = 0) ∧ g.tasks.length ≤ 2000 ∧ ∀ t ∈ g.tasks, okTkI t
noncomputable instance (g : Gn) : Decidable (okGnI g) := Classical.propDecidable _
mutual
/-- The program's count agrees with the specification's. -/
theorem okI_form : ∀ (t : T) (d left : Int), 0 ≤ d → (okI t d left).1 = true → formT t (7 - d) ∧ (okI t d left).2 = left - sizeT t
  | .mk k n s ks l, d, left, hd, h => by
    simp only [okI] at h ⊢
    split at h
    · rename_i hc
      rw [if_pos hc]
      obtain ⟨h1, h2, h3, h4, h5, h6, h7, h8, h9, h10, h11, h12, h13⟩ := hc
      have := okIL_form l (d + 1) (left - 1) (by omega) h
      simp only [formT, sizeT]
      refine ⟨⟨by omega, h3, h4, h5.imp id (fun h => List.eq_nil_of_length_eq_zero h), h6.imp id (fun h => List.eq_nil_of_length_eq_zero h), h7, h8, h9, h10, h11, fun hk => ⟨h12 hk, h13⟩, ?_⟩, by omega⟩
      rw [show 7 - d - 1 = 7 - (d + 1) by omega]; exact this.1
    · cases h
theorem okIL_form : ∀ (l : List T) (d left : Int), 0 ≤ d → (okIL l d left).1 = true → formL l (7 - d) ∧ (okIL l d left).2 = left - sizeL l
  | [], d, left, _, _ => by simp [okIL, formL, sizeL]
  | t :: r, d, left, hd, h => by
    simp only [okIL] at h ⊢
    split at h
    · rename_i hc
      rw [if_pos hc]
      have h1 := okI_form t d left hd hc
      have h2 := okIL_form r d _ hd h
      simp only [formL, sizeL]
      exact ⟨⟨h1.1, h2.1⟩, by omega⟩
    · cases h
end
end Go.Proofs.Pw
namespace Go.Proofs.Pw
mutual
theorem form_okI : ∀ (t : T) (d left : Int), 0 ≤ d → formT t (7 - d) → sizeT t ≤ left → (okI t d left).1 = true ∧ (okI t d left).2 = left - sizeT t
  | .mk k n s ks l, d, left, hd, h, hs => by
    simp only [formT, sizeT] at h hs
    obtain ⟨h1, h2, h3, h4, h5, h6, h7, h8, h9, h10, h11, h12⟩ := h
    have hz := (manyL_le l 0)
    have hk : okKeys ks := by
      rcases h4 with h4 | h4
      · exact (h11 h4).2
      · subst h4; exact okKeysN_zero []
    have hc : 1 ≤ left ∧ d ≤ 6 ∧ headOk k n s ks l := ⟨by omega, by omega, h2, h3, h4.imp id (fun h => by rw [h]; rfl), h5.imp id (fun h => by rw [h]; rfl), h6, h7, h8, h9, h10, fun h => (h11 h).1, hk⟩
    have := form_okIL l (d + 1) (left - 1) (by omega) (by rw [show 7 - (d + 1) = 7 - d - 1 by omega]; exact h12) (by omega)
    simp only [okI, sizeT]
    rw [if_pos hc]
    exact ⟨this.1, by omega⟩
theorem form_okIL : ∀ (l : List T) (d left : Int), 0 ≤ d → formL l (7 - d) → sizeL l ≤ left → (okIL l d left).1 = true ∧ (okIL l d left).2 = left - sizeL l
  | [], d, left, _, _, _ => by simp [okIL, sizeL]
  | t :: r, d, left, hd, h, hs => by
    simp only [formL, sizeL] at h hs
    have hz := (manyL_le r 0)
    have h1 := form_okI t d left hd h.1 (by omega)
    have h2 := form_okIL r d (okI t d left).2 hd h.2 (by omega)
    simp only [okIL, sizeL]
    rw [if_pos h1.1]
    exact ⟨h2.1, by omega⟩
end
mutual
theorem many_size : ∀ (t : T) (d : Int), formT t d → manyT t d = sizeT t
  | .mk k n s ks l, d, h => by
    simp only [formT] at h
    simp only [manyT, sizeT]
    have := manyL_size l d h.2.2.2.2.2.2.2.2.2.2.2
    omega
theorem manyL_size : ∀ (l : List T) (d : Int), formL l (d - 1) → manyL l d = sizeL l
  | [], d, _ => by simp [manyL, sizeL]
  | t :: l, d, h => by
    simp only [formL] at h
    have h1 := many_size t (d - 1) h.1
    have h2 := manyL_size l d h.2
    have h3 : 0 < d := by
      cases t with
      | mk k n s ks r => have := h.1; simp only [formT] at this; omega
    simp only [manyL, sizeL]
    rw [if_pos h3]; omega
end
/-- The program and the specification mean the same trees. -/
theorem okI_iff (t : T) : (okI t 1 60).1 = true ↔ okT t := by
  constructor
  · intro h
    have h1 := okI_form t 1 60 (by omega) h
    have h2 := okI_le t 1 60
    have h3 := many_size t 6 h1.1
    refine ⟨h1.1, ?_⟩
    have := h2.2 h
    omega
  · rintro ⟨h1, h2⟩
    have h3 := many_size t 6 h1
    exact (form_okI t 1 60 (by omega) h1 (by omega)).1
end Go.Proofs.Pw
namespace Go.Proofs.Pw
mutual
theorem okFI_form : ∀ (t : F) (d left : Int), 0 ≤ d → (okFI t d left).1 = true → formF t (8 - d) ∧ (okFI t d left).2 = left - sizeF t
  | .mk k n s v l, d, left, hd, h => by
    simp only [okFI] at h ⊢
    split at h
    · rename_i hc
      rw [if_pos hc]
      split at h
      · rename_i hr
        rw [if_pos hr]
        obtain ⟨h1, h2, h3, h4, h5, h6, h7, h8, h9, h10⟩ := hc
        have := okFIL_form l (d + 1) (left - 1) (by omega) hr
        simp only [formF, sizeF]
        refine ⟨⟨by omega, h5, h6, h9, h7, by omega, (okI_iff v).1 h10, ?_, by simpa using h⟩, by omega⟩
        rw [show 8 - d - 1 = 8 - (d + 1) by omega]; exact this.1
      · cases h
    · cases h
theorem okFIL_form : ∀ (l : List F) (d left : Int), 0 ≤ d → (okFIL l d left).1 = true → formFL l (8 - d) ∧ (okFIL l d left).2 = left - sizeFL l
  | [], d, left, _, _ => by simp [okFIL, formFL, sizeFL]
  | t :: r, d, left, hd, h => by
    simp only [okFIL] at h ⊢
    split at h
    · rename_i hc
      rw [if_pos hc]
      have h1 := okFI_form t d left hd hc
      have h2 := okFIL_form r d _ hd h
      simp only [formFL, sizeFL]
      exact ⟨⟨h1.1, h2.1⟩, by omega⟩
    · cases h
end
theorem kidsOf_range {k : Int} (h : 0 ≤ kidsOf k) : 1 ≤ k ∧ k ≤ 21 := by
  unfold kidsOf at h
  split at h
  · omega
  · split at h
    · omega
    · split at h
      · omega
      · split at h <;> omega
mutual
theorem form_okFI : ∀ (t : F) (d left : Int), 0 ≤ d → formF t (8 - d) → sizeF t ≤ left → (okFI t d left).1 = true ∧ (okFI t d left).2 = left - sizeF t
  | .mk k n s v l, d, left, hd, h, hs => by
    simp only [formF, sizeF] at h hs
    obtain ⟨h1, h2, h3, h4, h5, h6, h7, h8, h9⟩ := h
    have hz := (manyFL_le l 0)
    have hk := kidsOf_range (k := k) (by omega)
    have hc : 1 ≤ left ∧ d ≤ 7 ∧ headF k n s v l := ⟨by omega, by omega, hk.1, hk.2, h2, h3, h5, by omega, h4, (okI_iff v).2 h7⟩
    have := form_okFIL l (d + 1) (left - 1) (by omega) (by rw [show 8 - (d + 1) = 8 - d - 1 by omega]; exact h8) (by omega)
    simp only [okFI, sizeF]
    rw [if_pos hc, if_pos this.1]
    exact ⟨by simpa using h9, by simp only; omega⟩
theorem form_okFIL : ∀ (l : List F) (d left : Int), 0 ≤ d → formFL l (8 - d) → sizeFL l ≤ left → (okFIL l d left).1 = true ∧ (okFIL l d left).2 = left - sizeFL l
  | [], d, left, _, _, _ => by simp [okFIL, sizeFL]
  | t :: r, d, left, hd, h, hs => by
    simp only [formFL, sizeFL] at h hs
    have hz := (manyFL_le r 0)
    have h1 := form_okFI t d left hd h.1 (by omega)
    have h2 := form_okFIL r d (okFI t d left).2 hd h.2 (by omega)
    simp only [okFIL, sizeFL]
    rw [if_pos h1.1]
    exact ⟨h2.1, by omega⟩
end
mutual
theorem manyF_size : ∀ (t : F) (d : Int), formF t d → manyF t d = sizeF t
  | .mk k n s v l, d, h => by
    simp only [formF] at h
    simp only [manyF, sizeF]
    have := manyFL_size l d h.2.2.2.2.2.2.2.1
    omega
theorem manyFL_size : ∀ (l : List F) (d : Int), formFL l (d - 1) → manyFL l d = sizeFL l
  | [], d, _ => by simp [manyFL, sizeFL]
  | t :: l, d, h => by
    simp only [formFL] at h
    have h1 := manyF_size t (d - 1) h.1
    have h2 := manyFL_size l d h.2
    have h3 : 0 < d := by
      cases t with
      | mk k n s v r => have := h.1; simp only [formF] at this; omega
    simp only [manyFL, sizeFL]
    rw [if_pos h3]; omega
end
end Go.Proofs.Pw
/- What is small enough by the laws' count fits. -/
namespace Go.Proofs.Pw
theorem szStr_fit : ∀ {ks : List ByteArray} {left : Int}, 0 ≤ left → 0 ≤ szStr ks left → ∀ s ∈ ks, (s.size : Int) ≤ left := by
  intro ks
  induction ks with
  | nil => intro left _ _ s hs; simp at hs
  | cons x r ih =>
    intro left h0 h s hs
    simp only [szStr] at h
    split at h
    · omega
    · rcases List.mem_cons.1 hs with rfl | hs
      · omega
      · have := ih (left := left - x.size) (by omega) h s hs; omega
theorem szStrS_fit {ks : List ByteArray} {left : Int} (h0 : 0 ≤ left) (hl : left ≤ 1048576) (h : 0 ≤ szStrS ks left) : strsFit 1048576 ks := by
  simp only [szStrS] at h
  split at h
  · omega
  · refine ⟨by unfold lenB; omega, fun s hs => ?_⟩
    have := szStr_fit (left := left - ks.length) (by omega) h s hs
    unfold lenB; omega
mutual
theorem szT_fit : ∀ {t : T} {left : Int} {B : Int}, 0 ≤ left → left ≤ 1048576 → t.fit B → 0 ≤ szT t left → t.fit 1048576 ∧ sizeT t ≤ left - szT t left + 1
  | .mk k n s ks l, left, B, h0, hl, hf, h => by
    simp only [T.fit] at hf ⊢
    simp only [szT, sizeT] at h ⊢
    have e1 := szStrS_le (ks := ks) (left := left - s.size)
    split at h
    · omega
    · split at h
      · omega
      · split at h
        · omega
        · rename_i a b c
          rw [if_neg a, if_neg b, if_neg c]
          have h1 := szStrS_fit (ks := ks) (left := left - s.size) (by omega) (by omega) (by omega)
          have h2 := szTL_fit (l := l) (B := B) (left := szStrS ks (left - s.size) - l.length) (by omega) (by omega) hf.2.2.2.2.2 h
          refine ⟨⟨hf.1, hf.2.1, by unfold lenB; omega, h1, by unfold lenB; omega, h2.1⟩, by omega⟩
theorem szTL_fit : ∀ {l : List T} {left : Int} {B : Int}, 0 ≤ left → left ≤ 1048576 → fitL B l → 0 ≤ szTL l left → fitL 1048576 l ∧ sizeL l ≤ left - szTL l left + l.length
  | [], left, B, h0, hl, hf, h => by simp [fitL, sizeL, szTL]
  | t :: r, left, B, h0, hl, hf, h => by
    simp only [fitL] at hf ⊢
    simp only [szTL, sizeL, List.length_cons] at h ⊢
    have e1 := szT_le (t := t) h0
    split at h
    · omega
    · rename_i a
      rw [if_neg a]
      have h1 := szT_fit (t := t) h0 hl hf.1 (by omega)
      have h2 := szTL_fit (l := r) (left := szT t left) (by omega) (by omega) hf.2 h
      exact ⟨⟨h1.1, h2.1⟩, by omega⟩
end
end Go.Proofs.Pw
namespace Go.Proofs.Pw
mutual
theorem szF_fit : ∀ {t : F} {left : Int} {B : Int}, 0 ≤ left → left ≤ 1048576 → t.fit B → 0 ≤ szF t left → t.fit 1048576 ∧ smallF t ∧ sizeF t ≤ left - szF t left + 1
  | .mk k n s v l, left, B, h0, hl, hf, h => by
    simp only [F.fit] at hf ⊢
    simp only [szF, sizeF, smallF] at h ⊢
    have e1 := szT_le (t := v) (left := left - s.size)
    split at h
    · omega
    · split at h
      · omega
      · split at h
        · omega
        · rename_i a b c
          rw [if_neg a, if_neg b, if_neg c]
          have h1 := szT_fit (t := v) (B := B) (left := left - s.size) (by omega) (by omega) hf.2.2.2.1 (by omega)
          have h2 := szFL_fit (l := l) (B := B) (left := szT v (left - s.size) - l.length) (by omega) (by omega) hf.2.2.2.2.2 h
          refine ⟨⟨hf.1, hf.2.1, by unfold lenB; omega, h1.1, by unfold lenB; omega, h2.1⟩, ⟨by omega, h2.2.1⟩, by omega⟩
theorem szFL_fit : ∀ {l : List F} {left : Int} {B : Int}, 0 ≤ left → left ≤ 1048576 → fitF B l → 0 ≤ szFL l left → fitF 1048576 l ∧ smallFL l ∧ sizeFL l ≤ left - szFL l left + l.length
  | [], left, B, h0, hl, hf, h => by simp [fitF, sizeFL, szFL, smallFL]
  | t :: r, left, B, h0, hl, hf, h => by
    simp only [fitF] at hf ⊢
    simp only [szFL, sizeFL, smallFL, List.length_cons] at h ⊢
    have e1 := szF_le (t := t) h0
    split at h
    · omega
    · rename_i a
      rw [if_neg a]
      have h1 := szF_fit (t := t) h0 hl hf.1 (by omega)
      have h2 := szFL_fit (l := r) (left := szF t left) (by omega) (by omega) hf.2 h
      exact ⟨⟨h1.1, h2.1⟩, ⟨h1.2.1, h2.2.1⟩, by omega⟩
end
end Go.Proofs.Pw
namespace Go.Proofs.Pw
end Go.Proofs.Pw
namespace Go.Proofs.Pw
section
set_option linter.unusedSectionVars false
variable {B B' : Int} (hB : B ≤ B')
include hB
theorem lenB_le {n : Nat} (h : lenB B n) : lenB B' n := by unfold lenB at *; omega
theorem strsFit_le {ks : List ByteArray} (h : strsFit B ks) : strsFit B' ks := ⟨lenB_le hB h.1, fun s hs => lenB_le hB (h.2 s hs)⟩
mutual
theorem T.fit_le : ∀ {t : T}, t.fit B → t.fit B'
  | .mk k n s ks l, h => by
    simp only [T.fit] at h ⊢
    exact ⟨h.1, h.2.1, lenB_le hB h.2.2.1, strsFit_le hB h.2.2.2.1, lenB_le hB h.2.2.2.2.1, fitL_le h.2.2.2.2.2⟩
theorem fitL_le : ∀ {l : List T}, fitL B l → fitL B' l
  | [], _ => trivial
  | t :: l, h => by
    simp only [fitL] at h ⊢
    exact ⟨T.fit_le h.1, fitL_le h.2⟩
end
mutual
theorem F.fit_le : ∀ {t : F}, t.fit B → t.fit B'
  | .mk k n s v l, h => by
    simp only [F.fit] at h ⊢
    exact ⟨h.1, h.2.1, lenB_le hB h.2.2.1, T.fit_le hB h.2.2.2.1, lenB_le hB h.2.2.2.2.1, fitF_le h.2.2.2.2.2⟩
theorem fitF_le : ∀ {l : List F}, fitF B l → fitF B' l
  | [], _ => trivial
  | t :: l, h => by
    simp only [fitF] at h ⊢
    exact ⟨F.fit_le h.1, fitF_le h.2⟩
end
theorem Tk.fit_le {t : Tk} (h : t.fit B) : t.fit B' := ⟨T.fit_le hB h.1, lenB_le hB h.2.1, fitF_le hB h.2.2⟩
theorem Gn.fit_le {g : Gn} (h : g.fit B) : g.fit B' := ⟨lenB_le hB h.1, fun t ht => Tk.fit_le hB (h.2.1 t ht), h.2.2⟩
end
end Go.Proofs.Pw
/- What is drawn: trees that are small. -/
namespace Go.Proofs.Pw
open Go.RowKit
set_option linter.unusedSectionVars false
mutual
theorem T.fit_mono {A B : Int} (hAB : A ≤ B) : ∀ {t : T}, t.fit A → t.fit B
  | .mk k n s ks l, h => by
    simp only [T.fit, strsFit, lenB] at h ⊢
    obtain ⟨h1, h2, h3, ⟨h4, h5⟩, h6, h7⟩ := h
    exact ⟨h1, h2, by omega, ⟨by omega, fun s hs => by have := h5 s hs; omega⟩, by omega, fitL_mono hAB h7⟩
theorem fitL_mono {A B : Int} (hAB : A ≤ B) : ∀ {l : List T}, fitL A l → fitL B l
  | [], _ => trivial
  | _ :: _, h => ⟨T.fit_mono hAB h.1, fitL_mono hAB h.2⟩
end
/-- A tree of so many parts at most. -/
def topT (b : Nat) : T → Prop
  | .mk _ _ _ ks l => l.length ≤ b ∧ ks.length ≤ b
def drT (m : Int) (t : T) : Prop := t.fit 1000 ∧ sizeT t ≤ m ∧ topT 6 t
theorem drT.fit {m : Int} {t : T} (h : drT m t) : t.fit 140737488355328 := T.fit_mono (by decide) h.1
theorem drT.mono {m n : Int} (hmn : m ≤ n) {t : T} (h : drT m t) : drT n t := ⟨h.1, Int.le_trans h.2.1 hmn, h.2.2⟩
/-- How many numbers a tree not deeper than so may take, and how many parts it may have. -/
def vb : Nat → Int
  | 0 => 20
  | k + 1 => 20 + 5 * vb k
theorem strs_app (a b : List ByteArray) : strs (a ++ b) = strs a ++ strs b := by simp [strs]
theorem encL_app (a b : List T) : encL (a ++ b) = encL a ++ encL b := by
  induction a with
  | nil => simp [encL]
  | cons t a ih => simp only [List.cons_append, encL, ih]
section
variable [Globs]
/-- A variable's cell that holds a slice without capacity holds a private row. -/
theorem Le.ownB {tm : List (Nat × PV)} {bx : List (Nat × List Q)} {rw_ : List (Nat × Nat × List (List C))} {b j d sz : Nat} {qs : List Q} (h0 : 0 < sz) (hb : (b, qs) ∈ bx) (hj : qs[j]? = some (.z sz))
    (hk : ∀ p ∈ bx, ∀ q ∈ p.2, q.killO d = q) (ht : ∀ p ∈ tm, p.2.map (Q.killO d) = p.2) (hdB : d < BASE := by decide) : Le ⟨tm, bx, rw_⟩ ⟨tm, upd b (qs.set j (.own d)) bx, upd d (sz, []) rw_⟩ := fun X n B w0 ac w M hs => by
  obtain ⟨hB, t, cells, c1, c2, c3⟩ := hs.mem.box b qs hb
  obtain ⟨u, u1, u2, A, hz⟩ := c3 j _ hj
  have hpb : ∀ g, ¬ pblk (RV.of u) g := fun g => by rw [pblk_of, hz]; cases A <;> simp [oblk]
  have hm := Mem.getRow (σ := ⟨tm, bx, rw_⟩) (d := d) (es := []) (v' := RV.of u) hs.mem h0 ⟨.inr ⟨rfl, A, hz⟩, fun _ h => h.elim⟩ (fun g hg => absurd hg (hpb g)) (fun g hg => absurd hg (hpb g)) (fun _ _ _ hg => absurd hg (hpb _)) (fun _ _ g _ _ hg => absurd hg (hpb g))
  have hbx : (St.map (Q.killO d) ⟨tm, bx, rw_⟩).bx = bx := by
    simp only [St.map]
    conv => rhs; rw [← List.map_id bx]
    refine List.map_congr_left (fun p hp => ?_)
    obtain ⟨i, qs⟩ := p
    simp only [id, Prod.mk.injEq, true_and]
    conv => rhs; rw [← List.map_id qs]
    exact List.map_congr_left (fun q hq => hk _ hp q hq)
  rw [hbx] at hm
  have hin : ∀ {i q}, (i, q) ∈ upd b (qs.set j (.own d)) bx → ∃ q', (i, q') ∈ bx := fun h => by
    rcases upd_mem h with ⟨rfl, _⟩ | ⟨_, h⟩
    · exact ⟨_, hb⟩
    · exact ⟨_, h⟩
  refine ⟨M.nr d (RV.of u), hs.size, hs.defs, fun t' p hp => ?_, ⟨fun i q h => ?_, hm.row, fun i q i' q' h h' hne => ?_, fun i q i' r h h' => ?_, hm.rr, hm.lt, fun i q h => ?_, hm.sr, hm.gl⟩, hs.fr, hs.hB, hs.sS, hs.sβ, fun i hi hb => by simp only [Gh.nr]; rw [if_neg (by omega)]; exact hs.sρ i hi hb⟩
  · have := map_v (nr_q (d := d) (v' := RV.of u) (Up.refl hs.mem.lt) hs.mem.lt) (hs.tm _ _ hp)
    rwa [ht _ hp] at this
  · rcases upd_mem h with ⟨rfl, rfl⟩ | ⟨_, h⟩
    · obtain ⟨k1, t', cells', k2, k3, k4⟩ := hm.box _ qs hb
      have hce : cells' = cells := by
        have e := k2.symm.trans c1
        simp only [Option.some.injEq] at e
        cases e; rfl
      subst hce
      refine ⟨k1, t', _, k2, by rw [List.length_set]; exact k3, fun j' q hq => ?_⟩
      by_cases hjj : j = j'
      · subst hjj
        have hlt : j < qs.length := (List.getElem?_eq_some_iff.1 hj).1
        rw [List.getElem?_set_self hlt] at hq
        cases hq
        exact ⟨u, u1, u2, by simp [Gh.nr], by rw [hz]; rfl⟩
      · rw [List.getElem?_set_ne hjj] at hq
        exact k4 j' q hq
    · exact hm.box i q h
  · obtain ⟨_, e1⟩ := hin h; obtain ⟨_, e2⟩ := hin h'
    exact hm.bb _ _ _ _ e1 e2 hne
  · obtain ⟨_, e1⟩ := hin h
    exact hm.br _ _ _ _ e1 h'
  · obtain ⟨_, e1⟩ := hin h
    exact hm.sb _ _ e1
def QLe (p q : Q) : Prop := ∀ w M v, RelQ w M p v → RelQ w M q v
theorem QLe.refl (p : Q) : QLe p p := fun _ _ _ h => h
theorem QLe.z (sz : Nat) : QLe (.z sz) (.c (.row sz [])) := fun _ _ _ h => by obtain ⟨A, rfl⟩ := h; exact .nil sz A 0
theorem QLe.full (sz : Nat) (es : List (List C)) : QLe (.full sz es) (.c (.row sz es)) := fun _ _ _ h => h.1
theorem QLe.no (p : Q) : QLe p .no := fun _ _ _ _ => trivial
theorem Le.bx {tm : List (Nat × PV)} {bx bx' : List (Nat × List Q)} {rw_ : List (Nat × Nat × List (List C))} (h : ∀ p ∈ bx', ∃ q, (p.1, q) ∈ bx ∧ All2 QLe q p.2) : Le ⟨tm, bx, rw_⟩ ⟨tm, bx', rw_⟩ := fun X n B w0 ac w M hs => by
  have hin : ∀ {i q}, (i, q) ∈ bx' → ∃ q', (i, q') ∈ bx := fun hq => by obtain ⟨q', h1, _⟩ := h _ hq; exact ⟨q', h1⟩
  refine ⟨M, hs.size, hs.defs, hs.tm, ⟨fun i q hq => ?_, hs.mem.row, fun i q j q' h1 h2 hne => ?_, fun i q j r h1 h2 => ?_, hs.mem.rr, hs.mem.lt, fun i q h1 => ?_, hs.mem.sr, hs.mem.gl⟩, hs.fr, hs.hB, hs.sS, hs.sβ, hs.sρ⟩
  · obtain ⟨q', h1, h2⟩ := h _ hq
    obtain ⟨k1, t, cells, k2, k3, k4⟩ := hs.mem.box i q' h1
    refine ⟨k1, t, cells, k2, by rw [k3]; exact h2.length, fun j x hx => ?_⟩
    have hlt : j < q'.length := by rw [h2.length]; exact (List.getElem?_eq_some_iff.1 hx).1
    obtain ⟨u, u1, u2, u3⟩ := k4 j q'[j] (by simp [hlt])
    obtain ⟨y, hy, hle⟩ := h2.get j q'[j] (by simp [hlt])
    rw [hx] at hy; cases hy
    exact ⟨u, u1, u2, hle _ _ _ u3⟩
  · obtain ⟨_, e1⟩ := hin h1; obtain ⟨_, e2⟩ := hin h2
    exact hs.mem.bb _ _ _ _ e1 e2 hne
  · obtain ⟨_, e1⟩ := hin h1
    exact hs.mem.br _ _ _ _ e1 h2
  · obtain ⟨_, e1⟩ := hin h1
    exact hs.mem.sb _ _ e1
theorem allCB_map (σ : St) (cs : List C) : allCB σ (cs.map .c) = some cs := by
  induction cs with
  | nil => rfl
  | cons c cs ih => simp only [List.map_cons, allCB, ih]; cases c <;> rfl
end
attribute [go_sem] allCB_map
end Go.Proofs.Pw
/- The order of trees. -/
namespace Go.Proofs.Pw
/-- A comparison: a total order, told by a number. -/
structure IsCmp {α : Type} (f : α → α → Int) : Prop where
  rng : ∀ a b, f a b = -1 ∨ f a b = 0 ∨ f a b = 1
  eq : ∀ a b, f a b = 0 ↔ a = b
  anti : ∀ a b, f b a = - f a b
  trans : ∀ a b c, f a b = -1 → f b c = -1 → f a c = -1
def cmpI (a b : Int) : Int := if a < b then -1 else if b < a then 1 else 0
theorem cmpI_is : IsCmp cmpI := by
  refine ⟨fun a b => ?_, fun a b => ?_, fun a b => ?_, fun a b c => ?_⟩ <;> simp only [cmpI] <;> repeat' split
  all_goals omega
theorem sl_irrefl (a : ByteArray) : ¬ sl a a := fun h => (sl_tri a a).2 h (.inr rfl)
theorem sl_asymm {a b : ByteArray} (h : sl a b) : ¬ sl b a := fun k => (sl_tri a b).2 k (.inl h)
theorem sl_or (a b : ByteArray) : sl a b ∨ a = b ∨ sl b a := by
  by_cases h : sl a b ∨ a = b
  · rcases h with h | h
    · exact .inl h
    · exact .inr (.inl h)
  · exact .inr (.inr ((sl_tri a b).1 h))
theorem bl_trans : ∀ (x y z : List UInt8), Op.bytesLess x y = true → Op.bytesLess y z = true → Op.bytesLess x z = true := by
  intro x
  induction x with
  | nil => intro y z h k; cases y <;> cases z <;> simp [Op.bytesLess] at *
  | cons a x ih =>
    intro y z h k
    cases y with
    | nil => simp [Op.bytesLess] at h
    | cons b y =>
      cases z with
      | nil => simp [Op.bytesLess] at k
      | cons c z =>
        simp only [Op.bytesLess, Bool.or_eq_true, decide_eq_true_eq, Bool.and_eq_true, beq_iff_eq] at h k ⊢
        rcases h with h | ⟨rfl, h⟩
        · rcases k with k | ⟨rfl, k⟩
          · exact .inl (UInt8.lt_trans h k)
          · exact .inl h
        · rcases k with k | ⟨rfl, k⟩
          · exact .inl k
          · exact .inr ⟨rfl, ih _ _ h k⟩
theorem sl_trans {a b c : ByteArray} (h : sl a b) (k : sl b c) : sl a c := bl_trans _ _ _ h k
def cmpS (a b : ByteArray) : Int := if sl a b then -1 else if sl b a then 1 else 0
theorem cmpS_is : IsCmp cmpS := by
  refine ⟨fun a b => ?_, fun a b => ?_, fun a b => ?_, fun a b c => ?_⟩ <;> simp only [cmpS]
  · repeat' split
    all_goals omega
  · rcases sl_or a b with h | rfl | h
    · rw [if_pos h]; exact ⟨fun e => by omega, fun e => by subst e; exact absurd h (sl_irrefl a)⟩
    · simp [sl_irrefl]
    · rw [if_neg (sl_asymm h), if_pos h]; exact ⟨fun e => by omega, fun e => by subst e; exact absurd h (sl_irrefl a)⟩
  · rcases sl_or a b with h | rfl | h
    · simp [h, sl_asymm h]
    · simp [sl_irrefl]
    · simp [h, sl_asymm h]
  · intro h k
    have h' : sl a b := by
      by_cases e : sl a b
      · exact e
      · rw [if_neg e] at h; split at h <;> omega
    have k' : sl b c := by
      by_cases e : sl b c
      · exact e
      · rw [if_neg e] at k; split at k <;> omega
    rw [if_pos (sl_trans h' k')]
/-- First by the one, then by the other. -/
def thenI (a b : Int) : Int := if a = 0 then b else a
/-- By the first that differs; what is shorter is ahead. -/
def cmpL {α : Type} (f : α → α → Int) : List α → List α → Int
  | [], [] => 0
  | [], _ :: _ => -1
  | _ :: _, [] => 1
  | a :: x, b :: y => thenI (f a b) (cmpL f x y)
/-- What is asked of a comparison at one element, against all others. -/
structure CmpAt {α : Type} (f : α → α → Int) (a : α) : Prop where
  rng : ∀ b, f a b = -1 ∨ f a b = 0 ∨ f a b = 1
  eq : ∀ b, f a b = 0 ↔ a = b
  anti : ∀ b, f b a = - f a b
  trans : ∀ b c, f a b = -1 → f b c = -1 → f a c = -1
theorem IsCmp.at {α : Type} {f : α → α → Int} (h : IsCmp f) (a : α) : CmpAt f a := ⟨h.rng a, h.eq a, h.anti a, h.trans a⟩
mutual
def cmpT : T → T → Int
  | .mk k n s ks l, .mk k' n' s' ks' l' => thenI (cmpI k k') (thenI (cmpI n n') (thenI (cmpS s s') (thenI (cmpL cmpS ks ks') (cmpTL l l'))))
def cmpTL : List T → List T → Int
  | [], [] => 0
  | [], _ :: _ => -1
  | _ :: _, [] => 1
  | a :: x, b :: y => thenI (cmpT a b) (cmpTL x y)
end
theorem thenI_rng {a b : Int} (h : a = -1 ∨ a = 0 ∨ a = 1) (k : b = -1 ∨ b = 0 ∨ b = 1) : thenI a b = -1 ∨ thenI a b = 0 ∨ thenI a b = 1 := by
  unfold thenI; split <;> assumption
theorem thenI_zero {a b : Int} : thenI a b = 0 ↔ a = 0 ∧ b = 0 := by
  unfold thenI; split <;> simp_all
theorem thenI_neg {a b : Int} : thenI (-a) (-b) = - thenI a b := by
  unfold thenI; split <;> split <;> omega
/-- Two keys, one behind the other. -/
theorem thenI_trans {α β : Type} {f : α → α → Int} {g : β → β → Int} {a b c : α} {x y z : β} (heq : ∀ u v, f u v = 0 ↔ u = v) (hf : f a b = -1 → f b c = -1 → f a c = -1) (hg : g x y = -1 → g y z = -1 → g x z = -1)
    (h : thenI (f a b) (g x y) = -1) (k : thenI (f b c) (g y z) = -1) : thenI (f a c) (g x z) = -1 := by
  unfold thenI at *
  by_cases h1 : f a b = 0
  · have := (heq a b).1 h1; subst this
    rw [if_pos h1] at h
    by_cases h2 : f a c = 0
    · rw [if_pos h2] at k ⊢; exact hg h k
    · rw [if_neg h2] at k ⊢; exact k
  · rw [if_neg h1] at h
    by_cases h2 : f b c = 0
    · have := (heq b c).1 h2; subst this
      rw [if_neg h1]; exact h
    · rw [if_neg h2] at k
      have := hf h k
      rw [if_neg (by omega)]; exact this
theorem cmpL_is {α : Type} {f : α → α → Int} (h : IsCmp f) : IsCmp (cmpL f) := by
  have key : ∀ a, CmpAt (cmpL f) a := by
    intro a
    induction a with
    | nil =>
      refine ⟨fun b => ?_, fun b => ?_, fun b => ?_, fun b c => ?_⟩
      · cases b <;> simp [cmpL]
      · cases b <;> simp [cmpL]
      · cases b <;> simp [cmpL]
      · cases b <;> cases c <;> simp [cmpL]
    | cons x a ih =>
      refine ⟨fun b => ?_, fun b => ?_, fun b => ?_, fun b c => ?_⟩
      · cases b with
        | nil => simp [cmpL]
        | cons y b => exact thenI_rng (h.rng x y) (ih.rng b)
      · cases b with
        | nil => simp [cmpL]
        | cons y b => simp only [cmpL, thenI_zero, h.eq, ih.eq, List.cons.injEq]
      · cases b with
        | nil => simp [cmpL]
        | cons y b => simp only [cmpL]; rw [h.anti x y, ih.anti b, thenI_neg]
      · cases b with
        | nil => simp [cmpL]
        | cons y b =>
          cases c with
          | nil => intro _ k; simp [cmpL] at k
          | cons z c => exact fun h1 h2 => thenI_trans h.eq (h.trans x y z) (ih.trans b c) h1 h2
  exact ⟨fun a => (key a).rng, fun a => (key a).eq, fun a => (key a).anti, fun a => (key a).trans⟩
theorem cmpK_is : IsCmp (cmpL cmpS) := cmpL_is cmpS_is
mutual
theorem cmpT_at : ∀ (a : T), CmpAt cmpT a
  | .mk k n s ks l => by
    have ih := cmpTL_at l
    refine ⟨fun b => ?_, fun b => ?_, fun b => ?_, fun b c => ?_⟩
    · obtain ⟨k', n', s', ks', l'⟩ := b
      exact thenI_rng (cmpI_is.rng _ _) (thenI_rng (cmpI_is.rng _ _) (thenI_rng (cmpS_is.rng _ _) (thenI_rng (cmpK_is.rng _ _) (ih.rng _))))
    · obtain ⟨k', n', s', ks', l'⟩ := b
      simp only [cmpT, thenI_zero, cmpI_is.eq, cmpS_is.eq, cmpK_is.eq, ih.eq, T.mk.injEq]
    · obtain ⟨k', n', s', ks', l'⟩ := b
      simp only [cmpT]
      rw [cmpI_is.anti k k', cmpI_is.anti n n', cmpS_is.anti s s', cmpK_is.anti ks ks', ih.anti l', thenI_neg, thenI_neg, thenI_neg, thenI_neg]
    · obtain ⟨k', n', s', ks', l'⟩ := b
      obtain ⟨k2, n2, s2, ks2, l2⟩ := c
      simp only [cmpT]
      exact thenI_trans cmpI_is.eq (cmpI_is.trans _ _ _) (thenI_trans (f := cmpI) (g := fun (u v : ByteArray × List ByteArray × List T) => thenI (cmpS u.1 v.1) (thenI (cmpL cmpS u.2.1 v.2.1) (cmpTL u.2.2 v.2.2))) (x := (s, ks, l)) (y := (s', ks', l')) (z := (s2, ks2, l2)) cmpI_is.eq (cmpI_is.trans _ _ _)
        (thenI_trans (f := cmpS) (g := fun (u v : List ByteArray × List T) => thenI (cmpL cmpS u.1 v.1) (cmpTL u.2 v.2)) (x := (ks, l)) (y := (ks', l')) (z := (ks2, l2)) cmpS_is.eq (cmpS_is.trans _ _ _) (thenI_trans cmpK_is.eq (cmpK_is.trans _ _ _) (ih.trans _ _))))
        (f := cmpI) (g := fun (u v : Int × ByteArray × List ByteArray × List T) => thenI (cmpI u.1 v.1) (thenI (cmpS u.2.1 v.2.1) (thenI (cmpL cmpS u.2.2.1 v.2.2.1) (cmpTL u.2.2.2 v.2.2.2)))) (x := (n, s, ks, l)) (y := (n', s', ks', l')) (z := (n2, s2, ks2, l2))
theorem cmpTL_at : ∀ (a : List T), CmpAt cmpTL a
  | [] => by
    refine ⟨fun b => ?_, fun b => ?_, fun b => ?_, fun b c => ?_⟩
    · cases b <;> simp [cmpTL]
    · cases b <;> simp [cmpTL]
    · cases b <;> simp [cmpTL]
    · cases b <;> cases c <;> simp [cmpTL]
  | x :: a => by
    have h := cmpT_at x
    have ih := cmpTL_at a
    refine ⟨fun b => ?_, fun b => ?_, fun b => ?_, fun b c => ?_⟩
    · cases b with
      | nil => simp [cmpTL]
      | cons y b => exact thenI_rng (h.rng y) (ih.rng b)
    · cases b with
      | nil => simp [cmpTL]
      | cons y b => simp only [cmpTL, thenI_zero, h.eq, ih.eq, List.cons.injEq]
    · cases b with
      | nil => simp [cmpTL]
      | cons y b => simp only [cmpTL]; rw [h.anti y, ih.anti b, thenI_neg]
    · cases b with
      | nil => simp [cmpTL]
      | cons y b =>
        cases c with
        | nil => intro _ k; simp [cmpTL] at k
        | cons z c =>
          intro h1 h2
          simp only [cmpTL] at *
          unfold thenI at *
          by_cases e1 : cmpT x y = 0
          · have := (h.eq y).1 e1; subst this
            rw [if_pos e1] at h1
            by_cases e2 : cmpT x z = 0
            · rw [if_pos e2] at h2 ⊢; exact ih.trans b c h1 h2
            · rw [if_neg e2] at h2 ⊢; exact h2
          · rw [if_neg e1] at h1
            by_cases e2 : cmpT y z = 0
            · have e3 : cmpT x z = -1 := by
                have e4 : y = z := by
                  by_cases e5 : y = z
                  · exact e5
                  · exact absurd e2 (fun e => e5 ((cmpT_zero y z).1 e))
                subst e4; exact h1
              rw [if_neg (by omega)]; exact e3
            · rw [if_neg e2] at h2
              have := h.trans y z h1 h2
              rw [if_neg (by omega)]; exact this
theorem cmpT_zero : ∀ (a b : T), cmpT a b = 0 ↔ a = b
  | .mk k n s ks l, .mk k' n' s' ks' l' => by
    simp only [cmpT, thenI_zero, cmpI_is.eq, cmpS_is.eq, cmpK_is.eq, cmpTL_zero l l', T.mk.injEq]
theorem cmpTL_zero : ∀ (a b : List T), cmpTL a b = 0 ↔ a = b
  | [], [] => by simp [cmpTL]
  | [], _ :: _ => by simp [cmpTL]
  | _ :: _, [] => by simp [cmpTL]
  | a :: x, b :: y => by simp only [cmpTL, thenI_zero, cmpT_zero a b, cmpTL_zero x y, List.cons.injEq]
end
theorem cmpT_is : IsCmp cmpT := ⟨fun a => (cmpT_at a).rng, fun a => (cmpT_at a).eq, fun a => (cmpT_at a).anti, fun a => (cmpT_at a).trans⟩
/-! ### Sorting -/
theorem IsCmp.le_trans {α : Type} {f : α → α → Int} (h : IsCmp f) {a b c : α} (h1 : f a b ≤ 0) (h2 : f b c ≤ 0) : f a c ≤ 0 := by
  rcases h.rng a b with e | e | e
  · rcases h.rng b c with e' | e' | e'
    · have := h.trans a b c e e'; omega
    · have := (h.eq b c).1 e'; subst this; omega
    · omega
  · have := (h.eq a b).1 e; subst this; exact h2
  · omega
theorem IsCmp.self {α : Type} {f : α → α → Int} (h : IsCmp f) (a : α) : f a a = 0 := (h.eq a a).2 rfl
theorem IsCmp.total {α : Type} {f : α → α → Int} (h : IsCmp f) {a b : α} (h1 : ¬ f a b ≤ 0) : f b a ≤ 0 := by
  have := h.anti a b; omega
theorem IsCmp.antisymm {α : Type} {f : α → α → Int} (h : IsCmp f) {a b : α} (h1 : f a b ≤ 0) (h2 : f b a ≤ 0) : a = b := by
  have := h.anti a b
  exact (h.eq a b).1 (by omega)
/-- Put behind all that are the same. -/
def insC {α : Type} (f : α → α → Int) (v : α) : List α → List α
  | [] => [v]
  | x :: l => if f x v ≤ 0 then x :: insC f v l else v :: x :: l
def sortC {α : Type} (f : α → α → Int) (l : List α) : List α := l.foldl (fun acc x => insC f x acc) []
def Srt {α : Type} (f : α → α → Int) (l : List α) : Prop := l.Pairwise (fun a b => f a b ≤ 0)
theorem insC_perm {α : Type} (f : α → α → Int) (v : α) : ∀ l, (insC f v l).Perm (v :: l) := by
  intro l
  induction l with
  | nil => exact .refl _
  | cons x l ih =>
    simp only [insC]
    split
    · exact (List.Perm.cons x ih).trans (List.Perm.swap v x l)
    · exact .refl _
theorem insC_srt {α : Type} {f : α → α → Int} (h : IsCmp f) (v : α) : ∀ {l}, Srt f l → Srt f (insC f v l) := by
  intro l
  induction l with
  | nil => intro _; exact List.pairwise_singleton _ _
  | cons x l ih =>
    intro hs
    rw [Srt, List.pairwise_cons] at hs
    simp only [insC]
    split
    · rename_i hx
      refine List.pairwise_cons.2 ⟨fun y hy => ?_, ih hs.2⟩
      rcases List.mem_cons.1 ((insC_perm f v l).mem_iff.1 hy) with rfl | hy
      · exact hx
      · exact hs.1 y hy
    · rename_i hx
      refine List.pairwise_cons.2 ⟨fun y hy => ?_, List.pairwise_cons.2 hs⟩
      rcases List.mem_cons.1 hy with rfl | hy
      · exact h.total hx
      · exact h.le_trans (h.total hx) (hs.1 y hy)
theorem sortC_aux {α : Type} {f : α → α → Int} (h : IsCmp f) : ∀ (l acc : List α), Srt f acc → Srt f (l.foldl (fun acc x => insC f x acc) acc) ∧ (l.foldl (fun acc x => insC f x acc) acc).Perm (acc ++ l) := by
  intro l
  induction l with
  | nil => intro acc hs; simpa using hs
  | cons x l ih =>
    intro acc hs
    obtain ⟨h1, h2⟩ := ih (insC f x acc) (insC_srt h x hs)
    refine ⟨h1, h2.trans ?_⟩
    exact ((insC_perm f x acc).append_right l).trans (by simpa using List.perm_middle.symm)
theorem sortC_srt {α : Type} {f : α → α → Int} (h : IsCmp f) (l : List α) : Srt f (sortC f l) := (sortC_aux h l [] List.Pairwise.nil).1
theorem sortC_perm {α : Type} {f : α → α → Int} (h : IsCmp f) (l : List α) : (sortC f l).Perm l := by simpa [sortC] using (sortC_aux h l [] List.Pairwise.nil).2
theorem srt_uniq {α : Type} {f : α → α → Int} (h : IsCmp f) : ∀ {a b : List α}, Srt f a → Srt f b → a.Perm b → a = b := by
  intro a
  induction a with
  | nil => intro b _ _ hp; exact (List.Perm.nil_eq hp)
  | cons x a ih =>
    intro b ha hb hp
    cases b with
    | nil => exact absurd hp.length_eq (by simp)
    | cons y b =>
      rw [Srt, List.pairwise_cons] at ha hb
      have hxy : x = y := by
        have h1 : x ∈ y :: b := hp.mem_iff.1 (by simp)
        have h2 : y ∈ x :: a := hp.mem_iff.2 (by simp)
        rcases List.mem_cons.1 h1 with e | h1
        · exact e
        · rcases List.mem_cons.1 h2 with e | h2
          · exact e.symm
          · exact h.antisymm (ha.1 y h2) (hb.1 x h1)
      subst hxy
      rw [ih ha.2 hb.2 (List.Perm.cons_inv hp)]
theorem sortC_uniq {α : Type} {f : α → α → Int} (h : IsCmp f) {a l : List α} (ha : Srt f a) (hp : a.Perm l) : a = sortC f l := srt_uniq h ha (sortC_srt h l) (hp.trans (sortC_perm h l).symm)
end Go.Proofs.Pw
