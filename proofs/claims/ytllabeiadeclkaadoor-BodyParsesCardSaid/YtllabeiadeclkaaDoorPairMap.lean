/-
  Maps whose keys are pairs of ints ('[2]int'): equality of keys, look-up, insertion, as plain functions on a list of entries; over any program.
-/
import Derived.WalkKit
import Derived.Orders
import Derived.Laws.StructEq
import Derived.Maps.OwnOps
import Derived.MapKept
import Derived.WideKeyRuns
set_option linter.unusedVariables false
set_option linter.unusedSimpArgs false
namespace Go.Proofs.YtllabeiadeclkaaDoor
namespace Pm
open Go.RowKit

/-- A pair as a value. -/
def pk (x : Int × Int) : Value := .agg #[.int .i64 x.1, .int .i64 x.2]

/-- K is an array of two ints. -/
structure PairKey (P : Program) (K I : TypeId) : Prop where
  arr : P.underlying K = some (.array 2 I)
  int : P.underlying I = some (.int .i64)
  size : ∀ w, (sizeOf I).run P w = .ok 1 w
  noagg : ∀ w, (isAgg I).run P w = .ok false w

section
variable {P : Program} {K I : TypeId} (h : PairKey P K I) (w : World)
include h

theorem run_part (a b : Int) (i : Nat) (x : Int) (hx : #[Value.int .i64 a, .int .i64 b][i]? = some (.int .i64 x)) : (part I #[.int .i64 a, .int .i64 b] i).run P w = .ok (.int .i64 x) w := by
  simp [part, h.noagg, hx]

theorem run_equal_pk (x y : Int × Int) : (Op.equal K (pk x) (pk y)).run P w = .ok (decide (x = y)) w := by
  obtain ⟨a, b⟩ := x
  obtain ⟨c, d⟩ := y
  have e0 : ∀ w (d' : Nat) (p q : Int), (Op.equalIn (d' + 1) I (.int .i64 p) (.int .i64 q)).run P w = .ok (p == q) w := fun w d' p q => run_equalIn_int w d' I .i64 .i64 p q h.int
  have p0 : ∀ w (p q : Int), (part I #[.int .i64 p, .int .i64 q] 0).run P w = .ok (.int .i64 p) w := fun w p q => run_part h w p q 0 p rfl
  have p1 : ∀ w (p q : Int), (part I #[.int .i64 p, .int .i64 q] 1).run P w = .ok (.int .i64 q) w := fun w p q => run_part h w p q 1 q rfl
  simp only [Op.equal, pk, show Op.maxDepth = 9998 + 1 + 1 from rfl]
  unfold Op.equalIn
  simp only [Sem.run_bind, run_underlying h.arr, Result.andThen_ok, h.size]
  simp [Std.Legacy.Range.forIn_eq_forIn_range', Std.Legacy.Range.size, List.range'_succ, p0, p1, e0]
  by_cases h1 : a = c <;> by_cases h2 : b = d <;> simp [h1, h2]

theorem run_checkKey_pk (x : Int × Int) (em : Bool) : (Instr.checkKey em 10000 K (pk x)).run P w = .ok () w := by
  obtain ⟨a, b⟩ := x
  have p0 : ∀ w (p q : Int), (part I #[.int .i64 p, .int .i64 q] 0).run P w = .ok (.int .i64 p) w := fun w p q => run_part h w p q 0 p rfl
  have p1 : ∀ w (p q : Int), (part I #[.int .i64 p, .int .i64 q] 1).run P w = .ok (.int .i64 q) w := fun w p q => run_part h w p q 1 q rfl
  have c0 : ∀ w (d' : Nat) (p : Int), (Instr.checkKey em (d' + 1) I (.int .i64 p)).run P w = .ok () w := by
    intro w d' p
    unfold Instr.checkKey
    simp [run_underlying h.int]
  simp only [pk, show (10000 : Nat) = 9998 + 1 + 1 from rfl]
  unfold Instr.checkKey
  simp only [Sem.run_bind, run_underlying h.arr, Result.andThen_ok]
  simp [Std.Legacy.Range.forIn_eq_forIn_range', Std.Legacy.Range.size, List.range'_succ, p0, p1, c0, h.size, Sem.run_pure]


/-- Where a key stands in a list of entries, from place i on, and what it holds. -/
def findP (x : Int × Int) : List ((Int × Int) × Value) → Nat → Option (Nat × Value)
  | [], _ => none
  | (p, v) :: r, i => if x = p then some (i, v) else findP x r (i + 1)
end
/-- The entries as the model keeps them: stamps rise by one. -/
def entsFrom : List ((Int × Int) × Value) → Nat → List MapEntry
  | [], _ => []
  | (p, v) :: r, i => { key := pk p, val := v, born := i } :: entsFrom r (i + 1)
def ents (l : List ((Int × Int) × Value)) : Array MapEntry := (entsFrom l 0).toArray

theorem entsFrom_length : ∀ (l : List ((Int × Int) × Value)) (i : Nat), (entsFrom l i).length = l.length
  | [], _ => rfl
  | _ :: r, i => by simp [entsFrom, entsFrom_length r]
theorem entsFrom_app : ∀ (l r : List ((Int × Int) × Value)) (i : Nat), entsFrom (l ++ r) i = entsFrom l i ++ entsFrom r (i + l.length)
  | [], r, i => by simp [entsFrom]
  | (p, v) :: l, r, i => by simp [entsFrom, entsFrom_app l r, Nat.add_assoc, Nat.add_comm 1]
theorem ents_push (l : List ((Int × Int) × Value)) (p : Int × Int) (v : Value) : (ents l).push { key := pk p, val := v, born := l.length } = ents (l ++ [(p, v)]) := by
  simp [ents, entsFrom_app, entsFrom]

section
variable {P : Program} {K I : TypeId} (h : PairKey P K I) (w : World)
include h

theorem run_findAsking_pk (x : Int × Int) : ∀ (l : List ((Int × Int) × Value)) (s i : Nat) (w : World), (Instr.findAsking K (pk x) (entsFrom l s) i).run P w = .ok (findP x l i) w
  | [], s, i, w => by simp [entsFrom, Instr.findAsking, findP, Sem.run_pure]
  | (p, v) :: r, s, i, w => by
    have ih := run_findAsking_pk x r (s + 1) (i + 1) w
    by_cases e : x = p
    · simp [entsFrom, Instr.findAsking, findP, run_equal_pk h, e, Sem.run_pure]
    · simp [entsFrom, Instr.findAsking, findP, run_equal_pk h, e, ih]

theorem run_findKey_pk (x : Int × Int) (l : List ((Int × Int) × Value)) (w : World) : (Instr.findKey K (pk x) (ents l).toList).run P w = .ok (findP x l 0) w := by
  cases l with
  | nil => simp [ents, entsFrom, Instr.findKey, Instr.findNow, findP, run_underlying h.arr]
  | cons e r =>
    obtain ⟨p, v⟩ := e
    have := run_findAsking_pk h x ((p, v) :: r) 0 0 w
    simp only [ents, Instr.findKey, Sem.run_bind, run_underlying h.arr, Result.andThen_ok]
    rw [show Instr.findNow (.array 2 I) (pk x) (entsFrom ((p, v) :: r) 0) 0 = none by simp [entsFrom, Instr.findNow, Instr.sameNow]]
    exact this

/-- 'm[x]', with or without ok. -/
theorem run_lookup_pk {T E : TypeId} {z : Value} (hT : P.underlying T = some (.map K E)) (hz : ∀ w, (zeroValue E).run P w = .ok z w) (b c : Nat) (l : List ((Int × Int) × Value)) (hb : w.heap[b]? = some (.map (ents l) c)) (x : Int × Int) (ok : Bool) :
    (Instr.lookup T (.map (some b)) (pk x) ok).run P w = .ok (match findP x l 0 with
      | some (_, v) => if ok then .tuple #[v, .bool true] else v
      | none => if ok then .tuple #[z, .bool false] else z) w := by
  unfold Instr.lookup
  simp only [Sem.run_bind, run_underlying hT, Result.andThen_ok]
  have hg : (Sem.getObj b Sem.pure : Sem Obj).run P w = .ok (.map (ents l) c) w := by simp [Sem.run, hb]
  simp only [getObj, hg, Result.andThen_ok, Sem.run_bind, Sem.run_pure, run_checkKey_pk h, run_findKey_pk h]
  cases hf : findP x l 0 with
  | none => cases ok <;> simp [hz]
  | some r => obtain ⟨i, v⟩ := r; cases ok <;> simp

/-- 'm[x] = v' at a new key. -/
theorem run_update_new {T E : TypeId} (hT : P.underlying T = some (.map K E)) (b : Nat) (l : List ((Int × Int) × Value)) (hb : w.heap[b]? = some (.map (ents l) l.length)) (x : Int × Int) (v : Value) (hx : findP x l 0 = none) :
    (Instr.mapUpdate T (.map (some b)) (pk x) v).run P w = .ok () { w with heap := w.heap.setIfInBounds b (.map (ents (l ++ [(x, v)])) (l.length + 1)) } := by
  unfold Instr.mapUpdate
  simp only [Sem.run_bind, run_underlying hT, Result.andThen_ok]
  have hg : (Sem.getObj b Sem.pure : Sem Obj).run P w = .ok (.map (ents l) l.length) w := by simp [Sem.run, hb]
  simp only [getObj, hg, Result.andThen_ok, Sem.run_bind, run_checkKey_pk h, run_findKey_pk h, hx, ents_push]
  simp [setObj, Sem.run, hb]
end

theorem findP_none {x : Int × Int} : ∀ {l : List ((Int × Int) × Value)} {i : Nat}, findP x l i = none ↔ x ∉ l.map (·.1)
  | [], i => by simp [findP]
  | (p, v) :: r, i => by
    unfold findP
    by_cases e : x = p
    · simp [e]
    · rw [if_neg e, findP_none]; simp [e]
theorem findP_some {x : Int × Int} {v : Value} : ∀ {l : List ((Int × Int) × Value)} {i : Nat}, (l.map (·.1)).Nodup → (x, v) ∈ l → ∃ j, findP x l i = some (j, v)
  | [], i, _, hm => by cases hm
  | (p, u) :: r, i, hn, hm => by
    unfold findP
    rw [List.map_cons, List.nodup_cons] at hn
    by_cases e : x = p
    · subst e
      rcases List.mem_cons.1 hm with hm | hm
      · injection hm with _ hm; subst hm; exact ⟨i, by simp⟩
      · exact absurd (List.mem_map.2 ⟨_, hm, rfl⟩) hn.1
    · rw [if_neg e]
      rcases List.mem_cons.1 hm with hm | hm
      · injection hm with hm; exact absurd hm e
      · exact findP_some hn.2 hm

/-! ### A region that makes a map out of a literal, in whatever order -/
inductive D where
  | mk
  | val (v : Value)
  | ins (x : Int × Int) (v : Value)
  | mv

def dval (b : Nat) : D → Value
  | .mk => .map (some b)
  | .val v => v
  | .ins _ _ => undef
  | .mv => .map (some b)

def src (ops : Array Oper) (ds : List D) (after : Array Edge) : Operand → Option D
  | .tmp t => after.toList.findSome? fun e => if Region.binds .any e && ((ops[e.on]?).bind (·.dst)) == some t then ds[e.on]? else none
  | _ => none

def OpIs (P : Program) (T : TypeId) (ops : Array Oper) (ds : List D) (o : Oper) : D → Prop
  | .mk => o.guard = none ∧ o.op = .makeMap T none
  | .val v => o.guard = none ∧ ∀ (a : Act) w, (execOp a.eval o).run P w = .ok (.value v) w
  | .ins x v => o.guard = none ∧ o.dst = none ∧ ∃ m kx vx, o.op = .insert T m kx vx ∧ src ops ds o.after m = some .mk ∧ src ops ds o.after kx = some (.val (pk x)) ∧ (vx = .const v ∨ src ops ds o.after vx = some (.val v))
  | .mv => o.guard = none ∧ ∃ x, (o.op = .move x ∨ o.op = .assign x) ∧ (src ops ds o.after x = some .mk ∨ src ops ds o.after x = some .mv)

def putV (a : Array Value) (dst : Option Tmp) (v : Value) : Array Value :=
  match dst with
  | some d => a.setIfInBounds d v
  | none => a
theorem put_eq (a : Act) (dst : Option Tmp) (v : Value) : a.put dst v = { a with tmps := putV a.tmps dst v } := by cases dst <;> rfl

def putL (b : Nat) (on : Nat → Bool) : Nat → List (Oper × D) → Array Value → Array Value
  | _, [], t => t
  | i, (o, d) :: r, t => putL b on (i + 1) r (if on i then putV t o.dst (dval b d) else t)

theorem putV_size (a : Array Value) (dst : Option Tmp) (v : Value) : (putV a dst v).size = a.size := by cases dst <;> simp [putV]
theorem putL_size (b : Nat) (on : Nat → Bool) : ∀ (L : List (Oper × D)) (i : Nat) (t : Array Value), (putL b on i L t).size = t.size
  | [], _, _ => rfl
  | (o, d) :: r, i, t => by
    unfold putL
    rw [putL_size b on r]
    split
    · exact putV_size _ _ _
    · rfl
theorem putL_skip (b : Nat) (on : Nat → Bool) (t : Tmp) : ∀ (L : List (Oper × D)) (i : Nat) (a : Array Value), (∀ x ∈ L, x.1.dst ≠ some t) → (putL b on i L a)[t]? = a[t]?
  | [], _, _, _ => rfl
  | (o, d) :: r, i, a, hn => by
    unfold putL
    rw [putL_skip b on t r _ _ (fun x hx => hn x (by simp [hx]))]
    split
    · cases hd : o.dst with
      | none => rfl
      | some u =>
        have : u ≠ t := fun e => hn (o, d) (by simp) (by rw [hd, e])
        simp [putV, Array.getElem?_setIfInBounds_ne this]
    · rfl
theorem putL_comm (b : Nat) (on : Nat → Bool) (dst : Option Tmp) (v : Value) : ∀ (L : List (Oper × D)) (i : Nat) (a : Array Value), (∀ t, dst = some t → ∀ x ∈ L, x.1.dst ≠ some t) → putV (putL b on i L a) dst v = putL b on i L (putV a dst v)
  | [], _, _, _ => rfl
  | (o, d) :: r, i, a, hn => by
    unfold putL
    rw [putL_comm b on dst v r _ _ (fun t ht x hx => hn t ht x (by simp [hx]))]
    congr 1
    split
    · cases hd : dst with
      | none => rfl
      | some t =>
        cases ho : o.dst with
        | none => rfl
        | some u =>
          have : u ≠ t := fun e => hn t hd (o, d) (by simp) (by rw [ho, e])
          simp [putV, Array.setIfInBounds_comm _ _ this]
    · rfl
theorem putL_on (b : Nat) (on on' : Nat → Bool) : ∀ (L : List (Oper × D)) (i : Nat) (a : Array Value), (∀ k, i ≤ k → k < i + L.length → on k = on' k) → putL b on i L a = putL b on' i L a
  | [], _, _, _ => rfl
  | (o, d) :: r, i, a, he => by
    unfold putL
    rw [he i (Nat.le_refl _) (by simp), putL_on b on on' r (i + 1) _ (fun k h1 h2 => he k (by omega) (by simp; omega))]

/-- Each slot is written by one operation. -/
def Once (L : List (Oper × D)) : Prop := L.Pairwise fun x y => ∀ t, x.1.dst = some t → y.1.dst ≠ some t

theorem putL_flip (b : Nat) (on on' : Nat → Bool) : ∀ (L : List (Oper × D)) (i k : Nat) (a : Array Value) (o : Oper) (d : D), Once L → L[k]? = some (o, d) → on (i + k) = false → on' (i + k) = true → (∀ j, j ≠ i + k → on j = on' j) →
    putV (putL b on i L a) o.dst (dval b d) = putL b on' i L a
  | [], _, _, _, _, _, _, hk, _, _, _ => by cases hk
  | (o', d') :: r, i, 0, a, o, d, hO, hk, h0, h1, he => by
    simp only [List.getElem?_cons_zero, Option.some.injEq, Prod.mk.injEq] at hk
    obtain ⟨rfl, rfl⟩ := hk
    unfold putL
    simp only [Nat.add_zero] at h0 h1 he
    rw [h0, h1, putL_comm b on o'.dst (dval b d') r]
    · simp only [Bool.false_eq_true, if_false, if_true]
      exact putL_on b on on' r (i + 1) _ (fun k h2 _ => he k (by omega))
    · intro t ht x hx
      exact (List.pairwise_cons.1 hO).1 x hx t ht
  | (o', d') :: r, i, k + 1, a, o, d, hO, hk, h0, h1, he => by
    unfold putL
    rw [he i (by omega)]
    exact putL_flip b on on' r (i + 1) k _ o d (List.pairwise_cons.1 hO).2 (by simpa using hk) (by rw [show i + 1 + k = i + (k + 1) by omega]; exact h0) (by rw [show i + 1 + k = i + (k + 1) by omega]; exact h1) (fun j hj => he j (by omega))
theorem putL_get (b : Nat) (on : Nat → Bool) : ∀ (L : List (Oper × D)) (i k : Nat) (a : Array Value) (o : Oper) (d : D) (t : Tmp), Once L → L[k]? = some (o, d) → on (i + k) = true → o.dst = some t → t < a.size → (putL b on i L a)[t]? = some (dval b d)
  | [], _, _, _, _, _, _, _, hk, _, _, _ => by cases hk
  | (o', d') :: r, i, 0, a, o, d, t, hO, hk, h0, hd, ht => by
    simp only [List.getElem?_cons_zero, Option.some.injEq, Prod.mk.injEq] at hk
    obtain ⟨rfl, rfl⟩ := hk
    unfold putL
    simp only [Nat.add_zero] at h0
    rw [putL_skip b on t r _ _ (fun x hx => (List.pairwise_cons.1 hO).1 x hx t hd), h0]
    simp [putV, hd, ht]
  | (o', d') :: r, i, k + 1, a, o, d, t, hO, hk, h0, hd, ht => by
    unfold putL
    refine putL_get b on r (i + 1) k _ o d t (List.pairwise_cons.1 hO).2 (by simpa using hk) (by rw [show i + 1 + k = i + (k + 1) by omega]; exact h0) hd ?_
    split
    · rw [putV_size]; exact ht
    · exact ht

theorem src_some {ops : Array Oper} {ds : List D} {after : Array Edge} {x : Operand} {d : D} (h : src ops ds after x = some d) :
    ∃ t e o, x = .tmp t ∧ e ∈ after ∧ Region.binds .any e = true ∧ ops[e.on]? = some o ∧ o.dst = some t ∧ ds[e.on]? = some d := by
  cases x with
  | tmp t =>
    simp only [src] at h
    obtain ⟨e, he, hq⟩ := List.exists_of_findSome?_eq_some h
    split at hq
    · rename_i hc
      simp only [Bool.and_eq_true, beq_iff_eq] at hc
      obtain ⟨o, ho, hd⟩ := Option.bind_eq_some_iff.1 hc.2
      exact ⟨t, e, o, rfl, by simpa using he, hc.1, ho, hd, hq⟩
    · cases hq
  | const v => cases h
  | global g => cases h
  | func f => cases h

/-- The entries are the literal's, each key once, in some order. -/
structure IsLit (l lit : List ((Int × Int) × Value)) : Prop where
  mem : ∀ p, p ∈ l ↔ p ∈ lit
  nodup : (l.map (·.1)).Nodup
theorem IsLit.some {l lit : List ((Int × Int) × Value)} (h : IsLit l lit) {x : Int × Int} {v : Value} (hm : (x, v) ∈ lit) : ∃ j, findP x l 0 = some (j, v) := findP_some h.nodup ((h.mem _).2 hm)
theorem IsLit.none {l lit : List ((Int × Int) × Value)} (h : IsLit l lit) {x : Int × Int} (hm : x ∉ lit.map (·.1)) : findP x l 0 = none := findP_none.2 fun hc => hm (by
  obtain ⟨p, hp, he⟩ := List.mem_map.1 hc
  exact List.mem_map.2 ⟨p, (h.mem p).1 hp, he⟩)

/-- What the region needs to be a literal's. -/
structure LitRegion (P : Program) (T K E I : TypeId) (ops : Array Oper) (ds : List D) (j0 : Nat) (lit : List ((Int × Int) × Value)) : Prop where
  size : ds.length = ops.size
  is : ∀ (i : Nat) (o : Oper) (d : D), ops[i]? = some o → ds[i]? = some d → OpIs P T ops ds o d
  once : Once (ops.toList.zip ds)
  down : ∀ (i : Nat) (o : Oper), ops[i]? = some o → ∀ e ∈ o.after, e.on < i
  first : ds[j0]? = some .mk
  one : ∀ (i : Nat), ds[i]? = some .mk → i = j0
  lits : ∀ p : (Int × Int) × Value, p ∈ lit ↔ D.ins p.1 p.2 ∈ ds
  keys : ∀ (i j : Nat) (x : Int × Int) (v u : Value), ds[i]? = some (.ins x v) → ds[j]? = some (.ins x u) → i = j


/-! ### Any order: an invariant on what has been carried out -/
theorem mem_ready {md : Region.Mode} {ops : Array Oper} {listed : Array Bool} {i : Nat} : i ∈ Region.ready md ops listed ↔ i < ops.size ∧ listed.getD i true = false ∧ ∀ o, ops[i]? = some o → ∀ e ∈ o.after, Region.binds md e = true → listed.getD e.on false = true := by
  unfold Region.ready
  simp only [List.mem_filter, List.mem_range, Bool.and_eq_true, Bool.not_eq_true']
  refine and_congr_right fun hi => and_congr_right fun _ => ?_
  obtain ⟨o, ho⟩ : ∃ o, ops[i]? = some o := ⟨ops[i], by simp [hi]⟩
  rw [ho]
  simp only [Option.map_some, Option.getD_some, Option.some.injEq, Array.all_eq_true_iff_forall_mem, Bool.or_eq_true, Bool.not_eq_true']
  constructor
  · rintro h o' rfl e he hb
    rcases h e he with h | h
    · rw [hb] at h; cases h
    · exact h
  · intro h e he
    cases hb : Region.binds md e with
    | false => exact .inl rfl
    | true => exact .inr (h o rfl e he hb)

theorem wpAny_inv {P : Program} {md : Region.Mode} {ops : Array Oper} {Q : Exit → Act → World → Prop} (I : Array Bool → Act → World → Prop)
    (hsz : ∀ listed a w, I listed a w → listed.size = ops.size)
    (hstep : ∀ listed a w i, I listed a w → i ∈ Region.ready md ops listed → wpOp P ops Q i (I (listed.setIfInBounds i true)) a w)
    (hdown : ∀ (i : Nat) (o : Oper), ops[i]? = some o → ∀ e ∈ o.after, e.on < i)
    (hend : ∀ listed a w, I listed a w → (∀ i, i < ops.size → listed.getD i false = true) → Q .normal a w) :
    ∀ fuel listed a w, listed.toList.count false ≤ fuel → I listed a w → wpAny P md ops Q fuel listed a w := by
  have hall : ∀ listed a w, I listed a w → Region.ready md ops listed = [] → Q .normal a w := by
    intro listed a w hI hr
    refine hend listed a w hI fun i => ?_
    induction i using Nat.strongRecOn with
    | _ i ih =>
      intro hi
      cases hl : listed.getD i false with
      | true => rfl
      | false =>
        have hlt : i < listed.size := by rw [hsz _ _ _ hI]; exact hi
        have : i ∈ Region.ready md ops listed := mem_ready.2 ⟨hi, by simp [Array.getD, hlt] at hl ⊢; exact hl, fun o ho e he _ => ih e.on (hdown i o ho e he) (Nat.lt_trans (hdown i o ho e he) hi)⟩
        rw [hr] at this
        cases this
  intro fuel
  induction fuel with
  | zero =>
    intro listed a w hc hI
    have hnil : Region.ready md ops listed = [] := by
      apply List.eq_nil_iff_forall_not_mem.2
      intro i hi
      obtain ⟨h1, h2, _⟩ := mem_ready.1 hi
      have hlt : i < listed.size := by rw [hsz _ _ _ hI]; exact h1
      have h3 : listed[i] = false := by simpa [Array.getD, hlt] using h2
      have : (false : Bool) ∈ listed.toList := by rw [← h3]; simp
      have := List.count_pos_iff.2 this
      omega
    exact ⟨hnil, hall _ _ _ hI hnil⟩
  | succ fuel ih =>
    intro listed a w hc hI
    refine ⟨hall _ _ _ hI, fun i hi => wpOp_mono (fun a' w' h' => ih _ _ _ ?_ h') (hstep _ _ _ _ hI hi)⟩
    obtain ⟨h1, h2, _⟩ := mem_ready.1 hi
    have hlt : i < listed.size := by rw [hsz _ _ _ hI]; exact h1
    have h3 : listed[i] = false := by simpa [Array.getD, hlt] using h2
    have hp : 0 < listed.toList.count false := List.count_pos_iff.2 (by rw [← h3]; simp)
    rw [Array.toList_setIfInBounds, List.count_set (by simpa using hlt)]
    simp only [Array.getElem_toList, h3, beq_self_eq_true, if_true]
    rw [if_neg (by decide)]
    omega

theorem push_set (a : Array Obj) (o o' : Obj) : (a.push o).setIfInBounds a.size o' = a.push o' := by
  apply Array.ext_getElem?
  intro j
  by_cases hj : j = a.size
  · subst hj; simp
  · rw [Array.getElem?_setIfInBounds_ne (Ne.symm hj), Array.getElem?_push, Array.getElem?_push, if_neg hj, if_neg hj]

theorem getD_set {listed : Array Bool} {i j : Nat} (hi : i < listed.size) : (listed.setIfInBounds i true).getD j false = if j = i then true else listed.getD j false := by
  by_cases e : j = i
  · subst e
    simp [Array.getD, hi]
  · rw [if_neg e]
    by_cases hj : j < listed.size
    · simp [Array.getD, hj, Ne.symm e]
    · simp [Array.getD, hj]

theorem zip_get {ops : Array Oper} {ds : List D} {i : Nat} {o : Oper} {d : D} (h1 : ops[i]? = some o) (h2 : ds[i]? = some d) : (ops.toList.zip ds)[i]? = some (o, d) := by
  rw [List.getElem?_zip_eq_some]
  exact ⟨by simpa using h1, h2⟩

theorem wp_lit {P : Program} {T K E I : TypeId} {ops : Array Oper} {ds : List D} {j0 : Nat} {lit : List ((Int × Int) × Value)} {id : Nat} {Q : Exit → Act → World → Prop} {a0 : Act} {w : World}
    (R : LitRegion P T K E I ops ds j0 lit) (hk : PairKey P K I) (hT : P.underlying T = some (.map K E)) (hm : P.follows .mixedOrders = true)
    (hbig : ∀ (i : Nat) (o : Oper) t, ops[i]? = some o → o.dst = some t → t < a0.tmps.size)
    (hpost : ∀ l, IsLit l lit → Q .normal { a0 with tmps := putL w.heap.size (fun _ => true) 0 (ops.toList.zip ds) a0.tmps } (w.alloc (.map (ents l) l.length)).drew) :
    (Code.region id ops true).wp P Q a0 w := by
  refine wp_region_any hm ?_
  have hlen : (ops.toList.zip ds).length = ops.size := by simp [List.length_zip, R.size]
  refine wpAny_inv (fun listed a w' => listed.size = ops.size ∧ a = { a0 with tmps := putL w.heap.size (fun i => listed.getD i false) 0 (ops.toList.zip ds) a0.tmps } ∧
      (∀ (i : Nat) (o : Oper), listed.getD i false = true → ops[i]? = some o → ∀ e ∈ o.after, Region.binds .any e = true → listed.getD e.on false = true) ∧
      ∃ l : List ((Int × Int) × Value), (∀ p, p ∈ l ↔ ∃ i, listed.getD i false = true ∧ ds[i]? = some (.ins p.1 p.2)) ∧ (l.map (·.1)).Nodup ∧
        w' = if listed.getD j0 false then w.drew.alloc (.map (ents l) l.length) else w.drew) (fun _ _ _ h => h.1) ?_ R.down ?_ ops.size _ a0 _ ?_ ?_
  · rintro listed a w' i ⟨hsz, rfl, hclo, l, hmem, hnd, rfl⟩ hi
    obtain ⟨h1, h2, hready⟩ := mem_ready.1 hi
    have hlt : i < listed.size := by omega
    obtain ⟨o, ho⟩ : ∃ o, ops[i]? = some o := ⟨ops[i], by simp [h1]⟩
    obtain ⟨d, hd⟩ : ∃ d, ds[i]? = some d := ⟨ds[i]'(by rw [R.size]; exact h1), by simp⟩
    have hoff : listed.getD i false = false := by simpa [Array.getD, hlt] using h2
    have hflip : ∀ (v : Value), v = dval w.heap.size d ∨ o.dst = none → ({ a0 with tmps := putL w.heap.size (fun i => listed.getD i false) 0 (ops.toList.zip ds) a0.tmps } : Act).put o.dst v = { a0 with tmps := putL w.heap.size (fun j => (listed.setIfInBounds i true).getD j false) 0 (ops.toList.zip ds) a0.tmps } := by
      intro v hv
      rw [put_eq]
      have hv' : putV (putL w.heap.size (fun i => listed.getD i false) 0 (ops.toList.zip ds) a0.tmps) o.dst v = putV (putL w.heap.size (fun i => listed.getD i false) 0 (ops.toList.zip ds) a0.tmps) o.dst (dval w.heap.size d) := by
        rcases hv with rfl | hv
        · rfl
        · rw [hv]; rfl
      simp only [hv']
      rw [putL_flip w.heap.size _ (fun j => (listed.setIfInBounds i true).getD j false) (ops.toList.zip ds) 0 i a0.tmps o d R.once (zip_get ho hd) (by simpa using hoff) (by simp only [Nat.zero_add]; rw [getD_set hlt, if_pos rfl]) (fun j hj => by rw [getD_set hlt, if_neg (by omega)])]
    have hclo' : ∀ (j : Nat) (o : Oper), (listed.setIfInBounds i true).getD j false = true → ops[j]? = some o → ∀ e ∈ o.after, Region.binds .any e = true → (listed.setIfInBounds i true).getD e.on false = true := by
      intro j o' hj ho' e he hb
      rw [getD_set hlt] at hj ⊢
      split
      · rfl
      · split at hj
        · rename_i e2
          subst e2
          exact hready o' ho' e he hb
        · exact hclo j o' hj ho' e he hb
    have hsrc : ∀ x q, src ops ds o.after x = some q → ({ a0 with tmps := putL w.heap.size (fun i => listed.getD i false) 0 (ops.toList.zip ds) a0.tmps } : Act).eval x = dval w.heap.size q ∧ ∃ j, listed.getD j false = true ∧ ds[j]? = some q := by
      intro x q hx
      obtain ⟨t, e, o', rfl, he, hb, ho', ht, hq⟩ := src_some hx
      have hon := hready o ho e he hb
      refine ⟨?_, e.on, hon, hq⟩
      have := putL_get w.heap.size (fun i => listed.getD i false) (ops.toList.zip ds) 0 e.on a0.tmps o' q t R.once (zip_get ho' hq) (by simpa using hon) ht (hbig _ _ _ ho' ht)
      show (putL w.heap.size (fun i => listed.getD i false) 0 (ops.toList.zip ds) a0.tmps).getD t undef = _
      rw [Array.getD_eq_getD_getElem?, this]; rfl
    have hins : ∀ x v, d = .ins x v → ∀ p : (Int × Int) × Value, (∃ j, (listed.setIfInBounds i true).getD j false = true ∧ ds[j]? = some (.ins p.1 p.2)) ↔ (p = (x, v) ∨ ∃ j, listed.getD j false = true ∧ ds[j]? = some (.ins p.1 p.2)) := by
      rintro x v rfl p
      constructor
      · rintro ⟨j, hj, hp⟩
        rw [getD_set hlt] at hj
        split at hj
        · rename_i e
          subst e
          rw [hd] at hp
          injection hp with hp
          injection hp with e1 e2
          exact .inl (Prod.ext e1.symm e2.symm)
        · exact .inr ⟨j, hj, hp⟩
      · rintro (rfl | ⟨j, hj, hp⟩)
        · exact ⟨i, by rw [getD_set hlt, if_pos rfl], hd⟩
        · exact ⟨j, by rw [getD_set hlt]; split <;> simp_all, hp⟩
    have hother : (∀ x v, d ≠ .ins x v) → ∀ p : (Int × Int) × Value, (∃ j, (listed.setIfInBounds i true).getD j false = true ∧ ds[j]? = some (.ins p.1 p.2)) ↔ ∃ j, listed.getD j false = true ∧ ds[j]? = some (.ins p.1 p.2) := by
      intro hne p
      constructor
      · rintro ⟨j, hj, hp⟩
        rw [getD_set hlt] at hj
        split at hj
        · rename_i e
          subst e
          rw [hd] at hp
          injection hp with hp
          exact absurd hp (hne _ _)
        · exact ⟨j, hj, hp⟩
      · rintro ⟨j, hj, hp⟩
        exact ⟨j, by rw [getD_set hlt]; split <;> simp_all, hp⟩
    have hsz' : (listed.setIfInBounds i true).size = ops.size := by simpa using hsz
    have his := R.is i o d ho hd
    unfold wpOp
    rw [ho]
    cases d with
    | mk =>
      obtain ⟨hg, hop⟩ := his
      have hi0 : i = j0 := R.one i hd
      subst hi0
      have hl : l = [] := by
        apply List.eq_nil_iff_forall_not_mem.2
        intro p hp
        obtain ⟨j, hj, hpj⟩ := (hmem p).1 hp
        obtain ⟨oj, hoj⟩ : ∃ oj, ops[j]? = some oj := by
          have : j < ops.size := by rw [← R.size]; exact (List.getElem?_eq_some_iff.1 hpj).1
          exact ⟨ops[j], by simp [this]⟩
        obtain ⟨_, _, m, kx, vx, _, hm1, _⟩ := R.is j oj _ hoj hpj
        obtain ⟨t, e, o', _, he, hb, _, _, hq⟩ := src_some hm1
        have := hclo j oj hj hoj e he hb
        rw [R.one _ hq, hoff] at this
        cases this
      subst hl
      simp only [Region.wanted, hg, if_true]
      left
      unfold Oper.wp execOp
      simp only [hop, hoff, Bool.false_eq_true, if_false, Option.map_none]
      have hmk : (Instr.makeMap T none).run P w.drew = .ok (.map (some w.drew.heap.size)) (w.drew.alloc (.map #[] 0)) := run_makeMap T w.drew
      simp only [Sem.run_bind, hmk, Result.andThen_ok, Sem.run_pure, Oper.upon_value]
      refine ⟨hsz', hflip _ (.inl rfl), hclo', [], fun p => ?_, hnd, ?_⟩
      · rw [hother (fun _ _ e => by cases e) p]; exact hmem p
      · rw [getD_set hlt, if_pos rfl]; rfl
    | val v =>
      obtain ⟨hg, hrun⟩ := his
      simp only [Region.wanted, hg, if_true]
      left
      unfold Oper.wp
      rw [hrun, Oper.upon_value]
      refine ⟨hsz', hflip _ (.inl rfl), hclo', l, fun p => ?_, hnd, ?_⟩
      · rw [hother (fun _ _ e => by cases e) p]; exact hmem p
      · have hne : j0 ≠ i := fun e => by subst e; rw [R.first] at hd; cases hd
        rw [getD_set hlt, if_neg hne]
    | mv =>
      obtain ⟨hg, x, hop, hs⟩ := his
      have hv : ({ a0 with tmps := putL w.heap.size (fun i => listed.getD i false) 0 (ops.toList.zip ds) a0.tmps } : Act).eval x = .map (some w.heap.size) := by
        rcases hs with hs | hs
        · exact (hsrc _ _ hs).1
        · exact (hsrc _ _ hs).1
      simp only [Region.wanted, hg, if_true]
      left
      unfold Oper.wp execOp
      rcases hop with hop | hop
      all_goals
        simp only [hop, Sem.run_pure, Oper.upon_value, hv]
        refine ⟨hsz', hflip _ (.inl rfl), hclo', l, fun p => ?_, hnd, ?_⟩
        · rw [hother (fun _ _ e => by cases e) p]; exact hmem p
        · have hne : j0 ≠ i := fun e => by subst e; rw [R.first] at hd; cases hd
          rw [getD_set hlt, if_neg hne]
    | ins x v =>
      obtain ⟨hg, hdst, m, kx, vx, hop, hs1, hs2, hs3⟩ := his
      obtain ⟨hv1, j, hj, hq⟩ := hsrc _ _ hs1
      have hj0 : listed.getD j0 false = true := by rw [← R.one j hq]; exact hj
      have hv2 := (hsrc _ _ hs2).1
      have hv3 : ({ a0 with tmps := putL w.heap.size (fun i => listed.getD i false) 0 (ops.toList.zip ds) a0.tmps } : Act).eval vx = v := by
        rcases hs3 with rfl | hs3
        · rfl
        · exact (hsrc _ _ hs3).1
      have hnew : x ∉ l.map (·.1) := by
        intro hx
        obtain ⟨p, hp, he⟩ := List.mem_map.1 hx
        obtain ⟨j', hj', hp'⟩ := (hmem p).1 hp
        have := R.keys i j' x v p.2 hd (by rw [hp', ← he])
        subst this
        rw [hoff] at hj'; cases hj'
      simp only [Region.wanted, hg, if_true]
      left
      unfold Oper.wp execOp
      have hsize : w.drew.heap.size = w.heap.size := rfl
      have hrun := run_update_new hk (w.drew.alloc (.map (ents l) l.length)) hT w.heap.size l (heap_alloc_new w.drew _) x v (findP_none.2 hnew)
      simp only [hop, hv1, hv2, hv3, dval, hj0, if_true, Sem.run_bind, hrun, Result.andThen_ok, Sem.run_pure, Oper.upon_skip]
      refine ⟨hsz', hflip _ (.inr hdst), hclo', l ++ [(x, v)], fun p => ?_, ?_, ?_⟩
      · rw [hins x v rfl p, List.mem_append, hmem p]
        simp [or_comm]
      · rw [List.map_append, List.nodup_append]
        refine ⟨hnd, by simp, fun a ha b hb => ?_⟩
        simp only [List.map_cons, List.map_nil, List.mem_singleton] at hb
        subst hb
        exact fun e => hnew (e ▸ ha)
      · have hne : j0 ≠ i := fun e => by subst e; rw [R.first] at hd; cases hd
        rw [getD_set hlt, if_neg hne, hj0, if_pos rfl]
        show ({ (w.drew.alloc (.map (ents l) l.length)) with heap := (w.drew.heap.push (.map (ents l) l.length)).setIfInBounds w.heap.size (.map (ents (l ++ [(x, v)])) (l.length + 1)) } : World) = { w.drew with heap := w.drew.heap.push (.map (ents (l ++ [(x, v)])) (l ++ [(x, v)]).length) }
        have : (w.drew.heap.push (.map (ents l) l.length)).setIfInBounds w.heap.size (.map (ents (l ++ [(x, v)])) (l.length + 1)) = w.drew.heap.push (.map (ents (l ++ [(x, v)])) (l ++ [(x, v)]).length) := by
          rw [show (l ++ [(x, v)]).length = l.length + 1 by simp]
          exact push_set w.drew.heap _ _
        rw [this]; rfl
  · rintro listed a w' ⟨hsz, rfl, _, l, hmem, hnd, rfl⟩ hall
    have hon : putL w.heap.size (fun i => listed.getD i false) 0 (ops.toList.zip ds) a0.tmps = putL w.heap.size (fun _ => true) 0 (ops.toList.zip ds) a0.tmps :=
      putL_on _ _ _ _ 0 _ fun k _ hk => hall k (by omega)
    rw [hon]
    have hj0 : j0 < ops.size := by rw [← R.size]; exact (List.getElem?_eq_some_iff.1 R.first).1
    rw [hall j0 hj0, if_pos rfl]
    refine hpost l ⟨fun p => ?_, hnd⟩
    rw [hmem p, R.lits p]
    constructor
    · rintro ⟨i, _, hp⟩; exact List.mem_of_getElem? hp
    · intro hp
      obtain ⟨i, hi, he⟩ := List.getElem_of_mem hp
      exact ⟨i, hall i (by rw [← R.size]; exact hi), by rw [List.getElem?_eq_getElem hi, he]⟩
  · simp
  · refine ⟨by simp, ?_, fun i o h => by simp [Array.getD] at h, [], fun p => ?_, List.nodup_nil, ?_⟩
    · have : putL w.heap.size (fun i => (Array.replicate ops.size false).getD i false) 0 (ops.toList.zip ds) a0.tmps = a0.tmps := by
        generalize (ops.toList.zip ds) = L
        have hz : ∀ (L : List (Oper × D)) (i : Nat) (t : Array Value), putL w.heap.size (fun i => (Array.replicate ops.size false).getD i false) i L t = t := by
          intro L
          induction L with
          | nil => intro i t; rfl
          | cons x r ih =>
            intro i t
            obtain ⟨o, d⟩ := x
            unfold putL
            rw [if_neg (by simp [Array.getD]), ih]
        exact hz L 0 _
      rw [this]
    · simp [Array.getD]
    · simp [Array.getD]


/-- The entries that a literal's region makes. -/
def litOf (ds : List D) : List ((Int × Int) × Value) := ds.filterMap fun | .ins x v => some (x, v) | _ => none
def keysOf (ds : List D) : List (Int × Int) := ds.filterMap fun | .ins x _ => some x | _ => none

theorem filterMap_inj {α β : Type} (f : α → Option β) : ∀ (l : List α), (l.filterMap f).Nodup → ∀ (i j : Nat) (a b : α) (x : β), l[i]? = some a → l[j]? = some b → f a = some x → f b = some x → i = j
  | [], _, i, _, _, _, _, hi, _, _, _ => by simp at hi
  | c :: r, hn, i, j, a, b, x, hi, hj, ha, hb => by
    have hr : (r.filterMap f).Nodup := by
      rw [List.filterMap_cons] at hn
      split at hn
      · exact hn
      · exact (List.nodup_cons.1 hn).2
    have hnot : f c = some x → x ∉ r.filterMap f := by
      intro hc
      rw [List.filterMap_cons, hc] at hn
      exact (List.nodup_cons.1 hn).1
    match i, j with
    | 0, 0 => rfl
    | 0, j + 1 =>
      simp only [List.getElem?_cons_zero, Option.some.injEq] at hi
      subst hi
      exact absurd (List.mem_filterMap.2 ⟨b, List.mem_of_getElem? (by simpa using hj), hb⟩) (hnot ha)
    | i + 1, 0 =>
      simp only [List.getElem?_cons_zero, Option.some.injEq] at hj
      subst hj
      exact absurd (List.mem_filterMap.2 ⟨a, List.mem_of_getElem? (by simpa using hi), ha⟩) (hnot hb)
    | i + 1, j + 1 =>
      rw [filterMap_inj f r hr i j a b x (by simpa using hi) (by simpa using hj) ha hb]

theorem once_of : ∀ (os : List Oper) (ds : List D), (os.filterMap (·.dst)).Nodup → Once (os.zip ds)
  | [], ds, _ => by simp [Once]
  | o :: os, [], _ => by simp [Once]
  | o :: os, d :: ds, hn => by
    have hr : (os.filterMap (·.dst)).Nodup := by
      rw [List.filterMap_cons] at hn
      split at hn
      · exact hn
      · exact (List.nodup_cons.1 hn).2
    refine List.pairwise_cons.2 ⟨fun x hx t ht hx2 => ?_, once_of os ds hr⟩
    rw [List.filterMap_cons, ht] at hn
    refine (List.nodup_cons.1 hn).1 (List.mem_filterMap.2 ⟨x.1, ?_, hx2⟩)
    obtain ⟨a, b⟩ := x
    exact (List.of_mem_zip hx).1

theorem LitRegion.of {P : Program} {T K E I : TypeId} {ops : Array Oper} {ds : List D} (j0 : Nat) (hsz : ds.length = ops.size)
    (his : ∀ x ∈ ops.toList.zip ds, OpIs P T ops ds x.1 x.2) (honce : (ops.toList.filterMap (·.dst)).Nodup)
    (hdown : (ops.toList.zipIdx.all fun x => x.1.after.all fun e => decide (e.on < x.2)) = true) (hfirst : ds[j0]? = some .mk)
    (hone : (ds.filterMap fun | .mk => some () | _ => none).Nodup) (hkeys : (keysOf ds).Nodup) : LitRegion P T K E I ops ds j0 (litOf ds) where
  size := hsz
  is := fun i o d ho hd => his (o, d) (List.mem_of_getElem? (zip_get ho hd))
  once := once_of _ _ honce
  down := fun i o ho e he => by
    have h1 := List.all_eq_true.1 hdown (o, i) (by rw [List.mem_zipIdx_iff_getElem?]; simpa using ho)
    have h2 := Array.all_eq_true_iff_forall_mem.1 h1 e he
    simpa using h2
  first := hfirst
  one := fun i hi => filterMap_inj _ ds hone i j0 _ _ () hi hfirst rfl rfl
  lits := fun p => by
    unfold litOf
    rw [List.mem_filterMap]
    constructor
    · rintro ⟨d, hd, he⟩
      cases d <;> simp only [Option.some.injEq, reduceCtorEq] at he
      subst he
      exact hd
    · intro h
      exact ⟨_, h, rfl⟩
  keys := fun i j x v u hi hj => filterMap_inj _ ds hkeys i j _ _ x hi hj rfl rfl


section
variable {P : Program} {ops : Array Oper} {rest : List Oper} {o : Oper} {a : Act} {Q : Exit → Act → World → Prop} {w : World}
/-- 'm[x]' without ok, as a step of the walk. -/
theorem wpList_lookup_pk {K I T E : TypeId} {z : Value} (h : PairKey P K I) (hT : P.underlying T = some (.map K E)) (hz : ∀ w, (zeroValue E).run P w = .ok z w) (hg : o.guard = none) (mx kx : Operand) (hop : o.op = .lookup T mx kx false)
    (b c : Nat) (l : List ((Int × Int) × Value)) (hm : a.eval mx = .map (some b)) (x y : Int) (hx : a.eval kx = .agg #[.int .i64 x, .int .i64 y]) (hb : w.heap[b]? = some (.map (ents l) c)) (v : Value)
    (hv : (match findP (x, y) l 0 with | some (_, v) => v | none => z) = v) (hK : wpList P ops Q rest (a.put o.dst v) w) : wpList P ops Q (o :: rest) a w := by
  refine wpList_plain hg fun K hK' => ?_
  unfold Oper.wp execOp
  have hrun := run_lookup_pk h w hT hz b c l hb (x, y) false
  simp only [hop, hm, hx, Sem.run_bind]
  rw [show (Value.agg #[.int .i64 x, .int .i64 y]) = pk (x, y) from rfl, hrun]
  simp only [Result.andThen_ok, Sem.run_pure, Oper.upon_value]
  refine hK' _ _ ?_
  subst hv
  cases hf : findP (x, y) l 0 with
  | none => rw [hf] at hK; exact hK
  | some r => rw [hf] at hK; exact hK
end

end Pm
end Go.Proofs.YtllabeiadeclkaaDoor
