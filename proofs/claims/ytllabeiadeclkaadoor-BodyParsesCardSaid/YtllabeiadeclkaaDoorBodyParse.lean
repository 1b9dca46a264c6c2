/-
  body.Parse: the body of a text.
-/
import Derived.Test.YtllabeiadeclkaaDoorBodySeq
import Derived.Test.YtllabeiadeclkaaDoorBodyText
import Derived.Test.YtllabeiadeclkaaDoorBodyRead
import Derived.Maps.AppendAt
set_option linter.unusedVariables false
set_option linter.unusedSimpArgs false
namespace Go.Proofs.YtllabeiadeclkaaDoor
open Go.RowKit Go.Proofs.YtllabeiadeclkaaDoorW

/-- What strings.SplitSeq comes to: the boxes are laid. -/
def SeqPost (s : List UInt8) (w : World) (e : Ending) (w' : World) : Prop :=
  e = .returned (.func (.func 48) #[] #[.pointer (some ⟨w.heap.size + 1, 0, none⟩), .pointer (some ⟨w.heap.size, 0, none⟩), .pointer (some ⟨w.heap.size + 2, 0, none⟩)]) ∧
    w' = ((w.alloc (.cells #[.string (S s)] 9)).alloc (.cells #[.string ⟨#[59]⟩] 9)).alloc (.cells #[.int .i64 0] 3)

set_option maxRecDepth 100000 in
theorem seq_inner (s : List UInt8) (w : World) :
    Calls Tryd.prog 31 #[.string (S s), .string ⟨#[59]⟩, .int .i64 0] w (SeqPost s w) := by
  go_enter Tryd.func31, Tryd.ntmps31
  go_wp2
  go_ret
  exact ⟨by simp, rfl⟩

set_option maxRecDepth 100000 in
theorem seq_any (s : List UInt8) (w : World) : Calls Tryd.prog 16 #[.string (S s), .string ⟨#[59]⟩] w (SeqPost s w) := by
  go_enter Tryd.func16, Tryd.ntmps16
  go_wp2_with (go_at_call 31; go_must (refine (seq_inner s w).mono ?_; rintro e w' ⟨rfl, rfl⟩))
  go_ret
  exact ⟨rfl, rfl⟩

theorem SeqPost.boxes (s : List UInt8) (w : World) : SeqBoxes w.heap.size s (((w.alloc (.cells #[.string (S s)] 9)).alloc (.cells #[.string ⟨#[59]⟩] 9)).alloc (.cells #[.int .i64 0] 3)) :=
  ⟨blk (bl1 (bl1 (bl0 _) _) _) (alloc_new w _ _ rfl), blk (bl1 (bl0 _) _) (alloc_new _ _ _ (by simp)), alloc_new _ _ _ (by simp)⟩

set_option maxRecDepth 100000 in
/-- slices.Clip. -/
theorem clip_any (A : Option Addr) (n c : Nat) (hn : n ≤ c) (w : World) :
    Calls Tryd.prog 19 #[.slice A n c] w fun e w' => e = .returned (.slice A n n) ∧ w' = w := by
  go_enter Tryd.func19, Tryd.ntmps19
  go_wp2
  go_ret
  exact ⟨rfl, rfl⟩

/-- A row of ops lies in a block of its own kind. -/
def OpRow (w : World) (A : Option Addr) : Prop := ∀ a, A = some a → ∃ cs, w.heap[a.block]? = some (.cells cs 50 (0, 0))

/-- What body.Parse comes to. -/
def ParsePost (s : List UInt8) (w : World) (e : Ending) (w' : World) : Prop :=
  Below w.heap.size w w' ∧ ∃ A c, e = .returned (.tuple #[.slice A (Bp.parse s).1.length c, .int .i64 (Bp.parse s).2]) ∧ (Bp.parse s).1.length ≤ c ∧ OpsAt w' A (Bp.parse s).1 ∧ OpRow w' A

theorem none_post {s : List UInt8} {w W : World} {x : Int} (h : Bp.parse s = ([], x)) (hb : Below w.heap.size w W) : ParsePost s w (.returned (.tuple #[.slice none 0 0, .int .i64 x])) W := by
  refine ⟨hb, none, 0, ?_⟩
  rw [h]
  exact ⟨rfl, Nat.le_refl _, fun hl => absurd hl (by simp), fun a h => by cases h⟩

set_option maxRecDepth 100000 in
set_option maxHeartbeats 1600000 in
/-- A text that is too long. -/
theorem parse_long (s : List UInt8) (w : World) (hs : 400 < s.length) : Calls Tryd.prog 6 #[.string (S s)] w (ParsePost s w) := by
  have hz : (S s).size = s.length := S_size s
  go_enter Tryd.func6, Tryd.ntmps6
  go_wp2
  refine bodyPost_ret (v := .tuple #[.slice none 0 0, .int .i64 2]) (by simp [results, Tryd.results6, go_sem]) rfl ?_
  refine none_post (by simp [Bp.parse, hs]) ?_
  repeat (first | exact bl0 _ | refine bl1 ?_ _ | refine bl5 ?_ _ _ _ (by simp))

set_option maxRecDepth 100000 in
set_option maxHeartbeats 1600000 in
/-- The text of no op. -/
theorem parse_dash (w : World) : Calls Tryd.prog 6 #[.string ⟨#[45]⟩] w (ParsePost [45] w) := by
  go_enter Tryd.func6, Tryd.ntmps6
  go_wp2
  refine bodyPost_ret (v := .tuple #[.slice none 0 0, .int .i64 0]) (by simp [results, Tryd.results6, go_sem]) rfl ?_
  refine none_post (by simp [Bp.parse]) ?_
  repeat (first | exact bl0 _ | refine bl1 ?_ _ | refine bl5 ?_ _ _ _ (by simp))

/-- The cells of a row of ops. -/
def opCells (l : List Bp.O) : List Value := l.flatMap fun o => [.int .i64 o.kind, .int .i64 o.a, .int .i64 o.b]
theorem opCells_snoc (l : List Bp.O) (o : Bp.O) : opCells (l ++ [o]) = opCells l ++ [.int .i64 o.kind, .int .i64 o.a, .int .i64 o.b] := by simp [opCells]
theorem opCells_at : ∀ (l : List Bp.O) (j : Nat) (x : Bp.O), l[j]? = some x → (opCells l)[j * 3]? = some (.int .i64 x.kind) ∧ (opCells l)[j * 3 + 1]? = some (.int .i64 x.a) ∧ (opCells l)[j * 3 + 2]? = some (.int .i64 x.b)
  | [], j, x, h => by simp at h
  | y :: r, 0, x, h => by
    obtain rfl : y = x := by simpa using h
    simp [opCells]
  | y :: r, j + 1, x, h => by
    have ih := opCells_at r j x (by simpa using h)
    have e : opCells (y :: r) = [.int .i64 y.kind, .int .i64 y.a, .int .i64 y.b] ++ opCells r := rfl
    have e0 : (j + 1) * 3 = j * 3 + 3 := by omega
    rw [e, e0]
    refine ⟨?_, ?_, ?_⟩
    · rw [List.getElem?_append_right (by simp)]; simpa using ih.1
    · rw [List.getElem?_append_right (by simp)]; simpa using ih.2.1
    · rw [List.getElem?_append_right (by simp)]; simpa using ih.2.2

/-- A row of ops that the call owns is at hand for readers. -/
theorem ops_of_own {w : World} {base : Nat} {v : Value} {l : List Bp.O} (h : w.ownsRow base 50 3 v l.length (opCells l)) : ∃ A c, v = .slice A l.length c ∧ l.length ≤ c ∧ OpsAt w A l := by
  rcases h.2 with ⟨rfl, h2⟩ | ⟨g, cap, cur, rfl, h1, h2, h3, h4, h5, h6⟩
  · have h0 : l = [] := by
      cases l with
      | nil => rfl
      | cons x r => simp [opCells] at h2
    subst h0
    exact ⟨none, 0, rfl, Nat.le_refl _, fun h => by simp at h⟩
  · refine ⟨some ⟨g, 0, none⟩, cap, rfl, by first | omega | assumption, fun hp => ⟨g, 0, rfl, (Array.getElem?_eq_some_iff.1 h2).1, fun j x hx => ?_⟩⟩
    obtain ⟨a0, a1, a2⟩ := opCells_at l j x hx
    have k0 := h.cells (g := g) rfl _ _ a0
    have k1 := h.cells (g := g) rfl _ _ a1
    have k2 := h.cells (g := g) rfl _ _ a2
    simp only [PrintWords.add_plain] at k0 k1 k2
    exact ⟨by simpa using k0, by simpa [Nat.add_assoc] using k1, by simpa [Nat.add_assoc] using k2⟩

theorem row_of_own {w : World} {base n c : Nat} {A : Option Addr} {xs : List Value} (h : w.ownsRow base 50 3 (.slice A n c) n xs) : OpRow w A := by
  rcases h.2 with ⟨e, _⟩ | ⟨g, cap, cur, e, h1, h2, _⟩
  · injection e with e1; subst e1; exact fun a h => by cases h
  · injection e with e1; subst e1
    intro a ha
    injection ha with ha; subst ha
    exact ⟨_, h2⟩

theorem read_all_none : ∀ {l : List (List UInt8)} {p : List UInt8}, p ∈ l → Bp.read p = none → l.mapM Bp.read = none
  | x :: r, p, hp, hn => by
    rcases List.mem_cons.1 hp with rfl | h
    · rw [List.mapM_cons, hn]; rfl
    · rw [List.mapM_cons, read_all_none h hn]
      cases Bp.read x <;> rfl
theorem read_all_snoc {pre : List (List UInt8)} {l : List Bp.O} {x : List UInt8} {o : Bp.O} (h : pre.mapM Bp.read = some l) (hx : Bp.read x = some o) : (pre ++ [x]).mapM Bp.read = some (l ++ [o]) := by
  rw [List.mapM_append, h, List.mapM_cons, hx]; rfl

/-- Between two rounds. -/
def LoopI (w : World) (pre : List (List UInt8)) (W : World) : Prop :=
  ∃ v l, pre.mapM Bp.read = some l ∧ l.length = pre.length ∧ W.heap[w.heap.size + 2]? = some (.cells #[v] 22 (0, 0)) ∧ W.ownsRow (w.heap.size + 6) 50 3 v l.length (opCells l) ∧
    W.heap[w.heap.size]? = some (.cells #[.slice none 0 0] 22 (0, 0)) ∧ W.heap[w.heap.size + 1]? = some (.cells #[.int .i64 0] 23 (0, 0)) ∧ Below w.heap.size w W ∧ w.heap.size + 6 ≤ W.heap.size
/-- A round has left. -/
def LoopX (w : World) (pre : List (List UInt8)) (W : World) : Prop :=
  (∃ p, p ∈ pre ∧ Bp.read p = none) ∧ W.heap[w.heap.size]? = some (.cells #[.slice none 0 0] 22 (0, 0)) ∧ W.heap[w.heap.size + 1]? = some (.cells #[.int .i64 3] 23 (0, 0)) ∧ Below w.heap.size w W

theorem below_put {w W : World} (h : Below w.heap.size w W) (l : Nat) (o : Obj) (hl : w.heap.size ≤ l) : Below w.heap.size w (W.putObj l o) :=
  h.grown (grownBy_putObj' W l o) h.size (fun k e => by cases e; exact hl)
theorem LoopI.step {w A B : World} {pre : List (List UInt8)} (h : LoopI w pre A) (hs : Step (w.heap.size + 3) A B) : LoopI w pre B := by
  obtain ⟨v, l, h1, h2, h3, h4, h5, h6, h7, h8⟩ := h
  rcases hs with hs | ⟨u, rfl⟩
  · exact ⟨v, l, h1, h2, blk hs h3, PrintWords.pw_own_below h4 hs, blk hs h5, blk hs h6, bl3 h7 hs, Nat.le_trans h8 hs.size⟩
  · exact ⟨v, l, h1, h2, (sc_else (by simp)).trans h3, PrintWords.own_setCell h4 (fun e => by have := PrintWords.own_base h4 _ e.symm; simp at this) u, (sc_else (by simp)).trans h5, (sc_else (by simp)).trans h6, bl5 h7 _ _ _ (by omega), by simpa using h8⟩
theorem LoopI.put {w A : World} {pre : List (List UInt8)} {l : Nat} {o : Obj} (o' : Obj) (h : LoopI w pre A) (hl : w.heap.size + 6 ≤ l) (ho : A.heap[l]? = some o) (hc : o.isCells = false) : LoopI w pre (A.putObj l o') := by
  obtain ⟨v, ll, h1, h2, h3, h4, h5, h6, h7, h8⟩ := h
  exact ⟨v, ll, h1, h2, (World.putObj_heap_other (by omega)).trans h3, ownsRow_putObj h4 _ ho hc, (World.putObj_heap_other (by omega)).trans h5, (World.putObj_heap_other (by omega)).trans h6, below_put h7 _ _ (by omega), Nat.le_trans h8 (grownBy_putObj' A l o').size⟩
theorem LoopX.put {w A : World} {pre : List (List UInt8)} {l : Nat} (o' : Obj) (h : LoopX w pre A) (hl : w.heap.size + 6 ≤ l) : LoopX w pre (A.putObj l o') := by
  obtain ⟨h1, h5, h6, h7⟩ := h
  exact ⟨h1, (World.putObj_heap_other (by omega)).trans h5, (World.putObj_heap_other (by omega)).trans h6, below_put h7 _ _ (by omega)⟩
end Go.Proofs.YtllabeiadeclkaaDoor
