/-
  body.words and body.spans: the maps that they make, whatever the order in which the literal's entries are laid.
-/
import Derived.Test.YtllabeiadeclkaaDoorPairMap
import Derived.Test.YtllabeiadeclkaaDoorProg
set_option linter.unusedVariables false
set_option linter.unusedSimpArgs false
namespace Go.Proofs.YtllabeiadeclkaaDoor
open Go.RowKit Pm

theorem pairKey74 : PairKey Tryd.prog 74 3 where
  arr := Tryd.underlying74
  int := Tryd.underlying3
  size := fun w => by kernel_rfl
  noagg := fun w => by kernel_rfl

def wordsDs : List D := [.mk, .val (pk (1, 0)), .ins (1, 0) (.string ⟨#[110, 111, 112]⟩), .val (pk (2, 1)), .ins (2, 1) (.string ⟨#[115, 117, 98, 109, 105, 116]⟩),
  .val (pk (3, 2)), .ins (3, 2) (.string ⟨#[97, 102, 116, 101, 114]⟩), .val (pk (4, 1)), .ins (4, 1) (.string ⟨#[99, 97, 110, 99, 101, 108]⟩), .val (pk (5, 0)), .ins (5, 0) (.string ⟨#[112, 97, 110, 105, 99]⟩), .mv, .mv]

theorem dst_small (ops : Array Oper) (n : Nat) (h : (ops.toList.all fun o => (o.dst.map fun t => decide (t < n)).getD true) = true) : ∀ (i : Nat) (o : Oper) t, ops[i]? = some o → o.dst = some t → t < n := by
  intro i o t ho ht
  have := List.all_eq_true.1 h o (by rw [Array.mem_toList_iff]; exact Array.mem_of_getElem? ho)
  rw [ht] at this
  simpa using this

set_option maxHeartbeats 400000 in
theorem words_any (w : World) : Calls Tryd.prog 33 #[] w fun e w' =>
    ∃ l, IsLit l (litOf wordsDs) ∧ e = .returned (.map (some w.heap.size)) ∧ w' = (w.alloc (.map (ents l) l.length)).drew := by
  go_enter Tryd.func33, Tryd.ntmps33
  go_wp2
  refine wp_lit (ds := wordsDs) (LitRegion.of (I := 3) 0 rfl ?_ (of_decide_eq_true (by kernel_rfl)) (by kernel_rfl) rfl (by decide) (by decide)) pairKey74 Tryd.underlying72 (by kernel_rfl) ?_ ?_
  · simp only [wordsDs, List.zip_cons_cons, List.zip_nil_right, List.forall_mem_cons]
    refine ⟨⟨rfl, rfl⟩, ⟨rfl, fun _ _ => by kernel_rfl⟩, ⟨rfl, rfl, _, _, _, rfl, rfl, rfl, .inl rfl⟩, ⟨rfl, fun _ _ => by kernel_rfl⟩, ⟨rfl, rfl, _, _, _, rfl, rfl, rfl, .inl rfl⟩, ⟨rfl, fun _ _ => by kernel_rfl⟩, ⟨rfl, rfl, _, _, _, rfl, rfl, rfl, .inl rfl⟩, ⟨rfl, fun _ _ => by kernel_rfl⟩, ⟨rfl, rfl, _, _, _, rfl, rfl, rfl, .inl rfl⟩, ⟨rfl, fun _ _ => by kernel_rfl⟩, ⟨rfl, rfl, _, _, _, rfl, rfl, rfl, .inl rfl⟩, ⟨rfl, _, .inl rfl, .inl rfl⟩, ⟨rfl, _, .inr rfl, .inr rfl⟩, fun _ h => by cases h⟩
  · exact dst_small _ _ (by kernel_rfl)
  · intro l hl
    simp only [putL, putV, wordsDs, List.zip_cons_cons, List.zip_nil_right, dval, if_true, List.setIfInBounds_toArray, List.set_cons_zero, List.set_cons_succ]
    go_wp2
    go_ret
    exact ⟨l, hl, rfl, rfl⟩

/-- A span as a value. -/
def spanV (lo hi : Int) : Value := .agg #[.int .i64 lo, .int .i64 hi]
def spansDs : List D := [.mk, .val (pk (2, 0)), .val (spanV 0 7), .ins (2, 0) (spanV 0 7), .val (pk (3, 0)), .val (spanV 0 7), .ins (3, 0) (spanV 0 7),
  .val (pk (3, 1)), .val (spanV 0 1000000), .ins (3, 1) (spanV 0 1000000), .val (pk (4, 0)), .val (spanV 1 1000), .ins (4, 0) (spanV 1 1000), .mv, .mv]

set_option maxHeartbeats 400000 in
theorem spans_any (w : World) : Calls Tryd.prog 53 #[] w fun e w' =>
    ∃ l, IsLit l (litOf spansDs) ∧ e = .returned (.map (some w.heap.size)) ∧ w' = (w.alloc (.map (ents l) l.length)).drew := by
  go_enter Tryd.func53, Tryd.ntmps53
  go_wp2
  refine wp_lit (ds := spansDs) (LitRegion.of (I := 3) 0 rfl ?_ (of_decide_eq_true (by kernel_rfl)) (by kernel_rfl) rfl (by decide) (by decide)) pairKey74 Tryd.underlying94 (by kernel_rfl) ?_ ?_
  · simp only [spansDs, List.zip_cons_cons, List.zip_nil_right, List.forall_mem_cons]
    refine ⟨⟨rfl, rfl⟩, ⟨rfl, fun _ _ => by kernel_rfl⟩, ⟨rfl, fun _ _ => by kernel_rfl⟩, ⟨rfl, rfl, _, _, _, rfl, rfl, rfl, .inr rfl⟩, ⟨rfl, fun _ _ => by kernel_rfl⟩, ⟨rfl, fun _ _ => by kernel_rfl⟩, ⟨rfl, rfl, _, _, _, rfl, rfl, rfl, .inr rfl⟩, ⟨rfl, fun _ _ => by kernel_rfl⟩, ⟨rfl, fun _ _ => by kernel_rfl⟩, ⟨rfl, rfl, _, _, _, rfl, rfl, rfl, .inr rfl⟩, ⟨rfl, fun _ _ => by kernel_rfl⟩, ⟨rfl, fun _ _ => by kernel_rfl⟩, ⟨rfl, rfl, _, _, _, rfl, rfl, rfl, .inr rfl⟩, ⟨rfl, _, .inl rfl, .inl rfl⟩, ⟨rfl, _, .inr rfl, .inr rfl⟩, fun _ h => by cases h⟩
  · exact dst_small _ _ (by kernel_rfl)
  · intro l hl
    simp only [putL, putV, spansDs, List.zip_cons_cons, List.zip_nil_right, dval, if_true, List.setIfInBounds_toArray, List.set_cons_zero, List.set_cons_succ]
    go_wp2
    go_ret
    exact ⟨l, hl, rfl, rfl⟩
end Go.Proofs.YtllabeiadeclkaaDoor
