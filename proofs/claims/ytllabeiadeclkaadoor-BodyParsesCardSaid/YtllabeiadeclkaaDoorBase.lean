/-
  Small lemmas that all walks of this seat use; no program.
-/
import Derived.WalkKit
import Derived.LoopTactic
import Derived.LoopN
import Derived.Lib.Hide
import Derived.BigRegion
import Derived.BigQuiet
import Derived.Outline
import Derived.WalkSpells
import Derived.WalkLawsBesides
import Derived.Deep.DeepFit
import Derived.Deep.QuietTactic
import Derived.Handy
import Derived.Deep.DeepCutAuto
import Derived.Deep.CutBlock
import Derived.Deep.Light
set_option linter.unusedVariables false
set_option linter.unusedSimpArgs false
namespace Go.Proofs.YtllabeiadeclkaaDoor
open Go.RowKit

theorem ret_bool {x y : Bool} (h : x = y) : Ending.returned (.bool x) = .returned (.bool y) := by rw [h]
theorem ret_int {k : IntKind} {x y : Int} (h : x = y) : Ending.returned (.int k x) = .returned (.int k y) := by rw [h]
theorem bl_alloc {B : Nat} {w W : World} (h : Below B w W) (hB : B ≤ W.heap.size) (o : Obj) : Below B w (W.alloc o) := h.alloc hB o
theorem bl0 (w : World) : Below w.heap.size w w := Below.refl _ _
theorem bl1 {w W : World} (h : Below w.heap.size w W) (o : Obj) : Below w.heap.size w (W.alloc o) := h.alloc h.size o
theorem bl2 {w W : World} (h : Below w.heap.size w W) : Below w.heap.size w W.drew := h.drew
theorem bl3 {w W W' : World} (h : Below w.heap.size w W) (h' : Below W.heap.size W W') : Below w.heap.size w W' := h.trans (h'.mono h.size)
theorem bl4 {w W : World} (h : Below w.heap.size w W) (n : Nat) : Below w.heap.size w (W.drewN n) := ⟨h.os, h.tape, h.output, h.size, h.block⟩
theorem blk {w W : World} (h : Below w.heap.size w W) {b : Nat} {o : Obj} (hb : w.heap[b]? = some o) : W.heap[b]? = some o :=
  (h.block b (Array.getElem?_eq_some_iff.1 hb).1).trans hb
theorem cellk {w W : World} (h : Below w.heap.size w W) {a : Addr} {v : Value} (hc : w.cell? a = some v) : W.cell? a = some v :=
  (h.cell (World.block_lt_of_cell? w a hc)).trans hc
theorem bcell {W w1 : World} (hb : Below W.heap.size W w1) : (∀ b o, b < W.heap.size → w1.cell? ⟨b, o, none⟩ = W.cell? ⟨b, o, none⟩) ∧ (∀ b o, b < W.heap.size → w1.frozen? ⟨b, o, none⟩ = W.frozen? ⟨b, o, none⟩) :=
  ⟨fun b o h => hb.cell (p := ⟨b, o, none⟩) h, fun b o h => hb.frozen (p := ⟨b, o, none⟩) h⟩
theorem sc_block {w : World} {b : Nat} {c : Array Value} {t : TypeId} {f : Nat × Nat} (h : w.heap[b]? = some (.cells c t f)) (i : Nat) (v : Value) : (w.setCell ⟨b, i, none⟩ v).heap[b]? = some (.cells (c.setIfInBounds i v) t f) := by
  simp only [World.setCell, Array.getElem?_modify, if_true, h, Option.map_some]
  rfl
theorem cell_blk {w : World} {b : Nat} {c : Array Value} {t : TypeId} {f : Nat × Nat} (h : w.heap[b]? = some (.cells c t f)) (i : Nat) : w.cell? ⟨b, i, none⟩ = c[i]? := by
  simp [World.cell?, h]
theorem frozen_blk {w : World} {b : Nat} {c : Array Value} {t : TypeId} (h : w.heap[b]? = some (.cells c t (0, 0))) (i : Nat) : w.frozen? ⟨b, i, none⟩ = false := by
  simp [World.frozen?, h]
theorem blk_ne {w w1 : World} {r b : Nat} {o : Obj} (hg : w.grownBy w1 (some r)) (h : w.heap[b]? = some o) (hne : b ≠ r) : w1.heap[b]? = some o :=
  (hg.block b (Array.getElem?_eq_some_iff.1 h).1 (fun e => hne (Option.some.inj e))).trans h
theorem bl_grown {w wr w1 : World} {r : Nat} (h : Below w.heap.size w wr) (hg : wr.grownBy w1 (some r)) (hr : w.heap.size ≤ r) : Below w.heap.size w w1 :=
  h.grown hg h.size (fun k e => by cases e; exact hr)
theorem drew_new (w : World) (o : Obj) (b : Nat) (h : b = w.heap.size) : ((w.alloc o).drew).heap[b]? = some o := by subst h; exact heap_alloc_new w o
theorem alloc_new (w : World) (o : Obj) (b : Nat) (h : b = w.heap.size) : (w.alloc o).heap[b]? = some o := by subst h; exact heap_alloc_new w o
theorem blk_below {w W : World} {b : Nat} {o : Obj} (hb : w.heap[b]? = some o) (B : Nat) (h : Below B w W) (hlt : b < B) : W.heap[b]? = some o := (h.block b hlt).trans hb
theorem bl5 {w W : World} (h : Below w.heap.size w W) (b o : Nat) (v : Value) (hb : w.heap.size ≤ b) : Below w.heap.size w (W.setCell ⟨b, o, none⟩ v) := h.setCell hb v
end Go.Proofs.YtllabeiadeclkaaDoor
