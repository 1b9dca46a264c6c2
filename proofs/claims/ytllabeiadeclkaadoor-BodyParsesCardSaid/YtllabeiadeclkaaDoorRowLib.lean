/-
  The listed variables of the library: what a row's list and the world's shape give; a world for the witness.
-/
import Derived.Test.YtllabeiadeclkaaDoorBodyLib
import Derived.Test.YtllabeiadeclkaaDoorCards
import Derived.Test.YtllabeiadeclkaaDoorTie
import Derived.ProofKit
import Derived.OpenShut
import Derived.Deep.DeepHandedRow
import Derived.Deep.DeepWitnessRowRef
import Derived.Stop.LaidErr
import Derived.Lib.LaidTab
import Derived.LaidMore
import Derived.LaidSub
import Derived.Lay
import Derived.HandedShaped
set_option linter.unusedVariables false
set_option linter.unusedSimpArgs false
namespace Go.Proofs.YtllabeiadeclkaaDoor
open Go.ChangeShapes Go.WideShapes Go.ChangeAt Go.RowKit

theorem own : ownKnob Tryd.prog.godebug = none := by kernel_rfl

/-- The list of the seat's rows. -/
abbrev listed : List (String × DataW Unit) := Rows.bodyParsesRow.laid

theorem star : "*" ++ "errors.errorString" = "*errors.errorString" := by decide
theorem errRow (u : TypeId) (h : Tryd.prog.typeName? 3 u = some "*errors.errorString") : u = 146 :=
  typeName_ptr_named (nm := "errors.errorString") (by rw [star]; kernel_rfl) (by kernel_rfl) (by decide) u (by rw [star]; exact h)

theorem laid_iff {W : World} (h : laidMetH Tryd.prog listed W) : laidMet Tryd.prog listed W := by
  rw [MakeChecks.laidMetH_plain _ _ _ (by kernel_rfl)] at h
  exact h

theorem glob_of_row {W : World} (hL : laidMetH Tryd.prog listed W) (hsh : W.ShapedOpen Tryd.prog) : Glob W := by
  have h := laid_iff hL
  have hp := h.tail.tail
  obtain ⟨a4, s4, hv4, _⟩ := laid_sentinel (g := 4) h.tail.tail.tail.tail (by kernel_rfl) (by kernel_rfl) (ti := _) Tryd.underlying69 errRow Tryd.underlying146 Tryd.underlying148 rfl rfl Tryd.underlying9 (by kernel_rfl) (by kernel_rfl)
  obtain ⟨a5, s5, hv5, _⟩ := laid_sentinel (g := 3) h.tail.tail.tail.tail.tail (by kernel_rfl) (by kernel_rfl) (ti := _) Tryd.underlying69 errRow Tryd.underlying146 Tryd.underlying148 rfl rfl Tryd.underlying9 (by kernel_rfl) (by kernel_rfl)
  have gR : Tryd.prog.globalNamed "strconv.ErrRange" = some 4 := by kernel_rfl
  have gS : Tryd.prog.globalNamed "strconv.ErrSyntax" = some 3 := by kernel_rfl
  have hm := Go.Proofs.cell_of_shapedOpen_int (P := Tryd.prog) (g := 2) (t := 3) (zero := #[.int .i64 0]) (k := .i64) hsh (of_decide_eq_true (by kernel_rfl)) (by kernel_rfl) rfl (by kernel_rfl) (by kernel_rfl) Tryd.underlying3
  have hpow : Lib.TabIs Tryd.prog W "internal/strconv.uint64pow10" .u64 Lib.pow10Tab :=
    Lib.tabIs_of_head (g := 5) (t := 150) (e := 34) (n := 20) (by kernel_rfl) (by kernel_rfl) (by kernel_rfl) (by kernel_rfl) (by kernel_rfl) (by kernel_rfl) hp
  refine ⟨hm, ⟨_, _, by rw [World.var?_cell gS hv5]; rfl⟩, ⟨_, _, by rw [World.var?_cell gR hv4]; rfl⟩, hpow, ?_⟩
  exact World.block_lt_of_cell? W ⟨5, 0, none⟩ (hpow.cell (by kernel_rfl) 0 (by decide))

noncomputable abbrev laidW (os : Os) : World := World.laidAll Tryd.prog os listed

theorem listed_met (os : Os) (args : Array Value) : laidMetH Tryd.prog listed ((laidW os).forCall (fun _ _ => 0) ⟨#[], args, []⟩).memory := by
  rw [MakeChecks.laidMetH_plain _ _ _ (by kernel_rfl)]
  exact laidMet_laidAll args (by kernel_rfl) (by kernel_rfl)
end Go.Proofs.YtllabeiadeclkaaDoor
