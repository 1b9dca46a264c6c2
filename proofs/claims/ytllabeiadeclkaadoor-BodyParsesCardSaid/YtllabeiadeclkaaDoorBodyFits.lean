/-
  body.fits: whether an op is within its bounds, by a look into the map of spans.
-/
import Derived.Test.YtllabeiadeclkaaDoorBodyMaps
import Derived.Test.YtllabeiadeclkaaDoorBodyPure
import Derived.Test.YtllabeiadeclkaaDoorBase
set_option linter.unusedVariables false
set_option linter.unusedSimpArgs false
namespace Go.Proofs.YtllabeiadeclkaaDoor
open Go.RowKit Pm

def spanAt (k i : Int) : Int × Int :=
  if (k = 2 ∨ k = 3) ∧ i = 0 then (0, 7) else if k = 3 ∧ i = 1 then (0, 1000000) else if k = 4 ∧ i = 0 then (1, 1000) else (0, 0)

theorem spans_find {l : List ((Int × Int) × Value)} (hl : IsLit l (litOf spansDs)) (k i : Int) :
    (match findP (k, i) l 0 with | some (_, v) => v | none => spanV 0 0) = spanV (spanAt k i).1 (spanAt k i).2 := by
  by_cases h1 : (k = 2 ∨ k = 3) ∧ i = 0
  · obtain ⟨h1, rfl⟩ := h1
    rcases h1 with rfl | rfl
    · obtain ⟨j, hj⟩ := hl.some (x := (2, 0)) (v := spanV 0 7) (by simp [litOf, spansDs])
      rw [hj]; rfl
    · obtain ⟨j, hj⟩ := hl.some (x := (3, 0)) (v := spanV 0 7) (by simp [litOf, spansDs])
      rw [hj]; rfl
  · by_cases h2 : k = 3 ∧ i = 1
    · obtain ⟨rfl, rfl⟩ := h2
      obtain ⟨j, hj⟩ := hl.some (x := (3, 1)) (v := spanV 0 1000000) (by simp [litOf, spansDs])
      rw [hj]; rfl
    · by_cases h3 : k = 4 ∧ i = 0
      · obtain ⟨rfl, rfl⟩ := h3
        obtain ⟨j, hj⟩ := hl.some (x := (4, 0)) (v := spanV 1 1000) (by simp [litOf, spansDs])
        rw [hj]; rfl
      · rw [hl.none (x := (k, i)) (by simp [litOf, spansDs]; omega)]
        simp only [spanAt, if_neg h1, if_neg h2, if_neg h3]

theorem fits_spans (o : Bp.O) : Bp.fits o = (decide (1 ≤ o.kind ∧ o.kind ≤ 5) && (decide ((spanAt o.kind 0).1 ≤ o.a ∧ o.a ≤ (spanAt o.kind 0).2) && decide ((spanAt o.kind 1).1 ≤ o.b ∧ o.b ≤ (spanAt o.kind 1).2))) := by
  obtain ⟨k, a, b⟩ := o
  simp only [Bp.fits, spanAt]
  rw [Bool.eq_iff_iff]
  by_cases h1 : k = 1
  · subst h1; simp; omega
  by_cases h2 : k = 2
  · subst h2; simp; omega
  by_cases h3 : k = 3
  · subst h3; simp; omega
  by_cases h4 : k = 4
  · subst h4; simp; omega
  by_cases h5 : k = 5
  · subst h5; simp; omega
  simp [h1, h2, h3, h4, h5]; omega

theorem zeroSpan (w : World) : (zeroValue 116).run Tryd.prog w = .ok (spanV 0 0) w := by kernel_rfl

set_option maxRecDepth 100000 in
set_option maxHeartbeats 800000 in
theorem fits_any (k a b : Int) (l : List ((Int × Int) × Value)) (hl : IsLit l (litOf spansDs)) (B c : Nat) (w : World) (hB : w.heap[B]? = some (.map (ents l) c)) :
    Calls Tryd.prog 56 #[.agg #[.int .i64 k, .int .i64 a, .int .i64 b], .map (some B)] w fun e w' => e = .returned (.bool (Bp.fits ⟨k, a, b⟩)) ∧ Below w.heap.size w w' := by
  have hlt : B < w.heap.size := (Array.getElem?_eq_some_iff.1 hB).1
  have i0 : ∀ w, (Instr.index 67 (.agg #[.int .i64 a, .int .i64 b]) (.int .i64 0)).run Tryd.prog w = .ok (.int .i64 a) w := fun _ => by kernel_rfl
  have i1 : ∀ w, (Instr.index 67 (.agg #[.int .i64 a, .int .i64 b]) (.int .i64 1)).run Tryd.prog w = .ok (.int .i64 b) w := fun _ => by kernel_rfl
  have hs0 := spans_find hl k 0
  have hs1 := spans_find hl k 1
  have HS0 := Lib.hid hs0
  have HS1 := Lib.hid hs1
  have HF := Lib.hid (fits_spans ⟨k, a, b⟩)
  clear hs0 hs1
  generalize spanAt k 0 = s0 at HS0 HF
  generalize spanAt k 1 = s1 at HS1 HF
  obtain ⟨lo0, hi0⟩ := s0
  obtain ⟨lo1, hi1⟩ := s1
  have hB1 : ∀ o, (w.alloc o).heap[B]? = some (.map (ents l) c) := fun o => (Below.heap_alloc w o B hlt).trans hB
  have hB2 : ∀ o o', ((w.alloc o).alloc o').heap[B]? = some (.map (ents l) c) := fun o o' => (Below.heap_alloc _ o' B (by simp; omega)).trans (hB1 o)
  have HB1 := Lib.hid hB1
  have HB2 := Lib.hid hB2
  clear hB1 hB2
  by_cases h1 : 1 ≤ k
  · by_cases h5 : k ≤ 5
    · go_enter Tryd.func56, Tryd.ntmps56
      go_wp2
      refine wp_loop_rounds 3 ?_
      rw [rounds_succ]
      go_wp2_with (at_lookup; go_must (refine wpList_lookup_pk pairKey74 Tryd.underlying94 zeroSpan rfl (.tmp 25) (.tmp 29) rfl B c l rfl k 0 rfl (HB1.out _) _ HS0.out ?_; simp only [spanV]))
      any_goals (rw [rounds_succ]; go_wp2_with (at_lookup; refine wpList_lookup_pk pairKey74 Tryd.underlying94 zeroSpan rfl (.tmp 25) (.tmp 29) rfl B c l rfl k 1 rfl (HB2.out _ _) _ HS1.out ?_; simp only [spanV]))
      any_goals (rw [rounds_succ]; go_wp2)
      all_goals go_ret
      all_goals refine ⟨ret_bool ?_, by repeat (first | exact bl0 _ | refine bl1 ?_ _)⟩
      all_goals go_light
      all_goals (rw [HF.out, Bool.eq_iff_iff]; simp; omega)
    · go_enter Tryd.func56, Tryd.ntmps56
      go_wp2
      go_ret
      refine ⟨ret_bool ?_, by repeat (first | exact bl0 _ | refine bl1 ?_ _)⟩
      rw [HF.out, Bool.eq_iff_iff]; simp; omega
  · go_enter Tryd.func56, Tryd.ntmps56
    go_wp2
    go_ret
    refine ⟨ret_bool ?_, by repeat (first | exact bl0 _ | refine bl1 ?_ _)⟩
    rw [HF.out, Bool.eq_iff_iff]; simp; omega
end Go.Proofs.YtllabeiadeclkaaDoor
