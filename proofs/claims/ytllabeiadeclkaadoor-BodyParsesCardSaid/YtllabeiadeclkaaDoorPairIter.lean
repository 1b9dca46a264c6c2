/-
  Ranging over a map whose keys are pairs of ints: 'range', 'next', 'entry' as steps of the walk; over any program.
-/
import Derived.Test.YtllabeiadeclkaaDoorPairMap
import Derived.Test.YtllabeiadeclkaaDoorBase
import Derived.Maps.RangeWalk
set_option linter.unusedVariables false
set_option linter.unusedSimpArgs false
namespace Go.Proofs.YtllabeiadeclkaaDoor
namespace Pm
open Go.RowKit

theorem ents_size (l : List ((Int × Int) × Value)) : (ents l).size = l.length := by simp [ents, entsFrom_length]
theorem entsFrom_get : ∀ (l : List ((Int × Int) × Value)) (s i : Nat), (entsFrom l s)[i]? = (l[i]?).map fun e => { key := pk e.1, val := e.2, born := s + i }
  | [], s, i => by simp [entsFrom]
  | (p, v) :: r, s, 0 => by simp [entsFrom]
  | (p, v) :: r, s, i + 1 => by
    simp only [entsFrom, List.getElem?_cons_succ, entsFrom_get r (s + 1) i]
    congr 1; funext e; congr 1; omega
theorem ents_get (l : List ((Int × Int) × Value)) (i : Nat) : (ents l)[i]? = (l[i]?).map fun e => { key := pk e.1, val := e.2, born := i } := by
  simp only [ents, List.getElem?_toArray, entsFrom_get, Nat.zero_add]
theorem ents_mem {l : List ((Int × Int) × Value)} {e : MapEntry} (h : e ∈ ents l) : ∃ p v, l[e.born]? = some (p, v) ∧ e = { key := pk p, val := v, born := e.born } := by
  obtain ⟨i, hi⟩ := Array.getElem?_of_mem h
  rw [ents_get] at hi
  obtain ⟨x, hx, rfl⟩ := Option.map_eq_some_iff.1 hi
  exact ⟨x.1, x.2, hx, rfl⟩
theorem ents_find {l : List ((Int × Int) × Value)} {i : Nat} {p : Int × Int} {v : Value} (h : l[i]? = some (p, v)) : (ents l).find? (·.born == i) = some { key := pk p, val := v, born := i } := by
  cases hf : (ents l).find? (·.born == i) with
  | none =>
    rw [Array.find?_eq_none] at hf
    have hm : ({ key := pk p, val := v, born := i } : MapEntry) ∈ ents l := Array.mem_of_getElem? (i := i) (by rw [ents_get, h]; rfl)
    exact absurd (by simp) (hf _ hm)
  | some e =>
    have h1 := Array.find?_some hf
    obtain ⟨p', v', h2, h3⟩ := ents_mem (Array.mem_of_find?_eq_some hf)
    have h4 : e.born = i := by simpa using h1
    rw [h4, h] at h2
    injection h2 with h2
    injection h2 with h5 h6
    subst h5 h6
    rw [h3, h4]

/-- Block r goes over the map in block b; the entries at the places 'seen' have come. -/
structure Iter (w : World) (r b : Nat) (l : List ((Int × Int) × Value)) (seen : List Nat) : Prop where
  it : w.heap[r]? = some (.mapIter (some b) l.length seen.toArray l.length)
  map : w.heap[b]? = some (.map (ents l) l.length)
  nodup : seen.Nodup
  lt : ∀ i ∈ seen, i < l.length

theorem nodup_le : ∀ (n : Nat) (s : List Nat), s.Nodup → (∀ i ∈ s, i < n) → s.length ≤ n
  | 0, s, _, h => by
    cases s with
    | nil => simp
    | cons a r => exact absurd (h a (by simp)) (by omega)
  | n + 1, s, hn, h => by
    by_cases hm : n ∈ s
    · have h1 := nodup_le n (s.erase n) (hn.erase n) (fun i hi => by
        have := h i (List.mem_of_mem_erase hi)
        have h2 : i ≠ n := fun e => by subst e; exact (hn.mem_erase_iff.1 hi).1 rfl
        omega)
      rw [List.length_erase_of_mem hm] at h1
      omega
    · have := nodup_le n s hn (fun i hi => by
        have := h i hi
        have h2 : i ≠ n := fun e => hm (e ▸ hi)
        omega)
      omega
theorem Iter.len {w : World} {r b : Nat} {l : List ((Int × Int) × Value)} {seen : List Nat} (h : Iter w r b l seen) : seen.length ≤ l.length :=
  nodup_le _ _ h.nodup h.lt
theorem Iter.ne {w : World} {r b : Nat} {l : List ((Int × Int) × Value)} {seen : List Nat} (h : Iter w r b l seen) : b ≠ r := by
  intro e
  have h1 := h.map
  rw [e, h.it] at h1
  cases h1
theorem Iter.keep {w w' : World} {r b : Nat} {l : List ((Int × Int) × Value)} {seen : List Nat} (h : Iter w r b l seen) (h1 : w'.heap[r]? = w.heap[r]?) (h2 : w'.heap[b]? = w.heap[b]?) : Iter w' r b l seen :=
  ⟨h1.trans h.it, h2.trans h.map, h.nodup, h.lt⟩
theorem Iter.below {w w' : World} {r b : Nat} {l : List ((Int × Int) × Value)} {seen : List Nat} (h : Iter w r b l seen) (hb : Below w.heap.size w w') : Iter w' r b l seen :=
  h.keep (hb.block r (Array.getElem?_eq_some_iff.1 h.it).1) (hb.block b (Array.getElem?_eq_some_iff.1 h.map).1)

section
variable {P : Program} {ops : Array Oper} {rest : List Oper} {o : Oper} {a : Act} {Q : Exit → Act → World → Prop} {w : World}
theorem wpList_range_pm {T K E : TypeId} (hT : P.underlying T = some (.map K E)) (hg : o.guard = none) (mx : Operand) (hop : o.op = .range T mx) (b : Nat) (l : List ((Int × Int) × Value)) (hm : a.eval mx = .map (some b)) (hb : w.heap[b]? = some (.map (ents l) l.length)) (r : Nat) (hr : r = w.heap.size)
    (hK : ∀ w', Iter w' r b l [] → w' = w.alloc (.mapIter (some b) l.length #[] l.length) → wpList P ops Q rest (a.put o.dst (.pointer (some ⟨r, 0, none⟩))) w') : wpList P ops Q (o :: rest) a w := by
  subst hr
  refine wpList_plain hg fun K' hK' => ?_
  have hlt : b < w.heap.size := (Array.getElem?_eq_some_iff.1 hb).1
  unfold Oper.wp execOp
  have hg : (Sem.getObj b Sem.pure : Sem Obj).run P w = .ok (.map (ents l) l.length) w := by simp [Sem.run, hb]
  have hrun : (Instr.range T (.map (some b))).run P w = .ok (.pointer (some ⟨w.heap.size, 0, none⟩)) (w.alloc (.mapIter (some b) l.length #[] l.length)) := by
    unfold Instr.range
    simp only [Sem.run_bind, run_underlying hT, Result.andThen_ok, getObj, hg, Sem.run_pure]
    rfl
  simp only [hop, hm, Sem.run_bind, hrun, Result.andThen_ok, Sem.run_pure, Oper.upon_value]
  refine hK' _ _ (hK _ ⟨heap_alloc_new w _, (Below.heap_alloc w _ b hlt).trans hb, List.nodup_nil, fun i h => by cases h⟩ rfl)

theorem run_entry_pm {l : List ((Int × Int) × Value)} {r b i : Nat} {seen : List Nat} {p : Int × Int} {v : Value} (h : Iter w r b l (seen ++ [i])) (hi : l[i]? = some (p, v)) :
    (Instr.entry (.pointer (some ⟨r, 0, none⟩))).run P w = .ok (.tuple #[pk p, v]) w := by
  unfold Instr.entry
  have hg1 : (Sem.getObj r Sem.pure : Sem Obj).run P w = .ok (.mapIter (some b) l.length (seen ++ [i]).toArray l.length) w := by simp [Sem.run, h.it]
  have hg2 : (Sem.getObj b Sem.pure : Sem Obj).run P w = .ok (.map (ents l) l.length) w := by simp [Sem.run, h.map]
  simp only [getObj, Sem.run_bind, hg1, Result.andThen_ok]
  have hback : (seen ++ [i]).toArray.back? = some i := by simp
  simp only [hback, Sem.run_bind, hg2, Result.andThen_ok, ents_find hi, bne_self_eq_false, Bool.false_eq_true, if_false, Sem.run_pure]

theorem wpList_next_pm (hg : o.guard = none) (it : Operand) (hop : o.op = .next it false) (r b : Nat) (l : List ((Int × Int) × Value)) (seen : List Nat) (hit : a.eval it = .pointer (some ⟨r, 0, none⟩)) (h : Iter w r b l seen)
    (hDone : (∀ i, i < l.length → i ∈ seen) → wpList P ops Q rest (a.put o.dst (.tuple #[.bool false])) w)
    (hMore : ∀ (i : Nat) (x y : Int) (v : Value) (w1 : World), l[i]? = some ((x, y), v) → i ∉ seen → Iter w1 r b l (seen ++ [i]) → w.grownBy w1 (some r) → w1.heap.size = w.heap.size →
      (Instr.entry (.pointer (some ⟨r, 0, none⟩))).run P w1 = .ok (.tuple #[.agg #[.int .i64 x, .int .i64 y], v]) w1 → wpList P ops Q rest (a.put o.dst (.tuple #[.bool true, .agg #[.int .i64 x, .int .i64 y], v])) w1) :
    wpList P ops Q (o :: rest) a w := by
  refine wpList_plain hg fun K' hK' => ?_
  unfold Oper.wp execOp
  simp only [hop, hit, Sem.run_bind]
  have hg1 : (Sem.getObj r Sem.pure : Sem Obj).run P w = .ok (.mapIter (some b) l.length seen.toArray l.length) w := by simp [Sem.run, h.it]
  have hg2 : (Sem.getObj b Sem.pure : Sem Obj).run P w = .ok (.map (ents l) l.length) w := by simp [Sem.run, h.map]
  unfold Instr.next
  simp only [getObj, Sem.run_bind, hg1, Result.andThen_ok, hg2]
  have hguard : (!seen.toArray.isEmpty && !(ents l).isEmpty && (ents l).all (fun x => decide (x.born ≥ l.length))) = false := by
    by_cases hl : l = []
    · subst hl; simp [ents, entsFrom]
    · have : (ents l).all (fun x => decide (x.born ≥ l.length)) = false := by
        refine Bool.eq_false_iff.2 fun hall => ?_
        have h0 : 0 < l.length := List.length_pos_iff.2 hl
        have hx : (ents l)[0]? = (l[0]?).map fun e => { key := pk e.1, val := e.2, born := 0 } := ents_get l 0
        rw [List.getElem?_eq_getElem h0] at hx
        have := Array.all_eq_true_iff_forall_mem.1 hall _ (Array.mem_of_getElem? hx)
        simp at this
        exact hl this
      rw [this]; simp
  rw [hguard]
  simp only [Bool.false_eq_true, if_false]
  have hold : ∀ (A : Array MapEntry), (∀ e ∈ A, e.born < l.length) → A.filter (fun x => decide (x.born < l.length)) = A ∧ A.filter (fun x => decide (x.born ≥ l.length)) = #[] := by
    intro A hA
    constructor
    · rw [Array.filter_eq_self]; intro e he; simpa using hA e he
    · rw [Array.filter_eq_empty_iff]; intro e he; have := hA e he; simp; omega
  have hborn : ∀ e ∈ (ents l).filter (fun e => !seen.toArray.contains e.born), e.born < l.length := by
    intro e he
    obtain ⟨p, v, h1, _⟩ := ents_mem (Array.mem_filter.1 he).1
    exact (List.getElem?_eq_some_iff.1 h1).1
  obtain ⟨ho1, ho2⟩ := hold _ hborn
  simp only [ho1, ho2]
  by_cases hleft : ((ents l).filter (fun e => !seen.toArray.contains e.born)).isEmpty = true
  · have he : (ents l).filter (fun e => !seen.toArray.contains e.born) = #[] := by simpa using hleft
    rw [he]
    have hch : (choose (.mapNext 1)).run P w = .ok 0 w := by simp [choose, Sem.run, Question.forced]
    simp only [Array.isEmpty_empty, if_true, Array.append_empty, List.map_toArray, List.map_nil, List.size_toArray, List.length_cons, List.length_nil, Nat.zero_add, Sem.run_bind, hch, Result.andThen_ok]
    simp only [List.getElem?_toArray, List.getElem?_cons_zero, Sem.run_pure, Result.andThen_ok, Oper.upon_value]
    refine hK' _ _ (hDone fun i hi => ?_)
    have hm : ({ key := pk (l[i]).1, val := (l[i]).2, born := i } : MapEntry) ∈ ents l := Array.mem_of_getElem? (i := i) (by rw [ents_get, List.getElem?_eq_getElem hi]; rfl)
    refine Classical.byContradiction fun hn => ?_
    have : ({ key := pk (l[i]).1, val := (l[i]).2, born := i } : MapEntry) ∈ (ents l).filter (fun e => !seen.toArray.contains e.born) := Array.mem_filter.2 ⟨hm, by simpa using hn⟩
    rw [he] at this
    simp at this
  · have hle : (((ents l).filter (fun e => !seen.toArray.contains e.born)).isEmpty) = false := by simpa using hleft
    rw [hle]
    simp only [Bool.false_eq_true, if_false, Array.append_empty, Array.empty_append]
    generalize hA : (ents l).filter (fun e => !seen.toArray.contains e.born) = A at *
    have hApos : 0 < A.size := by
      rcases Nat.eq_zero_or_pos A.size with e | e
      · rw [Array.isEmpty_eq_false_iff] at hle
        exact absurd (Array.eq_empty_of_size_eq_zero e) hle
      · exact e
    obtain ⟨j, q, hj, hch⟩ : ∃ j q, j < A.size ∧ (choose (.mapNext (A.map some).size)).run P w = .ok j (w.drewN q) := by
      by_cases h1 : A.size ≤ 1
      · exact ⟨0, 0, hApos, by simp [choose, Sem.run, Question.forced, h1, World.drewN]⟩
      · refine ⟨(Question.mapNext A.size).cut (w.tape w.drawn (.mapNext A.size)), 1, Nat.mod_lt _ hApos, ?_⟩
        simp [choose, Sem.run, Question.forced, h1, World.drewN]
    simp only [Sem.run_bind, hch, Result.andThen_ok]
    have hget : (A.map some)[j]? = some (some A[j]) := by simp [hj]
    have hmem : A[j] ∈ (ents l).filter (fun e => !seen.toArray.contains e.born) := by rw [hA]; exact Array.getElem_mem hj
    obtain ⟨hm1, hm2⟩ := Array.mem_filter.1 hmem
    obtain ⟨p, v, h1, h2⟩ := ents_mem hm1
    generalize hi : A[j].born = i at h1 h2
    have hns : i ∉ seen := by rw [hi] at hm2; simpa using hm2
    have hr : r < w.heap.size := (Array.getElem?_eq_some_iff.1 h.it).1
    simp only [hget, h2]
    have hset : (setObj r (.mapIter (some b) l.length (seen.toArray.push i) l.length) : Sem Unit).run P (w.drewN q) = .ok () { w.drewN q with heap := w.heap.setIfInBounds r (.mapIter (some b) l.length (seen ++ [i]).toArray l.length) } := by
      simp [setObj, Sem.run, h.it, World.drewN]
    simp only [Sem.run_bind, hset, Result.andThen_ok, Sem.run_pure, Oper.upon_value]
    have hI : Iter { w.drewN q with heap := w.heap.setIfInBounds r (.mapIter (some b) l.length (seen ++ [i]).toArray l.length) } r b l (seen ++ [i]) := by
      refine ⟨?_, ?_, ?_, ?_⟩
      · show (w.heap.setIfInBounds r _)[r]? = _
        simp [hr]
      · show (w.heap.setIfInBounds r _)[b]? = _
        rw [Array.getElem?_setIfInBounds_ne (Ne.symm h.ne)]; exact h.map
      · rw [List.nodup_append]; exact ⟨h.nodup, by simp, fun x hx y hy => by simp at hy; subst hy; exact fun e => hns (e ▸ hx)⟩
      · intro x hx
        rcases List.mem_append.1 hx with hx | hx
        · exact h.lt x hx
        · simp at hx; subst hx; exact (List.getElem?_eq_some_iff.1 h1).1
    obtain ⟨x, y⟩ := p
    refine hK' _ _ (hMore i x y v _ h1 hns hI ⟨rfl, rfl, rfl, by simp, fun k hk hne => ?_⟩ (by simp) (run_entry_pm hI h1))
    show (w.heap.setIfInBounds r _)[k]? = _
    rw [Array.getElem?_setIfInBounds_ne (fun e => hne (by rw [e]))]
end
end Pm
end Go.Proofs.YtllabeiadeclkaaDoor
