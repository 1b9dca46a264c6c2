/-
  body.read: the op of a piece: its words, its numbers, and the word's kind, found by ranging over the map of words in whatever order.
-/
import Derived.Test.YtllabeiadeclkaaDoorBodyLib
import Derived.Test.YtllabeiadeclkaaDoorBodyMaps
import Derived.Test.YtllabeiadeclkaaDoorPairIter
set_option linter.unusedVariables false
set_option linter.unusedSimpArgs false
namespace Go.Proofs.YtllabeiadeclkaaDoor
open Go.RowKit Pm

theorem words_mem {l : List ((Int × Int) × Value)} (hl : IsLit l (litOf wordsDs)) {i : Nat} {x y : Int} {v : Value} (h : l[i]? = some ((x, y), v)) :
    ∃ wd, v = .string (S wd) ∧ ∃ n : Nat, y = n ∧ Bp.kindOf wd = some (x, n) := by
  have := (hl.mem _).1 (List.mem_of_getElem? h)
  simp only [litOf, wordsDs, List.filterMap_cons, List.filterMap_nil, List.mem_cons, List.not_mem_nil, or_false, Prod.mk.injEq] at this
  rcases this with ⟨⟨rfl, rfl⟩, rfl⟩ | ⟨⟨rfl, rfl⟩, rfl⟩ | ⟨⟨rfl, rfl⟩, rfl⟩ | ⟨⟨rfl, rfl⟩, rfl⟩ | ⟨⟨rfl, rfl⟩, rfl⟩
  · exact ⟨Bp.nopW, rfl, 0, rfl, by decide⟩
  · exact ⟨Bp.submitW, rfl, 1, rfl, by decide⟩
  · exact ⟨Bp.afterW, rfl, 2, rfl, by decide⟩
  · exact ⟨Bp.cancelW, rfl, 1, rfl, by decide⟩
  · exact ⟨Bp.panicW, rfl, 0, rfl, by decide⟩
theorem words_all {l : List ((Int × Int) × Value)} (hl : IsLit l (litOf wordsDs)) {wd : List UInt8} {k : Int} {n : Nat} (h : Bp.kindOf wd = some (k, n)) :
    ∃ i : Nat, l[i]? = some ((k, (n : Int)), .string (S wd)) := by
  have hm : ((k, (n : Int)), Value.string (S wd)) ∈ litOf wordsDs := by
    unfold Bp.kindOf at h
    simp only [litOf, wordsDs, List.filterMap_cons, List.filterMap_nil, List.mem_cons, List.not_mem_nil, or_false, Prod.mk.injEq]
    repeat' (split at h)
    all_goals first | (injection h with h; injection h with h1 h2; subst h1 h2; subst_vars; simp [Bp.nopW, Bp.submitW, Bp.afterW, Bp.cancelW, Bp.panicW]) | cases h
  obtain ⟨i, hi, he⟩ := List.getElem_of_mem ((hl.mem _).2 hm)
  exact ⟨i, by rw [List.getElem?_eq_getElem hi, he]⟩

/-- How many entries are still to come. -/
def leftOf (w : World) (r n : Nat) : Nat := match w.heap[r]? with | some (.mapIter _ _ seen _) => n - seen.size | _ => 0
theorem leftOf_eq {w : World} {r b : Nat} {l : List ((Int × Int) × Value)} {seen : List Nat} (h : Iter w r b l seen) : leftOf w r l.length = l.length - seen.length := by
  unfold leftOf; rw [h.it]; simp

/-- What body.read comes to. -/
def ReadPost (s : ByteArray) (w : World) (e : Ending) (w' : World) : Prop :=
  Below w.heap.size w w' ∧ match Bp.read s.data.toList with
    | some o => e = .returned (.tuple #[.agg #[.int .i64 o.kind, .int .i64 o.a, .int .i64 o.b], .bool true])
    | none => ∃ x y z : Int, e = .returned (.tuple #[.agg #[.int .i64 x, .int .i64 y, .int .i64 z], .bool false])

/-- The three blocks that the call has laid: its result, the words, the numbers. -/
structure Blks (w : World) (x0 : List UInt8) (cs : List Value) (n0 n1 : Int) (wr : World) : Prop where
  below : Below w.heap.size w wr
  res : wr.heap[w.heap.size]? = some (.cells #[.int .i64 0, .int .i64 0, .int .i64 0] 50)
  strs : wr.heap[w.heap.size + 1]? = some (.cells (Value.string (S x0) :: cs).toArray 9)
  nums : wr.heap[w.heap.size + 1 + 1]? = some (.cells #[.int .i64 n0, .int .i64 n1] 67)
theorem Blks.step {w : World} {x0 : List UInt8} {cs : List Value} {n0 n1 : Int} {wr w1 : World} {r : Nat} (h : Blks w x0 cs n0 n1 wr) (hg : wr.grownBy w1 (some r)) (hr : w.heap.size + 1 + 1 < r) : Blks w x0 cs n0 n1 w1 where
  below := bl_grown h.below hg (by omega)
  res := blk_ne hg h.res (by omega)
  strs := blk_ne hg h.strs (by omega)
  nums := blk_ne hg h.nums (by omega)
theorem Blks.alloc {w : World} {x0 : List UInt8} {cs : List Value} {n0 n1 : Int} {wr : World} (h : Blks w x0 cs n0 n1 wr) (o : Obj) : Blks w x0 cs n0 n1 (wr.alloc o) where
  below := bl1 h.below o
  res := blk (bl1 (bl0 wr) o) h.res
  strs := blk (bl1 (bl0 wr) o) h.strs
  nums := blk (bl1 (bl0 wr) o) h.nums
theorem Blks.cells {w : World} {x0 : List UInt8} {cs : List Value} {n0 n1 : Int} {wr : World} (h : Blks w x0 cs n0 n1 wr) :
    wr.cell? ⟨w.heap.size, 0, none⟩ = some (.int .i64 0) ∧ wr.cell? ⟨w.heap.size, 1, none⟩ = some (.int .i64 0) ∧ wr.cell? ⟨w.heap.size, 2, none⟩ = some (.int .i64 0) ∧
    wr.frozen? ⟨w.heap.size, 0, none⟩ = false ∧ wr.frozen? ⟨w.heap.size, 1, none⟩ = false ∧ wr.frozen? ⟨w.heap.size, 2, none⟩ = false ∧
    wr.cell? ⟨w.heap.size + 1, 0, none⟩ = some (.string (S x0)) ∧ wr.cell? ⟨w.heap.size + 1 + 1, 0, none⟩ = some (.int .i64 n0) ∧ wr.cell? ⟨w.heap.size + 1 + 1, 1, none⟩ = some (.int .i64 n1) ∧
    w.heap.size + 1 + 1 < wr.heap.size :=
  ⟨cell_blk h.res 0, cell_blk h.res 1, cell_blk h.res 2, frozen_blk h.res 0, frozen_blk h.res 1, frozen_blk h.res 2, cell_blk h.strs 0, cell_blk h.nums 0, cell_blk h.nums 1, (Array.getElem?_eq_some_iff.1 h.nums).1⟩

theorem Blks.cellsA {w : World} {x0 : List UInt8} {cs : List Value} {n0 n1 : Int} {wr : World} (h : Blks w x0 cs n0 n1 wr) :
    (∀ o, (wr.alloc o).cell? ⟨w.heap.size, 0, none⟩ = some (.int .i64 0)) ∧ (∀ o, (wr.alloc o).cell? ⟨w.heap.size, 1, none⟩ = some (.int .i64 0)) ∧ (∀ o, (wr.alloc o).cell? ⟨w.heap.size, 2, none⟩ = some (.int .i64 0)) ∧
    (∀ o, (wr.alloc o).frozen? ⟨w.heap.size, 0, none⟩ = false) ∧ (∀ o, (wr.alloc o).frozen? ⟨w.heap.size, 1, none⟩ = false) ∧ (∀ o, (wr.alloc o).frozen? ⟨w.heap.size, 2, none⟩ = false) ∧
    (∀ o, (wr.alloc o).cell? ⟨w.heap.size + 1, 0, none⟩ = some (.string (S x0))) ∧ (∀ o, (wr.alloc o).cell? ⟨w.heap.size + 1 + 1, 0, none⟩ = some (.int .i64 n0)) ∧ (∀ o, (wr.alloc o).cell? ⟨w.heap.size + 1 + 1, 1, none⟩ = some (.int .i64 n1)) :=
  ⟨fun o => cell_blk (h.alloc o).res 0, fun o => cell_blk (h.alloc o).res 1, fun o => cell_blk (h.alloc o).res 2, fun o => frozen_blk (h.alloc o).res 0, fun o => frozen_blk (h.alloc o).res 1, fun o => frozen_blk (h.alloc o).res 2, fun o => cell_blk (h.alloc o).strs 0, fun o => cell_blk (h.alloc o).nums 0, fun o => cell_blk (h.alloc o).nums 1⟩

theorem Blks.start (w : World) (x0 : List UInt8) (cs : List Value) :
    Blks w x0 cs 0 0 (((w.alloc (.cells #[.int .i64 0, .int .i64 0, .int .i64 0] 50)).alloc (.cells (Value.string (S x0) :: cs).toArray 9)).alloc (.cells #[.int .i64 0, .int .i64 0] 67)) where
  below := bl1 (bl1 (bl1 (bl0 _) _) _) _
  res := blk (bl1 (bl1 (bl0 _) _) _) (heap_alloc_new w _)
  strs := blk (bl1 (bl0 _) _) (alloc_new _ _ _ (by simp))
  nums := alloc_new _ _ _ (by simp)
theorem Blks.bl {w : World} {x0 : List UInt8} {cs : List Value} {n0 n1 : Int} {wr w1 : World} (h : Blks w x0 cs n0 n1 wr) (hb : Below wr.heap.size wr w1) : Blks w x0 cs n0 n1 w1 where
  below := bl3 h.below hb
  res := blk hb h.res
  strs := blk hb h.strs
  nums := blk hb h.nums
theorem Blks.drew {w : World} {x0 : List UInt8} {cs : List Value} {n0 n1 : Int} {wr : World} (h : Blks w x0 cs n0 n1 wr) : Blks w x0 cs n0 n1 wr.drew := ⟨bl2 h.below, h.res, h.strs, h.nums⟩
theorem Blks.set0 {w : World} {x0 : List UInt8} {cs : List Value} {n0 n1 : Int} {wr : World} (h : Blks w x0 cs n0 n1 wr) (m : Int) : Blks w x0 cs m n1 (wr.setCell ⟨w.heap.size + 1 + 1, 0, none⟩ (.int .i64 m)) where
  below := h.below.setCell (by simp; omega) _
  res := (Below.heap_setCell wr _ _ _ (by simp; omega)).trans h.res
  strs := (Below.heap_setCell wr _ _ _ (by simp)).trans h.strs
  nums := sc_block h.nums 0 _
theorem Blks.set1 {w : World} {x0 : List UInt8} {cs : List Value} {n0 n1 : Int} {wr : World} (h : Blks w x0 cs n0 n1 wr) (m : Int) : Blks w x0 cs n0 m (wr.setCell ⟨w.heap.size + 1 + 1, 1, none⟩ (.int .i64 m)) where
  below := h.below.setCell (by simp; omega) _
  res := (Below.heap_setCell wr _ _ _ (by simp; omega)).trans h.res
  strs := (Below.heap_setCell wr _ _ _ (by simp)).trans h.strs
  nums := sc_block h.nums 1 _

/-- What holds while the map of words is gone over. -/
structure RInv (w : World) (x0 : List UInt8) (cs : List Value) (n0 n1 : Int) (ws : List ((Int × Int) × Value)) (r b : Nat) (seen : List Nat) (wr : World) : Prop where
  it : Iter wr r b ws seen
  not : ∀ i ∈ seen, ∀ p v, ws[i]? = some (p, v) → v ≠ .string (S x0)
  blks : Blks w x0 cs n0 n1 wr
  far : w.heap.size + 1 + 1 < r

theorem RInv.step {w : World} {x0 : List UInt8} {cs : List Value} {n0 n1 : Int} {ws : List ((Int × Int) × Value)} {r b : Nat} {seen : List Nat} {wr w1 : World} {i : Nat} {p : Int × Int} {v : Value} (h : RInv w x0 cs n0 n1 ws r b seen wr)
    (hi : ws[i]? = some (p, v)) (hv : v ≠ .string (S x0)) (hI : Iter w1 r b ws (seen ++ [i])) (hg : wr.grownBy w1 (some r)) : RInv w x0 cs n0 n1 ws r b (seen ++ [i]) w1 where
  it := hI
  not := fun j hj q u hu => by
    rcases List.mem_append.1 hj with hj | hj
    · exact h.not j hj q u hu
    · simp only [List.mem_singleton] at hj
      subst hj
      rw [hi] at hu
      injection hu with hu
      injection hu with _ hu
      exact hu ▸ hv
  blks := h.blks.step hg h.far
  far := h.far
theorem RInv.alloc {w : World} {x0 : List UInt8} {cs : List Value} {n0 n1 : Int} {ws : List ((Int × Int) × Value)} {r b : Nat} {seen : List Nat} {wr : World} (h : RInv w x0 cs n0 n1 ws r b seen wr) (o : Obj) : RInv w x0 cs n0 n1 ws r b seen (wr.alloc o) where
  it := h.it.below (bl1 (bl0 _) _)
  not := h.not
  blks := h.blks.alloc o
  far := h.far
theorem S_inj {a b : List UInt8} (h : S a = S b) : a = b := by rw [← S_list a, h, S_list]

theorem read_hit {s : ByteArray} {w W : World} {x : Int} {nn : Nat} {x0 : List UInt8} {r : List (List UInt8)} {n0 n1 : Int} (hp : Bp.pieces 32 s.data.toList = x0 :: r) (hr : r.length ≤ 2) (hk : Bp.kindOf x0 = some (x, nn)) (h0 : n0 = Bp.at' (x0 :: r) 1) (h1 : n1 = Bp.at' (x0 :: r) 2)
    (b : Bool) (hb : b = decide (nn = r.length)) (hB : Below w.heap.size w W) : ReadPost s w (.returned (.tuple #[.agg #[.int .i64 x, .int .i64 n0, .int .i64 n1], .bool b])) W := by
  refine ⟨hB, ?_⟩
  subst hb h0 h1
  unfold Bp.read
  rw [hp, if_neg (by simp; omega)]
  simp only [List.headD_cons, hk, List.length_cons, Nat.add_sub_cancel]
  by_cases h : nn = r.length
  · rw [if_pos h]; simp [h]
  · rw [if_neg h]; exact ⟨x, Bp.at' (x0 :: r) 1, Bp.at' (x0 :: r) 2, by simp [h]⟩
theorem read_miss {s : ByteArray} {w W : World} {x0 : List UInt8} {r : List (List UInt8)} (hp : Bp.pieces 32 s.data.toList = x0 :: r) (hk : Bp.kindOf x0 = none) (hB : Below w.heap.size w W) :
    ReadPost s w (.returned (.tuple #[.agg #[.int .i64 0, .int .i64 0, .int .i64 0], .bool false])) W := by
  refine ⟨hB, ?_⟩
  have : Bp.read s.data.toList = none := by
    unfold Bp.read
    rw [hp]
    split
    · rfl
    · simp only [List.headD_cons, hk]
  rw [this]
  exact ⟨_, _, _, rfl⟩
theorem read_long {s : ByteArray} {w W : World} (hp : 3 < (Bp.pieces 32 s.data.toList).length) (hB : Below w.heap.size w W) :
    ReadPost s w (.returned (.tuple #[.agg #[.int .i64 0, .int .i64 0, .int .i64 0], .bool false])) W := by
  refine ⟨hB, ?_⟩
  have : Bp.read s.data.toList = none := by
    unfold Bp.read
    rw [if_pos hp]
  rw [this]
  exact ⟨_, _, _, rfl⟩

theorem read_l (s : ByteArray) (w : World) (HG : Hid (Glob w)) (hs : s.size ≤ 1000) (h3 : 3 < (Bp.pieces 32 s.data.toList).length) : Calls Tryd.prog 17 #[.string s] w (ReadPost s w) := by
  obtain ⟨l, hl⟩ : ∃ l, Bp.pieces 32 s.data.toList = l := ⟨_, rfl⟩
  have HL := Lib.hid hl
  have HB := Lib.hid h3
  rw [hl] at h3
  clear hl
  go_enter Tryd.func17, Tryd.ntmps17
  go_wp2_with (go_at_call 24; refine (split_any s 32 _ (HG.out.below (bl1 (bl0 _) _)) (by omega)).mono ?_; rintro e w1 ⟨rfl, rfl⟩; rw [HL.out])
  refine bodyPost_ret (v := .tuple #[.agg #[.int .i64 0, .int .i64 0, .int .i64 0], .bool false]) (by simp [results, Tryd.results17, go_sem]) rfl ?_
  exact read_long HB.out (by repeat (first | exact bl0 _ | refine bl2 ?_ | refine bl1 ?_ _ | refine bl5 ?_ _ _ _ (by omega)))

set_option maxRecDepth 100000 in
set_option maxHeartbeats 1600000 in
theorem read_1 (s : ByteArray) (w : World) (HG : Hid (Glob w)) (hs : s.size ≤ 1000) (x0 : List UInt8) (HL : Hid (Bp.pieces 32 s.data.toList = [x0])) : Calls Tryd.prog 17 #[.string s] w (ReadPost s w) := by
      go_enter Tryd.func17, Tryd.ntmps17
      go_wp2_with (go_at_call 24; refine (split_any s 32 _ (HG.out.below (bl1 (bl0 _) _)) (by omega)).mono ?_; rintro e w1 ⟨rfl, rfl⟩; rw [HL.out])
      refine wp_loop_rounds 1 ?_
      rw [rounds_succ]
      go_wp2_with (first | (go_at_call 33; refine (words_any _).mono ?_; rintro e w9 ⟨ws, hws, rfl, rfl⟩) | (at_range; go_must (refine wpList_range_pm Tryd.underlying72 rfl (.tmp 32) rfl _ ws rfl (drew_new _ _ _ (by simp)) (w.heap.size + 1 + 1 + 1 + 1) (by simp) ?_; rintro w8 hI rfl)))
      have HW := Lib.hid hws
      clear hws
      go_frame
      go_loopw [34] (fun _ wr => ∃ seen, RInv w x0 [] 0 0 ws (w.heap.size + 1 + 1 + 1 + 1) (w.heap.size + 1 + 1 + 1) seen wr) (fun _ wr => leftOf wr (w.heap.size + 1 + 1 + 1 + 1) ws.length)
      case atStart => exact ⟨[], hI, fun i h => by (cases h), (((Blks.start w x0 []).alloc _).drew).alloc _, by omega⟩
      case round =>
        obtain ⟨seen, hR⟩ := hrel
        clear hI
        obtain ⟨c0, c1, c2, f0, f1, f2, cx, cn0, cn1, hlt⟩ := hR.blks.cells
        go_wp2_with (at_next; go_must (refine wpList_next_pm rfl (.tmp 33) rfl (w.heap.size + 1 + 1 + 1 + 1) (w.heap.size + 1 + 1 + 1) ws seen rfl hR.it ?_ ?_); intro hdone; rotate_left; clear c0 c1 c2 f0 f1 f2 cx cn0 cn1; intro i x y v w1 hi hns hI hg hsz hen; obtain ⟨wd, rfl, nn, rfl, hk⟩ := words_mem HW.out hi; obtain ⟨c0, c1, c2, f0, f1, f2, cx, cn0, cn1⟩ := (hR.blks.step hg hR.far).cellsA)
        · have hne1 : ¬ wr.heap.size = w.heap.size := by omega
          have hne2 : ¬ w.heap.size = wr.heap.size := by omega
          have hw : wd = x0 := by have h : (wd == x0) = true := by assumption
                                  exact beq_iff_eq.1 h
          go_region
          go_wp2
          refine bodyPost_ret (v := .tuple #[.agg #[.int .i64 x, .int .i64 0, .int .i64 0], .bool ((nn : Int) == 0)]) (by simp [results, Tryd.results17, go_sem, c0, c1, c2, f0, f1, f2, hne1, hne2]) rfl ?_
          go_light
          exact read_hit HL.out (by simp) (hw ▸ hk) rfl rfl _ (by rw [Bool.eq_iff_iff]; simp) (by repeat (first | exact (hR.blks.step hg hR.far).below | refine bl2 ?_ | refine bl1 ?_ _ | refine bl5 ?_ _ _ _ (by omega)))
        · have hw : ¬ wd = x0 := by have h : (wd == x0) = false := by assumption
                                    intro e; simp [e] at h
          go_light
          refine ⟨⟨seen ++ [i], (hR.step hi (fun e => hw (S_inj (Value.string.inj e))) hI hg).alloc _⟩, ?_⟩
          have h1 := hI.len
          rw [leftOf_eq hR.it, leftOf_eq ((hI.below (bl1 (bl0 _) _)))]
          simp at h1 ⊢
          omega
        · refine bodyPost_ret (v := .tuple #[.agg #[.int .i64 0, .int .i64 0, .int .i64 0], .bool false]) (by simp [results, Tryd.results17, go_sem, c0, c1, c2, f0, f1, f2]) rfl ?_
          go_light
          refine read_miss HL.out ?_ (by repeat (first | exact hR.blks.below | refine bl2 ?_ | refine bl1 ?_ _ | refine bl5 ?_ _ _ _ (by omega)))
          cases hk : Bp.kindOf x0 with
          | none => rfl
          | some kn =>
            obtain ⟨k, n⟩ := kn
            obtain ⟨j, hj⟩ := words_all HW.out hk
            exact absurd rfl (hR.not j (hdone j (List.getElem?_eq_some_iff.1 hj).1) _ _ hj)

set_option maxRecDepth 100000 in
set_option maxHeartbeats 1600000 in
theorem read_2 (s : ByteArray) (w : World) (HG : Hid (Glob w)) (hs : s.size ≤ 1000) (x0 x1 : List UInt8) (HL : Hid (Bp.pieces 32 s.data.toList = [x0, x1])) : Calls Tryd.prog 17 #[.string s] w (ReadPost s w) := by
      have hx1 : (S x1).size ≤ 1000 := by
        have h1 : x1 ∈ Bp.pieces 32 s.data.toList := by rw [HL.out]; simp
        have := Bp.piece_le 32 _ _ h1
        rw [S_size, ← size_len] at *; omega
      go_enter Tryd.func17, Tryd.ntmps17
      go_wp2_with (go_at_call 24; refine (split_any s 32 _ (HG.out.below (bl1 (bl0 _) _)) (by omega)).mono ?_; rintro e w1 ⟨rfl, rfl⟩; rw [HL.out])
      refine wp_loop_rounds 2 ?_
      rw [rounds_succ]
      go_wp2_with (go_at_call 32; go_must (refine (atoi_any _ _ (HG.out.below (bl1 (bl1 (bl1 (bl0 _) _) _) _)) (by omega)).mono ?_; rintro e w1 ⟨⟨v, rfl⟩, hb⟩; obtain ⟨c0, c1, c2, f0, f1, f2, cx, cn0, cn1, hlt⟩ := ((Blks.start w x0 [.string (S x1)]).bl hb).cells; have fn0 := frozen_blk ((Blks.start w x0 [.string (S x1)]).bl hb).nums 0; have fn1 := frozen_blk ((Blks.start w x0 [.string (S x1)]).bl hb).nums 1))
      clear hlt c0 c1 c2 f0 f1 f2 cx cn0 cn1 fn0 fn1
      have hz := hb.size
      simp only [World.size_alloc] at hz
      rw [rounds_succ]
      go_wp2_with (first | (go_at_call 33; refine (words_any _).mono ?_; rintro e w9 ⟨ws, hws, rfl, rfl⟩) | (at_range; go_must (refine wpList_range_pm Tryd.underlying72 rfl (.tmp 32) rfl _ ws rfl (drew_new _ _ _ (by simp)) (w1.heap.size + 1) (by simp) ?_; rintro w8 hI rfl)))
      have HW := Lib.hid hws
      clear hws
      go_frame
      go_loopw [34] (fun _ wr => ∃ seen, RInv w x0 [.string (S x1)] (Bp.atoiN x1) 0 ws (w1.heap.size + 1) (w1.heap.size) seen wr) (fun _ wr => leftOf wr (w1.heap.size + 1) ws.length)
      case atStart => exact ⟨[], hI, fun i h => by (cases h), (((((Blks.start w x0 [.string (S x1)]).bl hb).set0 _).alloc _).drew).alloc _, by omega⟩
      case round =>
        obtain ⟨seen, hR⟩ := hrel
        clear hI
        obtain ⟨c0, c1, c2, f0, f1, f2, cx, cn0, cn1, hlt⟩ := hR.blks.cells
        go_wp2_with (at_next; go_must (refine wpList_next_pm rfl (.tmp 33) rfl (w1.heap.size + 1) (w1.heap.size) ws seen rfl hR.it ?_ ?_); intro hdone; rotate_left; clear c0 c1 c2 f0 f1 f2 cx cn0 cn1; intro i x y v w1 hi hns hI hg hsz hen; obtain ⟨wd, rfl, nn, rfl, hk⟩ := words_mem HW.out hi; obtain ⟨c0, c1, c2, f0, f1, f2, cx, cn0, cn1⟩ := (hR.blks.step hg hR.far).cellsA)
        · have hne1 : ¬ wr.heap.size = w.heap.size := by omega
          have hne2 : ¬ w.heap.size = wr.heap.size := by omega
          have hw : wd = x0 := by have h : (wd == x0) = true := by assumption
                                  exact beq_iff_eq.1 h
          go_region
          go_wp2
          refine bodyPost_ret (v := .tuple #[.agg #[.int .i64 x, .int .i64 (Bp.atoiN x1), .int .i64 0], .bool ((nn : Int) == 1)]) (by simp [results, Tryd.results17, go_sem, c0, c1, c2, f0, f1, f2, hne1, hne2]) rfl ?_
          go_light
          exact read_hit HL.out (by simp) (hw ▸ hk) rfl rfl _ (by rw [Bool.eq_iff_iff]; simp; try omega) (by repeat (first | exact (hR.blks.step hg hR.far).below | refine bl2 ?_ | refine bl1 ?_ _ | refine bl5 ?_ _ _ _ (by omega)))
        · have hw : ¬ wd = x0 := by have h : (wd == x0) = false := by assumption
                                    intro e; simp [e] at h
          go_light
          refine ⟨⟨seen ++ [i], (hR.step hi (fun e => hw (S_inj (Value.string.inj e))) hI hg).alloc _⟩, ?_⟩
          have h1 := hI.len
          rw [leftOf_eq hR.it, leftOf_eq ((hI.below (bl1 (bl0 _) _)))]
          simp at h1 ⊢
          omega
        · refine bodyPost_ret (v := .tuple #[.agg #[.int .i64 0, .int .i64 0, .int .i64 0], .bool false]) (by simp [results, Tryd.results17, go_sem, c0, c1, c2, f0, f1, f2]) rfl ?_
          go_light
          refine read_miss HL.out ?_ (by repeat (first | exact hR.blks.below | refine bl2 ?_ | refine bl1 ?_ _ | refine bl5 ?_ _ _ _ (by omega)))
          cases hk : Bp.kindOf x0 with
          | none => rfl
          | some kn =>
            obtain ⟨k, n⟩ := kn
            obtain ⟨j, hj⟩ := words_all HW.out hk
            exact absurd rfl (hR.not j (hdone j (List.getElem?_eq_some_iff.1 hj).1) _ _ hj)

set_option maxRecDepth 100000 in
set_option maxHeartbeats 1600000 in
theorem read_3 (s : ByteArray) (w : World) (HG : Hid (Glob w)) (hs : s.size ≤ 1000) (x0 x1 x2 : List UInt8) (HL : Hid (Bp.pieces 32 s.data.toList = [x0, x1, x2])) : Calls Tryd.prog 17 #[.string s] w (ReadPost s w) := by
      have hx1 : (S x1).size ≤ 1000 := by
        have h1 : x1 ∈ Bp.pieces 32 s.data.toList := by rw [HL.out]; simp
        have := Bp.piece_le 32 _ _ h1
        rw [S_size, ← size_len] at *; omega
      have hx2 : (S x2).size ≤ 1000 := by
        have h1 : x2 ∈ Bp.pieces 32 s.data.toList := by rw [HL.out]; simp
        have := Bp.piece_le 32 _ _ h1
        rw [S_size, ← size_len] at *; omega
      go_enter Tryd.func17, Tryd.ntmps17
      go_wp2_with (go_at_call 24; refine (split_any s 32 _ (HG.out.below (bl1 (bl0 _) _)) (by omega)).mono ?_; rintro e w1 ⟨rfl, rfl⟩; rw [HL.out])
      refine wp_loop_rounds 3 ?_
      rw [rounds_succ]
      go_wp2_with (go_at_call 32; go_must (refine (atoi_any _ _ (HG.out.below (bl1 (bl1 (bl1 (bl0 _) _) _) _)) (by omega)).mono ?_; rintro e w1 ⟨⟨v, rfl⟩, hb⟩; obtain ⟨c0, c1, c2, f0, f1, f2, cx, cn0, cn1, hlt⟩ := ((Blks.start w x0 [.string (S x1), .string (S x2)]).bl hb).cells; have fn0 := frozen_blk ((Blks.start w x0 [.string (S x1), .string (S x2)]).bl hb).nums 0; have fn1 := frozen_blk ((Blks.start w x0 [.string (S x1), .string (S x2)]).bl hb).nums 1))
      clear hlt c0 c1 c2 f0 f1 f2 cx cn0 cn1 fn0 fn1
      have hz := hb.size
      simp only [World.size_alloc] at hz
      rw [rounds_succ]
      have cx2 : w1.cell? ⟨w.heap.size + 1, 2, none⟩ = some (.string (S x2)) := cell_blk ((Blks.start w x0 [.string (S x1), .string (S x2)]).bl hb).strs 2
      go_wp2_with (go_at_call 32; go_must (refine (atoi_any _ _ (HG.out.below (bl5 (bl3 (bl1 (bl1 (bl1 (bl0 _) _) _) _) hb) _ _ _ (by omega))) (by omega)).mono ?_; rintro e w2 ⟨⟨v, rfl⟩, hb2⟩; obtain ⟨c0, c1, c2, f0, f1, f2, cx, cn0, cn1, hlt⟩ := ((((Blks.start w x0 [.string (S x1), .string (S x2)]).bl hb).set0 (Bp.atoiN x1)).bl hb2).cells; have fn0 := frozen_blk ((((Blks.start w x0 [.string (S x1), .string (S x2)]).bl hb).set0 (Bp.atoiN x1)).bl hb2).nums 0; have fn1 := frozen_blk ((((Blks.start w x0 [.string (S x1), .string (S x2)]).bl hb).set0 (Bp.atoiN x1)).bl hb2).nums 1))
      clear hlt c0 c1 c2 f0 f1 f2 cx cn0 cn1 fn0 fn1
      have hz2 := hb2.size
      simp only [World.size_setCell] at hz2
      rw [rounds_succ]
      go_wp2_with (first | (go_at_call 33; refine (words_any _).mono ?_; rintro e w9 ⟨ws, hws, rfl, rfl⟩) | (at_range; go_must (refine wpList_range_pm Tryd.underlying72 rfl (.tmp 32) rfl _ ws rfl (drew_new _ _ _ (by simp)) (w2.heap.size + 1) (by simp) ?_; rintro w8 hI rfl)))
      have HW := Lib.hid hws
      clear hws
      go_frame
      go_loopw [34] (fun _ wr => ∃ seen, RInv w x0 [.string (S x1), .string (S x2)] (Bp.atoiN x1) (Bp.atoiN x2) ws (w2.heap.size + 1) (w2.heap.size) seen wr) (fun _ wr => leftOf wr (w2.heap.size + 1) ws.length)
      case atStart => exact ⟨[], hI, fun i h => by (cases h), (((((((Blks.start w x0 [.string (S x1), .string (S x2)]).bl hb).set0 _).bl hb2).set1 _).alloc _).drew).alloc _, by omega⟩
      case round =>
        obtain ⟨seen, hR⟩ := hrel
        clear hI
        obtain ⟨c0, c1, c2, f0, f1, f2, cx, cn0, cn1, hlt⟩ := hR.blks.cells
        go_wp2_with (at_next; go_must (refine wpList_next_pm rfl (.tmp 33) rfl (w2.heap.size + 1) (w2.heap.size) ws seen rfl hR.it ?_ ?_); intro hdone; rotate_left; clear c0 c1 c2 f0 f1 f2 cx cn0 cn1; intro i x y v w1 hi hns hI hg hsz hen; obtain ⟨wd, rfl, nn, rfl, hk⟩ := words_mem HW.out hi; obtain ⟨c0, c1, c2, f0, f1, f2, cx, cn0, cn1⟩ := (hR.blks.step hg hR.far).cellsA)
        · have hne1 : ¬ wr.heap.size = w.heap.size := by omega
          have hne2 : ¬ w.heap.size = wr.heap.size := by omega
          have hw : wd = x0 := by have h : (wd == x0) = true := by assumption
                                  exact beq_iff_eq.1 h
          go_region
          go_wp2
          refine bodyPost_ret (v := .tuple #[.agg #[.int .i64 x, .int .i64 (Bp.atoiN x1), .int .i64 (Bp.atoiN x2)], .bool ((nn : Int) == 2)]) (by simp [results, Tryd.results17, go_sem, c0, c1, c2, f0, f1, f2, hne1, hne2]) rfl ?_
          go_light
          exact read_hit HL.out (by simp) (hw ▸ hk) rfl rfl _ (by rw [Bool.eq_iff_iff]; simp; try omega) (by repeat (first | exact (hR.blks.step hg hR.far).below | refine bl2 ?_ | refine bl1 ?_ _ | refine bl5 ?_ _ _ _ (by omega)))
        · have hw : ¬ wd = x0 := by have h : (wd == x0) = false := by assumption
                                    intro e; simp [e] at h
          go_light
          refine ⟨⟨seen ++ [i], (hR.step hi (fun e => hw (S_inj (Value.string.inj e))) hI hg).alloc _⟩, ?_⟩
          have h1 := hI.len
          rw [leftOf_eq hR.it, leftOf_eq ((hI.below (bl1 (bl0 _) _)))]
          simp at h1 ⊢
          omega
        · refine bodyPost_ret (v := .tuple #[.agg #[.int .i64 0, .int .i64 0, .int .i64 0], .bool false]) (by simp [results, Tryd.results17, go_sem, c0, c1, c2, f0, f1, f2]) rfl ?_
          go_light
          refine read_miss HL.out ?_ (by repeat (first | exact hR.blks.below | refine bl2 ?_ | refine bl1 ?_ _ | refine bl5 ?_ _ _ _ (by omega)))
          cases hk : Bp.kindOf x0 with
          | none => rfl
          | some kn =>
            obtain ⟨k, n⟩ := kn
            obtain ⟨j, hj⟩ := words_all HW.out hk
            exact absurd rfl (hR.not j (hdone j (List.getElem?_eq_some_iff.1 hj).1) _ _ hj)

theorem read_any (s : ByteArray) (w : World) (G : Glob w) (hs : s.size ≤ 1000) : Calls Tryd.prog 17 #[.string s] w (ReadPost s w) := by
  by_cases h3 : 3 < (Bp.pieces 32 s.data.toList).length
  · exact read_l s w G hs h3
  · have hne := Bp.pieces_ne 32 s.data.toList
    cases hp : Bp.pieces 32 s.data.toList with
    | nil => exact absurd hp hne
    | cons x0 r =>
      rw [hp] at h3
      match r, h3, hp with
      | [], _, hp => exact read_1 s w G hs x0 hp
      | [x1], _, hp => exact read_2 s w G hs x0 x1 hp
      | [x1, x2], _, hp => exact read_3 s w G hs x0 x1 x2 hp
      | _ :: _ :: _ :: _, h3, _ => exact absurd (by simp) h3
end Go.Proofs.YtllabeiadeclkaaDoor
