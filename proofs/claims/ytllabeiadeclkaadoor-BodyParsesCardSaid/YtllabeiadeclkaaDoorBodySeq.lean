/-
  strings.SplitSeq at a separator of one byte: it yields the pieces.
-/
import Derived.Test.YtllabeiadeclkaaDoorRangeCell
import Derived.Test.YtllabeiadeclkaaDoorBodyLib
import Derived.Test.YtllabeiadeclkaaDoorBodyPure
import Derived.Lib.IndexLaws
set_option linter.unusedVariables false
set_option linter.unusedSimpArgs false
namespace Go.Proofs.YtllabeiadeclkaaDoor
open Go.RowKit
attribute [local go_sem] Oper.semAt_some

theorem pieces_at {c : UInt8} : ∀ (s : List UInt8) (o : Nat), s[o]? = some c → (∀ k, k < o → s[k]? ≠ some c) → Bp.pieces c s = s.take o :: Bp.pieces c (s.drop (o + 1))
  | [], o, h, _ => by simp at h
  | b :: r, 0, h, _ => by
    obtain rfl : b = c := by simpa using h
    simp [Bp.pieces]
  | b :: r, o + 1, h, hk => by
    have h1 : b ≠ c := fun e => hk 0 (by omega) (by simp [e])
    have ih := pieces_at r o (by simpa using h) (fun k hlt => by have := hk (k + 1) (by omega); simpa using this)
    simp [Bp.pieces, h1, ih]

theorem not_mem_of_index {s : List UInt8} {c : UInt8} (h : Lib.indexByte s c = -1) : c ∉ s := fun hm => by
  obtain ⟨k, hk⟩ := List.mem_iff_getElem?.1 hm
  exact Lib.indexByte_none h k hk

theorem S_take (s : List UInt8) (o : Nat) (h : o ≤ s.length) : (S s).extract 0 o = S (s.take o) := by
  simp [S, ByteArray.ext_iff, Array.ext_iff]
theorem S_drop (s : List UInt8) (o : Nat) : (S s).extract o (S s).size = S (s.drop o) := by
  rw [S_size]
  simp [S, ByteArray.ext_iff, Array.ext_iff]

theorem sc_else {w : World} {a : Addr} {v : Value} {b : Nat} (h : b ≠ a.block) : (w.setCell a v).heap[b]? = w.heap[b]? := by
  simp only [World.setCell, Array.getElem?_modify]
  rw [if_neg (fun e => h e.symm)]
/-- What the iterator's boxes hold. -/
def SeqBoxes (sb : Nat) (s : List UInt8) (W : World) : Prop :=
  W.heap[sb]? = some (.cells #[.string (S s)] 9 (0, 0)) ∧ W.heap[sb + 1]? = some (.cells #[.string (S [59])] 9 (0, 0)) ∧ W.heap[sb + 2]? = some (.cells #[.int .i64 0] 3 (0, 0))

/-- What a round keeps. -/
def SeqKeeps (sb : Nat) (A B : World) : Prop := ∀ b, sb ≤ b → b < sb + 3 → B.heap[b]? = A.heap[b]?

theorem SeqBoxes.keeps {sb : Nat} {s : List UInt8} {A B : World} (h : SeqBoxes sb s A) (hk : SeqKeeps sb A B) : SeqBoxes sb s B :=
  ⟨(hk sb (Nat.le_refl _) (by omega)).trans h.1, (hk (sb + 1) (by omega) (by omega)).trans h.2.1, (hk (sb + 2) (by omega) (by omega)).trans h.2.2⟩

/-- How much is still to come, read off the world. -/
def seqLeft (sb : Nat) (W : World) : Nat := match W.cell? ⟨sb, 0, none⟩ with | some (.string s) => s.size | _ => 0

theorem SeqBoxes.left {sb : Nat} {s : List UInt8} {W : World} (h : SeqBoxes sb s W) : seqLeft sb W = s.length := by
  unfold seqLeft
  rw [cell_blk h.1 0]
  exact S_size s

theorem SeqBoxes.set {sb : Nat} {s t : List UInt8} {W : World} (h : SeqBoxes sb s W) : SeqBoxes sb t (W.setCell ⟨sb, 0, none⟩ (.string (S t))) :=
  ⟨by rw [sc_block h.1]; rfl, (sc_else (by simp)).trans h.2.1, (sc_else (by simp)).trans h.2.2⟩

set_option maxRecDepth 100000 in
set_option maxHeartbeats 2000000 in
theorem seq_yields (n : Nat) (hn : 2 ≤ n) (sb : Nat) (s : List UInt8) (hs : s.length ≤ 1000) :
    Yields Fence.wide n Tryd.prog 48 #[.pointer (some ⟨sb + 1, 0, none⟩), .pointer (some ⟨sb, 0, none⟩), .pointer (some ⟨sb + 2, 0, none⟩)] (fun x => #[.string (S x)]) sb (SeqKeeps sb) (SeqBoxes sb s) (Bp.pieces 59 s) := by
  intro l J Jx W hW hJ hY h0
  have HJ := Lib.hid hJ
  have HY := Lib.hid hY
  clear hJ hY
  refine callsIn_of_wp Tryd.func48 rfl trivial ?_ rfl
  simp only [Tryd.ntmps48, List.size_toArray, List.length_cons, List.length_nil, Nat.reduceAdd, Nat.reduceSub, Array.replicate_succ, Array.replicate_zero, List.push_toArray, List.append_toArray, List.nil_append, List.cons_append]
  have c0 := cell_blk hW.1 0
  have c1 := cell_blk hW.2.1 0
  have c2 := cell_blk hW.2.2 0
  simp only [List.getElem?_toArray, List.getElem?_cons_zero] at c0 c1 c2
  have h1 : 1 ≤ n := by omega
  gi_wp2_with fail
  gi_loopw [7] (fun _ wr => ∃ (pre : List (List UInt8)) (cur : List UInt8), Bp.pieces 59 s = pre ++ Bp.pieces 59 cur ∧ SeqBoxes sb cur wr ∧ J pre wr ∧ cur.length ≤ s.length) (fun _ wr => seqLeft sb wr)
  case atStart => exact ⟨[], s, rfl, hW, h0, Nat.le_refl _⟩
  case round =>
    obtain ⟨pre, cur, hpre, hbx, hj, hcl⟩ := hrel
    have d0 := cell_blk hbx.1 0
    have d1 := cell_blk hbx.2.1 0
    have d2 := cell_blk hbx.2.2 0
    have f0 := frozen_blk hbx.1 0
    simp only [List.getElem?_toArray, List.getElem?_cons_zero] at d0 d1 d2
    have hI := index_any (S cur) 59 wr
    rw [S_list] at hI
    rcases (show Lib.indexByte cur 59 < 0 ∨ 0 ≤ Lib.indexByte cur 59 by omega) with hlt | hge
    · have he : Lib.indexByte cur 59 = -1 := by have := Lib.indexByte_ge cur 59; omega
      have hp : Bp.pieces 59 cur = [cur] := Bp.pieces_none 59 cur (not_mem_of_index he)
      rw [he] at hI
      have HI := Lib.hid hI
      rw [hp] at hpre
      have HP := Lib.hid hpre
      obtain ⟨fn, tmps, assign, body, hy, hR⟩ := HY.out pre cur wr hj (by rw [hpre]; exact List.prefix_refl _)
      clear hI hpre hp he hlt
      gi_wp2_with (refine ⟨trivial, ?_⟩; gi_at_call 50; go_must (refine (callsIn_wide.2 HI.out).mono ?_; rintro e w1 ⟨rfl, rfl⟩))
      refine hR.mono ?_
      rintro e W3 (⟨rfl, hJ3, hk3⟩ | ⟨rfl, hJx3⟩)
      · gi_wp2
        go_end0
        exact ⟨⟨_, rfl⟩, .inl (by rw [HP.out]; exact hJ3)⟩
      · gi_wp2
        go_end0
        exact ⟨⟨_, rfl⟩, .inr ⟨pre ++ [cur], by rw [HP.out]; exact List.prefix_refl _, hJx3⟩⟩
    · obtain ⟨o, ho⟩ := Int.eq_ofNat_of_zero_le hge
      have hio := Lib.indexByte_some ho
      have hol : o < cur.length := (List.getElem?_eq_some_iff.1 hio.1).1
      have hp : Bp.pieces 59 cur = cur.take o :: Bp.pieces 59 (cur.drop (o + 1)) := pieces_at cur o hio.1 hio.2
      rw [ho] at hI
      have HI := Lib.hid hI
      rw [hp] at hpre
      have HP := Lib.hid hpre
      have hsz : (S cur).size = cur.length := S_size cur
      have e1 : (S cur).extract 0 o = S (cur.take o) := S_take cur o (by omega)
      obtain ⟨fn, tmps, assign, body, hy, hR⟩ := HY.out pre (cur.take o) wr hj (by rw [hpre]; exact ⟨_, by rw [List.append_assoc]; rfl⟩)
      have e2 : (S cur).extract (o + 1) cur.length = S (cur.drop (o + 1)) := by rw [← S_drop, S_size]
      have hw0 : wrap64 (o : Int) = o := by unfold wrap64; omega
      have hw1 : wrap64 ((o : Int) + 1) = o + 1 := by unfold wrap64; omega
      clear hI hpre hp hge ho hio
      gi_wp2_with (refine ⟨trivial, ?_⟩; gi_at_call 50; go_must (refine (callsIn_wide.2 HI.out).mono ?_; rintro e w1 ⟨rfl, rfl⟩))
      refine hR.mono ?_
      rintro e W3 (⟨rfl, hJ3, hk3⟩ | ⟨rfl, hJx3⟩)
      · have hb3 := hbx.keeps hk3
        have g0 := cell_blk hb3.1 0
        have g1 := cell_blk hb3.2.1 0
        have gf := frozen_blk hb3.1 0
        simp only [List.getElem?_toArray, List.getElem?_cons_zero] at g0 g1
        gi_wp2
        go_roundw
        case rel => exact ⟨pre ++ [cur.take o], cur.drop (o + 1), by rw [HP.out]; simp, hb3.set, HJ.out _ _ _ (.inr ⟨_, rfl⟩) hJ3, by simp only [List.length_drop]; omega⟩
        case measure => rw [SeqBoxes.left hb3.set, SeqBoxes.left hbx, List.length_drop]; omega
      · gi_wp2
        refine bodyPost_ret (results_none rfl _ _ _) rfl ?_
        exact ⟨⟨_, rfl⟩, .inr ⟨pre ++ [cur.take o], by rw [HP.out]; exact ⟨_, by rw [List.append_assoc]; rfl⟩, hJx3⟩⟩
end Go.Proofs.YtllabeiadeclkaaDoor
