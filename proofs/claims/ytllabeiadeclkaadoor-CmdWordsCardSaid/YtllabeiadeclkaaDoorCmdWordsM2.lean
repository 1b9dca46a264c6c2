/-
  CmdWords: each command takes just as many words as it says, submit up to sixteen more: the law answers true for every three numbers. Conditions: the row's own (the listed variables of the library hold what their initialisers lay).
-/
import Derived.Deep.RegionWith
import Derived.Test.YtllabeiadeclkaaDoorCRef2
import Derived.Test.YtllabeiadeclkaaDoorCRef5
import Derived.Lib.ItoaLen
import Derived.Laws.BitsLemmas
import Derived.Test.YtllabeiadeclkaaDoorCards
import Derived.Test.YtllabeiadeclkaaDoorTie
import Derived.ProofKit
import Derived.OpenShut
import Derived.Deep.DeepHandedRow
import Derived.Deep.DeepWitnessRowRef
import Derived.Stop.LaidErr
import Derived.Lib.LaidTab
import Derived.LaidMore
import Derived.LaidSub
import Derived.Lay
import Derived.HandedShaped
import Derived.Test.YtllabeiadeclkaaDoorCmdWordsM1
set_option linter.unusedVariables false
set_option linter.unusedSimpArgs false
/-! BodyParseMain: body.Parse where it comes to the loop. -/
namespace Go.Proofs.YtllabeiadeclkaaDoor
open Go.RowKit Go.Proofs.YtllabeiadeclkaaDoorW
attribute [local go_sem] Oper.semAt_some

theorem infoOp : (Tryd.prog.info? 50).map (fun i => (i.zero, i.size, i.bytes)) = some (some (.agg #[.int .i64 0, .int .i64 0, .int .i64 0]), 3, 24) := by kernel_rfl

theorem box_now {w : World} {b : Nat} {v : Value} {t : TypeId} (h : w.heap[b]? = some (.cells #[v] t (0, 0))) : w.cell? ⟨b, 0, none⟩ = some v ∧ w.frozen? ⟨b, 0, none⟩ = false :=
  ⟨by rw [cell_blk h 0]; rfl, frozen_blk h 0⟩
theorem box_then {w : World} {b : Nat} {v : Value} {t : TypeId} (h : w.heap[b]? = some (.cells #[v] t (0, 0))) : (∀ o, (w.alloc o).cell? ⟨b, 0, none⟩ = some v) ∧ (∀ o, (w.alloc o).frozen? ⟨b, 0, none⟩ = false) :=
  ⟨fun o => (box_now (blk (bl1 (bl0 w) o) h)).1, fun o => (box_now (blk (bl1 (bl0 w) o) h)).2⟩
theorem pieces_count (c : UInt8) : ∀ s, (Bp.pieces c s).length ≤ s.length + 1
  | [] => by simp [Bp.pieces]
  | b :: r => by
    have ih := pieces_count c r
    unfold Bp.pieces
    split
    · simpa using ih
    · split
      · simp
      · rename_i h; rw [h] at ih; simp at ih ⊢; omega
theorem cells_three_new (w : World) (a b c : Value) (t : TypeId) : ∀ j u, [a, b, c][j]? = some u → (w.alloc (.cells #[a, b, c] t)).cell? ((⟨w.heap.size, 0, none⟩ : Addr).add j) = some u := by
  intro j u h
  rw [PrintWords.add_plain, cell_blk (alloc_new w (.cells #[a, b, c] t) _ rfl) j]
  simpa using h

theorem keepsFrom_below {B : Nat} {W W' : World} (h : Below W.heap.size W W') : KeepsFrom B W W' := ⟨h.size, fun k o _ hk _ => blk h hk⟩

/-- What a round that goes on leaves. -/
theorem round_on {w W w2 w1 : World} {pre : List (List UInt8)} {x : List UInt8} {v v' : Value} {ll : List Bp.O} {o : Bp.O} {B : Nat}
    (h1 : pre.mapM Bp.read = some ll) (h2 : ll.length = pre.length) (h3 : W.heap[w.heap.size + 2]? = some (.cells #[v] 22 (0, 0))) (h4 : W.ownsRow (w.heap.size + 6) 50 3 v ll.length (opCells ll))
    (h5 : W.heap[w.heap.size]? = some (.cells #[.slice none 0 0] 22 (0, 0))) (h6 : W.heap[w.heap.size + 1]? = some (.cells #[.int .i64 0] 23 (0, 0))) (h7 : Below w.heap.size w W) (h8 : w.heap.size + 6 ≤ W.heap.size)
    (hr : Bp.read x = some o) (hb : Below W.heap.size W w2) (o1 o2 : Obj)
    (hown : w1.ownsRow (w.heap.size + 6) 50 3 v' (ll.length + 1) (opCells ll ++ [.int .i64 o.kind, .int .i64 o.a, .int .i64 o.b])) (hg : ((w2.alloc o1).alloc o2).grownBy w1 v.ownBlock) :
    KeepsFrom B W (w1.setCell ⟨w.heap.size + 2, 0, none⟩ v') ∧ SeqKeeps (w.heap.size + 3) W (w1.setCell ⟨w.heap.size + 2, 0, none⟩ v') ∧ LoopI w (pre ++ [x]) (w1.setCell ⟨w.heap.size + 2, 0, none⟩ v') := by
  have hb' : Below W.heap.size W ((w2.alloc o1).alloc o2) := bl1 (bl1 hb _) _
  have far : ∀ b ob, b < w.heap.size + 6 → W.heap[b]? = some ob → w1.heap[b]? = some ob := fun b ob hlt h =>
    (hg.block b (Array.getElem?_eq_some_iff.1 (blk hb' h)).1 (fun e => by have := PrintWords.own_base h4 b e.symm; omega)).trans (blk hb' h)
  have k3 := far _ _ (by omega) h3
  have hsz : W.heap.size ≤ w1.heap.size := Nat.le_trans hb'.size hg.size
  refine ⟨?_, ?_, ?_⟩
  · refine (KeepsFrom.trans (keepsFrom_below hb') (KeepsOthers.from (KeepsOthers.of_grownBy hg fun j ob e hj => ?_) B)).trans ((KeepsOthers.setCell _ _ _).from B)
    rcases (PrintWords.pw_own_below h4 hb').2 with ⟨rfl, _⟩ | ⟨g, cap, cur, rfl, _, hgb, _⟩
    · simp [Value.ownBlock] at e
    · obtain rfl : g = j := by simpa [Value.ownBlock] using e
      rw [hgb] at hj; cases hj; rfl
  · intro b hb1 hb2
    have hlt : b < W.heap.size := by omega
    rw [sc_else (by simp; omega)]
    have e : W.heap[b]? = some (W.heap[b]) := Array.getElem?_eq_getElem hlt
    rw [e]
    exact far b _ (by omega) e
  · refine ⟨v', ll ++ [o], read_all_snoc h1 hr, by simp [h2], by rw [sc_block k3 0]; rfl, ?_, (sc_else (by simp)).trans (far _ _ (by omega) h5), (sc_else (by simp)).trans (far _ _ (by omega) h6), ?_, by simp; omega⟩
    · rw [opCells_snoc, List.length_append]
      exact PrintWords.own_setCell hown (fun e => by have := PrintWords.own_base hown _ e.symm; simp at this) v'
    · exact bl5 ((bl3 h7 hb').grown hg (Nat.le_trans h7.size hb'.size) (fun k e => by have := PrintWords.own_base h4 k e; omega)) _ _ _ (by omega)
/-- The world behind the stores of the results and behind the loop's block. -/
theorem parse_end {w W w2 : World} {D : Nat} {u1 u2 : Value} {ds : List Deferred} (v1 v2 : Value) (h7 : Below w.heap.size w W) (hb : Below W.heap.size W w2) (hD : w.heap.size + 6 ≤ D) (hK : W.heap[D]? = some (.deferred (some ds)))
    (k5 : w2.heap[w.heap.size]? = some (.cells #[u1] 22 (0, 0))) (k6 : w2.heap[w.heap.size + 1]? = some (.cells #[u2] 23 (0, 0))) :
    ((w2.setCell ⟨w.heap.size, 0, none⟩ v1).setCell ⟨w.heap.size + 1, 0, none⟩ v2).heap[D]? = some (.deferred (some ds)) ∧
    (((w2.setCell ⟨w.heap.size, 0, none⟩ v1).setCell ⟨w.heap.size + 1, 0, none⟩ v2).putObj D (.deferred none)).cell? ⟨w.heap.size, 0, none⟩ = some v1 ∧
    (((w2.setCell ⟨w.heap.size, 0, none⟩ v1).setCell ⟨w.heap.size + 1, 0, none⟩ v2).putObj D (.deferred none)).cell? ⟨w.heap.size + 1, 0, none⟩ = some v2 ∧
    Below w.heap.size w (((w2.setCell ⟨w.heap.size, 0, none⟩ v1).setCell ⟨w.heap.size + 1, 0, none⟩ v2).putObj D (.deferred none)) ∧
    ∀ {v : Value} {n : Nat} {xs : List Value}, W.ownsRow (w.heap.size + 6) 50 3 v n xs → (((w2.setCell ⟨w.heap.size, 0, none⟩ v1).setCell ⟨w.heap.size + 1, 0, none⟩ v2).putObj D (.deferred none)).ownsRow (w.heap.size + 6) 50 3 v n xs := by
  have hK2 := setCell_others (w.heap.size + 1) v2 (setCell_others w.heap.size v1 (blk hb hK) rfl) rfl
  refine ⟨hK2, ?_, ?_, ?_, fun {v n xs} ho => ?_⟩
  · exact (box_now ((World.putObj_heap_other (by omega)).trans ((sc_else (by simp)).trans (by rw [sc_block k5 0]; rfl)))).1
  · exact (box_now ((World.putObj_heap_other (by omega)).trans (by rw [sc_block ((sc_else (by simp)).trans k6) 0]; rfl))).1
  · exact below_put (bl5 (bl5 (bl3 h7 hb) _ _ _ (by omega)) _ _ _ (by omega)) _ _ (by omega)
  · have o2 := PrintWords.pw_own_below ho hb
    exact ownsRow_putObj (PrintWords.own_setCell (PrintWords.own_setCell o2 (fun e => by have := PrintWords.own_base o2 _ e.symm; simp at this; omega) v1) (fun e => by have := PrintWords.own_base o2 _ e.symm; simp at this) v2) _ hK2 rfl

set_option maxRecDepth 100000 in
set_option maxHeartbeats 3200000 in
theorem parse_main (s : List UInt8) (w : World) (G : Glob w) (hs : s.length ≤ 400) (hd : s ≠ [45]) : Calls Tryd.prog 6 #[.string (S s)] w (ParsePost s w) := by
  have hz : (S s).size = s.length := S_size s
  have hne : (s == [45]) = false := beq_eq_false_iff_ne.2 hd
  have HG := Lib.hid G
  clear G
  obtain ⟨i0, hi, hz0, hz1, hz2⟩ := info_parts infoOp
  refine (callsIn_wide (n := 9)).1 (callsIn_of_wp_marks Tryd.func6 rfl trivial ?_ rfl)
  simp only [Tryd.ntmps6, List.size_toArray, List.length_cons, List.length_nil, Nat.reduceAdd, Nat.reduceSub, Array.replicate_succ, Array.replicate_zero, List.push_toArray, List.append_toArray, List.nil_append, List.cons_append]
  gi_wp2_with (refine ⟨trivial, ?_⟩; gi_at_call 16; go_must (refine (callsIn_wide.2 (seq_any s _)).mono ?_; rintro e w1 ⟨rfl, rfl⟩))
  have hB0 : Below w.heap.size w (((((w.alloc (.cells #[.slice none 0 0] 22)).alloc (.cells #[.int .i64 0] 23)).alloc (.cells #[.slice none 0 0] 22)).alloc (.cells #[.string (S s)] 9)).alloc (.cells #[.string ⟨#[59]⟩] 9) |>.alloc (.cells #[.int .i64 0] 3)) := bl1 (bl1 (bl1 (bl1 (bl1 (bl1 (bl0 _) _) _) _) _) _) _
  have hbx := SeqPost.boxes s (((w.alloc (.cells #[.slice none 0 0] 22)).alloc (.cells #[.int .i64 0] 23)).alloc (.cells #[.slice none 0 0] 22))
  have b0 := blk (bl1 (bl1 (bl1 (bl1 (bl1 (bl0 _) (.cells #[.int .i64 0] 23)) (.cells #[.slice none 0 0] 22)) (.cells #[.string (S s)] 9)) (.cells #[.string ⟨#[59]⟩] 9)) (.cells #[.int .i64 0] 3)) (alloc_new w (.cells #[.slice none 0 0] 22) _ rfl)
  have b1 := blk (bl1 (bl1 (bl1 (bl1 (bl0 _) (.cells #[.slice none 0 0] 22)) (.cells #[.string (S s)] 9)) (.cells #[.string ⟨#[59]⟩] 9)) (.cells #[.int .i64 0] 3)) (alloc_new (w.alloc (.cells #[.slice none 0 0] 22)) (.cells #[.int .i64 0] 23) _ rfl)
  have b2 := blk (bl1 (bl1 (bl1 (bl0 _) (.cells #[.string (S s)] 9)) (.cells #[.string ⟨#[59]⟩] 9)) (.cells #[.int .i64 0] 3)) (alloc_new ((w.alloc (.cells #[.slice none 0 0] 22)).alloc (.cells #[.int .i64 0] 23)) (.cells #[.slice none 0 0] 22) _ rfl)
  simp only [World.size_alloc, Nat.add_assoc, Nat.reduceAdd] at b1 b2 hbx
  obtain ⟨W0, hW0⟩ : ∃ W0, W0 = (((((w.alloc (.cells #[.slice none 0 0] 22)).alloc (.cells #[.int .i64 0] 23)).alloc (.cells #[.slice none 0 0] 22)).alloc (.cells #[.string (S s)] 9)).alloc (.cells #[.string ⟨#[59]⟩] 9) |>.alloc (.cells #[.int .i64 0] 3)) := ⟨_, rfl⟩
  have hsz : W0.heap.size = w.heap.size + 6 := by rw [hW0]; simp
  simp only [Nat.add_assoc, Nat.reduceAdd]
  rw [← hW0] at hB0 hbx b0 b1 b2 ⊢
  clear hW0
  refine range_cell (F := Fence.wide) (n := 9) (a := _) (w := W0) rfl (by omega) (gf := 48) (lb := #[.pointer (some ⟨w.heap.size + 4, 0, none⟩), .pointer (some ⟨w.heap.size + 3, 0, none⟩), .pointer (some ⟨w.heap.size + 5, 0, none⟩)]) rfl trivial (enters_of Tryd.func48 (by kernel_rfl) rfl)
    (sb := w.heap.size + 3) (seq_yields 8 (by omega) (w.heap.size + 3) s (by omega))
    (fun W hb => ⟨blk hb hbx.1, blk hb hbx.2.1, blk hb hbx.2.2⟩)
    (fun A B C h k b h1 h2 => (k b h1 h2).trans (h b h1 h2)) (fun W l o hl b h1 h2 => World.putObj_heap_other (by omega)) (fun _ => rfl)
    (LoopI w) (LoopX w) (fun _ _ _ hst h => h.step hst) (fun _ _ _ _ _ hl ho hc h => h.put _ (by omega) ho hc) (fun _ _ _ _ _ hl ho hc h => h.put _ (by omega))
    ⟨_, [], rfl, rfl, b2, PrintWords.own_nil _ _ _ _, b0, b1, hB0, by omega⟩
    (fun x => { tmps := #[.string (S s), undef, .pointer (some ⟨w.heap.size, 0, none⟩), .pointer (some ⟨w.heap.size + 1, 0, none⟩), .pointer (some ⟨w.heap.size + 2, 0, none⟩), .string (S x), undef, undef, undef, undef,
      .string (S s), .int .i64 s.length, .bool (decide (400 < (s.length : Int))), .string (S s), .bool false, .string (S s),
      .func (.func 48) #[] #[.pointer (some ⟨w.heap.size + 4, 0, none⟩), .pointer (some ⟨w.heap.size + 3, 0, none⟩), .pointer (some ⟨w.heap.size + 5, 0, none⟩)],
      .string (S x), undef, undef, undef, undef, undef, undef, undef, undef, undef, undef, undef, undef, undef, undef, undef, undef, undef, undef, undef, undef, undef, undef, undef, undef, undef], defers := [] }) ?assign ?body ?done ?stop
  case assign =>
    intro l x W K hK
    gi_wp2
    exact hK
  case body =>
    rintro l pre x W hI hpre hl hlt
    have hI' := hI
    obtain ⟨v, ll, h1, h2, h3, h4, h5, h6, h7, h8⟩ := hI'
    have hx : x.length ≤ 400 := Nat.le_trans (Bp.piece_le _ _ _ (hpre.subset (by simp))) hs
    have hcnt : pre.length + 1 ≤ 401 := by
      have c1 := hpre.length_le
      have c2 := pieces_count 59 s
      simp only [List.length_append, List.length_cons, List.length_nil] at c1
      omega
    have hR := read_any (S x) W (HG.out.below h7) (by rw [S_size]; omega)
    unfold ReadPost at hR
    rw [S_list] at hR
    cases hr : Bp.read x with
    | none =>
      rw [hr] at hR
      have HR := Lib.hid hR
      have H5 := Lib.hid h5
      have H6 := Lib.hid h6
      have H7 := Lib.hid h7
      clear hR h3 h4 h5 h6 h7
      gi_wp2_with (refine ⟨trivial, ?_⟩; gi_at_call 17; go_must (refine (CallsIn.inRound l (callsIn_wide.2 HR.out)).mono ?_; rintro e w2 ⟨hb2, q0, q1, q2, rfl⟩; have k5 := blk hb2 H5.out; have k6 := blk hb2 H6.out; have ⟨c5, f5⟩ := box_then k5; have ⟨c6, f6⟩ := box_then k6))
      exact ⟨((keepsFrom_below (bl1 hb2 _)).trans ((KeepsOthers.setCell _ _ _).from _)).trans ((KeepsOthers.setCell _ _ _).from _), ⟨x, by simp, hr⟩,
        (sc_else (by simp)).trans (by rw [sc_block (blk (bl1 (bl0 _) _) k5) 0]; rfl), by rw [sc_block ((sc_else (by simp)).trans (blk (bl1 (bl0 _) _) k6)) 0]; rfl, bl5 (bl5 (bl3 H7.out (bl1 hb2 _)) _ _ _ (by omega)) _ _ _ (by omega)⟩
    | some o =>
      rw [hr] at hR
      have HR := Lib.hid hR
      have H3 := Lib.hid h3
      have H4 := Lib.hid h4
      have H5 := Lib.hid h5
      have H6 := Lib.hid h6
      have H7 := Lib.hid h7
      have HL := Lib.hid h2
      have hll : ll.length ≤ 400 := by omega
      clear hR h3 h4 h5 h6 h7 h2
      gi_wp2_with (first
        | (refine ⟨trivial, ?_⟩; gi_at_call 17; go_must (refine (CallsIn.inRound l (callsIn_wide.2 HR.out)).mono ?_; rintro e w2 ⟨hb2, rfl⟩; have H2 := Lib.hid hb2; have k3 := blk hb2 H3.out; have ⟨c3, f3⟩ := box_then k3; have hsz2 := hb2.size; clear hb2 k3))
        | (gi_at_builtin; go_must (refine wpListIn_append_own _ rfl _ _ 22 rfl (w.heap.size + 6) 50 i0 _ 3 24 Tryd.underlying22 hi hz0 hz1 hz2 rfl (by decide) v ll.length (opCells ll) rfl (PrintWords.pw_own_below H4.out (bl1 (bl1 H2.out _) _)) ⟨w2.heap.size + 1, 0, none⟩ 1 1 [.int .i64 o.kind, .int .i64 o.a, .int .i64 o.b] rfl rfl ?cells (by simp [Value.oneCell']) (by simp [maxLen]; omega) (by omega) (by simp; omega) ?_; (case cells => have hq := cells_three_new (w2.alloc (.cells #[.int .i64 o.kind, .int .i64 o.a, .int .i64 o.b] 50)) (.int .i64 o.kind) (.int .i64 o.a) (.int .i64 o.b) 50; rw [World.size_alloc] at hq; exact hq); intro v' w3 hown' hgrow _; obtain ⟨g', cap', rfl⟩ := ownsRow_succ hown'; obtain ⟨r1, r2, r3⟩ := round_on (B := W0.heap.size) h1 HL.out H3.out H4.out H5.out H6.out H7.out h8 hr H2.out _ _ hown' hgrow; have R1 := Lib.hid r1; have R2 := Lib.hid r2; have R3 := Lib.hid r3; have ⟨c4, f4⟩ := box_now ((hgrow.block _ (Array.getElem?_eq_some_iff.1 (blk (bl1 (bl1 H2.out _) _) H3.out)).1 (fun e => by have := PrintWords.own_base H4.out _ e.symm; omega)).trans (blk (bl1 (bl1 H2.out _) _) H3.out)); clear r1 r2 r3 hown' hgrow)))
      exact ⟨R1.out, R2.out, R3.out⟩
  case done =>
    rintro D W hD hI hK
    obtain ⟨v, ll, h1, h2, h3, h4, h5, h6, h7, h8⟩ := hI
    obtain ⟨A, c, rfl, hc, hops⟩ := ops_of_own h4
    have hll : ll.length ≤ 401 := by have := pieces_count 59 s; omega
    have hp : Bp.parse s = if Bp.bodyOk ll = true ∧ Bp.textOf ll = s then (ll, 0) else ([], 3) := by
      unfold Bp.parse
      rw [if_neg (by omega), if_neg hd, h1]
    have ⟨c3, f3⟩ := box_now h3
    have hT := text_any ll A c W (HG.out.below h7) hops (by omega)
    unfold TextPost at hT
    have HT := Lib.hid hT
    have H3 := Lib.hid h3
    have H5 := Lib.hid h5
    have H6 := Lib.hid h6
    have H7 := Lib.hid h7
    have HK := Lib.hid hK
    have HO := Lib.hid h4
    have HP := Lib.hid hp
    clear hT h1 h2 h3 h4 h5 h6 h7 hK hops hp
    by_cases hok : Bp.bodyOk ll = true ∧ Bp.textOf ll = s
    · have HT' := Lib.hid (by have := HT.out; rw [if_pos hok.1, hok.2] at this; exact this)
      have HP' := Lib.hid (by have := HP.out; rw [if_pos hok] at this; exact this)
      clear HT HP hok
      gi_wp2_with (first
        | (refine ⟨trivial, ?_⟩; gi_at_call 18; go_must (refine (callsIn_wide.2 HT'.out).mono ?_; rintro e w2 ⟨hb2, rfl⟩; have H2 := Lib.hid hb2; have k3 := blk hb2 H3.out; have k5 := blk hb2 H5.out; have k6 := blk hb2 H6.out; have ⟨c3', f3'⟩ := box_now k3; have ⟨c5, f5⟩ := box_now k5; have ⟨c6, f6⟩ := box_now k6; have hsz2 := hb2.size; clear hb2))
        | (refine ⟨trivial, ?_⟩; gi_at_call 19; go_must (refine (callsIn_wide.2 (clip_any A ll.length c hc _)).mono ?_; rintro e w3 ⟨rfl, rfl⟩)))
      have hop := HO.out
      obtain ⟨hKe, e1, e2, hbe, hoe⟩ := parse_end (.slice A ll.length ll.length) (.int .i64 0) H7.out H2.out (by omega) HK.out k5 k6
      obtain ⟨A', c', hv, _, hops'⟩ := ops_of_own (hoe hop)
      obtain ⟨rfl, _⟩ : A = A' ∧ c = c' := by simpa using hv
      refine ⟨by simp, .inl ⟨_, _, rfl, run_takeDeferred hKe, ?_⟩⟩
      refine ⟨.tuple #[.slice A ll.length ll.length, .int .i64 0], by simp [results, Tryd.results6, go_sem, e1, e2], hbe, A, ll.length, ?_⟩
      rw [HP'.out]
      exact ⟨rfl, Nat.le_refl _, hops', row_of_own (hoe hop)⟩
    · have HP' := Lib.hid (by have := HP.out; rw [if_neg hok] at this; exact this)
      clear HP
      by_cases hb : Bp.bodyOk ll = true
      · have hte : (Bp.textOf ll == s) = false := beq_eq_false_iff_ne.2 fun e => hok ⟨hb, e⟩
        have HT' := Lib.hid (by have := HT.out; rw [if_pos hb] at this; exact this)
        clear HT hok hb
        gi_wp2_with (
          (refine ⟨trivial, ?_⟩; gi_at_call 18; go_must (refine (callsIn_wide.2 HT'.out).mono ?_; rintro e w2 ⟨hb2, rfl⟩; have H2 := Lib.hid hb2; have k3 := blk hb2 H3.out; have k5 := blk hb2 H5.out; have k6 := blk hb2 H6.out; have ⟨c3', f3'⟩ := box_now k3; have ⟨c5, f5⟩ := box_now k5; have ⟨c6, f6⟩ := box_now k6; have hsz2 := hb2.size; clear hb2)))
        obtain ⟨hKe, e1, e2, hbe, hoe⟩ := parse_end (.slice none 0 0) (.int .i64 3) H7.out H2.out (by omega) HK.out k5 k6
        refine ⟨by simp, .inl ⟨_, _, rfl, run_takeDeferred hKe, ?_⟩⟩
        exact ⟨.tuple #[.slice none 0 0, .int .i64 3], by simp [results, Tryd.results6, go_sem, e1, e2], none_post HP'.out hbe⟩
      · have HT' := Lib.hid (by have := HT.out; rw [if_neg hb] at this; exact this)
        clear HT hok hb
        gi_wp2_with (
          (refine ⟨trivial, ?_⟩; gi_at_call 18; go_must (refine (callsIn_wide.2 HT'.out).mono ?_; rintro e w2 ⟨hb2, rfl⟩; have H2 := Lib.hid hb2; have k3 := blk hb2 H3.out; have k5 := blk hb2 H5.out; have k6 := blk hb2 H6.out; have ⟨c3', f3'⟩ := box_now k3; have ⟨c5, f5⟩ := box_now k5; have ⟨c6, f6⟩ := box_now k6; have hsz2 := hb2.size; clear hb2)))
        obtain ⟨hKe, e1, e2, hbe, hoe⟩ := parse_end (.slice none 0 0) (.int .i64 3) H7.out H2.out (by omega) HK.out k5 k6
        refine ⟨by simp, .inl ⟨_, _, rfl, run_takeDeferred hKe, ?_⟩⟩
        exact ⟨.tuple #[.slice none 0 0, .int .i64 3], by simp [results, Tryd.results6, go_sem, e1, e2], none_post HP'.out hbe⟩
  case stop =>
    rintro D pre W hD hpre hX hK
    obtain ⟨⟨p, hp, hn⟩, h5, h6, h7⟩ := hX
    have hps : Bp.parse s = ([], 3) := by
      unfold Bp.parse
      rw [if_neg (by omega), if_neg hd, read_all_none (hpre.subset hp) hn]
    have ⟨c5, _⟩ := box_now ((World.putObj_heap_other (by omega)).trans h5 : (W.putObj D (.deferred none)).heap[w.heap.size]? = _)
    have ⟨c6, _⟩ := box_now ((World.putObj_heap_other (by omega)).trans h6 : (W.putObj D (.deferred none)).heap[w.heap.size + 1]? = _)
    gi_wp2
    refine ⟨by simp, .inl ⟨_, _, rfl, run_takeDeferred hK, ?_⟩⟩
    refine ⟨.tuple #[.slice none 0 0, .int .i64 3], by simp [results, Tryd.results6, go_sem, c5, c6], ?_⟩
    exact none_post hps (below_put h7 _ _ (by omega))

/-- body.Parse, at every text. -/
theorem parse_any (s : List UInt8) (w : World) (G : Glob w) : Calls Tryd.prog 6 #[.string (S s)] w (ParsePost s w) := by
  by_cases hs : 400 < s.length
  · exact parse_long s w hs
  · by_cases hd : s = [45]
    · subst hd; exact parse_dash w
    · exact parse_main s w G (by omega) hd
end Go.Proofs.YtllabeiadeclkaaDoor

/-! CmdPut: cmd.put: a word put where it belongs. (Written by gen_put.py.) -/
namespace Go.Proofs.YtllabeiadeclkaaDoor
open Go.RowKit Go.Proofs.YtllabeiadeclkaaDoorW

def cmdCells (c : Cp.C) (A : Option Addr) (cap : Nat) (v : Value) : Array Value := #[.int .i64 c.kind, .int .i64 c.t, .int .i64 c.prio, .int .i64 c.id, .int .u64 c.n, .int .u64 c.m, .slice A c.body.length cap, v]

/-- A command in a block of its own. -/
structure CmdIn (w : World) (base b : Nat) (c : Cp.C) (A : Option Addr) (cap : Nat) (v : Value) : Prop where
  blk : w.heap[b]? = some (.cells (cmdCells c A cap v) 37 (0, 0))
  fits : c.body.length ≤ cap
  ops : OpsAt w A c.body
  row : OpRow w A
  own : w.ownsRow base 3 1 v c.preds.length (PrintWords.nums .i64 c.preds)
def CmdBox (w : World) (base b : Nat) (c : Cp.C) : Prop := ∃ A cap v, CmdIn w base b c A cap v

/-- What lay below base lies as it lay, but for one block. -/
structure But (base b : Nat) (w w' : World) : Prop where
  os : w'.os = w.os
  tape : w'.tape = w.tape
  output : w'.output = w.output
  size : w.heap.size ≤ w'.heap.size
  block : ∀ k, k < base → k ≠ b → w'.heap[k]? = w.heap[k]?
theorem But.refl (base b : Nat) (w : World) : But base b w w := ⟨rfl, rfl, rfl, Nat.le_refl _, fun _ _ _ => rfl⟩
theorem But.trans {base b : Nat} {x y z : World} (h : But base b x y) (k : But base b y z) : But base b x z :=
  ⟨k.os.trans h.os, k.tape.trans h.tape, k.output.trans h.output, Nat.le_trans h.size k.size, fun i h1 h2 => (k.block i h1 h2).trans (h.block i h1 h2)⟩
theorem But.of_below {base b : Nat} {w w' : World} (h : Below w.heap.size w w') (hb : base ≤ w.heap.size) : But base b w w' :=
  ⟨h.os, h.tape, h.output, h.size, fun k h1 _ => h.block k (by omega)⟩
theorem But.set (base b : Nat) (w : World) (i : Nat) (v : Value) : But base b w (w.setCell ⟨b, i, none⟩ v) :=
  ⟨rfl, rfl, rfl, by simp, fun k _ h2 => sc_else h2⟩
theorem But.grown {base b : Nat} {w w' : World} {r : Option Nat} (h : w.grownBy w' r) (hr : ∀ k, r = some k → base ≤ k) (hb : base ≤ w.heap.size) : But base b w w' :=
  ⟨h.os, h.tape, h.output, h.size, fun k h1 _ => h.block k (by omega) (fun e => by have := hr k e.symm; omega)⟩

theorem CmdIn.below {w w' : World} {base b : Nat} {c : Cp.C} {A : Option Addr} {cap : Nat} {v : Value} (h : CmdIn w base b c A cap v) (hb : Below w.heap.size w w') : CmdIn w' base b c A cap v :=
  ⟨Go.Proofs.YtllabeiadeclkaaDoor.blk hb h.blk, h.fits, h.ops.below hb, fun a ha => let ⟨cs, e⟩ := h.row a ha; ⟨cs, Go.Proofs.YtllabeiadeclkaaDoor.blk hb e⟩, PrintWords.pw_own_below h.own hb⟩

theorem opsAt_else {w : World} {b : Nat} {A : Option Addr} {l : List Bp.O} (h : OpsAt w A l) (hne : ∀ a, A = some a → a.block ≠ b) (i : Nat) (x : Value) : OpsAt (w.setCell ⟨b, i, none⟩ x) A l := fun hl => by
  obtain ⟨k, o, rfl, hk, hcell⟩ := h hl
  have hn := hne _ rfl
  refine ⟨k, o, rfl, by simpa using hk, fun j y hy => ?_⟩
  obtain ⟨a0, a1, a2⟩ := hcell j y hy
  have e : ∀ q, (w.setCell ⟨b, i, none⟩ x).cell? ⟨k, q, none⟩ = w.cell? ⟨k, q, none⟩ := fun q => by
    simp only [World.cell?]; rw [sc_else hn]
  exact ⟨(e _).trans a0, (e _).trans a1, (e _).trans a2⟩

/-- The rows of a command lie on where its own block is written. -/
theorem CmdIn.rest {w : World} {base b : Nat} {c : Cp.C} {A : Option Addr} {cap : Nat} {v : Value} (h : CmdIn w base b c A cap v) (i : Nat) (x : Value) (hb : b < base) :
    OpsAt (w.setCell ⟨b, i, none⟩ x) A c.body ∧ OpRow (w.setCell ⟨b, i, none⟩ x) A ∧ (w.setCell ⟨b, i, none⟩ x).ownsRow base 3 1 v c.preds.length (PrintWords.nums .i64 c.preds) := by
  have hne : ∀ a, A = some a → a.block ≠ b := fun a ha e => by
    obtain ⟨cs, hc⟩ := h.row a ha
    rw [e, h.blk] at hc
    simp at hc
  refine ⟨fun hl => ?_, fun a ha => ?_, PrintWords.own_setCell h.own (fun e => by have := PrintWords.own_base h.own _ e.symm; simp at this; omega) x⟩
  · obtain ⟨k, o, rfl, hk, hcell⟩ := h.ops hl
    have hn := hne _ rfl
    refine ⟨k, o, rfl, by simpa using hk, fun j y hy => ?_⟩
    obtain ⟨a0, a1, a2⟩ := hcell j y hy
    have e : ∀ q, (w.setCell ⟨b, i, none⟩ x).cell? ⟨k, q, none⟩ = w.cell? ⟨k, q, none⟩ := fun q => by
      simp only [World.cell?]; rw [sc_else hn]
    exact ⟨(e _).trans a0, (e _).trans a1, (e _).trans a2⟩
  · obtain ⟨cs, hc⟩ := h.row a ha
    exact ⟨cs, (sc_else (hne a ha)).trans hc⟩

/-- A pred more. -/
theorem CmdIn.appended {w w3 : World} {base b : Nat} {c : Cp.C} {A : Option Addr} {cap : Nat} {v v1 : Value} {y : Int} (h : CmdIn w base b c A cap v) (hb : b < base) (hg : w.grownBy w3 v.ownBlock)
    (ho : w3.ownsRow base 3 1 v1 (c.preds ++ [y]).length (PrintWords.nums .i64 (c.preds ++ [y]))) :
    w3.heap[b]? = some (.cells (cmdCells c A cap v) 37 (0, 0)) ∧ CmdIn (w3.setCell ⟨b, 7, none⟩ v1) base b { c with preds := c.preds ++ [y] } A cap v1 := by
  have e0 : w3.heap[b]? = some (.cells (cmdCells c A cap v) 37 (0, 0)) :=
    (hg.block b (Array.getElem?_eq_some_iff.1 h.blk).1 (fun e => by have := PrintWords.own_base h.own b e.symm; omega)).trans h.blk
  have hr : OpRow w3 A := fun a ha => by
    obtain ⟨cs, hc⟩ := h.row a ha
    refine ⟨cs, (hg.block a.block (Array.getElem?_eq_some_iff.1 hc).1 (fun e => ?_)).trans hc⟩
    rcases h.own.2 with ⟨rfl, _⟩ | ⟨g, cap', cur, rfl, _, hgb, _⟩
    · simp [Value.ownBlock] at e
    · obtain rfl : a.block = g := by simpa [Value.ownBlock] using e
      rw [hc] at hgb; simp at hgb
  have hops : OpsAt w3 A c.body := fun hl => by
    obtain ⟨k, o, rfl, hk, hcell⟩ := h.ops hl
    obtain ⟨cs, hc⟩ := h.row _ rfl
    obtain ⟨cs3, hc3⟩ := hr _ rfl
    have hs : w3.heap[k]? = w.heap[k]? := hg.block k hk (fun e => by
      rcases h.own.2 with ⟨rfl, _⟩ | ⟨g, cap', cur, rfl, _, hgb, _⟩
      · simp [Value.ownBlock] at e
      · obtain rfl : k = g := by simpa [Value.ownBlock] using e
        rw [hc] at hgb; simp at hgb)
    refine ⟨k, o, rfl, Nat.lt_of_lt_of_le hk hg.size, fun j x hx => ?_⟩
    obtain ⟨a0, a1, a2⟩ := hcell j x hx
    have e : ∀ q, w3.cell? ⟨k, q, none⟩ = w.cell? ⟨k, q, none⟩ := fun q => by simp only [World.cell?]; rw [hs]
    exact ⟨(e _).trans a0, (e _).trans a1, (e _).trans a2⟩
  have hne : ∀ a, A = some a → a.block ≠ b := fun a ha e => by
    obtain ⟨cs, hc⟩ := hr a ha
    rw [e, e0] at hc
    simp at hc
  refine ⟨e0, by rw [sc_block e0]; rfl, h.fits, opsAt_else hops hne 7 _, fun a ha => ?_, PrintWords.own_setCell ho (fun e => by have := PrintWords.own_base ho _ e.symm; simp at this; omega) v1⟩
  obtain ⟨cs, hc⟩ := hr a ha
  exact ⟨cs, (sc_else (hne a ha)).trans hc⟩

/-- What cmd.number comes to, with its answer as a Bool. -/
theorem number_ok (s : List UInt8) (m : Nat) (hm : m ≤ 18) (w : World) (G : Glob w) (hs : s.length ≤ 281474976710656) :
    Calls Tryd.prog 64 #[.string (S s), .int .i64 m] w fun e w' => ∃ (u : Nat) (ok : Bool), e = .returned (.tuple #[.int .u64 u, .bool ok]) ∧ Below w.heap.size w w' ∧ ((∃ n, Bp.number m s = some n ∧ u = n ∧ ok = true) ∨ (Bp.number m s = none ∧ ok = false)) := by
  refine (number_any s m hm w G hs).mono ?_
  rintro e w' ⟨hb, u, h⟩
  cases hn : Bp.number m s with
  | none => rw [hn] at h; exact ⟨u, false, h, hb, .inr ⟨rfl, rfl⟩⟩
  | some n => rw [hn] at h; exact ⟨n, true, h, hb, .inl ⟨n, rfl, rfl, rfl⟩⟩

theorem infoInt : (Tryd.prog.info? 3).map (fun i => (i.zero, i.size, i.bytes)) = some (some (.int .i64 0), 1, 8) := by kernel_rfl

/-- What cmd.put comes to. -/
def PutPost (c : Cp.C) (what : Int) (s : List UInt8) (base b : Nat) (w : World) (e : Ending) (w' : World) : Prop :=
  But base b w w' ∧ match Cp.put c what s with
    | some c' => e = .returned (.bool true) ∧ CmdBox w' base b c'
    | none => e = .returned (.bool false)

theorem cell8 {w : World} {b : Nat} {cs : Array Value} {t : TypeId} (h : w.heap[b]? = some (.cells cs t (0, 0))) (i : Nat) {v : Value} (hv : cs[i]? = some v) : w.cell? ⟨b, i, none⟩ = some v ∧ w.frozen? ⟨b, i, none⟩ = false :=
  ⟨(cell_blk h i).trans hv, frozen_blk h i⟩

set_option maxRecDepth 100000 in
set_option maxHeartbeats 1600000 in
theorem put_n (c : Cp.C) (s : List UInt8) (base b : Nat) (w : World) (G : Glob w) (hbox : CmdBox w base b c) (hb : b < base) (hbase : base ≤ w.heap.size) (hs : s.length ≤ 1000) :
    Calls Tryd.prog 43 #[.pointer (some ⟨b, 0, none⟩), .int .i64 4, .string (S s)] w (PutPost c 4 s base b w) := by
  obtain ⟨A, cap, v, hin⟩ := hbox
  have HI := Lib.hid hin
  have HNum := Lib.hid (number_ok s 18 (by omega) w G (by omega))
  clear hin G
  go_enter Tryd.func43, Tryd.ntmps43
  go_wp2_with (go_at_call 64; go_must (refine HNum.out.mono ?_; rintro e w1 ⟨u, ok, rfl, hb1, hcase⟩; have HC := Lib.hid hcase; have HI1 := Lib.hid (HI.out.below hb1); have HB := Lib.hid (But.of_below (b := b) hb1 hbase); have ⟨c4, f4⟩ := cell8 HI1.out.blk 4 rfl; clear hcase hb1))
  go_ret
  refine ⟨HB.out.trans (But.set _ _ _ _ _), ?_⟩
  rcases HC.out with ⟨n, hn, rfl, rfl⟩ | ⟨hn, rfl⟩
  · have hp : Cp.put c 4 s = some { c with n := (u : Int) } := by simp [Cp.put, hn]
    rw [hp]
    obtain ⟨r1, r2, r3⟩ := HI1.out.rest 4 (.int .u64 (u : Int)) hb
    refine ⟨rfl, A, cap, v, ?_, HI1.out.fits, r1, r2, r3⟩
    rw [sc_block HI1.out.blk]; rfl
  · have hp : Cp.put c 4 s = none := by simp [Cp.put, hn]
    rw [hp]
    rfl

set_option maxRecDepth 100000 in
set_option maxHeartbeats 1600000 in
theorem put_m (c : Cp.C) (s : List UInt8) (base b : Nat) (w : World) (G : Glob w) (hbox : CmdBox w base b c) (hb : b < base) (hbase : base ≤ w.heap.size) (hs : s.length ≤ 1000) :
    Calls Tryd.prog 43 #[.pointer (some ⟨b, 0, none⟩), .int .i64 5, .string (S s)] w (PutPost c 5 s base b w) := by
  obtain ⟨A, cap, v, hin⟩ := hbox
  have HI := Lib.hid hin
  have HNum := Lib.hid (number_ok s 18 (by omega) w G (by omega))
  clear hin G
  go_enter Tryd.func43, Tryd.ntmps43
  go_wp2_with (go_at_call 64; go_must (refine HNum.out.mono ?_; rintro e w1 ⟨u, ok, rfl, hb1, hcase⟩; have HC := Lib.hid hcase; have HI1 := Lib.hid (HI.out.below hb1); have HB := Lib.hid (But.of_below (b := b) hb1 hbase); have ⟨c5, f5⟩ := cell8 HI1.out.blk 5 rfl; clear hcase hb1))
  go_ret
  refine ⟨HB.out.trans (But.set _ _ _ _ _), ?_⟩
  rcases HC.out with ⟨n, hn, rfl, rfl⟩ | ⟨hn, rfl⟩
  · have hp : Cp.put c 5 s = some { c with m := (u : Int) } := by simp [Cp.put, hn]
    rw [hp]
    obtain ⟨r1, r2, r3⟩ := HI1.out.rest 5 (.int .u64 (u : Int)) hb
    refine ⟨rfl, A, cap, v, ?_, HI1.out.fits, r1, r2, r3⟩
    rw [sc_block HI1.out.blk]; rfl
  · have hp : Cp.put c 5 s = none := by simp [Cp.put, hn]
    rw [hp]
    rfl

set_option maxRecDepth 100000 in
set_option maxHeartbeats 1600000 in
theorem put_t (c : Cp.C) (s : List UInt8) (base b : Nat) (w : World) (G : Glob w) (hbox : CmdBox w base b c) (hb : b < base) (hbase : base ≤ w.heap.size) (hs : s.length ≤ 1000) :
    Calls Tryd.prog 43 #[.pointer (some ⟨b, 0, none⟩), .int .i64 1, .string (S s)] w (PutPost c 1 s base b w) := by
  obtain ⟨A, cap, v, hin⟩ := hbox
  have HI := Lib.hid hin
  have HNum := Lib.hid (number_ok s 4 (by omega) w G (by omega))
  clear hin G
  go_enter Tryd.func43, Tryd.ntmps43
  go_wp2_with (go_at_call 64; go_must (refine HNum.out.mono ?_; rintro e w1 ⟨u, ok, rfl, hb1, hcase⟩; have HC := Lib.hid hcase; have HI1 := Lib.hid (HI.out.below hb1); have HB := Lib.hid (But.of_below (b := b) hb1 hbase); have ⟨c1, f1⟩ := cell8 HI1.out.blk 1 rfl; clear hcase hb1))
  go_ret
  refine ⟨HB.out.trans (But.set _ _ _ _ _), ?_⟩
  rcases HC.out with ⟨n, hn, rfl, rfl⟩ | ⟨hn, rfl⟩
  · have hp : Cp.put c 1 s = some { c with t := (u : Int) } := by simp [Cp.put, hn]
    rw [hp]
    have hw : wrap64 (u : Int) = u := by have := (number_mag (by omega) hn).2.2.2; unfold wrap64; omega
    rw [hw]
    obtain ⟨r1, r2, r3⟩ := HI1.out.rest 1 (.int .i64 (u : Int)) hb
    refine ⟨rfl, A, cap, v, ?_, HI1.out.fits, r1, r2, r3⟩
    rw [sc_block HI1.out.blk]; rfl
  · have hp : Cp.put c 1 s = none := by simp [Cp.put, hn]
    rw [hp]
    rfl

set_option maxRecDepth 100000 in
set_option maxHeartbeats 1600000 in
theorem put_prio (c : Cp.C) (s : List UInt8) (base b : Nat) (w : World) (G : Glob w) (hbox : CmdBox w base b c) (hb : b < base) (hbase : base ≤ w.heap.size) (hs : s.length ≤ 1000) :
    Calls Tryd.prog 43 #[.pointer (some ⟨b, 0, none⟩), .int .i64 2, .string (S s)] w (PutPost c 2 s base b w) := by
  obtain ⟨A, cap, v, hin⟩ := hbox
  have HI := Lib.hid hin
  have HNum := Lib.hid (number_ok s 4 (by omega) w G (by omega))
  clear hin G
  go_enter Tryd.func43, Tryd.ntmps43
  go_wp2_with (go_at_call 64; go_must (refine HNum.out.mono ?_; rintro e w1 ⟨u, ok, rfl, hb1, hcase⟩; have HC := Lib.hid hcase; have HI1 := Lib.hid (HI.out.below hb1); have HB := Lib.hid (But.of_below (b := b) hb1 hbase); have ⟨c2, f2⟩ := cell8 HI1.out.blk 2 rfl; clear hcase hb1))
  go_ret
  refine ⟨HB.out.trans (But.set _ _ _ _ _), ?_⟩
  rcases HC.out with ⟨n, hn, rfl, rfl⟩ | ⟨hn, rfl⟩
  · have hp : Cp.put c 2 s = some { c with prio := (u : Int) } := by simp [Cp.put, hn]
    rw [hp]
    have hw : wrap64 (u : Int) = u := by have := (number_mag (by omega) hn).2.2.2; unfold wrap64; omega
    rw [hw]
    obtain ⟨r1, r2, r3⟩ := HI1.out.rest 2 (.int .i64 (u : Int)) hb
    refine ⟨rfl, A, cap, v, ?_, HI1.out.fits, r1, r2, r3⟩
    rw [sc_block HI1.out.blk]; rfl
  · have hp : Cp.put c 2 s = none := by simp [Cp.put, hn]
    rw [hp]
    rfl

set_option maxRecDepth 100000 in
set_option maxHeartbeats 1600000 in
theorem put_id (c : Cp.C) (s : List UInt8) (base b : Nat) (w : World) (G : Glob w) (hbox : CmdBox w base b c) (hb : b < base) (hbase : base ≤ w.heap.size) (hs : s.length ≤ 1000) :
    Calls Tryd.prog 43 #[.pointer (some ⟨b, 0, none⟩), .int .i64 3, .string (S s)] w (PutPost c 3 s base b w) := by
  obtain ⟨A, cap, v, hin⟩ := hbox
  have HI := Lib.hid hin
  have HNum := Lib.hid (number_ok s 4 (by omega) w G (by omega))
  clear hin G
  go_enter Tryd.func43, Tryd.ntmps43
  go_wp2_with (go_at_call 64; go_must (refine HNum.out.mono ?_; rintro e w1 ⟨u, ok, rfl, hb1, hcase⟩; have HC := Lib.hid hcase; have HI1 := Lib.hid (HI.out.below hb1); have HB := Lib.hid (But.of_below (b := b) hb1 hbase); have ⟨c3, f3⟩ := cell8 HI1.out.blk 3 rfl; clear hcase hb1))
  go_ret
  refine ⟨HB.out.trans (But.set _ _ _ _ _), ?_⟩
  rcases HC.out with ⟨n, hn, rfl, rfl⟩ | ⟨hn, rfl⟩
  · have hp : Cp.put c 3 s = some { c with id := (u : Int) } := by simp [Cp.put, hn]
    rw [hp]
    have hw : wrap64 (u : Int) = u := by have := (number_mag (by omega) hn).2.2.2; unfold wrap64; omega
    rw [hw]
    obtain ⟨r1, r2, r3⟩ := HI1.out.rest 3 (.int .i64 (u : Int)) hb
    refine ⟨rfl, A, cap, v, ?_, HI1.out.fits, r1, r2, r3⟩
    rw [sc_block HI1.out.blk]; rfl
  · have hp : Cp.put c 3 s = none := by simp [Cp.put, hn]
    rw [hp]
    rfl

theorem spaced_eq (s : List UInt8) : Cp.spaced s = mapB 44 32 s := rfl

set_option maxRecDepth 100000 in
set_option maxHeartbeats 1600000 in
theorem put_body (c : Cp.C) (s : List UInt8) (base b : Nat) (w : World) (G : Glob w) (hbox : CmdBox w base b c) (hb : b < base) (hbase : base ≤ w.heap.size) (hs : s.length ≤ 1000) :
    Calls Tryd.prog 43 #[.pointer (some ⟨b, 0, none⟩), .int .i64 6, .string (S s)] w (PutPost c 6 s base b w) := by
  obtain ⟨A, cap, v, hin⟩ := hbox
  have HI := Lib.hid hin
  have HR := Lib.hid (replace_any 44 32 (by decide) s (by omega) w G)
  have HG := Lib.hid G
  clear hin G
  have HP : Hid (∀ W, Glob W → Calls Tryd.prog 6 #[.string (S (mapB 44 32 s))] W (ParsePost (mapB 44 32 s) W)) := Lib.hid fun W g => parse_any _ W g
  have hput : Cp.put c 6 s = if (Bp.parse (mapB 44 32 s)).2 = 0 ∧ (32 : UInt8) ∉ s then some { c with body := (Bp.parse (mapB 44 32 s)).1 } else none := by unfold Cp.put; rw [if_pos rfl]; rfl
  have HQ := Lib.hid hput
  clear hput
  unfold ParsePost at HP
  generalize (Bp.parse (mapB 44 32 s)).2 = er at *
  generalize (Bp.parse (mapB 44 32 s)).1 = bl at *
  have HC : Hid (∀ W, Calls Tryd.prog 63 #[.string (S s), .string ⟨#[32]⟩] W fun e w' => e = .returned (.bool (decide ((32 : UInt8) ∈ s))) ∧ w' = W) := Lib.hid fun W => contains_any 32 s W
  generalize hct : decide ((32 : UInt8) ∈ s) = ct at HC
  have HCT := Lib.hid hct
  clear hct
  by_cases her : er = 0
  · subst her
    go_enter Tryd.func43, Tryd.ntmps43
    go_wp2_with (first
      | (go_at_call 62; go_must (refine HR.out.mono ?_; rintro e w1 ⟨rfl, hb1⟩; have HB1 := Lib.hid hb1; clear hb1))
      | (go_at_call 6; go_must (refine (HP.out _ (HG.out.below HB1.out)).mono ?_; rintro e w2 ⟨hb2, A2, cap2, rfl, hf2, ho2, hr2⟩; have HB2 := Lib.hid (bl3 HB1.out hb2); have HI2 := Lib.hid (HI.out.below HB2.out); have HO2 := Lib.hid ho2; have HR2 := Lib.hid hr2; have ⟨c6, f6⟩ := cell8 HI2.out.blk 6 rfl; clear hb2 ho2 hr2))
      | (go_at_call 63; go_must (refine (HC.out _).mono ?_; rintro e w3 ⟨rfl, rfl⟩)))
    go_ret
    have hbut := (But.of_below (b := b) HB2.out hbase).trans (But.set base b _ 6 (.slice A2 bl.length cap2))
    cases ct with
    | false =>
      refine ⟨hbut, ?_⟩
      rw [HQ.out, if_pos (by simpa using HCT.out)]
      obtain ⟨_, _, r3⟩ := HI2.out.rest 6 (.slice A2 bl.length cap2) hb
      have hne : ∀ a, A2 = some a → a.block ≠ b := fun a ha e => by
        obtain ⟨cs, hc⟩ := HR2.out a ha
        rw [e, HI2.out.blk] at hc
        simp at hc
      refine ⟨rfl, A2, cap2, v, by rw [sc_block HI2.out.blk]; rfl, hf2, opsAt_else HO2.out hne 6 _, fun a ha => ?_, r3⟩
      obtain ⟨cs, hc⟩ := HR2.out a ha
      exact ⟨cs, (sc_else (hne a ha)).trans hc⟩
    | true =>
      refine ⟨hbut, ?_⟩
      rw [HQ.out, if_neg (fun h => h.2 (by simpa using HCT.out))]
      rfl
  · have her' : (er == 0) = false := beq_eq_false_iff_ne.2 her
    go_enter Tryd.func43, Tryd.ntmps43
    go_wp2_with (first
      | (go_at_call 62; go_must (refine HR.out.mono ?_; rintro e w1 ⟨rfl, hb1⟩; have HB1 := Lib.hid hb1; clear hb1))
      | (go_at_call 6; go_must (refine (HP.out _ (HG.out.below HB1.out)).mono ?_; rintro e w2 ⟨hb2, A2, cap2, rfl, hf2, ho2, hr2⟩; have HB2 := Lib.hid (bl3 HB1.out hb2); have HI2 := Lib.hid (HI.out.below HB2.out); have HO2 := Lib.hid ho2; have HR2 := Lib.hid hr2; have ⟨c6, f6⟩ := cell8 HI2.out.blk 6 rfl; clear hb2 ho2 hr2))
      | (go_at_call 63; go_must (refine (HC.out _).mono ?_; rintro e w3 ⟨rfl, rfl⟩)))
    go_ret
    refine ⟨(But.of_below (b := b) HB2.out hbase).trans (But.set base b _ 6 _), ?_⟩
    rw [HQ.out, if_neg (fun h => her h.1)]
    rfl

set_option maxRecDepth 100000 in
set_option maxHeartbeats 1600000 in
theorem put_preds (c : Cp.C) (s : List UInt8) (base b : Nat) (w : World) (G : Glob w) (hbox : CmdBox w base b c) (hb : b < base) (hbase : base ≤ w.heap.size) (hs : s.length ≤ 1000) (hpl : c.preds.length ≤ 16) :
    Calls Tryd.prog 43 #[.pointer (some ⟨b, 0, none⟩), .int .i64 7, .string (S s)] w (PutPost c 7 s base b w) := by
  obtain ⟨A, cap, v, hin⟩ := hbox
  have HI := Lib.hid hin
  have HNum := Lib.hid (number_ok s 4 (by omega) w G (by omega))
  clear hin G
  go_enter Tryd.func43, Tryd.ntmps43
  go_wp2_with (first
    | (go_at_call 64; go_must (refine HNum.out.mono ?_; rintro e w1 ⟨u, ok, rfl, hb1, hcase⟩; have HC := Lib.hid hcase; have HI1 := Lib.hid (HI.out.below hb1); have HB := Lib.hid (But.of_below (b := b) hb1 hbase); have ⟨c7, f7⟩ := cell8 HI1.out.blk 7 rfl; clear hcase hb1))
    | (at_builtin; go_must (refine PrintWords.print_append_num (w0 := w1) base rfl _ _ 35 3 .i64 8 rfl rfl infoInt (by decide) v c.preds (wrap64 (u : Int)) rfl rfl HI1.out.own (Below.refl base w1) (Nat.le_trans hbase HB.out.size) (by omega) ?_; rintro v1 w3 hown3 hb3 hgr hat; obtain ⟨q1, q2⟩ := HI1.out.appended hb hgr hown3; rw [List.length_append] at hown3; obtain ⟨g', cap', rfl⟩ := ownsRow_succ hown3; have Q2 := Lib.hid q2; have HB3 := Lib.hid ((But.grown (b := b) hgr (fun k e => PrintWords.own_base HI1.out.own k e) (Nat.le_trans hbase HB.out.size))); have ⟨c7', f7'⟩ := cell8 q1 7 rfl; clear q1 q2 hown3 hb3 hgr hat)))
  · go_ret
    refine ⟨(HB.out.trans HB3.out).trans (But.set _ _ _ _ _), ?_⟩
    rcases HC.out with ⟨n, hn, hu, hok⟩ | ⟨hn, hok⟩
    · subst hu
      have hw : wrap64 (u : Int) = u := by have := (number_mag (by omega) hn).2.2.2; unfold wrap64; omega
      by_cases h16 : c.preds.length + 1 ≤ 16
      · have hp : Cp.put c 7 s = some { c with preds := c.preds ++ [(u : Int)] } := by simp [Cp.put, hn]; omega
        rw [hp]
        refine ⟨?_, A, cap, _, hw ▸ Q2.out⟩
        have : decide ((c.preds.length : Int) + 1 ≤ 16) = true := decide_eq_true (by omega)
        show Ending.returned (Value.bool _) = _
        rw [this]
      · have hp : Cp.put c 7 s = none := by simp [Cp.put, hn]; omega
        rw [hp]
        have : decide ((c.preds.length : Int) + 1 ≤ 16) = false := decide_eq_false (by omega)
        show Ending.returned (Value.bool _) = _
        rw [this]
    · subst hok; contradiction
  · go_ret
    refine ⟨(HB.out.trans HB3.out).trans (But.set _ _ _ _ _), ?_⟩
    rcases HC.out with ⟨n, hn, hu, hok⟩ | ⟨hn, hok⟩
    · subst hok; contradiction
    · have hp : Cp.put c 7 s = none := by simp [Cp.put, hn]
      rw [hp]
      rfl
end Go.Proofs.YtllabeiadeclkaaDoor

/-! CmdMaps: cmd.places: the map of what stands where. -/
namespace Go.Proofs.YtllabeiadeclkaaDoor
open Go.RowKit Pm

theorem pairKey85 : PairKey Tryd.prog 85 3 where
  arr := Tryd.underlying85
  int := Tryd.underlying3
  size := fun w => by kernel_rfl
  noagg := fun w => by kernel_rfl

def placesDs : List D := [.mk, .val (pk (1, 0)), .ins (1, 0) (.int .i64 1), .val (pk (1, 1)), .ins (1, 1) (.int .i64 2), .val (pk (1, 2)), .ins (1, 2) (.int .i64 6), .val (pk (1, 3)), .ins (1, 3) (.int .i64 7), .val (pk (2, 0)), .ins (2, 0) (.int .i64 1), .val (pk (2, 1)), .ins (2, 1) (.int .i64 2), .val (pk (2, 2)), .ins (2, 2) (.int .i64 6), .val (pk (2, 3)), .ins (2, 3) (.int .i64 4), .val (pk (3, 0)), .ins (3, 0) (.int .i64 1), .val (pk (3, 1)), .ins (3, 1) (.int .i64 2), .val (pk (3, 2)), .ins (3, 2) (.int .i64 6), .val (pk (3, 3)), .ins (3, 3) (.int .i64 4), .val (pk (3, 4)), .ins (3, 4) (.int .i64 5), .val (pk (4, 0)), .ins (4, 0) (.int .i64 3), .val (pk (9, 0)), .ins (9, 0) (.int .i64 3), .val (pk (5, 0)), .ins (5, 0) (.int .i64 1), .val (pk (5, 1)), .ins (5, 1) (.int .i64 4), .val (pk (6, 0)), .ins (6, 0) (.int .i64 5), .val (pk (6, 1)), .ins (6, 1) (.int .i64 4), .val (pk (7, 0)), .ins (7, 0) (.int .i64 4), .val (pk (8, 0)), .ins (8, 0) (.int .i64 4), .val (pk (8, 1)), .ins (8, 1) (.int .i64 5), .val (pk (11, 0)), .ins (11, 0) (.int .i64 4), .mv, .mv]

set_option maxRecDepth 100000 in
set_option maxHeartbeats 1600000 in
theorem places_any (w : World) : Calls Tryd.prog 42 #[] w fun e w' =>
    ∃ l, IsLit l (litOf placesDs) ∧ e = .returned (.map (some w.heap.size)) ∧ w' = (w.alloc (.map (ents l) l.length)).drew := by
  go_enter Tryd.func42, Tryd.ntmps42
  go_wp2
  refine wp_lit (ds := placesDs) (LitRegion.of (I := 3) 0 rfl ?_ (of_decide_eq_true (by kernel_rfl)) (by kernel_rfl) rfl (by decide) (by decide)) pairKey85 Tryd.underlying83 (by kernel_rfl) ?_ ?_
  · simp only [placesDs, List.zip_cons_cons, List.zip_nil_right, List.forall_mem_cons]
    refine ⟨⟨rfl, rfl⟩, ⟨rfl, fun _ _ => by kernel_rfl⟩, ⟨rfl, rfl, _, _, _, rfl, rfl, rfl, .inl rfl⟩, ⟨rfl, fun _ _ => by kernel_rfl⟩, ⟨rfl, rfl, _, _, _, rfl, rfl, rfl, .inl rfl⟩, ⟨rfl, fun _ _ => by kernel_rfl⟩, ⟨rfl, rfl, _, _, _, rfl, rfl, rfl, .inl rfl⟩, ⟨rfl, fun _ _ => by kernel_rfl⟩, ⟨rfl, rfl, _, _, _, rfl, rfl, rfl, .inl rfl⟩, ⟨rfl, fun _ _ => by kernel_rfl⟩, ⟨rfl, rfl, _, _, _, rfl, rfl, rfl, .inl rfl⟩, ⟨rfl, fun _ _ => by kernel_rfl⟩, ⟨rfl, rfl, _, _, _, rfl, rfl, rfl, .inl rfl⟩, ⟨rfl, fun _ _ => by kernel_rfl⟩, ⟨rfl, rfl, _, _, _, rfl, rfl, rfl, .inl rfl⟩, ⟨rfl, fun _ _ => by kernel_rfl⟩, ⟨rfl, rfl, _, _, _, rfl, rfl, rfl, .inl rfl⟩, ⟨rfl, fun _ _ => by kernel_rfl⟩, ⟨rfl, rfl, _, _, _, rfl, rfl, rfl, .inl rfl⟩, ⟨rfl, fun _ _ => by kernel_rfl⟩, ⟨rfl, rfl, _, _, _, rfl, rfl, rfl, .inl rfl⟩, ⟨rfl, fun _ _ => by kernel_rfl⟩, ⟨rfl, rfl, _, _, _, rfl, rfl, rfl, .inl rfl⟩, ⟨rfl, fun _ _ => by kernel_rfl⟩, ⟨rfl, rfl, _, _, _, rfl, rfl, rfl, .inl rfl⟩, ⟨rfl, fun _ _ => by kernel_rfl⟩, ⟨rfl, rfl, _, _, _, rfl, rfl, rfl, .inl rfl⟩, ⟨rfl, fun _ _ => by kernel_rfl⟩, ⟨rfl, rfl, _, _, _, rfl, rfl, rfl, .inl rfl⟩, ⟨rfl, fun _ _ => by kernel_rfl⟩, ⟨rfl, rfl, _, _, _, rfl, rfl, rfl, .inl rfl⟩, ⟨rfl, fun _ _ => by kernel_rfl⟩, ⟨rfl, rfl, _, _, _, rfl, rfl, rfl, .inl rfl⟩, ⟨rfl, fun _ _ => by kernel_rfl⟩, ⟨rfl, rfl, _, _, _, rfl, rfl, rfl, .inl rfl⟩, ⟨rfl, fun _ _ => by kernel_rfl⟩, ⟨rfl, rfl, _, _, _, rfl, rfl, rfl, .inl rfl⟩, ⟨rfl, fun _ _ => by kernel_rfl⟩, ⟨rfl, rfl, _, _, _, rfl, rfl, rfl, .inl rfl⟩, ⟨rfl, fun _ _ => by kernel_rfl⟩, ⟨rfl, rfl, _, _, _, rfl, rfl, rfl, .inl rfl⟩, ⟨rfl, fun _ _ => by kernel_rfl⟩, ⟨rfl, rfl, _, _, _, rfl, rfl, rfl, .inl rfl⟩, ⟨rfl, fun _ _ => by kernel_rfl⟩, ⟨rfl, rfl, _, _, _, rfl, rfl, rfl, .inl rfl⟩, ⟨rfl, fun _ _ => by kernel_rfl⟩, ⟨rfl, rfl, _, _, _, rfl, rfl, rfl, .inl rfl⟩, ⟨rfl, _, .inl rfl, .inl rfl⟩, ⟨rfl, _, .inr rfl, .inr rfl⟩, fun _ h => by cases h⟩
  · exact dst_small _ _ (by kernel_rfl)
  · intro l hl
    simp only [putL, putV, placesDs, List.zip_cons_cons, List.zip_nil_right, dval, if_true, List.setIfInBounds_toArray, List.set_cons_zero, List.set_cons_succ]
    go_wp2
    go_ret
    exact ⟨l, hl, rfl, rfl⟩
end Go.Proofs.YtllabeiadeclkaaDoor

/-! CmdFill: cmd.fill: a command filled by words. -/
namespace Go.Proofs.YtllabeiadeclkaaDoor
open Go.RowKit Pm Go.Proofs.YtllabeiadeclkaaDoorW

theorem lit_places : litOf placesDs = Cp.placesL.map fun x => (x.1, .int .i64 x.2) := by rfl

theorem place_find {l : List ((Int × Int) × Value)} (h : IsLit l (litOf placesDs)) (k i : Int) :
    (∃ j, findP (k, i) l 0 = some (j, .int .i64 (Cp.place k i)) ∧ Cp.place k i ≠ 0) ∨ (findP (k, i) l 0 = none ∧ Cp.place k i = 0) := by
  rw [lit_places] at h
  cases hf : Cp.placesL.find? (fun x => x.1 == (k, i)) with
  | some x =>
    left
    have hx := List.find?_some hf
    have hm := List.mem_of_find?_eq_some hf
    have he : x.1 = (k, i) := by simpa using hx
    have hp : Cp.place k i = x.2 := by unfold Cp.place; rw [hf]
    obtain ⟨j, hj⟩ := h.some (x := (k, i)) (v := .int .i64 x.2) (List.mem_map.2 ⟨x, hm, by rw [he]⟩)
    refine ⟨j, by rw [hj, hp], ?_⟩
    rw [hp]
    have : ∀ y ∈ Cp.placesL, y.2 ≠ 0 := by decide
    exact this x hm
  | none =>
    right
    have hp : Cp.place k i = 0 := by unfold Cp.place; rw [hf]
    refine ⟨h.none (x := (k, i)) ?_, hp⟩
    rw [List.map_map]
    intro hm
    obtain ⟨y, hy, he⟩ := List.mem_map.1 hm
    have := List.find?_eq_none.1 hf y hy
    simp at this
    exact this (by simpa using he)

theorem place_at {l : List ((Int × Int) × Value)} (h : IsLit l (litOf placesDs)) (k i : Int) :
    (match findP (k, i) l 0 with | some (_, v) => v | none => Value.int .i64 0) = .int .i64 (Cp.place k i) := by
  rcases place_find h k i with ⟨j, hj, _⟩ | ⟨hj, hp⟩
  · rw [hj]
  · rw [hj, hp]
theorem place_ok {l : List ((Int × Int) × Value)} (h : IsLit l (litOf placesDs)) (k i : Int) :
    (match findP (k, i) l 0 with | some (_, v) => Value.tuple #[v, .bool true] | none => .tuple #[.int .i64 0, .bool false]) = .tuple #[.int .i64 (Cp.place k i), .bool (!(Cp.place k i == 0))] := by
  rcases place_find h k i with ⟨j, hj, hne⟩ | ⟨hj, hp⟩
  · rw [hj, show (Cp.place k i == 0) = false from beq_eq_false_iff_ne.2 hne]; rfl
  · rw [hj, hp]; rfl
theorem zeroInt (w : World) : (zeroValue 3).run Tryd.prog w = .ok (.int .i64 0) w := by kernel_rfl

theorem place_range (k i : Int) : 0 ≤ Cp.place k i ∧ Cp.place k i ≤ 7 := by
  unfold Cp.place
  cases hf : Cp.placesL.find? (fun x => x.1 == (k, i)) with
  | none => simp
  | some x =>
    have : ∀ y ∈ Cp.placesL, 0 ≤ y.2 ∧ y.2 ≤ 7 := by decide
    exact this x (List.mem_of_find?_eq_some hf)

theorem put_len {c c' : Cp.C} {what : Int} {s : List UInt8} (h : Cp.put c what s = some c') (hl : c.preds.length ≤ 16) : c'.preds.length ≤ 16 := by
  unfold Cp.put at h
  repeat' split at h
  all_goals first
    | (cases h; done)
    | (simp only [Option.some.injEq] at h; subst h; simp; omega)
    | (simp only [Option.some.injEq] at h; subst h; exact hl)
    | (obtain ⟨n, _, rfl⟩ := Option.map_eq_some_iff.1 h; exact hl)

set_option maxRecDepth 100000 in
set_option maxHeartbeats 1600000 in
theorem put_zero (c : Cp.C) (s : List UInt8) (base b : Nat) (w : World) (G : Glob w) (hb : b < base) (hbase : base ≤ w.heap.size) (hs : s.length ≤ 1000) :
    Calls Tryd.prog 43 #[.pointer (some ⟨b, 0, none⟩), .int .i64 0, .string (S s)] w (PutPost c 0 s base b w) := by
  have HNum := Lib.hid (number_ok s 4 (by omega) w G (by omega))
  clear G
  have hp : Cp.put c 0 s = none := by simp [Cp.put]; cases Bp.number 4 s <;> rfl
  have HP := Lib.hid hp
  clear hp
  go_enter Tryd.func43, Tryd.ntmps43
  go_wp2_with (go_at_call 64; go_must (refine HNum.out.mono ?_; rintro e w1 ⟨u, ok, rfl, hb1, hcase⟩; have HB := Lib.hid (But.of_below (b := b) hb1 hbase); clear hcase hb1))
  go_ret
  refine ⟨HB.out, ?_⟩
  rw [HP.out]
  rfl

theorem put_any (c : Cp.C) (k i : Int) (s : List UInt8) (base b : Nat) (w : World) (G : Glob w) (hbox : CmdBox w base b c) (hb : b < base) (hbase : base ≤ w.heap.size) (hs : s.length ≤ 1000) (hpl : c.preds.length ≤ 16) :
    Calls Tryd.prog 43 #[.pointer (some ⟨b, 0, none⟩), .int .i64 (Cp.place k i), .string (S s)] w (PutPost c (Cp.place k i) s base b w) := by
  obtain ⟨h0, h7⟩ := place_range k i
  generalize Cp.place k i = what at *
  rcases (show what = 0 ∨ what = 1 ∨ what = 2 ∨ what = 3 ∨ what = 4 ∨ what = 5 ∨ what = 6 ∨ what = 7 by omega) with rfl | rfl | rfl | rfl | rfl | rfl | rfl | rfl
  · exact put_zero c s base b w G hb hbase hs
  · exact put_t c s base b w G hbox hb hbase hs
  · exact put_prio c s base b w G hbox hb hbase hs
  · exact put_id c s base b w G hbox hb hbase hs
  · exact put_n c s base b w G hbox hb hbase hs
  · exact put_m c s base b w G hbox hb hbase hs
  · exact put_body c s base b w G hbox hb hbase hs
  · exact put_preds c s base b w G hbox hb hbase hs hpl

theorem Glob.but {base b : Nat} {w w' : World} (G : Glob w) (h : But base b w w') (hb : 8 ≤ b) (hb2 : b < base) : Glob w' := by
  have e : ∀ k, k < 8 → w'.heap[k]? = w.heap[k]? := fun k hk => h.block k (by omega) (by omega)
  have ec : ∀ k o, k < 8 → w'.cell? ⟨k, o, none⟩ = w.cell? ⟨k, o, none⟩ := fun k o hk => by simp only [World.cell?]; rw [e k hk]
  refine ⟨?_, ?_, ?_, ?_, Nat.lt_of_lt_of_le G.big h.size, Nat.le_trans G.low h.size⟩
  · obtain ⟨m, hm⟩ := G.maxLen; exact ⟨m, (ec _ _ (by decide)).trans hm⟩
  · obtain ⟨a, c, hm⟩ := G.syn; exact ⟨a, c, (ec _ _ (by decide)).trans hm⟩
  · obtain ⟨a, c, hm⟩ := G.rng; exact ⟨a, c, (ec _ _ (by decide)).trans hm⟩
  · have hp := G.pow
    unfold Lib.TabIs at hp ⊢
    rw [← hp]
    simp only [World.var?, show Tryd.prog.globalNamed "internal/strconv.uint64pow10" = some 5 by kernel_rfl, Option.bind_some]
    rw [e _ (by decide)]

theorem strs_but {w wr : World} {A : Option Addr} {l : List (List UInt8)} {base b : Nat} (h : StrsAt w A l) (hA : ∀ a, A = some a → a.block < b) (hb : b < base) (hk : But base b w wr) : StrsAt wr A l := fun hl => by
  obtain ⟨k, o, rfl, hlt, hc⟩ := h hl
  have hkb := hA _ rfl
  simp only at hkb
  refine ⟨k, o, rfl, Nat.lt_of_lt_of_le hlt hk.size, fun j x hx => ?_⟩
  have := hc j x hx
  simp only [World.cell?] at this ⊢
  rw [hk.block k (by omega) (by omega)]
  exact this

theorem StrsAt.below {w W : World} {A : Option Addr} {l : List (List UInt8)} (h : StrsAt w A l) (hb : Below w.heap.size w W) : StrsAt W A l := fun hl => by
  obtain ⟨k, o, rfl, hlt, hc⟩ := h hl
  exact ⟨k, o, rfl, Nat.lt_of_lt_of_le hlt hb.size, fun j x hx => cellk hb (hc j x hx)⟩

theorem But.less {base base' b : Nat} {w w' : World} (h : But base b w w') (hle : base' ≤ base) : But base' b w w' := ⟨h.os, h.tape, h.output, h.size, fun k h1 h2 => h.block k (by omega) h2⟩
theorem CmdBox.less {w : World} {base base' b : Nat} {c : Cp.C} (h : CmdBox w base b c) (hle : base' ≤ base) : CmdBox w base' b c := by
  obtain ⟨A, cap, v, hi⟩ := h
  exact ⟨A, cap, v, hi.blk, hi.fits, hi.ops, hi.row, PrintWords.own_less hi.own hle⟩
theorem But.below {base b : Nat} {w W w' : World} (h : Below w.heap.size w W) (k : But base b W w') (hle : w.heap.size ≤ base) : But w.heap.size b w w' :=
  (But.of_below h (Nat.le_refl _)).trans (k.less hle)

/-- What cmd.fill comes to. -/
def FillAns (fr : Option Cp.C) (b : Nat) (w : World) (e : Ending) (w' : World) : Prop :=
  But w.heap.size b w w' ∧ match fr with
    | some c' => e = .returned (.bool true) ∧ CmdBox w' w.heap.size b c'
    | none => e = .returned (.bool false)
def FillPost (k : Int) (l : List (List UInt8)) (b : Nat) (w : World) (e : Ending) (w' : World) : Prop := FillAns (Cp.fill { Cp.zero with kind := k } 0 l) b w e w'

theorem fill_cons (c : Cp.C) (i : Int) (s : List UInt8) (r : List (List UInt8)) : Cp.fill c i (s :: r) = (Cp.put c (Cp.place c.kind i) s).bind fun c' => Cp.fill c' (if Cp.place c.kind i = 7 then i else i + 1) r := rfl

set_option maxRecDepth 100000 in
set_option maxHeartbeats 3200000 in
theorem fill_any (k : Int) (l : List (List UInt8)) (A : Option Addr) (cap b : Nat) (w : World) (G : Glob w) (hblk : w.heap[b]? = some (.cells (cmdCells { Cp.zero with kind := k } none 0 (.slice none 0 0)) 37 (0, 0))) (h8 : 8 ≤ b)
    (hl : StrsAt w A l) (hA : ∀ a, A = some a → a.block < b) (hlen : l.length ≤ 1001) (hsz : ∀ s ∈ l, s.length ≤ 1000) :
    Calls Tryd.prog 27 #[.pointer (some ⟨b, 0, none⟩), .slice A l.length cap] w (FillPost k l b w) := by
  have hbw : b < w.heap.size := (Array.getElem?_eq_some_iff.1 hblk).1
  have HPl : Hid (Calls Tryd.prog 42 #[] w fun e w' => ∃ pl, IsLit pl (litOf placesDs) ∧ e = .returned (.map (some w.heap.size)) ∧ w'.heap[w.heap.size]? = some (.map (ents pl) pl.length) ∧ Below w.heap.size w w' ∧ w'.heap.size = w.heap.size + 1) := Lib.hid <| by
    refine (places_any w).mono ?_
    rintro e w' ⟨pl, h1, rfl, rfl⟩
    exact ⟨pl, h1, rfl, drew_new _ _ _ rfl, bl2 (bl1 (bl0 w) _), by simp⟩
  have HG := Lib.hid G
  have HB := Lib.hid hblk
  have HL := Lib.hid hl
  have HZ := Lib.hid hsz
  have HA := Lib.hid hA
  clear G hblk hl hsz hA
  unfold FillPost
  generalize hf : Cp.fill { Cp.zero with kind := k } 0 l = fr
  have HF := Lib.hid hf
  clear hf
  go_enter Tryd.func27, Tryd.ntmps27
  go_wp2_with (go_at_call 42; go_must (refine HPl.out.mono ?_; rintro e w1 ⟨pl, hpl, rfl, hmap, hb1, hsz1⟩; have HLit := Lib.hid hpl; have HM := Lib.hid hmap; have HB1 := Lib.hid hb1; clear hpl hmap hb1))
  go_loopw [6, 15] (fun vi vx wr => ∃ (n : Nat) (i : Int) (cn : Cp.C), vi = .int .i64 i ∧ vx = .int .i64 n ∧ n ≤ l.length ∧ fr = Cp.fill cn i (l.drop n) ∧ cn.kind = k ∧ cn.preds.length ≤ 16 ∧ 0 ≤ i ∧ i ≤ n ∧ CmdBox wr (w.heap.size + 1) b cn ∧ But (w.heap.size + 1) b w1 wr) (fun _ vx _ => l.length - (intOf vx).toNat)
  case atStart =>
    exact ⟨0, 0, { Cp.zero with kind := k }, rfl, rfl, Nat.zero_le _, by rw [List.drop_zero]; exact HF.out.symm, rfl, by simp [Cp.zero], by omega, by omega,
      ⟨none, 0, .slice none 0 0, blk HB1.out HB.out, Nat.le_refl _, fun h => by simp [Cp.zero] at h, fun a h => (by cases h), PrintWords.own_nil _ _ _ _⟩, But.refl _ _ _⟩
  case round =>
    obtain ⟨n, i, cn, rfl, rfl, hn, hfr, hkd, hpl, hi0, hin, hbox, hbut⟩ := hrel
    have HS := Lib.hid (strs_but (StrsAt.below HL.out HB1.out) HA.out (by omega) hbut)
    have HG1 := Lib.hid ((HG.out.below HB1.out).but hbut h8 (by omega))
    have HMr := Lib.hid ((hbut.block w.heap.size (by omega) (by omega)).trans HM.out)
    have hk0 : wr.cell? ⟨b, 0, none⟩ = some (.int .i64 k) := by
      obtain ⟨A', cap', v', hi⟩ := hbox
      rw [← hkd]
      exact (cell8 hi.blk 0 rfl).1
    have HBox := Lib.hid hbox
    have HBut := Lib.hid hbut
    have HFr := Lib.hid hfr
    clear hbox hbut hfr
    by_cases hlt : n < l.length
    · obtain ⟨ab, ao, rfl, habl, hcell⟩ := HS.out (by omega)
      obtain ⟨x, hx⟩ : ∃ x, l[n]? = some x := ⟨_, List.getElem?_eq_getElem hlt⟩
      have hcx := hcell n x hx
      have hxs := HZ.out x (List.mem_of_getElem? hx)
      have hdrop : l.drop n = x :: l.drop (n + 1) := by
        obtain ⟨h1, h2⟩ := List.getElem?_eq_some_iff.1 hx
        rw [List.drop_eq_getElem_cons h1, h2]
      have HD := Lib.hid hdrop
      clear hcell hx hdrop
      have HPut := Lib.hid (put_any cn k i x (w.heap.size + 1) b wr HG1.out HBox.out (by omega) (by have := HBut.out.size; omega) hxs hpl)
      have HPa := Lib.hid (place_at HLit.out k i)
      unfold PutPost at HPut
      generalize hpc : Cp.put cn (Cp.place k i) x = pc at HPut
      have HPC := Lib.hid hpc
      clear hpc
      generalize hwh : Cp.place k i = what at HPut HPa HPC
      have HWh := Lib.hid hwh
      clear hwh
      cases pc with
      | none =>
        go_wp2_with (first
          | (at_lookup; go_must (refine wpList_lookup_pk pairKey85 Tryd.underlying83 zeroInt rfl (.tmp 19) (.tmp 25) rfl w.heap.size pl.length pl rfl k i rfl HMr.out _ HPa.out ?_))
          | (go_at_call 43; go_must (refine HPut.out.mono ?_; rintro e w2 ⟨hb2, rfl⟩; have HB2 := Lib.hid hb2; clear hb2)))
        go_ret
        refine ⟨But.below HB1.out (HBut.out.trans HB2.out) (by omega), ?_⟩
        have : fr = none := by
          rw [HFr.out, HD.out, fill_cons, hkd, HWh.out, HPC.out]; rfl
        rw [this]
        rfl
      | some c' =>
        have hk' : c'.kind = k := by rw [Cp.put_kind HPC.out]; exact hkd
        have hp' := put_len HPC.out hpl
        have hfr' : fr = Cp.fill c' (if what = 7 then i else i + 1) (l.drop (n + 1)) := by
          rw [HFr.out, HD.out, fill_cons, hkd, HWh.out, HPC.out]; rfl
        have HFr' := Lib.hid hfr'
        clear hfr'
        by_cases h7 : what = 7
        · subst h7
          go_wp2_with (first
            | (at_lookup; go_must (refine wpList_lookup_pk pairKey85 Tryd.underlying83 zeroInt rfl (.tmp 19) (.tmp 25) rfl w.heap.size pl.length pl rfl k i rfl HMr.out _ HPa.out ?_))
            | (go_at_call 43; go_must (refine HPut.out.mono ?_; rintro e w2 ⟨hb2, rfl, hbx2⟩; have HB2 := Lib.hid hb2; have HX2 := Lib.hid hbx2; clear hb2 hbx2)))
          go_roundw
          case rel => exact ⟨n + 1, i, c', rfl, by simp, by omega, HFr'.out, hk', hp', hi0, by omega, HX2.out, HBut.out.trans HB2.out⟩
          case measure => simp [intOf]; omega
        · have h7' : (what == 7) = false := beq_eq_false_iff_ne.2 h7
          have hw : wrap64 (i + 1) = i + 1 := by unfold wrap64; omega
          go_wp2_with (first
            | (at_lookup; go_must (refine wpList_lookup_pk pairKey85 Tryd.underlying83 zeroInt rfl (.tmp 19) (.tmp 25) rfl w.heap.size pl.length pl rfl k i rfl HMr.out _ HPa.out ?_))
            | (go_at_call 43; go_must (refine HPut.out.mono ?_; rintro e w2 ⟨hb2, rfl, hbx2⟩; have HB2 := Lib.hid hb2; have HX2 := Lib.hid hbx2; clear hb2 hbx2)))
          go_roundw
          case rel => exact ⟨n + 1, i + 1, c', rfl, by simp, by omega, by rw [HFr'.out, if_neg h7], hk', hp', by omega, by omega, HX2.out, HBut.out.trans HB2.out⟩
          case measure => simp [intOf]; omega
    · obtain rfl : n = l.length := by omega
      have HPo := Lib.hid (place_ok HLit.out k i)
      have hend : fr = if Cp.place k i = 0 ∨ Cp.place k i = 7 then some cn else none := by
        rw [HFr.out, List.drop_length, ← hkd]; rfl
      have HE := Lib.hid hend
      clear hend
      generalize Cp.place k i = what at HPo HE
      have hbase : w.heap.size ≤ w.heap.size + 1 := by omega
      by_cases h0 : what = 0
      · subst h0
        go_wp2_with (at_lookup; go_must (refine wpList_lookup_pk_ok pairKey85 Tryd.underlying83 zeroInt rfl (.tmp 38) (.tmp 44) rfl w.heap.size pl.length pl rfl k i rfl HMr.out _ HPo.out ?_))
        go_ret
        refine ⟨But.below HB1.out HBut.out hbase, ?_⟩
        rw [HE.out, if_pos (by simp)]
        exact ⟨rfl, HBox.out.less hbase⟩
      · by_cases h7 : what = 7
        · subst h7
          go_wp2_with (at_lookup; go_must (refine wpList_lookup_pk_ok pairKey85 Tryd.underlying83 zeroInt rfl (.tmp 38) (.tmp 44) rfl w.heap.size pl.length pl rfl k i rfl HMr.out _ HPo.out ?_))
          go_ret
          refine ⟨But.below HB1.out HBut.out hbase, ?_⟩
          rw [HE.out, if_pos (by simp)]
          exact ⟨rfl, HBox.out.less hbase⟩
        · have h0' : (what == 0) = false := beq_eq_false_iff_ne.2 h0
          have h7' : (what == 7) = false := beq_eq_false_iff_ne.2 h7
          go_wp2_with (at_lookup; go_must (refine wpList_lookup_pk_ok pairKey85 Tryd.underlying83 zeroInt rfl (.tmp 38) (.tmp 44) rfl w.heap.size pl.length pl rfl k i rfl HMr.out _ HPo.out ?_))
          go_ret
          refine ⟨But.below HB1.out HBut.out hbase, ?_⟩
          rw [HE.out, if_neg (by simp [h0, h7])]
          rfl
end Go.Proofs.YtllabeiadeclkaaDoor

/-! CmdParse: cmd.Parse: the command of a line. -/
namespace Go.Proofs.YtllabeiadeclkaaDoor
open Go.RowKit Pm Go.Proofs.YtllabeiadeclkaaDoorW

theorem idx_S : ∀ (l : List (List UInt8)) (x : List UInt8) (i : Nat), Lib.idxFromS (l.map S) (S x) i = match l.findIdx? (· == x) with | some j => ((i + j : Nat) : Int) | none => -1
  | [], x, i => by simp [Lib.idxFromS]
  | z :: r, x, i => by
    rw [List.map_cons, Lib.idxFromS, List.findIdx?_cons]
    by_cases h : z = x
    · subst h; simp
    · have h' : ¬ S z = S x := fun e => h (S_inj e)
      rw [if_neg (by simpa using h'), if_neg (by simpa using h), idx_S r x (i + 1)]
      cases r.findIdx? (· == x) with
      | none => rfl
      | some j =>
        show ((i + 1 + j : Nat) : Int) = ((i + (j + 1) : Nat) : Int)
        congr 1; omega

theorem kind_idx (x : List UInt8) : Lib.idxOfS (Cp.wordsL.map S) (S x) + 1 = Cp.kindOf x := by
  unfold Lib.idxOfS Cp.kindOf
  rw [idx_S]
  cases Cp.wordsL.findIdx? (· == x) with
  | none => rfl
  | some j => simp

theorem kind_range (x : List UInt8) : 0 ≤ Cp.kindOf x ∧ Cp.kindOf x ≤ 14 := by
  unfold Cp.kindOf
  cases h : Cp.wordsL.findIdx? (· == x) with
  | none => simp
  | some j =>
    have : j < Cp.wordsL.length := (List.findIdx?_eq_some_iff_findIdx_eq.1 h).1
    have e : Cp.wordsL.length = 14 := rfl
    simp; omega

/-- The words as the program has them: a place ahead, of no word. -/
def allWords : Array Value := ((([] : List UInt8) :: Cp.wordsL).map fun l => Value.string (S l)).toArray

set_option maxRecDepth 100000 in
theorem cwords_any (w : World) : Calls Tryd.prog 25 #[] w fun e w' => e = .returned (.agg allWords) ∧ Below w.heap.size w w' := by
  go_enter Tryd.func25, Tryd.ntmps25
  go_wp2
  refine bodyPost_ret (v := .agg allWords) (by simp [results, Tryd.results25, go_sem, allWords, Cp.wordsL]) rfl ?_
  refine ⟨rfl, ?_⟩
  repeat (first | exact bl0 _ | refine bl1 ?_ _ | refine bl5 ?_ _ _ _ (by simp))

set_option maxRecDepth 100000 in
/-- slices.Clip at numbers. -/
theorem clipI_any (A : Option Addr) (n c : Nat) (hn : n ≤ c) (w : World) :
    Calls Tryd.prog 28 #[.slice A n c] w fun e w' => e = .returned (.slice A n n) ∧ w' = w := by
  go_enter Tryd.func28, Tryd.ntmps28
  go_wp2
  go_ret
  exact ⟨rfl, rfl⟩

/-- A slice of numbers that is read. -/
def IntsAt (w : World) (A : Option Addr) (l : List Int) : Prop :=
  0 < l.length → ∃ b o, A = some ⟨b, o, none⟩ ∧ b < w.heap.size ∧ ∀ (j : Nat) x, l[j]? = some x → w.cell? ⟨b, o + j, none⟩ = some (.int .i64 x)

theorem ints_of_own {w : World} {base : Nat} {v : Value} {l : List Int} (h : w.ownsRow base 3 1 v l.length (PrintWords.nums .i64 l)) : ∃ A c, v = .slice A l.length c ∧ l.length ≤ c ∧ IntsAt w A l ∧ ∀ a, A = some a → base ≤ a.block := by
  rcases h.2 with ⟨rfl, h2⟩ | ⟨g, cap, cur, rfl, h1, h2, h3, h4, h5, h6⟩
  · have h0 : l = [] := by simpa [PrintWords.nums] using h2
    subst h0
    exact ⟨none, 0, rfl, Nat.le_refl _, fun h => (by simp at h), fun a h => (by cases h)⟩
  · have hbs := PrintWords.own_base h g rfl
    refine ⟨some ⟨g, 0, none⟩, cap, rfl, by first | omega | assumption, fun hp => ⟨g, 0, rfl, (Array.getElem?_eq_some_iff.1 h2).1, fun j x hx => ?_⟩, fun a ha => (by cases ha; exact hbs)⟩
    have := h.cells (g := g) rfl j (.int .i64 x) (by simp [PrintWords.nums, hx])
    rw [PrintWords.add_plain] at this
    simpa using this

theorem ints_else {w : World} {b : Nat} {A : Option Addr} {l : List Int} (h : IntsAt w A l) (hne : ∀ a, A = some a → a.block ≠ b) (i : Nat) (x : Value) : IntsAt (w.setCell ⟨b, i, none⟩ x) A l := fun hl => by
  obtain ⟨k, o, rfl, hk, hcell⟩ := h hl
  have hn := hne _ rfl
  refine ⟨k, o, rfl, by simpa using hk, fun j y hy => ?_⟩
  have e : (w.setCell ⟨b, i, none⟩ x).cell? ⟨k, o + j, none⟩ = w.cell? ⟨k, o + j, none⟩ := by
    simp only [World.cell?]; rw [sc_else hn]
  exact e.trans (hcell j y hy)

/-- What cmd.Parse comes to. -/
def CParsePost (s : List UInt8) (w : World) (e : Ending) (w' : World) : Prop :=
  Below w.heap.size w w' ∧ ∃ A cap A' cap', e = .returned (.tuple #[.agg (cmdCells (Cp.parse s).1 A cap (.slice A' (Cp.parse s).1.preds.length cap')), .int .i64 (Cp.parse s).2]) ∧
    (Cp.parse s).1.body.length ≤ cap ∧ OpsAt w' A (Cp.parse s).1.body ∧ (Cp.parse s).1.preds.length ≤ cap' ∧ IntsAt w' A' (Cp.parse s).1.preds

theorem cnone_post {s : List UInt8} {w W : World} {x : Int} (h : Cp.parse s = (Cp.zero, x)) (hb : Below w.heap.size w W) : CParsePost s w (.returned (.tuple #[.agg (cmdCells Cp.zero none 0 (.slice none 0 0)), .int .i64 x])) W := by
  refine ⟨hb, none, 0, none, 0, ?_⟩
  rw [h]
  exact ⟨rfl, Nat.le_refl _, fun hl => absurd hl (by simp [Cp.zero]), Nat.le_refl _, fun hl => absurd hl (by simp [Cp.zero])⟩

set_option maxRecDepth 100000 in
set_option maxHeartbeats 1600000 in
theorem cparse_long (s : List UInt8) (w : World) (hs : 1000 < s.length) : Calls Tryd.prog 12 #[.string (S s)] w (CParsePost s w) := by
  have hz : (S s).size = s.length := S_size s
  go_enter Tryd.func12, Tryd.ntmps12
  go_wp2
  refine bodyPost_ret (v := .tuple #[.agg (cmdCells Cp.zero none 0 (.slice none 0 0)), .int .i64 2]) (by simp [results, Tryd.results12, go_sem, cmdCells, Cp.zero]) rfl ?_
  refine cnone_post (by simp [Cp.parse, hs]) ?_
  repeat (first | exact bl0 _ | refine bl1 ?_ _ | refine bl5 ?_ _ _ _ (by simp))

/-- What strings.Split has laid. -/
theorem split_strs (l : List (List UInt8)) (w : World) : StrsAt (w.alloc (.cells (l.map fun x => Value.string (S x)).toArray 9)) (some ⟨w.heap.size, 0, none⟩) l := fun hl =>
  ⟨w.heap.size, 0, rfl, by simp, fun j x hx => by
    rw [cell_blk (alloc_new w _ _ rfl) (0 + j)]
    simp [hx]⟩
theorem strs_drop {w : World} {k o : Nat} {l : List (List UInt8)} (h : StrsAt w (some ⟨k, o, none⟩) l) : StrsAt w (some ⟨k, o + 1, none⟩) l.tail := fun hl => by
  cases l with
  | nil => simp at hl
  | cons a r =>
    obtain ⟨b', o', he, hlt, hc⟩ := h (by simp)
    injection he with he; injection he with h1 h2
    subst h1; subst h2
    refine ⟨k, o + 1, rfl, hlt, fun j x hx => ?_⟩
    have := hc (j + 1) x (by simpa using hx)
    rw [show o + 1 + j = o + (j + 1) by omega]; exact this

theorem but_below {w W W' : World} {base b : Nat} (h : Below w.heap.size w W) (k : But base b W W') (hb : w.heap.size ≤ b) (hle : w.heap.size ≤ base) : Below w.heap.size w W' :=
  ⟨k.os.trans h.os, k.tape.trans h.tape, k.output.trans h.output, Nat.le_trans h.size k.size, fun i hi => (k.block i (by omega) (by omega)).trans (h.block i hi)⟩

/-- The eight cells of a command, written out. -/
theorem cells8 {w : World} {b : Nat} {c : Cp.C} {A : Option Addr} {cap : Nat} {v : Value} (h : w.heap[b]? = some (.cells (cmdCells c A cap v) 37 (0, 0))) :
    (w.cell? ⟨b, 0, none⟩ = some (.int .i64 c.kind) ∧ w.cell? ⟨b, 1, none⟩ = some (.int .i64 c.t) ∧ w.cell? ⟨b, 2, none⟩ = some (.int .i64 c.prio) ∧ w.cell? ⟨b, 3, none⟩ = some (.int .i64 c.id) ∧ w.cell? ⟨b, 4, none⟩ = some (.int .u64 c.n) ∧ w.cell? ⟨b, 5, none⟩ = some (.int .u64 c.m) ∧ w.cell? ⟨b, 6, none⟩ = some (.slice A c.body.length cap) ∧ w.cell? ⟨b, 7, none⟩ = some v) ∧
    ∀ i, w.frozen? ⟨b, i, none⟩ = false :=
  ⟨⟨(cell8 h 0 rfl).1, (cell8 h 1 rfl).1, (cell8 h 2 rfl).1, (cell8 h 3 rfl).1, (cell8 h 4 rfl).1, (cell8 h 5 rfl).1, (cell8 h 6 rfl).1, (cell8 h 7 rfl).1⟩, fun i => frozen_blk h i⟩

set_option maxRecDepth 100000 in
set_option maxHeartbeats 3200000 in
theorem cparse_main (s : List UInt8) (w : World) (G : Glob w) (hs : s.length ≤ 1000) : Calls Tryd.prog 12 #[.string (S s)] w (CParsePost s w) := by
  have hz : (S s).size = s.length := S_size s
  obtain ⟨x0, r, hp⟩ : ∃ x0 r, Bp.pieces 32 s = x0 :: r := by
    cases h : Bp.pieces 32 s with
    | nil => exact absurd h (Bp.pieces_ne 32 s)
    | cons a b => exact ⟨a, b, rfl⟩
  have hcnt := Bp.pieces_le 32 s
  rw [hp, List.length_cons] at hcnt
  have hpsz : ∀ p ∈ r, p.length ≤ 1000 := fun p hm => Nat.le_trans (Bp.piece_le 32 s p (by rw [hp]; exact List.mem_cons_of_mem _ hm)) hs
  have HSp : Hid (∀ W, Glob W → Calls Tryd.prog 24 #[.string (S s), .string ⟨#[32]⟩] W fun e w' => e = .returned (.slice (some ⟨W.heap.size, 0, none⟩) (r.length + 1) (r.length + 1)) ∧ StrsAt w' (some ⟨W.heap.size, 0, none⟩) (x0 :: r) ∧ Below W.heap.size W w' ∧ W.heap.size < w'.heap.size) := Lib.hid fun W g => by
    refine (split_any (S s) 32 W g (by omega)).mono ?_
    rintro e w' ⟨rfl, rfl⟩
    rw [S_list, hp]
    exact ⟨rfl, split_strs _ _, bl1 (bl0 _) _, by simp⟩
  have HG := Lib.hid G
  clear G
  have hparse : Cp.parse s = if Cp.kindOf x0 = 0 then (Cp.zero, (3 : Int)) else match Cp.fill { Cp.zero with kind := Cp.kindOf x0 } 0 r with | none => (Cp.zero, (3 : Int)) | some c => (c, (0 : Int)) := by
    unfold Cp.parse
    rw [if_neg (by omega), hp]; rfl
  have HPs := Lib.hid hparse
  clear hparse
  obtain ⟨hk0, hk14⟩ := kind_range x0
  have hkx := kind_idx x0
  generalize Cp.kindOf x0 = k at *
  have HX : Hid (Lib.idxOfS (Cp.wordsL.map S) (S x0) = k - 1) := Lib.hid (by omega)
  clear hkx
  have hIx : ∀ W b, W.heap[b]? = some (.cells allWords 58 (0, 0)) → Calls Tryd.prog 26 #[.slice (some ⟨b, 1, none⟩) 14 14, .string (S x0)] W fun e w' => e = .returned (.int .i64 (k - 1)) ∧ w' = W := fun W b hb => by
    have h := Tryd.slices_Index_string b 1 14 14 (Cp.wordsL.map S) (S x0) W (by decide) (by decide) (fun j hj => by
      rw [cell_blk hb (1 + j)]
      have hj' : j < Cp.wordsL.length := by simpa using hj
      simp only [allWords, List.getElem?_toArray, List.getElem?_map]
      rw [show 1 + j = j + 1 by omega, List.getElem?_cons_succ, List.getElem?_eq_getElem hj']
      simp [List.getD, hj'])
    rw [show (Cp.wordsL.map S).take 14 = Cp.wordsL.map S from rfl, HX.out] at h
    exact h
  have HIx := Lib.hid hIx
  clear hIx
  go_enter Tryd.func12, Tryd.ntmps12
  go_wp2_with (first
    | (go_at_call 24; go_must (refine (HSp.out _ (HG.out.below (bl1 (bl0 _) _))).mono ?_; rintro e w1 ⟨rfl, hst, hb1, hlt1⟩; rw [World.size_alloc] at hst; have HR1 := Lib.hid (blk hb1 (alloc_new w _ _ rfl)); have HSt := Lib.hid hst; have HB1 := Lib.hid (bl3 (bl1 (bl0 w) _) hb1); clear hst hb1))
    | (go_at_call 25; go_must (refine (cwords_any _).mono ?_; rintro e w2 ⟨rfl, hb2⟩; have HB2 := Lib.hid (bl3 HB1.out hb2); have HR2 := Lib.hid (blk hb2 HR1.out); have HSt2 := Lib.hid (HSt.out.below hb2); have hS0 : ∀ o, (w2.alloc o).cell? ⟨w.heap.size + 1, 0, none⟩ = some (.string (S x0)) := fun o => (by obtain ⟨k', o', he, _, hc⟩ := HSt2.out (by simp); cases he; exact cellk (bl1 (bl0 _) o) (by simpa using hc 0 x0 rfl)); clear hb2; simp only [allWords, Cp.wordsL, List.map_cons, List.map_nil])))
  go_region_with (go_at_call 26; refine (HIx.out _ _ (drew_new _ _ _ rfl)).mono ?_; rintro e w3 ⟨rfl, rfl⟩)
  have hB3 : ∀ o, Below w.heap.size w (w2.alloc o).drew := fun o => bl2 (bl1 HB2.out o)
  have hS3 : ∀ o, StrsAt (w2.alloc o).drew (some ⟨w.heap.size + 1, 0, none⟩) (x0 :: r) := fun o => HSt2.out.below (bl2 (bl1 (bl0 _) o))
  have hlt3 : ∀ o, w.heap.size + 1 < (w2.alloc o).drew.heap.size := fun o => by
    obtain ⟨k', o', he, hl, _⟩ := HSt2.out (by simp)
    cases he
    simp; omega
  have hr0 : ∀ o, (w2.alloc o).drew.heap[w.heap.size]? = some (.cells (cmdCells Cp.zero none 0 (.slice none 0 0)) 37 (0, 0)) := fun o => blk (bl2 (bl1 (bl0 _) o)) HR2.out
  generalize hW3 : (w2.alloc _).drew = W3
  have HB3 := Lib.hid (hW3 ▸ hB3 _ : Below w.heap.size w W3)
  have HS3 := Lib.hid (hW3 ▸ hS3 _ : StrsAt W3 (some ⟨w.heap.size + 1, 0, none⟩) (x0 :: r))
  have HL3 := Lib.hid (hW3 ▸ hlt3 _ : w.heap.size + 1 < W3.heap.size)
  have HR3 := Lib.hid (hW3 ▸ hr0 _ : W3.heap[w.heap.size]? = some (.cells (cmdCells Cp.zero none 0 (.slice none 0 0)) 37 (0, 0)))
  clear hB3 hS3 hlt3 hr0 hW3
  have hw : wrap64 (k - 1 + 1) = k := by unfold wrap64; omega
  by_cases hk : k = 0
  · subst hk
    have HPz := Lib.hid (HPs.out.trans (if_pos rfl))
    obtain ⟨c8, f8⟩ := cells8 HR3.out
    have hc8 : ∀ o, ((W3.alloc o).cell? ⟨w.heap.size, 0, none⟩ = some (.int .i64 0) ∧ (W3.alloc o).cell? ⟨w.heap.size, 1, none⟩ = some (.int .i64 0) ∧ (W3.alloc o).cell? ⟨w.heap.size, 2, none⟩ = some (.int .i64 0) ∧ (W3.alloc o).cell? ⟨w.heap.size, 3, none⟩ = some (.int .i64 0) ∧ (W3.alloc o).cell? ⟨w.heap.size, 4, none⟩ = some (.int .u64 0) ∧ (W3.alloc o).cell? ⟨w.heap.size, 5, none⟩ = some (.int .u64 0) ∧ (W3.alloc o).cell? ⟨w.heap.size, 6, none⟩ = some (.slice none 0 0) ∧ (W3.alloc o).cell? ⟨w.heap.size, 7, none⟩ = some (.slice none 0 0)) := fun o => (cells8 (blk (bl1 (bl0 _) o) HR3.out)).1
    have hf8 : ∀ o i, (W3.alloc o).frozen? ⟨w.heap.size, i, none⟩ = false := fun o => (cells8 (blk (bl1 (bl0 _) o) HR3.out)).2
    clear c8 f8
    go_wp2_with fail
    refine bodyPost_ret (v := .tuple #[.agg (cmdCells Cp.zero none 0 (.slice none 0 0)), .int .i64 3]) (by simp [results, Tryd.results12, go_sem, cmdCells, Cp.zero, hc8, hf8]) rfl ?_
    refine cnone_post HPz.out ?_
    repeat (first | (with_reducible refine bl5 ?_ _ _ _ (by simp)) | (with_reducible refine bl1 ?_ _))
    exact HB3.out
  · have hk' : (k == 0) = false := beq_eq_false_iff_ne.2 hk
    have hblk4 := alloc_new W3 (.cells (cmdCells { Cp.zero with kind := k } none 0 (.slice none 0 0)) 37) _ rfl
    have hg4 : Glob (W3.alloc (.cells (cmdCells { Cp.zero with kind := k } none 0 (.slice none 0 0)) 37)) := HG.out.below (bl1 HB3.out _)
    have hst4 := StrsAt.below HS3.out (bl1 (bl0 W3) (.cells (cmdCells { Cp.zero with kind := k } none 0 (.slice none 0 0)) 37))
    have h8 : 8 ≤ W3.heap.size := Nat.le_trans HG.out.low HB3.out.size
    have HFi : Hid (∀ o1, (r = [] ∨ o1 = 1) → Calls Tryd.prog 27 #[.pointer (some ⟨W3.heap.size, 0, none⟩), .slice (some ⟨w.heap.size + 1, o1, none⟩) r.length r.length] (W3.alloc (.cells (cmdCells { Cp.zero with kind := k } none 0 (.slice none 0 0)) 37)) (FillPost k r W3.heap.size (W3.alloc (.cells (cmdCells { Cp.zero with kind := k } none 0 (.slice none 0 0)) 37)))) := Lib.hid fun o1 ho => by
      refine fill_any k r _ _ _ _ hg4 hblk4 h8 ?_ (fun a ha => by injection ha with ha; subst ha; exact HL3.out) (by omega) hpsz
      rcases ho with rfl | rfl
      · exact fun h => by simp at h
      · exact strs_drop hst4
    have HP2 := Lib.hid (HPs.out.trans (if_neg hk))
    have HFi := Lib.hid (show ∀ o1, (r = [] ∨ o1 = 1) → Calls Tryd.prog 27 #[.pointer (some ⟨W3.heap.size, 0, none⟩), .slice (some ⟨w.heap.size + 1, o1, none⟩) r.length r.length] (W3.alloc (.cells #[.int .i64 k, .int .i64 0, .int .i64 0, .int .i64 0, .int .u64 0, .int .u64 0, .slice none 0 0, .slice none 0 0] 37)) (FillPost k r W3.heap.size (W3.alloc (.cells #[.int .i64 k, .int .i64 0, .int .i64 0, .int .i64 0, .int .u64 0, .int .u64 0, .slice none 0 0, .slice none 0 0] 37))) from HFi.out)
    unfold FillPost at HFi
    generalize Cp.fill { Cp.zero with kind := k } 0 r = fr at HFi HP2
    have HB4 := Lib.hid hblk4
    clear hblk4 hg4 hst4
    cases fr with
    | none =>
      by_cases hr : r = []
      · subst hr
        have HFi2 := Lib.hid (HFi.out 0 (.inl rfl))
        clear HFi
        simp only [List.length_nil] at HFi2
        go_wp2_with (go_at_call 27; go_must (refine HFi2.out.mono ?_; rintro e w5 ⟨hbut, rfl⟩; have HB5 := Lib.hid (but_below (bl1 HB3.out _) hbut (Nat.le_of_lt (Nat.lt_of_succ_lt HL3.out)) (bl1 HB3.out (.cells #[.int .i64 k, .int .i64 0, .int .i64 0, .int .i64 0, .int .u64 0, .int .u64 0, .slice none 0 0, .slice none 0 0] 37)).size); have HR5 := Lib.hid ((hbut.block w.heap.size (by have := HL3.out; simp; omega) (by have := HL3.out; omega)).trans (blk (bl1 (bl0 _) _) HR3.out)); obtain ⟨⟨g0, g1, g2, g3, g4, g5, g6, g7⟩, gf⟩ := cells8 HR5.out; clear hbut ))
        refine bodyPost_ret (v := .tuple #[.agg (cmdCells Cp.zero none 0 (.slice none 0 0)), .int .i64 3]) (by simp [results, Tryd.results12, go_sem, cmdCells, Cp.zero, g0, g1, g2, g3, g4, g5, g6, g7, gf]) rfl ?_
        refine cnone_post HP2.out ?_
        repeat (first | (with_reducible refine bl5 ?_ _ _ _ (by simp)) | (with_reducible refine bl1 ?_ _))
        exact HB5.out
      · have hr' : r.length ≠ 0 := fun e => hr (List.eq_nil_of_length_eq_zero e)
        have HFi2 := Lib.hid (HFi.out 1 (.inr rfl))
        clear HFi
        go_wp2_with (go_at_call 27; go_must (refine HFi2.out.mono ?_; rintro e w5 ⟨hbut, rfl⟩; have HB5 := Lib.hid (but_below (bl1 HB3.out _) hbut (Nat.le_of_lt (Nat.lt_of_succ_lt HL3.out)) (bl1 HB3.out (.cells #[.int .i64 k, .int .i64 0, .int .i64 0, .int .i64 0, .int .u64 0, .int .u64 0, .slice none 0 0, .slice none 0 0] 37)).size); have HR5 := Lib.hid ((hbut.block w.heap.size (by have := HL3.out; simp; omega) (by have := HL3.out; omega)).trans (blk (bl1 (bl0 _) _) HR3.out)); obtain ⟨⟨g0, g1, g2, g3, g4, g5, g6, g7⟩, gf⟩ := cells8 HR5.out; clear hbut ))
        refine bodyPost_ret (v := .tuple #[.agg (cmdCells Cp.zero none 0 (.slice none 0 0)), .int .i64 3]) (by simp [results, Tryd.results12, go_sem, cmdCells, Cp.zero, g0, g1, g2, g3, g4, g5, g6, g7, gf]) rfl ?_
        refine cnone_post HP2.out ?_
        repeat (first | (with_reducible refine bl5 ?_ _ _ _ (by simp)) | (with_reducible refine bl1 ?_ _))
        exact HB5.out
    | some c' =>
      by_cases hr : r = []
      · subst hr
        have HFi2 := Lib.hid (HFi.out 0 (.inl rfl))
        clear HFi
        simp only [List.length_nil] at HFi2
        go_wp2_with (first
          | (go_at_call 27; go_must (refine HFi2.out.mono ?_; rintro e w5 ⟨hbut, rfl, A, cap, v, hin⟩; obtain ⟨A', cap', rfl, hc', hints, hbase'⟩ := ints_of_own hin.own; have HIn := Lib.hid hints; have HBs := Lib.hid hbase'; have HB5 := Lib.hid (but_below (bl1 HB3.out _) hbut (Nat.le_of_lt (Nat.lt_of_succ_lt HL3.out)) (bl1 HB3.out (.cells #[.int .i64 k, .int .i64 0, .int .i64 0, .int .i64 0, .int .u64 0, .int .u64 0, .slice none 0 0, .slice none 0 0] 37)).size); have HR5 := Lib.hid ((hbut.block w.heap.size (by have := HL3.out; simp; omega) (by have := HL3.out; omega)).trans (blk (bl1 (bl0 _) _) HR3.out)); obtain ⟨⟨g0, g1, g2, g3, g4, g5, g6, g7⟩, gf⟩ := cells8 HR5.out; obtain ⟨⟨b0, b1, b2, b3, b4, b5, b6, b7⟩, bf⟩ := cells8 hin.blk; have HI5 := Lib.hid hin; have hnb : ¬ W3.heap.size = w.heap.size := (by have := HL3.out; omega); have hnb' : ¬ w.heap.size = W3.heap.size := (by have := HL3.out; omega); clear hbut hin hints hbase'))
          | (go_at_call 28; go_must (refine (clipI_any _ _ _ hc' _).mono ?_; rintro e w6 ⟨rfl, rfl⟩)))
        have hneB : ∀ a, A = some a → a.block ≠ W3.heap.size := fun a ha e => by
          obtain ⟨cs, hc⟩ := HI5.out.row a ha
          rw [e, HI5.out.blk] at hc
          simp at hc
        have hneR : ∀ a, A = some a → a.block ≠ w.heap.size := fun a ha e => by
          obtain ⟨cs, hc⟩ := HI5.out.row a ha
          rw [e, HR5.out] at hc
          simp at hc
        refine bodyPost_ret (v := .tuple #[.agg (cmdCells c' A cap (.slice A' c'.preds.length c'.preds.length)), .int .i64 0]) (by simp [results, Tryd.results12, go_sem, cmdCells, g0, g1, g2, g3, g4, g5, g6, g7, gf]) rfl ?_
        refine ⟨?_, A, cap, A', c'.preds.length, ?_⟩
        · have hle : w.heap.size ≤ W3.heap.size := HB3.out.size
          repeat (with_reducible refine bl5 ?_ _ _ _ (by omega))
          exact HB5.out
        · rw [HP2.out]
          refine ⟨rfl, HI5.out.fits, ?_, Nat.le_refl _, ?_⟩
          · repeat (first | (with_reducible refine opsAt_else ?_ hneR _ _) | (with_reducible refine opsAt_else ?_ hneB _ _))
            exact HI5.out.ops
          · have hneA : ∀ a, A' = some a → a.block ≠ w.heap.size := fun a ha e => (by have h1 := HBs.out a ha; have h2 := HL3.out; simp at h1; omega)
            have hneC : ∀ a, A' = some a → a.block ≠ W3.heap.size := fun a ha e => (by have h1 := HBs.out a ha; simp at h1; omega)
            repeat (first | (with_reducible refine ints_else ?_ hneA _ _) | (with_reducible refine ints_else ?_ hneC _ _))
            exact HIn.out
      · have hr' : r.length ≠ 0 := fun e => hr (List.eq_nil_of_length_eq_zero e)
        have HFi2 := Lib.hid (HFi.out 1 (.inr rfl))
        clear HFi
        go_wp2_with (first
          | (go_at_call 27; go_must (refine HFi2.out.mono ?_; rintro e w5 ⟨hbut, rfl, A, cap, v, hin⟩; obtain ⟨A', cap', rfl, hc', hints, hbase'⟩ := ints_of_own hin.own; have HIn := Lib.hid hints; have HBs := Lib.hid hbase'; have HB5 := Lib.hid (but_below (bl1 HB3.out _) hbut (Nat.le_of_lt (Nat.lt_of_succ_lt HL3.out)) (bl1 HB3.out (.cells #[.int .i64 k, .int .i64 0, .int .i64 0, .int .i64 0, .int .u64 0, .int .u64 0, .slice none 0 0, .slice none 0 0] 37)).size); have HR5 := Lib.hid ((hbut.block w.heap.size (by have := HL3.out; simp; omega) (by have := HL3.out; omega)).trans (blk (bl1 (bl0 _) _) HR3.out)); obtain ⟨⟨g0, g1, g2, g3, g4, g5, g6, g7⟩, gf⟩ := cells8 HR5.out; obtain ⟨⟨b0, b1, b2, b3, b4, b5, b6, b7⟩, bf⟩ := cells8 hin.blk; have HI5 := Lib.hid hin; have hnb : ¬ W3.heap.size = w.heap.size := (by have := HL3.out; omega); have hnb' : ¬ w.heap.size = W3.heap.size := (by have := HL3.out; omega); clear hbut hin hints hbase'))
          | (go_at_call 28; go_must (refine (clipI_any _ _ _ hc' _).mono ?_; rintro e w6 ⟨rfl, rfl⟩)))
        have hneB : ∀ a, A = some a → a.block ≠ W3.heap.size := fun a ha e => by
          obtain ⟨cs, hc⟩ := HI5.out.row a ha
          rw [e, HI5.out.blk] at hc
          simp at hc
        have hneR : ∀ a, A = some a → a.block ≠ w.heap.size := fun a ha e => by
          obtain ⟨cs, hc⟩ := HI5.out.row a ha
          rw [e, HR5.out] at hc
          simp at hc
        refine bodyPost_ret (v := .tuple #[.agg (cmdCells c' A cap (.slice A' c'.preds.length c'.preds.length)), .int .i64 0]) (by simp [results, Tryd.results12, go_sem, cmdCells, g0, g1, g2, g3, g4, g5, g6, g7, gf]) rfl ?_
        refine ⟨?_, A, cap, A', c'.preds.length, ?_⟩
        · have hle : w.heap.size ≤ W3.heap.size := HB3.out.size
          repeat (with_reducible refine bl5 ?_ _ _ _ (by omega))
          exact HB5.out
        · rw [HP2.out]
          refine ⟨rfl, HI5.out.fits, ?_, Nat.le_refl _, ?_⟩
          · repeat (first | (with_reducible refine opsAt_else ?_ hneR _ _) | (with_reducible refine opsAt_else ?_ hneB _ _))
            exact HI5.out.ops
          · have hneA : ∀ a, A' = some a → a.block ≠ w.heap.size := fun a ha e => (by have h1 := HBs.out a ha; have h2 := HL3.out; simp at h1; omega)
            have hneC : ∀ a, A' = some a → a.block ≠ W3.heap.size := fun a ha e => (by have h1 := HBs.out a ha; simp at h1; omega)
            repeat (first | (with_reducible refine ints_else ?_ hneA _ _) | (with_reducible refine ints_else ?_ hneC _ _))
            exact HIn.out
end Go.Proofs.YtllabeiadeclkaaDoor

/-! CmdTold: cmd.told: what stands at a place. -/
namespace Go.Proofs.YtllabeiadeclkaaDoor
open Go.RowKit Pm Go.Proofs.YtllabeiadeclkaaDoorW

theorem textOf_len {l : List Bp.O} (h : Bp.bodyOk l = true) : (Bp.textOf l).length ≤ 1000 := by
  simp only [Bp.bodyOk, Bool.and_eq_true, decide_eq_true_eq, List.all_eq_true] at h
  unfold Bp.textOf
  split
  · simp
  · have := join_len 59 (l.map Bp.told) 60 (fun x hx => by
      obtain ⟨y, hy, rfl⟩ := List.mem_map.1 hx
      exact told_len (h.2 y hy))
    rw [List.length_map] at this
    omega

theorem bodyW_len (c : Cp.C) : (Cp.bodyW c).length ≤ 1000 := by
  unfold Cp.bodyW Cp.comma'd
  rw [List.length_map]
  cases h : Bp.bodyOk c.body with
  | true => exact textOf_len h
  | false => simp

set_option maxRecDepth 100000 in
theorem told_body (c : Cp.C) (A : Option Addr) (cap : Nat) (v : Value) (w : World) (G : Glob w) (ho : OpsAt w A c.body) (hb : c.body.length ≤ 140737488355328) :
    Calls Tryd.prog 44 #[.agg (cmdCells c A cap v), .int .i64 6] w fun e w' => e = .returned (.string (S (Cp.bodyW c))) ∧ Below w.heap.size w w' := by
  have HT : Hid (∀ o, Calls Tryd.prog 18 #[.slice A c.body.length cap] (w.alloc o) fun e w' => Below (w.alloc o).heap.size (w.alloc o) w' ∧ ∃ er, e = .returned (.tuple #[.string (S (if Bp.bodyOk c.body then Bp.textOf c.body else [])), .int .i64 er])) := Lib.hid fun o => by
    refine (text_any c.body A cap (w.alloc o) (G.below (bl1 (bl0 w) o)) (ho.below (bl1 (bl0 w) o)) hb).mono ?_
    rintro e w' ⟨h1, rfl⟩
    refine ⟨h1, ?_⟩
    cases h : Bp.bodyOk c.body with
    | true => exact ⟨0, rfl⟩
    | false => exact ⟨1, rfl⟩
  have hlen : (if Bp.bodyOk c.body then Bp.textOf c.body else []).length ≤ 1000 := by
    cases h : Bp.bodyOk c.body with
    | true => exact textOf_len h
    | false => simp
  have hbw : Cp.bodyW c = mapB 32 44 (if Bp.bodyOk c.body then Bp.textOf c.body else []) := rfl
  rw [hbw]
  clear hbw
  have HG := Lib.hid G
  clear G ho
  generalize (if Bp.bodyOk c.body then Bp.textOf c.body else []) = tx at *
  obtain ⟨ck, ct, cp, ci, cn, cm, cb, cl⟩ := c
  unfold cmdCells
  go_enter Tryd.func44, Tryd.ntmps44
  go_wp2_with (first
    | (go_at_call 18; go_must (refine (HT.out _).mono ?_; rintro e w1 ⟨hb1, er, rfl⟩; have HB1 := Lib.hid (bl3 (bl1 (bl0 w) _) hb1); clear hb1))
    | (go_at_call 62; go_must (refine (replace_any 32 44 (by decide) tx (by omega) _ (HG.out.below HB1.out)).mono ?_; rintro e w2 ⟨rfl, hb2⟩; have HB2 := Lib.hid (bl3 HB1.out hb2); clear hb2)))
  go_ret
  exact ⟨rfl, HB2.out⟩

set_option maxRecDepth 100000 in
theorem told_ints (c : Cp.C) (A : Option Addr) (cap : Nat) (v : Value) (w : World) (G : Glob w) (R : Cp.Rng c) (what : Int) (h0 : 1 ≤ what) (h3 : what ≤ 3) :
    Calls Tryd.prog 44 #[.agg (cmdCells c A cap v), .int .i64 what] w fun e w' => e = .returned (.string (S (Cp.toldW c what))) ∧ Below w.heap.size w w' := by
  have HG : Hid (∀ o, Glob (w.alloc o)) := Lib.hid fun o => G.below (bl1 (bl0 w) o)
  have HR := Lib.hid R
  clear G R
  obtain ⟨ck, ct, cp, ci, cn, cm, cb, cl⟩ := c
  unfold cmdCells
  rcases (show what = 1 ∨ what = 2 ∨ what = 3 by omega) with rfl | rfl | rfl
  · go_enter Tryd.func44, Tryd.ntmps44
    go_wp2_with (go_at_call 45; go_must (refine (itoa_any ct _ (HG.out _) HR.out.t0 HR.out.t1).mono ?_; rintro e w1 ⟨rfl, hb1⟩))
    go_ret
    exact ⟨rfl, bl3 (bl1 (bl0 w) _) hb1⟩
  · go_enter Tryd.func44, Tryd.ntmps44
    go_wp2_with (go_at_call 45; go_must (refine (itoa_any cp _ (HG.out _) HR.out.p0 HR.out.p1).mono ?_; rintro e w1 ⟨rfl, hb1⟩))
    go_ret
    exact ⟨rfl, bl3 (bl1 (bl0 w) _) hb1⟩
  · go_enter Tryd.func44, Tryd.ntmps44
    go_wp2_with (go_at_call 45; go_must (refine (itoa_any ci _ (HG.out _) HR.out.i0 HR.out.i1).mono ?_; rintro e w1 ⟨rfl, hb1⟩))
    go_ret
    exact ⟨rfl, bl3 (bl1 (bl0 w) _) hb1⟩

set_option maxRecDepth 100000 in
theorem told_nums (c : Cp.C) (A : Option Addr) (cap : Nat) (v : Value) (w : World) (G : Glob w) (R : Cp.Rng c) (what : Int) (h0 : 4 ≤ what) (h3 : what ≤ 5) :
    Calls Tryd.prog 44 #[.agg (cmdCells c A cap v), .int .i64 what] w fun e w' => e = .returned (.string (S (Cp.toldW c what))) ∧ Below w.heap.size w w' := by
  have HG : Hid (∀ o, Glob (w.alloc o)) := Lib.hid fun o => G.below (bl1 (bl0 w) o)
  obtain ⟨ck, ct, cp, ci, cn, cm, cb, cl⟩ := c
  obtain ⟨n, rfl⟩ := Int.eq_ofNat_of_zero_le R.n0
  obtain ⟨m, rfl⟩ := Int.eq_ofNat_of_zero_le R.m0
  have hn : n < 18446744073709551616 := by have := R.n1; simp at this; omega
  have hm : m < 18446744073709551616 := by have := R.m1; simp at this; omega
  have HN := Lib.hid hn
  have HM := Lib.hid hm
  clear G R hn hm
  unfold cmdCells
  rcases (show what = 4 ∨ what = 5 by omega) with rfl | rfl
  · go_enter Tryd.func44, Tryd.ntmps44
    go_wp2_with (go_at_call 65; go_must (refine (fmtU_any n HN.out _ (HG.out _)).mono ?_; rintro e w1 ⟨rfl, hb1⟩))
    go_ret
    exact ⟨rfl, bl3 (bl1 (bl0 w) _) hb1⟩
  · go_enter Tryd.func44, Tryd.ntmps44
    go_wp2_with (go_at_call 65; go_must (refine (fmtU_any m HM.out _ (HG.out _)).mono ?_; rintro e w1 ⟨rfl, hb1⟩))
    go_ret
    exact ⟨rfl, bl3 (bl1 (bl0 w) _) hb1⟩

theorem ctold_any (c : Cp.C) (A : Option Addr) (cap : Nat) (v : Value) (w : World) (G : Glob w) (R : Cp.Rng c) (ho : OpsAt w A c.body) (hb : c.body.length ≤ 140737488355328) (what : Int) (h0 : 1 ≤ what) (h6 : what ≤ 6) :
    Calls Tryd.prog 44 #[.agg (cmdCells c A cap v), .int .i64 what] w fun e w' => e = .returned (.string (S (Cp.toldW c what))) ∧ Below w.heap.size w w' := by
  rcases (show what ≤ 3 ∨ (4 ≤ what ∧ what ≤ 5) ∨ what = 6 by omega) with h | ⟨h, h'⟩ | rfl
  · exact told_ints c A cap v w G R what h0 h
  · exact told_nums c A cap v w G R what h h'
  · exact told_body c A cap v w G ho hb
end Go.Proofs.YtllabeiadeclkaaDoor

/-! CmdLine: cmd.line: a command's words. -/
namespace Go.Proofs.YtllabeiadeclkaaDoor
open Go.RowKit Pm Go.Proofs.YtllabeiadeclkaaDoorW Go.Proofs.YtllabeiadeclkaaDoorW.PrintWords

theorem toldW_len (c : Cp.C) (R : Cp.Rng c) (what : Int) : (Cp.toldW c what).length ≤ 1000 := by
  unfold Cp.toldW
  have hd : ∀ n : Int, 0 ≤ n → n < 18446744073709551616 → (Lib.decDigits n.toNat).length ≤ 20 := fun n h0 h1 => Bp.dec_len (by omega) (by omega)
  have hi : ∀ n : Int, -9223372036854775808 ≤ n → n ≤ 9223372036854775807 → (Lib.itoa n).length ≤ 21 := fun n h0 h1 => Lib.itoa_length_le n (by omega) (by omega)
  have := hd c.n R.n0 R.n1
  have := hd c.m R.m0 R.m1
  have := hi c.t R.t0 R.t1
  have := hi c.prio R.p0 R.p1
  have := hi c.id R.i0 R.i1
  repeat' split
  all_goals first | omega | exact bodyW_len c

theorem piece_len (c : Cp.C) (R : Cp.Rng c) (what : Int) : (∀ x ∈ Cp.pieceOf c what, x.length ≤ 1000) ∧ (Cp.pieceOf c what).length ≤ 17 := by
  unfold Cp.pieceOf
  split
  · refine ⟨fun x hx => ?_, by simp; omega⟩
    obtain ⟨y, hy, rfl⟩ := List.mem_map.1 hx
    obtain ⟨h0, h1⟩ := R.l0 y (List.mem_of_mem_take hy)
    have := Lib.itoa_length_le y (by omega) (by omega)
    omega
  · refine ⟨fun x hx => ?_, by simp⟩
    obtain rfl : x = _ := by simpa using hx
    exact toldW_len c R what
theorem wordsTo_len (c : Cp.C) (R : Cp.Rng c) : ∀ n, (∀ x ∈ Cp.wordsTo c n, x.length ≤ 1000) ∧ (Cp.wordsTo c n).length ≤ 17 * n
  | 0 => by rw [Cp.wordsTo_zero]; exact ⟨fun x hx => (by simp at hx), by simp⟩
  | n + 1 => by
    rw [Cp.wordsTo_succ]
    obtain ⟨h1, h2⟩ := wordsTo_len c R n
    obtain ⟨h3, h4⟩ := piece_len c R (Cp.place c.kind n)
    refine ⟨fun x hx => ?_, by rw [List.length_append]; omega⟩
    rcases List.mem_append.1 hx with h | h
    · exact h1 x h
    · exact h3 x h
theorem word_len (k : Int) : (Cp.word k).length ≤ 8 := by
  unfold Cp.word
  have : ∀ x ∈ Cp.wordsL, x.length ≤ 8 := by decide
  rw [List.getD_eq_getElem?_getD]
  cases h : Cp.wordsL[(k - 1).toNat]? with
  | none => simp
  | some x => exact this x (List.mem_of_getElem? h)
theorem lineL_len (c : Cp.C) (R : Cp.Rng c) : (∀ x ∈ Cp.lineL c, x.length ≤ 1000) ∧ (Cp.lineL c).length ≤ 86 := by
  obtain ⟨h1, h2⟩ := wordsTo_len c R (Cp.rowLen c.kind)
  have h3 := Cp.rowLen_le c.kind
  have h4 := word_len c.kind
  refine ⟨fun x hx => ?_, by simp [Cp.lineL]; omega⟩
  rcases List.mem_cons.1 hx with rfl | h
  · omega
  · exact h1 x h
theorem line_len (c : Cp.C) (R : Cp.Rng c) : (Cp.line c).length ≤ 100000 := by
  obtain ⟨h1, h2⟩ := lineL_len c R
  have := join_len 32 _ _ h1
  unfold Cp.line
  omega

/-- The words' array, a word by its kind. -/
theorem word_cell (k : Nat) (h0 : 1 ≤ k) (h1 : k ≤ 14) : allWords[k]? = some (.string (S (Cp.word (k : Int)))) := by
  have : ∀ j : Nat, j < 15 → 1 ≤ j → allWords[j]? = some (.string (S (Cp.word (j : Int)))) := by
    intro j hj h
    rcases (show j = 1 ∨ j = 2 ∨ j = 3 ∨ j = 4 ∨ j = 5 ∨ j = 6 ∨ j = 7 ∨ j = 8 ∨ j = 9 ∨ j = 10 ∨ j = 11 ∨ j = 12 ∨ j = 13 ∨ j = 14 by omega) with rfl | rfl | rfl | rfl | rfl | rfl | rfl | rfl | rfl | rfl | rfl | rfl | rfl | rfl <;> rfl
  exact this k (by omega) h0

theorem map_kept {W w' : World} {base n size e : Nat} {v : Value} {xs : List Value} {mb : Nat} {m : Array MapEntry} {c : Nat} (ho : W.ownsRow base e size v n xs) (hg : W.grownBy w' v.ownBlock) (hm : W.heap[mb]? = some (.map m c)) : w'.heap[mb]? = some (.map m c) :=
  (hg.block mb (Array.getElem?_eq_some_iff.1 hm).1 (fun e' => by
    obtain ⟨cs, hc⟩ := own_typed ho mb e'.symm
    rw [hm] at hc
    cases hc)).trans hm

set_option maxRecDepth 100000 in
set_option maxHeartbeats 3200000 in
theorem line_any (c : Cp.C) (k : Nat) (hkd : c.kind = k) (A A' : Option Addr) (cap cap' : Nat) (w : World) (G : Glob w) (R : Cp.Rng c) (hk : 1 ≤ k) (hk2 : k ≤ 14) (ho : OpsAt w A c.body) (hp : IntsAt w A' c.preds) (hb : c.body.length ≤ 140737488355328) (hl : c.preds.length ≤ 140737488355328) (hc' : c.preds.length ≤ cap') :
    Calls Tryd.prog 29 #[.agg (cmdCells c A cap (.slice A' c.preds.length cap'))] w fun e w' => e = .returned (.string (S (Cp.line c))) ∧ Below w.heap.size w w' := by
  have HG := Lib.hid G
  have HR := Lib.hid R
  have HO := Lib.hid ho
  have HP := Lib.hid hp
  have HPl : Hid (∀ W, Calls Tryd.prog 42 #[] W fun e w' => ∃ pl, IsLit pl (litOf placesDs) ∧ e = .returned (.map (some W.heap.size)) ∧ w'.heap[W.heap.size]? = some (.map (ents pl) pl.length) ∧ Below W.heap.size W w' ∧ w'.heap.size = W.heap.size + 1) := Lib.hid fun W => by
    refine (places_any W).mono ?_
    rintro e w' ⟨pl, h1, rfl, rfl⟩
    exact ⟨pl, h1, rfl, drew_new _ _ _ rfl, bl2 (bl1 (bl0 W) _), by simp⟩
  have HWd := Lib.hid (word_cell k hk hk2)
  obtain ⟨ck, ct, cp, ci, cn, cm, cb, cl⟩ := c
  obtain rfl : ck = k := hkd
  clear G R ho hp
  unfold cmdCells
  go_enter Tryd.func29, Tryd.ntmps29
  go_upto_region 2 with (go_at_call 25; go_must (refine (cwords_any _).mono ?_; rintro e w1 ⟨rfl, hb1⟩; have HB1 := Lib.hid (bl3 (bl1 (bl0 w) _) hb1); have HR1 := Lib.hid (blk hb1 (alloc_new w _ _ rfl)); have hlt := hb1.size; clear hb1; rw [World.size_alloc] at hlt; simp only [allWords, Cp.wordsL, List.map_cons, List.map_nil]))
  have hcw : ∀ o, o = Obj.cells allWords 58 (0, 0) → (w1.alloc o).cell? ⟨w1.heap.size, k, none⟩ = some (.string (S (Cp.word k))) := fun o ho => (by subst ho; rw [cell_blk (alloc_new w1 _ _ rfl) k]; exact HWd.out)
  have hbx : ∀ o, (w1.alloc o).heap[w.heap.size]? = some (.cells (cmdCells ⟨k, ct, cp, ci, cn, cm, cb, cl⟩ A cap (.slice A' cl.length cap')) 37 (0, 0)) := fun o => blk (bl1 (bl0 _) o) HR1.out
  have hbl : ∀ o, Below w.heap.size w (w1.alloc o) := fun o => bl1 HB1.out o
  have hcw' := hcw (Obj.cells allWords 58 (0, 0)) rfl
  simp only [allWords, Cp.wordsL, List.map_cons, List.map_nil] at hcw'
  have hz2 : ∀ o, (w1.alloc o).heap.size = w1.heap.size + 1 := fun o => by simp
  generalize hW2 : w1.alloc _ = W2 at hcw' ⊢
  have HBx := Lib.hid (hW2 ▸ hbx _ : W2.heap[w.heap.size]? = _)
  have HB2 := Lib.hid (hW2 ▸ hbl _ : Below w.heap.size w W2)
  have hsz2 := (hW2 ▸ hz2 _ : W2.heap.size = w1.heap.size + 1)
  clear hcw hbx hbl hW2 hz2
  obtain ⟨⟨g0, g1, g2, g3, g4, g5, g6, g7⟩, gf⟩ := cells8 HBx.out
  have HZ2 := Lib.hid hsz2
  have hlt2 : w.heap.size < W2.heap.size := by omega
  clear hsz2 hlt
  go_wp2_with (go_at_call 42; go_must (refine (HPl.out _).mono ?_; rintro e w3 ⟨pl, hpl, rfl, hmap, hb3, hsz3⟩))
  have HLit := Lib.hid hpl
  have HM3 : Hid (w3.heap[W2.heap.size + 1]? = some (.map (ents pl) pl.length)) := Lib.hid (by rw [World.size_alloc] at hmap; exact hmap)
  have HBx3 := Lib.hid (blk hb3 (blk (bl1 (bl0 W2) _) HBx.out))
  have HB3 := Lib.hid (bl3 (bl1 HB2.out _) hb3)
  have HOw : Hid (w3.ownsRow W2.heap.size 9 1 (.slice (some ⟨W2.heap.size, 0, none⟩) 1 1) (Cp.word k :: Cp.wordsTo ⟨k, ct, cp, ci, cn, cm, cb, cl⟩ 0).length (encs encS (Cp.word k :: Cp.wordsTo ⟨k, ct, cp, ci, cn, cm, cb, cl⟩ 0))) := Lib.hid (by
    rw [Cp.wordsTo_zero]
    exact pw_own_below (own_lit_of (enc := encS) W2 W2.heap.size 9 [Cp.word k] (Nat.le_refl _) (by simp)) hb3)
  clear hpl hmap hb3 hsz3 g0 g1 g2 g3 g4 g5 g6 g7 gf hcw'
  go_loopw [4, 6] (fun v i wr => ∃ n : Nat, i = .int .i64 n ∧ n ≤ Cp.rowLen k ∧ wr.ownsRow W2.heap.size 9 1 v (Cp.word k :: Cp.wordsTo ⟨k, ct, cp, ci, cn, cm, cb, cl⟩ n).length (encs encS (Cp.word k :: Cp.wordsTo ⟨k, ct, cp, ci, cn, cm, cb, cl⟩ n)) ∧ wr.heap[w.heap.size]? = some (.cells (cmdCells ⟨k, ct, cp, ci, cn, cm, cb, cl⟩ A cap (.slice A' cl.length cap')) 37 (0, 0)) ∧ wr.heap[W2.heap.size + 1]? = some (.map (ents pl) pl.length) ∧ Below w.heap.size w wr) (fun _ i _ => 10 - (intOf i).toNat)
  case atStart => exact ⟨0, rfl, Nat.zero_le _, HOw.out, HBx3.out, HM3.out, HB3.out⟩
  case round =>
    obtain ⟨n, rfl, hn, hown, hbox, hmap, hbw⟩ := hrel
    have hn5 := Cp.rowLen_le k
    obtain ⟨⟨g0, g1, g2, g3, g4, g5, g6, g7⟩, gf⟩ := cells8 hbox
    have HOwn := Lib.hid hown
    have HBox := Lib.hid hbox
    have HMap := Lib.hid hmap
    have HBw := Lib.hid hbw
    have HPa := Lib.hid (place_at HLit.out (k : Int) (n : Int))
    have hw7 := place_range (k : Int) (n : Int)
    have HRl := Lib.hid (fun h => Cp.rowLen_lt (k := (k : Int)) (by omega) (by omega) hn h)
    have HRe := Lib.hid (fun h => Cp.rowLen_is (k := (k : Int)) (by omega) (by omega) hn h)
    have HSu := Lib.hid (Cp.wordsTo_succ ⟨k, ct, cp, ci, cn, cm, cb, cl⟩ n)
    simp only at HSu
    have HBs : Hid (W2.heap.size ≤ wr.heap.size) := Lib.hid (by have := (Array.getElem?_eq_some_iff.1 hmap).1; omega)
    clear hown hbox hmap hbw
    generalize hwh : Cp.place (k : Int) (n : Int) = what at *
    clear hwh
    by_cases h0 : what = 0
    · subst h0
      obtain rfl : n = Cp.rowLen k := HRe.out rfl
      obtain ⟨L, hL⟩ : ∃ L, L = Cp.word k :: Cp.wordsTo ⟨k, ct, cp, ci, cn, cm, cb, cl⟩ (Cp.rowLen k) := ⟨_, rfl⟩
      have ho := HOwn.out
      rw [← hL] at ho
      obtain ⟨A2, c2, rfl, hc2, hst⟩ := strs_of_own ho
      have hLL : Cp.lineL ⟨k, ct, cp, ci, cn, cm, cb, cl⟩ = L := hL.symm
      have hj := line_len ⟨k, ct, cp, ci, cn, cm, cb, cl⟩ HR.out
      have hj2 := (lineL_len ⟨k, ct, cp, ci, cn, cm, cb, cl⟩ HR.out).2
      have hline : Cp.line ⟨k, ct, cp, ci, cn, cm, cb, cl⟩ = Lib.join L [32] := by unfold Cp.line; rw [hLL]
      rw [hline] at hj
      rw [hLL] at hj2
      have HLi := Lib.hid hline
      have HJ := Lib.hid (join_any A2 c2 L [32] wr hst hc2 (by omega) (by omega))
      clear ho hL hLL hst hj hj2 HOwn hline
      go_wp2_with (first
        | (at_lookup; go_must (refine wpList_lookup_pk pairKey85 Tryd.underlying83 zeroInt rfl _ _ rfl (W2.heap.size + 1) pl.length pl rfl k (Cp.rowLen k : Nat) rfl HMap.out _ HPa.out ?_))
        | (go_at_call 36; go_must (refine HJ.out.mono ?_; rintro e w4 ⟨rfl, hb4⟩)))
      go_ret
      exact ⟨(by rw [HLi.out]; rfl), bl3 HBw.out hb4⟩
    · have hn' := HRl.out h0
      have hn6 : n < 5 := by omega
      by_cases h7 : what = 7
      · subst h7
        obtain ⟨P, hP⟩ : ∃ P : Nat, P = min cl.length 17 := ⟨_, rfl⟩
        have hmin : min (cl.length : Int) 17 = (P : Int) := by omega
        have hmax : max (P : Int) 0 = (P : Int) := by omega
        have hP17 : P ≤ 17 := by omega
        have hPl : P ≤ cl.length := by omega
        have HTk : Hid (cl.take P = cl.take 17) := Lib.hid (by
          rcases Nat.le_total cl.length 17 with h | h
          · rw [List.take_of_length_le (by omega), List.take_of_length_le (by omega)]
          · rw [show P = 17 by omega])
        have HL5 : Hid ((Cp.word k :: Cp.wordsTo ⟨k, ct, cp, ci, cn, cm, cb, cl⟩ n).length ≤ 200) := Lib.hid (by
          have := (wordsTo_len ⟨k, ct, cp, ci, cn, cm, cb, cl⟩ HR.out n).2
          simp; omega)
        have HSu' := Lib.hid (HSu.out.trans (by rw [Cp.pieceOf, if_pos rfl] : _ = Cp.wordsTo ⟨k, ct, cp, ci, cn, cm, cb, cl⟩ n ++ (cl.take 17).map Lib.itoa))
        clear HSu hP
        obtain ⟨L0, hL0⟩ : ∃ L0, L0 = Cp.word k :: Cp.wordsTo ⟨k, ct, cp, ci, cn, cm, cb, cl⟩ n := ⟨_, rfl⟩
        rw [← hL0] at HL5 HOwn
        have HL0 := Lib.hid hL0
        clear hL0
        go_wp2_with (at_lookup; go_must (refine wpList_lookup_pk pairKey85 Tryd.underlying83 zeroInt rfl _ _ rfl (W2.heap.size + 1) pl.length pl rfl k n rfl HMap.out _ HPa.out ?_))
        obtain ⟨wo, rfl⟩ : ∃ wo : World, wo = wr := ⟨_, rfl⟩
        go_loopw [4, 48] (fun v i wq => ∃ m : Nat, i = .int .i64 m ∧ m ≤ P ∧ wq.ownsRow W2.heap.size 9 1 v (L0 ++ (cl.take m).map Lib.itoa).length (encs encS (L0 ++ (cl.take m).map Lib.itoa)) ∧ wq.heap[w.heap.size]? = some (.cells (cmdCells ⟨k, ct, cp, ci, cn, cm, cb, cl⟩ A cap (.slice A' cl.length cap')) 37 (0, 0)) ∧ wq.heap[W2.heap.size + 1]? = some (.map (ents pl) pl.length) ∧ Below w.heap.size w wq) (fun _ i _ => P - (intOf i).toNat)
        case atStart => exact ⟨0, rfl, Nat.zero_le _, by simpa using HOwn.out, HBox.out, HMap.out, HBw.out⟩
        case round =>
          obtain ⟨m, rfl, hm, hown, hbox, hmap, hbq⟩ := hrel
          have HOq := Lib.hid hown
          have HBoq := Lib.hid hbox
          have HMaq := Lib.hid hmap
          have HBq := Lib.hid hbq
          have HBs2 : Hid (W2.heap.size ≤ wr.heap.size) := Lib.hid (by have := (Array.getElem?_eq_some_iff.1 hmap).1; omega)
          clear hown hbox hmap hbq
          by_cases hlt : m < P
          · obtain ⟨ab, ao, rfl, hab, hcell⟩ := HP.out (by omega)
            obtain ⟨x, hx⟩ : ∃ x, cl[m]? = some x := ⟨_, List.getElem?_eq_getElem (by omega)⟩
            have hcx := cellk HBq.out (hcell m x hx)
            obtain ⟨hx0, hx1⟩ := HR.out.l0 x (List.mem_of_getElem? hx)
            have HX := Lib.hid hx
            have HI := Lib.hid (itoa_any x wr (HG.out.below HBq.out) hx0 hx1)
            have hl5 : (L0 ++ (cl.take m).map Lib.itoa).length ≤ 300 := by
              have := HL5.out
              simp; omega
            have HL6 := Lib.hid hl5
            clear hcell hx hl5 hx0 hx1
            go_wp2_with (first
              | (go_at_call 45; go_must (refine HI.out.mono ?_; rintro e w4 ⟨rfl, hb4⟩))
              | (at_builtin; go_must (refine print_append_of (w0 := w4) encS W2.heap.size rfl _ _ 44 9 (.string ⟨#[]⟩) 16 rfl rfl infoStr rfl (by decide) u4 (L0 ++ (cl.take m).map Lib.itoa) (Lib.itoa x) rfl rfl rfl (pw_own_below HOq.out hb4) ⟨rfl, rfl, rfl, Nat.le_refl _, fun _ _ => rfl⟩ (Nat.le_trans HBs2.out hb4.size) (by have := HL6.out; omega) ?_; rintro v1 w5 hown5 hb5 hgr hat)))
            go_roundw
            exact ⟨m + 1, rfl, by omega, by rw [take_map_succ HX.out, ← List.append_assoc]; exact hown5, (hb5.block _ hlt2).trans (blk hb4 HBoq.out), map_kept (pw_own_below HOq.out hb4) hgr (blk hb4 HMaq.out), (bl3 HBq.out hb4).trans (hb5.mono (Nat.le_of_lt hlt2))⟩
            simp only [intOf]
            omega
          · obtain rfl : m = P := by omega
            go_wp2
            go_roundw
            exact ⟨n + 1, rfl, by omega, by rw [HSu'.out, ← HTk.out, ← List.cons_append, ← HL0.out]; exact HOq.out, HBoq.out, HMaq.out, HBq.out⟩
            simp only [intOf]
            omega
      · have HT : Hid (∀ W, Below w.heap.size w W → Calls Tryd.prog 44 #[.agg #[.int .i64 k, .int .i64 ct, .int .i64 cp, .int .i64 ci, .int .u64 cn, .int .u64 cm, .slice A cb.length cap, .slice A' cl.length cap'], .int .i64 what] W fun e w' => e = .returned (.string (S (Cp.toldW ⟨k, ct, cp, ci, cn, cm, cb, cl⟩ what))) ∧ Below W.heap.size W w') :=
          Lib.hid fun W hB => ctold_any ⟨k, ct, cp, ci, cn, cm, cb, cl⟩ A cap (.slice A' cl.length cap') W (HG.out.below hB) HR.out (HO.out.below hB) hb what (by omega) (by omega)
        have HSu' := Lib.hid (HSu.out.trans (by rw [Cp.pieceOf, if_neg h7] : _ = Cp.wordsTo ⟨k, ct, cp, ci, cn, cm, cb, cl⟩ n ++ [Cp.toldW ⟨k, ct, cp, ci, cn, cm, cb, cl⟩ what]))
        clear HSu
        generalize Cp.toldW ⟨k, ct, cp, ci, cn, cm, cb, cl⟩ what = tw at *
        have hL5 : (Cp.word k :: Cp.wordsTo ⟨k, ct, cp, ci, cn, cm, cb, cl⟩ n).length ≤ 200 := by
          have := (wordsTo_len ⟨k, ct, cp, ci, cn, cm, cb, cl⟩ HR.out n).2
          simp; omega
        have HL5 := Lib.hid hL5
        clear hL5
        go_wp2_with (first
          | (at_lookup; go_must (refine wpList_lookup_pk pairKey85 Tryd.underlying83 zeroInt rfl _ _ rfl (W2.heap.size + 1) pl.length pl rfl k n rfl HMap.out _ HPa.out ?_))
          | (go_at_call 44; go_must (refine (HT.out wr HBw.out).mono ?_; rintro e w4 ⟨rfl, hb4⟩))
          | (at_builtin; go_must (refine print_append_of (w0 := w4) encS W2.heap.size rfl _ _ 44 9 (.string ⟨#[]⟩) 16 rfl rfl infoStr rfl (by decide) u4 (Cp.word k :: Cp.wordsTo ⟨k, ct, cp, ci, cn, cm, cb, cl⟩ n) tw rfl rfl rfl (pw_own_below HOwn.out hb4) ⟨rfl, rfl, rfl, Nat.le_refl _, fun _ _ => rfl⟩ (Nat.le_trans HBs.out hb4.size) (by have := HL5.out; omega) ?_; rintro v1 w5 hown5 hb5 hgr hat)))
        go_roundw
        exact ⟨n + 1, rfl, by omega, by rw [HSu'.out, ← List.cons_append]; exact hown5, (hb5.block _ hlt2).trans (blk hb4 HBox.out), map_kept (pw_own_below HOwn.out hb4) hgr (blk hb4 HMap.out), (bl3 HBw.out hb4).trans (hb5.mono (Nat.le_of_lt hlt2))⟩
        simp only [intOf]
        omega
end Go.Proofs.YtllabeiadeclkaaDoor

/-! CmdRefs: The printed functions that commands' proofs use, at one place. -/


/-! CmdSame: cmd.same: whether two commands are. -/
namespace Go.Proofs.YtllabeiadeclkaaDoor
open Go.RowKit Go.Proofs.YtllabeiadeclkaaDoorW.PrintWords Go.Proofs.YtllabeiadeclkaaDoor.PCmdNumbers

def toSC (o : Bp.O) : S50 := ⟨o.kind, o.a, o.b⟩
theorem toSC_inj {a b : Bp.O} (h : toSC a = toSC b) : a = b := by
  obtain ⟨a1, a2, a3⟩ := a
  obtain ⟨b1, b2, b3⟩ := b
  injection h with h1 h2 h3
  subst h1; subst h2; subst h3; rfl
theorem mapSC_inj : ∀ {l m : List Bp.O}, l.map toSC = m.map toSC → l = m
  | [], [], _ => rfl
  | [], _ :: _, h => by cases h
  | _ :: _, [], h => by cases h
  | a :: l, b :: m, h => by
    injection h with h1 h2
    rw [toSC_inj h1, mapSC_inj h2]

theorem opsC {w : World} {A : Option Addr} {l : List Bp.O} (h : OpsAt w A l) (hl : l.length ≤ 9223372036854775807) : Kd.C k50 w A (l.map toSC).length (l.map toSC) := by
  refine ⟨rfl, by simpa using hl, fun hp => ?_⟩
  obtain ⟨b, o, rfl, hb, hc⟩ := h (by simpa using hp)
  refine ⟨_, rfl, fun j p hj => ?_⟩
  obtain ⟨x, hx, rfl⟩ : ∃ x, l[j]? = some x ∧ toSC x = p := by simpa using hj
  obtain ⟨c0, c1, c2⟩ := hc j x hx
  refine ⟨_, rfl, k50_mk w (toSC x), fun i u hi => ?_⟩
  have e : ∀ i, (⟨b, o, none⟩ : Addr).add (j * 3 + i) = ⟨b, o + j * 3 + i, none⟩ := fun i => by unfold Addr.add; simp [Nat.add_assoc]
  rcases i with _ | _ | _ | i
  · obtain rfl : _ = u := by simpa using hi
    have := e 0
    simp only [Nat.add_zero] at this
    show w.cell? (Addr.add _ (j * 3 + 0)) = _
    rw [Nat.add_zero, this]; exact c0
  · obtain rfl : _ = u := by simpa using hi
    show w.cell? (Addr.add _ (j * 3 + 1)) = _
    rw [e]; exact c1
  · obtain rfl : _ = u := by simpa using hi
    show w.cell? (Addr.add _ (j * 3 + 2)) = _
    rw [e]; exact c2
  · simp at hi

theorem intsC {w : World} {A : Option Addr} {l : List Int} (h : IntsAt w A l) (hl : l.length ≤ 9223372036854775807) : Kd.C (Kd.int .i64) w A l.length l := by
  refine ⟨rfl, hl, fun hp => ?_⟩
  obtain ⟨b, o, rfl, hb, hc⟩ := h hp
  refine ⟨_, rfl, fun j p hj => ⟨[.int .i64 p], rfl, rfl, fun i u hi => ?_⟩⟩
  rcases i with _ | i
  · obtain rfl : _ = u := by simpa using hi
    have : (⟨b, o, none⟩ : Addr).add (j * 1 + 0) = ⟨b, o + j, none⟩ := by unfold Addr.add; simp
    show w.cell? (Addr.add _ (j * 1 + 0)) = _
    rw [this]; exact hc j p hj
  · simp at hi

theorem w64s {n : Int} (h0 : -1000000000000000000 ≤ n) (h1 : n ≤ 1000000000000000000) : wrap64 n = n := by unfold wrap64; omega

theorem rdS {l : List S50} {i : Nat} {x : S50} (h : l[i]? = some x) : rd_T50 l (i : Int) = x := by
  unfold rd_T50
  rw [List.getD_eq_getElem?_getD, show ((i : Nat) : Int).toNat = i by omega, h]; rfl
theorem rdI {l : List Int} {i : Nat} {x : Int} (h : l[i]? = some x) : rd l (i : Int) = x := by
  unfold rd
  rw [List.getD_eq_getElem?_getD, show ((i : Nat) : Int).toNat = i by omega, h]; rfl

theorem drop_next {α : Type} {l m : List α} {i : Nat} {x y : α} (hx : l[i]? = some x) (hy : m[i]? = some y) : l.drop i = m.drop i ↔ x = y ∧ l.drop (i + 1) = m.drop (i + 1) := by
  obtain ⟨h1, h1'⟩ := List.getElem?_eq_some_iff.1 hx
  obtain ⟨h2, h2'⟩ := List.getElem?_eq_some_iff.1 hy
  rw [List.drop_eq_getElem_cons h1, List.drop_eq_getElem_cons h2, h1', h2', List.cons.injEq]

theorem sEq_ev (l m : List S50) (hlen : l.length = m.length) (hb : l.length ≤ 140737488355328) : ∀ (n i : Nat), i + n = l.length → ∃ b, Ev (fun k => api_Op_67.l0 k l m (l.length : Int) (i : Int)) b ∧ (b = true ↔ l.drop i = m.drop i)
  | 0, i, h => by
    refine ⟨true, Ev.step (f := fun _ => some true) (fun k => ?_) (Ev.now _), ?_⟩
    · rw [api_Op_67.l0, if_neg (by omega)]
    · rw [List.drop_of_length_le (by omega), List.drop_of_length_le (by omega)]; simp
  | n + 1, i, h => by
    obtain ⟨x, hx⟩ : ∃ x, l[i]? = some x := ⟨_, List.getElem?_eq_getElem (by omega)⟩
    obtain ⟨y, hy⟩ : ∃ y, m[i]? = some y := ⟨_, List.getElem?_eq_getElem (by omega)⟩
    by_cases hxy : x = y
    · obtain ⟨b, hb1, hb2⟩ := sEq_ev l m hlen hb n (i + 1) (by omega)
      refine ⟨b, Ev.step (f := fun k => api_Op_67.l0 k l m (l.length : Int) ((i + 1 : Nat) : Int)) (fun k => ?_) hb1, ?_⟩
      · rw [api_Op_67.l0, if_pos (by omega), if_pos (by omega), if_pos (by omega), if_pos (by omega), rdS hx, rdS hy, if_neg (by simp [hxy]), w64s (by omega) (by omega)]
        rfl
      · rw [drop_next hx hy, hb2]; simp [hxy]
    · refine ⟨false, Ev.step (f := fun _ => some false) (fun k => ?_) (Ev.now _), ?_⟩
      · rw [api_Op_67.l0, if_pos (by omega), if_pos (by omega), if_pos (by omega), if_pos (by omega), rdS hx, rdS hy, if_pos ?_]
        obtain ⟨x1, x2, x3⟩ := x
        obtain ⟨y1, y2, y3⟩ := y
        simp only [S50.mk.injEq] at hxy
        by_cases e1 : x1 = y1
        · by_cases e2 : x2 = y2
          · have e3 : x3 ≠ y3 := fun e => hxy ⟨e1, e2, e⟩
            simp [e1, e2, e3]
          · simp [e1, e2]
        · simp [e1]
      · rw [drop_next hx hy]; simp [hxy]
theorem sEq_ref (l m : List S50) (hb : l.length ≤ 140737488355328) : ∃ b, Ev (fun k => body_Same.f k l m) b ∧ (b = true ↔ l = m) := by
  by_cases hlen : l.length = m.length
  · obtain ⟨b, h1, h2⟩ := sEq_ev l m hlen hb l.length 0 (by omega)
    refine ⟨b, ?_, by simpa using h2⟩
    have := Ev.bind (f := fun _ t => some t) h1 (Ev.now b)
    refine Ev.congr (fun k => ?_) this
    simp only [body_Same.f, api_Op_67.f]
    rw [if_pos (by omega)]; rfl
  · refine ⟨false, ?_, ?_⟩
    · refine Ev.congr (fun k => ?_) (Ev.now false)
      simp only [body_Same.f, api_Op_67.f]
      rw [if_neg (by omega)]; rfl
    · simp; intro e; exact hlen (congrArg List.length e)

theorem iEq_ev (l m : List Int) (hlen : l.length = m.length) (hb : l.length ≤ 140737488355328) : ∀ (n i : Nat), i + n = l.length → ∃ b, Ev (fun k => slices_Equal_int_int.l0 k l m (l.length : Int) (i : Int)) b ∧ (b = true ↔ l.drop i = m.drop i)
  | 0, i, h => by
    refine ⟨true, Ev.step (f := fun _ => some true) (fun k => ?_) (Ev.now _), ?_⟩
    · rw [slices_Equal_int_int.l0, if_neg (by omega)]
    · rw [List.drop_of_length_le (by omega), List.drop_of_length_le (by omega)]; simp
  | n + 1, i, h => by
    obtain ⟨x, hx⟩ : ∃ x, l[i]? = some x := ⟨_, List.getElem?_eq_getElem (by omega)⟩
    obtain ⟨y, hy⟩ : ∃ y, m[i]? = some y := ⟨_, List.getElem?_eq_getElem (by omega)⟩
    by_cases hxy : x = y
    · obtain ⟨b, hb1, hb2⟩ := iEq_ev l m hlen hb n (i + 1) (by omega)
      refine ⟨b, Ev.step (f := fun k => slices_Equal_int_int.l0 k l m (l.length : Int) ((i + 1 : Nat) : Int)) (fun k => ?_) hb1, ?_⟩
      · rw [slices_Equal_int_int.l0, if_pos (by omega), if_pos (by omega), if_pos (by omega), if_pos (by omega), rdI hx, rdI hy, if_pos hxy, w64s (by omega) (by omega)]
        rfl
      · rw [drop_next hx hy, hb2]; simp [hxy]
    · refine ⟨false, Ev.step (f := fun _ => some false) (fun k => ?_) (Ev.now _), ?_⟩
      · rw [slices_Equal_int_int.l0, if_pos (by omega), if_pos (by omega), if_pos (by omega), if_pos (by omega), rdI hx, rdI hy, if_neg hxy]
      · rw [drop_next hx hy]; simp [hxy]
theorem iEq_ref (l m : List Int) (hb : l.length ≤ 140737488355328) : ∃ b, Ev (fun k => slices_Equal_int_int.f k l m) b ∧ (b = true ↔ l = m) := by
  by_cases hlen : l.length = m.length
  · obtain ⟨b, h1, h2⟩ := iEq_ev l m hlen hb l.length 0 (by omega)
    refine ⟨b, Ev.congr (fun k => ?_) h1, by simpa using h2⟩
    simp only [slices_Equal_int_int.f]
    rw [if_pos (by omega)]; rfl
  · refine ⟨false, ?_, ?_⟩
    · refine Ev.congr (fun k => ?_) (Ev.now false)
      simp only [slices_Equal_int_int.f]
      rw [if_neg (by omega)]
    · simp; intro e; exact hlen (congrArg List.length e)

/-- cmd.same at two commands. -/
abbrev sameF (k : Nat) (c d : Cp.C) : Option Bool := cmd_same.f k c.kind c.t c.prio c.id c.n c.m (c.body.map toSC) c.preds d.kind d.t d.prio d.id d.n d.m (d.body.map toSC) d.preds

theorem same_cases (c d : Cp.C) (hb : c.body.length ≤ 140737488355328) (hl : c.preds.length ≤ 140737488355328) : ∃ b, Ev (fun k => sameF k c d) b ∧ (b = true ↔ c = d) := by
  obtain ⟨c1, c2, c3, c4, c5, c6, c7, c8⟩ := c
  obtain ⟨d1, d2, d3, d4, d5, d6, d7, d8⟩ := d
  simp only at hb hl
  have no : ∀ (P : Prop), ¬ P → (∀ k, sameF k ⟨c1, c2, c3, c4, c5, c6, c7, c8⟩ ⟨d1, d2, d3, d4, d5, d6, d7, d8⟩ = some false) → ((⟨c1, c2, c3, c4, c5, c6, c7, c8⟩ : Cp.C) = ⟨d1, d2, d3, d4, d5, d6, d7, d8⟩ → P) → ∃ b, Ev (fun k => sameF k ⟨c1, c2, c3, c4, c5, c6, c7, c8⟩ ⟨d1, d2, d3, d4, d5, d6, d7, d8⟩) b ∧ (b = true ↔ (⟨c1, c2, c3, c4, c5, c6, c7, c8⟩ : Cp.C) = ⟨d1, d2, d3, d4, d5, d6, d7, d8⟩) := fun P hP h e => ⟨false, Ev.congr h (Ev.now false), ⟨fun h => (by cases h), fun h => absurd (e h) hP⟩⟩
  unfold sameF at *
  simp only at *
  unfold cmd_same.f at *
  by_cases h1 : c1 = d1
  rotate_left
  · exact no (c1 = d1) h1 (fun k => by rw [if_neg h1]) (fun e => by injection e)
  by_cases h2 : c2 = d2
  rotate_left
  · exact no (c2 = d2) h2 (fun k => by rw [if_pos h1, if_neg h2]) (fun e => by injection e)
  by_cases h3 : c3 = d3
  rotate_left
  · exact no (c3 = d3) h3 (fun k => by rw [if_pos h1, if_pos h2, if_neg h3]) (fun e => by injection e)
  by_cases h4 : c4 = d4
  rotate_left
  · exact no (c4 = d4) h4 (fun k => by rw [if_pos h1, if_pos h2, if_pos h3, if_neg h4]) (fun e => by injection e)
  by_cases h5 : c5 = d5
  rotate_left
  · exact no (c5 = d5) h5 (fun k => by rw [if_pos h1, if_pos h2, if_pos h3, if_pos h4, if_neg h5]) (fun e => by injection e)
  by_cases h6 : c6 = d6
  rotate_left
  · exact no (c6 = d6) h6 (fun k => by rw [if_pos h1, if_pos h2, if_pos h3, if_pos h4, if_pos h5, if_neg h6]) (fun e => by injection e)
  simp only [if_pos h1, if_pos h2, if_pos h3, if_pos h4, if_pos h5, if_pos h6]
  obtain ⟨b, hb1, hb2⟩ := sEq_ref (c7.map toSC) (d7.map toSC) (by simpa using hb)
  obtain ⟨b', hb1', hb2'⟩ := iEq_ref c8 d8 hl
  subst h1; subst h2; subst h3; subst h4; subst h5; subst h6
  cases b with
  | false =>
    have : c7 ≠ d7 := fun e => by have := hb2.2 (by rw [e]); cases this
    refine ⟨false, Ev.bind hb1 (Ev.congr (fun k => ?_) (Ev.now false)), ⟨fun h => (by cases h), fun h => absurd (by injection h) this⟩⟩
    rfl
  | true =>
    have h7 := mapSC_inj (hb2.1 rfl)
    subst h7
    refine ⟨b', Ev.bind hb1 ?_, ?_⟩
    · refine Ev.congr (fun k => if_pos rfl) (Ev.bind (f := fun _ t => some t) hb1' (Ev.now b'))
    · rw [hb2']; simp

theorem csame_any (c d : Cp.C) (A1 A2 A3 A4 : Option Addr) (n1 n2 n3 n4 : Nat) (w : World) (h1 : OpsAt w A1 c.body) (h1' : c.body.length ≤ n1) (h2 : IntsAt w A2 c.preds) (h2' : c.preds.length ≤ n2) (h3 : OpsAt w A3 d.body) (h3' : d.body.length ≤ n3) (h4 : IntsAt w A4 d.preds) (h4' : d.preds.length ≤ n4)
    (hb : c.body.length ≤ 140737488355328) (hl : c.preds.length ≤ 140737488355328) (hb2 : d.body.length ≤ 140737488355328) (hl2 : d.preds.length ≤ 140737488355328) :
    Calls Tryd.prog 30 #[.agg (cmdCells c A1 n1 (.slice A2 c.preds.length n2)), .agg (cmdCells d A3 n3 (.slice A4 d.preds.length n4))] w fun e w' => e = .returned (.bool (decide (c = d))) ∧ Below w.heap.size w w' := by
  obtain ⟨b, hb1, hb2'⟩ := same_cases c d hb hl
  obtain ⟨k, hk⟩ := hb1.rounds
  have e : b = decide (c = d) := by
    by_cases h : c = d
    · rw [hb2'.2 h]; simp [h]
    · cases b with
      | false => simp [h]
      | true => exact absurd (hb2'.1 rfl) h
  have := cmd_same.calls k c.kind c.t c.prio c.id c.n c.m A1 n1 (c.body.map toSC) A2 n2 c.preds d.kind d.t d.prio d.id d.n d.m A3 n3 (d.body.map toSC) A4 n4 d.preds b w
    (opsC h1 (by omega)) (by simpa using h1') (intsC h2 (by omega)) h2' (opsC h3 (by omega)) (by simpa using h3') (intsC h4 (by omega)) h4' hk
  rw [List.length_map, List.length_map, e] at this
  exact this
end Go.Proofs.YtllabeiadeclkaaDoor

/-! CmdLens: Commands that are read: their numbers and lengths. -/
namespace Go.Proofs.YtllabeiadeclkaaDoor

theorem bparse_len (s : List UInt8) : (Bp.parse s).1.length ≤ 16 := by
  unfold Bp.parse
  split
  · simp
  · split
    · simp
    · split
      · simp
      · split
        · rename_i h
          have := h.1
          simp only [Bp.bodyOk, Bool.and_eq_true, decide_eq_true_eq] at this
          exact this.1
        · simp

/-- A command that is read so far. -/
structure Cin (c : Cp.C) : Prop where
  rng : Cp.Rng c
  body : c.body.length ≤ 16
  preds : c.preds.length ≤ 16

theorem cin_zero (k : Int) : Cin { Cp.zero with kind := k } :=
  ⟨⟨by simp [Cp.zero], by simp [Cp.zero], by simp [Cp.zero], by simp [Cp.zero], by simp [Cp.zero], by simp [Cp.zero], by simp [Cp.zero], by simp [Cp.zero], by simp [Cp.zero], by simp [Cp.zero], fun p hp => by cases hp⟩, by simp [Cp.zero], by simp [Cp.zero]⟩

theorem put_in {c c' : Cp.C} {what : Int} {s : List UInt8} (h : Cp.put c what s = some c') (R : Cin c) : Cin c' := by
  obtain ⟨⟨t0, t1, p0, p1, i0, i1, n0, n1, m0, m1, l0⟩, hb, hp⟩ := R
  unfold Cp.put at h
  split at h
  · split at h
    · simp only [Option.some.injEq] at h
      subst h
      exact ⟨⟨t0, t1, p0, p1, i0, i1, n0, n1, m0, m1, l0⟩, bparse_len _, hp⟩
    · cases h
  · split at h
    · obtain ⟨n', hn', rfl⟩ := Option.map_eq_some_iff.1 h
      obtain ⟨n, hn, hna⟩ := Option.bind_eq_some_iff.1 hn'
      obtain rfl : (n : Int) = n' := by simpa using hna
      obtain ⟨_, _, _, hlt⟩ := number_mag (by omega) hn
      exact ⟨⟨t0, t1, p0, p1, i0, i1, by simp, by simp; omega, m0, m1, l0⟩, hb, hp⟩
    · split at h
      · obtain ⟨n', hn', rfl⟩ := Option.map_eq_some_iff.1 h
        obtain ⟨n, hn, hna⟩ := Option.bind_eq_some_iff.1 hn'
        obtain rfl : (n : Int) = n' := by simpa using hna
        obtain ⟨_, _, _, hlt⟩ := number_mag (by omega) hn
        exact ⟨⟨t0, t1, p0, p1, i0, i1, n0, n1, by simp, by simp; omega, l0⟩, hb, hp⟩
      · split at h
        · cases h
        · rename_i n hn
          obtain ⟨_, _, _, hlt⟩ := number_mag (by omega) hn
          split at h
          · simp only [Option.some.injEq] at h; subst h
            exact ⟨⟨by first | (simp; done) | (simp; omega), by first | (simp; done) | (simp; omega), p0, p1, i0, i1, n0, n1, m0, m1, l0⟩, hb, hp⟩
          · split at h
            · simp only [Option.some.injEq] at h; subst h
              exact ⟨⟨t0, t1, by first | (simp; done) | (simp; omega), by first | (simp; done) | (simp; omega), i0, i1, n0, n1, m0, m1, l0⟩, hb, hp⟩
            · split at h
              · simp only [Option.some.injEq] at h; subst h
                exact ⟨⟨t0, t1, p0, p1, by first | (simp; done) | (simp; omega), by first | (simp; done) | (simp; omega), n0, n1, m0, m1, l0⟩, hb, hp⟩
              · split at h
                · split at h
                  · simp only [Option.some.injEq] at h; subst h
                    refine ⟨⟨t0, t1, p0, p1, i0, i1, n0, n1, m0, m1, fun p hm => ?_⟩, hb, by first | (simp; done) | (simp; omega)⟩
                    rcases List.mem_append.1 hm with hm | hm
                    · exact l0 p hm
                    · obtain rfl : p = n := by simpa using hm
                      omega
                  · cases h
                · cases h

theorem fill_in : ∀ (l : List (List UInt8)) (c : Cp.C) (i : Int) (c' : Cp.C), Cp.fill c i l = some c' → Cin c → Cin c'
  | [], c, i, c', h, R => by
    unfold Cp.fill at h
    split at h
    · simp only [Option.some.injEq] at h; subst h; exact R
    · cases h
  | s :: r, c, i, c', h, R => by
    unfold Cp.fill at h
    obtain ⟨c1, h1, h2⟩ := Option.bind_eq_some_iff.1 h
    exact fill_in r c1 _ c' h2 (put_in h1 R)

theorem parse_in (s : List UInt8) : Cin (Cp.parse s).1 := by
  unfold Cp.parse
  split
  · exact cin_zero 0
  · split
    · exact cin_zero 0
    · split
      · exact cin_zero 0
      · rename_i c h
        exact fill_in _ _ _ _ h (cin_zero _)
end Go.Proofs.YtllabeiadeclkaaDoor

/-! CmdText: cmd.Text: a command's line. -/
namespace Go.Proofs.YtllabeiadeclkaaDoor
open Go.RowKit Go.Proofs.YtllabeiadeclkaaDoorW

theorem cparse_any (s : List UInt8) (w : World) (G : Glob w) (hs : s.length ≤ 9223372036854775807) : Calls Tryd.prog 12 #[.string (S s)] w (CParsePost s w) := by
  rcases Nat.lt_or_ge 1000 s.length with h | h
  · exact cparse_long s w h
  · exact cparse_main s w G h

theorem ints_below {w W : World} {A : Option Addr} {l : List Int} (h : IntsAt w A l) (hb : Below w.heap.size w W) : IntsAt W A l := fun hl => by
  obtain ⟨b, o, rfl, hlt, hc⟩ := h hl
  exact ⟨b, o, rfl, Nat.lt_of_lt_of_le hlt hb.size, fun j x hx => cellk hb (hc j x hx)⟩

theorem text_bad {c : Cp.C} (h : c.kind < 1 ∨ 14 < c.kind) : Cp.text c = ([], 1) := by unfold Cp.text; rw [if_pos h]
theorem text_no {c : Cp.C} (h : Cp.parse (Cp.line c) ≠ (c, 0)) : Cp.text c = ([], 1) := by
  unfold Cp.text
  rw [if_neg h]
  split <;> rfl
theorem text_yes {c : Cp.C} (h0 : 1 ≤ c.kind) (h1 : c.kind ≤ 14) (h : Cp.parse (Cp.line c) = (c, 0)) : Cp.text c = (Cp.line c, 0) := by
  unfold Cp.text
  rw [if_neg (by omega), if_pos h]

set_option maxRecDepth 100000 in
theorem ctext_bad (c : Cp.C) (A : Option Addr) (cap : Nat) (v : Value) (w : World) (hk : c.kind < 1 ∨ 14 < c.kind) :
    Calls Tryd.prog 13 #[.agg (cmdCells c A cap v)] w fun e w' => e = .returned (.tuple #[.string (S (Cp.text c).1), .int .i64 (Cp.text c).2]) ∧ Below w.heap.size w w' := by
  rw [text_bad hk]
  obtain ⟨ck, ct, cp, ci, cn, cm, cb, cl⟩ := c
  simp only at hk
  unfold cmdCells
  rcases Decidable.em (ck < 1) with h | h
  · have hd : decide (ck < 1) = true := decide_eq_true h
    clear hk h
    go_enter Tryd.func13, Tryd.ntmps13
    go_wp2
    go_ret2
    exact ⟨rfl, bl1 (bl0 w) _⟩
  · have hd : decide (ck < 1) = false := decide_eq_false h
    have h14 : 14 < ck := by omega
    have hd' : decide (14 < ck) = true := decide_eq_true h14
    clear hk h h14
    go_enter Tryd.func13, Tryd.ntmps13
    go_wp2
    go_ret2
    exact ⟨rfl, bl1 (bl0 w) _⟩

set_option maxRecDepth 100000 in
set_option maxHeartbeats 1600000 in
theorem ctext_good (c : Cp.C) (k : Nat) (hkd : c.kind = k) (A A' : Option Addr) (cap cap' : Nat) (w : World) (G : Glob w) (R : Cp.Rng c) (hk : 1 ≤ k) (hk2 : k ≤ 14) (ho : OpsAt w A c.body) (hp : IntsAt w A' c.preds) (hb : c.body.length ≤ 1000) (hl : c.preds.length ≤ 1000) (hc : c.body.length ≤ cap) (hc' : c.preds.length ≤ cap') :
    Calls Tryd.prog 13 #[.agg (cmdCells c A cap (.slice A' c.preds.length cap'))] w fun e w' => e = .returned (.tuple #[.string (S (Cp.text c).1), .int .i64 (Cp.text c).2]) ∧ Below w.heap.size w w' := by
  have HL : Hid (∀ W, Below w.heap.size w W → Calls Tryd.prog 29 #[.agg (cmdCells c A cap (.slice A' c.preds.length cap'))] W fun e w' => e = .returned (.string (S (Cp.line c))) ∧ Below W.heap.size W w') :=
    Lib.hid fun W hB => line_any c k hkd A A' cap cap' W (G.below hB) R hk hk2 (ho.below hB) (ints_below hp hB) (by omega) (by omega) hc'
  have hln := line_len c R
  have HPa : Hid (∀ W, Below w.heap.size w W → Calls Tryd.prog 12 #[.string (S (Cp.line c))] W (CParsePost (Cp.line c) W)) := Lib.hid fun W hB => cparse_any (Cp.line c) W (G.below hB) (by omega)
  have HY : Hid (Cp.parse (Cp.line c) = (c, 0) → Cp.text c = (Cp.line c, 0)) := Lib.hid fun h => text_yes (by omega) (by omega) h
  have HN : Hid (Cp.parse (Cp.line c) ≠ (c, 0) → Cp.text c = ([], 1)) := Lib.hid fun h => text_no h
  clear hln
  unfold CParsePost at HPa
  have hpl := parse_in (Cp.line c)
  generalize hq : Cp.parse (Cp.line c) = q at *
  clear hq
  generalize Cp.line c = ln at *
  generalize Cp.text c = tx at *
  obtain ⟨d, er⟩ := q
  have hpb : d.body.length ≤ 16 := hpl.body
  have hpp : d.preds.length ≤ 16 := hpl.preds
  clear hpl
  simp only at HPa
  have HS : Hid (∀ W A2 n2 A4 n4, Below w.heap.size w W → OpsAt W A2 d.body → d.body.length ≤ n2 → IntsAt W A4 d.preds → d.preds.length ≤ n4 → Calls Tryd.prog 30 #[.agg (cmdCells c A cap (.slice A' c.preds.length cap')), .agg (cmdCells d A2 n2 (.slice A4 d.preds.length n4))] W fun e w' => e = .returned (.bool (decide (c = d))) ∧ Below W.heap.size W w') :=
    Lib.hid fun W A2 n2 A4 n4 hB h1 h2 h3 h4 => csame_any c d A A' A2 A4 cap cap' n2 n4 W (ho.below hB) hc (ints_below hp hB) hc' h1 h2 h3 h4 (by omega) (by omega) (by omega) (by omega)
  have hcd : c = d ∨ c ≠ d := Decidable.em _
  have hcd' : decide (c = d) = true ∨ decide (c = d) = false := by cases decide (c = d) <;> simp
  have HDt := Lib.hid (of_decide_eq_true (p := c = d))
  have HDf := Lib.hid (of_decide_eq_false (p := c = d))
  clear ho hp G R hc hc'
  generalize hbv : decide (c = d) = bv at *
  clear hbv hcd
  obtain ⟨ck, ct, cp, ci, cn, cm, cb, cl⟩ := c
  obtain rfl : ck = k := hkd
  obtain ⟨dk, dt, dp, di, dn, dm, db, dl⟩ := d
  unfold cmdCells at HL HS HPa ⊢
  simp only at HL HS HPa hpb hpp ⊢
  by_cases he : er = 0
  · subst he
    rcases hcd' with rfl | rfl
    · have HT := Lib.hid (HY.out (by rw [HDt.out rfl]))
      clear HY HN HDt HDf
      go_enter Tryd.func13, Tryd.ntmps13
      go_wp2_with (first
        | (go_at_call 29; go_must (refine (HL.out _ (bl1 (bl0 w) _)).mono ?_; rintro e w1 ⟨rfl, hb1⟩; have HB1 := Lib.hid (bl3 (bl1 (bl0 w) _) hb1); have HR1 := Lib.hid (blk hb1 (alloc_new w _ _ rfl)); clear hb1))
        | (go_at_call 12; go_must (refine (HPa.out _ HB1.out).mono ?_; rintro e w2 ⟨hb2, A2, n2, A4, n4, rfl, h1, h2, h3, h4⟩; have HB2 := Lib.hid (bl3 HB1.out hb2); have HR2 := Lib.hid (blk hb2 HR1.out); obtain ⟨⟨g0, g1, g2, g3, g4, g5, g6, g7⟩, gf⟩ := cells8 (c := ⟨k, ct, cp, ci, cn, cm, cb, cl⟩) HR2.out; have hlt := (Array.getElem?_eq_some_iff.1 HR2.out).1; have H1 := Lib.hid h1; have H2 := Lib.hid h2; have H3 := Lib.hid h3; have H4 := Lib.hid h4; clear hb2 h1 h2 h3 h4))
        | (go_at_call 30; go_must (refine (HS.out _ A2 n2 A4 n4 (bl1 HB2.out _) (H2.out.below (bl1 (bl0 w2) _)) H1.out (ints_below H4.out (bl1 (bl0 w2) _)) H3.out).mono ?_; rintro e w3 ⟨rfl, hb3⟩; have HB3 := Lib.hid (bl3 (bl1 HB2.out _) hb3); clear hb3)))
      go_ret2
      exact ⟨by rw [HT.out]; rfl, HB3.out⟩
    · have HT := Lib.hid (HN.out (fun e => HDf.out rfl (by injection e with e1 e2; exact e1.symm)))
      clear HY HN HDt HDf
      go_enter Tryd.func13, Tryd.ntmps13
      go_wp2_with (first
        | (go_at_call 29; go_must (refine (HL.out _ (bl1 (bl0 w) _)).mono ?_; rintro e w1 ⟨rfl, hb1⟩; have HB1 := Lib.hid (bl3 (bl1 (bl0 w) _) hb1); have HR1 := Lib.hid (blk hb1 (alloc_new w _ _ rfl)); clear hb1))
        | (go_at_call 12; go_must (refine (HPa.out _ HB1.out).mono ?_; rintro e w2 ⟨hb2, A2, n2, A4, n4, rfl, h1, h2, h3, h4⟩; have HB2 := Lib.hid (bl3 HB1.out hb2); have HR2 := Lib.hid (blk hb2 HR1.out); obtain ⟨⟨g0, g1, g2, g3, g4, g5, g6, g7⟩, gf⟩ := cells8 (c := ⟨k, ct, cp, ci, cn, cm, cb, cl⟩) HR2.out; have hlt := (Array.getElem?_eq_some_iff.1 HR2.out).1; have H1 := Lib.hid h1; have H2 := Lib.hid h2; have H3 := Lib.hid h3; have H4 := Lib.hid h4; clear hb2 h1 h2 h3 h4))
        | (go_at_call 30; go_must (refine (HS.out _ A2 n2 A4 n4 (bl1 HB2.out _) (H2.out.below (bl1 (bl0 w2) _)) H1.out (ints_below H4.out (bl1 (bl0 w2) _)) H3.out).mono ?_; rintro e w3 ⟨rfl, hb3⟩; have HB3 := Lib.hid (bl3 (bl1 HB2.out _) hb3); clear hb3)))
      go_ret2
      exact ⟨by rw [HT.out]; rfl, HB3.out⟩
  · have hne : (er != 0) = true := by simpa using he
    have HT := Lib.hid (HN.out fun e => he (by injection e))
    clear he HY HN
    go_enter Tryd.func13, Tryd.ntmps13
    go_wp2_with (first
      | (go_at_call 29; go_must (refine (HL.out _ (bl1 (bl0 w) _)).mono ?_; rintro e w1 ⟨rfl, hb1⟩; have HB1 := Lib.hid (bl3 (bl1 (bl0 w) _) hb1); have HR1 := Lib.hid (blk hb1 (alloc_new w _ _ rfl)); clear hb1))
      | (go_at_call 12; go_must (refine (HPa.out _ HB1.out).mono ?_; rintro e w2 ⟨hb2, A2, n2, A4, n4, rfl, h1, h2, h3, h4⟩; have HB2 := Lib.hid (bl3 HB1.out hb2); have HR2 := Lib.hid (blk hb2 HR1.out); obtain ⟨⟨g0, g1, g2, g3, g4, g5, g6, g7⟩, gf⟩ := cells8 (c := ⟨k, ct, cp, ci, cn, cm, cb, cl⟩) HR2.out; have hlt := (Array.getElem?_eq_some_iff.1 HR2.out).1; have H1 := Lib.hid h1; have H2 := Lib.hid h2; have H3 := Lib.hid h3; have H4 := Lib.hid h4; clear hb2 h1 h2 h3 h4)))
    go_ret2
    exact ⟨by rw [HT.out]; rfl, bl1 HB2.out _⟩
end Go.Proofs.YtllabeiadeclkaaDoor

/-! CmdAwake: vergerlaw24.awake. -/
namespace Go.Proofs.YtllabeiadeclkaaDoor
open Go.RowKit Go.Proofs.YtllabeiadeclkaaDoorW

namespace Cp
/-- cmd.put, with the document's body. -/
def putR (c : C) (what : Int) (s : List UInt8) : Option C :=
  if what = 6 then (if (Bp.refBody (spaced s)).2 = 0 ∧ (32 : UInt8) ∉ s then some { c with body := (Bp.refBody (spaced s)).1 } else none)
  else if what = 4 then (Bp.number 18 s).map fun n => { c with n := n }
  else if what = 5 then (Bp.number 18 s).map fun n => { c with m := n }
  else match Bp.number 4 s with
    | none => none
    | some n =>
      if what = 1 then some { c with t := n } else if what = 2 then some { c with prio := n } else if what = 3 then some { c with id := n }
      else if what = 7 then (if c.preds.length + 1 ≤ 16 then some { c with preds := c.preds ++ [(n : Int)] } else none)
      else none
theorem put_eqR (c : C) (what : Int) (s : List UInt8) : put c what s = putR c what s := by unfold put putR; rw [Bp.parse_eq]; rfl
def fillR (c : C) (i : Int) : List (List UInt8) → Option C
  | [] => if place c.kind i = 0 ∨ place c.kind i = 7 then some c else none
  | s :: r => (putR c (place c.kind i) s).bind fun c' => fillR c' (if place c.kind i = 7 then i else i + 1) r
theorem fill_eqR : ∀ (l : List (List UInt8)) (c : C) (i : Int), fill c i l = fillR c i l
  | [], c, i => rfl
  | s :: r, c, i => by
    unfold fill fillR
    rw [put_eqR]
    congr 1
    funext c'
    exact fill_eqR r c' _
def parseR (s : List UInt8) : C × Int :=
  if 1000 < s.length then (zero, 2) else
  if kindOf ((Bp.pieces 32 s).headD []) = 0 then (zero, 3) else
  match fillR { zero with kind := kindOf ((Bp.pieces 32 s).headD []) } 0 (Bp.pieces 32 s).tail with
  | none => (zero, 3)
  | some c => (c, 0)
theorem parse_eqR (s : List UInt8) : parse s = parseR s := by unfold parse parseR; rw [fill_eqR]; rfl

def awakeT : List UInt8 := [115, 117, 98, 109, 105, 116, 32, 48, 32, 51, 32, 115, 117, 98, 109, 105, 116, 44, 50, 59, 112, 97, 110, 105, 99, 32, 49, 32, 50]
def awakeC : C := ⟨1, 0, 3, 0, 0, 0, [⟨2, 2, 0⟩, ⟨5, 0, 0⟩], [1, 2]⟩
theorem awake_parse : parse awakeT = (awakeC, 0) := by rw [parse_eqR]; decide +kernel
theorem itoa_small {n : Nat} (h : n < 10) : Lib.itoa (n : Int) = [UInt8.ofNat (48 + n)] := (Bp.itoa_nat n).trans (Bp.dec_small h)
theorem awake_body : bodyW awakeC = [115, 117, 98, 109, 105, 116, 44, 50, 59, 112, 97, 110, 105, 99] := by
  have h : Bp.bodyOk awakeC.body = true := by decide
  have h2 : Lib.itoa 2 = [50] := itoa_small (n := 2) (by omega)
  unfold bodyW
  rw [h]
  simp [awakeC, Bp.textOf, Bp.told, h2, Bp.submitW, Bp.panicW, Lib.join_cons, Lib.joinTail, comma'd]
theorem awake_line : line awakeC = awakeT := by
  have e0 : place 1 0 = 1 := by decide
  have e1 : place 1 1 = 2 := by decide
  have e2 : place 1 2 = 6 := by decide
  have e3 : place 1 3 = 7 := by decide
  have h0 : Lib.itoa 0 = [48] := itoa_small (n := 0) (by omega)
  have h1 : Lib.itoa 1 = [49] := itoa_small (n := 1) (by omega)
  have h2 : Lib.itoa 2 = [50] := itoa_small (n := 2) (by omega)
  have h3 : Lib.itoa 3 = [51] := itoa_small (n := 3) (by omega)
  have hb := awake_body
  unfold line lineL
  rw [show awakeC.kind = 1 from rfl, show rowLen 1 = 4 from rfl, wordsTo_succ, wordsTo_succ, wordsTo_succ, wordsTo_succ, wordsTo_zero, show awakeC.kind = 1 from rfl]
  simp [e0, e1, e2, e3, pieceOf, toldW, hb]
  simp [awakeC, h0, h1, h2, h3, word, wordsL, Lib.join_cons, Lib.joinTail, awakeT]
theorem awake_textOf : text awakeC = (awakeT, 0) := by
  rw [text_yes (by decide) (by decide) (by rw [awake_line]; exact awake_parse), awake_line]
end Cp

theorem cawake_read (w : World) (G : Glob w) : Calls Tryd.prog 12 #[.string ⟨#[115, 117, 98, 109, 105, 116, 32, 48, 32, 51, 32, 115, 117, 98, 109, 105, 116, 44, 50, 59, 112, 97, 110, 105, 99, 32, 49, 32, 50]⟩] w fun e w' =>
    Below w.heap.size w w' ∧ ∃ A cap A' cap', e = .returned (.tuple #[.agg #[.int .i64 1, .int .i64 0, .int .i64 3, .int .i64 0, .int .u64 0, .int .u64 0, .slice A 2 cap, .slice A' 2 cap'], .int .i64 0]) ∧ 2 ≤ cap ∧ OpsAt w' A Cp.awakeC.body ∧ 2 ≤ cap' ∧ IntsAt w' A' Cp.awakeC.preds := by
  refine (cparse_any Cp.awakeT w G (by decide)).mono ?_
  rintro e w' ⟨hb, A, cap, A', cap', he, h1, h2, h3, h4⟩
  rw [Cp.awake_parse] at he h1 h2 h3 h4
  exact ⟨hb, A, cap, A', cap', he, h1, h2, h3, h4⟩

set_option maxRecDepth 100000 in
set_option maxHeartbeats 1600000 in
theorem cawake_any (w : World) (G : Glob w) : Calls Tryd.prog 14 #[] w fun e w' => e = .returned (.bool true) ∧ Below w.heap.size w w' := by
  have HP := Lib.hid (cawake_read w G)
  have HT : Hid (∀ W A cap A' cap', Below w.heap.size w W → OpsAt W A Cp.awakeC.body → 2 ≤ cap → IntsAt W A' Cp.awakeC.preds → 2 ≤ cap' → Calls Tryd.prog 13 #[.agg #[.int .i64 1, .int .i64 0, .int .i64 3, .int .i64 0, .int .u64 0, .int .u64 0, .slice A 2 cap, .slice A' 2 cap']] W fun e w' => e = .returned (.tuple #[.string ⟨#[115, 117, 98, 109, 105, 116, 32, 48, 32, 51, 32, 115, 117, 98, 109, 105, 116, 44, 50, 59, 112, 97, 110, 105, 99, 32, 49, 32, 50]⟩, .int .i64 0]) ∧ Below W.heap.size W w') := Lib.hid fun W A cap A' cap' hB h1 h2 h3 h4 => by
    have R := (parse_in Cp.awakeT).rng
    rw [Cp.awake_parse] at R
    have := ctext_good Cp.awakeC 1 rfl A A' cap cap' W (G.below hB) R (by omega) (by omega) h1 h3 (by decide) (by decide) h2 h4
    rw [Cp.awake_textOf] at this
    exact this
  clear G
  go_enter Tryd.func14, Tryd.ntmps14
  go_wp2_with (first
    | (go_at_call 12; go_must (refine HP.out.mono ?_; rintro e w1 ⟨hb1, A, cap, A', cap', rfl, h1, h2, h3, h4⟩; have HB1 := Lib.hid hb1; have H1 := Lib.hid h1; have H2 := Lib.hid h2; have H3 := Lib.hid h3; have H4 := Lib.hid h4; clear hb1 h1 h2 h3 h4))
    | (go_at_call 13; go_must (refine (HT.out _ A cap A' cap' (bl1 HB1.out _) (H2.out.below (bl1 (bl0 w1) _)) H1.out (ints_below H4.out (bl1 (bl0 w1) _)) H3.out).mono ?_; rintro e w2 ⟨rfl, hb2⟩; have HB2 := Lib.hid (bl3 (bl1 HB1.out _) hb2); have HR2 := Lib.hid (blk hb2 (alloc_new w1 _ _ rfl)); obtain ⟨⟨g0, g1, g2, g3, g4, g5, g6, g7⟩, gf⟩ := cells8 (c := Cp.awakeC) HR2.out; simp only [Cp.awakeC] at g0 g1 g2 g3 g4 g5 g6; clear hb2)))
  go_ret
  exact ⟨rfl, HB2.out⟩
end Go.Proofs.YtllabeiadeclkaaDoor

/-! CmdNumsPure: CmdNumbers, in plain terms. -/
namespace Go.Proofs.YtllabeiadeclkaaDoor.Cp
open Go.Proofs.YtllabeiadeclkaaDoor

theorem parse_join (w : List UInt8) (args : List (List UInt8)) (h : ∀ p ∈ w :: args, (32 : UInt8) ∉ p) (hl : (Lib.join (w :: args) [32]).length ≤ 1000) :
    parse (Lib.join (w :: args) [32]) = if kindOf w = 0 then (zero, (3 : Int)) else match fill { zero with kind := kindOf w } 0 args with | none => (zero, (3 : Int)) | some c => (c, (0 : Int)) := by
  unfold parse
  rw [if_neg (by omega), Bp.pieces_join 32 (w :: args) (by simp) h]
  rfl

theorem num_nought (m n : Nat) : Bp.number m (48 :: Lib.decDigits n) = none := by
  unfold Bp.number
  rw [if_pos]
  refine .inr (.inr ⟨rfl, fun e => Bp.dec_ne n (by injection e)⟩)
theorem num_sign (m : Nat) (c : UInt8) (r : List UInt8) (h : Bp.isDig c = false) : Bp.number m (c :: r) = none := by
  unfold Bp.number
  split
  · rfl
  · unfold Bp.numVal
    rw [if_neg (by simp [h])]
theorem num_nil (m : Nat) : Bp.number m [] = none := by unfold Bp.number; rw [if_pos (.inl rfl)]
theorem num_many (m : Nat) (s : List UInt8) (h : m < s.length) : Bp.number m s = none := by unfold Bp.number; rw [if_pos (.inr (.inl h))]

def pickW : List UInt8 := [112, 105, 99, 107]
def cancW : List UInt8 := [99, 97, 110, 99, 101, 108]
def roundW : List UInt8 := [114, 111, 117, 110, 100]
def statusW : List UInt8 := [115, 116, 97, 116, 117, 115]
def stateW : List UInt8 := [115, 116, 97, 116, 101]

theorem dec_no32 (n : Nat) : (32 : UInt8) ∉ Lib.decDigits n := Bp.dec_not n 32 (by decide)

theorem nums_pick {n : Nat} (h : n < 1000000000000000000) : parse (pickW ++ [32] ++ Lib.decDigits n ++ [32] ++ Lib.decDigits n) = (⟨6, 0, 0, 0, n, n, [], []⟩, 0) := by
  have hl : (Lib.decDigits n).length ≤ 18 := Bp.dec_len (by omega) (by omega)
  have e : pickW ++ [32] ++ Lib.decDigits n ++ [32] ++ Lib.decDigits n = Lib.join [pickW, Lib.decDigits n, Lib.decDigits n] [32] := by simp [Lib.join_cons, Lib.joinTail]
  have hlen : (Lib.join [pickW, Lib.decDigits n, Lib.decDigits n] [32]).length ≤ 1000 := by rw [← e]; simp [pickW]; omega
  have h32 := dec_no32 n
  rw [e, parse_join _ _ (by intro p hp; simp at hp; rcases hp with rfl | rfl | rfl <;> first | exact h32 | decide) hlen]
  have p0 : place 6 0 = 5 := by decide
  have p1 : place 6 1 = 4 := by decide
  have p2 : place 6 2 = 0 := by decide
  rw [show kindOf pickW = 6 by decide]
  simp [fill, put, p0, p1, p2, Bp.number_dec hl, zero]

theorem nums_cancel {m : Nat} (h : m ≤ 8191) : parse (cancW ++ [32] ++ Lib.decDigits m) = (⟨4, 0, 0, m, 0, 0, [], []⟩, 0) := by
  have hl : (Lib.decDigits m).length ≤ 4 := Bp.dec_len (by omega) (by omega)
  have e : cancW ++ [32] ++ Lib.decDigits m = Lib.join [cancW, Lib.decDigits m] [32] := by simp [Lib.join_cons, Lib.joinTail]
  have hlen : (Lib.join [cancW, Lib.decDigits m] [32]).length ≤ 1000 := by rw [← e]; simp [cancW]; omega
  have h32 := dec_no32 m
  rw [e, parse_join _ _ (by intro p hp; simp at hp; rcases hp with rfl | rfl <;> first | exact h32 | decide) hlen]
  have p0 : place 4 0 = 3 := by decide
  have p1 : place 4 1 = 0 := by decide
  rw [show kindOf cancW = 4 by decide]
  simp [fill, put, p0, p1, Bp.number_dec hl, zero]

/-- Lines that are refused. -/
def badLines (n m : Nat) : List (List UInt8) :=
  [pickW ++ [32, 48] ++ Lib.decDigits n ++ [32, 49], pickW ++ [32, 45] ++ Lib.decDigits n ++ [32, 49], pickW ++ [32] ++ Lib.decDigits n, pickW ++ [32, 32] ++ Lib.decDigits n ++ [32, 49],
   roundW ++ [32, 49, 48, 48, 48, 48, 48, 48, 48, 48, 48, 48, 48, 48, 48, 48, 48, 48, 48, 48], cancW ++ [32, 49, 48, 48, 48, 48], cancW ++ [32, 48] ++ Lib.decDigits m, statusW ++ [32, 43, 49], stateW ++ [32], 32 :: stateW]

theorem bad_join {w : List UInt8} {args : List (List UInt8)} (hw : (32 : UInt8) ∉ w) (h : ∀ p ∈ args, (32 : UInt8) ∉ p) (hl : (Lib.join (w :: args) [32]).length ≤ 1000) (hf : kindOf w = 0 ∨ fill { zero with kind := kindOf w } 0 args = none) : parse (Lib.join (w :: args) [32]) = (zero, 3) := by
  rw [parse_join w args (fun p hp => by rcases List.mem_cons.1 hp with rfl | hp; exact hw; exact h p hp) hl]
  rcases hf with hf | hf
  · rw [if_pos hf]
  · rw [hf]; split <;> rfl

theorem bad_parse {n m : Nat} (hn : n < 1000000000000000000) (hm : m ≤ 8191) : ∀ s ∈ badLines n m, parse s = (zero, 3) := by
  have hl : (Lib.decDigits n).length ≤ 18 := Bp.dec_len (by omega) (by omega)
  have hl' : (Lib.decDigits m).length ≤ 4 := Bp.dec_len (by omega) (by omega)
  have h32 := dec_no32 n
  have h32' := dec_no32 m
  have kp : kindOf pickW = 6 := by decide
  have kc : kindOf cancW = 4 := by decide
  have kr : kindOf roundW = 7 := by decide
  have ks : kindOf statusW = 9 := by decide
  have kt : kindOf stateW = 10 := by decide
  have p60 : place 6 0 = 5 := by decide
  have p61 : place 6 1 = 4 := by decide
  have p40 : place 4 0 = 3 := by decide
  have p70 : place 7 0 = 4 := by decide
  have p90 : place 9 0 = 3 := by decide
  have p00 : place 10 0 = 0 := by decide
  intro s hs
  simp only [badLines, List.mem_cons, List.not_mem_nil, or_false] at hs
  rcases hs with rfl | rfl | rfl | rfl | rfl | rfl | rfl | rfl | rfl | rfl
  · rw [show pickW ++ [32, 48] ++ Lib.decDigits n ++ [32, 49] = Lib.join [pickW, 48 :: Lib.decDigits n, [49]] [32] by simp [Lib.join_cons, Lib.joinTail]]
    refine bad_join (by decide) (by intro p hp; simp at hp; rcases hp with rfl | rfl <;> simp [h32]) (by simp [Lib.join_cons, Lib.joinTail, pickW]; omega) (.inr ?_)
    rw [kp]; simp [fill, put, p60, num_nought]
  · rw [show pickW ++ [32, 45] ++ Lib.decDigits n ++ [32, 49] = Lib.join [pickW, 45 :: Lib.decDigits n, [49]] [32] by simp [Lib.join_cons, Lib.joinTail]]
    refine bad_join (by decide) (by intro p hp; simp at hp; rcases hp with rfl | rfl <;> simp [h32]) (by simp [Lib.join_cons, Lib.joinTail, pickW]; omega) (.inr ?_)
    rw [kp]; simp [fill, put, p60, num_sign 18 45 _ (by decide)]
  · rw [show pickW ++ [32] ++ Lib.decDigits n = Lib.join [pickW, Lib.decDigits n] [32] by simp [Lib.join_cons, Lib.joinTail]]
    refine bad_join (by decide) (by intro p hp; simp at hp; subst hp; exact h32) (by simp [Lib.join_cons, Lib.joinTail, pickW]; omega) (.inr ?_)
    rw [kp]; simp [fill, put, p60, p61, Bp.number_dec hl]
  · rw [show pickW ++ [32, 32] ++ Lib.decDigits n ++ [32, 49] = Lib.join [pickW, [], Lib.decDigits n, [49]] [32] by simp [Lib.join_cons, Lib.joinTail]]
    refine bad_join (by decide) (by intro p hp; simp at hp; rcases hp with rfl | rfl | rfl <;> simp [h32]) (by simp [Lib.join_cons, Lib.joinTail, pickW]; omega) (.inr ?_)
    rw [kp]; simp [fill, put, p60, num_nil]
  · rw [show roundW ++ [32, 49, 48, 48, 48, 48, 48, 48, 48, 48, 48, 48, 48, 48, 48, 48, 48, 48, 48, 48] = Lib.join [roundW, [49, 48, 48, 48, 48, 48, 48, 48, 48, 48, 48, 48, 48, 48, 48, 48, 48, 48, 48]] [32] by simp [Lib.join_cons, Lib.joinTail]]
    refine bad_join (by decide) (by decide) (by decide) (.inr ?_)
    rw [kr]; simp [fill, put, p70, num_many]
  · rw [show cancW ++ [32, 49, 48, 48, 48, 48] = Lib.join [cancW, [49, 48, 48, 48, 48]] [32] by simp [Lib.join_cons, Lib.joinTail]]
    refine bad_join (by decide) (by decide) (by decide) (.inr ?_)
    rw [kc]; simp [fill, put, p40, num_many]
  · rw [show cancW ++ [32, 48] ++ Lib.decDigits m = Lib.join [cancW, 48 :: Lib.decDigits m] [32] by simp [Lib.join_cons, Lib.joinTail]]
    refine bad_join (by decide) (by intro p hp; simp at hp; subst hp; simp [h32']) (by simp [Lib.join_cons, Lib.joinTail, cancW]; omega) (.inr ?_)
    rw [kc]; simp [fill, put, p40, num_nought]
  · rw [show statusW ++ [32, 43, 49] = Lib.join [statusW, [43, 49]] [32] by simp [Lib.join_cons, Lib.joinTail]]
    refine bad_join (by decide) (by decide) (by decide) (.inr ?_)
    rw [ks]; simp [fill, put, p90, num_sign 4 43 _ (by decide)]
  · rw [show stateW ++ [32] = Lib.join [stateW, []] [32] by simp [Lib.join_cons, Lib.joinTail]]
    refine bad_join (by decide) (by decide) (by decide) (.inr ?_)
    rw [kt]; simp [fill, put, p00, num_nil]
  · rw [show 32 :: stateW = Lib.join [[], stateW] [32] by simp [Lib.join_cons, Lib.joinTail]]
    exact bad_join (by decide) (by decide) (by decide) (.inl (by decide))
theorem bad_len {n m : Nat} (hn : n < 1000000000000000000) (hm : m ≤ 8191) : ∀ s ∈ badLines n m, s.length ≤ 1000 := by
  have hl : (Lib.decDigits n).length ≤ 18 := Bp.dec_len (by omega) (by omega)
  have hl' : (Lib.decDigits m).length ≤ 4 := Bp.dec_len (by omega) (by omega)
  intro s hs
  simp only [badLines, List.mem_cons, List.not_mem_nil, or_false] at hs
  rcases hs with rfl | rfl | rfl | rfl | rfl | rfl | rfl | rfl | rfl | rfl <;> simp [pickW, cancW, roundW, statusW, stateW] <;> omega
end Go.Proofs.YtllabeiadeclkaaDoor.Cp

/-! CmdWordsPure: CmdWords, in plain terms. -/
namespace Go.Proofs.YtllabeiadeclkaaDoor.Cp
open Go.Proofs.YtllabeiadeclkaaDoor

def nopsub : List UInt8 := [110, 111, 112, 59, 115, 117, 98, 109, 105, 116, 44, 51]
/-- A digit's text. -/
def dg (d : Nat) : List UInt8 := [UInt8.ofNat (48 + d)]
/-- What stands at a place of a line. -/
def pc (b : Bool) (d : Nat → Nat) (i : Nat) : List UInt8 := if b = true ∧ i = 2 then nopsub else dg (d i)
def pcs (b : Bool) (d : Nat → Nat) (i : Nat) : Nat → List (List UInt8)
  | 0 => []
  | n + 1 => pc b d i :: pcs b d (i + 1) n
theorem pcs_snoc (b : Bool) (d : Nat → Nat) : ∀ (n i : Nat), pcs b d i (n + 1) = pcs b d i n ++ [pc b d (i + n)]
  | 0, i => rfl
  | n + 1, i => by
    rw [pcs, pcs_snoc b d n (i + 1), show i + 1 + n = i + (n + 1) by omega]
    rfl
theorem pcs_len (b : Bool) (d : Nat → Nat) : ∀ (n i : Nat), (pcs b d i n).length = n
  | 0, _ => rfl
  | n + 1, i => by rw [pcs, List.length_cons, pcs_len b d n (i + 1)]

def rn (k : Nat) : Nat := if k = 1 then 3 else if k = 2 then 4 else if k = 3 then 5 else if k = 5 ∨ k = 6 ∨ k = 8 then 2 else if k = 4 ∨ k = 7 ∨ k = 9 ∨ k = 11 then 1 else 0
def hasBody (k : Nat) : Bool := decide (k ≤ 3)
def lineW (k : Nat) (d : Nat → Nat) (m : Nat) : List UInt8 := Lib.join (word (k : Int) :: pcs (hasBody k) d 0 m) [32]
theorem join_snoc (w : List UInt8) : ∀ (l : List (List UInt8)) (x : List UInt8), Lib.join (w :: (l ++ [x])) [32] = Lib.join (w :: l) [32] ++ 32 :: x := by
  intro l x
  rw [Lib.join_cons, Lib.join_cons, List.append_assoc]
  congr 1
  induction l with
  | nil => simp [Lib.joinTail]
  | cons y r ih => simp [Lib.joinTail, ih]
theorem lineW_zero (k : Nat) (d : Nat → Nat) : lineW k d 0 = word (k : Int) := by simp [lineW, pcs, Lib.join_one]
theorem lineW_succ (k : Nat) (d : Nat → Nat) (m : Nat) : lineW k d (m + 1) = lineW k d m ++ 32 :: pc (hasBody k) d m := by
  unfold lineW
  rw [pcs_snoc, join_snoc, Nat.zero_add]

theorem dg_no {d : Nat} (h : d ≤ 7) : (32 : UInt8) ∉ dg d := by
  rcases (show d = 0 ∨ d = 1 ∨ d = 2 ∨ d = 3 ∨ d = 4 ∨ d = 5 ∨ d = 6 ∨ d = 7 by omega) with rfl | rfl | rfl | rfl | rfl | rfl | rfl | rfl <;> decide
theorem pc_no (b : Bool) {d : Nat → Nat} (h : ∀ i, d i ≤ 7) (i : Nat) : (32 : UInt8) ∉ pc b d i := by
  unfold pc
  split
  · decide
  · exact dg_no (h i)
theorem pcs_no (b : Bool) {d : Nat → Nat} (h : ∀ i, d i ≤ 7) : ∀ (n i : Nat), ∀ p ∈ pcs b d i n, (32 : UInt8) ∉ p
  | 0, _, p, hp => by cases hp
  | n + 1, i, p, hp => by
    rcases List.mem_cons.1 hp with rfl | hp
    · exact pc_no b h i
    · exact pcs_no b h n (i + 1) p hp
theorem pc_len (b : Bool) (d : Nat → Nat) (i : Nat) : (pc b d i).length ≤ 12 := by
  unfold pc
  split
  · decide
  · simp [dg]
theorem lineW_len (k : Nat) (d : Nat → Nat) : ∀ m, (lineW k d m).length ≤ 8 + 13 * m
  | 0 => by rw [lineW_zero]; have := word_len (k : Int); omega
  | m + 1 => by
    rw [lineW_succ, List.length_append, List.length_cons]
    have := lineW_len k d m
    have := pc_len (hasBody k) d m
    omega

theorem kinds14n {k : Nat} (h0 : 1 ≤ k) (h1 : k ≤ 14) : k = 1 ∨ k = 2 ∨ k = 3 ∨ k = 4 ∨ k = 5 ∨ k = 6 ∨ k = 7 ∨ k = 8 ∨ k = 9 ∨ k = 10 ∨ k = 11 ∨ k = 12 ∨ k = 13 ∨ k = 14 := by omega
theorem word_kind {k : Nat} (h0 : 1 ≤ k) (h1 : k ≤ 14) : kindOf (word (k : Int)) = k ∧ (32 : UInt8) ∉ word (k : Int) := by
  rcases kinds14n h0 h1 with rfl | rfl | rfl | rfl | rfl | rfl | rfl | rfl | rfl | rfl | rfl | rfl | rfl | rfl <;> decide

theorem parse_lineW {k : Nat} (h0 : 1 ≤ k) (h1 : k ≤ 14) {d : Nat → Nat} (h : ∀ i, d i ≤ 7) {m : Nat} (hm : m ≤ 31) :
    parse (lineW k d m) = match fill { zero with kind := (k : Int) } 0 (pcs (hasBody k) d 0 m) with | none => (zero, (3 : Int)) | some c => (c, (0 : Int)) := by
  obtain ⟨hk, hw⟩ := word_kind h0 h1
  have hl := lineW_len k d m
  unfold lineW at hl ⊢
  rw [parse_join _ _ (fun p hp => by
    rcases List.mem_cons.1 hp with rfl | hp
    · exact hw
    · exact pcs_no _ h m 0 p hp) (by omega), hk, if_neg (by omega)]
  try rfl

theorem num_dg {d : Nat} (h : d ≤ 7) {m : Nat} (hm : 1 ≤ m) : Bp.number m (dg d) = some d := by
  have e : Lib.decDigits d = dg d := Bp.dec_small (by omega)
  rw [← e]
  exact Bp.number_dec (by rw [e]; simpa [dg] using hm)
theorem itoa_dg {d : Nat} (h : d ≤ 7) : Lib.itoa (d : Int) = dg d := itoa_small (by omega)
theorem dec_dg {d : Nat} (h : d ≤ 7) : Lib.decDigits d = dg d := Bp.dec_small (by omega)

def nopB : List Bp.O := [⟨1, 0, 0⟩, ⟨2, 3, 0⟩]
theorem nop_parse : Bp.parse (spaced nopsub) = (nopB, 0) := by rw [Bp.parse_eq]; decide +kernel
theorem put_nop (c : C) : put c 6 nopsub = some { c with body := nopB } := by
  unfold put
  rw [if_pos rfl, nop_parse, if_pos ⟨rfl, by decide⟩]
theorem put_none (c : C) (s : List UInt8) : put c 0 s = none := by
  simp [put]
  cases Bp.number 4 s <;> rfl
theorem put_1 (c : C) {d : Nat} (h : d ≤ 7) : put c 1 (dg d) = some { c with t := d } := by simp [put, num_dg h]
theorem put_2 (c : C) {d : Nat} (h : d ≤ 7) : put c 2 (dg d) = some { c with prio := d } := by simp [put, num_dg h]
theorem put_3 (c : C) {d : Nat} (h : d ≤ 7) : put c 3 (dg d) = some { c with id := d } := by simp [put, num_dg h]
theorem put_4 (c : C) {d : Nat} (h : d ≤ 7) : put c 4 (dg d) = some { c with n := d } := by simp [put, num_dg h]
theorem put_5 (c : C) {d : Nat} (h : d ≤ 7) : put c 5 (dg d) = some { c with m := d } := by simp [put, num_dg h]
theorem put_7 (c : C) {d : Nat} (h : d ≤ 7) : put c 7 (dg d) = if c.preds.length + 1 ≤ 16 then some { c with preds := c.preds ++ [(d : Int)] } else none := by simp [put, num_dg h]

theorem pl (k i : Int) (v : Int) (h : place k i = v) : place k i = v := h

/-- The command of a line with just as many words as it takes. -/
def resC (k : Nat) (d : Nat → Nat) : C :=
  if k = 1 then ⟨1, d 0, d 1, 0, 0, 0, nopB, []⟩ else if k = 2 then ⟨2, d 0, d 1, 0, d 3, 0, nopB, []⟩ else if k = 3 then ⟨3, d 0, d 1, 0, d 3, d 4, nopB, []⟩
  else if k = 4 then ⟨4, 0, 0, d 0, 0, 0, [], []⟩ else if k = 5 then ⟨5, d 0, 0, 0, d 1, 0, [], []⟩ else if k = 6 then ⟨6, 0, 0, 0, d 1, d 0, [], []⟩ else if k = 7 then ⟨7, 0, 0, 0, d 0, 0, [], []⟩
  else if k = 8 then ⟨8, 0, 0, 0, d 0, d 1, [], []⟩ else if k = 9 then ⟨9, 0, 0, d 0, 0, 0, [], []⟩ else if k = 11 then ⟨11, 0, 0, 0, d 0, 0, [], []⟩ else ⟨k, 0, 0, 0, 0, 0, [], []⟩

theorem p10 : place 1 0 = 1 := by decide
theorem p11 : place 1 1 = 2 := by decide
theorem p12 : place 1 2 = 6 := by decide
theorem p13 : place 1 3 = 7 := by decide
theorem p20 : place 2 0 = 1 := by decide
theorem p21 : place 2 1 = 2 := by decide
theorem p22 : place 2 2 = 6 := by decide
theorem p23 : place 2 3 = 4 := by decide
theorem p24 : place 2 4 = 0 := by decide
theorem p30 : place 3 0 = 1 := by decide
theorem p31 : place 3 1 = 2 := by decide
theorem p32 : place 3 2 = 6 := by decide
theorem p33 : place 3 3 = 4 := by decide
theorem p34 : place 3 4 = 5 := by decide
theorem p35 : place 3 5 = 0 := by decide
theorem p40 : place 4 0 = 3 := by decide
theorem p41 : place 4 1 = 0 := by decide
theorem p50 : place 5 0 = 1 := by decide
theorem p51 : place 5 1 = 4 := by decide
theorem p52 : place 5 2 = 0 := by decide
theorem p60 : place 6 0 = 5 := by decide
theorem p61 : place 6 1 = 4 := by decide
theorem p62 : place 6 2 = 0 := by decide
theorem p70 : place 7 0 = 4 := by decide
theorem p71 : place 7 1 = 0 := by decide
theorem p80 : place 8 0 = 4 := by decide
theorem p81 : place 8 1 = 5 := by decide
theorem p82 : place 8 2 = 0 := by decide
theorem p90 : place 9 0 = 3 := by decide
theorem p91 : place 9 1 = 0 := by decide
theorem pA0 : place 10 0 = 0 := by decide
theorem pB0 : place 11 0 = 4 := by decide
theorem pB1 : place 11 1 = 0 := by decide
theorem pC0 : place 12 0 = 0 := by decide
theorem pD0 : place 13 0 = 0 := by decide
theorem pE0 : place 14 0 = 0 := by decide

theorem fill_ok {k : Nat} (h0 : 1 ≤ k) (h1 : k ≤ 14) {d : Nat → Nat} (h : ∀ i, d i ≤ 7) : fill { zero with kind := (k : Int) } 0 (pcs (hasBody k) d 0 (rn k)) = some (resC k d) := by
  rcases kinds14n h0 h1 with rfl | rfl | rfl | rfl | rfl | rfl | rfl | rfl | rfl | rfl | rfl | rfl | rfl | rfl <;>
    simp [rn, hasBody, pcs, pc, fill, resC, zero, p10, p11, p12, p13, p20, p21, p22, p23, p24, p30, p31, p32, p33, p34, p35, p40, p41, p50, p51, p52, p60, p61, p62, p70, p71, p80, p81, p82, p90, p91, pA0, pB0, pB1, pC0, pD0, pE0, put_nop, put_1 _ (h 0), put_2 _ (h 1), put_4 _ (h 3), put_5 _ (h 4), put_3 _ (h 0), put_4 _ (h 1), put_5 _ (h 0), put_4 _ (h 0), put_5 _ (h 1)]

theorem fill_more {k : Nat} (h0 : 2 ≤ k) (h1 : k ≤ 14) {d : Nat → Nat} (h : ∀ i, d i ≤ 7) (t : Nat) : fill { zero with kind := (k : Int) } 0 (pcs (hasBody k) d 0 (rn k + (t + 1))) = none := by
  rcases kinds14n (by omega) h1 with rfl | rfl | rfl | rfl | rfl | rfl | rfl | rfl | rfl | rfl | rfl | rfl | rfl | rfl
  · omega
  all_goals
    simp only [rn, Nat.add_comm _ (t + 1)]
    simp [hasBody, pcs, pc, fill, zero, p20, p21, p22, p23, p24, p30, p31, p32, p33, p34, p35, p40, p41, p50, p51, p52, p60, p61, p62, p70, p71, p80, p81, p82, p90, p91, pA0, pB0, pB1, pC0, pD0, pE0, put_none, put_nop, put_1 _ (h 0), put_2 _ (h 1), put_4 _ (h 3), put_5 _ (h 4), put_3 _ (h 0), put_4 _ (h 1), put_5 _ (h 0), put_4 _ (h 0), put_5 _ (h 1)]

theorem fill_less {k : Nat} (h0 : 1 ≤ k) (h1 : k ≤ 14) {d : Nat → Nat} (h : ∀ i, d i ≤ 7) {m : Nat} (hm : m < rn k) : fill { zero with kind := (k : Int) } 0 (pcs (hasBody k) d 0 m) = none := by
  rcases kinds14n h0 h1 with rfl | rfl | rfl | rfl | rfl | rfl | rfl | rfl | rfl | rfl | rfl | rfl | rfl | rfl <;> simp only [rn] at hm <;> simp at hm <;>
    (rcases (show m = 0 ∨ m = 1 ∨ m = 2 ∨ m = 3 ∨ m = 4 by omega) with rfl | rfl | rfl | rfl | rfl) <;> (try omega) <;>
    simp [hasBody, pcs, pc, fill, zero, p10, p11, p12, p13, p20, p21, p22, p23, p24, p30, p31, p32, p33, p34, p35, p40, p41, p50, p51, p52, p60, p61, p62, p70, p71, p80, p81, p82, p90, p91, pA0, pB0, pB1, pC0, pD0, pE0, put_nop, put_1 _ (h 0), put_2 _ (h 1), put_4 _ (h 3), put_5 _ (h 4), put_3 _ (h 0), put_4 _ (h 1), put_5 _ (h 0), put_4 _ (h 0), put_5 _ (h 1)]

theorem fill_preds (b : Bool) {d : Nat → Nat} (h : ∀ i, d i ≤ 7) : ∀ (t j : Nat) (c : C), 3 ≤ j → c.kind = 1 → c.preds.length ≤ 16 → (fill c 3 (pcs b d j t)).isSome = decide (c.preds.length + t ≤ 16)
  | 0, j, c, hj, hk, hl => by
    simp only [pcs, fill, hk, p13]
    simp; omega
  | t + 1, j, c, hj, hk, hl => by
    obtain ⟨ck, ct, cp, ci, cn, cm, cb, cl⟩ := c
    simp only at hk hl
    subst hk
    have e : pc b d j = dg (d j) := by unfold pc; rw [if_neg (by omega)]
    simp only [pcs, fill, p13, e, put_7 _ (h j)]
    by_cases h16 : cl.length + 1 ≤ 16
    · rw [if_pos h16]
      simp only [Option.bind_some]
      have := fill_preds b h t (j + 1) ⟨1, ct, cp, ci, cn, cm, cb, cl ++ [(d j : Int)]⟩ (by omega) rfl (by simpa using h16)
      rw [if_pos trivial, this]
      simp; omega
    · rw [if_neg h16]
      simp; omega

theorem fill_one {d : Nat → Nat} (h : ∀ i, d i ≤ 7) (t : Nat) : (fill { zero with kind := (1 : Int) } 0 (pcs true d 0 (3 + t))).isSome = decide (t ≤ 16) := by
  have := fill_preds true h t 3 ⟨1, d 0, d 1, 0, 0, 0, nopB, []⟩ (by omega) rfl (by simp)
  rw [Nat.add_comm 3 t]
  simp only [List.length_nil, Nat.zero_add] at this
  rw [← this]
  simp [pcs, pc, fill, zero, p10, p11, p12, p13, put_nop, put_1 _ (h 0), put_2 _ (h 1)]

/-- Whether so many words may be. -/
def goodW (k m : Nat) : Bool := decide (m = rn k ∨ (k = 1 ∧ rn k < m ∧ m ≤ rn k + 16))
theorem words_err {k : Nat} (h0 : 1 ≤ k) (h1 : k ≤ 14) {d : Nat → Nat} (h : ∀ i, d i ≤ 7) {m : Nat} (hm : m ≤ 31) : (parse (lineW k d m)).2 = if goodW k m then 0 else 3 := by
  rw [parse_lineW h0 h1 h hm]
  rcases Nat.lt_trichotomy m (rn k) with hlt | rfl | hgt
  · rw [fill_less h0 h1 h hlt]
    have : goodW k m = false := by simp [goodW]; omega
    rw [this]; rfl
  · rw [fill_ok h0 h1 h]
    have : goodW k (rn k) = true := by simp [goodW]
    rw [this]; rfl
  · obtain ⟨t, rfl⟩ : ∃ t, m = rn k + (t + 1) := ⟨m - rn k - 1, by omega⟩
    by_cases hk : k = 1
    · subst hk
      have h3 : rn 1 = 3 := rfl
      have := fill_one h (t + 1)
      rw [h3]
      show (match fill { zero with kind := (1 : Int) } 0 (pcs true d 0 (3 + (t + 1))) with | none => (zero, (3 : Int)) | some c => (c, (0 : Int))).2 = _
      by_cases ht : t + 1 ≤ 16
      · rw [decide_eq_true ht] at this
        obtain ⟨c, hc⟩ := Option.isSome_iff_exists.1 this
        have hg : goodW 1 (3 + (t + 1)) = true := by simp [goodW, h3]; omega
        rw [hc, hg]; rfl
      · rw [decide_eq_false ht] at this
        have hn : fill { zero with kind := (1 : Int) } 0 (pcs true d 0 (3 + (t + 1))) = none := by simpa using this
        have hg : goodW 1 (3 + (t + 1)) = false := by simp [goodW, h3]; omega
        rw [hn, hg]; rfl
    · rw [fill_more (by omega) h1 h]
      have : goodW k (rn k + (t + 1)) = false := by simp [goodW]; omega
      rw [this]; rfl
theorem words_ok {k : Nat} (h0 : 1 ≤ k) (h1 : k ≤ 14) {d : Nat → Nat} (h : ∀ i, d i ≤ 7) : parse (lineW k d (rn k)) = (resC k d, 0) := by
  have : rn k ≤ 31 := by
    unfold rn
    repeat' split
    all_goals omega
  rw [parse_lineW h0 h1 h this, fill_ok h0 h1 h]

theorem body_nop (c : C) (h : c.body = nopB) : bodyW c = nopsub := by
  have h1 : Bp.bodyOk nopB = true := by decide
  have h2 : Lib.itoa 3 = [51] := itoa_small (n := 3) (by omega)
  unfold bodyW
  rw [h, h1]
  simp [nopB, Bp.textOf, Bp.told, h2, Bp.submitW, Bp.nopW, Lib.join_cons, Lib.joinTail, comma'd, nopsub]

theorem words_line {k : Nat} (h0 : 1 ≤ k) (h1 : k ≤ 14) {d : Nat → Nat} (h : ∀ i, d i ≤ 7) : line (resC k d) = lineW k d (rn k) := by
  unfold line lineL lineW
  rcases kinds14n h0 h1 with rfl | rfl | rfl | rfl | rfl | rfl | rfl | rfl | rfl | rfl | rfl | rfl | rfl | rfl <;>
    simp [resC, rn, hasBody, pcs, pc, rowLen, wordsTo_succ, wordsTo_zero, pieceOf, toldW, body_nop, p10, p11, p12, p13, p20, p21, p22, p23, p24, p30, p31, p32, p33, p34, p35, p40, p41, p50, p51, p52, p60, p61, p62, p70, p71, p80, p81, p82, p90, p91, pA0, pB0, pB1, pC0, pD0, pE0, itoa_dg (h 0), itoa_dg (h 1), dec_dg (h 3), dec_dg (h 4), dec_dg (h 0), dec_dg (h 1)]
theorem words_text {k : Nat} (h0 : 1 ≤ k) (h1 : k ≤ 14) {d : Nat → Nat} (h : ∀ i, d i ≤ 7) : text (resC k d) = (lineW k d (rn k), 0) := by
  have hk : (resC k d).kind = (k : Int) := by
    rcases kinds14n h0 h1 with rfl | rfl | rfl | rfl | rfl | rfl | rfl | rfl | rfl | rfl | rfl | rfl | rfl | rfl <;> rfl
  rw [text_yes (by omega) (by omega) (by rw [words_line h0 h1 h]; exact words_ok h0 h1 h), words_line h0 h1 h]
end Go.Proofs.YtllabeiadeclkaaDoor.Cp

/-! Digits: The document's numbers in text: what the printed functions come to. -/
namespace Go.Proofs.YtllabeiadeclkaaDoor
open Go.RowKit Go.Proofs.YtllabeiadeclkaaDoorW.PrintWords Go.Proofs.YtllabeiadeclkaaDoor.PCmdNumbers

theorem dig_cut {d : Nat} (h : d < 10) : (⟨#[48, 49, 50, 51, 52, 53, 54, 55, 56, 57]⟩ : ByteArray).extract d (d + 1) = S [UInt8.ofNat (48 + d)] := by
  rcases (show d = 0 ∨ d = 1 ∨ d = 2 ∨ d = 3 ∨ d = 4 ∨ d = 5 ∨ d = 6 ∨ d = 7 ∨ d = 8 ∨ d = 9 by omega) with rfl | rfl | rfl | rfl | rfl | rfl | rfl | rfl | rfl | rfl <;> decide +kernel

theorem w64d {n : Int} (h0 : 0 ≤ n) (h1 : n ≤ 1000) : wrap64 n = n := by unfold wrap64; omega

theorem digits_ev : ∀ (n : Nat), n < 18446744073709551616 → ∀ (x : List UInt8), x.length + (Lib.decDigits n).length ≤ 1000 → Ev (fun k => vergerref12_Digits.l0 k (n : Int) (S x)) (S (Lib.decDigits n ++ x)) := by
  intro n
  induction n using Nat.strongRecOn with
  | _ n ih =>
    intro hn x hx
    by_cases h : n < 10
    · refine Ev.step (f := fun _ => some (S (Lib.decDigits n ++ x))) (fun k => ?_) (Ev.now _)
      have hsz : (S [UInt8.ofNat (48 + n)]).size = 1 := rfl
      have hsx : (S x).size = x.length := S_size x
      rw [vergerref12_Digits.l0, if_neg (by omega), w64d (n := (n : Int)) (by omega) (by omega), w64d (n := (n : Int) + 1) (by omega) (by omega), if_pos (by omega), if_pos (by omega), if_pos (by omega)]
      rw [show ((n : Int) + 1).toNat = n + 1 by omega, show (n : Int).toNat = n by omega, dig_cut h, hsz, hsx, if_pos (by omega), Bp.dec_small h]
      rfl
    · have hd := Bp.dec_big h
      have hl : (Lib.decDigits n).length = (Lib.decDigits (n / 10)).length + 1 := by rw [hd]; simp
      have ih' := ih (n / 10) (by omega) (by omega) (UInt8.ofNat (48 + n % 10) :: x) (by simp; omega)
      rw [hd, List.append_assoc]
      refine Ev.step (f := fun k => vergerref12_Digits.l0 k ((n / 10 : Nat) : Int) (S (UInt8.ofNat (48 + n % 10) :: x))) (fun k => ?_) ih'
      have hm : Int.tmod (n : Int) 10 = ((n % 10 : Nat) : Int) := rfl
      have hq : Int.tdiv (n : Int) 10 = ((n / 10 : Nat) : Int) := rfl
      have hsz : (S [UInt8.ofNat (48 + n % 10)]).size = 1 := rfl
      have hsx : (S x).size = x.length := S_size x
      have hu : IntKind.u64.wrap ((n / 10 : Nat) : Int) = ((n / 10 : Nat) : Int) := by
        show ((n / 10 : Nat) : Int) % 18446744073709551616 = _
        omega
      rw [vergerref12_Digits.l0, if_pos (by omega), hm, hq, hu, w64d (n := ((n % 10 : Nat) : Int)) (by omega) (by omega), w64d (n := ((n % 10 : Nat) : Int) + 1) (by omega) (by omega), if_pos (by omega), if_pos (by omega), if_pos (by omega)]
      rw [show (((n % 10 : Nat) : Int) + 1).toNat = n % 10 + 1 by omega, show ((n % 10 : Nat) : Int).toNat = n % 10 by omega, dig_cut (by omega), hsz, hsx, if_pos (by omega)]
      rfl

theorem dec_len20 {n : Nat} (h : n < 18446744073709551616) : (Lib.decDigits n).length ≤ 20 := Bp.dec_len (by omega) (by omega)

theorem digits_ref (n : Nat) (hn : n < 18446744073709551616) : Ev (fun k => vergerref12_Digits.f k (n : Int)) (S (Lib.decDigits n)) := by
  have h := digits_ev n hn [] (by have := dec_len20 hn; simp; omega)
  rw [List.append_nil] at h
  exact h

theorem num_ref (n : Int) (h0 : -9223372036854775808 ≤ n) (h1 : n ≤ 9223372036854775807) : Ev (fun k => vergerref12_Num.f k n) (S (Lib.itoa n)) := by
  have key : Ev (fun k => vergerref12_num.f k n) (S (Lib.itoa n)) := by
    by_cases hn : n < 0
    · obtain ⟨m, hm⟩ : ∃ m : Nat, -n = m := ⟨(-n).toNat, by omega⟩
      have hw : IntKind.u64.wrap (wrap64 (-n)) = (m : Int) := by
        show (wrap64 (-n)) % 18446744073709551616 = _
        unfold wrap64
        omega
      have hi : Lib.itoa n = 45 :: Lib.decDigits m := by
        unfold Lib.itoa
        rw [if_pos hn, show n.natAbs = m by omega]
      have hd := digits_ref m (by omega)
      have hl := dec_len20 (n := m) (by omega)
      unfold vergerref12_num.f
      rw [hi]
      refine Ev.congr (fun k => if_pos hn) (Ev.bind (f := fun _ t => if 1 + t.size ≤ 9223372036854775807 then some ((⟨#[45]⟩ : ByteArray) ++ t) else none) (by rw [hw]; exact hd) ?_)
      refine Ev.congr (fun k => ?_) (Ev.now _)
      rw [if_pos (by rw [S_size]; omega)]
      rfl
    · obtain ⟨m, rfl⟩ := Int.eq_ofNat_of_zero_le (Int.not_lt.1 hn)
      have hw : IntKind.u64.wrap ((m : Nat) : Int) = (m : Int) := by
        show ((m : Nat) : Int) % 18446744073709551616 = _
        omega
      have hd := digits_ref m (by omega)
      unfold vergerref12_num.f
      rw [Bp.itoa_nat]
      exact Ev.congr (fun k => if_neg hn) (Ev.bind (f := fun _ t => some t) (by rw [hw]; exact hd) (Ev.now _))
  exact Ev.bind (f := fun _ t => some t) key (Ev.now _)

theorem digits_any (n : Nat) (hn : n < 18446744073709551616) (w : World) : Calls Tryd.prog 15 #[.int .u64 n] w fun e w' => e = .returned (.string (S (Lib.decDigits n))) ∧ Below w.heap.size w w' := by
  obtain ⟨k, hk⟩ := (digits_ref n hn).rounds
  refine (vergerref12_Digits.calls k (n : Int) _ w hk).mono ?_
  rintro e w' ⟨rfl, hb⟩
  exact ⟨rfl, hb.below⟩
theorem num_any (n : Int) (h0 : -9223372036854775808 ≤ n) (h1 : n ≤ 9223372036854775807) (w : World) : Calls Tryd.prog 11 #[.int .i64 n] w fun e w' => e = .returned (.string (S (Lib.itoa n))) ∧ Below w.heap.size w w' := by
  obtain ⟨k, hk⟩ := (num_ref n h0 h1).rounds
  refine (vergerref12_Num.calls k n _ w hk).mono ?_
  rintro e w' ⟨rfl, hb⟩
  exact ⟨rfl, hb.below⟩
end Go.Proofs.YtllabeiadeclkaaDoor

/-! Masks: Masks of whole numbers. -/
namespace Go.Proofs.YtllabeiadeclkaaDoor
open Go
theorem and_7 (n : Int) : bits .and .i64 n 7 = n % 8 := by
  have hm : (BitVec.ofInt 64 7).toNat = 2 ^ 3 - 1 := by decide
  have key : (BitVec.ofInt 64 n &&& BitVec.ofInt 64 7).toNat = (n % ((2 ^ 64 : Nat) : Int)).toNat % 2 ^ 3 := by
    rw [BitVec.toNat_and, BitVec.toNat_ofInt, hm, Nat.and_two_pow_sub_one_eq_mod]
  show IntKind.i64.wrap ((BitVec.ofInt 64 n &&& BitVec.ofInt 64 7).toNat : Nat) = n % 8
  rw [key, IntKind.wrap_i64]
  omega
theorem and_15 (n : Int) : bits .and .i64 n 15 = n % 16 := by
  have hm : (BitVec.ofInt 64 15).toNat = 2 ^ 4 - 1 := by decide
  have key : (BitVec.ofInt 64 n &&& BitVec.ofInt 64 15).toNat = (n % ((2 ^ 64 : Nat) : Int)).toNat % 2 ^ 4 := by
    rw [BitVec.toNat_and, BitVec.toNat_ofInt, hm, Nat.and_two_pow_sub_one_eq_mod]
  show IntKind.i64.wrap ((BitVec.ofInt 64 n &&& BitVec.ofInt 64 15).toNat : Nat) = n % 16
  rw [key, IntKind.wrap_i64]
  omega
theorem and_31 (n : Int) : bits .and .i64 n 31 = n % 32 := by
  have hm : (BitVec.ofInt 64 31).toNat = 2 ^ 5 - 1 := by decide
  have key : (BitVec.ofInt 64 n &&& BitVec.ofInt 64 31).toNat = (n % ((2 ^ 64 : Nat) : Int)).toNat % 2 ^ 5 := by
    rw [BitVec.toNat_and, BitVec.toNat_ofInt, hm, Nat.and_two_pow_sub_one_eq_mod]
  show IntKind.i64.wrap ((BitVec.ofInt 64 n &&& BitVec.ofInt 64 31).toNat : Nat) = n % 32
  rw [key, IntKind.wrap_i64]
  omega
theorem and_63 (n : Int) : bits .and .i64 n 63 = n % 64 := by
  have hm : (BitVec.ofInt 64 63).toNat = 2 ^ 6 - 1 := by decide
  have key : (BitVec.ofInt 64 n &&& BitVec.ofInt 64 63).toNat = (n % ((2 ^ 64 : Nat) : Int)).toNat % 2 ^ 6 := by
    rw [BitVec.toNat_and, BitVec.toNat_ofInt, hm, Nat.and_two_pow_sub_one_eq_mod]
  show IntKind.i64.wrap ((BitVec.ofInt 64 n &&& BitVec.ofInt 64 63).toNat : Nat) = n % 64
  rw [key, IntKind.wrap_i64]
  omega
theorem and_255 (n : Int) : bits .and .i64 n 255 = n % 256 := by
  have hm : (BitVec.ofInt 64 255).toNat = 2 ^ 8 - 1 := by decide
  have key : (BitVec.ofInt 64 n &&& BitVec.ofInt 64 255).toNat = (n % ((2 ^ 64 : Nat) : Int)).toNat % 2 ^ 8 := by
    rw [BitVec.toNat_and, BitVec.toNat_ofInt, hm, Nat.and_two_pow_sub_one_eq_mod]
  show IntKind.i64.wrap ((BitVec.ofInt 64 n &&& BitVec.ofInt 64 255).toNat : Nat) = n % 256
  rw [key, IntKind.wrap_i64]
  omega
theorem and_8191 (n : Int) : bits .and .i64 n 8191 = n % 8192 := by
  have hm : (BitVec.ofInt 64 8191).toNat = 2 ^ 13 - 1 := by decide
  have key : (BitVec.ofInt 64 n &&& BitVec.ofInt 64 8191).toNat = (n % ((2 ^ 64 : Nat) : Int)).toNat % 2 ^ 13 := by
    rw [BitVec.toNat_and, BitVec.toNat_ofInt, hm, Nat.and_two_pow_sub_one_eq_mod]
  show IntKind.i64.wrap ((BitVec.ofInt 64 n &&& BitVec.ofInt 64 8191).toNat : Nat) = n % 8192
  rw [key, IntKind.wrap_i64]
  omega
end Go.Proofs.YtllabeiadeclkaaDoor

/-! CmdNums: vergerlaw24.CmdNumbers: the law's walk. -/
namespace Go.Proofs.YtllabeiadeclkaaDoor
open Go.RowKit Go.Proofs.YtllabeiadeclkaaDoorW

theorem np_app (x : List UInt8) : (⟨#[112, 105, 99, 107, 32]⟩ : ByteArray) ++ S x ++ ⟨#[32]⟩ ++ S x = S (Cp.pickW ++ [32] ++ x ++ [32] ++ x) := by
  show S [112, 105, 99, 107, 32] ++ S x ++ S [32] ++ S x = _
  rw [S_app, S_app, S_app]; rfl
theorem nc_app (x : List UInt8) : (⟨#[99, 97, 110, 99, 101, 108, 32]⟩ : ByteArray) ++ S x = S (Cp.cancW ++ [32] ++ x) := by
  show S [99, 97, 110, 99, 101, 108, 32] ++ S x = _
  rw [S_app]; rfl

theorem cparse_pick (n : Nat) (hn : n < 1000000000000000000) (W : World) (G : Glob W) : Calls Tryd.prog 12 #[.string ((⟨#[112, 105, 99, 107, 32]⟩ : ByteArray) ++ S (Lib.decDigits n) ++ ⟨#[32]⟩ ++ S (Lib.decDigits n))] W fun e w' =>
    Below W.heap.size W w' ∧ ∃ A cap A' cap', e = .returned (.tuple #[.agg #[.int .i64 6, .int .i64 0, .int .i64 0, .int .i64 0, .int .u64 n, .int .u64 n, .slice A 0 cap, .slice A' 0 cap'], .int .i64 0]) := by
  have hl : (Lib.decDigits n).length ≤ 18 := Bp.dec_len (by omega) (by omega)
  rw [np_app]
  refine (cparse_any _ W G (by simp [Cp.pickW]; omega)).mono ?_
  rintro e w' ⟨hb, A, cap, A', cap', he, _⟩
  rw [Cp.nums_pick hn] at he
  exact ⟨hb, A, cap, A', cap', he⟩
theorem cparse_canc (m : Nat) (hm : m ≤ 8191) (W : World) (G : Glob W) : Calls Tryd.prog 12 #[.string ((⟨#[99, 97, 110, 99, 101, 108, 32]⟩ : ByteArray) ++ S (Lib.decDigits m))] W fun e w' =>
    Below W.heap.size W w' ∧ ∃ A cap A' cap', e = .returned (.tuple #[.agg #[.int .i64 4, .int .i64 0, .int .i64 0, .int .i64 m, .int .u64 0, .int .u64 0, .slice A 0 cap, .slice A' 0 cap'], .int .i64 0]) := by
  have hl : (Lib.decDigits m).length ≤ 4 := Bp.dec_len (by omega) (by omega)
  rw [nc_app]
  refine (cparse_any _ W G (by simp [Cp.cancW]; omega)).mono ?_
  rintro e w' ⟨hb, A, cap, A', cap', he, _⟩
  rw [Cp.nums_cancel hm] at he
  exact ⟨hb, A, cap, A', cap', he⟩
theorem cparse_bad (s : List UInt8) (h : Cp.parse s = (Cp.zero, 3)) (hl : s.length ≤ 1000) (W : World) (G : Glob W) : Calls Tryd.prog 12 #[.string (S s)] W fun e w' =>
    Below W.heap.size W w' ∧ ∃ A cap A' cap', e = .returned (.tuple #[.agg #[.int .i64 0, .int .i64 0, .int .i64 0, .int .i64 0, .int .u64 0, .int .u64 0, .slice A 0 cap, .slice A' 0 cap'], .int .i64 3]) := by
  refine (cparse_any _ W G (by omega)).mono ?_
  rintro e w' ⟨hb, A, cap, A', cap', he, _⟩
  rw [h] at he
  exact ⟨hb, A, cap, A', cap', he⟩

theorem app3 (p x q : List UInt8) : S p ++ S x ++ S q = S (p ++ x ++ q) := by rw [S_app, S_app]
theorem bad_cells (n m : Nat) : (#[.string ((⟨#[112, 105, 99, 107, 32, 48]⟩ : ByteArray) ++ S (Lib.decDigits n) ++ ⟨#[32, 49]⟩), .string ((⟨#[112, 105, 99, 107, 32, 45]⟩ : ByteArray) ++ S (Lib.decDigits n) ++ ⟨#[32, 49]⟩), .string ((⟨#[112, 105, 99, 107, 32]⟩ : ByteArray) ++ S (Lib.decDigits n)),
    .string ((⟨#[112, 105, 99, 107, 32, 32]⟩ : ByteArray) ++ S (Lib.decDigits n) ++ ⟨#[32, 49]⟩), .string ⟨#[114, 111, 117, 110, 100, 32, 49, 48, 48, 48, 48, 48, 48, 48, 48, 48, 48, 48, 48, 48, 48, 48, 48, 48, 48]⟩, .string ⟨#[99, 97, 110, 99, 101, 108, 32, 49, 48, 48, 48, 48]⟩, .string ((⟨#[99, 97, 110, 99, 101, 108, 32, 48]⟩ : ByteArray) ++ S (Lib.decDigits m)),
    .string ⟨#[115, 116, 97, 116, 117, 115, 32, 43, 49]⟩, .string ⟨#[115, 116, 97, 116, 101, 32]⟩, .string ⟨#[32, 115, 116, 97, 116, 101]⟩] : Array Value) = ((Cp.badLines n m).map fun s => Value.string (S s)).toArray := by
  have e1 := app3 [112, 105, 99, 107, 32, 48] (Lib.decDigits n) [32, 49]
  have e2 := app3 [112, 105, 99, 107, 32, 45] (Lib.decDigits n) [32, 49]
  have e3 := S_app [112, 105, 99, 107, 32] (Lib.decDigits n)
  have e4 := app3 [112, 105, 99, 107, 32, 32] (Lib.decDigits n) [32, 49]
  have e5 := S_app [99, 97, 110, 99, 101, 108, 32, 48] (Lib.decDigits m)
  show (#[.string (S [112, 105, 99, 107, 32, 48] ++ S (Lib.decDigits n) ++ S [32, 49]), .string (S [112, 105, 99, 107, 32, 45] ++ S (Lib.decDigits n) ++ S [32, 49]), .string (S [112, 105, 99, 107, 32] ++ S (Lib.decDigits n)), .string (S [112, 105, 99, 107, 32, 32] ++ S (Lib.decDigits n) ++ S [32, 49]), _, _, .string (S [99, 97, 110, 99, 101, 108, 32, 48] ++ S (Lib.decDigits m)), _, _, _] : Array Value) = _
  rw [e1, e2, e3, e4, e5]
  rfl

set_option maxRecDepth 100000 in
set_option maxHeartbeats 1600000 in
theorem nums_law (x : Nat) (y : Int) (hx : x < 18446744073709551616) (hy0 : -9223372036854775808 ≤ y) (hy1 : y ≤ 9223372036854775807) (w : World) (G : Glob w) :
    Calls Tryd.prog 5 #[.int .u64 x, .int .i64 y] w fun e w' => e = .returned (.bool true) ∧ Below w.heap.size w w' := by
  have HG := Lib.hid G
  have hm8 := and_8191 y
  obtain ⟨m, hm⟩ : ∃ m : Nat, y % 8192 = m := ⟨(y % 8192).toNat, by omega⟩
  rw [hm] at hm8
  have hml : m ≤ 8191 := by omega
  obtain ⟨n, hn⟩ : ∃ n : Nat, n = x % 1000000000000000000 := ⟨_, rfl⟩
  have hnl : n < 1000000000000000000 := by omega
  have hxn : (x : Int) % 1000000000000000000 = (n : Int) := by omega
  have HD := Lib.hid fun W => digits_any n (by omega) W
  have HNu : Hid (∀ W, Calls Tryd.prog 11 #[.int .i64 m] W fun e w' => e = .returned (.string (S (Lib.decDigits m))) ∧ Below W.heap.size W w') := Lib.hid fun W => by
    have := num_any (m : Int) (by omega) (by omega) W
    rw [Bp.itoa_nat] at this
    exact this
  have hla : (Lib.decDigits n).length ≤ 18 := Bp.dec_len (by omega) (by omega)
  have hlb : (Lib.decDigits m).length ≤ 4 := Bp.dec_len (by omega) (by omega)
  clear G hn hm
  go_enter Tryd.func5, Tryd.ntmps5
  go_upto_region 3 with fail
  rw [hxn]
  clear hm8 hxn
  go_upto_region 4 with (first
    | (go_at_call 15; go_must (refine (HD.out _).mono ?_; rintro e w1 ⟨rfl, hb1⟩))
    | (go_at_call 11; go_must (refine (HNu.out _).mono ?_; rintro e w2 ⟨rfl, hb2⟩)))
  have HB2 := Lib.hid (bl3 hb1 hb2)
  clear hb1 hb2
  have hza : (S (Lib.decDigits n)).size ≤ 18 := by rw [S_size]; exact hla
  have hzb : (S (Lib.decDigits m)).size ≤ 4 := by rw [S_size]; exact hlb
  have HP1 := Lib.hid fun W => cparse_pick n hnl W
  have HP2 := Lib.hid fun W => cparse_canc m hml W
  have tok1 : True := trivial
  go_wp2_with (first
    | (go_at_call 12; have _t := tok1; go_must (refine (HP1.out _ (HG.out.below HB2.out)).mono ?_; rintro e w3 ⟨hb3, A3, n3, A4, n4, rfl⟩; have HB3 := Lib.hid (bl3 HB2.out hb3); clear hb3; clear tok1 _t; have hsz3 := HB3.out.size))
    | (go_at_call 12; go_must (refine (HP2.out _ (HG.out.below (bl1 HB3.out _))).mono ?_; rintro e w4 ⟨hb4, A5, n5, A6, n6, rfl⟩; have HB4 := Lib.hid (bl3 (bl1 HB3.out _) hb4); have HR4 := Lib.hid (blk hb4 (alloc_new w3 _ _ rfl)); obtain ⟨⟨g0, g1, g2, g3, g4, g5, g6, g7⟩, gf⟩ := cells8 (c := ⟨6, 0, 0, 0, n, n, [], []⟩) HR4.out; simp only at g4 g5; have hsz4 := (Array.getElem?_eq_some_iff.1 HR4.out).1; clear hb4)))
  have hbl : ∀ o, (((w4.alloc o).alloc (.cells ((Cp.badLines n m).map fun s => Value.string (S s)).toArray 9)).heap[w4.heap.size + 1]?) = some (.cells ((Cp.badLines n m).map fun s => Value.string (S s)).toArray 9 (0, 0)) := fun o => alloc_new _ _ _ (by simp)
  rw [← bad_cells] at hbl
  have hb5 : ∀ o o', Below w.heap.size w ((w4.alloc o).alloc o') := fun o o' => bl1 (bl1 HB4.out o) o'
  have hbl := hbl (.cells #[.int .i64 4, .int .i64 0, .int .i64 0, .int .i64 m, .int .u64 0, .int .u64 0, .slice A5 0 n5, .slice A6 0 n6] 37)
  generalize hW5 : (w4.alloc _).alloc _ = w5 at hbl ⊢
  rw [bad_cells] at hbl
  have HBl := Lib.hid hbl
  have HB5 := Lib.hid (hW5 ▸ hb5 _ _ : Below w.heap.size w w5)
  clear hbl hb5 hW5
  go_loopw [77] (fun i wr => ∃ j : Nat, i = .int .i64 j ∧ j ≤ 10 ∧ Below w5.heap.size w5 wr) (fun i _ => 10 - (intOf i).toNat)
  case atStart => exact ⟨0, rfl, Nat.zero_le _, bl0 _⟩
  case round =>
    obtain ⟨j, rfl, hj, hbr⟩ := hrel
    have HBr := Lib.hid hbr
    clear hbr
    by_cases hlt : j < 10
    · obtain ⟨s, hs⟩ : ∃ s, (Cp.badLines n m)[j]? = some s := ⟨_, List.getElem?_eq_getElem (by simpa [Cp.badLines] using hlt)⟩
      have hc : wr.cell? ⟨w4.heap.size + 1, j, none⟩ = some (.string (S s)) := by
        rw [cell_blk (blk HBr.out HBl.out) j]
        simp [hs]
      have HP3 := Lib.hid (cparse_bad s (Cp.bad_parse hnl hml s (List.mem_of_getElem? hs)) (Cp.bad_len hnl hml s (List.mem_of_getElem? hs)) wr (HG.out.below (bl3 HB5.out HBr.out)))
      clear hs
      go_wp2_with (go_at_call 12; go_must (refine HP3.out.mono ?_; rintro e w6 ⟨hb6, A7, n7, A8, n8, rfl⟩))
      go_roundw
      exact ⟨j + 1, rfl, by omega, bl1 (bl3 HBr.out hb6) _⟩
      simp only [intOf]
      omega
    · obtain rfl : j = 10 := by omega
      go_wp2_with (go_at_call 14; go_must (refine (cawake_any _ (HG.out.below (bl3 HB5.out HBr.out))).mono ?_; rintro e w6 ⟨rfl, hb6⟩))
      go_ret
      exact ⟨rfl, bl3 (bl3 HB5.out HBr.out) hb6⟩
end Go.Proofs.YtllabeiadeclkaaDoor

/-! CmdWords: vergerlaw24.CmdWords: the law's walk. -/
namespace Go.Proofs.YtllabeiadeclkaaDoor
open Go.RowKit Go.Proofs.YtllabeiadeclkaaDoorW

/-- The row of a kind. -/
def rowCells (k : Nat) : Array Value := #[.string (S (Cp.word (k : Int))), .int .i64 (Cp.rn k), .bool (Cp.hasBody k), .bool (decide (k = 1))]

/-- The digits of a number, from behind. -/
def dW (y : Int) (j : Nat) : Nat := (y / 2 ^ (3 * j % 32) % 8).toNat
theorem dW_le (y : Int) (j : Nat) : dW y j ≤ 7 := by
  unfold dW
  have : y / 2 ^ (3 * j % 32) % 8 < 8 := Int.emod_lt_of_pos _ (by decide)
  omega
theorem dW_int (y : Int) (j : Nat) : y / 2 ^ (3 * j % 32) % 8 = ((dW y j : Nat) : Int) := by
  unfold dW
  have : 0 ≤ y / 2 ^ (3 * j % 32) % 8 := Int.emod_nonneg _ (by decide)
  omega
theorem pc_digit {b : Bool} {d : Nat → Nat} {j : Nat} (h : ¬ (b = true ∧ j = 2)) : Cp.pc b d j = Cp.dg (d j) := by unfold Cp.pc; rw [if_neg h]
theorem pc_nop {d : Nat → Nat} : Cp.pc true d 2 = Cp.nopsub := by unfold Cp.pc; rw [if_pos ⟨rfl, rfl⟩]
theorem line_digit {k : Nat} {d : Nat → Nat} {j : Nat} (h : ¬ (Cp.hasBody k = true ∧ j = 2)) : S (Cp.lineW k d j) ++ (⟨#[32]⟩ : ByteArray) ++ S (Cp.dg (d j)) = S (Cp.lineW k d (j + 1)) := by
  rw [Cp.lineW_succ, pc_digit h]
  show S _ ++ S [32] ++ S _ = _
  rw [S_app, S_app, List.append_assoc]; rfl
theorem line_nop {k : Nat} {d : Nat → Nat} (h : Cp.hasBody k = true) : S (Cp.lineW k d 2) ++ (⟨#[32, 110, 111, 112, 59, 115, 117, 98, 109, 105, 116, 44, 51]⟩ : ByteArray) = S (Cp.lineW k d 3) := by
  rw [show (3 : Nat) = 2 + 1 from rfl, Cp.lineW_succ k d 2, h, pc_nop]
  show S _ ++ S [32, 110, 111, 112, 59, 115, 117, 98, 109, 105, 116, 44, 51] = _
  rw [S_app]; rfl
theorem drawn_trans {a b c : World} (h : PrintWords.Drawn0 a b) (h' : PrintWords.Drawn0 b c) : PrintWords.Drawn0 a c := by
  obtain ⟨⟨n, rfl⟩⟩ := h'
  exact h.step n
theorem numW_any (y : Int) (j : Nat) (W : World) : Calls Tryd.prog 11 #[.int .i64 (dW y j : Nat)] W fun e w' => e = .returned (.string (S (Cp.dg (dW y j)))) ∧ PrintWords.Drawn0 W w' := by
  have h := dW_le y j
  obtain ⟨k, hk⟩ := (num_ref ((dW y j : Nat) : Int) (by omega) (by omega)).rounds
  rw [Cp.itoa_dg h] at hk
  exact PCmdNumbers.vergerref12_Num.calls k _ _ W hk

set_option maxRecDepth 100000 in
set_option maxHeartbeats 1600000 in
theorem words_line_any (k m rb wb : Nat) (y : Int) (h0 : 1 ≤ k) (h1 : k ≤ 14) (hm : m ≤ 31) (w : World) (hr : w.heap[rb]? = some (.cells (rowCells k) 31 (0, 0))) (hy : w.cell? ⟨wb, 0, none⟩ = some (.int .i64 y)) :
    Calls Tryd.prog 10 #[.int .i64 m, .pointer (some ⟨rb, 0, none⟩), .pointer (some ⟨wb, 0, none⟩)] w fun e w' => e = .returned (.string (S (Cp.lineW k (dW y) m))) ∧ ∃ q, w' = w.drewN q := by
  have c0 : w.cell? ⟨rb, 0, none⟩ = some (.string (S (Cp.word (k : Int)))) := (cell_blk hr 0).trans rfl
  have c2 : w.cell? ⟨rb, 2, none⟩ = some (.bool (Cp.hasBody k)) := (cell_blk hr 2).trans rfl
  go_enter Tryd.func10, Tryd.ntmps10
  go_wp2
  go_loopw [5, 6] (fun s i wr => ∃ j : Nat, i = .int .i64 j ∧ j ≤ m ∧ s = .string (S (Cp.lineW k (dW y) j)) ∧ PrintWords.Drawn0 w wr) (fun _ i _ => m - (intOf i).toNat)
  case atStart => exact ⟨0, rfl, Nat.zero_le _, by rw [Cp.lineW_zero], PrintWords.Drawn0.refl _⟩
  case round =>
    obtain ⟨j, rfl, hj, rfl, hbr⟩ := hrel
    have d0 := cellk hbr.below c0
    have d2 := cellk hbr.below c2
    have dy := cellk hbr.below hy
    have HBr := Lib.hid hbr
    have hsl : (Cp.lineW k (dW y) j).length ≤ 1000 := by
      have := Cp.lineW_len k (dW y) j
      omega
    have hsz : (S (Cp.lineW k (dW y) j)).size ≤ 1000 := by rw [S_size]; exact hsl
    have HLd := Lib.hid fun h => line_digit (k := k) (d := dW y) (j := j) h
    have HLn := Lib.hid fun h => line_nop (k := k) (d := dW y) h
    have HNu := Lib.hid fun W => numW_any y j W
    have hdw := dW_int y j
    have hdl : (S (Cp.dg (dW y j))).size = 1 := rfl
    generalize dW y j = q at hdw HNu HLd hdl
    have hdl2 : (S (Cp.dg q)).size ≤ 1 := by omega
    have hdl3 : (Cp.dg q).length ≤ 1 := by rw [← S_size]; exact hdl2
    clear hbr hdl
    by_cases hlt : j < m
    · have h7 := and_7
      have h31 := and_31
      cases hb : Cp.hasBody k with
      | false =>
        rw [hb] at d2 c2 HLd
        clear HLn
        go_wp2_with (go_at_call 11; go_must (refine (HNu.out _).mono ?_; rintro e w2 ⟨rfl, hb2⟩))
        go_roundw
        exact ⟨j + 1, rfl, by omega, by rw [HLd.out (by simp)], drawn_trans HBr.out hb2⟩
        simp only [intOf]
        omega
      | true =>
        rw [hb] at d2 c2 HLd HLn
        by_cases h2 : j = 2
        · subst h2
          clear HLd
          go_wp2_with fail
          go_roundw
          case rel => exact ⟨3, rfl, by omega, by rw [HLn.out rfl], HBr.out⟩
          case measure => simp [intOf]; omega
        · have hj2 : ((j : Int) == 2) = false := beq_eq_false_iff_ne.2 (by omega)
          go_wp2_with (go_at_call 11; go_must (refine (HNu.out _).mono ?_; rintro e w2 ⟨rfl, hb2⟩))
          go_roundw
          exact ⟨j + 1, rfl, by omega, by rw [HLd.out (fun h => h2 h.2)], drawn_trans HBr.out hb2⟩
          simp only [intOf]
          omega
    · obtain rfl : j = m := by omega
      clear hdw
      go_wp2_with fail
      go_ret
      exact ⟨rfl, HBr.out.out⟩
/-- The rows' cells. -/
abbrev rowsLit : Array Value := #[.string ⟨#[115, 117, 98, 109, 105, 116]⟩, .int .i64 3, .bool true, .bool true, .string ⟨#[97, 102, 116, 101, 114]⟩, .int .i64 4, .bool true, .bool false, .string ⟨#[101, 118, 101, 114, 121]⟩, .int .i64 5, .bool true, .bool false, .string ⟨#[99, 97, 110, 99, 101, 108]⟩, .int .i64 1, .bool false, .bool false, .string ⟨#[97, 100, 118, 97, 110, 99, 101]⟩, .int .i64 2, .bool false, .bool false, .string ⟨#[112, 105, 99, 107]⟩, .int .i64 2, .bool false, .bool false, .string ⟨#[114, 111, 117, 110, 100]⟩, .int .i64 1, .bool false, .bool false, .string ⟨#[114, 101, 115, 116]⟩, .int .i64 2, .bool false, .bool false, .string ⟨#[115, 116, 97, 116, 117, 115]⟩, .int .i64 1, .bool false, .bool false, .string ⟨#[115, 116, 97, 116, 101]⟩, .int .i64 0, .bool false, .bool false, .string ⟨#[99, 108, 111, 115, 101]⟩, .int .i64 1, .bool false, .bool false, .string ⟨#[115, 104, 117, 116, 100, 111, 119, 110]⟩, .int .i64 0, .bool false, .bool false, .string ⟨#[101, 118, 101, 110, 116, 115]⟩, .int .i64 0, .bool false, .bool false, .string ⟨#[114, 104, 111]⟩, .int .i64 0, .bool false, .bool false]
theorem rows_at (kk : Nat) (h : kk < 14) (c : Nat) (hc : c < 4) : rowsLit[kk * 4 + c]? = (rowCells (kk + 1))[c]? := by
  rcases (show c = 0 ∨ c = 1 ∨ c = 2 ∨ c = 3 by omega) with rfl | rfl | rfl | rfl <;>
    rcases (show kk = 0 ∨ kk = 1 ∨ kk = 2 ∨ kk = 3 ∨ kk = 4 ∨ kk = 5 ∨ kk = 6 ∨ kk = 7 ∨ kk = 8 ∨ kk = 9 ∨ kk = 10 ∨ kk = 11 ∨ kk = 12 ∨ kk = 13 by omega) with rfl | rfl | rfl | rfl | rfl | rfl | rfl | rfl | rfl | rfl | rfl | rfl | rfl | rfl <;> rfl

theorem resC_shape {k : Nat} (h0 : 1 ≤ k) (h1 : k ≤ 14) (d : Nat → Nat) : (Cp.resC k d).kind = (k : Int) ∧ (Cp.resC k d).preds = [] ∧ (Cp.hasBody k = true → (Cp.resC k d).body.length = 2) ∧ (Cp.resC k d).body.length ≤ 2 := by
  rcases Cp.kinds14n h0 h1 with rfl | rfl | rfl | rfl | rfl | rfl | rfl | rfl | rfl | rfl | rfl | rfl | rfl | rfl <;> refine ⟨rfl, rfl, ?_, ?_⟩ <;> simp [Cp.hasBody, Cp.resC, Cp.nopB]

theorem parse_res {k : Nat} (h0 : 1 ≤ k) (h1 : k ≤ 14) (y : Int) (W : World) (G : Glob W) : Calls Tryd.prog 12 #[.string (S (Cp.lineW k (dW y) (Cp.rn k)))] W fun e w' =>
    Below W.heap.size W w' ∧ ∃ A cap A' cap', e = .returned (.tuple #[.agg (cmdCells (Cp.resC k (dW y)) A cap (.slice A' (Cp.resC k (dW y)).preds.length cap')), .int .i64 0]) ∧ (Cp.resC k (dW y)).body.length ≤ cap ∧ OpsAt w' A (Cp.resC k (dW y)).body ∧ (Cp.resC k (dW y)).preds.length ≤ cap' ∧ IntsAt w' A' (Cp.resC k (dW y)).preds := by
  have hl := Cp.lineW_len k (dW y) (Cp.rn k)
  have hr : Cp.rn k ≤ 5 := by
    unfold Cp.rn
    repeat' split
    all_goals omega
  refine (cparse_any _ W G (by omega)).mono ?_
  rintro e w' ⟨hb, A, cap, A', cap', he, h⟩
  rw [Cp.words_ok h0 h1 (dW_le y)] at he h
  exact ⟨hb, A, cap, A', cap', he, h⟩
theorem text_res {k : Nat} (h0 : 1 ≤ k) (h1 : k ≤ 14) (y : Int) (A A' : Option Addr) (cap cap' : Nat) (W : World) (G : Glob W) (ho : OpsAt W A (Cp.resC k (dW y)).body) (hp : IntsAt W A' (Cp.resC k (dW y)).preds) (hc : (Cp.resC k (dW y)).body.length ≤ cap) (hc' : (Cp.resC k (dW y)).preds.length ≤ cap') :
    Calls Tryd.prog 13 #[.agg (cmdCells (Cp.resC k (dW y)) A cap (.slice A' (Cp.resC k (dW y)).preds.length cap'))] W fun e w' => e = .returned (.tuple #[.string (S (Cp.lineW k (dW y) (Cp.rn k))), .int .i64 0]) ∧ Below W.heap.size W w' := by
  obtain ⟨s1, s2, _, s4⟩ := resC_shape h0 h1 (dW y)
  have R := (parse_in (Cp.lineW k (dW y) (Cp.rn k))).rng
  rw [Cp.words_ok h0 h1 (dW_le y)] at R
  have := ctext_good (Cp.resC k (dW y)) k s1 A A' cap cap' W G R h0 h1 ho hp (by omega) (by rw [s2]; simp) hc hc'
  rw [Cp.words_text h0 h1 (dW_le y)] at this
  exact this
theorem parse_err {k m : Nat} (h0 : 1 ≤ k) (h1 : k ≤ 14) (hm : m ≤ 31) (y : Int) (W : World) (G : Glob W) : Calls Tryd.prog 12 #[.string (S (Cp.lineW k (dW y) m))] W fun e w' =>
    Below W.heap.size W w' ∧ ∃ c0 c1 c2 c3 c4 c5 A n cap A' n' cap', e = .returned (.tuple #[.agg #[.int .i64 c0, .int .i64 c1, .int .i64 c2, .int .i64 c3, .int .u64 c4, .int .u64 c5, .slice A n cap, .slice A' n' cap'], .int .i64 (if Cp.goodW k m then 0 else 3)]) := by
  have hl := Cp.lineW_len k (dW y) m
  refine (cparse_any _ W G (by omega)).mono ?_
  rintro e w' ⟨hb, A, cap, A', cap', he, _⟩
  rw [Cp.words_err h0 h1 (dW_le y) hm] at he
  exact ⟨hb, _, _, _, _, _, _, _, _, _, _, _, _, he⟩

set_option maxRecDepth 100000 in
set_option maxHeartbeats 1600000 in
theorem words_law (x n y : Int) (hn0 : -9223372036854775808 ≤ n) (hn1 : n ≤ 9223372036854775807) (w : World) (G : Glob w) :
    Calls Tryd.prog 4 #[.int .i64 x, .int .i64 n, .int .i64 y] w fun e w' => e = .returned (.bool true) ∧ Below w.heap.size w w' := by
  have HG := Lib.hid G
  clear G
  obtain ⟨q, hq⟩ : ∃ q : Nat, x % 256 = q := ⟨(x % 256).toNat, by omega⟩
  have hx := and_255 x
  rw [hq] at hx
  have hx2 : (q : Int) % 14 = ((q % 14 : Nat) : Int) := by omega
  obtain ⟨kk, hkk⟩ : ∃ kk : Nat, kk = q % 14 := ⟨_, rfl⟩
  rw [← hkk] at hx2
  have hk14 : kk < 14 := by omega
  have hq256 : q < 256 := by omega
  clear hq hkk
  obtain ⟨m, hm⟩ : ∃ m : Nat, n % 32 = m := ⟨(n % 32).toNat, by omega⟩
  have hn := and_31 n
  rw [hm] at hn
  have hm31 : m ≤ 31 := by omega
  clear hm
  have h1 : 1 ≤ kk + 1 := by omega
  have h14 : kk + 1 ≤ 14 := by omega
  have HPa := Lib.hid fun W G => parse_res h1 h14 y W G
  have HTx := Lib.hid fun A A' cap cap' W G => text_res h1 h14 y A A' cap cap' W G
  have HPe := Lib.hid fun W G => parse_err h1 h14 hm31 y W G
  have HLi : Hid (∀ rb W, W.heap[rb]? = some (.cells (rowCells (kk + 1)) 31 (0, 0)) → W.cell? ⟨w.heap.size, 0, none⟩ = some (.int .i64 y) → Calls Tryd.prog 10 #[.int .i64 (Cp.rn (kk + 1)), .pointer (some ⟨rb, 0, none⟩), .pointer (some ⟨w.heap.size, 0, none⟩)] W fun e w' => e = .returned (.string (S (Cp.lineW (kk + 1) (dW y) (Cp.rn (kk + 1))))) ∧ ∃ q, w' = W.drewN q) :=
    Lib.hid fun rb W hr hy => words_line_any (kk + 1) (Cp.rn (kk + 1)) rb w.heap.size y h1 h14 (by
      unfold Cp.rn
      repeat' split
      all_goals omega) W hr hy
  have HLm : Hid (∀ rb W, W.heap[rb]? = some (.cells (rowCells (kk + 1)) 31 (0, 0)) → W.cell? ⟨w.heap.size, 0, none⟩ = some (.int .i64 y) → Calls Tryd.prog 10 #[.int .i64 m, .pointer (some ⟨rb, 0, none⟩), .pointer (some ⟨w.heap.size, 0, none⟩)] W fun e w' => e = .returned (.string (S (Cp.lineW (kk + 1) (dW y) m))) ∧ ∃ q, w' = W.drewN q) :=
    Lib.hid fun rb W hr hy => words_line_any (kk + 1) m rb w.heap.size y h1 h14 hm31 W hr hy
  have hrow : rowCells (kk + 1) = #[.string (S (Cp.word ((kk + 1 : Nat) : Int))), .int .i64 (Cp.rn (kk + 1)), .bool (Cp.hasBody (kk + 1)), .bool (decide (kk + 1 = 1))] := rfl
  have hrat := rows_at kk hk14
  have hgood : Cp.goodW (kk + 1) m = (decide (m = Cp.rn (kk + 1)) || (decide (kk + 1 = 1) && decide (Cp.rn (kk + 1) < m) && decide (m ≤ Cp.rn (kk + 1) + 16))) := by
    unfold Cp.goodW
    by_cases e1 : m = Cp.rn (kk + 1) <;> by_cases e2 : kk + 1 = 1 <;> by_cases e3 : Cp.rn (kk + 1) < m <;> by_cases e4 : m ≤ Cp.rn (kk + 1) + 16 <;> simp [e1, e2, e3, e4]
  have hr5 : Cp.rn (kk + 1) ≤ 5 := by
    unfold Cp.rn
    repeat' split
    all_goals omega
  obtain ⟨s1, s2, s3, s4⟩ := resC_shape h1 h14 (dW y)
  generalize hrc : Cp.resC (kk + 1) (dW y) = rc at *
  obtain ⟨ck, ct, cp, ci, cn, cm, cb, cl⟩ := rc
  simp only at s1 s2 s3 s4
  subst s2
  subst s1
  generalize Cp.word ((kk + 1 : Nat) : Int) = wd at *
  generalize Cp.goodW (kk + 1) m = gd at *
  generalize Cp.lineW (kk + 1) (dW y) m = lm at *
  generalize Cp.lineW (kk + 1) (dW y) (Cp.rn (kk + 1)) = lr at *
  generalize Cp.rn (kk + 1) = r at *
  generalize Cp.hasBody (kk + 1) = bo at *
  generalize decide (kk + 1 = 1) = mo at *
  generalize rowCells (kk + 1) = rw0 at *
  subst hrow
  have HGd := Lib.hid hgood
  have HS3 := Lib.hid s3
  clear hgood s3 hrc h1 h14
  unfold cmdCells at HPa HTx
  simp only at HPa HTx
  have hN := Lib.hid hn
  clear hn
  go_enter Tryd.func4, Tryd.ntmps4
  go_upto_region 2 with fail
  have hbk : ∀ o, ((w.alloc o).alloc (.cells rowsLit 31)).heap[w.heap.size + 1]? = some (.cells rowsLit 31 (0, 0)) := fun o => alloc_new _ _ _ (by simp)
  have hbk2 : ∀ o, ((w.alloc (.cells #[.int .i64 y] 3)).alloc o).cell? ⟨w.heap.size, 0, none⟩ = some (.int .i64 y) := fun o => cellk (bl1 (bl0 _) o) (cell_blk (alloc_new w _ _ rfl) 0)
  have hb2 : ∀ o o', Below w.heap.size w ((w.alloc o).alloc o') := fun o o' => bl1 (bl1 (bl0 w) o) o'
  have hbk := hbk (.cells #[.int .i64 y] 3)
  have hbk2 := hbk2 (.cells rowsLit 31)
  have hsz : ((w.alloc (.cells #[.int .i64 y] 3)).alloc (.cells rowsLit 31)).heap.size = w.heap.size + 2 := by simp
  generalize hW2 : (w.alloc _).alloc _ = W2 at hbk hbk2 hsz ⊢
  have HB2 := Lib.hid (hW2 ▸ hb2 _ _ : Below w.heap.size w W2)
  have HSz := Lib.hid hsz
  have HY := Lib.hid hbk2
  have d0 : W2.cell? ⟨w.heap.size + 1, kk * 4, none⟩ = some (.string (S wd)) := (cell_blk hbk _).trans (hrat 0 (by omega))
  have d1 : W2.cell? ⟨w.heap.size + 1, kk * 4 + 1, none⟩ = some (.int .i64 r) := (cell_blk hbk _).trans (hrat 1 (by omega))
  have d2 : W2.cell? ⟨w.heap.size + 1, kk * 4 + 2, none⟩ = some (.bool bo) := (cell_blk hbk _).trans (hrat 2 (by omega))
  have d3 : W2.cell? ⟨w.heap.size + 1, kk * 4 + 3, none⟩ = some (.bool mo) := (cell_blk hbk _).trans (hrat 3 (by omega))
  clear hbk hbk2 hsz hW2 hb2 hrat
  go_upto_region 3 with fail
  have HR3 := Lib.hid fun o => alloc_new W2 o _ rfl
  have hrr := HR3.out (.cells #[.string (S wd), .int .i64 r, .bool bo, .bool mo] 31)
  have HY3 := fun o => cellk (bl1 (bl0 W2) o) HY.out
  have HB3 := fun o => bl1 HB2.out o
  have hs3 : ∀ o, (W2.alloc o).heap.size = W2.heap.size + 1 := fun o => by simp
  clear HR3 d0 d1 d2 d3
  generalize hW3 : W2.alloc _ = W3 at hrr ⊢
  have HY3 := Lib.hid (hW3 ▸ HY3 _ : W3.cell? ⟨w.heap.size, 0, none⟩ = some (.int .i64 y))
  have HB3 := Lib.hid (hW3 ▸ HB3 _ : Below w.heap.size w W3)
  have hs3 := (hW3 ▸ hs3 _ : W3.heap.size = W2.heap.size + 1)
  have HR3 := Lib.hid hrr
  obtain ⟨e0, e1, e2, e3⟩ : W3.cell? ⟨W2.heap.size, 0, none⟩ = some (.string (S wd)) ∧ W3.cell? ⟨W2.heap.size, 1, none⟩ = some (.int .i64 r) ∧ W3.cell? ⟨W2.heap.size, 2, none⟩ = some (.bool bo) ∧ W3.cell? ⟨W2.heap.size, 3, none⟩ = some (.bool mo) := ⟨cell_blk hrr 0, cell_blk hrr 1, cell_blk hrr 2, cell_blk hrr 3⟩
  clear hW3 hrr
  have HS3' := Lib.hid hs3
  have hlt3 : W2.heap.size < W3.heap.size := by omega
  clear hs3
  go_upto_region 6 with (first
    | (go_at_call 10; go_must (refine (HLi.out _ _ HR3.out HY3.out).mono ?_; rintro e w4 ⟨rfl, q4, rfl⟩))
    | (go_at_call 12; go_must (refine (HPa.out _ (HG.out.below (bl4 HB3.out _))).mono ?_; rintro e w5 ⟨hb5, A, cap, A', cap', rfl, p1, p2, p3, p4⟩; have HB5 := Lib.hid hb5; have P1 := Lib.hid p1; have P2 := Lib.hid p2; have P3 := Lib.hid p3; have P4 := Lib.hid p4; clear hb5 p1 p2 p3 p4))
    | (go_at_call 13; go_must (refine (HTx.out A A' cap cap' _ (HG.out.below (bl1 (bl3 (bl4 HB3.out _) HB5.out) _)) (P2.out.below (bl1 (bl0 w5) _)) (ints_below P4.out (bl1 (bl0 w5) _)) P1.out P3.out).mono ?_; rintro e w6 ⟨rfl, hb6⟩)))
  have HB6 := Lib.hid (bl3 (bl1 (bl3 (bl4 HB3.out _) HB5.out) _) hb6)
  have HRc := Lib.hid (blk hb6 (alloc_new w5 _ _ rfl))
  have hR6 := blk hb6 (blk (bl1 (bl0 w5) _) (blk HB5.out HR3.out))
  have hY6 : w6.cell? ⟨w.heap.size, 0, none⟩ = some (.int .i64 y) := cellk hb6 (cellk (bl1 (bl0 w5) _) (cellk HB5.out HY3.out))
  have HR6 := Lib.hid hR6
  have HY6 := Lib.hid hY6
  obtain ⟨g0, g6⟩ : w6.cell? ⟨w5.heap.size, 0, none⟩ = some (.int .i64 ((kk + 1 : Nat) : Int)) ∧ w6.cell? ⟨w5.heap.size, 6, none⟩ = some (.slice A cb.length cap) := ⟨cell_blk HRc.out 0, cell_blk HRc.out 6⟩
  obtain ⟨f1, f2, f3⟩ : w6.cell? ⟨W2.heap.size, 1, none⟩ = some (.int .i64 r) ∧ w6.cell? ⟨W2.heap.size, 2, none⟩ = some (.bool bo) ∧ w6.cell? ⟨W2.heap.size, 3, none⟩ = some (.bool mo) := ⟨cell_blk hR6 1, cell_blk hR6 2, cell_blk hR6 3⟩
  clear hR6 hY6 hb6 e0 e1 e2 e3
  have hcb : bo = true → cb.length = 2 := HS3.out
  have hnn := hN.out
  rcases (show bo = false ∨ bo = true by cases bo <;> simp) with rfl | rfl
  · clear hcb
    go_quiet ((go_at_call 10; refine Calls.quiet_of (HLi.out _ _ HR6.out HY6.out)))
    go_upto_region 10 with (first
      | (go_at_call 10; go_must (refine (HLm.out _ (w6.drewN _) HR6.out HY6.out).mono ?_; rintro e w7 ⟨rfl, q7, rfl⟩))
      | (go_at_call 12; go_must (refine (HPe.out _ (HG.out.below (by first | exact bl4 (bl4 HB6.out _) _ | exact bl4 HB6.out _))).mono ?_; rintro e w8 ⟨hb8, c0, c1, c2, c3, c4, c5, A8, n8, cap8, A9, n9, cap9, rfl⟩)))
    have HB8 := Lib.hid (bl3 (bl4 HB6.out _) hb8)
    have hR8 := blk hb8 HR6.out
    obtain ⟨k1, k3⟩ : w8.cell? ⟨W2.heap.size, 1, none⟩ = some (.int .i64 r) ∧ w8.cell? ⟨W2.heap.size, 3, none⟩ = some (.bool mo) := ⟨cell_blk hR8 1, cell_blk hR8 3⟩
    have hsz8 := (Array.getElem?_eq_some_iff.1 hR8).1
    clear hb8 hR8 f1 f2 f3 g0 g6 hnn hx hx2
    have hgd := HGd.out
    by_cases e1 : m = r
    · subst e1
      obtain rfl : gd = true := by rw [hgd]; simp
      clear hgd
      go_wp2_with (go_at_call 14; go_must (refine (cawake_any _ (HG.out.below (bl1 HB8.out _))).mono ?_; rintro e w9 ⟨rfl, hb9⟩))
      go_ret
      exact ⟨rfl, bl3 (bl1 HB8.out _) hb9⟩
    · have i1 : ((m : Int) == (r : Int)) = false := beq_eq_false_iff_ne.2 (by omega)
      have i2 : (m == r) = false := beq_eq_false_iff_ne.2 e1
      have i3 : decide (m = r) = false := decide_eq_false e1
      rcases (show mo = false ∨ mo = true by cases mo <;> simp) with rfl | rfl
      · obtain rfl : gd = false := by rw [hgd, i3]; simp
        clear hgd
        go_wp2_with (go_at_call 14; go_must (refine (cawake_any _ (HG.out.below (bl1 HB8.out _))).mono ?_; rintro e w9 ⟨rfl, hb9⟩))
        go_ret
        exact ⟨rfl, bl3 (bl1 HB8.out _) hb9⟩
      · by_cases e2 : r < m
        · have j1 : decide (r < m) = true := decide_eq_true e2
          have j2 : decide ((r : Int) < (m : Int)) = true := decide_eq_true (by omega)
          by_cases e3 : m ≤ r + 16
          · have l1 : decide (m ≤ r + 16) = true := decide_eq_true e3
            have l2 : decide ((m : Int) ≤ (r : Int) + 16) = true := decide_eq_true (by omega)
            obtain rfl : gd = true := by rw [hgd, i3, j1, l1]; rfl
            clear hgd
            go_wp2_with (go_at_call 14; go_must (refine (cawake_any _ (HG.out.below (bl1 HB8.out _))).mono ?_; rintro e w9 ⟨rfl, hb9⟩))
            go_ret
            exact ⟨rfl, bl3 (bl1 HB8.out _) hb9⟩
          · have l1 : decide (m ≤ r + 16) = false := decide_eq_false e3
            have l2 : decide ((m : Int) ≤ (r : Int) + 16) = false := decide_eq_false (by omega)
            obtain rfl : gd = false := by rw [hgd, i3, j1, l1]; rfl
            clear hgd
            go_wp2_with (go_at_call 14; go_must (refine (cawake_any _ (HG.out.below (bl1 HB8.out _))).mono ?_; rintro e w9 ⟨rfl, hb9⟩))
            go_ret
            exact ⟨rfl, bl3 (bl1 HB8.out _) hb9⟩
        · have j1 : decide (r < m) = false := decide_eq_false e2
          have j2 : decide ((r : Int) < (m : Int)) = false := decide_eq_false (by omega)
          obtain rfl : gd = false := by rw [hgd, i3, j1]; rfl
          clear hgd
          go_wp2_with (go_at_call 14; go_must (refine (cawake_any _ (HG.out.below (bl1 HB8.out _))).mono ?_; rintro e w9 ⟨rfl, hb9⟩))
          go_ret
          exact ⟨rfl, bl3 (bl1 HB8.out _) hb9⟩
  · have hcb := hcb rfl
    go_quiet ((go_at_call 10; refine Calls.quiet_of (HLi.out _ _ HR6.out HY6.out)))
    go_upto_region 10 with (first
      | (go_at_call 10; go_must (refine (HLm.out _ (w6.drewN _) HR6.out HY6.out).mono ?_; rintro e w7 ⟨rfl, q7, rfl⟩))
      | (go_at_call 12; go_must (refine (HPe.out _ (HG.out.below (by first | exact bl4 (bl4 HB6.out _) _ | exact bl4 HB6.out _))).mono ?_; rintro e w8 ⟨hb8, c0, c1, c2, c3, c4, c5, A8, n8, cap8, A9, n9, cap9, rfl⟩)))
    have HB8 := Lib.hid (bl3 (bl4 HB6.out _) hb8)
    have hR8 := blk hb8 HR6.out
    obtain ⟨k1, k3⟩ : w8.cell? ⟨W2.heap.size, 1, none⟩ = some (.int .i64 r) ∧ w8.cell? ⟨W2.heap.size, 3, none⟩ = some (.bool mo) := ⟨cell_blk hR8 1, cell_blk hR8 3⟩
    have hsz8 := (Array.getElem?_eq_some_iff.1 hR8).1
    clear hb8 hR8 f1 f2 f3 g0 g6 hnn hx hx2
    have hgd := HGd.out
    by_cases e1 : m = r
    · subst e1
      obtain rfl : gd = true := by rw [hgd]; simp
      clear hgd
      go_wp2_with (go_at_call 14; go_must (refine (cawake_any _ (HG.out.below (bl1 HB8.out _))).mono ?_; rintro e w9 ⟨rfl, hb9⟩))
      go_ret
      exact ⟨rfl, bl3 (bl1 HB8.out _) hb9⟩
    · have i1 : ((m : Int) == (r : Int)) = false := beq_eq_false_iff_ne.2 (by omega)
      have i2 : (m == r) = false := beq_eq_false_iff_ne.2 e1
      have i3 : decide (m = r) = false := decide_eq_false e1
      rcases (show mo = false ∨ mo = true by cases mo <;> simp) with rfl | rfl
      · obtain rfl : gd = false := by rw [hgd, i3]; simp
        clear hgd
        go_wp2_with (go_at_call 14; go_must (refine (cawake_any _ (HG.out.below (bl1 HB8.out _))).mono ?_; rintro e w9 ⟨rfl, hb9⟩))
        go_ret
        exact ⟨rfl, bl3 (bl1 HB8.out _) hb9⟩
      · by_cases e2 : r < m
        · have j1 : decide (r < m) = true := decide_eq_true e2
          have j2 : decide ((r : Int) < (m : Int)) = true := decide_eq_true (by omega)
          by_cases e3 : m ≤ r + 16
          · have l1 : decide (m ≤ r + 16) = true := decide_eq_true e3
            have l2 : decide ((m : Int) ≤ (r : Int) + 16) = true := decide_eq_true (by omega)
            obtain rfl : gd = true := by rw [hgd, i3, j1, l1]; rfl
            clear hgd
            go_wp2_with (go_at_call 14; go_must (refine (cawake_any _ (HG.out.below (bl1 HB8.out _))).mono ?_; rintro e w9 ⟨rfl, hb9⟩))
            go_ret
            exact ⟨rfl, bl3 (bl1 HB8.out _) hb9⟩
          · have l1 : decide (m ≤ r + 16) = false := decide_eq_false e3
            have l2 : decide ((m : Int) ≤ (r : Int) + 16) = false := decide_eq_false (by omega)
            obtain rfl : gd = false := by rw [hgd, i3, j1, l1]; rfl
            clear hgd
            go_wp2_with (go_at_call 14; go_must (refine (cawake_any _ (HG.out.below (bl1 HB8.out _))).mono ?_; rintro e w9 ⟨rfl, hb9⟩))
            go_ret
            exact ⟨rfl, bl3 (bl1 HB8.out _) hb9⟩
        · have j1 : decide (r < m) = false := decide_eq_false e2
          have j2 : decide ((r : Int) < (m : Int)) = false := decide_eq_false (by omega)
          obtain rfl : gd = false := by rw [hgd, i3, j1]; rfl
          clear hgd
          go_wp2_with (go_at_call 14; go_must (refine (cawake_any _ (HG.out.below (bl1 HB8.out _))).mono ?_; rintro e w9 ⟨rfl, hb9⟩))
          go_ret
          exact ⟨rfl, bl3 (bl1 HB8.out _) hb9⟩
end Go.Proofs.YtllabeiadeclkaaDoor

/-! RowLib: The listed variables of the library: what a row's list and the world's shape give; a world for the witness. -/
namespace Go.Proofs.YtllabeiadeclkaaDoor
open Go.ChangeShapes Go.WideShapes Go.ChangeAt Go.RowKit

theorem own : ownKnob Tryd.prog.godebug = none := by kernel_rfl

/-- The list of the seat's rows. -/
abbrev listed : List (String × DataW Unit) := Rows.bodyParsesRow.laid

theorem star : "*" ++ "errors.errorString" = "*errors.errorString" := by decide
theorem errRow (u : TypeId) (h : Tryd.prog.typeName? 3 u = some "*errors.errorString") : u = 146 :=
  typeName_ptr_named (nm := "errors.errorString") (by rw [star]; kernel_rfl) (by kernel_rfl) (by decide) u (by rw [star]; exact h)

theorem laid_iff {W : World} (h : laidMetH Tryd.prog listed W) : laidMet Tryd.prog listed W := by
  rw [MakeChecks.laidMetH_plain _ _ _ (by kernel_rfl)] at h
  exact h

theorem glob_of_row {W : World} (hL : laidMetH Tryd.prog listed W) (hsh : W.ShapedOpen Tryd.prog) : Glob W := by
  have h := laid_iff hL
  have hp := h.tail.tail
  obtain ⟨a4, s4, hv4, _⟩ := laid_sentinel (g := 4) h.tail.tail.tail.tail (by kernel_rfl) (by kernel_rfl) (ti := _) Tryd.underlying69 errRow Tryd.underlying146 Tryd.underlying148 rfl rfl Tryd.underlying9 (by kernel_rfl) (by kernel_rfl)
  obtain ⟨a5, s5, hv5, _⟩ := laid_sentinel (g := 3) h.tail.tail.tail.tail.tail (by kernel_rfl) (by kernel_rfl) (ti := _) Tryd.underlying69 errRow Tryd.underlying146 Tryd.underlying148 rfl rfl Tryd.underlying9 (by kernel_rfl) (by kernel_rfl)
  have gR : Tryd.prog.globalNamed "strconv.ErrRange" = some 4 := by kernel_rfl
  have gS : Tryd.prog.globalNamed "strconv.ErrSyntax" = some 3 := by kernel_rfl
  have hm := Go.Proofs.cell_of_shapedOpen_int (P := Tryd.prog) (g := 2) (t := 3) (zero := #[.int .i64 0]) (k := .i64) hsh (of_decide_eq_true (by kernel_rfl)) (by kernel_rfl) rfl (by kernel_rfl) (by kernel_rfl) Tryd.underlying3
  have hpow : Lib.TabIs Tryd.prog W "internal/strconv.uint64pow10" .u64 Lib.pow10Tab :=
    Lib.tabIs_of_head (g := 5) (t := 150) (e := 34) (n := 20) (by kernel_rfl) (by kernel_rfl) (by kernel_rfl) (by kernel_rfl) (by kernel_rfl) (by kernel_rfl) hp
  have hlow : 8 ≤ W.heap.size := by
    have hs : (((begin Tryd.prog (fun _ _ => 0) default).world.heap[7]?).bind Obj.row?).isSome = true := by kernel_rfl
    obtain ⟨⟨z, t⟩, hq⟩ := Option.isSome_iff_exists.1 hs
    obtain ⟨cs, hh, _⟩ := hsh.1 7 z t (of_decide_eq_true (by kernel_rfl)) hq
    exact (Array.getElem?_eq_some_iff.1 hh).1
  refine ⟨hm, ⟨_, _, by rw [World.var?_cell gS hv5]; rfl⟩, ⟨_, _, by rw [World.var?_cell gR hv4]; rfl⟩, hpow, ?_, hlow⟩
  exact World.block_lt_of_cell? W ⟨5, 0, none⟩ (hpow.cell (by kernel_rfl) 0 (by decide))

noncomputable abbrev laidW (os : Os) : World := World.laidAll Tryd.prog os listed

theorem listed_met (os : Os) (args : Array Value) : laidMetH Tryd.prog listed ((laidW os).forCall (fun _ _ => 0) ⟨#[], args, []⟩).memory := by
  rw [MakeChecks.laidMetH_plain _ _ _ (by kernel_rfl)]
  exact laidMet_laidAll args (by kernel_rfl) (by kernel_rfl)
end Go.Proofs.YtllabeiadeclkaaDoor

/-! WordsCard: CmdWords: each command takes just as many words as it says, submit up to sixteen more: the law answers true for every three numbers. Conditions: the row's own (the listed variables of the library hold what their initialisers lay). -/
namespace Go.Proofs.YtllabeiadeclkaaDoor
open Go.ChangeShapes Go.WideShapes Go.ChangeAt Go.RowKit

theorem lit_i64 {x : Int} (h : (Lit.int .i64 x).wf = true) : -9223372036854775808 ≤ x ∧ x ≤ 9223372036854775807 := by
  simp only [Lit.wf, Bool.and_eq_true, decide_eq_true_eq] at h
  have h0 : IntKind.i64.min = -9223372036854775808 := rfl
  have h1 : IntKind.i64.max = 9223372036854775807 := rfl
  omega

theorem words_reads (os : Os) {H : Type} (enc : TypeId × Value → H) : ∃ places, DataW.whole enc Tryd.prog ((laidW os).forCall (fun _ _ => 0) ⟨#[], #[.int .i64 0, .int .i64 0, .int .i64 0], []⟩).memory Tryd.f4.params.toList Rows.cmdWordsSpec.vars false #[Value.int .i64 0, Value.int .i64 0, Value.int .i64 0].toList 8 = some ([.lit (.int .i64 0), .lit (.int .i64 0), .lit (.int .i64 0)], [], places) :=
  ⟨[], by kernel_rfl⟩

set_option maxRecDepth 100000 in
theorem words_contract (H : Type) (enc : TypeId × Value → H) (W : World) (base : Nat) (args : Array Value) (ds gs : List (DataW H)) (before : List MemPlace)
    (hval : ∀ (j : Nat) t v, Tryd.f4.params[j]? = some t → args[j]? = some v → Value.okWide Tryd.prog W .any base t v)
    (hW : DataW.Whole enc Tryd.prog Tryd.f4.params.toList Rows.cmdWordsSpec.vars false W args.toList ds gs before) (hL : laidMetH Tryd.prog Rows.cmdWordsRow.laid W) (hsh : W.ShapedOpen Tryd.prog) :
    Calls Tryd.prog 4 args W fun e W' => ∃ v, e = .returned v ∧ Rows.cmdWordsSpec.post enc Tryd.prog Tryd.f4 false true false false W args v W' := by
  have hW' := hW
  obtain ⟨p, q, hA0, hV, rfl, hfz, hnd⟩ := hW
  have hA : DataW.TrodAll enc Tryd.prog W 0 (fun _ => true) true Tryd.f4.params.toList args.toList ds p := hA0
  rw [Tryd.params4] at hA hval
  obtain ⟨v0, v1, v2, d0, d1, d2, p0, p1, p2, rfl, rfl, rfl, h0, h1, h2⟩ := trodAll_three hA
  obtain ⟨rfl, rfl⟩ := trodVars_none hV
  obtain ⟨x, rfl, rfl, rfl, hx⟩ := open_int Tryd.underlying3 (hval 0 3 v0 rfl rfl) h0
  obtain ⟨y, rfl, rfl, rfl, hy⟩ := open_int Tryd.underlying3 (hval 1 3 v1 rfl rfl) h1
  obtain ⟨z, rfl, rfl, rfl, hz⟩ := open_int Tryd.underlying3 (hval 2 3 v2 rfl rfl) h2
  clear hA0
  simp only [List.append_nil, List.nil_append] at hW'
  have hy2 : -9223372036854775808 ≤ y ∧ y ≤ 9223372036854775807 := lit_i64 hy
  have walk := words_law x y z hy2.1 hy2.2 W (glob_of_row hL hsh)
  refine walk.mono fun e W' ⟨he, hb⟩ => ?_
  subst he
  exact ⟨_, rfl, _, _, _, [], [], [], hW', trodAll_mk1 (shut_bool Tryd.underlying4 _), trodAll_mk3 (shut_int Tryd.underlying3 hx) (shut_int Tryd.underlying3 hy) (shut_int Tryd.underlying3 hz), rfl, hb.frame _, fun h => by cases h⟩

set_option maxRecDepth 100000 in
theorem words_lifted (os : Os) (started : os.Started) (H : Type) (enc : TypeId × Value → H) (F : Stop.Interp) :
    ReturnsInHanded {} Tryd.checked os 4 .any ((OpenSpec.ofChange Rows.cmdWordsSpec).preRow enc Tryd.prog Tryd.f4 Rows.cmdWordsRow.domain false Rows.cmdWordsRow.laid) (((OpenSpec.ofChange Rows.cmdWordsSpec).at F).post enc Tryd.prog Tryd.f4 false true false false) := by
  obtain ⟨places, hx⟩ := words_reads os enc
  refine returnsInHanded_of_row (C := Tryd.checked) (s := OpenSpec.ofChange Rows.cmdWordsSpec) own started (by kernel_rfl) Tryd.func4
    (witness_row_atRef (enc := enc) (C := Tryd.checked) false (laidW os) #[.int .i64 0, .int .i64 0, .int .i64 0] (World.laidAll_os _ _ _) (by kernel_rfl) (by kernel_rfl) (by kernel_rfl)
      (OpenSpec.preRow_of_cond 8 hx (by kernel_rfl) (fun k hk => by cases hk) (by kernel_rfl) (laid_iff (listed_met os _)))) ?_
  intro W base args ds gs before hval hW _ _ _ hL hsh _
  exact words_contract H enc W base args ds gs before hval hW hL hsh

theorem words_said : Rows.CmdWordsSaid :=
  OpenClaim.holds_of_cond 4 Tryd.f4 rfl rfl rfl rfl rfl rfl rfl ⟨rfl, rfl, rfl, rfl, rfl⟩ rfl rfl rfl rfl rfl (by kernel_rfl) Tryd.func4 (by kernel_rfl)
    (of_decide_eq_true (by kernel_rfl)) (by unfold Func.isWrapper; first | (rw [if_pos (by decide +kernel)]; kernel_rfl) | (rw [if_neg (by decide +kernel)]; exact ⟨rfl, rfl⟩))
    (fun os started H enc _ F => by rw [OpenClaim.pre_eq_preRow]; exact words_lifted os started H enc F)

theorem words_plain (f : FuncId) (fn : Func) (hf : Tryd.pinned.checked.prog.funcNamed "verger/vergerlaw24.CmdWords" = some f) (hfn : Tryd.pinned.checked.prog.funcs[f]? = some fn) :
    true = Tryd.pinned.checked.prog.looks [] ∧ ∀ (j : Nat) t, fn.params[j]? = some t → Tryd.pinned.checked.prog.wantsStandIn t = false := by
  obtain rfl : f = 4 := Option.some.inj ((show Tryd.prog.funcNamed "verger/vergerlaw24.CmdWords" = some 4 by kernel_rfl).symm.trans hf) |>.symm
  obtain rfl : fn = Tryd.f4 := (Option.some.inj (Tryd.func4.symm.trans hfn)).symm
  refine ⟨by kernel_rfl, fun j t ht => ?_⟩
  rw [Tryd.params4] at ht
  obtain rfl : t = 3 := by simpa using Array.mem_of_getElem? ht
  exact (show Tryd.prog.wantsStandIn 3 = false by kernel_rfl)

/-- The tied card. -/
theorem cmdWords : Rows.CmdWordsCardSaid :=
  Claim7.holds_tied_plain_at .later [] _ _ _ _ words_said (fun _ h => by cases h) (by kernel_rfl) (fun _ h => by cases h) cmdWords_row_tie rfl ⟨rfl, rfl⟩ (by kernel_rfl) rfl words_plain (by kernel_rfl)
#print axioms cmdWords
end Go.Proofs.YtllabeiadeclkaaDoor
