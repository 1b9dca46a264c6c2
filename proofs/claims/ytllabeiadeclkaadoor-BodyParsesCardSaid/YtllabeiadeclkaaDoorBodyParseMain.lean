/-
  body.Parse where it comes to the loop.
-/
import Derived.Test.YtllabeiadeclkaaDoorBodyParse
set_option linter.unusedVariables false
set_option linter.unusedSimpArgs false
namespace Go.Proofs.YtllabeiadeclkaaDoor
open Go.RowKit Go.Proofs.YtllabeiadeclkaaDoorW
attribute [local go_sem] Oper.semAt_some

theorem infoOp : (Tryd.prog.info? 50).map (fun i => (i.zero, i.size, i.bytes)) = some (some (.agg #[.int .i64 0, .int .i64 0, .int .i64 0]), 3, 24) := by kernel_rfl

theorem box_now {w : World} {b : Nat} {v : Value} {t : TypeId} (h : w.heap[b]? = some (.cells #[v] t (0, 0))) : w.cell? ⟨b, 0, none⟩ = some v ∧ w.frozen? ⟨b, 0, none⟩ = false :=
  ⟨by rw [cell_blk h 0]; rfl, frozen_blk h 0⟩
theorem box_then {w : World} {b : Nat} {v : Value} {t : TypeId} (h : w.heap[b]? = some (.cells #[v] t (0, 0))) : (∀ o, (w.alloc o).cell? ⟨b, 0, none⟩ = some v) ∧ (∀ o, (w.alloc o).frozen? ⟨b, 0, none⟩ = false) :=
  ⟨fun o => (box_now (blk (bl1 (bl0 w) o) h)).1, fun o => (box_now (blk (bl1 (bl0 w) o) h)).2⟩
theorem pieces_count (c : UInt8) : ∀ s, (Bp.pieces c s).length ≤ s.length + 1
  | [] => by simp [Bp.pieces]
  | b :: r => by
    have ih := pieces_count c r
    unfold Bp.pieces
    split
    · simpa using ih
    · split
      · simp
      · rename_i h; rw [h] at ih; simp at ih ⊢; omega
theorem cells_three_new (w : World) (a b c : Value) (t : TypeId) : ∀ j u, [a, b, c][j]? = some u → (w.alloc (.cells #[a, b, c] t)).cell? ((⟨w.heap.size, 0, none⟩ : Addr).add j) = some u := by
  intro j u h
  rw [PrintWords.add_plain, cell_blk (alloc_new w (.cells #[a, b, c] t) _ rfl) j]
  simpa using h

theorem keepsFrom_below {B : Nat} {W W' : World} (h : Below W.heap.size W W') : KeepsFrom B W W' := ⟨h.size, fun k o _ hk _ => blk h hk⟩

/-- What a round that goes on leaves. -/
theorem round_on {w W w2 w1 : World} {pre : List (List UInt8)} {x : List UInt8} {v v' : Value} {ll : List Bp.O} {o : Bp.O} {B : Nat}
    (h1 : pre.mapM Bp.read = some ll) (h2 : ll.length = pre.length) (h3 : W.heap[w.heap.size + 2]? = some (.cells #[v] 22 (0, 0))) (h4 : W.ownsRow (w.heap.size + 6) 50 3 v ll.length (opCells ll))
    (h5 : W.heap[w.heap.size]? = some (.cells #[.slice none 0 0] 22 (0, 0))) (h6 : W.heap[w.heap.size + 1]? = some (.cells #[.int .i64 0] 23 (0, 0))) (h7 : Below w.heap.size w W) (h8 : w.heap.size + 6 ≤ W.heap.size)
    (hr : Bp.read x = some o) (hb : Below W.heap.size W w2) (o1 o2 : Obj)
    (hown : w1.ownsRow (w.heap.size + 6) 50 3 v' (ll.length + 1) (opCells ll ++ [.int .i64 o.kind, .int .i64 o.a, .int .i64 o.b])) (hg : ((w2.alloc o1).alloc o2).grownBy w1 v.ownBlock) :
    KeepsFrom B W (w1.setCell ⟨w.heap.size + 2, 0, none⟩ v') ∧ SeqKeeps (w.heap.size + 3) W (w1.setCell ⟨w.heap.size + 2, 0, none⟩ v') ∧ LoopI w (pre ++ [x]) (w1.setCell ⟨w.heap.size + 2, 0, none⟩ v') := by
  have hb' : Below W.heap.size W ((w2.alloc o1).alloc o2) := bl1 (bl1 hb _) _
  have far : ∀ b ob, b < w.heap.size + 6 → W.heap[b]? = some ob → w1.heap[b]? = some ob := fun b ob hlt h =>
    (hg.block b (Array.getElem?_eq_some_iff.1 (blk hb' h)).1 (fun e => by have := PrintWords.own_base h4 b e.symm; omega)).trans (blk hb' h)
  have k3 := far _ _ (by omega) h3
  have hsz : W.heap.size ≤ w1.heap.size := Nat.le_trans hb'.size hg.size
  refine ⟨?_, ?_, ?_⟩
  · refine (KeepsFrom.trans (keepsFrom_below hb') (KeepsOthers.from (KeepsOthers.of_grownBy hg fun j ob e hj => ?_) B)).trans ((KeepsOthers.setCell _ _ _).from B)
    rcases (PrintWords.pw_own_below h4 hb').2 with ⟨rfl, _⟩ | ⟨g, cap, cur, rfl, _, hgb, _⟩
    · simp [Value.ownBlock] at e
    · obtain rfl : g = j := by simpa [Value.ownBlock] using e
      rw [hgb] at hj; cases hj; rfl
  · intro b hb1 hb2
    have hlt : b < W.heap.size := by omega
    rw [sc_else (by simp; omega)]
    have e : W.heap[b]? = some (W.heap[b]) := Array.getElem?_eq_getElem hlt
    rw [e]
    exact far b _ (by omega) e
  · refine ⟨v', ll ++ [o], read_all_snoc h1 hr, by simp [h2], by rw [sc_block k3 0]; rfl, ?_, (sc_else (by simp)).trans (far _ _ (by omega) h5), (sc_else (by simp)).trans (far _ _ (by omega) h6), ?_, by simp; omega⟩
    · rw [opCells_snoc, List.length_append]
      exact PrintWords.own_setCell hown (fun e => by have := PrintWords.own_base hown _ e.symm; simp at this) v'
    · exact bl5 ((bl3 h7 hb').grown hg (Nat.le_trans h7.size hb'.size) (fun k e => by have := PrintWords.own_base h4 k e; omega)) _ _ _ (by omega)
/-- The world behind the stores of the results and behind the loop's block. -/
theorem parse_end {w W w2 : World} {D : Nat} {u1 u2 : Value} {ds : List Deferred} (v1 v2 : Value) (h7 : Below w.heap.size w W) (hb : Below W.heap.size W w2) (hD : w.heap.size + 6 ≤ D) (hK : W.heap[D]? = some (.deferred (some ds)))
    (k5 : w2.heap[w.heap.size]? = some (.cells #[u1] 22 (0, 0))) (k6 : w2.heap[w.heap.size + 1]? = some (.cells #[u2] 23 (0, 0))) :
    ((w2.setCell ⟨w.heap.size, 0, none⟩ v1).setCell ⟨w.heap.size + 1, 0, none⟩ v2).heap[D]? = some (.deferred (some ds)) ∧
    (((w2.setCell ⟨w.heap.size, 0, none⟩ v1).setCell ⟨w.heap.size + 1, 0, none⟩ v2).putObj D (.deferred none)).cell? ⟨w.heap.size, 0, none⟩ = some v1 ∧
    (((w2.setCell ⟨w.heap.size, 0, none⟩ v1).setCell ⟨w.heap.size + 1, 0, none⟩ v2).putObj D (.deferred none)).cell? ⟨w.heap.size + 1, 0, none⟩ = some v2 ∧
    Below w.heap.size w (((w2.setCell ⟨w.heap.size, 0, none⟩ v1).setCell ⟨w.heap.size + 1, 0, none⟩ v2).putObj D (.deferred none)) ∧
    ∀ {v : Value} {n : Nat} {xs : List Value}, W.ownsRow (w.heap.size + 6) 50 3 v n xs → (((w2.setCell ⟨w.heap.size, 0, none⟩ v1).setCell ⟨w.heap.size + 1, 0, none⟩ v2).putObj D (.deferred none)).ownsRow (w.heap.size + 6) 50 3 v n xs := by
  have hK2 := setCell_others (w.heap.size + 1) v2 (setCell_others w.heap.size v1 (blk hb hK) rfl) rfl
  refine ⟨hK2, ?_, ?_, ?_, fun {v n xs} ho => ?_⟩
  · exact (box_now ((World.putObj_heap_other (by omega)).trans ((sc_else (by simp)).trans (by rw [sc_block k5 0]; rfl)))).1
  · exact (box_now ((World.putObj_heap_other (by omega)).trans (by rw [sc_block ((sc_else (by simp)).trans k6) 0]; rfl))).1
  · exact below_put (bl5 (bl5 (bl3 h7 hb) _ _ _ (by omega)) _ _ _ (by omega)) _ _ (by omega)
  · have o2 := PrintWords.pw_own_below ho hb
    exact ownsRow_putObj (PrintWords.own_setCell (PrintWords.own_setCell o2 (fun e => by have := PrintWords.own_base o2 _ e.symm; simp at this; omega) v1) (fun e => by have := PrintWords.own_base o2 _ e.symm; simp at this) v2) _ hK2 rfl

set_option maxRecDepth 100000 in
set_option maxHeartbeats 3200000 in
theorem parse_main (s : List UInt8) (w : World) (G : Glob w) (hs : s.length ≤ 400) (hd : s ≠ [45]) : Calls Tryd.prog 6 #[.string (S s)] w (ParsePost s w) := by
  have hz : (S s).size = s.length := S_size s
  have hne : (s == [45]) = false := beq_eq_false_iff_ne.2 hd
  have HG := Lib.hid G
  clear G
  obtain ⟨i0, hi, hz0, hz1, hz2⟩ := info_parts infoOp
  refine (callsIn_wide (n := 9)).1 (callsIn_of_wp_marks Tryd.func6 rfl trivial ?_ rfl)
  simp only [Tryd.ntmps6, List.size_toArray, List.length_cons, List.length_nil, Nat.reduceAdd, Nat.reduceSub, Array.replicate_succ, Array.replicate_zero, List.push_toArray, List.append_toArray, List.nil_append, List.cons_append]
  gi_wp2_with (refine ⟨trivial, ?_⟩; gi_at_call 16; go_must (refine (callsIn_wide.2 (seq_any s _)).mono ?_; rintro e w1 ⟨rfl, rfl⟩))
  have hB0 : Below w.heap.size w (((((w.alloc (.cells #[.slice none 0 0] 22)).alloc (.cells #[.int .i64 0] 23)).alloc (.cells #[.slice none 0 0] 22)).alloc (.cells #[.string (S s)] 9)).alloc (.cells #[.string ⟨#[59]⟩] 9) |>.alloc (.cells #[.int .i64 0] 3)) := bl1 (bl1 (bl1 (bl1 (bl1 (bl1 (bl0 _) _) _) _) _) _) _
  have hbx := SeqPost.boxes s (((w.alloc (.cells #[.slice none 0 0] 22)).alloc (.cells #[.int .i64 0] 23)).alloc (.cells #[.slice none 0 0] 22))
  have b0 := blk (bl1 (bl1 (bl1 (bl1 (bl1 (bl0 _) (.cells #[.int .i64 0] 23)) (.cells #[.slice none 0 0] 22)) (.cells #[.string (S s)] 9)) (.cells #[.string ⟨#[59]⟩] 9)) (.cells #[.int .i64 0] 3)) (alloc_new w (.cells #[.slice none 0 0] 22) _ rfl)
  have b1 := blk (bl1 (bl1 (bl1 (bl1 (bl0 _) (.cells #[.slice none 0 0] 22)) (.cells #[.string (S s)] 9)) (.cells #[.string ⟨#[59]⟩] 9)) (.cells #[.int .i64 0] 3)) (alloc_new (w.alloc (.cells #[.slice none 0 0] 22)) (.cells #[.int .i64 0] 23) _ rfl)
  have b2 := blk (bl1 (bl1 (bl1 (bl0 _) (.cells #[.string (S s)] 9)) (.cells #[.string ⟨#[59]⟩] 9)) (.cells #[.int .i64 0] 3)) (alloc_new ((w.alloc (.cells #[.slice none 0 0] 22)).alloc (.cells #[.int .i64 0] 23)) (.cells #[.slice none 0 0] 22) _ rfl)
  simp only [World.size_alloc, Nat.add_assoc, Nat.reduceAdd] at b1 b2 hbx
  obtain ⟨W0, hW0⟩ : ∃ W0, W0 = (((((w.alloc (.cells #[.slice none 0 0] 22)).alloc (.cells #[.int .i64 0] 23)).alloc (.cells #[.slice none 0 0] 22)).alloc (.cells #[.string (S s)] 9)).alloc (.cells #[.string ⟨#[59]⟩] 9) |>.alloc (.cells #[.int .i64 0] 3)) := ⟨_, rfl⟩
  have hsz : W0.heap.size = w.heap.size + 6 := by rw [hW0]; simp
  simp only [Nat.add_assoc, Nat.reduceAdd]
  rw [← hW0] at hB0 hbx b0 b1 b2 ⊢
  clear hW0
  refine range_cell (F := Fence.wide) (n := 9) (a := _) (w := W0) rfl (by omega) (gf := 48) (lb := #[.pointer (some ⟨w.heap.size + 4, 0, none⟩), .pointer (some ⟨w.heap.size + 3, 0, none⟩), .pointer (some ⟨w.heap.size + 5, 0, none⟩)]) rfl trivial (enters_of Tryd.func48 (by kernel_rfl) rfl)
    (sb := w.heap.size + 3) (seq_yields 8 (by omega) (w.heap.size + 3) s (by omega))
    (fun W hb => ⟨blk hb hbx.1, blk hb hbx.2.1, blk hb hbx.2.2⟩)
    (fun A B C h k b h1 h2 => (k b h1 h2).trans (h b h1 h2)) (fun W l o hl b h1 h2 => World.putObj_heap_other (by omega)) (fun _ => rfl)
    (LoopI w) (LoopX w) (fun _ _ _ hst h => h.step hst) (fun _ _ _ _ _ hl ho hc h => h.put _ (by omega) ho hc) (fun _ _ _ _ _ hl ho hc h => h.put _ (by omega))
    ⟨_, [], rfl, rfl, b2, PrintWords.own_nil _ _ _ _, b0, b1, hB0, by omega⟩
    (fun x => { tmps := #[.string (S s), undef, .pointer (some ⟨w.heap.size, 0, none⟩), .pointer (some ⟨w.heap.size + 1, 0, none⟩), .pointer (some ⟨w.heap.size + 2, 0, none⟩), .string (S x), undef, undef, undef, undef,
      .string (S s), .int .i64 s.length, .bool (decide (400 < (s.length : Int))), .string (S s), .bool false, .string (S s),
      .func (.func 48) #[] #[.pointer (some ⟨w.heap.size + 4, 0, none⟩), .pointer (some ⟨w.heap.size + 3, 0, none⟩), .pointer (some ⟨w.heap.size + 5, 0, none⟩)],
      .string (S x), undef, undef, undef, undef, undef, undef, undef, undef, undef, undef, undef, undef, undef, undef, undef, undef, undef, undef, undef, undef, undef, undef, undef, undef, undef], defers := [] }) ?assign ?body ?done ?stop
  case assign =>
    intro l x W K hK
    gi_wp2
    exact hK
  case body =>
    rintro l pre x W hI hpre hl hlt
    have hI' := hI
    obtain ⟨v, ll, h1, h2, h3, h4, h5, h6, h7, h8⟩ := hI'
    have hx : x.length ≤ 400 := Nat.le_trans (Bp.piece_le _ _ _ (hpre.subset (by simp))) hs
    have hcnt : pre.length + 1 ≤ 401 := by
      have c1 := hpre.length_le
      have c2 := pieces_count 59 s
      simp only [List.length_append, List.length_cons, List.length_nil] at c1
      omega
    have hR := read_any (S x) W (HG.out.below h7) (by rw [S_size]; omega)
    unfold ReadPost at hR
    rw [S_list] at hR
    cases hr : Bp.read x with
    | none =>
      rw [hr] at hR
      have HR := Lib.hid hR
      have H5 := Lib.hid h5
      have H6 := Lib.hid h6
      have H7 := Lib.hid h7
      clear hR h3 h4 h5 h6 h7
      gi_wp2_with (refine ⟨trivial, ?_⟩; gi_at_call 17; go_must (refine (CallsIn.inRound l (callsIn_wide.2 HR.out)).mono ?_; rintro e w2 ⟨hb2, q0, q1, q2, rfl⟩; have k5 := blk hb2 H5.out; have k6 := blk hb2 H6.out; have ⟨c5, f5⟩ := box_then k5; have ⟨c6, f6⟩ := box_then k6))
      exact ⟨((keepsFrom_below (bl1 hb2 _)).trans ((KeepsOthers.setCell _ _ _).from _)).trans ((KeepsOthers.setCell _ _ _).from _), ⟨x, by simp, hr⟩,
        (sc_else (by simp)).trans (by rw [sc_block (blk (bl1 (bl0 _) _) k5) 0]; rfl), by rw [sc_block ((sc_else (by simp)).trans (blk (bl1 (bl0 _) _) k6)) 0]; rfl, bl5 (bl5 (bl3 H7.out (bl1 hb2 _)) _ _ _ (by omega)) _ _ _ (by omega)⟩
    | some o =>
      rw [hr] at hR
      have HR := Lib.hid hR
      have H3 := Lib.hid h3
      have H4 := Lib.hid h4
      have H5 := Lib.hid h5
      have H6 := Lib.hid h6
      have H7 := Lib.hid h7
      have HL := Lib.hid h2
      have hll : ll.length ≤ 400 := by omega
      clear hR h3 h4 h5 h6 h7 h2
      gi_wp2_with (first
        | (refine ⟨trivial, ?_⟩; gi_at_call 17; go_must (refine (CallsIn.inRound l (callsIn_wide.2 HR.out)).mono ?_; rintro e w2 ⟨hb2, rfl⟩; have H2 := Lib.hid hb2; have k3 := blk hb2 H3.out; have ⟨c3, f3⟩ := box_then k3; have hsz2 := hb2.size; clear hb2 k3))
        | (gi_at_builtin; go_must (refine wpListIn_append_own _ rfl _ _ 22 rfl (w.heap.size + 6) 50 i0 _ 3 24 Tryd.underlying22 hi hz0 hz1 hz2 rfl (by decide) v ll.length (opCells ll) rfl (PrintWords.pw_own_below H4.out (bl1 (bl1 H2.out _) _)) ⟨w2.heap.size + 1, 0, none⟩ 1 1 [.int .i64 o.kind, .int .i64 o.a, .int .i64 o.b] rfl rfl ?cells (by simp [Value.oneCell']) (by simp [maxLen]; omega) (by omega) (by simp; omega) ?_; (case cells => have hq := cells_three_new (w2.alloc (.cells #[.int .i64 o.kind, .int .i64 o.a, .int .i64 o.b] 50)) (.int .i64 o.kind) (.int .i64 o.a) (.int .i64 o.b) 50; rw [World.size_alloc] at hq; exact hq); intro v' w3 hown' hgrow _; obtain ⟨g', cap', rfl⟩ := ownsRow_succ hown'; obtain ⟨r1, r2, r3⟩ := round_on (B := W0.heap.size) h1 HL.out H3.out H4.out H5.out H6.out H7.out h8 hr H2.out _ _ hown' hgrow; have R1 := Lib.hid r1; have R2 := Lib.hid r2; have R3 := Lib.hid r3; have ⟨c4, f4⟩ := box_now ((hgrow.block _ (Array.getElem?_eq_some_iff.1 (blk (bl1 (bl1 H2.out _) _) H3.out)).1 (fun e => by have := PrintWords.own_base H4.out _ e.symm; omega)).trans (blk (bl1 (bl1 H2.out _) _) H3.out)); clear r1 r2 r3 hown' hgrow)))
      exact ⟨R1.out, R2.out, R3.out⟩
  case done =>
    rintro D W hD hI hK
    obtain ⟨v, ll, h1, h2, h3, h4, h5, h6, h7, h8⟩ := hI
    obtain ⟨A, c, rfl, hc, hops⟩ := ops_of_own h4
    have hll : ll.length ≤ 401 := by have := pieces_count 59 s; omega
    have hp : Bp.parse s = if Bp.bodyOk ll = true ∧ Bp.textOf ll = s then (ll, 0) else ([], 3) := by
      unfold Bp.parse
      rw [if_neg (by omega), if_neg hd, h1]
    have ⟨c3, f3⟩ := box_now h3
    have hT := text_any ll A c W (HG.out.below h7) hops (by omega)
    unfold TextPost at hT
    have HT := Lib.hid hT
    have H3 := Lib.hid h3
    have H5 := Lib.hid h5
    have H6 := Lib.hid h6
    have H7 := Lib.hid h7
    have HK := Lib.hid hK
    have HO := Lib.hid h4
    have HP := Lib.hid hp
    clear hT h1 h2 h3 h4 h5 h6 h7 hK hops hp
    by_cases hok : Bp.bodyOk ll = true ∧ Bp.textOf ll = s
    · have HT' := Lib.hid (by have := HT.out; rw [if_pos hok.1, hok.2] at this; exact this)
      have HP' := Lib.hid (by have := HP.out; rw [if_pos hok] at this; exact this)
      clear HT HP hok
      gi_wp2_with (first
        | (refine ⟨trivial, ?_⟩; gi_at_call 18; go_must (refine (callsIn_wide.2 HT'.out).mono ?_; rintro e w2 ⟨hb2, rfl⟩; have H2 := Lib.hid hb2; have k3 := blk hb2 H3.out; have k5 := blk hb2 H5.out; have k6 := blk hb2 H6.out; have ⟨c3', f3'⟩ := box_now k3; have ⟨c5, f5⟩ := box_now k5; have ⟨c6, f6⟩ := box_now k6; have hsz2 := hb2.size; clear hb2))
        | (refine ⟨trivial, ?_⟩; gi_at_call 19; go_must (refine (callsIn_wide.2 (clip_any A ll.length c hc _)).mono ?_; rintro e w3 ⟨rfl, rfl⟩)))
      have hop := HO.out
      obtain ⟨hKe, e1, e2, hbe, hoe⟩ := parse_end (.slice A ll.length ll.length) (.int .i64 0) H7.out H2.out (by omega) HK.out k5 k6
      obtain ⟨A', c', hv, _, hops'⟩ := ops_of_own (hoe hop)
      obtain ⟨rfl, _⟩ : A = A' ∧ c = c' := by simpa using hv
      refine ⟨by simp, .inl ⟨_, _, rfl, run_takeDeferred hKe, ?_⟩⟩
      refine ⟨.tuple #[.slice A ll.length ll.length, .int .i64 0], by simp [results, Tryd.results6, go_sem, e1, e2], hbe, A, ll.length, ?_⟩
      rw [HP'.out]
      exact ⟨rfl, Nat.le_refl _, hops', row_of_own (hoe hop)⟩
    · have HP' := Lib.hid (by have := HP.out; rw [if_neg hok] at this; exact this)
      clear HP
      by_cases hb : Bp.bodyOk ll = true
      · have hte : (Bp.textOf ll == s) = false := beq_eq_false_iff_ne.2 fun e => hok ⟨hb, e⟩
        have HT' := Lib.hid (by have := HT.out; rw [if_pos hb] at this; exact this)
        clear HT hok hb
        gi_wp2_with (
          (refine ⟨trivial, ?_⟩; gi_at_call 18; go_must (refine (callsIn_wide.2 HT'.out).mono ?_; rintro e w2 ⟨hb2, rfl⟩; have H2 := Lib.hid hb2; have k3 := blk hb2 H3.out; have k5 := blk hb2 H5.out; have k6 := blk hb2 H6.out; have ⟨c3', f3'⟩ := box_now k3; have ⟨c5, f5⟩ := box_now k5; have ⟨c6, f6⟩ := box_now k6; have hsz2 := hb2.size; clear hb2)))
        obtain ⟨hKe, e1, e2, hbe, hoe⟩ := parse_end (.slice none 0 0) (.int .i64 3) H7.out H2.out (by omega) HK.out k5 k6
        refine ⟨by simp, .inl ⟨_, _, rfl, run_takeDeferred hKe, ?_⟩⟩
        exact ⟨.tuple #[.slice none 0 0, .int .i64 3], by simp [results, Tryd.results6, go_sem, e1, e2], none_post HP'.out hbe⟩
      · have HT' := Lib.hid (by have := HT.out; rw [if_neg hb] at this; exact this)
        clear HT hok hb
        gi_wp2_with (
          (refine ⟨trivial, ?_⟩; gi_at_call 18; go_must (refine (callsIn_wide.2 HT'.out).mono ?_; rintro e w2 ⟨hb2, rfl⟩; have H2 := Lib.hid hb2; have k3 := blk hb2 H3.out; have k5 := blk hb2 H5.out; have k6 := blk hb2 H6.out; have ⟨c3', f3'⟩ := box_now k3; have ⟨c5, f5⟩ := box_now k5; have ⟨c6, f6⟩ := box_now k6; have hsz2 := hb2.size; clear hb2)))
        obtain ⟨hKe, e1, e2, hbe, hoe⟩ := parse_end (.slice none 0 0) (.int .i64 3) H7.out H2.out (by omega) HK.out k5 k6
        refine ⟨by simp, .inl ⟨_, _, rfl, run_takeDeferred hKe, ?_⟩⟩
        exact ⟨.tuple #[.slice none 0 0, .int .i64 3], by simp [results, Tryd.results6, go_sem, e1, e2], none_post HP'.out hbe⟩
  case stop =>
    rintro D pre W hD hpre hX hK
    obtain ⟨⟨p, hp, hn⟩, h5, h6, h7⟩ := hX
    have hps : Bp.parse s = ([], 3) := by
      unfold Bp.parse
      rw [if_neg (by omega), if_neg hd, read_all_none (hpre.subset hp) hn]
    have ⟨c5, _⟩ := box_now ((World.putObj_heap_other (by omega)).trans h5 : (W.putObj D (.deferred none)).heap[w.heap.size]? = _)
    have ⟨c6, _⟩ := box_now ((World.putObj_heap_other (by omega)).trans h6 : (W.putObj D (.deferred none)).heap[w.heap.size + 1]? = _)
    gi_wp2
    refine ⟨by simp, .inl ⟨_, _, rfl, run_takeDeferred hK, ?_⟩⟩
    refine ⟨.tuple #[.slice none 0 0, .int .i64 3], by simp [results, Tryd.results6, go_sem, c5, c6], ?_⟩
    exact none_post hps (below_put h7 _ _ (by omega))

/-- body.Parse, at every text. -/
theorem parse_any (s : List UInt8) (w : World) (G : Glob w) : Calls Tryd.prog 6 #[.string (S s)] w (ParsePost s w) := by
  by_cases hs : 400 < s.length
  · exact parse_long s w hs
  · by_cases hd : s = [45]
    · subst hd; exact parse_dash w
    · exact parse_main s w G (by omega) hd
end Go.Proofs.YtllabeiadeclkaaDoor
