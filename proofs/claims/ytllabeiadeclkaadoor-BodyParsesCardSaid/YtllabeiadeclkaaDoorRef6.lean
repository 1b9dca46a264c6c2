/-
  The walks of the document's functions, each with a plain Lean function of the same answers: lines that the kit's print.sh wrote for this seat, taken over function by function.
-/
import Derived.Test.YtllabeiadeclkaaDoorPBodyParsesx0
import Derived.Test.YtllabeiadeclkaaDoorRef4
import Derived.Test.YtllabeiadeclkaaDoorRef5
namespace Go.Proofs.YtllabeiadeclkaaDoor.PBodyParses
open Go.RowKit Go.Proofs.YtllabeiadeclkaaDoorW.PrintWords Go.Proofs.YtllabeiadeclkaaDoorW.PrintLast Go.Proofs.YtllabeiadeclkaaDoorW.PrintMore
attribute [local go_sem] max2_int min2_int max_two min_two max_three min_three max_four min_four   -- for this text's walks alone
set_option linter.unusedVariables false
set_option linter.unusedSimpArgs false

/-! ### vergerref12_opOf: function 21 -/
mutual
def vergerref12_opOf.l0 : Nat → List ByteArray → List Int → Int → Option (Int × Int × Int × Bool)
  | 0, _, _, _ => none
  | k + 1, x4, x5, x6 => if x6 < (x4.length : Int) then (if 0 ≤ x6 then ((vergerref12_Number.f k (rdOf ByteArray.empty x4 x6) 9).bind fun bt152 => (if bt152.2 = true then (if x5.length < 17592186044416 then (vergerref12_opOf.l0 k x4 (x5 ++ [wrap64 (bt152.1)]) (wrap64 (x6 + 1))) else (none)) else (some (0, 0, 0, false)))) else (none)) else (if 0 < (x4.length : Int) then (if (rdOf ByteArray.empty x4 0).toList = ([110, 111, 112] : List UInt8) then (vergerref12_opOf.j1 k x4 x5 ((x5.length : Int) == 0) 0 0 0) else (vergerref12_opOf.j1 k x4 x5 false 0 0 0)) else (none))
def vergerref12_opOf.j1 : Nat → List ByteArray → List Int → Bool → Int → Int → Int → Option (Int × Int × Int × Bool)
  | 0, _, _, _, _, _, _ => none
  | k + 1, x4, x5, x35, x158000, x158001, x158002 => if x35 = true then ((vergerref12_OpOk.f k 1 x158001 x158002).bind fun t159 => (some (1, x158001, x158002, t159))) else (if 0 < (x4.length : Int) then (if (rdOf ByteArray.empty x4 0).toList = ([115, 117, 98, 109, 105, 116] : List UInt8) then (vergerref12_opOf.j2 k x4 x5 ((x5.length : Int) == 1) x158000 x158001 x158002) else (vergerref12_opOf.j2 k x4 x5 false x158000 x158001 x158002)) else (none))
def vergerref12_opOf.j2 : Nat → List ByteArray → List Int → Bool → Int → Int → Int → Option (Int × Int × Int × Bool)
  | 0, _, _, _, _, _, _ => none
  | k + 1, x4, x5, x46, x158000, x158001, x158002 => if x46 = true then (if 0 < (x5.length : Int) then ((vergerref12_OpOk.f k 2 (rd x5 0) x158002).bind fun t162 => (some (2, rd x5 0, x158002, t162))) else (none)) else (if 0 < (x4.length : Int) then (if (rdOf ByteArray.empty x4 0).toList = ([97, 102, 116, 101, 114] : List UInt8) then (vergerref12_opOf.j3 k x4 x5 ((x5.length : Int) == 2) x158000 x158001 x158002) else (vergerref12_opOf.j3 k x4 x5 false x158000 x158001 x158002)) else (none))
def vergerref12_opOf.j3 : Nat → List ByteArray → List Int → Bool → Int → Int → Int → Option (Int × Int × Int × Bool)
  | 0, _, _, _, _, _, _ => none
  | k + 1, x4, x5, x61, x158000, x158001, x158002 => if x61 = true then (if 0 < (x5.length : Int) then (if 1 < (x5.length : Int) then ((vergerref12_OpOk.f k 3 (rd x5 0) (rd x5 1)).bind fun t166 => (some (3, rd x5 0, rd x5 1, t166))) else (none)) else (none)) else (if 0 < (x4.length : Int) then (if (rdOf ByteArray.empty x4 0).toList = ([99, 97, 110, 99, 101, 108] : List UInt8) then (vergerref12_opOf.j4 k x4 x5 ((x5.length : Int) == 1) x158000 x158001 x158002) else (vergerref12_opOf.j4 k x4 x5 false x158000 x158001 x158002)) else (none))
def vergerref12_opOf.j4 : Nat → List ByteArray → List Int → Bool → Int → Int → Int → Option (Int × Int × Int × Bool)
  | 0, _, _, _, _, _, _ => none
  | k + 1, x4, x5, x80, x158000, x158001, x158002 => if x80 = true then (if 0 < (x5.length : Int) then ((vergerref12_OpOk.f k 4 (rd x5 0) x158002).bind fun t169 => (some (4, rd x5 0, x158002, t169))) else (none)) else (if 0 < (x4.length : Int) then (if (rdOf ByteArray.empty x4 0).toList = ([112, 97, 110, 105, 99] : List UInt8) then (if (x5.length : Int) = 0 then ((vergerref12_OpOk.f k 5 x158001 x158002).bind fun t171 => (some (5, x158001, x158002, t171))) else ((vergerref12_OpOk.f k x158000 x158001 x158002).bind fun t172 => (some (x158000, x158001, x158002, t172)))) else ((vergerref12_OpOk.f k x158000 x158001 x158002).bind fun t173 => (some (x158000, x158001, x158002, t173)))) else (none))
end
def vergerref12_opOf.f (k : Nat) (a0 : ByteArray) : Option (Int × Int × Int × Bool) := (vergerref12_Words.f k a0 32).bind fun t148 => (vergerref12_opOf.l0 k t148 ([] : List Int) 1)
theorem vergerref12_opOf.mono_l : ∀ k, (∀ y0 y1 y2, LeO (vergerref12_opOf.l0 k y0 y1 y2) (vergerref12_opOf.l0 (k + 1) y0 y1 y2)) ∧ (∀ y0 y1 y2 y3 y4 y5, LeO (vergerref12_opOf.j1 k y0 y1 y2 y3 y4 y5) (vergerref12_opOf.j1 (k + 1) y0 y1 y2 y3 y4 y5)) ∧ (∀ y0 y1 y2 y3 y4 y5, LeO (vergerref12_opOf.j2 k y0 y1 y2 y3 y4 y5) (vergerref12_opOf.j2 (k + 1) y0 y1 y2 y3 y4 y5)) ∧ (∀ y0 y1 y2 y3 y4 y5, LeO (vergerref12_opOf.j3 k y0 y1 y2 y3 y4 y5) (vergerref12_opOf.j3 (k + 1) y0 y1 y2 y3 y4 y5)) ∧ (∀ y0 y1 y2 y3 y4 y5, LeO (vergerref12_opOf.j4 k y0 y1 y2 y3 y4 y5) (vergerref12_opOf.j4 (k + 1) y0 y1 y2 y3 y4 y5))
  | 0 => ⟨fun _ _ _ r h => by simp [vergerref12_opOf.l0] at h, fun _ _ _ _ _ _ r h => by simp [vergerref12_opOf.j1] at h, fun _ _ _ _ _ _ r h => by simp [vergerref12_opOf.j2] at h, fun _ _ _ _ _ _ r h => by simp [vergerref12_opOf.j3] at h, fun _ _ _ _ _ _ r h => by simp [vergerref12_opOf.j4] at h⟩
  | k + 1 => by
    obtain ⟨ih0, ih1, ih2, ih3, ih4⟩ := vergerref12_opOf.mono_l k
    refine ⟨?_, ?_, ?_, ?_, ?_⟩
    · intro y0 y1 y2
      unfold vergerref12_opOf.l0
      repeat' first
      | (with_reducible exact ih0 _ _ _)
      | (with_reducible exact ih1 _ _ _ _ _ _)
      | (with_reducible exact ih2 _ _ _ _ _ _)
      | (with_reducible exact ih3 _ _ _ _ _ _)
      | (with_reducible exact ih4 _ _ _ _ _ _)
      | (with_reducible exact vergerref12_Number.mono _ _ _)
      | (with_reducible exact vergerref12_OpOk.mono _ _ _ _)
      | (with_reducible exact vergerref12_Words.mono _ _ _)
      | (with_reducible exact LeO.refl _)
      | (with_reducible exact LeO.none _)
      | (with_reducible refine LeO.ite ?_ ?_)
      | (with_reducible refine LeO.bind ?_ (fun _ => ?_))
      | exact ih0 _ _ _
      | exact ih1 _ _ _ _ _ _
      | exact ih2 _ _ _ _ _ _
      | exact ih3 _ _ _ _ _ _
      | exact ih4 _ _ _ _ _ _
      | exact vergerref12_Number.mono _ _ _
      | exact vergerref12_OpOk.mono _ _ _ _
      | exact vergerref12_Words.mono _ _ _
      | exact LeO.none _
      | refine LeO.ite ?_ ?_
      | refine LeO.bind ?_ (fun _ => ?_)
    · intro y0 y1 y2 y3 y4 y5
      unfold vergerref12_opOf.j1
      repeat' first
      | (with_reducible exact ih0 _ _ _)
      | (with_reducible exact ih1 _ _ _ _ _ _)
      | (with_reducible exact ih2 _ _ _ _ _ _)
      | (with_reducible exact ih3 _ _ _ _ _ _)
      | (with_reducible exact ih4 _ _ _ _ _ _)
      | (with_reducible exact vergerref12_Number.mono _ _ _)
      | (with_reducible exact vergerref12_OpOk.mono _ _ _ _)
      | (with_reducible exact vergerref12_Words.mono _ _ _)
      | (with_reducible exact LeO.refl _)
      | (with_reducible exact LeO.none _)
      | (with_reducible refine LeO.ite ?_ ?_)
      | (with_reducible refine LeO.bind ?_ (fun _ => ?_))
      | exact ih0 _ _ _
      | exact ih1 _ _ _ _ _ _
      | exact ih2 _ _ _ _ _ _
      | exact ih3 _ _ _ _ _ _
      | exact ih4 _ _ _ _ _ _
      | exact vergerref12_Number.mono _ _ _
      | exact vergerref12_OpOk.mono _ _ _ _
      | exact vergerref12_Words.mono _ _ _
      | exact LeO.none _
      | refine LeO.ite ?_ ?_
      | refine LeO.bind ?_ (fun _ => ?_)
    · intro y0 y1 y2 y3 y4 y5
      unfold vergerref12_opOf.j2
      repeat' first
      | (with_reducible exact ih0 _ _ _)
      | (with_reducible exact ih1 _ _ _ _ _ _)
      | (with_reducible exact ih2 _ _ _ _ _ _)
      | (with_reducible exact ih3 _ _ _ _ _ _)
      | (with_reducible exact ih4 _ _ _ _ _ _)
      | (with_reducible exact vergerref12_Number.mono _ _ _)
      | (with_reducible exact vergerref12_OpOk.mono _ _ _ _)
      | (with_reducible exact vergerref12_Words.mono _ _ _)
      | (with_reducible exact LeO.refl _)
      | (with_reducible exact LeO.none _)
      | (with_reducible refine LeO.ite ?_ ?_)
      | (with_reducible refine LeO.bind ?_ (fun _ => ?_))
      | exact ih0 _ _ _
      | exact ih1 _ _ _ _ _ _
      | exact ih2 _ _ _ _ _ _
      | exact ih3 _ _ _ _ _ _
      | exact ih4 _ _ _ _ _ _
      | exact vergerref12_Number.mono _ _ _
      | exact vergerref12_OpOk.mono _ _ _ _
      | exact vergerref12_Words.mono _ _ _
      | exact LeO.none _
      | refine LeO.ite ?_ ?_
      | refine LeO.bind ?_ (fun _ => ?_)
    · intro y0 y1 y2 y3 y4 y5
      unfold vergerref12_opOf.j3
      repeat' first
      | (with_reducible exact ih0 _ _ _)
      | (with_reducible exact ih1 _ _ _ _ _ _)
      | (with_reducible exact ih2 _ _ _ _ _ _)
      | (with_reducible exact ih3 _ _ _ _ _ _)
      | (with_reducible exact ih4 _ _ _ _ _ _)
      | (with_reducible exact vergerref12_Number.mono _ _ _)
      | (with_reducible exact vergerref12_OpOk.mono _ _ _ _)
      | (with_reducible exact vergerref12_Words.mono _ _ _)
      | (with_reducible exact LeO.refl _)
      | (with_reducible exact LeO.none _)
      | (with_reducible refine LeO.ite ?_ ?_)
      | (with_reducible refine LeO.bind ?_ (fun _ => ?_))
      | exact ih0 _ _ _
      | exact ih1 _ _ _ _ _ _
      | exact ih2 _ _ _ _ _ _
      | exact ih3 _ _ _ _ _ _
      | exact ih4 _ _ _ _ _ _
      | exact vergerref12_Number.mono _ _ _
      | exact vergerref12_OpOk.mono _ _ _ _
      | exact vergerref12_Words.mono _ _ _
      | exact LeO.none _
      | refine LeO.ite ?_ ?_
      | refine LeO.bind ?_ (fun _ => ?_)
    · intro y0 y1 y2 y3 y4 y5
      unfold vergerref12_opOf.j4
      repeat' first
      | (with_reducible exact ih0 _ _ _)
      | (with_reducible exact ih1 _ _ _ _ _ _)
      | (with_reducible exact ih2 _ _ _ _ _ _)
      | (with_reducible exact ih3 _ _ _ _ _ _)
      | (with_reducible exact ih4 _ _ _ _ _ _)
      | (with_reducible exact vergerref12_Number.mono _ _ _)
      | (with_reducible exact vergerref12_OpOk.mono _ _ _ _)
      | (with_reducible exact vergerref12_Words.mono _ _ _)
      | (with_reducible exact LeO.refl _)
      | (with_reducible exact LeO.none _)
      | (with_reducible refine LeO.ite ?_ ?_)
      | (with_reducible refine LeO.bind ?_ (fun _ => ?_))
      | exact ih0 _ _ _
      | exact ih1 _ _ _ _ _ _
      | exact ih2 _ _ _ _ _ _
      | exact ih3 _ _ _ _ _ _
      | exact ih4 _ _ _ _ _ _
      | exact vergerref12_Number.mono _ _ _
      | exact vergerref12_OpOk.mono _ _ _ _
      | exact vergerref12_Words.mono _ _ _
      | exact LeO.none _
      | refine LeO.ite ?_ ?_
      | refine LeO.bind ?_ (fun _ => ?_)
theorem vergerref12_opOf.mono : ∀ a0 k, LeO (vergerref12_opOf.f k a0) (vergerref12_opOf.f (k + 1) a0) := by
  intro a0 k
  obtain ⟨ih0, ih1, ih2, ih3, ih4⟩ := vergerref12_opOf.mono_l k
  unfold vergerref12_opOf.f
  repeat' first
      | (with_reducible exact ih0 _ _ _)
      | (with_reducible exact ih1 _ _ _ _ _ _)
      | (with_reducible exact ih2 _ _ _ _ _ _)
      | (with_reducible exact ih3 _ _ _ _ _ _)
      | (with_reducible exact ih4 _ _ _ _ _ _)
      | (with_reducible exact vergerref12_Number.mono _ _ _)
      | (with_reducible exact vergerref12_OpOk.mono _ _ _ _)
      | (with_reducible exact vergerref12_Words.mono _ _ _)
      | (with_reducible exact LeO.refl _)
      | (with_reducible exact LeO.none _)
      | (with_reducible refine LeO.ite ?_ ?_)
      | (with_reducible refine LeO.bind ?_ (fun _ => ?_))
      | exact ih0 _ _ _
      | exact ih1 _ _ _ _ _ _
      | exact ih2 _ _ _ _ _ _
      | exact ih3 _ _ _ _ _ _
      | exact ih4 _ _ _ _ _ _
      | exact vergerref12_Number.mono _ _ _
      | exact vergerref12_OpOk.mono _ _ _ _
      | exact vergerref12_Words.mono _ _ _
      | exact LeO.none _
      | refine LeO.ite ?_ ?_
      | refine LeO.bind ?_ (fun _ => ?_)
def vergerref12_opOf.T16 : Bool × List (List Nat × List Nat) := (true, [([], []), ([0], [0]), ([1], [1]), ([], []), ([3], [3]), ([4], [4]), ([], []), ([6], [6]), ([0, 1, 2, 6, 7], []), ([8, 2, 7, 0, 1, 2, 6, 7], [2, 8]), ([0, 1, 2, 3, 4, 5, 6, 7, 8, 9], []), ([10, 5, 9, 0, 1, 2, 3, 4, 5, 6, 7, 8, 9], [5, 10])])
def vergerref12_opOf.B16 : List Nat := [0, 1, 3, 0, 8, 24, 0, 64, 199, 455, 1023, 2047]
theorem vergerref12_opOf.tab16 : rtab .any (opsOf Tryd.f21 16) = vergerref12_opOf.T16 := by kernel_rfl
theorem vergerref12_opOf.bits16 : waitsOk vergerref12_opOf.T16.2 vergerref12_opOf.B16 = true := by kernel_rfl
set_option maxHeartbeats 8000000 in
set_option maxRecDepth 100000 in
theorem vergerref12_opOf.calls (k : Nat) (a0 : ByteArray) (r1 : Int) (r2 : Int) (r3 : Int) (r4 : Bool) (w : World) (h : vergerref12_opOf.f k a0 = some (r1, r2, r3, r4)) :
    Calls Tryd.prog 21 #[.string a0] w fun e w' => e = .returned (.tuple #[.agg #[.int .i64 r1, .int .i64 r2, .int .i64 r3], .bool r4]) ∧ Below w.heap.size w w' := by
  have hu50 := Tryd.underlying50
  have HB := Aside0.mk (Below.refl w.heap.size w)
  have H : ((vergerref12_Words.f k a0 32).bind fun t148 => (vergerref12_opOf.l0 k t148 ([] : List Int) 1)) = some (r1, r2, r3, r4) := h
  clear h
  replace H := Option.bind_eq_some_iff.mp H
  obtain ⟨t148, A20, H⟩ := H
  replace H : (vergerref12_opOf.l0 k t148 ([] : List Int) 1) = some (r1, r2, r3, r4) := H
  have A2 := Aside0.mk A20
  clear A20
  have H' := Aside0.mk H
  clear H
  go_enter Tryd.func21, Tryd.ntmps21
  go_wp2_with (first | ((with_reducible refine gate_dst (N := 2) rfl ?_); (try (refine gate_guard (by rfl) ?_; dsimp only)); refine box_event ?hg (N := 2) ?hd (cs := #[.int .i64 0, .int .i64 0, .int .i64 0]) (t := 50) ?hr ?_; (case hd => rfl); (case hg => rfl); (case hr => first | (go_simp; done) | (go_simp; rfl)); intro gb147 hg w3 hbox hb; have n0_ := Aside0.mk (below_step (by repeat (first | (with_reducible first | exact HB.out | apply below_alloc | apply pw_below_drewN | apply below_drew1) | exact HB.out)) hb); have n1_ := Aside0.mk (hbox); have n2_ := Aside0.mk ((by rw [hg]; exact (below_size (by repeat (first | (with_reducible first | exact HB.out | apply below_alloc | apply pw_below_drewN | apply below_drew1) | exact HB.out))) : w.heap.size ≤ gb147)); have n3_ := Aside0.mk ((by rw [hg]; exact (below_size (by repeat (first | (with_reducible first | exact HB.out | apply below_alloc | apply pw_below_drewN | apply below_drew1) | exact HB.out))) : w.heap.size ≤ gb147)); clear HB; have HB := n0_; have BK147 := n1_; have GW147 := n2_; have GE147 := n3_; clear n0_ n1_ n2_ n3_; clear hb hbox hg) | ((with_reducible refine gate_callee (f := 20) rfl ?_); refine goesL_ (some 11) rfl rfl Tryd.func20 (by kernel_rfl) rfl #[.string a0, .int .u8 32] rfl (by (try simp only [List.map_toArray, List.map_cons, List.map_nil]); first | done | rfl | (simp only [List.length_drop, List.length_take]; rfl)) ?_; (with_reducible refine (vergerref12_Words.calls k a0 32 t148 _ A2.out).mono ?_); rintro e w4 ⟨v149, rfl, ho0, hb⟩; refine ⟨_, rfl, ?_⟩; have n0_ := Aside0.mk (Kd.R_lower ho0 (below_size (by repeat (first | (with_reducible first | exact HB.out | apply below_alloc | apply pw_below_drewN | apply below_drew1 | refine below_set ?_ GE147.out) | exact HB.out)))); have n1_ := Aside0.mk (blk_below (g := gb147) (o := .cells #[.int .i64 0, .int .i64 0, .int .i64 0] 50 (0, 0)) (by (with_reducible repeat (first | refine blk_drewN ?_ _ | refine blk_drew ?_ | refine blk_alloc ?_ _)); exact BK147.out) hb); have n2_ := Aside0.mk (below_step (by repeat (first | (with_reducible first | exact HB.out | apply below_alloc | apply pw_below_drewN | apply below_drew1 | refine below_set ?_ GE147.out) | exact HB.out)) hb); clear BK147; clear HB; have HO150 := n0_; have BK147 := n1_; have HB := n2_; clear n0_ n1_ n2_; (try clear hb); (try clear hb2); (try clear hk); (try clear hi); (try clear ho0)))
  go_loopg [5, 6] k (fun kq v5 v6 w' => ∃ (x5_1 : List Int) (x6_1 : Int) (x148000_1 : Int) (x148001_1 : Int) (x148002_1 : Int), v6 = .int .i64 x6_1 ∧ Aside0 (vergerref12_opOf.l0 kq t148 x5_1 x6_1 = some (r1, r2, r3, r4)) ∧ Aside0 (kq ≤ k) ∧ Aside0 (Kd.R Kd.string 9 w' w.heap.size (fun _ => True) v149 t148) ∧ Aside0 (Kd.R (Kd.int .i64) 3 w' w.heap.size (fun _ => True) v5 x5_1) ∧ Aside0 (w'.heap[gb147]? = some (.cells #[.int .i64 x148000_1, .int .i64 x148001_1, .int .i64 x148002_1] 50 (0, 0))) ∧ Aside0 (Below w.heap.size w w'))
  case atStart => exact ⟨(([] : List Int)), (1), (0), (0), (0), (by first | rfl | (simp; done) | (simp [*]; done)), H', ⟨Nat.le_refl _⟩, ⟨by (with_reducible repeat (first | apply Kd.R_alloc | apply Kd.R_drewN | apply Kd.R_drew)); exact HO150.out⟩, ⟨by first | exact Kd.R_nil _ _ _ _ _ | exact Kd.N_nil _ _ _ _ _ | exact Kd.V_nil _ _ _ _ _ | exact Kd.Q_nil _ _ _ _ _ | exact Kd.S_nil _ _ _ _ _⟩, ⟨by (with_reducible repeat (first | refine blk_drewN ?_ _ | refine blk_drew ?_ | refine blk_alloc ?_ _)); exact BK147.out⟩, ⟨by repeat (first | (with_reducible first | exact HB.out | apply below_alloc | apply pw_below_drewN | apply below_drew1 | refine below_set ?_ GE147.out) | exact HB.out)⟩⟩
  case round =>
    clear H'
    try clear c2
    try clear p2
    obtain ⟨x5_1, x6_1, x148000_1, x148001_1, x148002_1, rfl, HA, HK1, HO_4, HO_5, BK147, HB⟩ := hrel
    cases gk with
    | zero => exact absurd HA.out (by simp [vergerref12_opOf.l0])
    | succ k1 =>
      have H := HA.out
      clear HA
      simp only [vergerref12_opOf.l0] at H
      by_cases c5 : x6_1 < (t148.length : Int)
      · rw [if_pos c5] at H
        have c5b0 : decide (x6_1 < (t148.length : Int)) = true := decide_eq_true c5
        clear c5
        by_cases c6 : 0 ≤ x6_1
        · rw [if_pos c6] at H
          have c6b0 : decide (0 ≤ x6_1) = true := decide_eq_true c6
          clear c6
          replace H := Option.bind_eq_some_iff.mp H
          obtain ⟨⟨t152, t153⟩, A70, H⟩ := H
          replace H : (if t153 = true then (if x5_1.length < 17592186044416 then (vergerref12_opOf.l0 k1 t148 (x5_1 ++ [wrap64 (t152)]) (wrap64 (x6_1 + 1))) else (none)) else (some (0, 0, 0, false))) = some (r1, r2, r3, r4) := H
          have A7 := Aside0.mk A70
          clear A70
          by_cases c8 : t153 = true
          · subst c8
            have H1 : (if x5_1.length < 17592186044416 then (vergerref12_opOf.l0 k1 t148 (x5_1 ++ [wrap64 (t152)]) (wrap64 (x6_1 + 1))) else (none)) = some (r1, r2, r3, r4) := by rw [if_pos rfl] at H; exact H
            clear H
            have H := H1
            clear H1
            by_cases c9 : x5_1.length < 17592186044416
            · rw [if_pos c9] at H
              have LMc9 := Aside0.mk c9
              clear c9
              obtain ⟨y154, hy154⟩ : ∃ y_ : List Int, y_ = (x5_1 ++ [wrap64 (t152)]) := ⟨_, rfl⟩
              replace H : (vergerref12_opOf.l0 k1 t148 y154 (wrap64 (x6_1 + 1))) = some (r1, r2, r3, r4) := by first | (rw [hy154]; with_reducible exact H) | (have H2_ := (Option.bind_some _ _).symm.trans H; rw [hy154]; with_reducible exact H2_) | (have H2_ := (Option.bind_some _ _).symm.trans H; with_reducible exact H2_) | with_reducible exact H | (rw [hy154]; exact H) | exact H
              have Ny154 := Aside0.mk hy154
              clear hy154
              have H' := Aside0.mk H
              clear H
              obtain ⟨Ao10, co10, eo10⟩ := Kd.R_slice HO_4.out
              subst eo10
              have p151 : 0 ≤ (x6_1 : Int) := of_decide_eq_true (by first | (with_reducible assumption) | assumption)
              have q151 : x6_1 < (t148.length : Int) := of_decide_eq_true (by first | (with_reducible assumption) | assumption)
              obtain ⟨ad151, e151, hx151_0⟩ := Kd.at_string (Kd.R_reads' HO_4.out).2.2 x6_1 p151 q151
              cases e151
              replace p151 := eq_true p151
              replace q151 := eq_true q151
              go_wp2_with (first | ((with_reducible refine gate_callee (f := 37) rfl ?_); refine goesL_ (some 23) rfl rfl Tryd.func37 (by kernel_rfl) rfl #[.string (rdOf ByteArray.empty t148 x6_1), .int .i64 9] rfl (by (try simp only [List.map_toArray, List.map_cons, List.map_nil]); first | done | rfl | (simp only [List.length_drop, List.length_take]; rfl)) ?_; (with_reducible refine (vergerref12_Number.calls k1 (rdOf ByteArray.empty t148 x6_1) 9 t152 true _ A7.out).mono ?_); rintro e w' ⟨rfl, ⟨nd, rfl⟩⟩; refine ⟨_, rfl, ?_⟩) | ((with_reducible refine gate_builtin (b := .append) (xs := #[.tmp 29, .tmp 32]) rfl ?_); (try (refine gate_guard (by rfl) ?_; dsimp only)); at_builtin; refine Kd.R_append (Kd.int .i64) (w0 := w) w.heap.size rfl (.tmp 29) (.tmp 32) 35 3 (.int .i64 0) 8 rfl Tryd.underlying35 info3 rfl (by decide) (by omega) u5 x5_1 (wrap64 (t152)) [.int .i64 (wrap64 (t152))] (fun _ => True) (fun _ => False) rfl rfl ?aP (fun _ hk => hk.elim) ?aF ?aO ?aB ?aS ?aL ?_; (case aP => exact rfl); (case aB => exact (by repeat (first | (with_reducible first | exact HB.out | apply below_alloc | apply pw_below_drewN | apply below_drew1 | refine below_set ?_ GE147.out) | exact HB.out))); (case aF => exact (fun _ _ => trivial)); (case aO => exact (by (with_reducible repeat (first | apply Kd.R_alloc | apply Kd.R_drewN | apply Kd.R_drew)); exact HO_5.out)); (case aS => exact (below_size (by repeat (first | (with_reducible first | exact HB.out | apply below_alloc | apply pw_below_drewN | apply below_drew1 | refine below_set ?_ GE147.out) | exact HB.out)))); (case aL => have := LMc9.out; omega); intro v155 w11 ho hb hg hat; rw [← Ny154.out] at ho; have n0_ := Aside0.mk (Kd.R_over' (by (with_reducible repeat (first | apply Kd.R_alloc | apply Kd.R_drewN | apply Kd.R_drew)); exact HO_4.out) (Kd.R_typed (by (with_reducible repeat (first | apply Kd.R_alloc | apply Kd.R_drewN | apply Kd.R_drew)); exact HO_5.out)) (by decide) hg); have n1_ := Aside0.mk (blk_grown (g := gb147) (o := .cells #[.int .i64 x148000_1, .int .i64 x148001_1, .int .i64 x148002_1] 50 (0, 0)) (by (with_reducible repeat (first | refine blk_drewN ?_ _ | refine blk_drew ?_ | refine blk_alloc ?_ _)); exact BK147.out) hg (Kd.R_ne HO_5.out BK147.out (by decide))); have n2_ := Aside0.mk (hb); have n3_ := Aside0.mk (ho); clear HO_4; clear BK147; clear HB; clear HO_5; have HO_4 := n0_; have BK147 := n1_; have HB := n2_; have HO156 := n3_; clear n0_ n1_ n2_ n3_; clear ho hb hg hat))
              go_roundg k1
              case measure => have := HK1.out; omega
              case rel => exact ⟨(y154), (wrap64 (x6_1 + 1)), (x148000_1), (x148001_1), (x148002_1), (by first | rfl | (simp; done) | (simp [*]; done)), H', ⟨by have := HK1.out; omega⟩, ⟨by (with_reducible repeat (first | apply Kd.R_alloc | apply Kd.R_drewN | apply Kd.R_drew)); exact HO_4.out⟩, ⟨by (with_reducible repeat (first | apply Kd.R_alloc | apply Kd.R_drewN | apply Kd.R_drew)); exact HO156.out⟩, ⟨by (with_reducible repeat (first | refine blk_drewN ?_ _ | refine blk_drew ?_ | refine blk_alloc ?_ _)); exact BK147.out⟩, ⟨by repeat (first | (with_reducible first | exact HB.out | apply below_alloc | apply pw_below_drewN | apply below_drew1 | refine below_set ?_ GE147.out) | exact HB.out)⟩⟩
            · rw [if_neg c9] at H
              exact absurd H (by simp)
          · replace c8 := Bool.eq_false_iff.mpr c8
            subst c8
            have H1 : (some (0, 0, 0, false)) = some (r1, r2, r3, r4) := by rw [if_neg (show ¬ (false = true) by decide)] at H; exact H
            clear H
            have H := H1
            clear H1
            simp only [Option.some.injEq, Prod.mk.injEq] at H
            obtain ⟨rfl, rfl, rfl, rfl⟩ := H
            obtain ⟨Ao12, co12, eo12⟩ := Kd.R_slice HO_4.out
            subst eo12
            have p151 : 0 ≤ (x6_1 : Int) := of_decide_eq_true (by first | (with_reducible assumption) | assumption)
            have q151 : x6_1 < (t148.length : Int) := of_decide_eq_true (by first | (with_reducible assumption) | assumption)
            obtain ⟨ad151, e151, hx151_0⟩ := Kd.at_string (Kd.R_reads' HO_4.out).2.2 x6_1 p151 q151
            cases e151
            replace p151 := eq_true p151
            replace q151 := eq_true q151
            go_wp2_with (first | ((with_reducible refine gate_callee (f := 37) rfl ?_); refine goesL_ (some 23) rfl rfl Tryd.func37 (by kernel_rfl) rfl #[.string (rdOf ByteArray.empty t148 x6_1), .int .i64 9] rfl (by (try simp only [List.map_toArray, List.map_cons, List.map_nil]); first | done | rfl | (simp only [List.length_drop, List.length_take]; rfl)) ?_; (with_reducible refine (vergerref12_Number.calls k1 (rdOf ByteArray.empty t148 x6_1) 9 t152 false _ A7.out).mono ?_); rintro e w' ⟨rfl, ⟨nd, rfl⟩⟩; refine ⟨_, rfl, ?_⟩; (try (rw [drewN_self wr]; generalize hq_ : World.drewN wr _ = wr; have n0_ : Aside0 (Kd.R Kd.string 9 wr w.heap.size (fun _ => True) (.slice (some ad151) t148.length co12) t148) := ⟨by rw [← hq_]; exact (by (with_reducible repeat (first | apply Kd.R_alloc | apply Kd.R_drewN | apply Kd.R_drew)); exact HO_4.out)⟩; have n1_ : Aside0 (Kd.R (Kd.int .i64) 3 wr w.heap.size (fun _ => True) u5 x5_1) := ⟨by rw [← hq_]; exact (by (with_reducible repeat (first | apply Kd.R_alloc | apply Kd.R_drewN | apply Kd.R_drew)); exact HO_5.out)⟩; have n2_ : Aside0 (wr.heap[gb147]? = some (.cells #[.int .i64 x148000_1, .int .i64 x148001_1, .int .i64 x148002_1] 50 (0, 0))) := ⟨by rw [← hq_]; exact (by (with_reducible repeat (first | refine blk_drewN ?_ _ | refine blk_drew ?_ | refine blk_alloc ?_ _)); exact BK147.out)⟩; have n3_ : Aside0 (Below w.heap.size w wr) := ⟨by rw [← hq_]; exact (by repeat (first | (with_reducible first | exact HB.out | apply below_alloc | apply pw_below_drewN | apply below_drew1 | refine below_set ?_ GE147.out) | exact HB.out))⟩; clear HO_4 HO_5 BK147 HB hq_; have HO_4 := n0_; have HO_5 := n1_; have BK147 := n2_; have HB := n3_; clear n0_ n1_ n2_ n3_)); have hcz13_0 : wr.cell? ⟨gb147, 0, none⟩ = some (.int .i64 x148000_1) := (blk_cell BK147.out 0).trans rfl; have hcz13_1 : wr.cell? ⟨gb147, 1, none⟩ = some (.int .i64 x148001_1) := (blk_cell BK147.out 1).trans rfl; have hcz13_2 : wr.cell? ⟨gb147, 2, none⟩ = some (.int .i64 x148002_1) := (blk_cell BK147.out 2).trans rfl; have hfz13_0 := blk_frozen BK147.out 0; have hfz13_1 := blk_frozen BK147.out 1; have hfz13_2 := blk_frozen BK147.out 2))
            refine bodyPost_ret (results_ct rfl _ _ gb147 50 #[.int .i64 0, .int .i64 0, .int .i64 0] (0, 0) _ rfl (by (with_reducible repeat (first | refine blk_drewN ?_ _ | refine blk_drew ?_ | refine blk_alloc ?_ _)); refine blk_put (cs := #[.int .i64 0, .int .i64 0, .int .i64 x148002_1]) ?_ 2 _ rfl; (with_reducible repeat (first | refine blk_drewN ?_ _ | refine blk_drew ?_ | refine blk_alloc ?_ _)); refine blk_put (cs := #[.int .i64 0, .int .i64 x148001_1, .int .i64 x148002_1]) ?_ 1 _ rfl; (with_reducible repeat (first | refine blk_drewN ?_ _ | refine blk_drew ?_ | refine blk_alloc ?_ _)); refine blk_put (cs := #[.int .i64 x148000_1, .int .i64 x148001_1, .int .i64 x148002_1]) ?_ 0 _ rfl; (with_reducible repeat (first | refine blk_drewN ?_ _ | refine blk_drew ?_ | refine blk_alloc ?_ _)); exact BK147.out) Tryd.underlying50 rfl (by kernel_rfl)) rfl ?_
            exact ⟨by first | rfl | (simp [errW_none, errW_some] <;> rfl) | (simp [*, errW_none, errW_some] <;> rfl), by repeat (first | (with_reducible first | exact HB.out | apply below_alloc | apply pw_below_drewN | apply below_drew1 | refine below_set ?_ GE147.out) | exact HB.out)⟩
        · rw [if_neg c6] at H
          exact absurd H (by simp)
      · rw [if_neg c5] at H
        have c5b0 : decide (x6_1 < (t148.length : Int)) = false := decide_eq_false c5
        clear c5
        have HC14 := Aside0.mk H
        clear H
        obtain ⟨Ao15, co15, eo15⟩ := Kd.R_slice HO_4.out
        subst eo15
        go_upto_region 11 with (first | ((with_reducible refine gate_dst (N := 9) rfl ?_); (try (refine gate_guard (by rfl) ?_; dsimp only)); refine box_event ?hg (N := 9) ?hd (cs := #[.int .i64 0, .int .i64 0, .int .i64 0]) (t := 50) ?hr ?_; (case hd => rfl); (case hg => rfl); (case hr => first | (go_simp; done) | (go_simp; rfl)); intro gb157 hg w16 hbox hb; have n0_ := Aside0.mk (Kd.R_below (by (with_reducible repeat (first | apply Kd.R_alloc | apply Kd.R_drewN | apply Kd.R_drew)); exact HO_4.out) hb); have n1_ := Aside0.mk (Kd.R_below (by (with_reducible repeat (first | apply Kd.R_alloc | apply Kd.R_drewN | apply Kd.R_drew)); exact HO_5.out) hb); have n2_ := Aside0.mk (blk_below (g := gb147) (o := .cells #[.int .i64 x148000_1, .int .i64 x148001_1, .int .i64 x148002_1] 50 (0, 0)) (by (with_reducible repeat (first | refine blk_drewN ?_ _ | refine blk_drew ?_ | refine blk_alloc ?_ _)); exact BK147.out) hb); have n3_ := Aside0.mk (below_step (by repeat (first | (with_reducible first | exact HB.out | apply below_alloc | apply pw_below_drewN | apply below_drew1 | refine below_set ?_ GE147.out) | exact HB.out)) hb); have n4_ := Aside0.mk (hbox); have n5_ := Aside0.mk ((by rw [hg]; exact (below_size (by repeat (first | (with_reducible first | exact HB.out | apply below_alloc | apply pw_below_drewN | apply below_drew1 | refine below_set ?_ GE147.out) | exact HB.out))) : w.heap.size ≤ gb157)); have n6_ := Aside0.mk ((by rw [hg]; exact (below_size (by repeat (first | (with_reducible first | exact HB.out | apply below_alloc | apply pw_below_drewN | apply below_drew1 | refine below_set ?_ GE147.out) | exact HB.out))) : w.heap.size ≤ gb157)); have n7_ := Aside0.mk ((by rw [hg]; exact Nat.ne_of_lt (blk_lt (g := gb147) (o := .cells #[.int .i64 x148000_1, .int .i64 x148001_1, .int .i64 x148002_1] 50 (0, 0)) (by (with_reducible repeat (first | refine blk_drewN ?_ _ | refine blk_drew ?_ | refine blk_alloc ?_ _)); exact BK147.out)) : gb147 ≠ gb157)); have n8_ := Aside0.mk ((by rw [hg]; exact Nat.ne_of_gt (blk_lt (g := gb147) (o := .cells #[.int .i64 x148000_1, .int .i64 x148001_1, .int .i64 x148002_1] 50 (0, 0)) (by (with_reducible repeat (first | refine blk_drewN ?_ _ | refine blk_drew ?_ | refine blk_alloc ?_ _)); exact BK147.out)) : gb157 ≠ gb147)); clear HO_4; clear HO_5; clear BK147; clear HB; have HO_4 := n0_; have HO_5 := n1_; have BK147 := n2_; have HB := n3_; have BK157 := n4_; have GW157 := n5_; have GE157 := n6_; have NB147_157 := n7_; have NB157_147 := n8_; clear n0_ n1_ n2_ n3_ n4_ n5_ n6_ n7_ n8_; clear hb hbox hg; have hnb17 := NB157_147.out; have hnc17 := NB147_157.out; have hcz18_0 : w16.cell? ⟨gb157, 0, none⟩ = some (.int .i64 0) := (blk_cell BK157.out 0).trans rfl; have hcz18_1 : w16.cell? ⟨gb157, 1, none⟩ = some (.int .i64 0) := (blk_cell BK157.out 1).trans rfl; have hcz18_2 : w16.cell? ⟨gb157, 2, none⟩ = some (.int .i64 0) := (blk_cell BK157.out 2).trans rfl; have hfz18_0 := blk_frozen BK157.out 0; have hfz18_1 := blk_frozen BK157.out 1; have hfz18_2 := blk_frozen BK157.out 2))
        (try simp only [Act.put, List.setIfInBounds_toArray, List.set_cons_zero, List.set_cons_succ])
        go_cut [35] (fun v35 wc => ∃ (kq : Nat) (x35_13 : Bool), v35 = .bool x35_13 ∧ Aside0 (vergerref12_opOf.j1 kq t148 x5_1 x35_13 0 0 0 = some (r1, r2, r3, r4)) ∧ Aside0 (kq ≤ k1) ∧ Aside0 (Kd.R Kd.string 9 wc w.heap.size (fun _ => True) (.slice Ao15 t148.length co15) t148) ∧ Aside0 (Kd.R (Kd.int .i64) 3 wc w.heap.size (fun _ => True) u5 x5_1) ∧ Aside0 (wc.heap[gb147]? = some (.cells #[.int .i64 x148000_1, .int .i64 x148001_1, .int .i64 x148002_1] 50 (0, 0))) ∧ Aside0 (wc.heap[gb157]? = some (.cells #[.int .i64 0, .int .i64 0, .int .i64 0] 50 (0, 0))) ∧ Aside0 (Below w.heap.size w wc))
        case first =>
          have H := HC14.out
          clear HC14
          by_cases c19 : 0 < (t148.length : Int)
          · rw [if_pos c19] at H
            have c19b0 : decide (0 < (t148.length : Int)) = true := decide_eq_true c19
            have c19b1 : decide (0 < t148.length) = true := decide_eq_true (by omega)
            clear c19
            (first | rw [c19b0] | (simp only [i64_w, i32_w]; rw [c19b0]) | skip)
            by_cases c20 : (rdOf ByteArray.empty t148 0).toList = ([110, 111, 112] : List UInt8)
            · rw [if_pos c20] at H
              have c20b0 : ((rdOf ByteArray.empty t148 0).toList == ([110, 111, 112] : List UInt8)) = true := beq_iff_eq.mpr c20
              have c20b1 : ((rdOf ByteArray.empty t148 0).toList != ([110, 111, 112] : List UInt8)) = false := bne_eq_false_iff_eq.mpr c20
              clear c20
              have H' := Aside0.mk H
              clear H
              have p158 : 0 ≤ (0 : Int) := (by omega)
              have q158 : 0 < (t148.length : Int) := of_decide_eq_true (by first | (with_reducible assumption) | assumption)
              obtain ⟨ad158, e158, hx158_0⟩ := Kd.at_string (Kd.R_reads' HO_4.out).2.2 0 p158 q158
              cases e158
              have qi158 : (0 < t148.length) = True := eq_true (by omega)
              (try rw [show ((0 : Int)).toNat = 0 from rfl] at hx158_0)
              (try rw [Addr.add_zero'] at hx158_0)
              have hn158_0 : ad158.block ≠ gb157 := Kd.own_blk (Kd.R_ne HO_4.out BK157.out (by decide))
              have hn158_1 : ad158.block ≠ gb157 := Kd.own_blk (Kd.R_ne HO_4.out BK157.out (by decide))
              have hn158_2 : ad158.block ≠ gb157 := Kd.own_blk (Kd.R_ne HO_4.out BK157.out (by decide))
              replace hx158_0 := (cell_far (p := ⟨gb157, 0, none⟩) (by first | (rw [add_block]; exact hn158_0) | (show (Addr.add _ _).block ≠ _; rw [add_block]; exact hn158_0) | exact hn158_0) (.int .i64 0)).trans hx158_0
              replace hx158_0 := (cell_far (p := ⟨gb157, 1, none⟩) (by first | (rw [add_block]; exact hn158_1) | (show (Addr.add _ _).block ≠ _; rw [add_block]; exact hn158_1) | exact hn158_1) (.int .i64 0)).trans hx158_0
              replace hx158_0 := (cell_far (p := ⟨gb157, 2, none⟩) (by first | (rw [add_block]; exact hn158_2) | (show (Addr.add _ _).block ≠ _; rw [add_block]; exact hn158_2) | exact hn158_2) (.int .i64 0)).trans hx158_0
              clear hn158_0
              clear hn158_1
              clear hn158_2
              replace p158 := eq_true p158
              replace q158 := eq_true q158
              obtain ⟨Ao21, co21, eo21⟩ := Kd.R_slice HO_5.out
              subst eo21
              go_wp2
              go_meet
              case rel => exact ⟨_, (((x5_1.length : Int) == 0)), (by first | rfl | (simp; done) | (simp [*]; done)), H', ⟨by have := HK1.out; first | omega | exact Nat.le_refl _⟩, ⟨by (with_reducible repeat (first | apply Kd.R_alloc | apply Kd.R_drewN | apply Kd.R_drew)); exact Kd.R_mono (Kd.R_far (p := ⟨gb157, 2, none⟩) (Kd.R_far (p := ⟨gb157, 1, none⟩) (Kd.R_far (p := ⟨gb157, 0, none⟩) (Kd.R_types HO_4.out BK157.out (by decide)) (fun _ hk => hk.2) (.int .i64 0)) (fun _ hk => hk.2) (.int .i64 0)) (fun _ hk => hk.2) (.int .i64 0)) (fun _ hk => trivial)⟩, ⟨by (with_reducible repeat (first | apply Kd.R_alloc | apply Kd.R_drewN | apply Kd.R_drew)); exact Kd.R_mono (Kd.R_far (p := ⟨gb157, 2, none⟩) (Kd.R_far (p := ⟨gb157, 1, none⟩) (Kd.R_far (p := ⟨gb157, 0, none⟩) (Kd.R_types HO_5.out BK157.out (by decide)) (fun _ hk => hk.2) (.int .i64 0)) (fun _ hk => hk.2) (.int .i64 0)) (fun _ hk => hk.2) (.int .i64 0)) (fun _ hk => trivial)⟩, ⟨by (with_reducible repeat (first | refine blk_drewN ?_ _ | refine blk_drew ?_ | refine blk_alloc ?_ _)); refine blk_far ?_ NB147_157.out _; (with_reducible repeat (first | refine blk_drewN ?_ _ | refine blk_drew ?_ | refine blk_alloc ?_ _)); refine blk_far ?_ NB147_157.out _; (with_reducible repeat (first | refine blk_drewN ?_ _ | refine blk_drew ?_ | refine blk_alloc ?_ _)); refine blk_far ?_ NB147_157.out _; (with_reducible repeat (first | refine blk_drewN ?_ _ | refine blk_drew ?_ | refine blk_alloc ?_ _)); exact BK147.out⟩, ⟨by (with_reducible repeat (first | refine blk_drewN ?_ _ | refine blk_drew ?_ | refine blk_alloc ?_ _)); refine blk_put (cs := #[.int .i64 0, .int .i64 0, .int .i64 0]) ?_ 2 _ rfl; (with_reducible repeat (first | refine blk_drewN ?_ _ | refine blk_drew ?_ | refine blk_alloc ?_ _)); refine blk_put (cs := #[.int .i64 0, .int .i64 0, .int .i64 0]) ?_ 1 _ rfl; (with_reducible repeat (first | refine blk_drewN ?_ _ | refine blk_drew ?_ | refine blk_alloc ?_ _)); refine blk_put (cs := #[.int .i64 0, .int .i64 0, .int .i64 0]) ?_ 0 _ rfl; (with_reducible repeat (first | refine blk_drewN ?_ _ | refine blk_drew ?_ | refine blk_alloc ?_ _)); exact BK157.out⟩, ⟨by repeat (first | (with_reducible first | exact HB.out | apply below_alloc | apply pw_below_drewN | apply below_drew1 | refine below_set ?_ GE147.out | refine below_set ?_ GE157.out) | exact HB.out)⟩⟩
            · rw [if_neg c20] at H
              have c20b0 : ((rdOf ByteArray.empty t148 0).toList == ([110, 111, 112] : List UInt8)) = false := beq_eq_false_iff_ne.mpr c20
              have c20b1 : ((rdOf ByteArray.empty t148 0).toList != ([110, 111, 112] : List UInt8)) = true := bne_iff_ne.mpr c20
              have H' := Aside0.mk H
              clear H
              have p158 : 0 ≤ (0 : Int) := (by omega)
              have q158 : 0 < (t148.length : Int) := of_decide_eq_true (by first | (with_reducible assumption) | assumption)
              obtain ⟨ad158, e158, hx158_0⟩ := Kd.at_string (Kd.R_reads' HO_4.out).2.2 0 p158 q158
              cases e158
              have qi158 : (0 < t148.length) = True := eq_true (by omega)
              (try rw [show ((0 : Int)).toNat = 0 from rfl] at hx158_0)
              (try rw [Addr.add_zero'] at hx158_0)
              have hn158_0 : ad158.block ≠ gb157 := Kd.own_blk (Kd.R_ne HO_4.out BK157.out (by decide))
              have hn158_1 : ad158.block ≠ gb157 := Kd.own_blk (Kd.R_ne HO_4.out BK157.out (by decide))
              have hn158_2 : ad158.block ≠ gb157 := Kd.own_blk (Kd.R_ne HO_4.out BK157.out (by decide))
              replace hx158_0 := (cell_far (p := ⟨gb157, 0, none⟩) (by first | (rw [add_block]; exact hn158_0) | (show (Addr.add _ _).block ≠ _; rw [add_block]; exact hn158_0) | exact hn158_0) (.int .i64 0)).trans hx158_0
              replace hx158_0 := (cell_far (p := ⟨gb157, 1, none⟩) (by first | (rw [add_block]; exact hn158_1) | (show (Addr.add _ _).block ≠ _; rw [add_block]; exact hn158_1) | exact hn158_1) (.int .i64 0)).trans hx158_0
              replace hx158_0 := (cell_far (p := ⟨gb157, 2, none⟩) (by first | (rw [add_block]; exact hn158_2) | (show (Addr.add _ _).block ≠ _; rw [add_block]; exact hn158_2) | exact hn158_2) (.int .i64 0)).trans hx158_0
              clear hn158_0
              clear hn158_1
              clear hn158_2
              replace p158 := eq_true p158
              replace q158 := eq_true q158
              go_wp2
              go_meet
              case rel => exact ⟨_, (false), (by first | rfl | (simp; done) | (simp [*]; done)), H', ⟨by have := HK1.out; first | omega | exact Nat.le_refl _⟩, ⟨by (with_reducible repeat (first | apply Kd.R_alloc | apply Kd.R_drewN | apply Kd.R_drew)); exact Kd.R_mono (Kd.R_far (p := ⟨gb157, 2, none⟩) (Kd.R_far (p := ⟨gb157, 1, none⟩) (Kd.R_far (p := ⟨gb157, 0, none⟩) (Kd.R_types HO_4.out BK157.out (by decide)) (fun _ hk => hk.2) (.int .i64 0)) (fun _ hk => hk.2) (.int .i64 0)) (fun _ hk => hk.2) (.int .i64 0)) (fun _ hk => trivial)⟩, ⟨by (with_reducible repeat (first | apply Kd.R_alloc | apply Kd.R_drewN | apply Kd.R_drew)); exact Kd.R_mono (Kd.R_far (p := ⟨gb157, 2, none⟩) (Kd.R_far (p := ⟨gb157, 1, none⟩) (Kd.R_far (p := ⟨gb157, 0, none⟩) (Kd.R_types HO_5.out BK157.out (by decide)) (fun _ hk => hk.2) (.int .i64 0)) (fun _ hk => hk.2) (.int .i64 0)) (fun _ hk => hk.2) (.int .i64 0)) (fun _ hk => trivial)⟩, ⟨by (with_reducible repeat (first | refine blk_drewN ?_ _ | refine blk_drew ?_ | refine blk_alloc ?_ _)); refine blk_far ?_ NB147_157.out _; (with_reducible repeat (first | refine blk_drewN ?_ _ | refine blk_drew ?_ | refine blk_alloc ?_ _)); refine blk_far ?_ NB147_157.out _; (with_reducible repeat (first | refine blk_drewN ?_ _ | refine blk_drew ?_ | refine blk_alloc ?_ _)); refine blk_far ?_ NB147_157.out _; (with_reducible repeat (first | refine blk_drewN ?_ _ | refine blk_drew ?_ | refine blk_alloc ?_ _)); exact BK147.out⟩, ⟨by (with_reducible repeat (first | refine blk_drewN ?_ _ | refine blk_drew ?_ | refine blk_alloc ?_ _)); refine blk_put (cs := #[.int .i64 0, .int .i64 0, .int .i64 0]) ?_ 2 _ rfl; (with_reducible repeat (first | refine blk_drewN ?_ _ | refine blk_drew ?_ | refine blk_alloc ?_ _)); refine blk_put (cs := #[.int .i64 0, .int .i64 0, .int .i64 0]) ?_ 1 _ rfl; (with_reducible repeat (first | refine blk_drewN ?_ _ | refine blk_drew ?_ | refine blk_alloc ?_ _)); refine blk_put (cs := #[.int .i64 0, .int .i64 0, .int .i64 0]) ?_ 0 _ rfl; (with_reducible repeat (first | refine blk_drewN ?_ _ | refine blk_drew ?_ | refine blk_alloc ?_ _)); exact BK157.out⟩, ⟨by repeat (first | (with_reducible first | exact HB.out | apply below_alloc | apply pw_below_drewN | apply below_drew1 | refine below_set ?_ GE147.out | refine below_set ?_ GE157.out) | exact HB.out)⟩⟩
          · rw [if_neg c19] at H
            exact absurd H (by simp)
        case rest =>
          clear HC14
          try clear c1
          try clear p1
          try clear q1
          try clear hx1
          try clear qi1
          try clear c2
          try clear p2
          try clear c3
          try clear c5
          try clear c5b0
          try clear c6
          try clear c6b0
          try clear p6
          try clear c8
          try clear c9
          try clear p15
          try clear q15
          try clear hx15
          try clear qi15
          try clear c17
          try clear c19
          try clear c19b0
          try clear c19b1
          try clear c20
          try clear c20b0
          try clear c20b1
          try clear c21
          try clear hcz13_0
          try clear hcz13_1
          try clear hcz13_2
          try clear hcz18_0
          try clear hcz18_1
          try clear hcz18_2
          try clear hfz13_0
          try clear hfz13_1
          try clear hfz13_2
          try clear hfz18_0
          try clear hfz18_1
          try clear hfz18_2
          try clear hx151_0
          try clear hx158_0
          try clear p151
          try clear p158
          try clear p2
          try clear q151
          try clear q158
          obtain ⟨kq, x35_13, rfl, HA, HJ13, HO_4, HO_5, BK147, BK157, HB⟩ := hcut
          cases kq with
          | zero => exact absurd HA.out (by simp [vergerref12_opOf.j1])
          | succ kj13 =>
            have H := HA.out
            clear HA
            simp only [vergerref12_opOf.j1] at H
            by_cases c22 : x35_13 = true
            · subst c22
              have H1 : ((vergerref12_OpOk.f kj13 1 0 0).bind fun t159 => (some (1, 0, 0, t159))) = some (r1, r2, r3, r4) := by rw [if_pos rfl] at H; exact H
              clear H
              have H := H1
              clear H1
              replace H := Option.bind_eq_some_iff.mp H
              obtain ⟨t159, A230, H⟩ := H
              replace H : (some (1, 0, 0, t159)) = some (r1, r2, r3, r4) := H
              have A23 := Aside0.mk A230
              clear A230
              simp only [Option.some.injEq, Prod.mk.injEq] at H
              obtain ⟨rfl, rfl, rfl, rfl⟩ := H
              have hnb24 := NB157_147.out
              have hnc24 := NB147_157.out
              have hcz25_0 : wc.cell? ⟨gb157, 0, none⟩ = some (.int .i64 0) := (blk_cell BK157.out 0).trans rfl
              have hcz25_1 : wc.cell? ⟨gb157, 1, none⟩ = some (.int .i64 0) := (blk_cell BK157.out 1).trans rfl
              have hcz25_2 : wc.cell? ⟨gb157, 2, none⟩ = some (.int .i64 0) := (blk_cell BK157.out 2).trans rfl
              have hfz25_0 := blk_frozen BK157.out 0
              have hfz25_1 := blk_frozen BK157.out 1
              have hfz25_2 := blk_frozen BK157.out 2
              try go_wp2
              have n0_ : Aside0 (Kd.R Kd.string 9 (wc.setCell ⟨gb157, 0, none⟩ (.int .i64 1)) w.heap.size (fun _ => True) (.slice Ao15 t148.length co15) t148) := ⟨by (with_reducible repeat (first | apply Kd.R_alloc | apply Kd.R_drewN | apply Kd.R_drew)); exact Kd.R_mono (Kd.R_far (p := ⟨gb157, 0, none⟩) (Kd.R_types HO_4.out BK157.out (by decide)) (fun _ hk => hk.2) (.int .i64 1)) (fun _ hk => trivial)⟩
              have n1_ : Aside0 (Kd.R (Kd.int .i64) 3 (wc.setCell ⟨gb157, 0, none⟩ (.int .i64 1)) w.heap.size (fun _ => True) u5 x5_1) := ⟨by (with_reducible repeat (first | apply Kd.R_alloc | apply Kd.R_drewN | apply Kd.R_drew)); exact Kd.R_mono (Kd.R_far (p := ⟨gb157, 0, none⟩) (Kd.R_types HO_5.out BK157.out (by decide)) (fun _ hk => hk.2) (.int .i64 1)) (fun _ hk => trivial)⟩
              have n2_ : Aside0 ((wc.setCell ⟨gb157, 0, none⟩ (.int .i64 1)).heap[gb147]? = some (.cells #[.int .i64 x148000_1, .int .i64 x148001_1, .int .i64 x148002_1] 50 (0, 0))) := ⟨by (with_reducible repeat (first | refine blk_drewN ?_ _ | refine blk_drew ?_ | refine blk_alloc ?_ _)); refine blk_far ?_ NB147_157.out _; (with_reducible repeat (first | refine blk_drewN ?_ _ | refine blk_drew ?_ | refine blk_alloc ?_ _)); exact BK147.out⟩
              have n3_ : Aside0 ((wc.setCell ⟨gb157, 0, none⟩ (.int .i64 1)).heap[gb157]? = some (.cells #[.int .i64 1, .int .i64 0, .int .i64 0] 50 (0, 0))) := ⟨by (with_reducible repeat (first | refine blk_drewN ?_ _ | refine blk_drew ?_ | refine blk_alloc ?_ _)); refine blk_put (cs := #[.int .i64 0, .int .i64 0, .int .i64 0]) ?_ 0 _ rfl; (with_reducible repeat (first | refine blk_drewN ?_ _ | refine blk_drew ?_ | refine blk_alloc ?_ _)); exact BK157.out⟩
              have n4_ : Aside0 (Below w.heap.size w (wc.setCell ⟨gb157, 0, none⟩ (.int .i64 1))) := ⟨by repeat (first | (with_reducible first | exact HB.out | apply below_alloc | apply pw_below_drewN | apply below_drew1 | refine below_set ?_ GE147.out | refine below_set ?_ GE157.out) | exact HB.out)⟩
              (try clear HO_4)
              (try clear HO_5)
              (try clear BK147)
              (try clear BK157)
              (try clear HB)
              generalize (wc.setCell ⟨gb157, 0, none⟩ (.int .i64 1)) = w26 at n0_ n1_ n2_ n3_ n4_ ⊢
              have HO_4 := n0_
              have HO_5 := n1_
              have BK147 := n2_
              have BK157 := n3_
              have HB := n4_
              clear n0_ n1_ n2_ n3_ n4_
              have n0_ := Aside0.mk (Kd.R_drew HO_4.out)
              have n1_ := Aside0.mk (Kd.R_drew HO_5.out)
              have n2_ := Aside0.mk (blk_drew BK147.out)
              have n3_ := Aside0.mk (blk_drew BK157.out)
              have n4_ := Aside0.mk (below_drew1 HB.out)
              clear HO_4
              clear HO_5
              clear BK147
              clear BK157
              clear HB
              have HO_4 := n0_
              have HO_5 := n1_
              have BK147 := n2_
              have BK157 := n3_
              have HB := n4_
              clear n0_ n1_ n2_ n3_ n4_
              refine start_ (n := 5) (S := fun w' => w'.cell? ⟨gb157, 0, none⟩ = some (.int .i64 1) ∧ w'.cell? ⟨gb157, 1, none⟩ = some (.int .i64 0) ∧ w'.cell? ⟨gb157, 2, none⟩ = some (.int .i64 0)) (ds := []) #[false, false, false, false, false] (by kernel_rfl) rfl rfl ⟨(blk_cell BK157.out 0).trans rfl, (blk_cell BK157.out 1).trans rfl, (blk_cell BK157.out 2).trans rfl⟩ (fun hHeld => ?_)
              generalize w26.drew = w27 at HO_4 HO_5 BK147 BK157 HB hHeld ⊢
              refine take_ (i := 0) (N := some 106) (v := ?_) (a' := ?_) #[true, false, false, false, false] rfl rfl (by kernel_rfl) (fun _ _ _ h => h) (Or.inl ⟨by rfl, ?_⟩) hHeld ?_ ?_
              rotate_left
              · rintro w' ⟨s0, s1, s2⟩
                go_simp
                with_reducible rfl
              rotate_left
              · simp only [Act.put, List.setIfInBounds_toArray, List.set_cons_zero, List.set_cons_succ, i64_w, i32_w]
                rfl
              refine take_ (i := 1) (N := some 107) (v := ?_) (a' := ?_) #[true, true, false, false, false] rfl rfl (by kernel_rfl) (fun _ _ _ h => h) (Or.inl ⟨by rfl, ?_⟩) hHeld ?_ ?_
              rotate_left
              · rintro w' ⟨s0, s1, s2⟩
                go_simp
                with_reducible rfl
              rotate_left
              · simp only [Act.put, List.setIfInBounds_toArray, List.set_cons_zero, List.set_cons_succ, i64_w, i32_w]
                rfl
              refine one_ (i := 2) (N := some 108) #[true, true, true, false, false] rfl rfl (by kernel_rfl) (by decide) (fun K hK => ?_)
              refine goes_ Tryd.func38 (by kernel_rfl) rfl #[.agg #[.int .i64 1, .int .i64 0, .int .i64 0]] (by rfl) rfl rfl (by (try simp only [List.map_toArray, List.map_cons, List.map_nil]); first | done | rfl | (simp only [List.length_drop, List.length_take]; rfl)) ?_
              with_reducible refine (vergerref12_OpOk.calls kj13 1 0 0 t159 _ A23.out).mono ?_
              rintro e w28 ⟨rfl, hb⟩
              refine ⟨_, rfl, ?_⟩
              have n0_ := Aside0.mk (Kd.R_below (by (with_reducible repeat (first | apply Kd.R_alloc | apply Kd.R_drewN | apply Kd.R_drew)); exact HO_4.out) hb)
              have n1_ := Aside0.mk (Kd.R_below (by (with_reducible repeat (first | apply Kd.R_alloc | apply Kd.R_drewN | apply Kd.R_drew)); exact HO_5.out) hb)
              have n2_ := Aside0.mk (blk_below (g := gb147) (o := .cells #[.int .i64 x148000_1, .int .i64 x148001_1, .int .i64 x148002_1] 50 (0, 0)) (by (with_reducible repeat (first | refine blk_drewN ?_ _ | refine blk_drew ?_ | refine blk_alloc ?_ _)); exact BK147.out) hb)
              have n3_ := Aside0.mk (blk_below (g := gb157) (o := .cells #[.int .i64 1, .int .i64 0, .int .i64 0] 50 (0, 0)) (by (with_reducible repeat (first | refine blk_drewN ?_ _ | refine blk_drew ?_ | refine blk_alloc ?_ _)); exact BK157.out) hb)
              have n4_ := Aside0.mk (below_step (by repeat (first | (with_reducible first | exact HB.out | apply below_alloc | apply pw_below_drewN | apply below_drew1 | refine below_set ?_ GE147.out | refine below_set ?_ GE157.out) | exact HB.out)) hb)
              clear HO_4
              clear HO_5
              clear BK147
              clear BK157
              clear HB
              have HO_4 := n0_
              have HO_5 := n1_
              have BK147 := n2_
              have BK157 := n3_
              have HB := n4_
              clear n0_ n1_ n2_ n3_ n4_
              (try clear hb)
              (try clear hb2)
              (try clear hk)
              (try clear hi)
              refine hK.out _ _ ⟨(blk_cell BK157.out 0).trans rfl, (blk_cell BK157.out 1).trans rfl, (blk_cell BK157.out 2).trans rfl⟩ (fun hHeld => ?_)
              clear hK K
              refine norm_ (a' := ?_) ?_ ?_
              rotate_left
              · show Act.put _ (some 108) _ = _
                simp only [Act.put, List.setIfInBounds_toArray, List.set_cons_zero, List.set_cons_succ, i64_w, i32_w]
                rfl
              refine one_ (i := 3) (N := none) #[true, true, true, true, false] rfl rfl (by kernel_rfl) (by decide) (fun K hK => ?_)
              have hs29 : w28.cell? ⟨gb147, 0, none⟩ = some (.int .i64 x148000_1) := (blk_cell BK147.out 0).trans rfl
              have hfs29 := blk_frozen BK147.out 0
              have hns29_1 := NB157_147.out
              have hms29_1 := NB147_157.out
              have hs30 : w28.cell? ⟨gb147, 1, none⟩ = some (.int .i64 x148001_1) := (blk_cell BK147.out 1).trans rfl
              have hfs30 := blk_frozen BK147.out 1
              have hns30_1 := NB157_147.out
              have hms30_1 := NB147_157.out
              have hs31 : w28.cell? ⟨gb147, 2, none⟩ = some (.int .i64 x148002_1) := (blk_cell BK147.out 2).trans rfl
              have hfs31 := blk_frozen BK147.out 2
              have hns31_1 := NB157_147.out
              have hms31_1 := NB147_157.out
              refine skip_ (w1 := ?_) (by rfl) rfl ?_ ?_
              rotate_left
              · go_simp
                rfl
              refine hK.out _ _ ⟨((cell_far (p := ⟨gb147, _, none⟩) NB157_147.out _).trans (((cell_far (p := ⟨gb147, _, none⟩) NB157_147.out _).trans (((cell_far (p := ⟨gb147, _, none⟩) NB157_147.out _).trans (hHeld.1)))))), ((cell_far (p := ⟨gb147, _, none⟩) NB157_147.out _).trans (((cell_far (p := ⟨gb147, _, none⟩) NB157_147.out _).trans (((cell_far (p := ⟨gb147, _, none⟩) NB157_147.out _).trans (hHeld.2.1)))))), ((cell_far (p := ⟨gb147, _, none⟩) NB157_147.out _).trans (((cell_far (p := ⟨gb147, _, none⟩) NB157_147.out _).trans (((cell_far (p := ⟨gb147, _, none⟩) NB157_147.out _).trans (hHeld.2.2))))))⟩ (fun hHeld => ?_)
              clear hK K
              refine pure_ (i := 4) (N := some 3) (v := ?_) (a' := ?_) #[true, true, true, true, true] rfl rfl (by kernel_rfl) (fun _ _ _ h => h) (Or.inl ⟨by rfl, ?_⟩) ?_ ?_
              rotate_left
              · intro w'
                go_simp
                with_reducible rfl
              rotate_left
              · simp only [Act.put, List.setIfInBounds_toArray, List.set_cons_zero, List.set_cons_succ, i64_w, i32_w]
                rfl
              refine done_ (by kernel_rfl) ?_
              try go_wp2
              refine bodyPost_ret (results_ct rfl _ _ gb147 50 #[.int .i64 1, .int .i64 0, .int .i64 0] (0, 0) _ rfl (by (with_reducible repeat (first | refine blk_drewN ?_ _ | refine blk_drew ?_ | refine blk_alloc ?_ _)); refine blk_put (cs := #[.int .i64 1, .int .i64 0, .int .i64 x148002_1]) ?_ 2 _ rfl; (with_reducible repeat (first | refine blk_drewN ?_ _ | refine blk_drew ?_ | refine blk_alloc ?_ _)); refine blk_put (cs := #[.int .i64 1, .int .i64 x148001_1, .int .i64 x148002_1]) ?_ 1 _ rfl; (with_reducible repeat (first | refine blk_drewN ?_ _ | refine blk_drew ?_ | refine blk_alloc ?_ _)); refine blk_put (cs := #[.int .i64 x148000_1, .int .i64 x148001_1, .int .i64 x148002_1]) ?_ 0 _ rfl; (with_reducible repeat (first | refine blk_drewN ?_ _ | refine blk_drew ?_ | refine blk_alloc ?_ _)); exact BK147.out) Tryd.underlying50 rfl (by kernel_rfl)) rfl ?_
              exact ⟨by first | rfl | (simp [errW_none, errW_some] <;> rfl) | (simp [*, errW_none, errW_some] <;> rfl), by repeat (first | (with_reducible first | exact HB.out | apply below_alloc | apply pw_below_drewN | apply below_drew1 | refine below_set ?_ GE147.out | refine below_set ?_ GE157.out) | exact HB.out)⟩
            · replace c22 := Bool.eq_false_iff.mpr c22
              subst c22
              have H1 : (if 0 < (t148.length : Int) then (if (rdOf ByteArray.empty t148 0).toList = ([115, 117, 98, 109, 105, 116] : List UInt8) then (vergerref12_opOf.j2 kj13 t148 x5_1 ((x5_1.length : Int) == 1) 0 0 0) else (vergerref12_opOf.j2 kj13 t148 x5_1 false 0 0 0)) else (none)) = some (r1, r2, r3, r4) := by rw [if_neg (show ¬ (false = true) by decide)] at H; exact H
              clear H
              have H := H1
              clear H1
              have HC32 := Aside0.mk H
              clear H
              go_upto_region 13 with (fail)
              go_cut [46] (fun v46 wc => ∃ (kq : Nat) (x46_31 : Bool), v46 = .bool x46_31 ∧ Aside0 (vergerref12_opOf.j2 kq t148 x5_1 x46_31 0 0 0 = some (r1, r2, r3, r4)) ∧ Aside0 (kq ≤ kj13) ∧ Aside0 (Kd.R Kd.string 9 wc w.heap.size (fun _ => True) (.slice Ao15 t148.length co15) t148) ∧ Aside0 (Kd.R (Kd.int .i64) 3 wc w.heap.size (fun _ => True) u5 x5_1) ∧ Aside0 (wc.heap[gb147]? = some (.cells #[.int .i64 x148000_1, .int .i64 x148001_1, .int .i64 x148002_1] 50 (0, 0))) ∧ Aside0 (wc.heap[gb157]? = some (.cells #[.int .i64 0, .int .i64 0, .int .i64 0] 50 (0, 0))) ∧ Aside0 (Below w.heap.size w wc))
              case first =>
                have H := HC32.out
                clear HC32
                by_cases c33 : 0 < (t148.length : Int)
                · rw [if_pos c33] at H
                  have c33b0 : decide (0 < (t148.length : Int)) = true := decide_eq_true c33
                  have c33b1 : decide (0 < t148.length) = true := decide_eq_true (by omega)
                  clear c33
                  (first | rw [c33b0] | (simp only [i64_w, i32_w]; rw [c33b0]) | skip)
                  by_cases c34 : (rdOf ByteArray.empty t148 0).toList = ([115, 117, 98, 109, 105, 116] : List UInt8)
                  · rw [if_pos c34] at H
                    have c34b0 : ((rdOf ByteArray.empty t148 0).toList == ([115, 117, 98, 109, 105, 116] : List UInt8)) = true := beq_iff_eq.mpr c34
                    have c34b1 : ((rdOf ByteArray.empty t148 0).toList != ([115, 117, 98, 109, 105, 116] : List UInt8)) = false := bne_eq_false_iff_eq.mpr c34
                    clear c34
                    have H' := Aside0.mk H
                    clear H
                    have p160 : 0 ≤ (0 : Int) := (by omega)
                    have q160 : 0 < (t148.length : Int) := of_decide_eq_true (by first | (with_reducible assumption) | assumption)
                    obtain ⟨ad160, e160, hx160_0⟩ := Kd.at_string (Kd.R_reads' HO_4.out).2.2 0 p160 q160
                    cases e160
                    have qi160 : (0 < t148.length) = True := eq_true (by omega)
                    (try rw [show ((0 : Int)).toNat = 0 from rfl] at hx160_0)
                    (try rw [Addr.add_zero'] at hx160_0)
                    replace p160 := eq_true p160
                    replace q160 := eq_true q160
                    obtain ⟨Ao35, co35, eo35⟩ := Kd.R_slice HO_5.out
                    subst eo35
                    go_wp2
                    go_meet
                    case rel => exact ⟨_, (((x5_1.length : Int) == 1)), (by first | rfl | (simp; done) | (simp [*]; done)), H', ⟨by have := HK1.out; have := HJ13.out; first | omega | exact Nat.le_refl _⟩, ⟨by (with_reducible repeat (first | apply Kd.R_alloc | apply Kd.R_drewN | apply Kd.R_drew)); exact HO_4.out⟩, ⟨by (with_reducible repeat (first | apply Kd.R_alloc | apply Kd.R_drewN | apply Kd.R_drew)); exact HO_5.out⟩, ⟨by (with_reducible repeat (first | refine blk_drewN ?_ _ | refine blk_drew ?_ | refine blk_alloc ?_ _)); exact BK147.out⟩, ⟨by (with_reducible repeat (first | refine blk_drewN ?_ _ | refine blk_drew ?_ | refine blk_alloc ?_ _)); exact BK157.out⟩, ⟨by repeat (first | (with_reducible first | exact HB.out | apply below_alloc | apply pw_below_drewN | apply below_drew1 | refine below_set ?_ GE147.out | refine below_set ?_ GE157.out) | exact HB.out)⟩⟩
                  · rw [if_neg c34] at H
                    have c34b0 : ((rdOf ByteArray.empty t148 0).toList == ([115, 117, 98, 109, 105, 116] : List UInt8)) = false := beq_eq_false_iff_ne.mpr c34
                    have c34b1 : ((rdOf ByteArray.empty t148 0).toList != ([115, 117, 98, 109, 105, 116] : List UInt8)) = true := bne_iff_ne.mpr c34
                    have H' := Aside0.mk H
                    clear H
                    have p160 : 0 ≤ (0 : Int) := (by omega)
                    have q160 : 0 < (t148.length : Int) := of_decide_eq_true (by first | (with_reducible assumption) | assumption)
                    obtain ⟨ad160, e160, hx160_0⟩ := Kd.at_string (Kd.R_reads' HO_4.out).2.2 0 p160 q160
                    cases e160
                    have qi160 : (0 < t148.length) = True := eq_true (by omega)
                    (try rw [show ((0 : Int)).toNat = 0 from rfl] at hx160_0)
                    (try rw [Addr.add_zero'] at hx160_0)
                    replace p160 := eq_true p160
                    replace q160 := eq_true q160
                    go_wp2
                    go_meet
                    case rel => exact ⟨_, (false), (by first | rfl | (simp; done) | (simp [*]; done)), H', ⟨by have := HK1.out; have := HJ13.out; first | omega | exact Nat.le_refl _⟩, ⟨by (with_reducible repeat (first | apply Kd.R_alloc | apply Kd.R_drewN | apply Kd.R_drew)); exact HO_4.out⟩, ⟨by (with_reducible repeat (first | apply Kd.R_alloc | apply Kd.R_drewN | apply Kd.R_drew)); exact HO_5.out⟩, ⟨by (with_reducible repeat (first | refine blk_drewN ?_ _ | refine blk_drew ?_ | refine blk_alloc ?_ _)); exact BK147.out⟩, ⟨by (with_reducible repeat (first | refine blk_drewN ?_ _ | refine blk_drew ?_ | refine blk_alloc ?_ _)); exact BK157.out⟩, ⟨by repeat (first | (with_reducible first | exact HB.out | apply below_alloc | apply pw_below_drewN | apply below_drew1 | refine below_set ?_ GE147.out | refine below_set ?_ GE157.out) | exact HB.out)⟩⟩
                · rw [if_neg c33] at H
                  exact absurd H (by simp)
              case rest =>
                clear HC32
                try clear c1
                try clear p1
                try clear q1
                try clear hx1
                try clear qi1
                try clear c2
                try clear p2
                try clear c3
                try clear c5
                try clear c5b0
                try clear c6
                try clear c6b0
                try clear p6
                try clear c8
                try clear c9
                try clear p15
                try clear q15
                try clear hx15
                try clear qi15
                try clear p16
                try clear q16
                try clear hx16
                try clear qi16
                try clear c17
                try clear c19
                try clear c19b0
                try clear c19b1
                try clear c20
                try clear c20b0
                try clear c20b1
                try clear c21
                try clear c22
                try clear c24
                try clear c33
                try clear c33b0
                try clear c33b1
                try clear c34
                try clear c34b0
                try clear c34b1
                try clear hcz13_0
                try clear hcz13_1
                try clear hcz13_2
                try clear hcz18_0
                try clear hcz18_1
                try clear hcz18_2
                try clear hcz25_0
                try clear hcz25_1
                try clear hcz25_2
                try clear hfz13_0
                try clear hfz13_1
                try clear hfz13_2
                try clear hfz18_0
                try clear hfz18_1
                try clear hfz18_2
                try clear hfz25_0
                try clear hfz25_1
                try clear hfz25_2
                try clear hx151_0
                try clear hx158_0
                try clear hx160_0
                try clear p1
                try clear p15
                try clear p151
                try clear p158
                try clear p160
                try clear p2
                try clear p6
                try clear q1
                try clear q15
                try clear q151
                try clear q158
                try clear q160
                obtain ⟨kq, x46_31, rfl, HA, HJ31, HO_4, HO_5, BK147, BK157, HB⟩ := hcut
                cases kq with
                | zero => exact absurd HA.out (by simp [vergerref12_opOf.j2])
                | succ kj31 =>
                  have H := HA.out
                  clear HA
                  simp only [vergerref12_opOf.j2] at H
                  by_cases c36 : x46_31 = true
                  · subst c36
                    have H1 : (if 0 < (x5_1.length : Int) then ((vergerref12_OpOk.f kj31 2 (rd x5_1 0) 0).bind fun t162 => (some (2, rd x5_1 0, 0, t162))) else (none)) = some (r1, r2, r3, r4) := by rw [if_pos rfl] at H; exact H
                    clear H
                    have H := H1
                    clear H1
                    by_cases c37 : 0 < (x5_1.length : Int)
                    · rw [if_pos c37] at H
                      have c37b0 : decide (0 < (x5_1.length : Int)) = true := decide_eq_true c37
                      have c37b1 : decide (0 < x5_1.length) = true := decide_eq_true (by omega)
                      clear c37
                      replace H := Option.bind_eq_some_iff.mp H
                      obtain ⟨t162, A380, H⟩ := H
                      replace H : (some (2, rd x5_1 0, 0, t162)) = some (r1, r2, r3, r4) := H
                      have A38 := Aside0.mk A380
                      clear A380
                      simp only [Option.some.injEq, Prod.mk.injEq] at H
                      obtain ⟨rfl, rfl, rfl, rfl⟩ := H
                      try go_wp2
                      have n0_ := Aside0.mk (Kd.R_drew HO_4.out)
                      have n1_ := Aside0.mk (Kd.R_drew HO_5.out)
                      have n2_ := Aside0.mk (blk_drew BK147.out)
                      have n3_ := Aside0.mk (blk_drew BK157.out)
                      have n4_ := Aside0.mk (below_drew1 HB.out)
                      clear HO_4
                      clear HO_5
                      clear BK147
                      clear BK157
                      clear HB
                      have HO_4 := n0_
                      have HO_5 := n1_
                      have BK147 := n2_
                      have BK157 := n3_
                      have HB := n4_
                      clear n0_ n1_ n2_ n3_ n4_
                      obtain ⟨Ao40, co40, eo40⟩ := Kd.R_slice HO_5.out
                      (first | subst eo40 | (injection eo40 with f1_ f2_ f3_; have f4_ := f1_.symm; have f5_ := f3_.symm; clear f1_ f2_ f3_; subst f4_; subst f5_))
                      have p161 : 0 ≤ (0 : Int) := (by omega)
                      have q161 : 0 < (x5_1.length : Int) := of_decide_eq_true (by first | (with_reducible assumption) | assumption)
                      obtain ⟨ad161, e161, hx161_0⟩ := Kd.at_int (Kd.R_reads' HO_5.out).2.2 0 p161 q161
                      cases e161
                      have qi161 : (0 < x5_1.length) = True := eq_true (by omega)
                      (try rw [show ((0 : Int)).toNat = 0 from rfl] at hx161_0)
                      (try rw [Addr.add_zero'] at hx161_0)
                      replace p161 := eq_true p161
                      replace q161 := eq_true q161
                      refine start_ (n := 7) (S := fun w' => w'.cell? ad161 = some (.int .i64 (rd x5_1 0))) (ds := []) #[false, false, false, false, false, false, false] (by kernel_rfl) rfl rfl (hx161_0) (fun hHeld => ?_)
                      generalize wc.drew = w39 at HO_4 HO_5 BK147 BK157 HB hx161_0 hHeld ⊢
                      refine pure_ (i := 0) (N := some 56) (v := ?_) (a' := ?_) #[true, false, false, false, false, false, false] rfl rfl (by kernel_rfl) (fun _ _ _ h => h) (Or.inl ⟨by rfl, ?_⟩) ?_ ?_
                      rotate_left
                      · intro w'
                        go_simp
                        with_reducible rfl
                      rotate_left
                      · simp only [Act.put, List.setIfInBounds_toArray, List.set_cons_zero, List.set_cons_succ, i64_w, i32_w]
                        rfl
                      refine pure_ (i := 1) (N := some 57) (v := ?_) (a' := ?_) #[true, true, false, false, false, false, false] rfl rfl (by kernel_rfl) (fun _ _ _ h => h) (Or.inl ⟨by rfl, ?_⟩) ?_ ?_
                      rotate_left
                      · intro w'
                        go_simp
                        with_reducible rfl
                      rotate_left
                      · simp only [Act.put, List.setIfInBounds_toArray, List.set_cons_zero, List.set_cons_succ, i64_w, i32_w]
                        rfl
                      refine pure_ (i := 3) (N := some 59) (v := ?_) (a' := ?_) #[true, true, false, true, false, false, false] rfl rfl (by kernel_rfl) (fun _ _ _ h => h) (Or.inl ⟨by rfl, ?_⟩) ?_ ?_
                      rotate_left
                      · intro w'
                        go_simp
                        with_reducible rfl
                      rotate_left
                      · simp only [Act.put, List.setIfInBounds_toArray, List.set_cons_zero, List.set_cons_succ, i64_w, i32_w]
                        rfl
                      refine take_ (i := 2) (N := some 58) (v := ?_) (a' := ?_) #[true, true, true, true, false, false, false] rfl rfl (by kernel_rfl) (fun _ _ _ h => h) (Or.inl ⟨by rfl, ?_⟩) hHeld ?_ ?_
                      rotate_left
                      · intro w' s0
                        go_simp
                        with_reducible rfl
                      rotate_left
                      · simp only [Act.put, List.setIfInBounds_toArray, List.set_cons_zero, List.set_cons_succ, i64_w, i32_w]
                        rfl
                      refine one_ (i := 4) (N := none) #[true, true, true, true, true, false, false] rfl rfl (by kernel_rfl) (by decide) (fun K hK => ?_)
                      have hs41 : w39.cell? ⟨gb157, 0, none⟩ = some (.int .i64 0) := (blk_cell BK157.out 0).trans rfl
                      have hfs41 := blk_frozen BK157.out 0
                      have hns41_0 := NB147_157.out
                      have hms41_0 := NB157_147.out
                      refine skip_ (w1 := ?_) (by rfl) rfl ?_ ?_
                      rotate_left
                      · go_simp
                        rfl
                      refine hK.out _ _ (((cell_far (p := ⟨gb157, _, none⟩) (by first | exact Kd.own_blk (Kd.R_ne HO_5.out BK157.out (by decide)) | (rw [add_block]; exact Kd.own_blk (Kd.R_ne HO_5.out BK157.out (by decide))) | (show (Addr.add _ _).block ≠ _; rw [add_block]; exact Kd.own_blk (Kd.R_ne HO_5.out BK157.out (by decide))) | (dsimp only; exact Kd.own_blk (Kd.R_ne HO_5.out BK157.out (by decide)))) _).trans (hHeld))) (fun hHeld => ?_)
                      clear hK K
                      refine pure_ (i := 5) (N := some 60) (v := ?_) (a' := ?_) #[true, true, true, true, true, true, false] rfl rfl (by kernel_rfl) (fun _ _ _ h => h) (Or.inl ⟨by rfl, ?_⟩) ?_ ?_
                      rotate_left
                      · intro w'
                        go_simp
                        with_reducible rfl
                      rotate_left
                      · simp only [Act.put, List.setIfInBounds_toArray, List.set_cons_zero, List.set_cons_succ, i64_w, i32_w]
                        rfl
                      refine one_ (i := 6) (N := none) #[true, true, true, true, true, true, true] rfl rfl (by kernel_rfl) (by decide) (fun K hK => ?_)
                      have hs42 : w39.cell? ⟨gb157, 1, none⟩ = some (.int .i64 0) := (blk_cell BK157.out 1).trans rfl
                      have hfs42 := blk_frozen BK157.out 1
                      have hns42_0 := NB147_157.out
                      have hms42_0 := NB157_147.out
                      refine skip_ (w1 := ?_) (by rfl) rfl ?_ ?_
                      rotate_left
                      · go_simp
                        rfl
                      refine hK.out _ _ (((cell_far (p := ⟨gb157, _, none⟩) (by first | exact Kd.own_blk (Kd.R_ne HO_5.out BK157.out (by decide)) | (rw [add_block]; exact Kd.own_blk (Kd.R_ne HO_5.out BK157.out (by decide))) | (show (Addr.add _ _).block ≠ _; rw [add_block]; exact Kd.own_blk (Kd.R_ne HO_5.out BK157.out (by decide))) | (dsimp only; exact Kd.own_blk (Kd.R_ne HO_5.out BK157.out (by decide)))) _).trans (hHeld))) (fun hHeld => ?_)
                      clear hK K
                      refine done_ (by kernel_rfl) ?_
                      try go_wp2
                      have n0_ : Aside0 (Kd.R Kd.string 9 ((w39.setCell ⟨gb157, 0, none⟩ (.int .i64 2)).setCell ⟨gb157, 1, none⟩ (.int .i64 (rd x5_1 0))) w.heap.size (fun _ => True) (.slice Ao15 t148.length co15) t148) := ⟨by (with_reducible repeat (first | apply Kd.R_alloc | apply Kd.R_drewN | apply Kd.R_drew)); exact Kd.R_mono (Kd.R_far (p := ⟨gb157, 1, none⟩) (Kd.R_far (p := ⟨gb157, 0, none⟩) (Kd.R_types HO_4.out BK157.out (by decide)) (fun _ hk => hk.2) (.int .i64 2)) (fun _ hk => hk.2) (.int .i64 (rd x5_1 0))) (fun _ hk => trivial)⟩
                      have n1_ : Aside0 (Kd.R (Kd.int .i64) 3 ((w39.setCell ⟨gb157, 0, none⟩ (.int .i64 2)).setCell ⟨gb157, 1, none⟩ (.int .i64 (rd x5_1 0))) w.heap.size (fun _ => True) (.slice (some ad161) x5_1.length co40) x5_1) := ⟨by (with_reducible repeat (first | apply Kd.R_alloc | apply Kd.R_drewN | apply Kd.R_drew)); exact Kd.R_mono (Kd.R_far (p := ⟨gb157, 1, none⟩) (Kd.R_far (p := ⟨gb157, 0, none⟩) (Kd.R_types HO_5.out BK157.out (by decide)) (fun _ hk => hk.2) (.int .i64 2)) (fun _ hk => hk.2) (.int .i64 (rd x5_1 0))) (fun _ hk => trivial)⟩
                      have n2_ : Aside0 (((w39.setCell ⟨gb157, 0, none⟩ (.int .i64 2)).setCell ⟨gb157, 1, none⟩ (.int .i64 (rd x5_1 0))).heap[gb147]? = some (.cells #[.int .i64 x148000_1, .int .i64 x148001_1, .int .i64 x148002_1] 50 (0, 0))) := ⟨by (with_reducible repeat (first | refine blk_drewN ?_ _ | refine blk_drew ?_ | refine blk_alloc ?_ _)); refine blk_far ?_ NB147_157.out _; (with_reducible repeat (first | refine blk_drewN ?_ _ | refine blk_drew ?_ | refine blk_alloc ?_ _)); refine blk_far ?_ NB147_157.out _; (with_reducible repeat (first | refine blk_drewN ?_ _ | refine blk_drew ?_ | refine blk_alloc ?_ _)); exact BK147.out⟩
                      have n3_ : Aside0 (((w39.setCell ⟨gb157, 0, none⟩ (.int .i64 2)).setCell ⟨gb157, 1, none⟩ (.int .i64 (rd x5_1 0))).heap[gb157]? = some (.cells #[.int .i64 2, .int .i64 (rd x5_1 0), .int .i64 0] 50 (0, 0))) := ⟨by (with_reducible repeat (first | refine blk_drewN ?_ _ | refine blk_drew ?_ | refine blk_alloc ?_ _)); refine blk_put (cs := #[.int .i64 2, .int .i64 0, .int .i64 0]) ?_ 1 _ rfl; (with_reducible repeat (first | refine blk_drewN ?_ _ | refine blk_drew ?_ | refine blk_alloc ?_ _)); refine blk_put (cs := #[.int .i64 0, .int .i64 0, .int .i64 0]) ?_ 0 _ rfl; (with_reducible repeat (first | refine blk_drewN ?_ _ | refine blk_drew ?_ | refine blk_alloc ?_ _)); exact BK157.out⟩
                      have n4_ : Aside0 (Below w.heap.size w ((w39.setCell ⟨gb157, 0, none⟩ (.int .i64 2)).setCell ⟨gb157, 1, none⟩ (.int .i64 (rd x5_1 0)))) := ⟨by repeat (first | (with_reducible first | exact HB.out | apply below_alloc | apply pw_below_drewN | apply below_drew1 | refine below_set ?_ GE147.out | refine below_set ?_ GE157.out) | exact HB.out)⟩
                      (try clear HO_4)
                      (try clear HO_5)
                      (try clear BK147)
                      (try clear BK157)
                      (try clear HB)
                      generalize ((w39.setCell ⟨gb157, 0, none⟩ (.int .i64 2)).setCell ⟨gb157, 1, none⟩ (.int .i64 (rd x5_1 0))) = w43 at n0_ n1_ n2_ n3_ n4_ ⊢
                      have HO_4 := n0_
                      have HO_5 := n1_
                      have BK147 := n2_
                      have BK157 := n3_
                      have HB := n4_
                      clear n0_ n1_ n2_ n3_ n4_
                      have n0_ := Aside0.mk (Kd.R_drew HO_4.out)
                      have n1_ := Aside0.mk (Kd.R_drew HO_5.out)
                      have n2_ := Aside0.mk (blk_drew BK147.out)
                      have n3_ := Aside0.mk (blk_drew BK157.out)
                      have n4_ := Aside0.mk (below_drew1 HB.out)
                      clear HO_4
                      clear HO_5
                      clear BK147
                      clear BK157
                      clear HB
                      have HO_4 := n0_
                      have HO_5 := n1_
                      have BK147 := n2_
                      have BK157 := n3_
                      have HB := n4_
                      clear n0_ n1_ n2_ n3_ n4_
                      refine start_ (n := 5) (S := fun w' => w'.cell? ⟨gb157, 0, none⟩ = some (.int .i64 2) ∧ w'.cell? ⟨gb157, 1, none⟩ = some (.int .i64 (rd x5_1 0)) ∧ w'.cell? ⟨gb157, 2, none⟩ = some (.int .i64 0)) (ds := []) #[false, false, false, false, false] (by kernel_rfl) rfl rfl ⟨(blk_cell BK157.out 0).trans rfl, (blk_cell BK157.out 1).trans rfl, (blk_cell BK157.out 2).trans rfl⟩ (fun hHeld => ?_)
                      generalize w43.drew = w44 at HO_4 HO_5 BK147 BK157 HB hHeld ⊢
                      refine take_ (i := 0) (N := some 106) (v := ?_) (a' := ?_) #[true, false, false, false, false] rfl rfl (by kernel_rfl) (fun _ _ _ h => h) (Or.inl ⟨by rfl, ?_⟩) hHeld ?_ ?_
                      rotate_left
                      · rintro w' ⟨s0, s1, s2⟩
                        go_simp
                        with_reducible rfl
                      rotate_left
                      · simp only [Act.put, List.setIfInBounds_toArray, List.set_cons_zero, List.set_cons_succ, i64_w, i32_w]
                        rfl
                      refine take_ (i := 1) (N := some 107) (v := ?_) (a' := ?_) #[true, true, false, false, false] rfl rfl (by kernel_rfl) (fun _ _ _ h => h) (Or.inl ⟨by rfl, ?_⟩) hHeld ?_ ?_
                      rotate_left
                      · rintro w' ⟨s0, s1, s2⟩
                        go_simp
                        with_reducible rfl
                      rotate_left
                      · simp only [Act.put, List.setIfInBounds_toArray, List.set_cons_zero, List.set_cons_succ, i64_w, i32_w]
                        rfl
                      refine one_ (i := 2) (N := some 108) #[true, true, true, false, false] rfl rfl (by kernel_rfl) (by decide) (fun K hK => ?_)
                      refine goes_ Tryd.func38 (by kernel_rfl) rfl #[.agg #[.int .i64 2, .int .i64 (rd x5_1 0), .int .i64 0]] (by rfl) rfl rfl (by (try simp only [List.map_toArray, List.map_cons, List.map_nil]); first | done | rfl | (simp only [List.length_drop, List.length_take]; rfl)) ?_
                      with_reducible refine (vergerref12_OpOk.calls kj31 2 (rd x5_1 0) 0 t162 _ A38.out).mono ?_
                      rintro e w45 ⟨rfl, hb⟩
                      refine ⟨_, rfl, ?_⟩
                      have n0_ := Aside0.mk (Kd.R_below (by (with_reducible repeat (first | apply Kd.R_alloc | apply Kd.R_drewN | apply Kd.R_drew)); exact HO_4.out) hb)
                      have n1_ := Aside0.mk (Kd.R_below (by (with_reducible repeat (first | apply Kd.R_alloc | apply Kd.R_drewN | apply Kd.R_drew)); exact HO_5.out) hb)
                      have n2_ := Aside0.mk (blk_below (g := gb147) (o := .cells #[.int .i64 x148000_1, .int .i64 x148001_1, .int .i64 x148002_1] 50 (0, 0)) (by (with_reducible repeat (first | refine blk_drewN ?_ _ | refine blk_drew ?_ | refine blk_alloc ?_ _)); exact BK147.out) hb)
                      have n3_ := Aside0.mk (blk_below (g := gb157) (o := .cells #[.int .i64 2, .int .i64 (rd x5_1 0), .int .i64 0] 50 (0, 0)) (by (with_reducible repeat (first | refine blk_drewN ?_ _ | refine blk_drew ?_ | refine blk_alloc ?_ _)); exact BK157.out) hb)
                      have n4_ := Aside0.mk (below_step (by repeat (first | (with_reducible first | exact HB.out | apply below_alloc | apply pw_below_drewN | apply below_drew1 | refine below_set ?_ GE147.out | refine below_set ?_ GE157.out) | exact HB.out)) hb)
                      clear HO_4
                      clear HO_5
                      clear BK147
                      clear BK157
                      clear HB
                      have HO_4 := n0_
                      have HO_5 := n1_
                      have BK147 := n2_
                      have BK157 := n3_
                      have HB := n4_
                      clear n0_ n1_ n2_ n3_ n4_
                      (try clear hb)
                      (try clear hb2)
                      (try clear hk)
                      (try clear hi)
                      refine hK.out _ _ ⟨(blk_cell BK157.out 0).trans rfl, (blk_cell BK157.out 1).trans rfl, (blk_cell BK157.out 2).trans rfl⟩ (fun hHeld => ?_)
                      clear hK K
                      refine norm_ (a' := ?_) ?_ ?_
                      rotate_left
                      · show Act.put _ (some 108) _ = _
                        simp only [Act.put, List.setIfInBounds_toArray, List.set_cons_zero, List.set_cons_succ, i64_w, i32_w]
                        rfl
                      refine one_ (i := 3) (N := none) #[true, true, true, true, false] rfl rfl (by kernel_rfl) (by decide) (fun K hK => ?_)
                      have hs46 : w45.cell? ⟨gb147, 0, none⟩ = some (.int .i64 x148000_1) := (blk_cell BK147.out 0).trans rfl
                      have hfs46 := blk_frozen BK147.out 0
                      have hns46_1 := NB157_147.out
                      have hms46_1 := NB147_157.out
                      have hs47 : w45.cell? ⟨gb147, 1, none⟩ = some (.int .i64 x148001_1) := (blk_cell BK147.out 1).trans rfl
                      have hfs47 := blk_frozen BK147.out 1
                      have hns47_1 := NB157_147.out
                      have hms47_1 := NB147_157.out
                      have hs48 : w45.cell? ⟨gb147, 2, none⟩ = some (.int .i64 x148002_1) := (blk_cell BK147.out 2).trans rfl
                      have hfs48 := blk_frozen BK147.out 2
                      have hns48_1 := NB157_147.out
                      have hms48_1 := NB147_157.out
                      refine skip_ (w1 := ?_) (by rfl) rfl ?_ ?_
                      rotate_left
                      · go_simp
                        rfl
                      refine hK.out _ _ ⟨((cell_far (p := ⟨gb147, _, none⟩) NB157_147.out _).trans (((cell_far (p := ⟨gb147, _, none⟩) NB157_147.out _).trans (((cell_far (p := ⟨gb147, _, none⟩) NB157_147.out _).trans (hHeld.1)))))), ((cell_far (p := ⟨gb147, _, none⟩) NB157_147.out _).trans (((cell_far (p := ⟨gb147, _, none⟩) NB157_147.out _).trans (((cell_far (p := ⟨gb147, _, none⟩) NB157_147.out _).trans (hHeld.2.1)))))), ((cell_far (p := ⟨gb147, _, none⟩) NB157_147.out _).trans (((cell_far (p := ⟨gb147, _, none⟩) NB157_147.out _).trans (((cell_far (p := ⟨gb147, _, none⟩) NB157_147.out _).trans (hHeld.2.2))))))⟩ (fun hHeld => ?_)
                      clear hK K
                      refine pure_ (i := 4) (N := some 3) (v := ?_) (a' := ?_) #[true, true, true, true, true] rfl rfl (by kernel_rfl) (fun _ _ _ h => h) (Or.inl ⟨by rfl, ?_⟩) ?_ ?_
                      rotate_left
                      · intro w'
                        go_simp
                        with_reducible rfl
                      rotate_left
                      · simp only [Act.put, List.setIfInBounds_toArray, List.set_cons_zero, List.set_cons_succ, i64_w, i32_w]
                        rfl
                      refine done_ (by kernel_rfl) ?_
                      try go_wp2
                      refine bodyPost_ret (results_ct rfl _ _ gb147 50 #[.int .i64 2, .int .i64 (rd x5_1 0), .int .i64 0] (0, 0) _ rfl (by (with_reducible repeat (first | refine blk_drewN ?_ _ | refine blk_drew ?_ | refine blk_alloc ?_ _)); refine blk_put (cs := #[.int .i64 2, .int .i64 (rd x5_1 0), .int .i64 x148002_1]) ?_ 2 _ rfl; (with_reducible repeat (first | refine blk_drewN ?_ _ | refine blk_drew ?_ | refine blk_alloc ?_ _)); refine blk_put (cs := #[.int .i64 2, .int .i64 x148001_1, .int .i64 x148002_1]) ?_ 1 _ rfl; (with_reducible repeat (first | refine blk_drewN ?_ _ | refine blk_drew ?_ | refine blk_alloc ?_ _)); refine blk_put (cs := #[.int .i64 x148000_1, .int .i64 x148001_1, .int .i64 x148002_1]) ?_ 0 _ rfl; (with_reducible repeat (first | refine blk_drewN ?_ _ | refine blk_drew ?_ | refine blk_alloc ?_ _)); exact BK147.out) Tryd.underlying50 rfl (by kernel_rfl)) rfl ?_
                      exact ⟨by first | rfl | (simp [errW_none, errW_some] <;> rfl) | (simp [*, errW_none, errW_some] <;> rfl), by repeat (first | (with_reducible first | exact HB.out | apply below_alloc | apply pw_below_drewN | apply below_drew1 | refine below_set ?_ GE147.out | refine below_set ?_ GE157.out) | exact HB.out)⟩
                    · rw [if_neg c37] at H
                      exact absurd H (by simp)
                  · replace c36 := Bool.eq_false_iff.mpr c36
                    subst c36
                    have H1 : (if 0 < (t148.length : Int) then (if (rdOf ByteArray.empty t148 0).toList = ([97, 102, 116, 101, 114] : List UInt8) then (vergerref12_opOf.j3 kj31 t148 x5_1 ((x5_1.length : Int) == 2) 0 0 0) else (vergerref12_opOf.j3 kj31 t148 x5_1 false 0 0 0)) else (none)) = some (r1, r2, r3, r4) := by rw [if_neg (show ¬ (false = true) by decide)] at H; exact H
                    clear H
                    have H := H1
                    clear H1
                    have HC49 := Aside0.mk H
                    clear H
                    go_upto_region 15 with (fail)
                    go_cut [61] (fun v61 wc => ∃ (kq : Nat) (x61_48 : Bool), v61 = .bool x61_48 ∧ Aside0 (vergerref12_opOf.j3 kq t148 x5_1 x61_48 0 0 0 = some (r1, r2, r3, r4)) ∧ Aside0 (kq ≤ kj31) ∧ Aside0 (Kd.R Kd.string 9 wc w.heap.size (fun _ => True) (.slice Ao15 t148.length co15) t148) ∧ Aside0 (Kd.R (Kd.int .i64) 3 wc w.heap.size (fun _ => True) u5 x5_1) ∧ Aside0 (wc.heap[gb147]? = some (.cells #[.int .i64 x148000_1, .int .i64 x148001_1, .int .i64 x148002_1] 50 (0, 0))) ∧ Aside0 (wc.heap[gb157]? = some (.cells #[.int .i64 0, .int .i64 0, .int .i64 0] 50 (0, 0))) ∧ Aside0 (Below w.heap.size w wc))
                    case first =>
                      have H := HC49.out
                      clear HC49
                      by_cases c50 : 0 < (t148.length : Int)
                      · rw [if_pos c50] at H
                        have c50b0 : decide (0 < (t148.length : Int)) = true := decide_eq_true c50
                        have c50b1 : decide (0 < t148.length) = true := decide_eq_true (by omega)
                        clear c50
                        (first | rw [c50b0] | (simp only [i64_w, i32_w]; rw [c50b0]) | skip)
                        by_cases c51 : (rdOf ByteArray.empty t148 0).toList = ([97, 102, 116, 101, 114] : List UInt8)
                        · rw [if_pos c51] at H
                          have c51b0 : ((rdOf ByteArray.empty t148 0).toList == ([97, 102, 116, 101, 114] : List UInt8)) = true := beq_iff_eq.mpr c51
                          have c51b1 : ((rdOf ByteArray.empty t148 0).toList != ([97, 102, 116, 101, 114] : List UInt8)) = false := bne_eq_false_iff_eq.mpr c51
                          clear c51
                          have H' := Aside0.mk H
                          clear H
                          have p163 : 0 ≤ (0 : Int) := (by omega)
                          have q163 : 0 < (t148.length : Int) := of_decide_eq_true (by first | (with_reducible assumption) | assumption)
                          obtain ⟨ad163, e163, hx163_0⟩ := Kd.at_string (Kd.R_reads' HO_4.out).2.2 0 p163 q163
                          cases e163
                          have qi163 : (0 < t148.length) = True := eq_true (by omega)
                          (try rw [show ((0 : Int)).toNat = 0 from rfl] at hx163_0)
                          (try rw [Addr.add_zero'] at hx163_0)
                          replace p163 := eq_true p163
                          replace q163 := eq_true q163
                          obtain ⟨Ao52, co52, eo52⟩ := Kd.R_slice HO_5.out
                          subst eo52
                          go_wp2
                          go_meet
                          case rel => exact ⟨_, (((x5_1.length : Int) == 2)), (by first | rfl | (simp; done) | (simp [*]; done)), H', ⟨by have := HK1.out; have := HJ13.out; have := HJ31.out; first | omega | exact Nat.le_refl _⟩, ⟨by (with_reducible repeat (first | apply Kd.R_alloc | apply Kd.R_drewN | apply Kd.R_drew)); exact HO_4.out⟩, ⟨by (with_reducible repeat (first | apply Kd.R_alloc | apply Kd.R_drewN | apply Kd.R_drew)); exact HO_5.out⟩, ⟨by (with_reducible repeat (first | refine blk_drewN ?_ _ | refine blk_drew ?_ | refine blk_alloc ?_ _)); exact BK147.out⟩, ⟨by (with_reducible repeat (first | refine blk_drewN ?_ _ | refine blk_drew ?_ | refine blk_alloc ?_ _)); exact BK157.out⟩, ⟨by repeat (first | (with_reducible first | exact HB.out | apply below_alloc | apply pw_below_drewN | apply below_drew1 | refine below_set ?_ GE147.out | refine below_set ?_ GE157.out) | exact HB.out)⟩⟩
                        · rw [if_neg c51] at H
                          have c51b0 : ((rdOf ByteArray.empty t148 0).toList == ([97, 102, 116, 101, 114] : List UInt8)) = false := beq_eq_false_iff_ne.mpr c51
                          have c51b1 : ((rdOf ByteArray.empty t148 0).toList != ([97, 102, 116, 101, 114] : List UInt8)) = true := bne_iff_ne.mpr c51
                          have H' := Aside0.mk H
                          clear H
                          have p163 : 0 ≤ (0 : Int) := (by omega)
                          have q163 : 0 < (t148.length : Int) := of_decide_eq_true (by first | (with_reducible assumption) | assumption)
                          obtain ⟨ad163, e163, hx163_0⟩ := Kd.at_string (Kd.R_reads' HO_4.out).2.2 0 p163 q163
                          cases e163
                          have qi163 : (0 < t148.length) = True := eq_true (by omega)
                          (try rw [show ((0 : Int)).toNat = 0 from rfl] at hx163_0)
                          (try rw [Addr.add_zero'] at hx163_0)
                          replace p163 := eq_true p163
                          replace q163 := eq_true q163
                          go_wp2
                          go_meet
                          case rel => exact ⟨_, (false), (by first | rfl | (simp; done) | (simp [*]; done)), H', ⟨by have := HK1.out; have := HJ13.out; have := HJ31.out; first | omega | exact Nat.le_refl _⟩, ⟨by (with_reducible repeat (first | apply Kd.R_alloc | apply Kd.R_drewN | apply Kd.R_drew)); exact HO_4.out⟩, ⟨by (with_reducible repeat (first | apply Kd.R_alloc | apply Kd.R_drewN | apply Kd.R_drew)); exact HO_5.out⟩, ⟨by (with_reducible repeat (first | refine blk_drewN ?_ _ | refine blk_drew ?_ | refine blk_alloc ?_ _)); exact BK147.out⟩, ⟨by (with_reducible repeat (first | refine blk_drewN ?_ _ | refine blk_drew ?_ | refine blk_alloc ?_ _)); exact BK157.out⟩, ⟨by repeat (first | (with_reducible first | exact HB.out | apply below_alloc | apply pw_below_drewN | apply below_drew1 | refine below_set ?_ GE147.out | refine below_set ?_ GE157.out) | exact HB.out)⟩⟩
                      · rw [if_neg c50] at H
                        exact absurd H (by simp)
                    case rest =>
                      clear HC49
                      try clear c1
                      try clear p1
                      try clear q1
                      try clear hx1
                      try clear qi1
                      try clear c2
                      try clear p2
                      try clear c3
                      try clear c5
                      try clear c5b0
                      try clear c6
                      try clear c6b0
                      try clear p6
                      try clear c8
                      try clear c9
                      try clear p15
                      try clear q15
                      try clear hx15
                      try clear qi15
                      try clear p16
                      try clear q16
                      try clear hx16
                      try clear qi16
                      try clear c17
                      try clear c19
                      try clear c19b0
                      try clear c19b1
                      try clear c20
                      try clear c20b0
                      try clear c20b1
                      try clear c21
                      try clear c22
                      try clear c24
                      try clear c33
                      try clear c33b0
                      try clear c33b1
                      try clear c34
                      try clear c34b0
                      try clear c34b1
                      try clear c36
                      try clear c37
                      try clear c37b0
                      try clear c37b1
                      try clear c38
                      try clear c50
                      try clear c50b0
                      try clear c50b1
                      try clear c51
                      try clear c51b0
                      try clear c51b1
                      try clear hcz13_0
                      try clear hcz13_1
                      try clear hcz13_2
                      try clear hcz18_0
                      try clear hcz18_1
                      try clear hcz18_2
                      try clear hcz25_0
                      try clear hcz25_1
                      try clear hcz25_2
                      try clear hfz13_0
                      try clear hfz13_1
                      try clear hfz13_2
                      try clear hfz18_0
                      try clear hfz18_1
                      try clear hfz18_2
                      try clear hfz25_0
                      try clear hfz25_1
                      try clear hfz25_2
                      try clear hx151_0
                      try clear hx158_0
                      try clear hx160_0
                      try clear hx161_0
                      try clear hx163_0
                      try clear p1
                      try clear p15
                      try clear p151
                      try clear p158
                      try clear p16
                      try clear p160
                      try clear p161
                      try clear p163
                      try clear p2
                      try clear p6
                      try clear q1
                      try clear q15
                      try clear q151
                      try clear q158
                      try clear q16
                      try clear q160
                      try clear q161
                      try clear q163
                      obtain ⟨kq, x61_48, rfl, HA, HJ48, HO_4, HO_5, BK147, BK157, HB⟩ := hcut
                      cases kq with
                      | zero => exact absurd HA.out (by simp [vergerref12_opOf.j3])
                      | succ kj48 =>
                        have H := HA.out
                        clear HA
                        simp only [vergerref12_opOf.j3] at H
                        by_cases c53 : x61_48 = true
                        · subst c53
                          have H1 : (if 0 < (x5_1.length : Int) then (if 1 < (x5_1.length : Int) then ((vergerref12_OpOk.f kj48 3 (rd x5_1 0) (rd x5_1 1)).bind fun t166 => (some (3, rd x5_1 0, rd x5_1 1, t166))) else (none)) else (none)) = some (r1, r2, r3, r4) := by rw [if_pos rfl] at H; exact H
                          clear H
                          have H := H1
                          clear H1
                          by_cases c54 : 0 < (x5_1.length : Int)
                          · rw [if_pos c54] at H
                            have c54b0 : decide (0 < (x5_1.length : Int)) = true := decide_eq_true c54
                            have c54b1 : decide (0 < x5_1.length) = true := decide_eq_true (by omega)
                            clear c54
                            by_cases c55 : 1 < (x5_1.length : Int)
                            · rw [if_pos c55] at H
                              have c55b0 : decide (1 < (x5_1.length : Int)) = true := decide_eq_true c55
                              have c55b1 : decide (1 < x5_1.length) = true := decide_eq_true (by omega)
                              clear c55
                              replace H := Option.bind_eq_some_iff.mp H
                              obtain ⟨t166, A560, H⟩ := H
                              replace H : (some (3, rd x5_1 0, rd x5_1 1, t166)) = some (r1, r2, r3, r4) := H
                              have A56 := Aside0.mk A560
                              clear A560
                              simp only [Option.some.injEq, Prod.mk.injEq] at H
                              obtain ⟨rfl, rfl, rfl, rfl⟩ := H
                              try go_wp2
                              have n0_ := Aside0.mk (Kd.R_drew HO_4.out)
                              have n1_ := Aside0.mk (Kd.R_drew HO_5.out)
                              have n2_ := Aside0.mk (blk_drew BK147.out)
                              have n3_ := Aside0.mk (blk_drew BK157.out)
                              have n4_ := Aside0.mk (below_drew1 HB.out)
                              clear HO_4
                              clear HO_5
                              clear BK147
                              clear BK157
                              clear HB
                              have HO_4 := n0_
                              have HO_5 := n1_
                              have BK147 := n2_
                              have BK157 := n3_
                              have HB := n4_
                              clear n0_ n1_ n2_ n3_ n4_
                              obtain ⟨Ao58, co58, eo58⟩ := Kd.R_slice HO_5.out
                              (first | subst eo58 | (injection eo58 with f1_ f2_ f3_; have f4_ := f1_.symm; have f5_ := f3_.symm; clear f1_ f2_ f3_; subst f4_; subst f5_))
                              have p164 : 0 ≤ (0 : Int) := (by omega)
                              have q164 : 0 < (x5_1.length : Int) := of_decide_eq_true (by first | (with_reducible assumption) | assumption)
                              obtain ⟨ad164, e164, hx164_0⟩ := Kd.at_int (Kd.R_reads' HO_5.out).2.2 0 p164 q164
                              cases e164
                              have qi164 : (0 < x5_1.length) = True := eq_true (by omega)
                              (try rw [show ((0 : Int)).toNat = 0 from rfl] at hx164_0)
                              (try rw [Addr.add_zero'] at hx164_0)
                              replace p164 := eq_true p164
                              replace q164 := eq_true q164
                              have p165 : 0 ≤ (1 : Int) := (by omega)
                              have q165 : 1 < (x5_1.length : Int) := of_decide_eq_true (by first | (with_reducible assumption) | assumption)
                              obtain ⟨ad165, e165, hx165_0⟩ := Kd.at_int (Kd.R_reads' HO_5.out).2.2 1 p165 q165
                              obtain rfl : ad164 = ad165 := (by injection e165)
                              (try simp only [show (1 : Int).toNat = 1 from rfl, Nat.reduceMul, Nat.reduceEqDiff, Go.Addr.add, ↓reduceIte] at hx165_0)
                              have qi165 : (1 < x5_1.length) = True := eq_true (by omega)
                              (try rw [show ((1 : Int)).toNat = 1 from rfl] at hx165_0)
                              replace p165 := eq_true p165
                              replace q165 := eq_true q165
                              refine start_ (n := 12) (S := fun w' => w'.cell? ad164 = some (.int .i64 (rd x5_1 0)) ∧ w'.cell? ⟨ad164.block, ad164.off + 1, none⟩ = some (.int .i64 (rd x5_1 1))) (ds := []) #[false, false, false, false, false, false, false, false, false, false, false, false] (by kernel_rfl) rfl rfl ⟨hx164_0, hx165_0⟩ (fun hHeld => ?_); refine with_tabW vergerref12_opOf.tab16 vergerref12_opOf.bits16 (fun HT_ HW_ => ?_)
                              generalize wc.drew = w57 at HO_4 HO_5 BK147 BK157 HB hx164_0 hx165_0 hHeld ⊢
                              refine pure_ (i := 0) (N := some 71) (v := ?_) (a' := ?_) #[true, false, false, false, false, false, false, false, false, false, false, false] rfl rfl (any_of HT_.out (by kernel_rfl)) (fun _ _ _ h => h) (Or.inl ⟨by rfl, ?_⟩) ?_ ?_
                              rotate_left
                              · intro w'
                                go_simp
                                with_reducible rfl
                              rotate_left
                              · simp only [Act.put, List.setIfInBounds_toArray, List.set_cons_zero, List.set_cons_succ, i64_w, i32_w]
                                rfl
                              refine pure_ (i := 1) (N := some 72) (v := ?_) (a' := ?_) #[true, true, false, false, false, false, false, false, false, false, false, false] rfl rfl (any_of HT_.out (by kernel_rfl)) (fun _ _ _ h => h) (Or.inl ⟨by rfl, ?_⟩) ?_ ?_
                              rotate_left
                              · intro w'
                                go_simp
                                with_reducible rfl
                              rotate_left
                              · simp only [Act.put, List.setIfInBounds_toArray, List.set_cons_zero, List.set_cons_succ, i64_w, i32_w]
                                rfl
                              refine pure_ (i := 3) (N := some 74) (v := ?_) (a' := ?_) #[true, true, false, true, false, false, false, false, false, false, false, false] rfl rfl (any_of HT_.out (by kernel_rfl)) (fun _ _ _ h => h) (Or.inl ⟨by rfl, ?_⟩) ?_ ?_
                              rotate_left
                              · intro w'
                                go_simp
                                with_reducible rfl
                              rotate_left
                              · simp only [Act.put, List.setIfInBounds_toArray, List.set_cons_zero, List.set_cons_succ, i64_w, i32_w]
                                rfl
                              refine pure_ (i := 4) (N := some 75) (v := ?_) (a' := ?_) #[true, true, false, true, true, false, false, false, false, false, false, false] rfl rfl (any_of HT_.out (by kernel_rfl)) (fun _ _ _ h => h) (Or.inl ⟨by rfl, ?_⟩) ?_ ?_
                              rotate_left
                              · intro w'
                                go_simp
                                with_reducible rfl
                              rotate_left
                              · simp only [Act.put, List.setIfInBounds_toArray, List.set_cons_zero, List.set_cons_succ, i64_w, i32_w]
                                rfl
                              refine pure_ (i := 6) (N := some 77) (v := ?_) (a' := ?_) #[true, true, false, true, true, false, true, false, false, false, false, false] rfl rfl (any_of HT_.out (by kernel_rfl)) (fun _ _ _ h => h) (Or.inl ⟨by rfl, ?_⟩) ?_ ?_
                              rotate_left
                              · intro w'
                                go_simp
                                with_reducible rfl
                              rotate_left
                              · simp only [Act.put, List.setIfInBounds_toArray, List.set_cons_zero, List.set_cons_succ, i64_w, i32_w]
                                rfl
                              refine take_ (i := 2) (N := some 73) (v := ?_) (a' := ?_) #[true, true, true, true, true, false, true, false, false, false, false, false] rfl rfl (take_ofW HT_.out HW_.out (by kernel_rfl)) (fun _ _ _ h => h) (Or.inl ⟨by rfl, ?_⟩) hHeld ?_ ?_
                              rotate_left
                              · rintro w' ⟨s0, s1⟩
                                go_simp
                                with_reducible rfl
                              rotate_left
                              · simp only [Act.put, List.setIfInBounds_toArray, List.set_cons_zero, List.set_cons_succ, i64_w, i32_w]
                                rfl
                              refine take_ (i := 5) (N := some 76) (v := ?_) (a' := ?_) #[true, true, true, true, true, true, true, false, false, false, false, false] rfl rfl (take_ofW HT_.out HW_.out (by kernel_rfl)) (fun _ _ _ h => h) (Or.inl ⟨by rfl, ?_⟩) hHeld ?_ ?_
                              rotate_left
                              · rintro w' ⟨s0, s1⟩
                                go_simp
                                with_reducible rfl
                              rotate_left
                              · simp only [Act.put, List.setIfInBounds_toArray, List.set_cons_zero, List.set_cons_succ, i64_w, i32_w]
                                rfl
                              refine one_ (i := 7) (N := none) #[true, true, true, true, true, true, true, true, false, false, false, false] rfl rfl (one_of HT_.out (by kernel_rfl)) (by decide) (fun K hK => ?_)
                              have hs59 : w57.cell? ⟨gb157, 0, none⟩ = some (.int .i64 0) := (blk_cell BK157.out 0).trans rfl
                              have hfs59 := blk_frozen BK157.out 0
                              have hns59_0 := NB147_157.out
                              have hms59_0 := NB157_147.out
                              refine skip_ (w1 := ?_) (by rfl) rfl ?_ ?_
                              rotate_left
                              · go_simp
                                rfl
                              refine hK.out _ _ ⟨((cell_far (p := ⟨gb157, _, none⟩) (by first | exact Kd.own_blk (Kd.R_ne HO_5.out BK157.out (by decide)) | (rw [add_block]; exact Kd.own_blk (Kd.R_ne HO_5.out BK157.out (by decide))) | (show (Addr.add _ _).block ≠ _; rw [add_block]; exact Kd.own_blk (Kd.R_ne HO_5.out BK157.out (by decide))) | (dsimp only; exact Kd.own_blk (Kd.R_ne HO_5.out BK157.out (by decide)))) _).trans (hHeld.1)), ((cell_far (p := ⟨gb157, _, none⟩) (by first | exact Kd.own_blk (Kd.R_ne HO_5.out BK157.out (by decide)) | (rw [add_block]; exact Kd.own_blk (Kd.R_ne HO_5.out BK157.out (by decide))) | (show (Addr.add _ _).block ≠ _; rw [add_block]; exact Kd.own_blk (Kd.R_ne HO_5.out BK157.out (by decide))) | (dsimp only; exact Kd.own_blk (Kd.R_ne HO_5.out BK157.out (by decide)))) _).trans (hHeld.2))⟩ (fun hHeld => ?_)
                              clear hK K
                              refine pure_ (i := 8) (N := some 78) (v := ?_) (a' := ?_) #[true, true, true, true, true, true, true, true, true, false, false, false] rfl rfl (any_of HT_.out (by kernel_rfl)) (fun _ _ _ h => h) (Or.inl ⟨by rfl, ?_⟩) ?_ ?_
                              rotate_left
                              · intro w'
                                go_simp
                                with_reducible rfl
                              rotate_left
                              · simp only [Act.put, List.setIfInBounds_toArray, List.set_cons_zero, List.set_cons_succ, i64_w, i32_w]
                                rfl
                              refine one_ (i := 9) (N := none) #[true, true, true, true, true, true, true, true, true, true, false, false] rfl rfl (one_of HT_.out (by kernel_rfl)) (by decide) (fun K hK => ?_)
                              have hs60 : w57.cell? ⟨gb157, 1, none⟩ = some (.int .i64 0) := (blk_cell BK157.out 1).trans rfl
                              have hfs60 := blk_frozen BK157.out 1
                              have hns60_0 := NB147_157.out
                              have hms60_0 := NB157_147.out
                              refine skip_ (w1 := ?_) (by rfl) rfl ?_ ?_
                              rotate_left
                              · go_simp
                                rfl
                              refine hK.out _ _ ⟨((cell_far (p := ⟨gb157, _, none⟩) (by first | exact Kd.own_blk (Kd.R_ne HO_5.out BK157.out (by decide)) | (rw [add_block]; exact Kd.own_blk (Kd.R_ne HO_5.out BK157.out (by decide))) | (show (Addr.add _ _).block ≠ _; rw [add_block]; exact Kd.own_blk (Kd.R_ne HO_5.out BK157.out (by decide))) | (dsimp only; exact Kd.own_blk (Kd.R_ne HO_5.out BK157.out (by decide)))) _).trans (hHeld.1)), ((cell_far (p := ⟨gb157, _, none⟩) (by first | exact Kd.own_blk (Kd.R_ne HO_5.out BK157.out (by decide)) | (rw [add_block]; exact Kd.own_blk (Kd.R_ne HO_5.out BK157.out (by decide))) | (show (Addr.add _ _).block ≠ _; rw [add_block]; exact Kd.own_blk (Kd.R_ne HO_5.out BK157.out (by decide))) | (dsimp only; exact Kd.own_blk (Kd.R_ne HO_5.out BK157.out (by decide)))) _).trans (hHeld.2))⟩ (fun hHeld => ?_)
                              clear hK K
                              refine pure_ (i := 10) (N := some 79) (v := ?_) (a' := ?_) #[true, true, true, true, true, true, true, true, true, true, true, false] rfl rfl (any_of HT_.out (by kernel_rfl)) (fun _ _ _ h => h) (Or.inl ⟨by rfl, ?_⟩) ?_ ?_
                              rotate_left
                              · intro w'
                                go_simp
                                with_reducible rfl
                              rotate_left
                              · simp only [Act.put, List.setIfInBounds_toArray, List.set_cons_zero, List.set_cons_succ, i64_w, i32_w]
                                rfl
                              refine one_ (i := 11) (N := none) #[true, true, true, true, true, true, true, true, true, true, true, true] rfl rfl (one_of HT_.out (by kernel_rfl)) (by decide) (fun K hK => ?_)
                              have hs61 : w57.cell? ⟨gb157, 2, none⟩ = some (.int .i64 0) := (blk_cell BK157.out 2).trans rfl
                              have hfs61 := blk_frozen BK157.out 2
                              have hns61_0 := NB147_157.out
                              have hms61_0 := NB157_147.out
                              refine skip_ (w1 := ?_) (by rfl) rfl ?_ ?_
                              rotate_left
                              · go_simp
                                rfl
                              refine hK.out _ _ ⟨((cell_far (p := ⟨gb157, _, none⟩) (by first | exact Kd.own_blk (Kd.R_ne HO_5.out BK157.out (by decide)) | (rw [add_block]; exact Kd.own_blk (Kd.R_ne HO_5.out BK157.out (by decide))) | (show (Addr.add _ _).block ≠ _; rw [add_block]; exact Kd.own_blk (Kd.R_ne HO_5.out BK157.out (by decide))) | (dsimp only; exact Kd.own_blk (Kd.R_ne HO_5.out BK157.out (by decide)))) _).trans (hHeld.1)), ((cell_far (p := ⟨gb157, _, none⟩) (by first | exact Kd.own_blk (Kd.R_ne HO_5.out BK157.out (by decide)) | (rw [add_block]; exact Kd.own_blk (Kd.R_ne HO_5.out BK157.out (by decide))) | (show (Addr.add _ _).block ≠ _; rw [add_block]; exact Kd.own_blk (Kd.R_ne HO_5.out BK157.out (by decide))) | (dsimp only; exact Kd.own_blk (Kd.R_ne HO_5.out BK157.out (by decide)))) _).trans (hHeld.2))⟩ (fun hHeld => ?_)
                              clear hK K
                              refine done_ (done_of HT_.out (by kernel_rfl)) ?_
                              try go_wp2
                              have n0_ : Aside0 (Kd.R Kd.string 9 (((w57.setCell ⟨gb157, 0, none⟩ (.int .i64 3)).setCell ⟨gb157, 1, none⟩ (.int .i64 (rd x5_1 0))).setCell ⟨gb157, 2, none⟩ (.int .i64 (rd x5_1 1))) w.heap.size (fun _ => True) (.slice Ao15 t148.length co15) t148) := ⟨by (with_reducible repeat (first | apply Kd.R_alloc | apply Kd.R_drewN | apply Kd.R_drew)); exact Kd.R_mono (Kd.R_far (p := ⟨gb157, 2, none⟩) (Kd.R_far (p := ⟨gb157, 1, none⟩) (Kd.R_far (p := ⟨gb157, 0, none⟩) (Kd.R_types HO_4.out BK157.out (by decide)) (fun _ hk => hk.2) (.int .i64 3)) (fun _ hk => hk.2) (.int .i64 (rd x5_1 0))) (fun _ hk => hk.2) (.int .i64 (rd x5_1 1))) (fun _ hk => trivial)⟩
                              have n1_ : Aside0 (Kd.R (Kd.int .i64) 3 (((w57.setCell ⟨gb157, 0, none⟩ (.int .i64 3)).setCell ⟨gb157, 1, none⟩ (.int .i64 (rd x5_1 0))).setCell ⟨gb157, 2, none⟩ (.int .i64 (rd x5_1 1))) w.heap.size (fun _ => True) (.slice (some ad164) x5_1.length co58) x5_1) := ⟨by (with_reducible repeat (first | apply Kd.R_alloc | apply Kd.R_drewN | apply Kd.R_drew)); exact Kd.R_mono (Kd.R_far (p := ⟨gb157, 2, none⟩) (Kd.R_far (p := ⟨gb157, 1, none⟩) (Kd.R_far (p := ⟨gb157, 0, none⟩) (Kd.R_types HO_5.out BK157.out (by decide)) (fun _ hk => hk.2) (.int .i64 3)) (fun _ hk => hk.2) (.int .i64 (rd x5_1 0))) (fun _ hk => hk.2) (.int .i64 (rd x5_1 1))) (fun _ hk => trivial)⟩
                              have n2_ : Aside0 ((((w57.setCell ⟨gb157, 0, none⟩ (.int .i64 3)).setCell ⟨gb157, 1, none⟩ (.int .i64 (rd x5_1 0))).setCell ⟨gb157, 2, none⟩ (.int .i64 (rd x5_1 1))).heap[gb147]? = some (.cells #[.int .i64 x148000_1, .int .i64 x148001_1, .int .i64 x148002_1] 50 (0, 0))) := ⟨by (with_reducible repeat (first | refine blk_drewN ?_ _ | refine blk_drew ?_ | refine blk_alloc ?_ _)); refine blk_far ?_ NB147_157.out _; (with_reducible repeat (first | refine blk_drewN ?_ _ | refine blk_drew ?_ | refine blk_alloc ?_ _)); refine blk_far ?_ NB147_157.out _; (with_reducible repeat (first | refine blk_drewN ?_ _ | refine blk_drew ?_ | refine blk_alloc ?_ _)); refine blk_far ?_ NB147_157.out _; (with_reducible repeat (first | refine blk_drewN ?_ _ | refine blk_drew ?_ | refine blk_alloc ?_ _)); exact BK147.out⟩
                              have n3_ : Aside0 ((((w57.setCell ⟨gb157, 0, none⟩ (.int .i64 3)).setCell ⟨gb157, 1, none⟩ (.int .i64 (rd x5_1 0))).setCell ⟨gb157, 2, none⟩ (.int .i64 (rd x5_1 1))).heap[gb157]? = some (.cells #[.int .i64 3, .int .i64 (rd x5_1 0), .int .i64 (rd x5_1 1)] 50 (0, 0))) := ⟨by (with_reducible repeat (first | refine blk_drewN ?_ _ | refine blk_drew ?_ | refine blk_alloc ?_ _)); refine blk_put (cs := #[.int .i64 3, .int .i64 (rd x5_1 0), .int .i64 0]) ?_ 2 _ rfl; (with_reducible repeat (first | refine blk_drewN ?_ _ | refine blk_drew ?_ | refine blk_alloc ?_ _)); refine blk_put (cs := #[.int .i64 3, .int .i64 0, .int .i64 0]) ?_ 1 _ rfl; (with_reducible repeat (first | refine blk_drewN ?_ _ | refine blk_drew ?_ | refine blk_alloc ?_ _)); refine blk_put (cs := #[.int .i64 0, .int .i64 0, .int .i64 0]) ?_ 0 _ rfl; (with_reducible repeat (first | refine blk_drewN ?_ _ | refine blk_drew ?_ | refine blk_alloc ?_ _)); exact BK157.out⟩
                              have n4_ : Aside0 (Below w.heap.size w (((w57.setCell ⟨gb157, 0, none⟩ (.int .i64 3)).setCell ⟨gb157, 1, none⟩ (.int .i64 (rd x5_1 0))).setCell ⟨gb157, 2, none⟩ (.int .i64 (rd x5_1 1)))) := ⟨by repeat (first | (with_reducible first | exact HB.out | apply below_alloc | apply pw_below_drewN | apply below_drew1 | refine below_set ?_ GE147.out | refine below_set ?_ GE157.out) | exact HB.out)⟩
                              (try clear HO_4)
                              (try clear HO_5)
                              (try clear BK147)
                              (try clear BK157)
                              (try clear HB)
                              generalize (((w57.setCell ⟨gb157, 0, none⟩ (.int .i64 3)).setCell ⟨gb157, 1, none⟩ (.int .i64 (rd x5_1 0))).setCell ⟨gb157, 2, none⟩ (.int .i64 (rd x5_1 1))) = w62 at n0_ n1_ n2_ n3_ n4_ ⊢
                              have HO_4 := n0_
                              have HO_5 := n1_
                              have BK147 := n2_
                              have BK157 := n3_
                              have HB := n4_
                              clear n0_ n1_ n2_ n3_ n4_
                              have n0_ := Aside0.mk (Kd.R_drew HO_4.out)
                              have n1_ := Aside0.mk (Kd.R_drew HO_5.out)
                              have n2_ := Aside0.mk (blk_drew BK147.out)
                              have n3_ := Aside0.mk (blk_drew BK157.out)
                              have n4_ := Aside0.mk (below_drew1 HB.out)
                              clear HO_4
                              clear HO_5
                              clear BK147
                              clear BK157
                              clear HB
                              have HO_4 := n0_
                              have HO_5 := n1_
                              have BK147 := n2_
                              have BK157 := n3_
                              have HB := n4_
                              clear n0_ n1_ n2_ n3_ n4_
                              refine start_ (n := 5) (S := fun w' => w'.cell? ⟨gb157, 0, none⟩ = some (.int .i64 3) ∧ w'.cell? ⟨gb157, 1, none⟩ = some (.int .i64 (rd x5_1 0)) ∧ w'.cell? ⟨gb157, 2, none⟩ = some (.int .i64 (rd x5_1 1))) (ds := []) #[false, false, false, false, false] (by kernel_rfl) rfl rfl ⟨(blk_cell BK157.out 0).trans rfl, (blk_cell BK157.out 1).trans rfl, (blk_cell BK157.out 2).trans rfl⟩ (fun hHeld => ?_)
                              generalize w62.drew = w63 at HO_4 HO_5 BK147 BK157 HB hHeld ⊢
                              refine take_ (i := 0) (N := some 106) (v := ?_) (a' := ?_) #[true, false, false, false, false] rfl rfl (by kernel_rfl) (fun _ _ _ h => h) (Or.inl ⟨by rfl, ?_⟩) hHeld ?_ ?_
                              rotate_left
                              · rintro w' ⟨s0, s1, s2⟩
                                go_simp
                                with_reducible rfl
                              rotate_left
                              · simp only [Act.put, List.setIfInBounds_toArray, List.set_cons_zero, List.set_cons_succ, i64_w, i32_w]
                                rfl
                              refine take_ (i := 1) (N := some 107) (v := ?_) (a' := ?_) #[true, true, false, false, false] rfl rfl (by kernel_rfl) (fun _ _ _ h => h) (Or.inl ⟨by rfl, ?_⟩) hHeld ?_ ?_
                              rotate_left
                              · rintro w' ⟨s0, s1, s2⟩
                                go_simp
                                with_reducible rfl
                              rotate_left
                              · simp only [Act.put, List.setIfInBounds_toArray, List.set_cons_zero, List.set_cons_succ, i64_w, i32_w]
                                rfl
                              refine one_ (i := 2) (N := some 108) #[true, true, true, false, false] rfl rfl (by kernel_rfl) (by decide) (fun K hK => ?_)
                              refine goes_ Tryd.func38 (by kernel_rfl) rfl #[.agg #[.int .i64 3, .int .i64 (rd x5_1 0), .int .i64 (rd x5_1 1)]] (by rfl) rfl rfl (by (try simp only [List.map_toArray, List.map_cons, List.map_nil]); first | done | rfl | (simp only [List.length_drop, List.length_take]; rfl)) ?_
                              with_reducible refine (vergerref12_OpOk.calls kj48 3 (rd x5_1 0) (rd x5_1 1) t166 _ A56.out).mono ?_
                              rintro e w64 ⟨rfl, hb⟩
                              refine ⟨_, rfl, ?_⟩
                              have n0_ := Aside0.mk (Kd.R_below (by (with_reducible repeat (first | apply Kd.R_alloc | apply Kd.R_drewN | apply Kd.R_drew)); exact HO_4.out) hb)
                              have n1_ := Aside0.mk (Kd.R_below (by (with_reducible repeat (first | apply Kd.R_alloc | apply Kd.R_drewN | apply Kd.R_drew)); exact HO_5.out) hb)
                              have n2_ := Aside0.mk (blk_below (g := gb147) (o := .cells #[.int .i64 x148000_1, .int .i64 x148001_1, .int .i64 x148002_1] 50 (0, 0)) (by (with_reducible repeat (first | refine blk_drewN ?_ _ | refine blk_drew ?_ | refine blk_alloc ?_ _)); exact BK147.out) hb)
                              have n3_ := Aside0.mk (blk_below (g := gb157) (o := .cells #[.int .i64 3, .int .i64 (rd x5_1 0), .int .i64 (rd x5_1 1)] 50 (0, 0)) (by (with_reducible repeat (first | refine blk_drewN ?_ _ | refine blk_drew ?_ | refine blk_alloc ?_ _)); exact BK157.out) hb)
                              have n4_ := Aside0.mk (below_step (by repeat (first | (with_reducible first | exact HB.out | apply below_alloc | apply pw_below_drewN | apply below_drew1 | refine below_set ?_ GE147.out | refine below_set ?_ GE157.out) | exact HB.out)) hb)
                              clear HO_4
                              clear HO_5
                              clear BK147
                              clear BK157
                              clear HB
                              have HO_4 := n0_
                              have HO_5 := n1_
                              have BK147 := n2_
                              have BK157 := n3_
                              have HB := n4_
                              clear n0_ n1_ n2_ n3_ n4_
                              (try clear hb)
                              (try clear hb2)
                              (try clear hk)
                              (try clear hi)
                              refine hK.out _ _ ⟨(blk_cell BK157.out 0).trans rfl, (blk_cell BK157.out 1).trans rfl, (blk_cell BK157.out 2).trans rfl⟩ (fun hHeld => ?_)
                              clear hK K
                              refine norm_ (a' := ?_) ?_ ?_
                              rotate_left
                              · show Act.put _ (some 108) _ = _
                                simp only [Act.put, List.setIfInBounds_toArray, List.set_cons_zero, List.set_cons_succ, i64_w, i32_w]
                                rfl
                              refine one_ (i := 3) (N := none) #[true, true, true, true, false] rfl rfl (by kernel_rfl) (by decide) (fun K hK => ?_)
                              have hs65 : w64.cell? ⟨gb147, 0, none⟩ = some (.int .i64 x148000_1) := (blk_cell BK147.out 0).trans rfl
                              have hfs65 := blk_frozen BK147.out 0
                              have hns65_1 := NB157_147.out
                              have hms65_1 := NB147_157.out
                              have hs66 : w64.cell? ⟨gb147, 1, none⟩ = some (.int .i64 x148001_1) := (blk_cell BK147.out 1).trans rfl
                              have hfs66 := blk_frozen BK147.out 1
                              have hns66_1 := NB157_147.out
                              have hms66_1 := NB147_157.out
                              have hs67 : w64.cell? ⟨gb147, 2, none⟩ = some (.int .i64 x148002_1) := (blk_cell BK147.out 2).trans rfl
                              have hfs67 := blk_frozen BK147.out 2
                              have hns67_1 := NB157_147.out
                              have hms67_1 := NB147_157.out
                              refine skip_ (w1 := ?_) (by rfl) rfl ?_ ?_
                              rotate_left
                              · go_simp
                                rfl
                              refine hK.out _ _ ⟨((cell_far (p := ⟨gb147, _, none⟩) NB157_147.out _).trans (((cell_far (p := ⟨gb147, _, none⟩) NB157_147.out _).trans (((cell_far (p := ⟨gb147, _, none⟩) NB157_147.out _).trans (hHeld.1)))))), ((cell_far (p := ⟨gb147, _, none⟩) NB157_147.out _).trans (((cell_far (p := ⟨gb147, _, none⟩) NB157_147.out _).trans (((cell_far (p := ⟨gb147, _, none⟩) NB157_147.out _).trans (hHeld.2.1)))))), ((cell_far (p := ⟨gb147, _, none⟩) NB157_147.out _).trans (((cell_far (p := ⟨gb147, _, none⟩) NB157_147.out _).trans (((cell_far (p := ⟨gb147, _, none⟩) NB157_147.out _).trans (hHeld.2.2))))))⟩ (fun hHeld => ?_)
                              clear hK K
                              refine pure_ (i := 4) (N := some 3) (v := ?_) (a' := ?_) #[true, true, true, true, true] rfl rfl (by kernel_rfl) (fun _ _ _ h => h) (Or.inl ⟨by rfl, ?_⟩) ?_ ?_
                              rotate_left
                              · intro w'
                                go_simp
                                with_reducible rfl
                              rotate_left
                              · simp only [Act.put, List.setIfInBounds_toArray, List.set_cons_zero, List.set_cons_succ, i64_w, i32_w]
                                rfl
                              refine done_ (by kernel_rfl) ?_
                              try go_wp2
                              refine bodyPost_ret (results_ct rfl _ _ gb147 50 #[.int .i64 3, .int .i64 (rd x5_1 0), .int .i64 (rd x5_1 1)] (0, 0) _ rfl (by (with_reducible repeat (first | refine blk_drewN ?_ _ | refine blk_drew ?_ | refine blk_alloc ?_ _)); refine blk_put (cs := #[.int .i64 3, .int .i64 (rd x5_1 0), .int .i64 x148002_1]) ?_ 2 _ rfl; (with_reducible repeat (first | refine blk_drewN ?_ _ | refine blk_drew ?_ | refine blk_alloc ?_ _)); refine blk_put (cs := #[.int .i64 3, .int .i64 x148001_1, .int .i64 x148002_1]) ?_ 1 _ rfl; (with_reducible repeat (first | refine blk_drewN ?_ _ | refine blk_drew ?_ | refine blk_alloc ?_ _)); refine blk_put (cs := #[.int .i64 x148000_1, .int .i64 x148001_1, .int .i64 x148002_1]) ?_ 0 _ rfl; (with_reducible repeat (first | refine blk_drewN ?_ _ | refine blk_drew ?_ | refine blk_alloc ?_ _)); exact BK147.out) Tryd.underlying50 rfl (by kernel_rfl)) rfl ?_
                              exact ⟨by first | rfl | (simp [errW_none, errW_some] <;> rfl) | (simp [*, errW_none, errW_some] <;> rfl), by repeat (first | (with_reducible first | exact HB.out | apply below_alloc | apply pw_below_drewN | apply below_drew1 | refine below_set ?_ GE147.out | refine below_set ?_ GE157.out) | exact HB.out)⟩
                            · rw [if_neg c55] at H
                              exact absurd H (by simp)
                          · rw [if_neg c54] at H
                            exact absurd H (by simp)
                        · replace c53 := Bool.eq_false_iff.mpr c53
                          subst c53
                          have H1 : (if 0 < (t148.length : Int) then (if (rdOf ByteArray.empty t148 0).toList = ([99, 97, 110, 99, 101, 108] : List UInt8) then (vergerref12_opOf.j4 kj48 t148 x5_1 ((x5_1.length : Int) == 1) 0 0 0) else (vergerref12_opOf.j4 kj48 t148 x5_1 false 0 0 0)) else (none)) = some (r1, r2, r3, r4) := by rw [if_neg (show ¬ (false = true) by decide)] at H; exact H
                          clear H
                          have H := H1
                          clear H1
                          have HC68 := Aside0.mk H
                          clear H
                          go_upto_region 17 with (fail)
                          go_cut [80] (fun v80 wc => ∃ (kq : Nat) (x80_67 : Bool), v80 = .bool x80_67 ∧ Aside0 (vergerref12_opOf.j4 kq t148 x5_1 x80_67 0 0 0 = some (r1, r2, r3, r4)) ∧ Aside0 (kq ≤ kj48) ∧ Aside0 (Kd.R Kd.string 9 wc w.heap.size (fun _ => True) (.slice Ao15 t148.length co15) t148) ∧ Aside0 (Kd.R (Kd.int .i64) 3 wc w.heap.size (fun _ => True) u5 x5_1) ∧ Aside0 (wc.heap[gb147]? = some (.cells #[.int .i64 x148000_1, .int .i64 x148001_1, .int .i64 x148002_1] 50 (0, 0))) ∧ Aside0 (wc.heap[gb157]? = some (.cells #[.int .i64 0, .int .i64 0, .int .i64 0] 50 (0, 0))) ∧ Aside0 (Below w.heap.size w wc))
                          case first =>
                            have H := HC68.out
                            clear HC68
                            by_cases c69 : 0 < (t148.length : Int)
                            · rw [if_pos c69] at H
                              have c69b0 : decide (0 < (t148.length : Int)) = true := decide_eq_true c69
                              have c69b1 : decide (0 < t148.length) = true := decide_eq_true (by omega)
                              clear c69
                              (first | rw [c69b0] | (simp only [i64_w, i32_w]; rw [c69b0]) | skip)
                              by_cases c70 : (rdOf ByteArray.empty t148 0).toList = ([99, 97, 110, 99, 101, 108] : List UInt8)
                              · rw [if_pos c70] at H
                                have c70b0 : ((rdOf ByteArray.empty t148 0).toList == ([99, 97, 110, 99, 101, 108] : List UInt8)) = true := beq_iff_eq.mpr c70
                                have c70b1 : ((rdOf ByteArray.empty t148 0).toList != ([99, 97, 110, 99, 101, 108] : List UInt8)) = false := bne_eq_false_iff_eq.mpr c70
                                clear c70
                                have H' := Aside0.mk H
                                clear H
                                have p167 : 0 ≤ (0 : Int) := (by omega)
                                have q167 : 0 < (t148.length : Int) := of_decide_eq_true (by first | (with_reducible assumption) | assumption)
                                obtain ⟨ad167, e167, hx167_0⟩ := Kd.at_string (Kd.R_reads' HO_4.out).2.2 0 p167 q167
                                cases e167
                                have qi167 : (0 < t148.length) = True := eq_true (by omega)
                                (try rw [show ((0 : Int)).toNat = 0 from rfl] at hx167_0)
                                (try rw [Addr.add_zero'] at hx167_0)
                                replace p167 := eq_true p167
                                replace q167 := eq_true q167
                                obtain ⟨Ao71, co71, eo71⟩ := Kd.R_slice HO_5.out
                                subst eo71
                                go_wp2
                                go_meet
                                case rel => exact ⟨_, (((x5_1.length : Int) == 1)), (by first | rfl | (simp; done) | (simp [*]; done)), H', ⟨by have := HK1.out; have := HJ13.out; have := HJ31.out; have := HJ48.out; first | omega | exact Nat.le_refl _⟩, ⟨by (with_reducible repeat (first | apply Kd.R_alloc | apply Kd.R_drewN | apply Kd.R_drew)); exact HO_4.out⟩, ⟨by (with_reducible repeat (first | apply Kd.R_alloc | apply Kd.R_drewN | apply Kd.R_drew)); exact HO_5.out⟩, ⟨by (with_reducible repeat (first | refine blk_drewN ?_ _ | refine blk_drew ?_ | refine blk_alloc ?_ _)); exact BK147.out⟩, ⟨by (with_reducible repeat (first | refine blk_drewN ?_ _ | refine blk_drew ?_ | refine blk_alloc ?_ _)); exact BK157.out⟩, ⟨by repeat (first | (with_reducible first | exact HB.out | apply below_alloc | apply pw_below_drewN | apply below_drew1 | refine below_set ?_ GE147.out | refine below_set ?_ GE157.out) | exact HB.out)⟩⟩
                              · rw [if_neg c70] at H
                                have c70b0 : ((rdOf ByteArray.empty t148 0).toList == ([99, 97, 110, 99, 101, 108] : List UInt8)) = false := beq_eq_false_iff_ne.mpr c70
                                have c70b1 : ((rdOf ByteArray.empty t148 0).toList != ([99, 97, 110, 99, 101, 108] : List UInt8)) = true := bne_iff_ne.mpr c70
                                have H' := Aside0.mk H
                                clear H
                                have p167 : 0 ≤ (0 : Int) := (by omega)
                                have q167 : 0 < (t148.length : Int) := of_decide_eq_true (by first | (with_reducible assumption) | assumption)
                                obtain ⟨ad167, e167, hx167_0⟩ := Kd.at_string (Kd.R_reads' HO_4.out).2.2 0 p167 q167
                                cases e167
                                have qi167 : (0 < t148.length) = True := eq_true (by omega)
                                (try rw [show ((0 : Int)).toNat = 0 from rfl] at hx167_0)
                                (try rw [Addr.add_zero'] at hx167_0)
                                replace p167 := eq_true p167
                                replace q167 := eq_true q167
                                go_wp2
                                go_meet
                                case rel => exact ⟨_, (false), (by first | rfl | (simp; done) | (simp [*]; done)), H', ⟨by have := HK1.out; have := HJ13.out; have := HJ31.out; have := HJ48.out; first | omega | exact Nat.le_refl _⟩, ⟨by (with_reducible repeat (first | apply Kd.R_alloc | apply Kd.R_drewN | apply Kd.R_drew)); exact HO_4.out⟩, ⟨by (with_reducible repeat (first | apply Kd.R_alloc | apply Kd.R_drewN | apply Kd.R_drew)); exact HO_5.out⟩, ⟨by (with_reducible repeat (first | refine blk_drewN ?_ _ | refine blk_drew ?_ | refine blk_alloc ?_ _)); exact BK147.out⟩, ⟨by (with_reducible repeat (first | refine blk_drewN ?_ _ | refine blk_drew ?_ | refine blk_alloc ?_ _)); exact BK157.out⟩, ⟨by repeat (first | (with_reducible first | exact HB.out | apply below_alloc | apply pw_below_drewN | apply below_drew1 | refine below_set ?_ GE147.out | refine below_set ?_ GE157.out) | exact HB.out)⟩⟩
                            · rw [if_neg c69] at H
                              exact absurd H (by simp)
                          case rest =>
                            clear HC68
                            try clear c1
                            try clear p1
                            try clear q1
                            try clear hx1
                            try clear qi1
                            try clear c2
                            try clear p2
                            try clear c3
                            try clear c5
                            try clear c5b0
                            try clear c6
                            try clear c6b0
                            try clear p6
                            try clear c7
                            try clear c8
                            try clear c9
                            try clear p15
                            try clear q15
                            try clear hx15
                            try clear qi15
                            try clear p16
                            try clear q16
                            try clear hx16
                            try clear qi16
                            try clear c17
                            try clear c19
                            try clear c19b0
                            try clear c19b1
                            try clear c20
                            try clear c20b0
                            try clear c20b1
                            try clear c21
                            try clear c22
                            try clear c24
                            try clear c33
                            try clear c33b0
                            try clear c33b1
                            try clear c34
                            try clear c34b0
                            try clear c34b1
                            try clear c36
                            try clear c37
                            try clear c37b0
                            try clear c37b1
                            try clear c38
                            try clear c50
                            try clear c50b0
                            try clear c50b1
                            try clear c51
                            try clear c51b0
                            try clear c51b1
                            try clear c53
                            try clear c54
                            try clear c54b0
                            try clear c54b1
                            try clear c55
                            try clear c55b0
                            try clear c55b1
                            try clear c69
                            try clear c69b0
                            try clear c69b1
                            try clear c70
                            try clear c70b0
                            try clear c70b1
                            try clear hcz13_0
                            try clear hcz13_1
                            try clear hcz13_2
                            try clear hcz18_0
                            try clear hcz18_1
                            try clear hcz18_2
                            try clear hcz25_0
                            try clear hcz25_1
                            try clear hcz25_2
                            try clear hfz13_0
                            try clear hfz13_1
                            try clear hfz13_2
                            try clear hfz18_0
                            try clear hfz18_1
                            try clear hfz18_2
                            try clear hfz25_0
                            try clear hfz25_1
                            try clear hfz25_2
                            try clear hx151_0
                            try clear hx158_0
                            try clear hx160_0
                            try clear hx161_0
                            try clear hx163_0
                            try clear hx164_0
                            try clear hx165_0
                            try clear hx167_0
                            try clear p1
                            try clear p15
                            try clear p151
                            try clear p158
                            try clear p16
                            try clear p160
                            try clear p161
                            try clear p163
                            try clear p164
                            try clear p165
                            try clear p167
                            try clear p2
                            try clear p6
                            try clear q1
                            try clear q15
                            try clear q151
                            try clear q158
                            try clear q16
                            try clear q160
                            try clear q161
                            try clear q163
                            try clear q164
                            try clear q165
                            try clear q167
                            obtain ⟨kq, x80_67, rfl, HA, HJ67, HO_4, HO_5, BK147, BK157, HB⟩ := hcut
                            cases kq with
                            | zero => exact absurd HA.out (by simp [vergerref12_opOf.j4])
                            | succ kj67 =>
                              have H := HA.out
                              clear HA
                              simp only [vergerref12_opOf.j4] at H
                              by_cases c72 : x80_67 = true
                              · subst c72
                                have H1 : (if 0 < (x5_1.length : Int) then ((vergerref12_OpOk.f kj67 4 (rd x5_1 0) 0).bind fun t169 => (some (4, rd x5_1 0, 0, t169))) else (none)) = some (r1, r2, r3, r4) := by rw [if_pos rfl] at H; exact H
                                clear H
                                have H := H1
                                clear H1
                                by_cases c73 : 0 < (x5_1.length : Int)
                                · rw [if_pos c73] at H
                                  have c73b0 : decide (0 < (x5_1.length : Int)) = true := decide_eq_true c73
                                  have c73b1 : decide (0 < x5_1.length) = true := decide_eq_true (by omega)
                                  clear c73
                                  replace H := Option.bind_eq_some_iff.mp H
                                  obtain ⟨t169, A740, H⟩ := H
                                  replace H : (some (4, rd x5_1 0, 0, t169)) = some (r1, r2, r3, r4) := H
                                  have A74 := Aside0.mk A740
                                  clear A740
                                  simp only [Option.some.injEq, Prod.mk.injEq] at H
                                  obtain ⟨rfl, rfl, rfl, rfl⟩ := H
                                  try go_wp2
                                  have n0_ := Aside0.mk (Kd.R_drew HO_4.out)
                                  have n1_ := Aside0.mk (Kd.R_drew HO_5.out)
                                  have n2_ := Aside0.mk (blk_drew BK147.out)
                                  have n3_ := Aside0.mk (blk_drew BK157.out)
                                  have n4_ := Aside0.mk (below_drew1 HB.out)
                                  clear HO_4
                                  clear HO_5
                                  clear BK147
                                  clear BK157
                                  clear HB
                                  have HO_4 := n0_
                                  have HO_5 := n1_
                                  have BK147 := n2_
                                  have BK157 := n3_
                                  have HB := n4_
                                  clear n0_ n1_ n2_ n3_ n4_
                                  obtain ⟨Ao76, co76, eo76⟩ := Kd.R_slice HO_5.out
                                  (first | subst eo76 | (injection eo76 with f1_ f2_ f3_; have f4_ := f1_.symm; have f5_ := f3_.symm; clear f1_ f2_ f3_; subst f4_; subst f5_))
                                  have p168 : 0 ≤ (0 : Int) := (by omega)
                                  have q168 : 0 < (x5_1.length : Int) := of_decide_eq_true (by first | (with_reducible assumption) | assumption)
                                  obtain ⟨ad168, e168, hx168_0⟩ := Kd.at_int (Kd.R_reads' HO_5.out).2.2 0 p168 q168
                                  cases e168
                                  have qi168 : (0 < x5_1.length) = True := eq_true (by omega)
                                  (try rw [show ((0 : Int)).toNat = 0 from rfl] at hx168_0)
                                  (try rw [Addr.add_zero'] at hx168_0)
                                  replace p168 := eq_true p168
                                  replace q168 := eq_true q168
                                  refine start_ (n := 7) (S := fun w' => w'.cell? ad168 = some (.int .i64 (rd x5_1 0))) (ds := []) #[false, false, false, false, false, false, false] (by kernel_rfl) rfl rfl (hx168_0) (fun hHeld => ?_)
                                  generalize wc.drew = w75 at HO_4 HO_5 BK147 BK157 HB hx168_0 hHeld ⊢
                                  refine pure_ (i := 0) (N := some 90) (v := ?_) (a' := ?_) #[true, false, false, false, false, false, false] rfl rfl (by kernel_rfl) (fun _ _ _ h => h) (Or.inl ⟨by rfl, ?_⟩) ?_ ?_
                                  rotate_left
                                  · intro w'
                                    go_simp
                                    with_reducible rfl
                                  rotate_left
                                  · simp only [Act.put, List.setIfInBounds_toArray, List.set_cons_zero, List.set_cons_succ, i64_w, i32_w]
                                    rfl
                                  refine pure_ (i := 1) (N := some 91) (v := ?_) (a' := ?_) #[true, true, false, false, false, false, false] rfl rfl (by kernel_rfl) (fun _ _ _ h => h) (Or.inl ⟨by rfl, ?_⟩) ?_ ?_
                                  rotate_left
                                  · intro w'
                                    go_simp
                                    with_reducible rfl
                                  rotate_left
                                  · simp only [Act.put, List.setIfInBounds_toArray, List.set_cons_zero, List.set_cons_succ, i64_w, i32_w]
                                    rfl
                                  refine pure_ (i := 3) (N := some 93) (v := ?_) (a' := ?_) #[true, true, false, true, false, false, false] rfl rfl (by kernel_rfl) (fun _ _ _ h => h) (Or.inl ⟨by rfl, ?_⟩) ?_ ?_
                                  rotate_left
                                  · intro w'
                                    go_simp
                                    with_reducible rfl
                                  rotate_left
                                  · simp only [Act.put, List.setIfInBounds_toArray, List.set_cons_zero, List.set_cons_succ, i64_w, i32_w]
                                    rfl
                                  refine take_ (i := 2) (N := some 92) (v := ?_) (a' := ?_) #[true, true, true, true, false, false, false] rfl rfl (by kernel_rfl) (fun _ _ _ h => h) (Or.inl ⟨by rfl, ?_⟩) hHeld ?_ ?_
                                  rotate_left
                                  · intro w' s0
                                    go_simp
                                    with_reducible rfl
                                  rotate_left
                                  · simp only [Act.put, List.setIfInBounds_toArray, List.set_cons_zero, List.set_cons_succ, i64_w, i32_w]
                                    rfl
                                  refine one_ (i := 4) (N := none) #[true, true, true, true, true, false, false] rfl rfl (by kernel_rfl) (by decide) (fun K hK => ?_)
                                  have hs77 : w75.cell? ⟨gb157, 0, none⟩ = some (.int .i64 0) := (blk_cell BK157.out 0).trans rfl
                                  have hfs77 := blk_frozen BK157.out 0
                                  have hns77_0 := NB147_157.out
                                  have hms77_0 := NB157_147.out
                                  refine skip_ (w1 := ?_) (by rfl) rfl ?_ ?_
                                  rotate_left
                                  · go_simp
                                    rfl
                                  refine hK.out _ _ (((cell_far (p := ⟨gb157, _, none⟩) (by first | exact Kd.own_blk (Kd.R_ne HO_5.out BK157.out (by decide)) | (rw [add_block]; exact Kd.own_blk (Kd.R_ne HO_5.out BK157.out (by decide))) | (show (Addr.add _ _).block ≠ _; rw [add_block]; exact Kd.own_blk (Kd.R_ne HO_5.out BK157.out (by decide))) | (dsimp only; exact Kd.own_blk (Kd.R_ne HO_5.out BK157.out (by decide)))) _).trans (hHeld))) (fun hHeld => ?_)
                                  clear hK K
                                  refine pure_ (i := 5) (N := some 94) (v := ?_) (a' := ?_) #[true, true, true, true, true, true, false] rfl rfl (by kernel_rfl) (fun _ _ _ h => h) (Or.inl ⟨by rfl, ?_⟩) ?_ ?_
                                  rotate_left
                                  · intro w'
                                    go_simp
                                    with_reducible rfl
                                  rotate_left
                                  · simp only [Act.put, List.setIfInBounds_toArray, List.set_cons_zero, List.set_cons_succ, i64_w, i32_w]
                                    rfl
                                  refine one_ (i := 6) (N := none) #[true, true, true, true, true, true, true] rfl rfl (by kernel_rfl) (by decide) (fun K hK => ?_)
                                  have hs78 : w75.cell? ⟨gb157, 1, none⟩ = some (.int .i64 0) := (blk_cell BK157.out 1).trans rfl
                                  have hfs78 := blk_frozen BK157.out 1
                                  have hns78_0 := NB147_157.out
                                  have hms78_0 := NB157_147.out
                                  refine skip_ (w1 := ?_) (by rfl) rfl ?_ ?_
                                  rotate_left
                                  · go_simp
                                    rfl
                                  refine hK.out _ _ (((cell_far (p := ⟨gb157, _, none⟩) (by first | exact Kd.own_blk (Kd.R_ne HO_5.out BK157.out (by decide)) | (rw [add_block]; exact Kd.own_blk (Kd.R_ne HO_5.out BK157.out (by decide))) | (show (Addr.add _ _).block ≠ _; rw [add_block]; exact Kd.own_blk (Kd.R_ne HO_5.out BK157.out (by decide))) | (dsimp only; exact Kd.own_blk (Kd.R_ne HO_5.out BK157.out (by decide)))) _).trans (hHeld))) (fun hHeld => ?_)
                                  clear hK K
                                  refine done_ (by kernel_rfl) ?_
                                  try go_wp2
                                  have n0_ : Aside0 (Kd.R Kd.string 9 ((w75.setCell ⟨gb157, 0, none⟩ (.int .i64 4)).setCell ⟨gb157, 1, none⟩ (.int .i64 (rd x5_1 0))) w.heap.size (fun _ => True) (.slice Ao15 t148.length co15) t148) := ⟨by (with_reducible repeat (first | apply Kd.R_alloc | apply Kd.R_drewN | apply Kd.R_drew)); exact Kd.R_mono (Kd.R_far (p := ⟨gb157, 1, none⟩) (Kd.R_far (p := ⟨gb157, 0, none⟩) (Kd.R_types HO_4.out BK157.out (by decide)) (fun _ hk => hk.2) (.int .i64 4)) (fun _ hk => hk.2) (.int .i64 (rd x5_1 0))) (fun _ hk => trivial)⟩
                                  have n1_ : Aside0 (Kd.R (Kd.int .i64) 3 ((w75.setCell ⟨gb157, 0, none⟩ (.int .i64 4)).setCell ⟨gb157, 1, none⟩ (.int .i64 (rd x5_1 0))) w.heap.size (fun _ => True) (.slice (some ad168) x5_1.length co76) x5_1) := ⟨by (with_reducible repeat (first | apply Kd.R_alloc | apply Kd.R_drewN | apply Kd.R_drew)); exact Kd.R_mono (Kd.R_far (p := ⟨gb157, 1, none⟩) (Kd.R_far (p := ⟨gb157, 0, none⟩) (Kd.R_types HO_5.out BK157.out (by decide)) (fun _ hk => hk.2) (.int .i64 4)) (fun _ hk => hk.2) (.int .i64 (rd x5_1 0))) (fun _ hk => trivial)⟩
                                  have n2_ : Aside0 (((w75.setCell ⟨gb157, 0, none⟩ (.int .i64 4)).setCell ⟨gb157, 1, none⟩ (.int .i64 (rd x5_1 0))).heap[gb147]? = some (.cells #[.int .i64 x148000_1, .int .i64 x148001_1, .int .i64 x148002_1] 50 (0, 0))) := ⟨by (with_reducible repeat (first | refine blk_drewN ?_ _ | refine blk_drew ?_ | refine blk_alloc ?_ _)); refine blk_far ?_ NB147_157.out _; (with_reducible repeat (first | refine blk_drewN ?_ _ | refine blk_drew ?_ | refine blk_alloc ?_ _)); refine blk_far ?_ NB147_157.out _; (with_reducible repeat (first | refine blk_drewN ?_ _ | refine blk_drew ?_ | refine blk_alloc ?_ _)); exact BK147.out⟩
                                  have n3_ : Aside0 (((w75.setCell ⟨gb157, 0, none⟩ (.int .i64 4)).setCell ⟨gb157, 1, none⟩ (.int .i64 (rd x5_1 0))).heap[gb157]? = some (.cells #[.int .i64 4, .int .i64 (rd x5_1 0), .int .i64 0] 50 (0, 0))) := ⟨by (with_reducible repeat (first | refine blk_drewN ?_ _ | refine blk_drew ?_ | refine blk_alloc ?_ _)); refine blk_put (cs := #[.int .i64 4, .int .i64 0, .int .i64 0]) ?_ 1 _ rfl; (with_reducible repeat (first | refine blk_drewN ?_ _ | refine blk_drew ?_ | refine blk_alloc ?_ _)); refine blk_put (cs := #[.int .i64 0, .int .i64 0, .int .i64 0]) ?_ 0 _ rfl; (with_reducible repeat (first | refine blk_drewN ?_ _ | refine blk_drew ?_ | refine blk_alloc ?_ _)); exact BK157.out⟩
                                  have n4_ : Aside0 (Below w.heap.size w ((w75.setCell ⟨gb157, 0, none⟩ (.int .i64 4)).setCell ⟨gb157, 1, none⟩ (.int .i64 (rd x5_1 0)))) := ⟨by repeat (first | (with_reducible first | exact HB.out | apply below_alloc | apply pw_below_drewN | apply below_drew1 | refine below_set ?_ GE147.out | refine below_set ?_ GE157.out) | exact HB.out)⟩
                                  (try clear HO_4)
                                  (try clear HO_5)
                                  (try clear BK147)
                                  (try clear BK157)
                                  (try clear HB)
                                  generalize ((w75.setCell ⟨gb157, 0, none⟩ (.int .i64 4)).setCell ⟨gb157, 1, none⟩ (.int .i64 (rd x5_1 0))) = w79 at n0_ n1_ n2_ n3_ n4_ ⊢
                                  have HO_4 := n0_
                                  have HO_5 := n1_
                                  have BK147 := n2_
                                  have BK157 := n3_
                                  have HB := n4_
                                  clear n0_ n1_ n2_ n3_ n4_
                                  have n0_ := Aside0.mk (Kd.R_drew HO_4.out)
                                  have n1_ := Aside0.mk (Kd.R_drew HO_5.out)
                                  have n2_ := Aside0.mk (blk_drew BK147.out)
                                  have n3_ := Aside0.mk (blk_drew BK157.out)
                                  have n4_ := Aside0.mk (below_drew1 HB.out)
                                  clear HO_4
                                  clear HO_5
                                  clear BK147
                                  clear BK157
                                  clear HB
                                  have HO_4 := n0_
                                  have HO_5 := n1_
                                  have BK147 := n2_
                                  have BK157 := n3_
                                  have HB := n4_
                                  clear n0_ n1_ n2_ n3_ n4_
                                  refine start_ (n := 5) (S := fun w' => w'.cell? ⟨gb157, 0, none⟩ = some (.int .i64 4) ∧ w'.cell? ⟨gb157, 1, none⟩ = some (.int .i64 (rd x5_1 0)) ∧ w'.cell? ⟨gb157, 2, none⟩ = some (.int .i64 0)) (ds := []) #[false, false, false, false, false] (by kernel_rfl) rfl rfl ⟨(blk_cell BK157.out 0).trans rfl, (blk_cell BK157.out 1).trans rfl, (blk_cell BK157.out 2).trans rfl⟩ (fun hHeld => ?_)
                                  generalize w79.drew = w80 at HO_4 HO_5 BK147 BK157 HB hHeld ⊢
                                  refine take_ (i := 0) (N := some 106) (v := ?_) (a' := ?_) #[true, false, false, false, false] rfl rfl (by kernel_rfl) (fun _ _ _ h => h) (Or.inl ⟨by rfl, ?_⟩) hHeld ?_ ?_
                                  rotate_left
                                  · rintro w' ⟨s0, s1, s2⟩
                                    go_simp
                                    with_reducible rfl
                                  rotate_left
                                  · simp only [Act.put, List.setIfInBounds_toArray, List.set_cons_zero, List.set_cons_succ, i64_w, i32_w]
                                    rfl
                                  refine take_ (i := 1) (N := some 107) (v := ?_) (a' := ?_) #[true, true, false, false, false] rfl rfl (by kernel_rfl) (fun _ _ _ h => h) (Or.inl ⟨by rfl, ?_⟩) hHeld ?_ ?_
                                  rotate_left
                                  · rintro w' ⟨s0, s1, s2⟩
                                    go_simp
                                    with_reducible rfl
                                  rotate_left
                                  · simp only [Act.put, List.setIfInBounds_toArray, List.set_cons_zero, List.set_cons_succ, i64_w, i32_w]
                                    rfl
                                  refine one_ (i := 2) (N := some 108) #[true, true, true, false, false] rfl rfl (by kernel_rfl) (by decide) (fun K hK => ?_)
                                  refine goes_ Tryd.func38 (by kernel_rfl) rfl #[.agg #[.int .i64 4, .int .i64 (rd x5_1 0), .int .i64 0]] (by rfl) rfl rfl (by (try simp only [List.map_toArray, List.map_cons, List.map_nil]); first | done | rfl | (simp only [List.length_drop, List.length_take]; rfl)) ?_
                                  with_reducible refine (vergerref12_OpOk.calls kj67 4 (rd x5_1 0) 0 t169 _ A74.out).mono ?_
                                  rintro e w81 ⟨rfl, hb⟩
                                  refine ⟨_, rfl, ?_⟩
                                  have n0_ := Aside0.mk (Kd.R_below (by (with_reducible repeat (first | apply Kd.R_alloc | apply Kd.R_drewN | apply Kd.R_drew)); exact HO_4.out) hb)
                                  have n1_ := Aside0.mk (Kd.R_below (by (with_reducible repeat (first | apply Kd.R_alloc | apply Kd.R_drewN | apply Kd.R_drew)); exact HO_5.out) hb)
                                  have n2_ := Aside0.mk (blk_below (g := gb147) (o := .cells #[.int .i64 x148000_1, .int .i64 x148001_1, .int .i64 x148002_1] 50 (0, 0)) (by (with_reducible repeat (first | refine blk_drewN ?_ _ | refine blk_drew ?_ | refine blk_alloc ?_ _)); exact BK147.out) hb)
                                  have n3_ := Aside0.mk (blk_below (g := gb157) (o := .cells #[.int .i64 4, .int .i64 (rd x5_1 0), .int .i64 0] 50 (0, 0)) (by (with_reducible repeat (first | refine blk_drewN ?_ _ | refine blk_drew ?_ | refine blk_alloc ?_ _)); exact BK157.out) hb)
                                  have n4_ := Aside0.mk (below_step (by repeat (first | (with_reducible first | exact HB.out | apply below_alloc | apply pw_below_drewN | apply below_drew1 | refine below_set ?_ GE147.out | refine below_set ?_ GE157.out) | exact HB.out)) hb)
                                  clear HO_4
                                  clear HO_5
                                  clear BK147
                                  clear BK157
                                  clear HB
                                  have HO_4 := n0_
                                  have HO_5 := n1_
                                  have BK147 := n2_
                                  have BK157 := n3_
                                  have HB := n4_
                                  clear n0_ n1_ n2_ n3_ n4_
                                  (try clear hb)
                                  (try clear hb2)
                                  (try clear hk)
                                  (try clear hi)
                                  refine hK.out _ _ ⟨(blk_cell BK157.out 0).trans rfl, (blk_cell BK157.out 1).trans rfl, (blk_cell BK157.out 2).trans rfl⟩ (fun hHeld => ?_)
                                  clear hK K
                                  refine norm_ (a' := ?_) ?_ ?_
                                  rotate_left
                                  · show Act.put _ (some 108) _ = _
                                    simp only [Act.put, List.setIfInBounds_toArray, List.set_cons_zero, List.set_cons_succ, i64_w, i32_w]
                                    rfl
                                  refine one_ (i := 3) (N := none) #[true, true, true, true, false] rfl rfl (by kernel_rfl) (by decide) (fun K hK => ?_)
                                  have hs82 : w81.cell? ⟨gb147, 0, none⟩ = some (.int .i64 x148000_1) := (blk_cell BK147.out 0).trans rfl
                                  have hfs82 := blk_frozen BK147.out 0
                                  have hns82_1 := NB157_147.out
                                  have hms82_1 := NB147_157.out
                                  have hs83 : w81.cell? ⟨gb147, 1, none⟩ = some (.int .i64 x148001_1) := (blk_cell BK147.out 1).trans rfl
                                  have hfs83 := blk_frozen BK147.out 1
                                  have hns83_1 := NB157_147.out
                                  have hms83_1 := NB147_157.out
                                  have hs84 : w81.cell? ⟨gb147, 2, none⟩ = some (.int .i64 x148002_1) := (blk_cell BK147.out 2).trans rfl
                                  have hfs84 := blk_frozen BK147.out 2
                                  have hns84_1 := NB157_147.out
                                  have hms84_1 := NB147_157.out
                                  refine skip_ (w1 := ?_) (by rfl) rfl ?_ ?_
                                  rotate_left
                                  · go_simp
                                    rfl
                                  refine hK.out _ _ ⟨((cell_far (p := ⟨gb147, _, none⟩) NB157_147.out _).trans (((cell_far (p := ⟨gb147, _, none⟩) NB157_147.out _).trans (((cell_far (p := ⟨gb147, _, none⟩) NB157_147.out _).trans (hHeld.1)))))), ((cell_far (p := ⟨gb147, _, none⟩) NB157_147.out _).trans (((cell_far (p := ⟨gb147, _, none⟩) NB157_147.out _).trans (((cell_far (p := ⟨gb147, _, none⟩) NB157_147.out _).trans (hHeld.2.1)))))), ((cell_far (p := ⟨gb147, _, none⟩) NB157_147.out _).trans (((cell_far (p := ⟨gb147, _, none⟩) NB157_147.out _).trans (((cell_far (p := ⟨gb147, _, none⟩) NB157_147.out _).trans (hHeld.2.2))))))⟩ (fun hHeld => ?_)
                                  clear hK K
                                  refine pure_ (i := 4) (N := some 3) (v := ?_) (a' := ?_) #[true, true, true, true, true] rfl rfl (by kernel_rfl) (fun _ _ _ h => h) (Or.inl ⟨by rfl, ?_⟩) ?_ ?_
                                  rotate_left
                                  · intro w'
                                    go_simp
                                    with_reducible rfl
                                  rotate_left
                                  · simp only [Act.put, List.setIfInBounds_toArray, List.set_cons_zero, List.set_cons_succ, i64_w, i32_w]
                                    rfl
                                  refine done_ (by kernel_rfl) ?_
                                  try go_wp2
                                  refine bodyPost_ret (results_ct rfl _ _ gb147 50 #[.int .i64 4, .int .i64 (rd x5_1 0), .int .i64 0] (0, 0) _ rfl (by (with_reducible repeat (first | refine blk_drewN ?_ _ | refine blk_drew ?_ | refine blk_alloc ?_ _)); refine blk_put (cs := #[.int .i64 4, .int .i64 (rd x5_1 0), .int .i64 x148002_1]) ?_ 2 _ rfl; (with_reducible repeat (first | refine blk_drewN ?_ _ | refine blk_drew ?_ | refine blk_alloc ?_ _)); refine blk_put (cs := #[.int .i64 4, .int .i64 x148001_1, .int .i64 x148002_1]) ?_ 1 _ rfl; (with_reducible repeat (first | refine blk_drewN ?_ _ | refine blk_drew ?_ | refine blk_alloc ?_ _)); refine blk_put (cs := #[.int .i64 x148000_1, .int .i64 x148001_1, .int .i64 x148002_1]) ?_ 0 _ rfl; (with_reducible repeat (first | refine blk_drewN ?_ _ | refine blk_drew ?_ | refine blk_alloc ?_ _)); exact BK147.out) Tryd.underlying50 rfl (by kernel_rfl)) rfl ?_
                                  exact ⟨by first | rfl | (simp [errW_none, errW_some] <;> rfl) | (simp [*, errW_none, errW_some] <;> rfl), by repeat (first | (with_reducible first | exact HB.out | apply below_alloc | apply pw_below_drewN | apply below_drew1 | refine below_set ?_ GE147.out | refine below_set ?_ GE157.out) | exact HB.out)⟩
                                · rw [if_neg c73] at H
                                  exact absurd H (by simp)
                              · replace c72 := Bool.eq_false_iff.mpr c72
                                subst c72
                                have H1 : (if 0 < (t148.length : Int) then (if (rdOf ByteArray.empty t148 0).toList = ([112, 97, 110, 105, 99] : List UInt8) then (if (x5_1.length : Int) = 0 then ((vergerref12_OpOk.f kj67 5 0 0).bind fun t171 => (some (5, 0, 0, t171))) else ((vergerref12_OpOk.f kj67 0 0 0).bind fun t172 => (some (0, 0, 0, t172)))) else ((vergerref12_OpOk.f kj67 0 0 0).bind fun t173 => (some (0, 0, 0, t173)))) else (none)) = some (r1, r2, r3, r4) := by rw [if_neg (show ¬ (false = true) by decide)] at H; exact H
                                clear H
                                have H := H1
                                clear H1
                                by_cases c85 : 0 < (t148.length : Int)
                                · rw [if_pos c85] at H
                                  have c85b0 : decide (0 < (t148.length : Int)) = true := decide_eq_true c85
                                  have c85b1 : decide (0 < t148.length) = true := decide_eq_true (by omega)
                                  clear c85
                                  by_cases c86 : (rdOf ByteArray.empty t148 0).toList = ([112, 97, 110, 105, 99] : List UInt8)
                                  · rw [if_pos c86] at H
                                    have c86b0 : ((rdOf ByteArray.empty t148 0).toList == ([112, 97, 110, 105, 99] : List UInt8)) = true := beq_iff_eq.mpr c86
                                    have c86b1 : ((rdOf ByteArray.empty t148 0).toList != ([112, 97, 110, 105, 99] : List UInt8)) = false := bne_eq_false_iff_eq.mpr c86
                                    clear c86
                                    by_cases c87 : (x5_1.length : Int) = 0
                                    · rw [if_pos c87] at H
                                      have c87b0 : ((x5_1.length : Int) == 0) = true := beq_iff_eq.mpr c87
                                      have c87b1 : ((x5_1.length : Int) != 0) = false := bne_eq_false_iff_eq.mpr c87
                                      clear c87
                                      replace H := Option.bind_eq_some_iff.mp H
                                      obtain ⟨t171, A880, H⟩ := H
                                      replace H : (some (5, 0, 0, t171)) = some (r1, r2, r3, r4) := H
                                      have A88 := Aside0.mk A880
                                      clear A880
                                      simp only [Option.some.injEq, Prod.mk.injEq] at H
                                      obtain ⟨rfl, rfl, rfl, rfl⟩ := H
                                      have p170 : 0 ≤ (0 : Int) := (by omega)
                                      have q170 : 0 < (t148.length : Int) := of_decide_eq_true (by first | (with_reducible assumption) | assumption)
                                      obtain ⟨ad170, e170, hx170_0⟩ := Kd.at_string (Kd.R_reads' HO_4.out).2.2 0 p170 q170
                                      cases e170
                                      have qi170 : (0 < t148.length) = True := eq_true (by omega)
                                      (try rw [show ((0 : Int)).toNat = 0 from rfl] at hx170_0)
                                      (try rw [Addr.add_zero'] at hx170_0)
                                      replace p170 := eq_true p170
                                      replace q170 := eq_true q170
                                      obtain ⟨Ao89, co89, eo89⟩ := Kd.R_slice HO_5.out
                                      subst eo89
                                      have hnb90 := NB157_147.out
                                      have hnc90 := NB147_157.out
                                      have hcz91_0 : wc.cell? ⟨gb157, 0, none⟩ = some (.int .i64 0) := (blk_cell BK157.out 0).trans rfl
                                      have hcz91_1 : wc.cell? ⟨gb157, 1, none⟩ = some (.int .i64 0) := (blk_cell BK157.out 1).trans rfl
                                      have hcz91_2 : wc.cell? ⟨gb157, 2, none⟩ = some (.int .i64 0) := (blk_cell BK157.out 2).trans rfl
                                      have hfz91_0 := blk_frozen BK157.out 0
                                      have hfz91_1 := blk_frozen BK157.out 1
                                      have hfz91_2 := blk_frozen BK157.out 2
                                      try go_wp2
                                      have n0_ : Aside0 (Kd.R Kd.string 9 (wc.setCell ⟨gb157, 0, none⟩ (.int .i64 5)) w.heap.size (fun _ => True) (.slice (some ad170) t148.length co15) t148) := ⟨by (with_reducible repeat (first | apply Kd.R_alloc | apply Kd.R_drewN | apply Kd.R_drew)); exact Kd.R_mono (Kd.R_far (p := ⟨gb157, 0, none⟩) (Kd.R_types HO_4.out BK157.out (by decide)) (fun _ hk => hk.2) (.int .i64 5)) (fun _ hk => trivial)⟩
                                      have n1_ : Aside0 (Kd.R (Kd.int .i64) 3 (wc.setCell ⟨gb157, 0, none⟩ (.int .i64 5)) w.heap.size (fun _ => True) (.slice Ao89 x5_1.length co89) x5_1) := ⟨by (with_reducible repeat (first | apply Kd.R_alloc | apply Kd.R_drewN | apply Kd.R_drew)); exact Kd.R_mono (Kd.R_far (p := ⟨gb157, 0, none⟩) (Kd.R_types HO_5.out BK157.out (by decide)) (fun _ hk => hk.2) (.int .i64 5)) (fun _ hk => trivial)⟩
                                      have n2_ : Aside0 ((wc.setCell ⟨gb157, 0, none⟩ (.int .i64 5)).heap[gb147]? = some (.cells #[.int .i64 x148000_1, .int .i64 x148001_1, .int .i64 x148002_1] 50 (0, 0))) := ⟨by (with_reducible repeat (first | refine blk_drewN ?_ _ | refine blk_drew ?_ | refine blk_alloc ?_ _)); refine blk_far ?_ NB147_157.out _; (with_reducible repeat (first | refine blk_drewN ?_ _ | refine blk_drew ?_ | refine blk_alloc ?_ _)); exact BK147.out⟩
                                      have n3_ : Aside0 ((wc.setCell ⟨gb157, 0, none⟩ (.int .i64 5)).heap[gb157]? = some (.cells #[.int .i64 5, .int .i64 0, .int .i64 0] 50 (0, 0))) := ⟨by (with_reducible repeat (first | refine blk_drewN ?_ _ | refine blk_drew ?_ | refine blk_alloc ?_ _)); refine blk_put (cs := #[.int .i64 0, .int .i64 0, .int .i64 0]) ?_ 0 _ rfl; (with_reducible repeat (first | refine blk_drewN ?_ _ | refine blk_drew ?_ | refine blk_alloc ?_ _)); exact BK157.out⟩
                                      have n4_ : Aside0 (Below w.heap.size w (wc.setCell ⟨gb157, 0, none⟩ (.int .i64 5))) := ⟨by repeat (first | (with_reducible first | exact HB.out | apply below_alloc | apply pw_below_drewN | apply below_drew1 | refine below_set ?_ GE147.out | refine below_set ?_ GE157.out) | exact HB.out)⟩
                                      (try clear HO_4)
                                      (try clear HO_5)
                                      (try clear BK147)
                                      (try clear BK157)
                                      (try clear HB)
                                      generalize (wc.setCell ⟨gb157, 0, none⟩ (.int .i64 5)) = w92 at n0_ n1_ n2_ n3_ n4_ ⊢
                                      have HO_4 := n0_
                                      have HO_5 := n1_
                                      have BK147 := n2_
                                      have BK157 := n3_
                                      have HB := n4_
                                      clear n0_ n1_ n2_ n3_ n4_
                                      have n0_ := Aside0.mk (Kd.R_drew HO_4.out)
                                      have n1_ := Aside0.mk (Kd.R_drew HO_5.out)
                                      have n2_ := Aside0.mk (blk_drew BK147.out)
                                      have n3_ := Aside0.mk (blk_drew BK157.out)
                                      have n4_ := Aside0.mk (below_drew1 HB.out)
                                      clear HO_4
                                      clear HO_5
                                      clear BK147
                                      clear BK157
                                      clear HB
                                      have HO_4 := n0_
                                      have HO_5 := n1_
                                      have BK147 := n2_
                                      have BK157 := n3_
                                      have HB := n4_
                                      clear n0_ n1_ n2_ n3_ n4_
                                      refine start_ (n := 5) (S := fun w' => w'.cell? ⟨gb157, 0, none⟩ = some (.int .i64 5) ∧ w'.cell? ⟨gb157, 1, none⟩ = some (.int .i64 0) ∧ w'.cell? ⟨gb157, 2, none⟩ = some (.int .i64 0)) (ds := []) #[false, false, false, false, false] (by kernel_rfl) rfl rfl ⟨(blk_cell BK157.out 0).trans rfl, (blk_cell BK157.out 1).trans rfl, (blk_cell BK157.out 2).trans rfl⟩ (fun hHeld => ?_)
                                      generalize w92.drew = w93 at HO_4 HO_5 BK147 BK157 HB hHeld ⊢
                                      refine take_ (i := 0) (N := some 106) (v := ?_) (a' := ?_) #[true, false, false, false, false] rfl rfl (by kernel_rfl) (fun _ _ _ h => h) (Or.inl ⟨by rfl, ?_⟩) hHeld ?_ ?_
                                      rotate_left
                                      · rintro w' ⟨s0, s1, s2⟩
                                        go_simp
                                        with_reducible rfl
                                      rotate_left
                                      · simp only [Act.put, List.setIfInBounds_toArray, List.set_cons_zero, List.set_cons_succ, i64_w, i32_w]
                                        rfl
                                      refine take_ (i := 1) (N := some 107) (v := ?_) (a' := ?_) #[true, true, false, false, false] rfl rfl (by kernel_rfl) (fun _ _ _ h => h) (Or.inl ⟨by rfl, ?_⟩) hHeld ?_ ?_
                                      rotate_left
                                      · rintro w' ⟨s0, s1, s2⟩
                                        go_simp
                                        with_reducible rfl
                                      rotate_left
                                      · simp only [Act.put, List.setIfInBounds_toArray, List.set_cons_zero, List.set_cons_succ, i64_w, i32_w]
                                        rfl
                                      refine one_ (i := 2) (N := some 108) #[true, true, true, false, false] rfl rfl (by kernel_rfl) (by decide) (fun K hK => ?_)
                                      refine goes_ Tryd.func38 (by kernel_rfl) rfl #[.agg #[.int .i64 5, .int .i64 0, .int .i64 0]] (by rfl) rfl rfl (by (try simp only [List.map_toArray, List.map_cons, List.map_nil]); first | done | rfl | (simp only [List.length_drop, List.length_take]; rfl)) ?_
                                      with_reducible refine (vergerref12_OpOk.calls kj67 5 0 0 t171 _ A88.out).mono ?_
                                      rintro e w94 ⟨rfl, hb⟩
                                      refine ⟨_, rfl, ?_⟩
                                      have n0_ := Aside0.mk (Kd.R_below (by (with_reducible repeat (first | apply Kd.R_alloc | apply Kd.R_drewN | apply Kd.R_drew)); exact HO_4.out) hb)
                                      have n1_ := Aside0.mk (Kd.R_below (by (with_reducible repeat (first | apply Kd.R_alloc | apply Kd.R_drewN | apply Kd.R_drew)); exact HO_5.out) hb)
                                      have n2_ := Aside0.mk (blk_below (g := gb147) (o := .cells #[.int .i64 x148000_1, .int .i64 x148001_1, .int .i64 x148002_1] 50 (0, 0)) (by (with_reducible repeat (first | refine blk_drewN ?_ _ | refine blk_drew ?_ | refine blk_alloc ?_ _)); exact BK147.out) hb)
                                      have n3_ := Aside0.mk (blk_below (g := gb157) (o := .cells #[.int .i64 5, .int .i64 0, .int .i64 0] 50 (0, 0)) (by (with_reducible repeat (first | refine blk_drewN ?_ _ | refine blk_drew ?_ | refine blk_alloc ?_ _)); exact BK157.out) hb)
                                      have n4_ := Aside0.mk (below_step (by repeat (first | (with_reducible first | exact HB.out | apply below_alloc | apply pw_below_drewN | apply below_drew1 | refine below_set ?_ GE147.out | refine below_set ?_ GE157.out) | exact HB.out)) hb)
                                      clear HO_4
                                      clear HO_5
                                      clear BK147
                                      clear BK157
                                      clear HB
                                      have HO_4 := n0_
                                      have HO_5 := n1_
                                      have BK147 := n2_
                                      have BK157 := n3_
                                      have HB := n4_
                                      clear n0_ n1_ n2_ n3_ n4_
                                      (try clear hb)
                                      (try clear hb2)
                                      (try clear hk)
                                      (try clear hi)
                                      refine hK.out _ _ ⟨(blk_cell BK157.out 0).trans rfl, (blk_cell BK157.out 1).trans rfl, (blk_cell BK157.out 2).trans rfl⟩ (fun hHeld => ?_)
                                      clear hK K
                                      refine norm_ (a' := ?_) ?_ ?_
                                      rotate_left
                                      · show Act.put _ (some 108) _ = _
                                        simp only [Act.put, List.setIfInBounds_toArray, List.set_cons_zero, List.set_cons_succ, i64_w, i32_w]
                                        rfl
                                      refine one_ (i := 3) (N := none) #[true, true, true, true, false] rfl rfl (by kernel_rfl) (by decide) (fun K hK => ?_)
                                      have hs95 : w94.cell? ⟨gb147, 0, none⟩ = some (.int .i64 x148000_1) := (blk_cell BK147.out 0).trans rfl
                                      have hfs95 := blk_frozen BK147.out 0
                                      have hns95_1 := NB157_147.out
                                      have hms95_1 := NB147_157.out
                                      have hs96 : w94.cell? ⟨gb147, 1, none⟩ = some (.int .i64 x148001_1) := (blk_cell BK147.out 1).trans rfl
                                      have hfs96 := blk_frozen BK147.out 1
                                      have hns96_1 := NB157_147.out
                                      have hms96_1 := NB147_157.out
                                      have hs97 : w94.cell? ⟨gb147, 2, none⟩ = some (.int .i64 x148002_1) := (blk_cell BK147.out 2).trans rfl
                                      have hfs97 := blk_frozen BK147.out 2
                                      have hns97_1 := NB157_147.out
                                      have hms97_1 := NB147_157.out
                                      refine skip_ (w1 := ?_) (by rfl) rfl ?_ ?_
                                      rotate_left
                                      · go_simp
                                        rfl
                                      refine hK.out _ _ ⟨((cell_far (p := ⟨gb147, _, none⟩) NB157_147.out _).trans (((cell_far (p := ⟨gb147, _, none⟩) NB157_147.out _).trans (((cell_far (p := ⟨gb147, _, none⟩) NB157_147.out _).trans (hHeld.1)))))), ((cell_far (p := ⟨gb147, _, none⟩) NB157_147.out _).trans (((cell_far (p := ⟨gb147, _, none⟩) NB157_147.out _).trans (((cell_far (p := ⟨gb147, _, none⟩) NB157_147.out _).trans (hHeld.2.1)))))), ((cell_far (p := ⟨gb147, _, none⟩) NB157_147.out _).trans (((cell_far (p := ⟨gb147, _, none⟩) NB157_147.out _).trans (((cell_far (p := ⟨gb147, _, none⟩) NB157_147.out _).trans (hHeld.2.2))))))⟩ (fun hHeld => ?_)
                                      clear hK K
                                      refine pure_ (i := 4) (N := some 3) (v := ?_) (a' := ?_) #[true, true, true, true, true] rfl rfl (by kernel_rfl) (fun _ _ _ h => h) (Or.inl ⟨by rfl, ?_⟩) ?_ ?_
                                      rotate_left
                                      · intro w'
                                        go_simp
                                        with_reducible rfl
                                      rotate_left
                                      · simp only [Act.put, List.setIfInBounds_toArray, List.set_cons_zero, List.set_cons_succ, i64_w, i32_w]
                                        rfl
                                      refine done_ (by kernel_rfl) ?_
                                      try go_wp2
                                      refine bodyPost_ret (results_ct rfl _ _ gb147 50 #[.int .i64 5, .int .i64 0, .int .i64 0] (0, 0) _ rfl (by (with_reducible repeat (first | refine blk_drewN ?_ _ | refine blk_drew ?_ | refine blk_alloc ?_ _)); refine blk_put (cs := #[.int .i64 5, .int .i64 0, .int .i64 x148002_1]) ?_ 2 _ rfl; (with_reducible repeat (first | refine blk_drewN ?_ _ | refine blk_drew ?_ | refine blk_alloc ?_ _)); refine blk_put (cs := #[.int .i64 5, .int .i64 x148001_1, .int .i64 x148002_1]) ?_ 1 _ rfl; (with_reducible repeat (first | refine blk_drewN ?_ _ | refine blk_drew ?_ | refine blk_alloc ?_ _)); refine blk_put (cs := #[.int .i64 x148000_1, .int .i64 x148001_1, .int .i64 x148002_1]) ?_ 0 _ rfl; (with_reducible repeat (first | refine blk_drewN ?_ _ | refine blk_drew ?_ | refine blk_alloc ?_ _)); exact BK147.out) Tryd.underlying50 rfl (by kernel_rfl)) rfl ?_
                                      exact ⟨by first | rfl | (simp [errW_none, errW_some] <;> rfl) | (simp [*, errW_none, errW_some] <;> rfl), by repeat (first | (with_reducible first | exact HB.out | apply below_alloc | apply pw_below_drewN | apply below_drew1 | refine below_set ?_ GE147.out | refine below_set ?_ GE157.out) | exact HB.out)⟩
                                    · rw [if_neg c87] at H
                                      have c87b0 : ((x5_1.length : Int) == 0) = false := beq_eq_false_iff_ne.mpr c87
                                      have c87b1 : ((x5_1.length : Int) != 0) = true := bne_iff_ne.mpr c87
                                      have c87b2 : ¬ (x5_1 = []) := fun h_ => c87 (by rw [h_]; rfl)
                                      replace H := Option.bind_eq_some_iff.mp H
                                      obtain ⟨t172, A980, H⟩ := H
                                      replace H : (some (0, 0, 0, t172)) = some (r1, r2, r3, r4) := H
                                      have A98 := Aside0.mk A980
                                      clear A980
                                      simp only [Option.some.injEq, Prod.mk.injEq] at H
                                      obtain ⟨rfl, rfl, rfl, rfl⟩ := H
                                      have p170 : 0 ≤ (0 : Int) := (by omega)
                                      have q170 : 0 < (t148.length : Int) := of_decide_eq_true (by first | (with_reducible assumption) | assumption)
                                      obtain ⟨ad170, e170, hx170_0⟩ := Kd.at_string (Kd.R_reads' HO_4.out).2.2 0 p170 q170
                                      cases e170
                                      have qi170 : (0 < t148.length) = True := eq_true (by omega)
                                      (try rw [show ((0 : Int)).toNat = 0 from rfl] at hx170_0)
                                      (try rw [Addr.add_zero'] at hx170_0)
                                      replace p170 := eq_true p170
                                      replace q170 := eq_true q170
                                      obtain ⟨Ao99, co99, eo99⟩ := Kd.R_slice HO_5.out
                                      subst eo99
                                      try go_wp2
                                      have n0_ := Aside0.mk (Kd.R_drew HO_4.out)
                                      have n1_ := Aside0.mk (Kd.R_drew HO_5.out)
                                      have n2_ := Aside0.mk (blk_drew BK147.out)
                                      have n3_ := Aside0.mk (blk_drew BK157.out)
                                      have n4_ := Aside0.mk (below_drew1 HB.out)
                                      clear HO_4
                                      clear HO_5
                                      clear BK147
                                      clear BK157
                                      clear HB
                                      have HO_4 := n0_
                                      have HO_5 := n1_
                                      have BK147 := n2_
                                      have BK157 := n3_
                                      have HB := n4_
                                      clear n0_ n1_ n2_ n3_ n4_
                                      refine start_ (n := 5) (S := fun w' => w'.cell? ⟨gb157, 0, none⟩ = some (.int .i64 0) ∧ w'.cell? ⟨gb157, 1, none⟩ = some (.int .i64 0) ∧ w'.cell? ⟨gb157, 2, none⟩ = some (.int .i64 0)) (ds := []) #[false, false, false, false, false] (by kernel_rfl) rfl rfl ⟨(blk_cell BK157.out 0).trans rfl, (blk_cell BK157.out 1).trans rfl, (blk_cell BK157.out 2).trans rfl⟩ (fun hHeld => ?_)
                                      generalize wc.drew = w100 at HO_4 HO_5 BK147 BK157 HB hHeld ⊢
                                      refine take_ (i := 0) (N := some 106) (v := ?_) (a' := ?_) #[true, false, false, false, false] rfl rfl (by kernel_rfl) (fun _ _ _ h => h) (Or.inl ⟨by rfl, ?_⟩) hHeld ?_ ?_
                                      rotate_left
                                      · rintro w' ⟨s0, s1, s2⟩
                                        go_simp
                                        with_reducible rfl
                                      rotate_left
                                      · simp only [Act.put, List.setIfInBounds_toArray, List.set_cons_zero, List.set_cons_succ, i64_w, i32_w]
                                        rfl
                                      refine take_ (i := 1) (N := some 107) (v := ?_) (a' := ?_) #[true, true, false, false, false] rfl rfl (by kernel_rfl) (fun _ _ _ h => h) (Or.inl ⟨by rfl, ?_⟩) hHeld ?_ ?_
                                      rotate_left
                                      · rintro w' ⟨s0, s1, s2⟩
                                        go_simp
                                        with_reducible rfl
                                      rotate_left
                                      · simp only [Act.put, List.setIfInBounds_toArray, List.set_cons_zero, List.set_cons_succ, i64_w, i32_w]
                                        rfl
                                      refine one_ (i := 2) (N := some 108) #[true, true, true, false, false] rfl rfl (by kernel_rfl) (by decide) (fun K hK => ?_)
                                      refine goes_ Tryd.func38 (by kernel_rfl) rfl #[.agg #[.int .i64 0, .int .i64 0, .int .i64 0]] (by rfl) rfl rfl (by (try simp only [List.map_toArray, List.map_cons, List.map_nil]); first | done | rfl | (simp only [List.length_drop, List.length_take]; rfl)) ?_
                                      with_reducible refine (vergerref12_OpOk.calls kj67 0 0 0 t172 _ A98.out).mono ?_
                                      rintro e w101 ⟨rfl, hb⟩
                                      refine ⟨_, rfl, ?_⟩
                                      have n0_ := Aside0.mk (Kd.R_below (by (with_reducible repeat (first | apply Kd.R_alloc | apply Kd.R_drewN | apply Kd.R_drew)); exact HO_4.out) hb)
                                      have n1_ := Aside0.mk (Kd.R_below (by (with_reducible repeat (first | apply Kd.R_alloc | apply Kd.R_drewN | apply Kd.R_drew)); exact HO_5.out) hb)
                                      have n2_ := Aside0.mk (blk_below (g := gb147) (o := .cells #[.int .i64 x148000_1, .int .i64 x148001_1, .int .i64 x148002_1] 50 (0, 0)) (by (with_reducible repeat (first | refine blk_drewN ?_ _ | refine blk_drew ?_ | refine blk_alloc ?_ _)); exact BK147.out) hb)
                                      have n3_ := Aside0.mk (blk_below (g := gb157) (o := .cells #[.int .i64 0, .int .i64 0, .int .i64 0] 50 (0, 0)) (by (with_reducible repeat (first | refine blk_drewN ?_ _ | refine blk_drew ?_ | refine blk_alloc ?_ _)); exact BK157.out) hb)
                                      have n4_ := Aside0.mk (below_step (by repeat (first | (with_reducible first | exact HB.out | apply below_alloc | apply pw_below_drewN | apply below_drew1 | refine below_set ?_ GE147.out | refine below_set ?_ GE157.out) | exact HB.out)) hb)
                                      clear HO_4
                                      clear HO_5
                                      clear BK147
                                      clear BK157
                                      clear HB
                                      have HO_4 := n0_
                                      have HO_5 := n1_
                                      have BK147 := n2_
                                      have BK157 := n3_
                                      have HB := n4_
                                      clear n0_ n1_ n2_ n3_ n4_
                                      (try clear hb)
                                      (try clear hb2)
                                      (try clear hk)
                                      (try clear hi)
                                      refine hK.out _ _ ⟨(blk_cell BK157.out 0).trans rfl, (blk_cell BK157.out 1).trans rfl, (blk_cell BK157.out 2).trans rfl⟩ (fun hHeld => ?_)
                                      clear hK K
                                      refine norm_ (a' := ?_) ?_ ?_
                                      rotate_left
                                      · show Act.put _ (some 108) _ = _
                                        simp only [Act.put, List.setIfInBounds_toArray, List.set_cons_zero, List.set_cons_succ, i64_w, i32_w]
                                        rfl
                                      refine one_ (i := 3) (N := none) #[true, true, true, true, false] rfl rfl (by kernel_rfl) (by decide) (fun K hK => ?_)
                                      have hs102 : w101.cell? ⟨gb147, 0, none⟩ = some (.int .i64 x148000_1) := (blk_cell BK147.out 0).trans rfl
                                      have hfs102 := blk_frozen BK147.out 0
                                      have hns102_1 := NB157_147.out
                                      have hms102_1 := NB147_157.out
                                      have hs103 : w101.cell? ⟨gb147, 1, none⟩ = some (.int .i64 x148001_1) := (blk_cell BK147.out 1).trans rfl
                                      have hfs103 := blk_frozen BK147.out 1
                                      have hns103_1 := NB157_147.out
                                      have hms103_1 := NB147_157.out
                                      have hs104 : w101.cell? ⟨gb147, 2, none⟩ = some (.int .i64 x148002_1) := (blk_cell BK147.out 2).trans rfl
                                      have hfs104 := blk_frozen BK147.out 2
                                      have hns104_1 := NB157_147.out
                                      have hms104_1 := NB147_157.out
                                      refine skip_ (w1 := ?_) (by rfl) rfl ?_ ?_
                                      rotate_left
                                      · go_simp
                                        rfl
                                      refine hK.out _ _ ⟨((cell_far (p := ⟨gb147, _, none⟩) NB157_147.out _).trans (((cell_far (p := ⟨gb147, _, none⟩) NB157_147.out _).trans (((cell_far (p := ⟨gb147, _, none⟩) NB157_147.out _).trans (hHeld.1)))))), ((cell_far (p := ⟨gb147, _, none⟩) NB157_147.out _).trans (((cell_far (p := ⟨gb147, _, none⟩) NB157_147.out _).trans (((cell_far (p := ⟨gb147, _, none⟩) NB157_147.out _).trans (hHeld.2.1)))))), ((cell_far (p := ⟨gb147, _, none⟩) NB157_147.out _).trans (((cell_far (p := ⟨gb147, _, none⟩) NB157_147.out _).trans (((cell_far (p := ⟨gb147, _, none⟩) NB157_147.out _).trans (hHeld.2.2))))))⟩ (fun hHeld => ?_)
                                      clear hK K
                                      refine pure_ (i := 4) (N := some 3) (v := ?_) (a' := ?_) #[true, true, true, true, true] rfl rfl (by kernel_rfl) (fun _ _ _ h => h) (Or.inl ⟨by rfl, ?_⟩) ?_ ?_
                                      rotate_left
                                      · intro w'
                                        go_simp
                                        with_reducible rfl
                                      rotate_left
                                      · simp only [Act.put, List.setIfInBounds_toArray, List.set_cons_zero, List.set_cons_succ, i64_w, i32_w]
                                        rfl
                                      refine done_ (by kernel_rfl) ?_
                                      try go_wp2
                                      refine bodyPost_ret (results_ct rfl _ _ gb147 50 #[.int .i64 0, .int .i64 0, .int .i64 0] (0, 0) _ rfl (by (with_reducible repeat (first | refine blk_drewN ?_ _ | refine blk_drew ?_ | refine blk_alloc ?_ _)); refine blk_put (cs := #[.int .i64 0, .int .i64 0, .int .i64 x148002_1]) ?_ 2 _ rfl; (with_reducible repeat (first | refine blk_drewN ?_ _ | refine blk_drew ?_ | refine blk_alloc ?_ _)); refine blk_put (cs := #[.int .i64 0, .int .i64 x148001_1, .int .i64 x148002_1]) ?_ 1 _ rfl; (with_reducible repeat (first | refine blk_drewN ?_ _ | refine blk_drew ?_ | refine blk_alloc ?_ _)); refine blk_put (cs := #[.int .i64 x148000_1, .int .i64 x148001_1, .int .i64 x148002_1]) ?_ 0 _ rfl; (with_reducible repeat (first | refine blk_drewN ?_ _ | refine blk_drew ?_ | refine blk_alloc ?_ _)); exact BK147.out) Tryd.underlying50 rfl (by kernel_rfl)) rfl ?_
                                      exact ⟨by first | rfl | (simp [errW_none, errW_some] <;> rfl) | (simp [*, errW_none, errW_some] <;> rfl), by repeat (first | (with_reducible first | exact HB.out | apply below_alloc | apply pw_below_drewN | apply below_drew1 | refine below_set ?_ GE147.out | refine below_set ?_ GE157.out) | exact HB.out)⟩
                                  · rw [if_neg c86] at H
                                    have c86b0 : ((rdOf ByteArray.empty t148 0).toList == ([112, 97, 110, 105, 99] : List UInt8)) = false := beq_eq_false_iff_ne.mpr c86
                                    have c86b1 : ((rdOf ByteArray.empty t148 0).toList != ([112, 97, 110, 105, 99] : List UInt8)) = true := bne_iff_ne.mpr c86
                                    replace H := Option.bind_eq_some_iff.mp H
                                    obtain ⟨t173, A1050, H⟩ := H
                                    replace H : (some (0, 0, 0, t173)) = some (r1, r2, r3, r4) := H
                                    have A105 := Aside0.mk A1050
                                    clear A1050
                                    simp only [Option.some.injEq, Prod.mk.injEq] at H
                                    obtain ⟨rfl, rfl, rfl, rfl⟩ := H
                                    have p170 : 0 ≤ (0 : Int) := (by omega)
                                    have q170 : 0 < (t148.length : Int) := of_decide_eq_true (by first | (with_reducible assumption) | assumption)
                                    obtain ⟨ad170, e170, hx170_0⟩ := Kd.at_string (Kd.R_reads' HO_4.out).2.2 0 p170 q170
                                    cases e170
                                    have qi170 : (0 < t148.length) = True := eq_true (by omega)
                                    (try rw [show ((0 : Int)).toNat = 0 from rfl] at hx170_0)
                                    (try rw [Addr.add_zero'] at hx170_0)
                                    replace p170 := eq_true p170
                                    replace q170 := eq_true q170
                                    try go_wp2
                                    have n0_ := Aside0.mk (Kd.R_drew HO_4.out)
                                    have n1_ := Aside0.mk (Kd.R_drew HO_5.out)
                                    have n2_ := Aside0.mk (blk_drew BK147.out)
                                    have n3_ := Aside0.mk (blk_drew BK157.out)
                                    have n4_ := Aside0.mk (below_drew1 HB.out)
                                    clear HO_4
                                    clear HO_5
                                    clear BK147
                                    clear BK157
                                    clear HB
                                    have HO_4 := n0_
                                    have HO_5 := n1_
                                    have BK147 := n2_
                                    have BK157 := n3_
                                    have HB := n4_
                                    clear n0_ n1_ n2_ n3_ n4_
                                    refine start_ (n := 5) (S := fun w' => w'.cell? ⟨gb157, 0, none⟩ = some (.int .i64 0) ∧ w'.cell? ⟨gb157, 1, none⟩ = some (.int .i64 0) ∧ w'.cell? ⟨gb157, 2, none⟩ = some (.int .i64 0)) (ds := []) #[false, false, false, false, false] (by kernel_rfl) rfl rfl ⟨(blk_cell BK157.out 0).trans rfl, (blk_cell BK157.out 1).trans rfl, (blk_cell BK157.out 2).trans rfl⟩ (fun hHeld => ?_)
                                    generalize wc.drew = w106 at HO_4 HO_5 BK147 BK157 HB hHeld ⊢
                                    refine take_ (i := 0) (N := some 106) (v := ?_) (a' := ?_) #[true, false, false, false, false] rfl rfl (by kernel_rfl) (fun _ _ _ h => h) (Or.inl ⟨by rfl, ?_⟩) hHeld ?_ ?_
                                    rotate_left
                                    · rintro w' ⟨s0, s1, s2⟩
                                      go_simp
                                      with_reducible rfl
                                    rotate_left
                                    · simp only [Act.put, List.setIfInBounds_toArray, List.set_cons_zero, List.set_cons_succ, i64_w, i32_w]
                                      rfl
                                    refine take_ (i := 1) (N := some 107) (v := ?_) (a' := ?_) #[true, true, false, false, false] rfl rfl (by kernel_rfl) (fun _ _ _ h => h) (Or.inl ⟨by rfl, ?_⟩) hHeld ?_ ?_
                                    rotate_left
                                    · rintro w' ⟨s0, s1, s2⟩
                                      go_simp
                                      with_reducible rfl
                                    rotate_left
                                    · simp only [Act.put, List.setIfInBounds_toArray, List.set_cons_zero, List.set_cons_succ, i64_w, i32_w]
                                      rfl
                                    refine one_ (i := 2) (N := some 108) #[true, true, true, false, false] rfl rfl (by kernel_rfl) (by decide) (fun K hK => ?_)
                                    refine goes_ Tryd.func38 (by kernel_rfl) rfl #[.agg #[.int .i64 0, .int .i64 0, .int .i64 0]] (by rfl) rfl rfl (by (try simp only [List.map_toArray, List.map_cons, List.map_nil]); first | done | rfl | (simp only [List.length_drop, List.length_take]; rfl)) ?_
                                    with_reducible refine (vergerref12_OpOk.calls kj67 0 0 0 t173 _ A105.out).mono ?_
                                    rintro e w107 ⟨rfl, hb⟩
                                    refine ⟨_, rfl, ?_⟩
                                    have n0_ := Aside0.mk (Kd.R_below (by (with_reducible repeat (first | apply Kd.R_alloc | apply Kd.R_drewN | apply Kd.R_drew)); exact HO_4.out) hb)
                                    have n1_ := Aside0.mk (Kd.R_below (by (with_reducible repeat (first | apply Kd.R_alloc | apply Kd.R_drewN | apply Kd.R_drew)); exact HO_5.out) hb)
                                    have n2_ := Aside0.mk (blk_below (g := gb147) (o := .cells #[.int .i64 x148000_1, .int .i64 x148001_1, .int .i64 x148002_1] 50 (0, 0)) (by (with_reducible repeat (first | refine blk_drewN ?_ _ | refine blk_drew ?_ | refine blk_alloc ?_ _)); exact BK147.out) hb)
                                    have n3_ := Aside0.mk (blk_below (g := gb157) (o := .cells #[.int .i64 0, .int .i64 0, .int .i64 0] 50 (0, 0)) (by (with_reducible repeat (first | refine blk_drewN ?_ _ | refine blk_drew ?_ | refine blk_alloc ?_ _)); exact BK157.out) hb)
                                    have n4_ := Aside0.mk (below_step (by repeat (first | (with_reducible first | exact HB.out | apply below_alloc | apply pw_below_drewN | apply below_drew1 | refine below_set ?_ GE147.out | refine below_set ?_ GE157.out) | exact HB.out)) hb)
                                    clear HO_4
                                    clear HO_5
                                    clear BK147
                                    clear BK157
                                    clear HB
                                    have HO_4 := n0_
                                    have HO_5 := n1_
                                    have BK147 := n2_
                                    have BK157 := n3_
                                    have HB := n4_
                                    clear n0_ n1_ n2_ n3_ n4_
                                    (try clear hb)
                                    (try clear hb2)
                                    (try clear hk)
                                    (try clear hi)
                                    refine hK.out _ _ ⟨(blk_cell BK157.out 0).trans rfl, (blk_cell BK157.out 1).trans rfl, (blk_cell BK157.out 2).trans rfl⟩ (fun hHeld => ?_)
                                    clear hK K
                                    refine norm_ (a' := ?_) ?_ ?_
                                    rotate_left
                                    · show Act.put _ (some 108) _ = _
                                      simp only [Act.put, List.setIfInBounds_toArray, List.set_cons_zero, List.set_cons_succ, i64_w, i32_w]
                                      rfl
                                    refine one_ (i := 3) (N := none) #[true, true, true, true, false] rfl rfl (by kernel_rfl) (by decide) (fun K hK => ?_)
                                    have hs108 : w107.cell? ⟨gb147, 0, none⟩ = some (.int .i64 x148000_1) := (blk_cell BK147.out 0).trans rfl
                                    have hfs108 := blk_frozen BK147.out 0
                                    have hns108_1 := NB157_147.out
                                    have hms108_1 := NB147_157.out
                                    have hs109 : w107.cell? ⟨gb147, 1, none⟩ = some (.int .i64 x148001_1) := (blk_cell BK147.out 1).trans rfl
                                    have hfs109 := blk_frozen BK147.out 1
                                    have hns109_1 := NB157_147.out
                                    have hms109_1 := NB147_157.out
                                    have hs110 : w107.cell? ⟨gb147, 2, none⟩ = some (.int .i64 x148002_1) := (blk_cell BK147.out 2).trans rfl
                                    have hfs110 := blk_frozen BK147.out 2
                                    have hns110_1 := NB157_147.out
                                    have hms110_1 := NB147_157.out
                                    refine skip_ (w1 := ?_) (by rfl) rfl ?_ ?_
                                    rotate_left
                                    · go_simp
                                      rfl
                                    refine hK.out _ _ ⟨((cell_far (p := ⟨gb147, _, none⟩) NB157_147.out _).trans (((cell_far (p := ⟨gb147, _, none⟩) NB157_147.out _).trans (((cell_far (p := ⟨gb147, _, none⟩) NB157_147.out _).trans (hHeld.1)))))), ((cell_far (p := ⟨gb147, _, none⟩) NB157_147.out _).trans (((cell_far (p := ⟨gb147, _, none⟩) NB157_147.out _).trans (((cell_far (p := ⟨gb147, _, none⟩) NB157_147.out _).trans (hHeld.2.1)))))), ((cell_far (p := ⟨gb147, _, none⟩) NB157_147.out _).trans (((cell_far (p := ⟨gb147, _, none⟩) NB157_147.out _).trans (((cell_far (p := ⟨gb147, _, none⟩) NB157_147.out _).trans (hHeld.2.2))))))⟩ (fun hHeld => ?_)
                                    clear hK K
                                    refine pure_ (i := 4) (N := some 3) (v := ?_) (a' := ?_) #[true, true, true, true, true] rfl rfl (by kernel_rfl) (fun _ _ _ h => h) (Or.inl ⟨by rfl, ?_⟩) ?_ ?_
                                    rotate_left
                                    · intro w'
                                      go_simp
                                      with_reducible rfl
                                    rotate_left
                                    · simp only [Act.put, List.setIfInBounds_toArray, List.set_cons_zero, List.set_cons_succ, i64_w, i32_w]
                                      rfl
                                    refine done_ (by kernel_rfl) ?_
                                    try go_wp2
                                    refine bodyPost_ret (results_ct rfl _ _ gb147 50 #[.int .i64 0, .int .i64 0, .int .i64 0] (0, 0) _ rfl (by (with_reducible repeat (first | refine blk_drewN ?_ _ | refine blk_drew ?_ | refine blk_alloc ?_ _)); refine blk_put (cs := #[.int .i64 0, .int .i64 0, .int .i64 x148002_1]) ?_ 2 _ rfl; (with_reducible repeat (first | refine blk_drewN ?_ _ | refine blk_drew ?_ | refine blk_alloc ?_ _)); refine blk_put (cs := #[.int .i64 0, .int .i64 x148001_1, .int .i64 x148002_1]) ?_ 1 _ rfl; (with_reducible repeat (first | refine blk_drewN ?_ _ | refine blk_drew ?_ | refine blk_alloc ?_ _)); refine blk_put (cs := #[.int .i64 x148000_1, .int .i64 x148001_1, .int .i64 x148002_1]) ?_ 0 _ rfl; (with_reducible repeat (first | refine blk_drewN ?_ _ | refine blk_drew ?_ | refine blk_alloc ?_ _)); exact BK147.out) Tryd.underlying50 rfl (by kernel_rfl)) rfl ?_
                                    exact ⟨by first | rfl | (simp [errW_none, errW_some] <;> rfl) | (simp [*, errW_none, errW_some] <;> rfl), by repeat (first | (with_reducible first | exact HB.out | apply below_alloc | apply pw_below_drewN | apply below_drew1 | refine below_set ?_ GE147.out | refine below_set ?_ GE157.out) | exact HB.out)⟩
                                · rw [if_neg c85] at H
                                  exact absurd H (by simp)

end Go.Proofs.YtllabeiadeclkaaDoor.PBodyParses
