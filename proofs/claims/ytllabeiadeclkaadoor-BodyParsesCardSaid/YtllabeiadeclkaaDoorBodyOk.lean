/-
  body.Ok and body.Steps: slices.IndexFunc and slices.ContainsFunc over a body's ops.
-/
import Derived.Test.YtllabeiadeclkaaDoorBodyFits
import Derived.Test.YtllabeiadeclkaaDoorBodyLib
set_option linter.unusedVariables false
set_option linter.unusedSimpArgs false
namespace Go.Proofs.YtllabeiadeclkaaDoor
open Go.RowKit Pm

/-- An op as a value. -/
abbrev opV (x : Bp.O) : Value := .agg #[.int .i64 x.kind, .int .i64 x.a, .int .i64 x.b]
/-- A slice of ops that is read. -/
def OpsAt (w : World) (A : Option Addr) (l : List Bp.O) : Prop :=
  0 < l.length → ∃ b o, A = some ⟨b, o, none⟩ ∧ b < w.heap.size ∧ ∀ (j : Nat) x, l[j]? = some x →
    w.cell? ⟨b, o + j * 3, none⟩ = some (.int .i64 x.kind) ∧ w.cell? ⟨b, o + j * 3 + 1, none⟩ = some (.int .i64 x.a) ∧ w.cell? ⟨b, o + j * 3 + 2, none⟩ = some (.int .i64 x.b)
theorem OpsAt.below {w W : World} {A : Option Addr} {l : List Bp.O} (h : OpsAt w A l) (hb : Below w.heap.size w W) : OpsAt W A l := by
  intro hl
  obtain ⟨b, o, rfl, hlt, hc⟩ := h hl
  exact ⟨b, o, rfl, Nat.lt_of_lt_of_le hlt hb.size, fun j x hx => ⟨cellk hb (hc j x hx).1, cellk hb (hc j x hx).2.1, cellk hb (hc j x hx).2.2⟩⟩

def idxOf (p : Bp.O → Bool) (l : List Bp.O) : Int := match l.findIdx? p with | some i => i | none => -1

theorem notFits_any (x : Bp.O) (l : List ((Int × Int) × Value)) (hl : IsLit l (litOf spansDs)) (B c C : Nat) (w : World) (hB : w.heap[B]? = some (.map (ents l) c)) (hC : w.cell? ⟨C, 0, none⟩ = some (.map (some B))) :
    Calls Tryd.prog 55 #[opV x, .pointer (some ⟨C, 0, none⟩)] w fun e w' => e = .returned (.bool (!Bp.fits x)) ∧ Below w.heap.size w w' := by
  have hCb := World.block_lt_of_cell? w _ hC
  have hc1 : ∀ o, (w.alloc o).cell? ⟨C, 0, none⟩ = some (.map (some B)) := fun o => cellk (bl1 (bl0 w) o) hC
  obtain ⟨k, a, b⟩ := x
  go_enter Tryd.func55, Tryd.ntmps55
  go_wp2_with (go_at_call 56; refine (fits_any k a b l hl B c _ (blk (bl1 (bl0 _) _) hB)).mono ?_; rintro e w1 ⟨rfl, hb⟩)
  go_ret
  exact ⟨rfl, bl3 (bl1 (bl0 _) _) hb⟩

theorem idx_hit {p : Bp.O → Bool} {l : List Bp.O} {k : Nat} {x : Bp.O} (h : ∀ j, j < k → ∀ x, l[j]? = some x → p x = false) (hx : l[k]? = some x) (hp : p x = true) : (k : Int) = idxOf p l := by
  obtain ⟨hk, hx⟩ := List.getElem?_eq_some_iff.1 hx
  have : l.findIdx? p = some k := List.findIdx?_eq_some_iff_getElem.2 ⟨hk, by rw [hx]; exact hp, fun j hj => by
    rw [h j hj _ (List.getElem?_eq_getElem (by omega))]; simp⟩
  simp [idxOf, this]
theorem idx_miss {p : Bp.O → Bool} {l : List Bp.O} (h : ∀ j, j < l.length → ∀ x, l[j]? = some x → p x = false) : (-1 : Int) = idxOf p l := by
  have : l.findIdx? p = none := List.findIdx?_eq_none_iff.2 fun x hx => by
    obtain ⟨i, hi, he⟩ := List.getElem_of_mem hx
    exact h i hi x (by rw [List.getElem?_eq_getElem hi, he])
  simp [idxOf, this]
theorem idx_any (p : Bp.O → Bool) (l : List Bp.O) : decide (0 ≤ idxOf p l) = l.any p := by
  unfold idxOf
  cases h : l.findIdx? p with
  | none =>
    have := List.findIdx?_eq_none_iff.1 h
    rw [show l.any p = false by rw [List.any_eq_false]; intro x hx; rw [this x hx]; simp]; rfl
  | some i =>
    obtain ⟨hi, h1, _⟩ := List.findIdx?_eq_some_iff_getElem.1 h
    rw [show l.any p = true by rw [List.any_eq_true]; exact ⟨_, List.getElem_mem hi, h1⟩]
    simp

theorem isPanic_any (x : Bp.O) (w : World) : Calls Tryd.prog 40 #[opV x] w fun e w' => e = .returned (.bool (x.kind == 5)) ∧ Below w.heap.size w w' := by
  obtain ⟨k, a, b⟩ := x
  go_enter Tryd.func40, Tryd.ntmps40
  go_wp2
  go_ret
  exact ⟨rfl, bl1 (bl0 _) _⟩

set_option maxHeartbeats 800000 in
theorem indexNot_any (l : List Bp.O) (A : Option Addr) (cap : Nat) (m : List ((Int × Int) × Value)) (B c C : Nat) (w : World) (hl : OpsAt w A l) (hlen : l.length ≤ 140737488355328) (hm : IsLit m (litOf spansDs)) (hB : w.heap[B]? = some (.map (ents m) c)) (hC : w.cell? ⟨C, 0, none⟩ = some (.map (some B))) :
    Calls Tryd.prog 39 #[.slice A l.length cap, .func (.func 55) #[] #[.pointer (some ⟨C, 0, none⟩)]] w fun e w' => e = .returned (.int .i64 (idxOf (fun x => !Bp.fits x) l)) ∧ Below w.heap.size w w' := by
  have HO := Lib.hid hl
  clear hl
  have HM := Lib.hid hm
  have HB := Lib.hid hB
  have HC := Lib.hid hC
  clear hm hB hC
  go_enter Tryd.func39, Tryd.ntmps39
  go_wp2
  go_loopw [8] (fun i wr => ∃ k : Nat, i = .int .i64 k ∧ k ≤ l.length ∧ (∀ j, j < k → ∀ x, l[j]? = some x → (fun x => !Bp.fits x) x = false) ∧ Below w.heap.size w wr) (fun i _ => l.length - (intOf i).toNat)
  case atStart => exact ⟨0, rfl, by omega, fun j h => by omega, bl0 _⟩
  case round =>
    obtain ⟨k, rfl, hk, hall, hbw⟩ := hrel
    have HA := Lib.hid hall
    have HW := Lib.hid hbw
    clear hall hbw
    by_cases hlt : k < l.length
    · obtain ⟨b, o, rfl, hbl, hcells⟩ := HO.out (by omega)
      obtain ⟨x, hx⟩ : ∃ x, l[k]? = some x := ⟨_, List.getElem?_eq_getElem hlt⟩
      have HX := Lib.hid hx
      obtain ⟨c0, c1, c2⟩ := hcells k x hx
      replace c0 := cellk HW.out c0
      replace c1 := cellk HW.out c1
      replace c2 := cellk HW.out c2
      clear hcells hx
      have HT : Hid (∀ b : Bool, (fun x => !Bp.fits x) x = b → (fun x => !Bp.fits x) x = b) := fun _ h => h
      go_wp2_with (go_at_call 55; go_must (refine (notFits_any x m HM.out B c C _ (blk HW.out HB.out) (cellk HW.out HC.out)).mono ?_; rintro e w1 ⟨rfl, hb⟩))
      · have ht := HT.out true (by assumption)
        go_ret
        go_light
        exact ⟨ret_int (idx_hit HA.out HX.out ht), bl3 HW.out hb⟩
      · have ht := HT.out false (by assumption)
        go_light
        refine ⟨⟨k + 1, by go_num, by omega, fun j hj y hy => ?_, bl3 HW.out hb⟩, by simp [intOf]; omega⟩
        rcases Nat.lt_or_ge j k with h | h
        · exact HA.out j h y hy
        · obtain rfl : j = k := by omega
          rw [HX.out] at hy
          injection hy with hy
          exact hy ▸ ht
    · go_wp2
      go_ret
      go_light
      obtain rfl : k = l.length := by omega
      exact ⟨ret_int (idx_miss HA.out), HW.out⟩

set_option maxHeartbeats 800000 in
theorem indexPanic_any (l : List Bp.O) (A : Option Addr) (cap : Nat) (w : World) (hl : OpsAt w A l) (hlen : l.length ≤ 140737488355328) :
    Calls Tryd.prog 39 #[.slice A l.length cap, .func (.func 40) #[] #[]] w fun e w' => e = .returned (.int .i64 (idxOf (fun x => x.kind == 5) l)) ∧ Below w.heap.size w w' := by
  have HO := Lib.hid hl
  clear hl
  go_enter Tryd.func39, Tryd.ntmps39
  go_wp2
  go_loopw [8] (fun i wr => ∃ k : Nat, i = .int .i64 k ∧ k ≤ l.length ∧ (∀ j, j < k → ∀ x, l[j]? = some x → (fun x => x.kind == 5) x = false) ∧ Below w.heap.size w wr) (fun i _ => l.length - (intOf i).toNat)
  case atStart => exact ⟨0, rfl, by omega, fun j h => by omega, bl0 _⟩
  case round =>
    obtain ⟨k, rfl, hk, hall, hbw⟩ := hrel
    have HA := Lib.hid hall
    have HW := Lib.hid hbw
    clear hall hbw
    by_cases hlt : k < l.length
    · obtain ⟨b, o, rfl, hbl, hcells⟩ := HO.out (by omega)
      obtain ⟨x, hx⟩ : ∃ x, l[k]? = some x := ⟨_, List.getElem?_eq_getElem hlt⟩
      have HX := Lib.hid hx
      obtain ⟨c0, c1, c2⟩ := hcells k x hx
      replace c0 := cellk HW.out c0
      replace c1 := cellk HW.out c1
      replace c2 := cellk HW.out c2
      clear hcells hx
      have HT : Hid (∀ b : Bool, (fun x => x.kind == 5) x = b → (fun x => x.kind == 5) x = b) := fun _ h => h
      go_wp2_with (go_at_call 40; go_must (refine (isPanic_any x _).mono ?_; rintro e w1 ⟨rfl, hb⟩))
      · have ht := HT.out true (by assumption)
        go_ret
        go_light
        exact ⟨ret_int (idx_hit HA.out HX.out ht), bl3 HW.out hb⟩
      · have ht := HT.out false (by assumption)
        go_light
        refine ⟨⟨k + 1, by go_num, by omega, fun j hj y hy => ?_, bl3 HW.out hb⟩, by simp [intOf]; omega⟩
        rcases Nat.lt_or_ge j k with h | h
        · exact HA.out j h y hy
        · obtain rfl : j = k := by omega
          rw [HX.out] at hy
          injection hy with hy
          exact hy ▸ ht
    · go_wp2
      go_ret
      go_light
      obtain rfl : k = l.length := by omega
      exact ⟨ret_int (idx_miss HA.out), HW.out⟩

theorem containsNot_any (l : List Bp.O) (A : Option Addr) (cap : Nat) (m : List ((Int × Int) × Value)) (B c C : Nat) (w : World) (hl : OpsAt w A l) (hlen : l.length ≤ 140737488355328) (hm : IsLit m (litOf spansDs)) (hB : w.heap[B]? = some (.map (ents m) c)) (hC : w.cell? ⟨C, 0, none⟩ = some (.map (some B))) :
    Calls Tryd.prog 54 #[.slice A l.length cap, .func (.func 55) #[] #[.pointer (some ⟨C, 0, none⟩)]] w fun e w' => e = .returned (.bool (l.any fun x => !Bp.fits x)) ∧ Below w.heap.size w w' := by
  have H := Lib.hid (indexNot_any l A cap m B c C w hl hlen hm hB hC)
  have HQ := Lib.hid (idx_any (fun x => !Bp.fits x) l)
  clear hl hm hB hC
  generalize idxOf (fun x => !Bp.fits x) l = i at H HQ
  go_enter Tryd.func54, Tryd.ntmps54
  go_wp2_with (go_at_call 39; go_must (refine H.out.mono ?_; rintro e w1 ⟨rfl, hb⟩))
  go_ret
  exact ⟨ret_bool HQ.out, hb⟩

set_option maxHeartbeats 800000 in
/-- body.Ok. -/
theorem ok_any (l : List Bp.O) (A : Option Addr) (cap : Nat) (w : World) (hl : OpsAt w A l) (hlen : l.length ≤ 140737488355328) :
    Calls Tryd.prog 34 #[.slice A l.length cap] w fun e w' => e = .returned (.bool (Bp.bodyOk l)) ∧ Below w.heap.size w w' := by
  have HO := Lib.hid hl
  clear hl
  have HQ : Hid (Bp.bodyOk l = (decide (l.length ≤ 16) && !(l.any fun x => !Bp.fits x))) := by
    show Bp.bodyOk l = _
    unfold Bp.bodyOk
    rw [List.not_any_eq_all_not]; simp
  by_cases h16 : l.length ≤ 16
  · have hd : decide ((l.length : Int) ≤ 16) = true := by simp; omega
    go_enter Tryd.func34, Tryd.ntmps34
    go_wp2_with (first | (go_at_call 53; refine (spans_any _).mono ?_; rintro e w1 ⟨m, hm, rfl, hw⟩; have HM := Lib.hid hm; have HB1 := Lib.hid (show Below w.heap.size w w1 by rw [hw]; exact bl2 (bl1 (bl0 _) _)); have HM1 := Lib.hid (show w1.heap[w.heap.size]? = some (.map (ents m) m.length) by rw [hw]; exact drew_new _ _ _ rfl); clear hm hw) | (go_at_call 54; go_must (refine (containsNot_any l A cap m w.heap.size m.length w1.heap.size _ (HO.out.below (bl1 HB1.out _)) hlen HM.out (blk (bl1 (bl0 _) _) HM1.out) (cell_blk (alloc_new _ _ _ rfl) 0)).mono ?_; rintro e w2 ⟨rfl, hb⟩)))
    go_ret
    go_light
    exact ⟨ret_bool (by rw [HQ.out]; try simp [h16]), bl3 (bl1 HB1.out _) hb⟩
  · have hd : decide ((l.length : Int) ≤ 16) = false := by simp <;> omega
    go_enter Tryd.func34, Tryd.ntmps34
    go_wp2_with (go_at_call 53; refine (spans_any _).mono ?_; rintro e w1 ⟨m, hm, rfl, hw⟩; have HB1 := Lib.hid (show Below w.heap.size w w1 by rw [hw]; exact bl2 (bl1 (bl0 _) _)); clear hm hw)
    go_ret
    go_light
    exact ⟨ret_bool (by rw [HQ.out]; try simp [h16]), bl1 HB1.out _⟩

def stepsOf (l : List Bp.O) : Nat := match l.findIdx? (fun x => x.kind == 5) with | some i => i + 1 | none => l.length
theorem steps_idx (l : List Bp.O) : (if idxOf (fun x => x.kind == 5) l < 0 then (l.length : Int) else idxOf (fun x => x.kind == 5) l + 1) = (stepsOf l : Int) := by
  unfold idxOf stepsOf
  cases h : l.findIdx? (fun x => x.kind == 5) with
  | none => simp
  | some i => simp; omega
theorem idx_bound (p : Bp.O → Bool) (l : List Bp.O) : -1 ≤ idxOf p l ∧ idxOf p l ≤ l.length := by
  unfold idxOf
  cases h : l.findIdx? p with
  | none => simp
  | some i => obtain ⟨hi, _⟩ := List.findIdx?_eq_some_iff_getElem.1 h; simp; omega

/-- body.Steps. -/
theorem steps_any (l : List Bp.O) (A : Option Addr) (cap : Nat) (w : World) (hl : OpsAt w A l) (hlen : l.length ≤ 140737488355328) :
    Calls Tryd.prog 22 #[.slice A l.length cap] w fun e w' => e = .returned (.int .i64 (stepsOf l : Int)) ∧ Below w.heap.size w w' := by
  have H := Lib.hid (indexPanic_any l A cap w hl hlen)
  have HS := Lib.hid (steps_idx l)
  obtain ⟨h1, h2⟩ := idx_bound (fun x => x.kind == 5) l
  generalize idxOf (fun x => x.kind == 5) l = i at H HS h1 h2
  clear hl
  by_cases hi : i < 0
  all_goals
    go_enter Tryd.func22, Tryd.ntmps22
    go_wp2_with (go_at_call 39; go_must (refine H.out.mono ?_; rintro e w1 ⟨rfl, hb⟩))
    go_ret
    go_light
    exact ⟨ret_int (by rw [← HS.out]; split <;> omega), hb⟩
end Go.Proofs.YtllabeiadeclkaaDoor
