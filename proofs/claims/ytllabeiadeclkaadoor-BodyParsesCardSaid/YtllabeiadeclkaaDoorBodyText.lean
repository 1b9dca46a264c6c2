/-
  body.Text: a body's text.
-/
import Derived.Test.YtllabeiadeclkaaDoorBodyTold
import Derived.Test.YtllabeiadeclkaaDoorWWords
set_option linter.unusedVariables false
set_option linter.unusedSimpArgs false
namespace Go.Proofs.YtllabeiadeclkaaDoor
open Go.RowKit Pm Go.Proofs.YtllabeiadeclkaaDoorW.PrintWords

theorem infoStr : (Tryd.prog.info? 9).map (fun i => (i.zero, i.size, i.bytes)) = some (some (.string ⟨#[]⟩), 1, 16) := by kernel_rfl

abbrev encS (l : List UInt8) : Value := .string (S l)

theorem strs_of_own {w : World} {base : Nat} {v : Value} {l : List (List UInt8)} (h : w.ownsRow base 9 1 v l.length (encs encS l)) : ∃ A c, v = .slice A l.length c ∧ l.length ≤ c ∧ StrsAt w A l := by
  rcases h.2 with ⟨rfl, h2⟩ | ⟨g, cap, cur, rfl, h1, h2, h3, h4, h5, h6⟩
  · have h0 : l = [] := by simpa [encs] using h2
    subst h0
    exact ⟨none, 0, rfl, Nat.le_refl _, fun h => by simp at h⟩
  · refine ⟨some ⟨g, 0, none⟩, cap, rfl, by first | omega | assumption, fun hp => ⟨g, 0, rfl, (Array.getElem?_eq_some_iff.1 h2).1, fun j x hx => ?_⟩⟩
    have := h.cells (g := g) rfl j (.string (S x)) (by simp [encs, hx])
    rw [add_plain] at this
    simpa using this

theorem told_len {x : Bp.O} (h : Bp.fits x = true) : (Bp.told x).length ≤ 60 := by
  obtain ⟨k, a, b⟩ := x
  have hd : ∀ n : Int, 0 ≤ n → n ≤ 1000000 → (Lib.itoa n).length ≤ 21 := fun n h0 h1 => Lib.itoa_length_le n (by omega) (by omega)
  simp only [Bp.fits] at h
  split at h
  · rename_i hk
    rcases hk with rfl | rfl <;> simp [Bp.told, Bp.nopW, Bp.panicW]
  · split at h
    · rename_i hk
      subst hk
      simp only [decide_eq_true_eq] at h
      have := hd a (by omega) (by omega)
      simp [Bp.told, Bp.submitW]; omega
    · split at h
      · rename_i hk
        subst hk
        simp only [decide_eq_true_eq] at h
        have h1 := hd a (by omega) (by omega)
        have h2 := hd b (by omega) (by omega)
        simp [Bp.told, Bp.afterW]; omega
      · split at h
        · rename_i hk
          subst hk
          simp only [decide_eq_true_eq] at h
          have := hd a (by omega) (by omega)
          simp [Bp.told, Bp.cancelW]; omega
        · cases h
theorem join_len (c : UInt8) : ∀ (l : List (List UInt8)) (n : Nat), (∀ x ∈ l, x.length ≤ n) → (Lib.join l [c]).length ≤ (n + 1) * l.length
  | [], n, _ => by simp [Lib.join_nil]
  | [x], n, h => by rw [Lib.join_one]; have := h x (by simp); simp; omega
  | x :: y :: r, n, h => by
    have ih := join_len c (y :: r) n (fun z hz => h z (by simp [hz]))
    have hx := h x (by simp)
    rw [Bp.join_cons_cons, List.length_append, List.length_append]
    have e1 : (n + 1) * (x :: y :: r).length = (n + 1) * (y :: r).length + (n + 1) := by
      rw [List.length_cons, Nat.mul_add, Nat.mul_one]
    have e2 : ([c] : List UInt8).length = 1 := rfl
    omega

theorem take_map_succ {α β : Type} {l : List α} {f : α → β} {k : Nat} {x : α} (h : l[k]? = some x) : (l.take (k + 1)).map f = (l.take k).map f ++ [f x] := by
  rw [List.take_add_one, List.map_append, h]; rfl
/-- What body.Text comes to. -/
def TextPost (l : List Bp.O) (w : World) (e : Ending) (w' : World) : Prop :=
  Below w.heap.size w w' ∧ e = .returned (.tuple (if Bp.bodyOk l then #[.string (S (Bp.textOf l)), .int .i64 0] else #[.string ⟨#[]⟩, .int .i64 1]))

set_option maxHeartbeats 1600000 in
set_option maxRecDepth 100000 in
theorem text_any (l : List Bp.O) (A : Option Addr) (cap : Nat) (w : World) (G : Glob w) (hl : OpsAt w A l) (hlen : l.length ≤ 140737488355328) :
    Calls Tryd.prog 18 #[.slice A l.length cap] w (TextPost l w) := by
  have HG := Lib.hid G
  have HO := Lib.hid hl
  have HK := Lib.hid (ok_any l A cap w hl hlen)
  clear G hl
  cases hok : Bp.bodyOk l with
  | false =>
    rw [hok] at HK
    have HQ := Lib.hid hok
    clear hok
    go_enter Tryd.func18, Tryd.ntmps18
    go_wp2_with (go_at_call 34; go_must (refine HK.out.mono ?_; rintro e w1 ⟨rfl, hb⟩))
    go_ret2
    exact ⟨hb, by rw [HQ.out]; rfl⟩
  | true =>
    rw [hok] at HK
    have HQ := Lib.hid hok
    simp only [Bp.bodyOk, Bool.and_eq_true, decide_eq_true_eq, List.all_eq_true] at hok
    obtain ⟨h16, hall⟩ := hok
    have HF := Lib.hid hall
    clear hall
    by_cases h0 : l.length = 0
    · obtain rfl : l = [] := List.eq_nil_of_length_eq_zero h0
      clear h0
      go_enter Tryd.func18, Tryd.ntmps18
      go_wp2_with (go_at_call 34; go_must (refine HK.out.mono ?_; rintro e w1 ⟨rfl, hb⟩))
      go_ret2
      exact ⟨hb, by rw [HQ.out]; rfl⟩
    · have hne : ((l.length : Int) == 0) = false := beq_eq_false_iff_ne.2 (by omega)
      go_enter Tryd.func18, Tryd.ntmps18
      go_wp2_with (go_at_call 34; go_must (refine HK.out.mono ?_; rintro e w1 ⟨rfl, hb⟩))
      have HB := Lib.hid hb
      clear hb
      go_loopw [4, 15] (fun v i wr => ∃ k : Nat, i = .int .i64 k ∧ k ≤ l.length ∧ wr.ownsRow w.heap.size 9 1 v ((l.take k).map Bp.told).length (encs encS ((l.take k).map Bp.told)) ∧ Below w.heap.size w wr) (fun _ i _ => l.length - (intOf i).toNat)
      case atStart => exact ⟨0, rfl, by omega, own_nil _ _ _ _, HB.out⟩
      case round =>
        obtain ⟨k, rfl, hk, hown, hbw⟩ := hrel
        have HW := Lib.hid hbw
        have HN := Lib.hid hown
        clear hbw hown
        by_cases hlt : k < l.length
        · obtain ⟨b, o, rfl, hbl, hcells⟩ := HO.out (by omega)
          obtain ⟨x, hx⟩ : ∃ x, l[k]? = some x := ⟨_, List.getElem?_eq_getElem hlt⟩
          have HX := Lib.hid hx
          obtain ⟨c0, c1, c2⟩ := hcells k x hx
          replace c0 := cellk HW.out c0
          replace c1 := cellk HW.out c1
          replace c2 := cellk HW.out c2
          clear hcells hx
          go_wp2_with (first
            | (go_at_call 35; go_must (refine (told_any x (HF.out x (List.mem_of_getElem? HX.out)) _ (HG.out.below (bl1 HW.out _))).mono ?_; rintro e w2 ⟨he2, hb2⟩; simp only [strV] at he2; subst he2))
            | (at_builtin; go_must (refine print_append_of (w0 := w) encS w.heap.size rfl _ _ 44 9 (.string ⟨#[]⟩) 16 rfl rfl infoStr rfl (by decide) u4 ((l.take k).map Bp.told) (Bp.told x) rfl rfl rfl (pw_own_below HN.out (bl3 (bl1 (bl0 _) _) hb2)) (bl3 (bl1 HW.out _) hb2) (Nat.le_trans HW.out.size (Nat.le_trans (bl1 (bl0 wr) _).size hb2.size)) (by simp only [List.length_map, List.length_take]; omega) ?_; rintro v1 w3 hown3 hb3 hgr hat)))
          go_goals
          go_roundw
          exact ⟨k + 1, rfl, by omega, by rw [take_map_succ (HX.out)]; exact hown3, hb3⟩
          simp only [intOf]
          omega
        · obtain rfl : k = l.length := by omega
          have HN' := HN.out
          rw [List.take_length] at HN'
          obtain ⟨A', c', rfl, hc', hst⟩ := strs_of_own HN'
          have HS := Lib.hid hst
          clear hst HN'
          have hJ : (Lib.join (l.map Bp.told) [59]).length ≤ 61 * (l.map Bp.told).length := join_len 59 _ 60 fun y hy => by
            obtain ⟨z, hz, rfl⟩ := List.mem_map.1 hy
            exact told_len (HF.out z hz)
          have hm : (l.map Bp.told).length = l.length := List.length_map _
          have HJ : Hid (Calls Tryd.prog 36 #[.slice A' l.length c', .string ⟨#[59]⟩] wr fun e w' => e = .returned (.string (S (Lib.join (l.map Bp.told) [59]))) ∧ Below wr.heap.size wr w') :=
            Lib.hid (hm ▸ join_any A' c' (l.map Bp.told) [59] wr HS.out hc' (by omega) (by omega))
          clear hJ hm hc'
          go_wp2_with (go_at_call 36; go_must (refine HJ.out.mono ?_; rintro e w2 ⟨rfl, hb2⟩))
          go_ret2
          refine ⟨bl3 HW.out hb2, ?_⟩
          rw [HQ.out]
          simp [Bp.textOf, show (l = []) = False from by simp; rintro rfl; simp at h0]
end Go.Proofs.YtllabeiadeclkaaDoor
