/-
  vergerlaw16.BodyParses: the law's walk.
-/
import Derived.Test.YtllabeiadeclkaaDoorBodyRef
import Derived.Test.YtllabeiadeclkaaDoorBodyParseMain
set_option linter.unusedVariables false
set_option linter.unusedSimpArgs false
namespace Go.Proofs.YtllabeiadeclkaaDoor
open Go.RowKit Go.Proofs.YtllabeiadeclkaaDoorW.PrintWords Go.Proofs.YtllabeiadeclkaaDoor.PBodyParses

theorem ops_C {w : World} {A : Option Addr} {l : List Bp.O} (h : OpsAt w A l) (hl : l.length ≤ 9223372036854775807) : Kd.C k50 w A (l.map toS).length (l.map toS) := by
  refine ⟨rfl, by simpa using hl, fun hp => ?_⟩
  obtain ⟨b, o, rfl, hb, hc⟩ := h (by simpa using hp)
  refine ⟨_, rfl, fun j p hj => ?_⟩
  obtain ⟨x, hx, rfl⟩ : ∃ x, l[j]? = some x ∧ toS x = p := by simpa using hj
  obtain ⟨c0, c1, c2⟩ := hc j x hx
  refine ⟨_, rfl, k50_mk w (toS x), fun i u hi => ?_⟩
  have e : ∀ i, (⟨b, o, none⟩ : Addr).add (j * 3 + i) = ⟨b, o + j * 3 + i, none⟩ := fun i => by unfold Addr.add; simp [Nat.add_assoc]
  rcases i with _ | _ | _ | i
  · obtain rfl : _ = u := by simpa using hi
    have := e 0
    simp only [Nat.add_zero] at this
    show w.cell? (Addr.add _ (j * 3 + 0)) = _
    rw [Nat.add_zero, this]; exact c0
  · obtain rfl : _ = u := by simpa using hi
    show w.cell? (Addr.add _ (j * 3 + 1)) = _
    rw [e]; exact c1
  · obtain rfl : _ = u := by simpa using hi
    show w.cell? (Addr.add _ (j * 3 + 2)) = _
    rw [e]; exact c2
  · simp at hi

theorem same_ev (l : List S50) (hl : l.length ≤ 1000) : ∀ (n i : Nat), i + n = l.length → Ev (fun k => vergerref12_SameBody.l0 k l l (i : Int)) true
  | 0, i, h => by
    refine Ev.step (f := fun _ => some true) (fun k => ?_) (Ev.now _)
    rw [vergerref12_SameBody.l0, if_neg (by omega)]
  | n + 1, i, h => by
    refine Ev.step (f := fun k => vergerref12_SameBody.l0 k l l ((i + 1 : Nat) : Int)) (fun k => ?_) (same_ev l hl n (i + 1) (by omega))
    rw [vergerref12_SameBody.l0, if_pos (by omega), if_pos (by omega), if_pos (by omega), if_neg (by simp), w64 (by omega) (by omega)]
    rfl
theorem same_ref (l : List S50) (hl : l.length ≤ 1000) : Ev (fun k => vergerref12_SameBody.f k l l) true := by
  have := same_ev l hl l.length 0 (by omega)
  refine Ev.congr (fun k => ?_) this
  simp only [vergerref12_SameBody.f]
  rw [if_pos trivial]; rfl

theorem parse_len (s : List UInt8) : (Bp.parse s).1.length ≤ 16 := by
  unfold Bp.parse
  split
  · simp
  · split
    · simp
    · split
      · simp
      · split
        · rename_i h
          have := h.1
          simp only [Bp.bodyOk, Bool.and_eq_true, decide_eq_true_eq] at this
          exact this.1
        · simp

def awakeText : List UInt8 := [115, 117, 98, 109, 105, 116, 32, 51, 59, 112, 97, 110, 105, 99]
theorem awake_parse : Bp.parse awakeText = ([⟨2, 3, 0⟩, ⟨5, 0, 0⟩], 0) := by rw [Bp.parse_eq]; decide +kernel
theorem awake_text : Bp.textOf [⟨2, 3, 0⟩, ⟨5, 0, 0⟩] = awakeText := by
  have : Lib.itoa 3 = [51] := by
    have h := Bp.itoa_nat 3
    have h2 := Bp.dec_small (n := 3) (by omega)
    exact h.trans h2
  simp [Bp.textOf, Bp.told, this, awakeText, Bp.submitW, Bp.panicW, Lib.join_cons, Lib.joinTail]

def awakeOps : List Bp.O := [⟨2, 3, 0⟩, ⟨5, 0, 0⟩]

theorem awake_read (w : World) (G : Glob w) : Calls Tryd.prog 6 #[.string ⟨#[115, 117, 98, 109, 105, 116, 32, 51, 59, 112, 97, 110, 105, 99]⟩] w fun e w' =>
    Below w.heap.size w w' ∧ ∃ b o c, e = .returned (.tuple #[.slice (some ⟨b, o, none⟩) 2 c, .int .i64 0]) ∧ OpsAt w' (some ⟨b, o, none⟩) awakeOps ∧ w'.cell? ⟨b, o + 1, none⟩ = some (.int .i64 3) := by
  refine (parse_any awakeText w G).mono ?_
  rintro e w' ⟨hb, A, c, he, hc, ho, _⟩
  rw [awake_parse] at he hc ho
  obtain ⟨b, o, rfl, hlt, hcell⟩ := ho (by simp)
  have := hcell 0 _ rfl
  exact ⟨hb, b, o, c, he, ho, by simpa using this.2.1⟩

set_option maxRecDepth 100000 in
set_option maxHeartbeats 1600000 in
theorem awake_any (w : World) (G : Glob w) : Calls Tryd.prog 9 #[] w fun e w' => e = .returned (.bool true) ∧ Below w.heap.size w w' := by
  have HP := Lib.hid (awake_read w G)
  have HG := Lib.hid G
  clear G
  have HT : Hid (∀ (b o c : Nat) (W : World), Glob W → OpsAt W (some ⟨b, o, none⟩) awakeOps → Calls Tryd.prog 18 #[.slice (some ⟨b, o, none⟩) 2 c] W fun e w' => Below W.heap.size W w' ∧ e = .returned (.tuple #[.string ⟨#[115, 117, 98, 109, 105, 116, 32, 51, 59, 112, 97, 110, 105, 99]⟩, .int .i64 0])) := Lib.hid fun b o c W hG ho => by
    have := text_any awakeOps (some ⟨b, o, none⟩) c W hG ho (by decide)
    unfold TextPost at this
    rw [if_pos (by decide), show Bp.textOf awakeOps = awakeText from awake_text] at this
    exact this
  have HS : Hid (∀ (b o c : Nat) (W : World), OpsAt W (some ⟨b, o, none⟩) awakeOps → Calls Tryd.prog 22 #[.slice (some ⟨b, o, none⟩) 2 c] W fun e w' => e = .returned (.int .i64 2) ∧ Below W.heap.size W w') := Lib.hid fun b o c W ho => by
    have := steps_any awakeOps (some ⟨b, o, none⟩) c W ho (by decide)
    rw [show ((stepsOf awakeOps : Nat) : Int) = 2 by decide] at this
    exact this
  go_enter Tryd.func9, Tryd.ntmps9
  go_wp2_with (first
    | (go_at_call 6; go_must (refine HP.out.mono ?_; rintro e w1 ⟨hb1, b, o, c, rfl, hops, hcell⟩; have HB1 := Lib.hid hb1; have HO := Lib.hid hops; have HC := Lib.hid hcell; clear hb1 hops hcell))
    | (go_at_call 18; go_must (refine (HT.out b o c _ (HG.out.below HB1.out) HO.out).mono ?_; rintro e w2 ⟨hb2, rfl⟩; have HB2 := Lib.hid (bl3 HB1.out hb2); have HO2 := Lib.hid (HO.out.below hb2); have hc2 := cellk hb2 HC.out; clear hb2))
    | (go_at_call 22; go_must (refine (HS.out b o c _ HO2.out).mono ?_; rintro e w3 ⟨rfl, hb3⟩; have HB3 := Lib.hid (bl3 HB2.out hb3); clear hb3)))
  go_ret
  exact ⟨rfl, HB3.out⟩

set_option maxRecDepth 100000 in
set_option maxHeartbeats 1600000 in
/-- The law. -/
theorem law_any (s : List UInt8) (w : World) (G : Glob w) : Calls Tryd.prog 3 #[.string (S s)] w fun e w' => e = .returned (.bool true) ∧ Below w.heap.size w w' := by
  have HP := Lib.hid (parse_any s w G)
  have HG := Lib.hid G
  obtain ⟨k, hk⟩ := (bodyOf_ref s).rounds
  have hl := parse_len s
  have he := Bp.parse_eq s
  rw [← he] at hk
  have HB : Hid (∀ W, Calls Tryd.prog 7 #[.string (S s)] W fun e w' => (∃ A c, e = .returned (.tuple #[.slice A (Bp.parse s).1.length c, .int .i64 (Bp.parse s).2]) ∧ (Bp.parse s).1.length ≤ c ∧ Kd.C k50 w' A ((Bp.parse s).1.map toS).length ((Bp.parse s).1.map toS)) ∧ Below W.heap.size W w') := Lib.hid fun W => by
    refine (vergerref12_BodyOf.calls k (S s) _ _ W hk).mono ?_
    rintro e w' ⟨v, rfl, hR, hb⟩
    obtain ⟨A, c, rfl, hc, hC⟩ := Kd.R_reads hR
    exact ⟨⟨A, c, by rw [List.length_map], by simpa using hc, hC⟩, hb⟩
  obtain ⟨k2, hk2⟩ := (same_ref ((Bp.parse s).1.map toS) (by simp; omega)).rounds
  have HS : Hid (∀ A1 c1 A2 c2 W, (Bp.parse s).1.length ≤ c1 → (Bp.parse s).1.length ≤ c2 → Kd.C k50 W A1 ((Bp.parse s).1.map toS).length ((Bp.parse s).1.map toS) → Kd.C k50 W A2 ((Bp.parse s).1.map toS).length ((Bp.parse s).1.map toS) →
      Calls Tryd.prog 8 #[.slice A1 (Bp.parse s).1.length c1, .slice A2 (Bp.parse s).1.length c2] W fun e w' => e = .returned (.bool true) ∧ Drawn0 W w') := Lib.hid fun A1 c1 A2 c2 W h1 h2 h3 h4 => by
    have := vergerref12_SameBody.calls k2 A1 c1 _ A2 c2 _ true W h3 (by simpa using h1) h4 (by simpa using h2) hk2
    simpa using this
  have HPa : Hid (Calls Tryd.prog 6 #[.string (S s)] w fun e w' => Below w.heap.size w w' ∧ ∃ A c, e = .returned (.tuple #[.slice A (Bp.parse s).1.length c, .int .i64 (Bp.parse s).2]) ∧ (Bp.parse s).1.length ≤ c ∧ Kd.C k50 w' A ((Bp.parse s).1.map toS).length ((Bp.parse s).1.map toS)) := Lib.hid <| HP.out.mono fun e w' h => by
    obtain ⟨hb, A, c, he, hc, ho, _⟩ := h
    exact ⟨hb, A, c, he, hc, ops_C ho (by omega)⟩
  clear hk hk2 he G HP
  generalize (Bp.parse s).2 = er at *
  generalize hn : (Bp.parse s).1.length = n at *
  generalize (Bp.parse s).1.map toS = ll at *
  clear hn
  go_enter Tryd.func3, Tryd.ntmps3
  go_wp2_with (first
    | (go_at_call 6; go_must (refine HPa.out.mono ?_; rintro e w1 ⟨hb1, A1, c1, rfl, hc1, hC1⟩; have HB1 := Lib.hid hb1; have HC1 := Lib.hid hC1; clear hb1 hC1))
    | (go_at_call 7; go_must (refine (HB.out _).mono ?_; rintro e w2 ⟨⟨A2, c2, rfl, hc2, hC2⟩, hb2⟩; have HB2 := Lib.hid (bl3 HB1.out hb2); have HC1' := Lib.hid (Kd.C_below HC1.out hb2); have HC2 := Lib.hid hC2; clear hb2 hC2))
    | (go_at_call 8; go_must (refine (HS.out A1 c1 A2 c2 _ hc1 hc2 HC1'.out HC2.out).mono ?_; rintro e w3 ⟨rfl, hb3⟩; have HB3 := Lib.hid (bl3 HB2.out hb3.below); clear hb3))
    | (go_at_call 9; go_must (refine (awake_any _ (HG.out.below HB3.out)).mono ?_; rintro e w4 ⟨rfl, hb4⟩; have HB4 := Lib.hid (bl3 HB3.out hb4); clear hb4)))
  go_ret
  exact ⟨rfl, HB4.out⟩
end Go.Proofs.YtllabeiadeclkaaDoor
