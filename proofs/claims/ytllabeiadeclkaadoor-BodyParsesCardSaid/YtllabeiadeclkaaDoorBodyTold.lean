/-
  body.told: an op's text, by looks into the map of words.
-/
import Derived.Test.YtllabeiadeclkaaDoorBodyOk
import Derived.Lib.ItoaLen
set_option linter.unusedVariables false
set_option linter.unusedSimpArgs false
namespace Go.Proofs.YtllabeiadeclkaaDoor
open Go.RowKit Pm

theorem zeroStr (w : World) : (zeroValue 9).run Tryd.prog w = .ok (.string ⟨#[]⟩) w := by kernel_rfl

/-- The word of a kind and so many numbers. -/
def wordAt (k : Int) (n : Int) : Option (List UInt8) :=
  if k = 1 ∧ n = 0 then some Bp.nopW else if k = 2 ∧ n = 1 then some Bp.submitW else if k = 3 ∧ n = 2 then some Bp.afterW else if k = 4 ∧ n = 1 then some Bp.cancelW else if k = 5 ∧ n = 0 then some Bp.panicW else none

theorem words_at {l : List ((Int × Int) × Value)} (hl : IsLit l (litOf wordsDs)) (k n : Int) :
    (match findP (k, n) l 0 with | some (_, v) => Value.tuple #[v, .bool true] | none => .tuple #[.string ⟨#[]⟩, .bool false]) =
    match wordAt k n with | some wd => .tuple #[.string (S wd), .bool true] | none => .tuple #[.string ⟨#[]⟩, .bool false] := by
  by_cases h1 : k = 1 ∧ n = 0
  · obtain ⟨rfl, rfl⟩ := h1
    obtain ⟨j, hj⟩ := hl.some (x := (1, 0)) (v := .string (S Bp.nopW)) (by simp [litOf, wordsDs, Bp.nopW])
    rw [hj]; rfl
  by_cases h2 : k = 2 ∧ n = 1
  · obtain ⟨rfl, rfl⟩ := h2
    obtain ⟨j, hj⟩ := hl.some (x := (2, 1)) (v := .string (S Bp.submitW)) (by simp [litOf, wordsDs, Bp.submitW])
    rw [hj]; rfl
  by_cases h3 : k = 3 ∧ n = 2
  · obtain ⟨rfl, rfl⟩ := h3
    obtain ⟨j, hj⟩ := hl.some (x := (3, 2)) (v := .string (S Bp.afterW)) (by simp [litOf, wordsDs, Bp.afterW])
    rw [hj]; rfl
  by_cases h4 : k = 4 ∧ n = 1
  · obtain ⟨rfl, rfl⟩ := h4
    obtain ⟨j, hj⟩ := hl.some (x := (4, 1)) (v := .string (S Bp.cancelW)) (by simp [litOf, wordsDs, Bp.cancelW])
    rw [hj]; rfl
  by_cases h5 : k = 5 ∧ n = 0
  · obtain ⟨rfl, rfl⟩ := h5
    obtain ⟨j, hj⟩ := hl.some (x := (5, 0)) (v := .string (S Bp.panicW)) (by simp [litOf, wordsDs, Bp.panicW])
    rw [hj]; rfl
  rw [hl.none (x := (k, n)) (by simp [litOf, wordsDs]; omega)]
  simp only [wordAt, if_neg h1, if_neg h2, if_neg h3, if_neg h4, if_neg h5]

section
variable {P : Program} {ops : Array Oper} {rest : List Oper} {o : Oper} {a : Act} {Q : Exit → Act → World → Prop} {w : World}
/-- 'v, ok := m[x]', as a step of the walk. -/
theorem wpList_lookup_pk_ok {K I T E : TypeId} {z : Value} (h : PairKey P K I) (hT : P.underlying T = some (.map K E)) (hz : ∀ w, (zeroValue E).run P w = .ok z w) (hg : o.guard = none) (mx kx : Operand) (hop : o.op = .lookup T mx kx true)
    (b c : Nat) (l : List ((Int × Int) × Value)) (hm : a.eval mx = .map (some b)) (x y : Int) (hx : a.eval kx = .agg #[.int .i64 x, .int .i64 y]) (hb : w.heap[b]? = some (.map (ents l) c)) (v : Value)
    (hv : (match findP (x, y) l 0 with | some (_, v) => Value.tuple #[v, .bool true] | none => .tuple #[z, .bool false]) = v) (hK : wpList P ops Q rest (a.put o.dst v) w) : wpList P ops Q (o :: rest) a w := by
  refine wpList_plain hg fun K hK' => ?_
  unfold Oper.wp execOp
  have hrun := run_lookup_pk h w hT hz b c l hb (x, y) true
  simp only [hop, hm, hx, Sem.run_bind]
  rw [show (Value.agg #[.int .i64 x, .int .i64 y]) = pk (x, y) from rfl, hrun]
  simp only [Result.andThen_ok, Sem.run_pure, Oper.upon_value]
  refine hK' _ _ ?_
  subst hv
  cases hf : findP (x, y) l 0 with
  | none => rw [hf] at hK; exact hK
  | some r => rw [hf] at hK; exact hK
end

theorem size_S (l : List UInt8) (n : Nat) (h : l.length ≤ n) : (S l).size ≤ n := by rw [S_size]; exact h
theorem word_size (l : List UInt8) (h : l.length ≤ 6) : (S l).size ≤ 6 := by rw [S_size]; exact h
theorem S_app (a b : List UInt8) : S a ++ S b = S (a ++ b) := by
  have h : (S a ++ S b).data = (S (a ++ b)).data := by
    apply Array.toList_inj.1
    rw [ByteArray.data_append]; simp
  exact ByteArray.ext h
theorem size_32 (l : List UInt8) (n : Nat) (h : l.length ≤ n) : ((⟨#[32]⟩ : ByteArray) ++ S l).size ≤ n + 1 := by
  rw [show ((⟨#[32]⟩ : ByteArray)) = S [32] from rfl, S_app, S_size]; simp; omega
theorem size_w32 (w l : List UInt8) (hw : w.length ≤ 6) (h : l.length ≤ 21) : (S w ++ ((⟨#[32]⟩ : ByteArray) ++ S l)).size ≤ 28 := by
  rw [show ((⟨#[32]⟩ : ByteArray)) = S [32] from rfl, S_app, S_app, S_size]; simp; omega
def strV (l : List UInt8) : Ending := .returned (.string (S l))

set_option maxRecDepth 100000 in
set_option maxHeartbeats 1600000 in
theorem told_1 (a b : Int) (w : World) (G : Glob w) (h0 : -9223372036854775808 ≤ a) (h1 : a ≤ 9223372036854775807) (h2 : -9223372036854775808 ≤ b) (h3 : b ≤ 9223372036854775807) :
    Calls Tryd.prog 35 #[.agg #[.int .i64 1, .int .i64 a, .int .i64 b]] w fun e w' => e = strV (Bp.nopW) ∧ Below w.heap.size w w' := by
  have HG := Lib.hid G
  clear G
  have ha := Lib.itoa_length_le a h0 h1
  have hb' := Lib.itoa_length_le b h2 h3
  have hw := word_size Bp.nopW (by decide)
  have hsa := size_S (Lib.itoa a) 21 ha
  have hsb := size_S (Lib.itoa b) 21 hb'
  have hsa2 := size_32 (Lib.itoa a) 21 ha
  have hsb2 := size_32 (Lib.itoa b) 21 hb'
  have hsa3 := size_w32 Bp.nopW (Lib.itoa a) (by decide) ha
  go_enter Tryd.func35, Tryd.ntmps35
  go_wp2_with (go_at_call 33; refine (words_any _).mono ?_; rintro e w9 ⟨ws, hws, rfl, rfl⟩)
  have HW := Lib.hid hws
  clear hws
  refine wp_loop_rounds 1 ?_
  rw [rounds_succ]
  go_wp2_with (at_lookup; go_must (refine wpList_lookup_pk_ok pairKey74 Tryd.underlying72 zeroStr rfl (.tmp 14) (.tmp 18) rfl (w.heap.size + 1) ws.length ws rfl 1 0 rfl (drew_new _ _ _ (by simp)) _ (words_at HW.out 1 0) ?_; simp only [wordAt]))
  refine wp_loop_rounds 1 ?_
  rw [rounds_succ]
  go_wp2
  go_ret
  go_light
  exact ⟨rfl, by repeat (first | exact bl0 _ | refine bl2 ?_ | refine bl1 ?_ _)⟩

set_option maxRecDepth 100000 in
set_option maxHeartbeats 1600000 in
theorem told_2 (a b : Int) (w : World) (G : Glob w) (h0 : -9223372036854775808 ≤ a) (h1 : a ≤ 9223372036854775807) (h2 : -9223372036854775808 ≤ b) (h3 : b ≤ 9223372036854775807) :
    Calls Tryd.prog 35 #[.agg #[.int .i64 2, .int .i64 a, .int .i64 b]] w fun e w' => e = strV (Bp.submitW ++ 32 :: Lib.itoa a) ∧ Below w.heap.size w w' := by
  have HG := Lib.hid G
  clear G
  have ha := Lib.itoa_length_le a h0 h1
  have hb' := Lib.itoa_length_le b h2 h3
  have hw := word_size Bp.submitW (by decide)
  have hsa := size_S (Lib.itoa a) 21 ha
  have hsb := size_S (Lib.itoa b) 21 hb'
  have hsa2 := size_32 (Lib.itoa a) 21 ha
  have hsb2 := size_32 (Lib.itoa b) 21 hb'
  have hsa3 := size_w32 Bp.submitW (Lib.itoa a) (by decide) ha
  go_enter Tryd.func35, Tryd.ntmps35
  go_wp2_with (go_at_call 33; refine (words_any _).mono ?_; rintro e w9 ⟨ws, hws, rfl, rfl⟩)
  have HW := Lib.hid hws
  clear hws
  refine wp_loop_rounds 2 ?_
  rw [rounds_succ]
  go_wp2_with (at_lookup; go_must (refine wpList_lookup_pk_ok pairKey74 Tryd.underlying72 zeroStr rfl (.tmp 14) (.tmp 18) rfl (w.heap.size + 1) ws.length ws rfl 2 0 rfl (drew_new _ _ _ (by simp)) _ (words_at HW.out 2 0) ?_; simp only [wordAt]))
  rw [rounds_succ]
  go_wp2_with (at_lookup; go_must (refine wpList_lookup_pk_ok pairKey74 Tryd.underlying72 zeroStr rfl (.tmp 14) (.tmp 18) rfl (w.heap.size + 1) ws.length ws rfl 2 1 rfl (drew_new _ _ _ (by simp)) _ (words_at HW.out 2 1) ?_; simp only [wordAt]))
  refine wp_loop_rounds 2 ?_
  rw [rounds_succ]
  go_wp2_with (go_at_call 45; go_must (refine (itoa_any a _ (HG.out.below (by repeat (first | exact bl0 _ | refine bl2 ?_ | refine bl1 ?_ _))) (by omega) (by omega)).mono ?_; rintro e w1 ⟨rfl, hb⟩; obtain ⟨hc, hf⟩ := bcell hb))
  rw [rounds_succ]
  go_wp2
  go_ret
  go_light
  exact ⟨congrArg (fun x => Ending.returned (.string x)) (by rw [show ((⟨#[32]⟩ : ByteArray)) = S [32] from rfl, S_app, S_app]; rfl), bl3 (by repeat (first | exact bl0 _ | refine bl2 ?_ | refine bl1 ?_ _)) hb⟩

set_option maxRecDepth 100000 in
set_option maxHeartbeats 1600000 in
theorem told_3 (a b : Int) (w : World) (G : Glob w) (h0 : -9223372036854775808 ≤ a) (h1 : a ≤ 9223372036854775807) (h2 : -9223372036854775808 ≤ b) (h3 : b ≤ 9223372036854775807) :
    Calls Tryd.prog 35 #[.agg #[.int .i64 3, .int .i64 a, .int .i64 b]] w fun e w' => e = strV (Bp.afterW ++ 32 :: (Lib.itoa a ++ 32 :: Lib.itoa b)) ∧ Below w.heap.size w w' := by
  have HG := Lib.hid G
  clear G
  have ha := Lib.itoa_length_le a h0 h1
  have hb' := Lib.itoa_length_le b h2 h3
  have hw := word_size Bp.afterW (by decide)
  have hsa := size_S (Lib.itoa a) 21 ha
  have hsb := size_S (Lib.itoa b) 21 hb'
  have hsa2 := size_32 (Lib.itoa a) 21 ha
  have hsb2 := size_32 (Lib.itoa b) 21 hb'
  have hsa3 := size_w32 Bp.afterW (Lib.itoa a) (by decide) ha
  go_enter Tryd.func35, Tryd.ntmps35
  go_wp2_with (go_at_call 33; refine (words_any _).mono ?_; rintro e w9 ⟨ws, hws, rfl, rfl⟩)
  have HW := Lib.hid hws
  clear hws
  refine wp_loop_rounds 3 ?_
  rw [rounds_succ]
  go_wp2_with (at_lookup; go_must (refine wpList_lookup_pk_ok pairKey74 Tryd.underlying72 zeroStr rfl (.tmp 14) (.tmp 18) rfl (w.heap.size + 1) ws.length ws rfl 3 0 rfl (drew_new _ _ _ (by simp)) _ (words_at HW.out 3 0) ?_; simp only [wordAt]))
  rw [rounds_succ]
  go_wp2_with (at_lookup; go_must (refine wpList_lookup_pk_ok pairKey74 Tryd.underlying72 zeroStr rfl (.tmp 14) (.tmp 18) rfl (w.heap.size + 1) ws.length ws rfl 3 1 rfl (drew_new _ _ _ (by simp)) _ (words_at HW.out 3 1) ?_; simp only [wordAt]))
  rw [rounds_succ]
  go_wp2_with (at_lookup; go_must (refine wpList_lookup_pk_ok pairKey74 Tryd.underlying72 zeroStr rfl (.tmp 14) (.tmp 18) rfl (w.heap.size + 1) ws.length ws rfl 3 2 rfl (drew_new _ _ _ (by simp)) _ (words_at HW.out 3 2) ?_; simp only [wordAt]))
  refine wp_loop_rounds 3 ?_
  rw [rounds_succ]
  go_wp2_with (go_at_call 45; go_must (refine (itoa_any a _ (HG.out.below (by repeat (first | exact bl0 _ | refine bl2 ?_ | refine bl1 ?_ _))) (by omega) (by omega)).mono ?_; rintro e w1 ⟨rfl, hb⟩; obtain ⟨hc, hf⟩ := bcell hb))
  rw [rounds_succ]
  go_wp2_with (go_at_call 45; go_must (refine (itoa_any b _ (HG.out.below (bl3 (by repeat (first | exact bl0 _ | refine bl2 ?_ | refine bl1 ?_ _)) hb)) (by omega) (by omega)).mono ?_; rintro e w2 ⟨rfl, hb2⟩))
  rw [rounds_succ]
  go_wp2
  go_ret
  go_light
  exact ⟨congrArg (fun x => Ending.returned (.string x)) (by rw [show ((⟨#[32]⟩ : ByteArray)) = S [32] from rfl, S_app, S_app, S_app, S_app]; simp), bl3 (bl3 (by repeat (first | exact bl0 _ | refine bl2 ?_ | refine bl1 ?_ _)) hb) hb2⟩

set_option maxRecDepth 100000 in
set_option maxHeartbeats 1600000 in
theorem told_4 (a b : Int) (w : World) (G : Glob w) (h0 : -9223372036854775808 ≤ a) (h1 : a ≤ 9223372036854775807) (h2 : -9223372036854775808 ≤ b) (h3 : b ≤ 9223372036854775807) :
    Calls Tryd.prog 35 #[.agg #[.int .i64 4, .int .i64 a, .int .i64 b]] w fun e w' => e = strV (Bp.cancelW ++ 32 :: Lib.itoa a) ∧ Below w.heap.size w w' := by
  have HG := Lib.hid G
  clear G
  have ha := Lib.itoa_length_le a h0 h1
  have hb' := Lib.itoa_length_le b h2 h3
  have hw := word_size Bp.cancelW (by decide)
  have hsa := size_S (Lib.itoa a) 21 ha
  have hsb := size_S (Lib.itoa b) 21 hb'
  have hsa2 := size_32 (Lib.itoa a) 21 ha
  have hsb2 := size_32 (Lib.itoa b) 21 hb'
  have hsa3 := size_w32 Bp.cancelW (Lib.itoa a) (by decide) ha
  go_enter Tryd.func35, Tryd.ntmps35
  go_wp2_with (go_at_call 33; refine (words_any _).mono ?_; rintro e w9 ⟨ws, hws, rfl, rfl⟩)
  have HW := Lib.hid hws
  clear hws
  refine wp_loop_rounds 2 ?_
  rw [rounds_succ]
  go_wp2_with (at_lookup; go_must (refine wpList_lookup_pk_ok pairKey74 Tryd.underlying72 zeroStr rfl (.tmp 14) (.tmp 18) rfl (w.heap.size + 1) ws.length ws rfl 4 0 rfl (drew_new _ _ _ (by simp)) _ (words_at HW.out 4 0) ?_; simp only [wordAt]))
  rw [rounds_succ]
  go_wp2_with (at_lookup; go_must (refine wpList_lookup_pk_ok pairKey74 Tryd.underlying72 zeroStr rfl (.tmp 14) (.tmp 18) rfl (w.heap.size + 1) ws.length ws rfl 4 1 rfl (drew_new _ _ _ (by simp)) _ (words_at HW.out 4 1) ?_; simp only [wordAt]))
  refine wp_loop_rounds 2 ?_
  rw [rounds_succ]
  go_wp2_with (go_at_call 45; go_must (refine (itoa_any a _ (HG.out.below (by repeat (first | exact bl0 _ | refine bl2 ?_ | refine bl1 ?_ _))) (by omega) (by omega)).mono ?_; rintro e w1 ⟨rfl, hb⟩; obtain ⟨hc, hf⟩ := bcell hb))
  rw [rounds_succ]
  go_wp2
  go_ret
  go_light
  exact ⟨congrArg (fun x => Ending.returned (.string x)) (by rw [show ((⟨#[32]⟩ : ByteArray)) = S [32] from rfl, S_app, S_app]; rfl), bl3 (by repeat (first | exact bl0 _ | refine bl2 ?_ | refine bl1 ?_ _)) hb⟩

set_option maxRecDepth 100000 in
set_option maxHeartbeats 1600000 in
theorem told_5 (a b : Int) (w : World) (G : Glob w) (h0 : -9223372036854775808 ≤ a) (h1 : a ≤ 9223372036854775807) (h2 : -9223372036854775808 ≤ b) (h3 : b ≤ 9223372036854775807) :
    Calls Tryd.prog 35 #[.agg #[.int .i64 5, .int .i64 a, .int .i64 b]] w fun e w' => e = strV (Bp.panicW) ∧ Below w.heap.size w w' := by
  have HG := Lib.hid G
  clear G
  have ha := Lib.itoa_length_le a h0 h1
  have hb' := Lib.itoa_length_le b h2 h3
  have hw := word_size Bp.panicW (by decide)
  have hsa := size_S (Lib.itoa a) 21 ha
  have hsb := size_S (Lib.itoa b) 21 hb'
  have hsa2 := size_32 (Lib.itoa a) 21 ha
  have hsb2 := size_32 (Lib.itoa b) 21 hb'
  have hsa3 := size_w32 Bp.panicW (Lib.itoa a) (by decide) ha
  go_enter Tryd.func35, Tryd.ntmps35
  go_wp2_with (go_at_call 33; refine (words_any _).mono ?_; rintro e w9 ⟨ws, hws, rfl, rfl⟩)
  have HW := Lib.hid hws
  clear hws
  refine wp_loop_rounds 1 ?_
  rw [rounds_succ]
  go_wp2_with (at_lookup; go_must (refine wpList_lookup_pk_ok pairKey74 Tryd.underlying72 zeroStr rfl (.tmp 14) (.tmp 18) rfl (w.heap.size + 1) ws.length ws rfl 5 0 rfl (drew_new _ _ _ (by simp)) _ (words_at HW.out 5 0) ?_; simp only [wordAt]))
  refine wp_loop_rounds 1 ?_
  rw [rounds_succ]
  go_wp2
  go_ret
  go_light
  exact ⟨rfl, by repeat (first | exact bl0 _ | refine bl2 ?_ | refine bl1 ?_ _)⟩

/-- body.told, of an op that may be. -/
theorem told_any (x : Bp.O) (hf : Bp.fits x = true) (w : World) (G : Glob w) : Calls Tryd.prog 35 #[opV x] w fun e w' => e = strV (Bp.told x) ∧ Below w.heap.size w w' := by
  obtain ⟨k, a, b⟩ := x
  have hq := hf
  simp only [Bp.fits] at hf
  split at hf
  · rename_i hk
    simp only [decide_eq_true_eq] at hf
    rcases hk with rfl | rfl
    · exact told_1 a b w G (by omega) (by omega) (by omega) (by omega)
    · exact told_5 a b w G (by omega) (by omega) (by omega) (by omega)
  · split at hf
    · rename_i hk
      subst hk
      simp only [decide_eq_true_eq] at hf
      exact told_2 a b w G (by omega) (by omega) (by omega) (by omega)
    · split at hf
      · rename_i hk
        subst hk
        simp only [decide_eq_true_eq] at hf
        exact told_3 a b w G (by omega) (by omega) (by omega) (by omega)
      · split at hf
        · rename_i hk
          subst hk
          simp only [decide_eq_true_eq] at hf
          exact told_4 a b w G (by omega) (by omega) (by omega) (by omega)
        · cases hf
end Go.Proofs.YtllabeiadeclkaaDoor
