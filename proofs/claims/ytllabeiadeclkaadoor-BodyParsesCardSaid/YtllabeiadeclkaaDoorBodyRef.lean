/-
  The document's BodyOf: what the printed function comes to.
-/
import Derived.Test.YtllabeiadeclkaaDoorRef7
import Derived.Test.YtllabeiadeclkaaDoorBodyPure
import Derived.Test.YtllabeiadeclkaaDoorBodyTold
import Derived.Lib.ItoaNum
set_option linter.unusedVariables false
set_option linter.unusedSimpArgs false
namespace Go.Proofs.YtllabeiadeclkaaDoor
open Go.RowKit Go.Proofs.YtllabeiadeclkaaDoorW.PrintWords Go.Proofs.YtllabeiadeclkaaDoor.PBodyParses

theorem S_toList (l : List UInt8) : (S l).toList = l := by rw [ByteArray.toList_eq]
theorem bt_S {l : List UInt8} {n : Nat} {b : UInt8} (h : l[n]? = some b) : bt (S l) (n : Int) = b.toNat := by
  obtain ⟨hlt, he⟩ := List.getElem?_eq_some_iff.1 h
  unfold bt
  rw [dif_pos (by rw [S_size]; simpa using hlt)]
  simp [S, he, ByteArray.getElem_eq_getElem_data]
theorem rdOf_S {l : List (List UInt8)} {n : Nat} {x : List UInt8} (h : l[n]? = some x) : rdOf ByteArray.empty (l.map S) (n : Int) = S x := by
  unfold rdOf
  simp [List.getD, h]
theorem w64 {n : Int} (h0 : -1000000000000 ≤ n) (h1 : n ≤ 1000000000000) : wrap64 n = n := by unfold wrap64; omega

/-- Bytes ahead of the first piece. -/
def onto (cur : List UInt8) : List (List UInt8) → List (List UInt8)
  | [] => [cur]
  | p :: ps => (cur ++ p) :: ps
theorem onto_nil (c : UInt8) (s : List UInt8) : onto [] (Bp.pieces c s) = Bp.pieces c s := by
  have := Bp.pieces_ne c s
  cases h : Bp.pieces c s with
  | nil => exact absurd h this
  | cons p ps => simp [onto]
theorem onto_hit (cur : List UInt8) (c : UInt8) (r : List UInt8) : onto cur (Bp.pieces c (c :: r)) = cur :: Bp.pieces c r := by simp [Bp.pieces, onto]
theorem onto_miss (cur : List UInt8) {c b : UInt8} (hb : b ≠ c) (r : List UInt8) : onto cur (Bp.pieces c (b :: r)) = onto (cur ++ [b]) (Bp.pieces c r) := by
  have := Bp.pieces_ne c r
  simp only [Bp.pieces, if_neg hb]
  cases h : Bp.pieces c r with
  | nil => exact absurd h this
  | cons p ps => simp [onto]

theorem S_byte {l : List UInt8} {n : Nat} {b : UInt8} (h : l[n]? = some b) (cur : List UInt8) : S cur ++ (S l).extract n (n + 1) = S (cur ++ [b]) := by
  obtain ⟨hlt, he⟩ := List.getElem?_eq_some_iff.1 h
  have : (S l).extract n (n + 1) = S [b] := by
    apply ByteArray.ext
    apply Array.ext
    · simp [S]; omega
    · intro i h1 h2
      simp [S] at h1 h2 ⊢
      obtain rfl : i = 0 := by omega
      simpa using he
  rw [this, S_app]

theorem words_ev (c : UInt8) (l : List UInt8) (hl : l.length ≤ 1000) : ∀ (rest pre : List UInt8) (out : List ByteArray) (cur : List UInt8), l = pre ++ rest → out.length ≤ pre.length → cur.length ≤ pre.length →
    Ev (fun k => vergerref12_Words.l0 k (S l) (c.toNat : Int) out (S cur) (pre.length : Int)) (out ++ (onto cur (Bp.pieces c rest)).map S) := by
  intro rest
  induction rest with
  | nil =>
    intro pre out cur h ho hc
    have hp : pre.length = l.length := by rw [h]; simp
    refine Ev.step (f := fun _ => some (out ++ [S cur])) (fun k => ?_) ?_
    · simp only [vergerref12_Words.l0]
      rw [if_neg (by rw [S_size]; omega), if_pos (by omega)]
    · simpa [Bp.pieces, onto] using Ev.now (out ++ [S cur])
  | cons b r ih =>
    intro pre out cur h ho hc
    have hb : l[pre.length]? = some b := by rw [h]; simp
    have hlen : pre.length + 1 + r.length = l.length := by rw [h]; simp; omega
    have h' : l = (pre ++ [b]) ++ r := by rw [h]; simp
    have hbt := bt_S hb
    have hw : wrap64 ((pre.length : Int) + 1) = ((pre ++ [b]).length : Int) := by rw [w64 (by omega) (by omega)]; simp
    by_cases hbc : b = c
    · subst hbc
      have ih' := ih (pre ++ [b]) (out ++ [S cur]) [] h' (by simp; omega) (by simp)
      rw [onto_hit]
      refine Ev.step (f := fun k => vergerref12_Words.l0 k (S l) (b.toNat : Int) (out ++ [S cur]) (S []) ((pre ++ [b]).length : Int)) (fun k => ?_) ?_
      · simp only [vergerref12_Words.l0]
        rw [if_pos (by rw [S_size]; omega), if_pos (by omega), if_pos hbt, if_pos (by omega), hw]
      · rw [onto_nil] at ih'
        simpa using ih'
    · have ih' := ih (pre ++ [b]) out (cur ++ [b]) h' (by simp; omega) (by simp; omega)
      rw [onto_miss cur hbc]
      have hne : ¬ bt (S l) (pre.length : Int) = (c.toNat : Int) := by
        rw [hbt]; intro e; exact hbc (UInt8.toNat_inj.1 (by omega))
      have hex := S_byte hb cur
      refine Ev.step (f := fun k => vergerref12_Words.l0 k (S l) (c.toNat : Int) out (S (cur ++ [b])) ((pre ++ [b]).length : Int)) (fun k => ?_) ih'
      simp only [vergerref12_Words.l0]
      rw [if_pos (by rw [S_size]; omega), if_pos (by omega), if_neg hne, hw, if_pos (by simp; omega), if_pos (by rw [S_size]; simp; omega)]
      have e1 : ((pre.length : Int)).toNat = pre.length := by simp
      have e2 : (((pre ++ [b]).length : Int)).toNat = pre.length + 1 := by simp
      rw [e1, e2, if_pos (by rw [ByteArray.size_extract, S_size, S_size]; omega), hex]

theorem words_ref (c : UInt8) (l : List UInt8) (hl : l.length ≤ 1000) : Ev (fun k => vergerref12_Words.f k (S l) (c.toNat : Int)) ((Bp.pieces c l).map S) := by
  have := words_ev c l hl l [] [] [] rfl (Nat.le_refl _) (Nat.le_refl _)
  rw [onto_nil] at this
  exact this

/-- A number's answer. -/
def numAns : Option Nat → Int × Bool
  | some n => (n, true)
  | none => (0, false)

theorem number_ev (w : List UInt8) (hw : w.length ≤ 9) : ∀ (rest pre : List UInt8) (acc : Nat), w = pre ++ rest → acc < 10 ^ pre.length →
    Ev (fun k => vergerref12_Number.l0 k (S w) (acc : Int) (pre.length : Int)) (numAns (Bp.numVal acc rest)) := by
  intro rest
  induction rest with
  | nil =>
    intro pre acc h ha
    have hp : pre.length = w.length := by rw [h]; simp
    refine Ev.step (f := fun _ => some ((acc : Int), true)) (fun k => ?_) (Ev.now _)
    simp only [vergerref12_Number.l0]
    rw [if_neg (by rw [S_size]; omega)]
  | cons b r ih =>
    intro pre acc h ha
    have hb : w[pre.length]? = some b := by rw [h]; simp
    have hlen : pre.length + 1 + r.length = w.length := by rw [h]; simp; omega
    have h' : w = (pre ++ [b]) ++ r := by rw [h]; simp
    have hbt := bt_S hb
    have h10 : 10 ^ pre.length ≤ 10 ^ 8 := Nat.pow_le_pow_right (by omega) (by omega)
    have hb255 := b.toNat_lt
    have hs : ((pre.length : Int) < ((S w).size : Int)) := by rw [S_size]; omega
    by_cases h1 : b.toNat < 48
    · refine Ev.step (f := fun _ => some (0, false)) (fun k => ?_) ?_
      · simp only [vergerref12_Number.l0]
        rw [if_pos hs, if_pos (by omega), hbt, if_pos (by omega)]
      · have : Bp.numVal acc (b :: r) = none := by simp [Bp.numVal, Bp.isDig]; omega
        rw [this]; exact Ev.now _
    · by_cases h2 : 57 < b.toNat
      · refine Ev.step (f := fun _ => some (0, false)) (fun k => ?_) ?_
        · simp only [vergerref12_Number.l0]
          rw [if_pos hs, if_pos (by omega), hbt, if_neg (by omega), if_pos (by omega)]
        · have : Bp.numVal acc (b :: r) = none := by simp [Bp.numVal, Bp.isDig]; omega
          rw [this]; exact Ev.now _
      · have hd : Bp.isDig b = true := by simp [Bp.isDig]; omega
        have hv : Bp.numVal acc (b :: r) = Bp.numVal (10 * acc + (b.toNat - 48)) r := by simp [Bp.numVal, hd]
        rw [hv]
        have hacc : 10 * acc + (b.toNat - 48) < 10 ^ (pre ++ [b]).length := by
          rw [List.length_append, List.length_cons, List.length_nil, Nat.pow_succ]; omega
        refine Ev.step (f := fun k => vergerref12_Number.l0 k (S w) ((10 * acc + (b.toNat - 48) : Nat) : Int) ((pre ++ [b]).length : Int)) (fun k => ?_) (ih (pre ++ [b]) _ h' hacc)
        simp only [vergerref12_Number.l0]
        have hu : (IntKind.u64.wrap ((IntKind.u64.wrap (10 * (acc : Int))) + (((b.toNat : Int) - 48) % 256))) = ((10 * acc + (b.toNat - 48) : Nat) : Int) := by
          have hq : ∀ x : Int, IntKind.u64.wrap x = x % 18446744073709551616 := fun x => by simp [IntKind.wrap, IntKind.signed, IntKind.bits]
          rw [hq, hq]
          omega
        rw [if_pos hs, if_pos (by omega), hbt, if_neg (by omega), if_neg (by omega), hu, w64 (by omega) (by omega)]
        simp

theorem number_ref (w : List UInt8) : Ev (fun k => vergerref12_Number.f k (S w) 9) (numAns (Bp.number 9 w)) := by
  have hf : Ev (fun k => vergerref12_Number.j0 k (S w) true) (0, false) := Ev.step (f := fun _ => some (0, false)) (fun k => by simp [vergerref12_Number.j0]) (Ev.now _)
  by_cases h0 : w = []
  · refine Ev.congr (f := fun k => vergerref12_Number.j0 k (S w) true) (fun k => ?_) ?_
    · simp only [vergerref12_Number.f]; rw [if_pos (by rw [S_toList]; exact h0)]
    · simpa [Bp.number, h0, numAns] using hf
  · by_cases h9 : 9 < w.length
    · refine Ev.congr (f := fun k => vergerref12_Number.j0 k (S w) true) (fun k => ?_) ?_
      · simp only [vergerref12_Number.f]; rw [if_neg (by rw [S_toList]; exact h0), if_pos (by rw [S_size]; omega)]
      · simpa [Bp.number, h9, numAns] using hf
    · obtain ⟨b, r, rfl⟩ : ∃ b r, w = b :: r := by cases w with | nil => exact absurd rfl h0 | cons b r => exact ⟨b, r, rfl⟩
      have hbt := bt_S (l := b :: r) (n := 0) (b := b) rfl
      have hgo : Ev (fun k => vergerref12_Number.j0 k (S (b :: r)) false) (numAns (Bp.numVal 0 (b :: r))) :=
        Ev.step (f := fun k => vergerref12_Number.l0 k (S (b :: r)) 0 0) (fun k => by simp [vergerref12_Number.j0]) (number_ev (b :: r) (by omega) (b :: r) [] 0 rfl (by simp))
      by_cases hb : b = 48
      · subst hb
        refine Ev.congr (f := fun k => vergerref12_Number.j0 k (S (48 :: r)) ((48 :: r) != ([48] : List UInt8))) (fun k => ?_) ?_
        · simp only [vergerref12_Number.f]
          rw [if_neg (by rw [S_toList]; exact h0), if_neg (by rw [S_size]; omega), if_pos (by rw [S_size]; simp), if_pos (by rw [show ((0 : Int)) = ((0 : Nat) : Int) from rfl, hbt]; rfl), S_toList]
        · by_cases hr : r = []
          · subst hr
            simpa [Bp.number] using hgo
          · have e1 : ((48 :: r) != ([48] : List UInt8)) = true := by simp [hr]
            rw [e1]
            simpa [Bp.number, hr, numAns] using hf
      · refine Ev.congr (f := fun k => vergerref12_Number.j0 k (S (b :: r)) false) (fun k => ?_) ?_
        · simp only [vergerref12_Number.f]
          rw [if_neg (by rw [S_toList]; exact h0), if_neg (by rw [S_size]; omega), if_pos (by rw [S_size]; simp), if_neg (by rw [show ((0 : Int)) = ((0 : Nat) : Int) from rfl, hbt]; intro e; exact hb (UInt8.toNat_inj.1 (show b.toNat = 48 by omega)))]
        · have : Bp.number 9 (b :: r) = Bp.numVal 0 (b :: r) := by
            unfold Bp.number
            rw [if_neg]
            rintro (e | e | ⟨e1, e2⟩)
            · cases e
            · exact h9 e
            · simp at e1; exact hb e1
          rw [this]; exact hgo

theorem opok_eq (k : Nat) (a b c : Int) : vergerref12_OpOk.f (k + 1) a b c = some (Bp.fits ⟨a, b, c⟩) := by
  simp only [vergerref12_OpOk.f, vergerref12_OpOk.j0, Bp.fits]
  repeat' split
  all_goals simp_all
  all_goals first | omega | (rw [Bool.eq_iff_iff]; simp; done) | (rw [Bool.eq_iff_iff]; simp; omega)

/-- An op and whether it may be. -/
def ans4 (o : Bp.O) : Int × Int × Int × Bool := (o.kind, o.a, o.b, Bp.fits o)
def natInts (l : List Nat) : List Int := l.map fun (n : Nat) => (n : Int)

set_option maxHeartbeats 1600000 in
theorem chain_eq (w : List UInt8) (rest : List ByteArray) (ns : List Nat) (k : Nat) (i : Int) (hi : i = ((S w :: rest).length : Int)) :
    vergerref12_opOf.l0 (k + 7) (S w :: rest) (natInts ns) i = some (ans4 (Bp.mkOp w ns)) := by
  have hr : rdOf ByteArray.empty (S w :: rest) 0 = S w := rfl
  have h0 : (0 : Int) < ((S w :: rest).length : Int) := by simp
  rw [vergerref12_opOf.l0, if_neg (by omega), if_pos h0, hr, S_toList]
  clear hi
  generalize hx : (S w :: rest) = x4 at hr h0 ⊢
  clear hx
  simp only [vergerref12_opOf.j1, vergerref12_opOf.j2, vergerref12_opOf.j3, vergerref12_opOf.j4, hr, S_toList, opok_eq, h0, if_true, Option.bind_some]
  by_cases e1 : w = [110, 111, 112]
  · subst e1
    rcases ns with _ | ⟨x, _ | ⟨y, _ | ⟨z, r⟩⟩⟩ <;> simp [natInts, Bp.mkOp, Bp.nopW, Bp.panicW, Bp.submitW, Bp.cancelW, Bp.afterW, rd, ans4]
    all_goals omega
  · by_cases e2 : w = [115, 117, 98, 109, 105, 116]
    · subst e2
      rcases ns with _ | ⟨x, _ | ⟨y, _ | ⟨z, r⟩⟩⟩ <;> simp [natInts, Bp.mkOp, Bp.nopW, Bp.panicW, Bp.submitW, Bp.cancelW, Bp.afterW, rd, ans4]
      all_goals omega
    · by_cases e3 : w = [97, 102, 116, 101, 114]
      · subst e3
        rcases ns with _ | ⟨x, _ | ⟨y, _ | ⟨z, r⟩⟩⟩ <;> simp [natInts, Bp.mkOp, Bp.nopW, Bp.panicW, Bp.submitW, Bp.cancelW, Bp.afterW, rd, ans4]
        all_goals omega
      · by_cases e4 : w = [99, 97, 110, 99, 101, 108]
        · subst e4
          rcases ns with _ | ⟨x, _ | ⟨y, _ | ⟨z, r⟩⟩⟩ <;> simp [natInts, Bp.mkOp, Bp.nopW, Bp.panicW, Bp.submitW, Bp.cancelW, Bp.afterW, rd, ans4]
          all_goals omega
        · by_cases e5 : w = [112, 97, 110, 105, 99]
          · subst e5
            rcases ns with _ | ⟨x, _ | ⟨y, _ | ⟨z, r⟩⟩⟩ <;> simp [natInts, Bp.mkOp, Bp.nopW, Bp.panicW, Bp.submitW, Bp.cancelW, Bp.afterW, rd, ans4]
            all_goals omega
          · rcases ns with _ | ⟨x, _ | ⟨y, _ | ⟨z, r⟩⟩⟩ <;> simp [natInts, Bp.mkOp, Bp.nopW, Bp.panicW, Bp.submitW, Bp.cancelW, Bp.afterW, rd, ans4, e1, e2, e3, e4, e5]

/-- What opOf comes to. -/
def opAns (head : List UInt8) : Option (List Nat) → Int × Int × Int × Bool
  | none => (0, 0, 0, false)
  | some n => ans4 (Bp.mkOp head n)

theorem mapM_cons_num (x : List UInt8) (r : List (List UInt8)) : (x :: r).mapM (Bp.number 9) = (Bp.number 9 x).bind fun n => (r.mapM (Bp.number 9)).map fun m => n :: m := by
  rw [List.mapM_cons]
  cases Bp.number 9 x with
  | none => rfl
  | some n => cases r.mapM (Bp.number 9) <;> rfl

theorem ops_ev (w0 : List UInt8) (tl : List (List UInt8)) (hcount : tl.length ≤ 1000) : ∀ (rest pre : List (List UInt8)) (ns : List Nat), tl = pre ++ rest → ns.length = pre.length →
    Ev (fun k => vergerref12_opOf.l0 k ((w0 :: tl).map S) (natInts ns) ((pre.length + 1 : Nat) : Int)) (opAns w0 ((rest.mapM (Bp.number 9)).map fun m => ns ++ m)) := by
  intro rest
  induction rest with
  | nil =>
    intro pre ns h hn
    have hp : tl.length = pre.length := by rw [h]; simp
    refine ⟨7, fun k hk => ?_⟩
    obtain ⟨m, rfl⟩ : ∃ m, k = m + 7 := ⟨k - 7, by omega⟩
    have := chain_eq w0 (tl.map S) ns m ((pre.length + 1 : Nat) : Int) (by simp; omega)
    rw [List.map_cons]
    simpa [opAns] using this
  | cons x r ih =>
    intro pre ns h hn
    have hlen : pre.length + 1 + r.length = tl.length := by rw [h]; simp; omega
    have h' : tl = (pre ++ [x]) ++ r := by rw [h]; simp
    have hx : (w0 :: tl)[pre.length + 1]? = some x := by rw [h]; simp
    have hrd := rdOf_S hx
    have hw : wrap64 (((pre.length + 1 : Nat) : Int) + 1) = (((pre ++ [x]).length + 1 : Nat) : Int) := by rw [w64 (by omega) (by omega)]; simp
    rw [mapM_cons_num]
    refine Ev.step (f := fun k => (vergerref12_Number.f k (S x) 9).bind fun bt152 => (if bt152.2 = true then (if (natInts ns).length < 17592186044416 then (vergerref12_opOf.l0 k ((w0 :: tl).map S) (natInts ns ++ [wrap64 (bt152.1)]) (((pre ++ [x]).length + 1 : Nat) : Int)) else (none)) else (some (0, 0, 0, false)))) (fun k => ?_) ?_
    · rw [vergerref12_opOf.l0, if_pos (by simp; omega), if_pos (by omega), hrd, hw]
    · refine Ev.bind (number_ref x) ?_
      cases hnum : Bp.number 9 x with
      | none => simpa [numAns, opAns] using Ev.now ((0, 0, 0, false) : Int × Int × Int × Bool)
      | some n =>
        have hn9 := Bp.number_some hnum
        have hnlt : n < 10 ^ 9 := by
          have := hn9.2
          rw [hn9.1, Lib.decDigits_length] at this
          exact Nat.lt_of_lt_of_le (Lib.lt_pow_nDigits n) (Nat.pow_le_pow_right (by omega) this)
        have ih' := ih (pre ++ [x]) (ns ++ [n]) h' (by simp [hn])
        have e1 : natInts (ns ++ [n]) = natInts ns ++ [wrap64 (n : Int)] := by simp [natInts, w64 (n := (n : Int)) (by omega) (by omega)]
        rw [e1] at ih'
        have hl : (natInts ns).length < 17592186044416 := by simp [natInts]; omega
        simp only [numAns, if_true, hl, Option.bind_some, Option.map_map]
        refine Ev.congr (fun k => rfl) ?_
        have e2 : ((fun m => ns ++ m) ∘ fun m => n :: m) = fun m => ns ++ [n] ++ m := by funext m; simp
        rw [e2]
        exact ih'

theorem op_ref (p : List UInt8) (hp : p.length ≤ 999) : ∃ r, Ev (fun k => vergerref12_opOf.f k (S p)) r ∧ match Bp.refOp p with | some o => r = (o.kind, o.a, o.b, true) | none => r.2.2.2 = false := by
  have hne := Bp.pieces_ne 32 p
  have hcl := Bp.pieces_le 32 p
  have hw := words_ref 32 p (by omega)
  obtain ⟨w0, tl, hpc⟩ : ∃ w0 tl, Bp.pieces 32 p = w0 :: tl := by
    cases h : Bp.pieces 32 p with
    | nil => exact absurd h hne
    | cons a b => exact ⟨a, b, rfl⟩
  rw [hpc] at hw hcl
  refine ⟨opAns w0 (tl.mapM (Bp.number 9)), Ev.bind hw ?_, ?_⟩
  · have := ops_ev w0 tl (by simp at hcl; omega) tl [] [] rfl rfl
    simpa [natInts] using this
  · unfold Bp.refOp
    rw [hpc]
    simp only [List.tail_cons, List.headD_cons]
    cases tl.mapM (Bp.number 9) with
    | none => rfl
    | some n =>
      simp only [opAns, ans4, Bp.chk]
      cases hf : Bp.fits (Bp.mkOp w0 n) <;> simp [hf]

/-- An op as the printed function has it. -/
def toS (o : Bp.O) : S50 := ⟨o.kind, o.a, o.b⟩

theorem mapM_cons_op (x : List UInt8) (r : List (List UInt8)) : (x :: r).mapM Bp.refOp = (Bp.refOp x).bind fun n => (r.mapM Bp.refOp).map fun m => n :: m := by
  rw [List.mapM_cons]
  cases Bp.refOp x with
  | none => rfl
  | some n => cases r.mapM Bp.refOp <;> rfl

/-- What the loop of BodyOf comes to. -/
def bodyAns (acc : List Bp.O) : Option (List Bp.O) → List S50 × Int
  | none => ([], 3)
  | some m => if acc.length + m.length ≤ 16 then ((acc ++ m).map toS, 0) else ([], 3)

theorem body_ev (ps : List (List UInt8)) (hps : ∀ p ∈ ps, p.length ≤ 999) (hcount : ps.length ≤ 1000) : ∀ (rest pre : List (List UInt8)) (acc : List Bp.O), ps = pre ++ rest → acc.length = pre.length → acc.length ≤ 16 →
    Ev (fun k => vergerref12_BodyOf.l0 k (acc.map toS) (ps.map S) (pre.length : Int)) (bodyAns acc (rest.mapM Bp.refOp)) := by
  intro rest
  induction rest with
  | nil =>
    intro pre acc h ha h16
    have hp : ps.length = pre.length := by rw [h]; simp
    refine Ev.step (f := fun _ => some (acc.map toS, 0)) (fun k => ?_) ?_
    · rw [vergerref12_BodyOf.l0, if_neg (by simp; omega)]
    · have : bodyAns acc (some []) = (acc.map toS, 0) := by simp [bodyAns, h16]
      exact this ▸ Ev.now _
  | cons x r ih =>
    intro pre acc h ha h16
    have hlen : pre.length + 1 + r.length = ps.length := by rw [h]; simp; omega
    have h' : ps = (pre ++ [x]) ++ r := by rw [h]; simp
    have hx : ps[pre.length]? = some x := by rw [h]; simp
    have hrd := rdOf_S hx
    have hw : wrap64 ((pre.length : Int) + 1) = ((pre ++ [x]).length : Int) := by rw [w64 (by omega) (by omega)]; simp
    obtain ⟨q, hq, hqm⟩ := op_ref x (hps x (List.mem_of_getElem? hx))
    rw [mapM_cons_op]
    refine Ev.step (f := fun k => (vergerref12_opOf.f k (S x)).bind fun bt178 => (if bt178.2.2.2 = true then (if (pre.length : Int) ≥ 16 then (some (([] : List (S50)), 3)) else (if (acc.map toS).length < 5864062014805 then (vergerref12_BodyOf.l0 k (acc.map toS ++ [(⟨bt178.1, bt178.2.1, bt178.2.2.1⟩ : S50)]) (ps.map S) ((pre ++ [x]).length : Int)) else (none))) else (some (([] : List (S50)), 3)))) (fun k => ?_) (Ev.bind hq ?_)
    · rw [vergerref12_BodyOf.l0, if_pos (by simp; omega), if_pos (by omega), hrd, hw]
    · cases ho : Bp.refOp x with
      | none =>
        rw [ho] at hqm
        simp only at hqm
        simpa [hqm, bodyAns] using Ev.now (([], 3) : List S50 × Int)
      | some o =>
        rw [ho] at hqm
        simp only at hqm
        subst hqm
        by_cases hge : 16 ≤ pre.length
        · have e : ((pre.length : Int) ≥ 16) = True := by simp; omega
          simp only [if_true, e, Option.bind_some]
          have : bodyAns acc ((r.mapM Bp.refOp).map fun m => o :: m) = ([], 3) := by
            cases r.mapM Bp.refOp with
            | none => rfl
            | some m => simp only [Option.map_some, bodyAns]; rw [if_neg (by simp; omega)]
          rw [this]
          exact Ev.now _
        · have e : ((pre.length : Int) ≥ 16) = False := by simp; omega
          have hl : (acc.map toS).length < 5864062014805 := by simp; omega
          have ih' := ih (pre ++ [x]) (acc ++ [o]) h' (by simp [ha]) (by simp; omega)
          have e1 : (acc ++ [o]).map toS = acc.map toS ++ [(⟨o.kind, o.a, o.b⟩ : S50)] := by simp [toS]
          rw [e1] at ih'
          simp only [if_true, e, if_false, hl, Option.bind_some]
          have : bodyAns acc ((r.mapM Bp.refOp).map fun m => o :: m) = bodyAns (acc ++ [o]) (r.mapM Bp.refOp) := by
            cases r.mapM Bp.refOp with
            | none => rfl
            | some m =>
              simp only [Option.map_some, bodyAns, List.length_append, List.length_cons, List.length_nil, List.append_assoc, List.cons_append, List.nil_append]
              have : (acc.length + (m.length + 1) ≤ 16) ↔ (acc.length + (0 + 1) + m.length ≤ 16) := by omega
              simp only [this]
          rw [this]
          exact ih'

theorem bodyOf_ref (s : List UInt8) : Ev (fun k => vergerref12_BodyOf.f k (S s)) ((Bp.refBody s).1.map toS, (Bp.refBody s).2) := by
  unfold Bp.refBody
  by_cases h4 : 400 < s.length
  · refine Ev.congr (f := fun _ => some ([], 2)) (fun k => ?_) ?_
    · simp only [vergerref12_BodyOf.f]; rw [if_pos (by rw [S_size]; omega)]
    · rw [if_pos h4]; exact Ev.now _
  · rw [if_neg h4]
    by_cases hd : s = [45]
    · refine Ev.congr (f := fun _ => some ([], 0)) (fun k => ?_) ?_
      · simp only [vergerref12_BodyOf.f]; rw [if_neg (by rw [S_size]; omega), if_pos (by rw [S_toList]; exact hd)]
      · rw [if_pos hd]; exact Ev.now _
    · rw [if_neg hd]
      refine Ev.congr (f := fun k => (vergerref12_Words.f k (S s) 59).bind fun t174 => (vergerref12_BodyOf.l0 k ([] : List (S50)) t174 0)) (fun k => ?_) (Ev.bind (words_ref 59 s (by omega)) ?_)
      · simp only [vergerref12_BodyOf.f]; rw [if_neg (by rw [S_size]; omega), if_neg (by rw [S_toList]; exact hd)]
      · have hb := body_ev (Bp.pieces 59 s) (fun p hp => by have := Bp.piece_le 59 s p hp; omega) (by have := Bp.pieces_le 59 s; omega) (Bp.pieces 59 s) [] [] rfl rfl (by simp)
        cases hm : (Bp.pieces 59 s).mapM Bp.refOp with
        | none => rw [hm] at hb; exact hb
        | some m =>
          rw [hm] at hb
          simp only [bodyAns, List.length_nil, Nat.zero_add, List.nil_append] at hb
          by_cases h16 : m.length ≤ 16
          · rw [if_pos h16] at hb; simp only [h16, if_true]; exact hb
          · rw [if_neg h16] at hb; simp only [h16, if_false]; exact hb
end Go.Proofs.YtllabeiadeclkaaDoor
