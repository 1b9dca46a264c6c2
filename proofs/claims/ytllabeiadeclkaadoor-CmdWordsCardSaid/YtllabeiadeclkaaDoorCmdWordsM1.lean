/-
  Parts of the proof, put together: The plain law of a body's text: what body.Parse computes (split, read each piece, print again, compare) is what the document's answer computes (numbers without noughts ahead, each op within its bounds, at most sixteen). No program in this text; Commands: what cmd.Parse and cmd.Text come to, in plain terms; Commands' texts, in plain terms; Small lemmas that all walks of this seat use; no program; What the library's functions answer, in the words of the plain laws: pieces between one byte, numbers, texts; each under the package-level variables that it reads; strconv.FormatUint at base 10; cmd.number: a word's number; strings.ReplaceAll of one byte by another one, strings.Contains of one byte; A range over a function whose iterator keeps a state of its own in a cell (the kit's laws ask that no cell be written between two rounds); strings.SplitSeq at a separator of one byte: it yields the pieces; Maps whose keys are pairs of ints ('[2]int'): equality of keys, look-up, insertion, as plain functions on a list of entries; over any program; body.words and body.spans: the maps that they make, whatever the order in which the literal's entries are laid; body.fits: whether an op is within its bounds, by a look into the map of spans; body.Ok and body.Steps: slices.IndexFunc and slices.ContainsFunc over a body's ops; body.told: an op's text, by looks into the map of words; body.Text: a body's text; Ranging over a map whose keys are pairs of ints: 'range', 'next', 'entry' as steps of the walk; over any program; body.read: the op of a piece: its words, its numbers, and the word's kind, found by ranging over the map of words in whatever order; body.Parse: the body of a text.
-/
import Derived.Lib.ItoaNum
import Derived.Lib.AtoiAllCases
import Derived.Lib.SplitLaws
import Derived.Lib.Join
import Derived.WalkKit
import Derived.LoopTactic
import Derived.LoopN
import Derived.Lib.Hide
import Derived.BigRegion
import Derived.BigQuiet
import Derived.Outline
import Derived.WalkSpells
import Derived.WalkLawsBesides
import Derived.Deep.DeepFit
import Derived.Deep.QuietTactic
import Derived.Handy
import Derived.Deep.DeepCutAuto
import Derived.Deep.CutBlock
import Derived.Deep.Light
import Derived.Test.YtllabeiadeclkaaDoorShelf
import Derived.Lib.AppendIntMem
import Derived.WalkSmall
import Derived.Lib.Walk
import Derived.Lib.ItoaMem
import Derived.Lib.ParseIntBCases
import Derived.Lib.Replace
import Derived.Lib.IndexBytes
import Derived.RangeFuncNested
import Derived.RangeFuncBound
import Derived.RangeFuncCalls
import Derived.RangeFuncLeaves
import Derived.RangeFuncBox
import Derived.OwnWalkIn
import Derived.TacticsInMore
import Derived.LoopNIn
import Derived.LoopIn
import Derived.Lib.IndexLaws
import Derived.Orders
import Derived.Laws.StructEq
import Derived.Maps.OwnOps
import Derived.MapKept
import Derived.WideKeyRuns
import Derived.Test.YtllabeiadeclkaaDoorProg
import Derived.Lib.ItoaLen
import Derived.Test.YtllabeiadeclkaaDoorWWords
import Derived.Maps.RangeWalk
import Derived.Maps.AppendAt
set_option linter.unusedVariables false
set_option linter.unusedSimpArgs false
/-! BodyPure: The plain law of a body's text: what body.Parse computes (split, read each piece, print again, compare) is what the document's answer computes (numbers without noughts ahead, each op within its bounds, at most sixteen). No program in this text. -/
namespace Go.Proofs.YtllabeiadeclkaaDoor
namespace Bp

/-- A text's pieces between one byte. -/
def pieces (c : UInt8) : List UInt8 → List (List UInt8)
  | [] => [[]]
  | b :: r => if b = c then [] :: pieces c r else
    match pieces c r with
    | [] => [[b]]
    | p :: ps => (b :: p) :: ps

theorem pieces_ne (c : UInt8) : ∀ s, pieces c s ≠ []
  | [] => by simp [pieces]
  | b :: r => by
    unfold pieces
    split
    · simp
    · split <;> simp

theorem join_cons_cons (x y : List UInt8) (r : List (List UInt8)) (sep : List UInt8) : Lib.join (x :: y :: r) sep = x ++ sep ++ Lib.join (y :: r) sep := by
  rw [Lib.join_cons, Lib.join_cons]; simp [Lib.joinTail]

theorem join_pieces (c : UInt8) : ∀ s, Lib.join (pieces c s) [c] = s
  | [] => by simp [pieces, Lib.join_one]
  | b :: r => by
    have ih := join_pieces c r
    have hne := pieces_ne c r
    unfold pieces
    split
    · rename_i h
      subst h
      cases hp : pieces b r with
      | nil => exact absurd hp hne
      | cons p ps =>
        rw [join_cons_cons, ← hp, ih]; simp
    · cases hp : pieces c r with
      | nil => exact absurd hp hne
      | cons p ps =>
        rw [hp] at ih
        simp only
        cases ps with
        | nil => rw [Lib.join_one] at ih ⊢; rw [ih]
        | cons q qs => rw [join_cons_cons] at ih ⊢; rw [← ih]; simp

theorem pieces_none (c : UInt8) : ∀ p : List UInt8, c ∉ p → pieces c p = [p]
  | [], _ => rfl
  | b :: r, h => by
    have h1 : b ≠ c := fun e => h (by simp [e])
    have h2 : c ∉ r := fun e => h (by simp [e])
    simp [pieces, h1, pieces_none c r h2]

theorem pieces_app (c : UInt8) : ∀ (p r : List UInt8), c ∉ p → pieces c (p ++ c :: r) = p :: pieces c r
  | [], r, _ => by simp [pieces]
  | b :: p, r, h => by
    have h1 : b ≠ c := fun e => h (by simp [e])
    have h2 : c ∉ p := fun e => h (by simp [e])
    simp [pieces, h1, pieces_app c p r h2]

theorem pieces_join (c : UInt8) : ∀ ps : List (List UInt8), ps ≠ [] → (∀ p ∈ ps, c ∉ p) → pieces c (Lib.join ps [c]) = ps
  | [], h, _ => absurd rfl h
  | [p], _, h => by rw [Lib.join_one]; exact pieces_none c p (h p (by simp))
  | p :: q :: ps, _, h => by
    rw [join_cons_cons, List.append_assoc, List.singleton_append, pieces_app c p _ (h p (by simp)), pieces_join c (q :: ps) (by simp) (fun x hx => h x (by simp [hx]))]

theorem pieces_noc (c : UInt8) : ∀ s, ∀ p ∈ pieces c s, c ∉ p
  | [], p, hp => by simp [pieces] at hp; subst hp; simp
  | b :: r, p, hp => by
    have ih := pieces_noc c r
    unfold pieces at hp
    split at hp
    · rcases List.mem_cons.1 hp with rfl | hp
      · simp
      · exact ih p hp
    · rename_i hb
      cases hq : pieces c r with
      | nil => exact absurd hq (pieces_ne c r)
      | cons q qs =>
        rw [hq] at hp ih
        simp only [List.mem_cons] at hp
        rcases hp with rfl | hp
        · intro hc
          rcases List.mem_cons.1 hc with hc | hc
          · exact hb hc.symm
          · exact ih q (by simp) hc
        · exact ih p (by simp [hp])

theorem pieces_le (c : UInt8) : ∀ s, (pieces c s).length ≤ s.length + 1
  | [] => by simp [pieces]
  | b :: r => by
    have ih := pieces_le c r
    unfold pieces
    split
    · simp; omega
    · cases hq : pieces c r with
      | nil => simp
      | cons q qs => rw [hq] at ih; simp at ih ⊢; omega

theorem piece_le (c : UInt8) : ∀ s, ∀ p ∈ pieces c s, p.length ≤ s.length
  | [], p, hp => by simp [pieces] at hp; subst hp; simp
  | b :: r, p, hp => by
    have ih := piece_le c r
    unfold pieces at hp
    split at hp
    · rcases List.mem_cons.1 hp with rfl | hp
      · simp
      · have := ih p hp; simp; omega
    · cases hq : pieces c r with
      | nil => exact absurd hq (pieces_ne c r)
      | cons q qs =>
        rw [hq] at hp ih
        simp only [List.mem_cons] at hp
        rcases hp with rfl | hp
        · have := ih q (by simp); simp; omega
        · have := ih p (by simp [hp]); simp; omega

/-! ### Numbers -/
def isDig (b : UInt8) : Bool := decide (48 ≤ b.toNat) && decide (b.toNat ≤ 57)
def numVal (acc : Nat) : List UInt8 → Option Nat
  | [] => some acc
  | b :: r => if isDig b then numVal (10 * acc + (b.toNat - 48)) r else none
/-- A word's number, of so many digits at most, no nought ahead. -/
def number (most : Nat) (w : List UInt8) : Option Nat :=
  if w = [] ∨ most < w.length ∨ (w.head? = some 48 ∧ w ≠ [48]) then none else numVal 0 w

theorem numVal_app : ∀ (l : List UInt8) (acc : Nat) (d : UInt8), numVal acc (l ++ [d]) = (numVal acc l).bind fun n => if isDig d then some (10 * n + (d.toNat - 48)) else none
  | [], acc, d => by simp [numVal]
  | b :: r, acc, d => by
    simp only [List.cons_append, numVal]
    split
    · exact numVal_app r _ d
    · rfl

theorem snoc_form (w : List UInt8) (h : w ≠ []) : ∃ p d, w = p ++ [d] := ⟨w.dropLast, w.getLast h, (List.dropLast_concat_getLast h).symm⟩

theorem dec_small {n : Nat} (h : n < 10) : Lib.decDigits n = [UInt8.ofNat (48 + n)] := by rw [Lib.decDigits, dif_pos h]
theorem dec_big {n : Nat} (h : ¬ n < 10) : Lib.decDigits n = Lib.decDigits (n / 10) ++ [UInt8.ofNat (48 + n % 10)] := by rw [Lib.decDigits, dif_neg h]
theorem dig_toNat {n : Nat} (h : n < 10) : (UInt8.ofNat (48 + n)).toNat = 48 + n := by
  show (48 + n) % 256 = 48 + n
  exact Nat.mod_eq_of_lt (by omega)
theorem dig_is {n : Nat} (h : n < 10) : isDig (UInt8.ofNat (48 + n)) = true := by
  simp only [isDig, dig_toNat h, Bool.and_eq_true, decide_eq_true_eq]; omega
theorem dec_ne (n : Nat) : Lib.decDigits n ≠ [] := by
  intro h
  have := congrArg List.length h
  rw [Lib.decDigits_length] at this
  have := Lib.nDigits_pos n
  simp at *
  omega
theorem byte_of_dig {d : UInt8} (h : isDig d = true) : d = UInt8.ofNat (48 + (d.toNat - 48)) ∧ d.toNat - 48 < 10 := by
  simp only [isDig, Bool.and_eq_true, decide_eq_true_eq] at h
  refine ⟨?_, by omega⟩
  apply UInt8.toNat_inj.1
  rw [dig_toNat (by omega)]; omega

theorem numVal_dec (n : Nat) : numVal 0 (Lib.decDigits n) = some n := by
  induction n using Nat.strongRecOn with
  | _ n ih =>
    by_cases h : n < 10
    · rw [dec_small h]; simp only [numVal, dig_is h, if_true, dig_toNat h]; congr 1; omega
    · have hm : n % 10 < 10 := Nat.mod_lt _ (by omega)
      rw [dec_big h, numVal_app, ih (n / 10) (by omega)]
      simp only [Option.bind_some, dig_is hm, if_true, dig_toNat hm]; congr 1; omega

theorem dec_head (n : Nat) (h : 0 < n) : (Lib.decDigits n).head? ≠ some 48 := by
  induction n using Nat.strongRecOn with
  | _ n ih =>
    by_cases h1 : n < 10
    · rw [dec_small h1]
      intro e
      have e' : UInt8.ofNat (48 + n) = 48 := by simpa using e
      have := congrArg UInt8.toNat e'
      rw [dig_toNat h1] at this
      simp at this; omega
    · rw [dec_big h1, List.head?_append]
      have := ih (n / 10) (by omega) (by omega)
      cases hd : (Lib.decDigits (n / 10)).head? with
      | none => exact absurd (List.head?_eq_none_iff.1 hd) (dec_ne _)
      | some x => rw [hd] at this; simpa using this

theorem dec_of_numVal : ∀ (k : Nat) (w : List UInt8) (n : Nat), w.length ≤ k → w ≠ [] → (w.head? = some 48 → w = [48]) → numVal 0 w = some n → w = Lib.decDigits n
  | 0, w, n, hk, hw, _, _ => absurd (List.eq_nil_of_length_eq_zero (by omega)) hw
  | k + 1, w, n, hk, hw, h0, hv => by
    obtain ⟨p, d, rfl⟩ := snoc_form w hw
    rw [numVal_app] at hv
    cases hp : numVal 0 p with
    | none => rw [hp] at hv; cases hv
    | some m =>
      rw [hp] at hv
      simp only [Option.bind_some] at hv
      split at hv
      · rename_i hd
        obtain ⟨hb, hlt⟩ := byte_of_dig hd
        injection hv with hv
        by_cases hpn : p = []
        · subst hpn
          simp only [numVal] at hp
          injection hp with hp
          subst hp
          rw [dec_small (by omega), List.nil_append, hb, show d.toNat - 48 = n by omega]
        · have hhead : p.head? ≠ some 48 := by
            intro e
            have h1 : (p ++ [d]).head? = some 48 := by rw [List.head?_append, e]; rfl
            have h2 := congrArg List.length (h0 h1)
            have h3 : 0 < p.length := List.length_pos_iff.2 hpn
            simp at h2
            exact hpn (by simpa using h2)
          have ih := dec_of_numVal k p m (by simp at hk; omega) hpn (fun e => absurd e hhead) hp
          have hm : 0 < m := by
            rcases Nat.eq_zero_or_pos m with e | e
            · subst e
              rw [dec_small (by omega)] at ih
              rw [ih] at hhead
              exact absurd rfl hhead
            · exact e
          rw [dec_big (by omega), show n / 10 = m by omega, show n % 10 = d.toNat - 48 by omega, ← hb, ← ih]
      · cases hv

theorem number_some {most : Nat} {w : List UInt8} {n : Nat} (h : number most w = some n) : w = Lib.decDigits n ∧ w.length ≤ most := by
  unfold number at h
  split at h
  · cases h
  · rename_i hc
    have h1 : w ≠ [] := fun e => hc (.inl e)
    have h2 : w.length ≤ most := by
      rcases Nat.lt_or_ge most w.length with e | e
      · exact absurd (.inr (.inl e)) hc
      · exact e
    exact ⟨dec_of_numVal w.length w n (Nat.le_refl _) h1 (fun e => Classical.byContradiction fun e2 => hc (.inr (.inr ⟨e, e2⟩))) h, h2⟩

theorem number_dec {most n : Nat} (h : (Lib.decDigits n).length ≤ most) : number most (Lib.decDigits n) = some n := by
  unfold number
  rw [if_neg, numVal_dec]
  rintro (e | e | ⟨e1, e2⟩)
  · exact dec_ne n e
  · omega
  · rcases Nat.eq_zero_or_pos n with e | e
    · subst e; exact e2 (by rw [dec_small (by omega)]; rfl)
    · exact dec_head n e e1

/-- A digit's neighbours: no byte of a numeral is a byte that is no digit. -/
theorem dec_digs (n : Nat) : ∀ b ∈ Lib.decDigits n, isDig b = true := by
  induction n using Nat.strongRecOn with
  | _ n ih =>
    intro b hb
    by_cases h : n < 10
    · rw [dec_small h] at hb
      simp only [List.mem_singleton] at hb
      rw [hb]; exact dig_is h
    · rw [dec_big h, List.mem_append] at hb
      rcases hb with hb | hb
      · exact ih (n / 10) (by omega) b hb
      · simp only [List.mem_singleton] at hb
        rw [hb]; exact dig_is (Nat.mod_lt _ (by omega))
theorem dec_not (n : Nat) (c : UInt8) (h : isDig c = false) : c ∉ Lib.decDigits n := fun e => by
  have := dec_digs n c e
  rw [h] at this; cases this

theorem numVal_mono : ∀ (l : List UInt8) (acc n : Nat), numVal acc l = some n → acc ≤ n
  | [], acc, n, h => by simp only [numVal] at h; injection h with h; omega
  | b :: r, acc, n, h => by
    simp only [numVal] at h
    split at h
    · have := numVal_mono r _ n h; omega
    · cases h

theorem parse10 : ∀ (l : List UInt8) (acc n : Nat), numVal acc l = some n → n < 18446744073709551616 → Lib.parseUint10 acc l = .ok n
  | [], acc, n, h, _ => by simp only [numVal] at h; injection h with h; simp [Lib.parseUint10, h]
  | b :: r, acc, n, h, hn => by
    simp only [numVal] at h
    split at h
    · rename_i hb
      have hm := numVal_mono r _ n h
      simp only [isDig, Bool.and_eq_true, decide_eq_true_eq] at hb
      rw [Lib.parseUint10, if_pos hb, if_neg (by omega), if_neg (by omega)]
      exact parse10 r _ n (by rw [Nat.mul_comm]; exact h) hn
    · cases h

theorem atoi_dec {n : Nat} (h : n < 9223372036854775808) : Lib.atoiAll (Lib.decDigits n) = .ok (n : Int) := by
  cases hd : Lib.decDigits n with
  | nil => exact absurd hd (dec_ne n)
  | cons c r =>
    have hc : isDig c = true := dec_digs n c (by rw [hd]; simp)
    simp only [isDig, Bool.and_eq_true, decide_eq_true_eq] at hc
    rw [Lib.atoiAll_plain c r (by omega) (by omega), ← hd]
    have h1 : Lib.parseMag (Lib.decDigits n) = .ok n := by
      unfold Lib.parseMag
      rw [if_neg (dec_ne n)]
      exact parse10 _ 0 n (numVal_dec n) (by omega)
    rw [h1]
    simp only [Lib.signless]
    rw [if_neg (by omega)]

/-! ### Ops -/
structure O where
  kind : Int
  a : Int
  b : Int
deriving DecidableEq

def nopW : List UInt8 := [110, 111, 112]
def submitW : List UInt8 := [115, 117, 98, 109, 105, 116]
def afterW : List UInt8 := [97, 102, 116, 101, 114]
def cancelW : List UInt8 := [99, 97, 110, 99, 101, 108]
def panicW : List UInt8 := [112, 97, 110, 105, 99]

/-- A word's kind, and how many numbers it has. -/
def kindOf (w : List UInt8) : Option (Int × Nat) :=
  if w = nopW then some (1, 0) else if w = submitW then some (2, 1) else if w = afterW then some (3, 2) else if w = cancelW then some (4, 1) else if w = panicW then some (5, 0) else none

/-- What strconv.Atoi gives beside its error. -/
def atoiN (w : List UInt8) : Int :=
  match Lib.atoiAll w with
  | .ok v => v
  | .range => Lib.atoiSat w
  | _ => 0
def at' (l : List (List UInt8)) (i : Nat) : Int :=
  match l[i]? with
  | some w => atoiN w
  | none => 0

/-- body.read. -/
def read (p : List UInt8) : Option O :=
  if 3 < (pieces 32 p).length then none else
  match kindOf ((pieces 32 p).headD []) with
  | none => none
  | some (k, n) => if n = (pieces 32 p).length - 1 then some ⟨k, at' (pieces 32 p) 1, at' (pieces 32 p) 2⟩ else none

/-- The bounds of an op. -/
def fits (o : O) : Bool :=
  if o.kind = 1 ∨ o.kind = 5 then decide (o.a = 0 ∧ o.b = 0)
  else if o.kind = 2 then decide (0 ≤ o.a ∧ o.a ≤ 7 ∧ o.b = 0)
  else if o.kind = 3 then decide (0 ≤ o.a ∧ o.a ≤ 7 ∧ 0 ≤ o.b ∧ o.b ≤ 1000000)
  else if o.kind = 4 then decide (1 ≤ o.a ∧ o.a ≤ 1000 ∧ o.b = 0)
  else false

/-- An op's text. -/
def told (o : O) : List UInt8 :=
  if o.kind = 1 then nopW
  else if o.kind = 2 then submitW ++ 32 :: Lib.itoa o.a
  else if o.kind = 3 then afterW ++ 32 :: (Lib.itoa o.a ++ 32 :: Lib.itoa o.b)
  else if o.kind = 4 then cancelW ++ 32 :: Lib.itoa o.a
  else if o.kind = 5 then panicW
  else []

def bodyOk (l : List O) : Bool := decide (l.length ≤ 16) && l.all fits
/-- body.Text of a body that may be. -/
def textOf (l : List O) : List UInt8 := if l = [] then [45] else Lib.join (l.map told) [59]

/-- body.Parse. -/
def parse (s : List UInt8) : List O × Int :=
  if 400 < s.length then ([], 2) else if s = [45] then ([], 0) else
  match (pieces 59 s).mapM read with
  | none => ([], 3)
  | some out => if bodyOk out = true ∧ textOf out = s then (out, 0) else ([], 3)

/-- The op of a word and numbers; none that may be: a kind of 0. -/
def mkOp (w : List UInt8) : List Nat → O
  | [] => if w = nopW then ⟨1, 0, 0⟩ else if w = panicW then ⟨5, 0, 0⟩ else ⟨0, 0, 0⟩
  | [x] => if w = submitW then ⟨2, x, 0⟩ else if w = cancelW then ⟨4, x, 0⟩ else ⟨0, 0, 0⟩
  | [x, y] => if w = afterW then ⟨3, x, y⟩ else ⟨0, 0, 0⟩
  | _ => ⟨0, 0, 0⟩
/-- An op, if it may be. -/
def chk (o : O) : Option O := if fits o then some o else none
theorem chk_some {x o : O} (h : chk x = some o) : fits x = true ∧ x = o := by
  unfold chk at h
  split at h
  · rename_i hf
    injection h with h
    exact ⟨hf, h⟩
  · cases h
theorem chk_fits {x : O} (h : fits x = true) : chk x = some x := by unfold chk; rw [if_pos h]
/-- The document's op of a piece. -/
def refOp (p : List UInt8) : Option O :=
  match (pieces 32 p).tail.mapM (number 9) with
  | none => none
  | some n => chk (mkOp ((pieces 32 p).headD []) n)

/-- The document's answer. -/
def refBody (s : List UInt8) : List O × Int :=
  if 400 < s.length then ([], 2) else if s = [45] then ([], 0) else
  match (pieces 59 s).mapM refOp with
  | none => ([], 3)
  | some out => if out.length ≤ 16 then (out, 0) else ([], 3)

theorem itoa_nat (n : Nat) : Lib.itoa (n : Int) = Lib.decDigits n := by
  unfold Lib.itoa
  rw [if_neg (by omega)]; simp
theorem itoa_pos {n : Int} (h : 0 ≤ n) : ∃ m : Nat, n = m ∧ Lib.itoa n = Lib.decDigits m := by
  obtain ⟨m, rfl⟩ := Int.eq_ofNat_of_zero_le h
  exact ⟨m, rfl, itoa_nat m⟩

theorem dec_len {n k : Nat} (h : n < 10 ^ k) (hk : 0 < k) : (Lib.decDigits n).length ≤ k := by
  rw [Lib.decDigits_length]
  induction k generalizing n with
  | zero => omega
  | succ k ih =>
    by_cases h1 : n < 10
    · rw [Lib.nDigits_small h1]; omega
    · rw [Lib.nDigits_big h1]
      rw [Nat.pow_succ] at h
      rcases Nat.eq_zero_or_pos k with e | e
      · subst e; simp at h; omega
      · have := ih (n := n / 10) (by omega) e
        omega

theorem p1 {w x : List UInt8} (hw : (32 : UInt8) ∉ w) (hx : (32 : UInt8) ∉ x) : pieces 32 (w ++ 32 :: x) = [w, x] := by
  rw [pieces_app 32 w x hw, pieces_none 32 x hx]
theorem p2 {w x y : List UInt8} (hw : (32 : UInt8) ∉ w) (hx : (32 : UInt8) ∉ x) (hy : (32 : UInt8) ∉ y) : pieces 32 (w ++ 32 :: (x ++ 32 :: y)) = [w, x, y] := by
  rw [pieces_app 32 w _ hw, p1 hx hy]

theorem atoiN_dec {n : Nat} (h : n < 9223372036854775808) : atoiN (Lib.decDigits n) = n := by unfold atoiN; rw [atoi_dec h]

theorem read_told {o : O} (h : fits o = true) : read (told o) = some o := by
  obtain ⟨k, a, b⟩ := o
  simp only [fits] at h
  split at h
  · rename_i hk
    simp only [decide_eq_true_eq] at h
    obtain ⟨rfl, rfl⟩ := h
    rcases hk with rfl | rfl
    · have : told ⟨1, 0, 0⟩ = nopW := by simp [told]
      rw [this]; decide
    · have : told ⟨5, 0, 0⟩ = panicW := by simp [told]
      rw [this]; decide
  · split at h
    · rename_i h1 hk
      subst hk
      simp only [decide_eq_true_eq] at h
      obtain ⟨h0, h7, rfl⟩ := h
      obtain ⟨m, rfl, hm⟩ := itoa_pos h0
      have ht : told ⟨2, (m : Int), 0⟩ = submitW ++ 32 :: Lib.decDigits m := by simp [told, itoa_nat]
      have hp := p1 (w := submitW) (x := Lib.decDigits m) (by decide) (dec_not m 32 (by decide))
      rw [ht, read, hp]
      simp [kindOf, submitW, nopW, at', atoiN_dec (n := m) (by omega)]
    · split at h
      · rename_i h1 h2 hk
        subst hk
        simp only [decide_eq_true_eq] at h
        obtain ⟨h0, h7, h3, h4⟩ := h
        obtain ⟨m, rfl, hm⟩ := itoa_pos h0
        obtain ⟨m', rfl, hm'⟩ := itoa_pos h3
        have ht : told ⟨3, (m : Int), (m' : Int)⟩ = afterW ++ 32 :: (Lib.decDigits m ++ 32 :: Lib.decDigits m') := by simp [told, itoa_nat]
        have hp := p2 (w := afterW) (x := Lib.decDigits m) (y := Lib.decDigits m') (by decide) (dec_not m 32 (by decide)) (dec_not m' 32 (by decide))
        rw [ht, read, hp]
        simp [kindOf, submitW, nopW, afterW, at', atoiN_dec (n := m) (by omega), atoiN_dec (n := m') (by omega)]
      · split at h
        · rename_i h1 h2 h3 hk
          subst hk
          simp only [decide_eq_true_eq] at h
          obtain ⟨h0, h7, rfl⟩ := h
          obtain ⟨m, rfl, hm⟩ := itoa_pos (n := a) (by omega)
          have ht : told ⟨4, (m : Int), 0⟩ = cancelW ++ 32 :: Lib.decDigits m := by simp [told, itoa_nat]
          have hp := p1 (w := cancelW) (x := Lib.decDigits m) (by decide) (dec_not m 32 (by decide))
          rw [ht, read, hp]
          simp [kindOf, submitW, nopW, afterW, cancelW, at', atoiN_dec (n := m) (by omega)]
        · cases h

theorem ref_told {o : O} (h : fits o = true) : refOp (told o) = some o := by
  have hf := h
  obtain ⟨k, a, b⟩ := o
  simp only [fits] at h
  split at h
  · rename_i hk
    simp only [decide_eq_true_eq] at h
    obtain ⟨rfl, rfl⟩ := h
    rcases hk with rfl | rfl
    · have : told ⟨1, 0, 0⟩ = nopW := by simp [told]
      rw [this]; decide
    · have : told ⟨5, 0, 0⟩ = panicW := by simp [told]
      rw [this]; decide
  · split at h
    · rename_i h1 hk
      subst hk
      simp only [decide_eq_true_eq] at h
      obtain ⟨h0, h7, rfl⟩ := h
      obtain ⟨m, rfl, hm⟩ := itoa_pos h0
      have ht : told ⟨2, (m : Int), 0⟩ = submitW ++ 32 :: Lib.decDigits m := by simp [told, itoa_nat]
      have hp := p1 (w := submitW) (x := Lib.decDigits m) (by decide) (dec_not m 32 (by decide))
      have hn : number 9 (Lib.decDigits m) = some m := number_dec (dec_len (k := 9) (by omega) (by omega))
      rw [ht, refOp, hp]
      simp [hn, mkOp, chk_fits hf]
    · split at h
      · rename_i h1 h2 hk
        subst hk
        simp only [decide_eq_true_eq] at h
        obtain ⟨h0, h7, h3, h4⟩ := h
        obtain ⟨m, rfl, hm⟩ := itoa_pos h0
        obtain ⟨m', rfl, hm'⟩ := itoa_pos h3
        have ht : told ⟨3, (m : Int), (m' : Int)⟩ = afterW ++ 32 :: (Lib.decDigits m ++ 32 :: Lib.decDigits m') := by simp [told, itoa_nat]
        have hp := p2 (w := afterW) (x := Lib.decDigits m) (y := Lib.decDigits m') (by decide) (dec_not m 32 (by decide)) (dec_not m' 32 (by decide))
        have hn : number 9 (Lib.decDigits m) = some m := number_dec (dec_len (k := 9) (by omega) (by omega))
        have hn' : number 9 (Lib.decDigits m') = some m' := number_dec (dec_len (k := 9) (by omega) (by omega))
        rw [ht, refOp, hp]
        simp [hn, hn', mkOp, chk_fits hf]
      · split at h
        · rename_i h1 h2 h3 hk
          subst hk
          simp only [decide_eq_true_eq] at h
          obtain ⟨h0, h7, rfl⟩ := h
          obtain ⟨m, rfl, hm⟩ := itoa_pos (n := a) (by omega)
          have ht : told ⟨4, (m : Int), 0⟩ = cancelW ++ 32 :: Lib.decDigits m := by simp [told, itoa_nat]
          have hp := p1 (w := cancelW) (x := Lib.decDigits m) (by decide) (dec_not m 32 (by decide))
          have hn : number 9 (Lib.decDigits m) = some m := number_dec (dec_len (k := 9) (by omega) (by omega))
          rw [ht, refOp, hp]
          simp [hn, mkOp, chk_fits hf, show ¬ cancelW = submitW by decide]
        · cases h

theorem mapM_numbers : ∀ (l : List (List UInt8)) (n : List Nat), l.mapM (number 9) = some n → l = n.map Lib.decDigits
  | [], n, h => by simp at h; subst h; rfl
  | w :: r, n, h => by
    rw [List.mapM_cons] at h
    cases hw : number 9 w with
    | none => rw [hw] at h; cases h
    | some x =>
      cases hr : r.mapM (number 9) with
      | none => rw [hw, hr] at h; cases h
      | some y =>
        rw [hw, hr] at h
        obtain rfl : x :: y = n := by simpa using h
        rw [List.map_cons, ← (number_some hw).1, ← mapM_numbers r y hr]

/-- What the document takes for an op is an op that may be, and its own text. -/
theorem told_ref {p : List UInt8} {o : O} (h : refOp p = some o) : fits o = true ∧ told o = p := by
  unfold refOp at h
  cases hn : (pieces 32 p).tail.mapM (number 9) with
  | none => rw [hn] at h; cases h
  | some n =>
    rw [hn] at h
    have ht := mapM_numbers _ _ hn
    have hj := join_pieces 32 p
    cases hp : pieces 32 p with
    | nil => exact absurd hp (pieces_ne 32 p)
    | cons w r =>
      rw [hp] at h ht hj
      simp only [List.tail_cons, List.headD_cons] at h ht
      subst ht
      · obtain ⟨hf, rfl⟩ := chk_some h
        clear h
        refine ⟨hf, ?_⟩
        rw [← hj]
        match n, hf with
        | [], hf =>
          simp only [mkOp] at hf ⊢
          by_cases e1 : w = nopW
          · simp [e1, told, Lib.join_one]
          · by_cases e2 : w = panicW
            · rw [if_neg e1, if_pos e2]; simp [e2, told, Lib.join_one]
            · rw [if_neg e1, if_neg e2] at hf; exact absurd hf (by decide)
        | [x], hf =>
          simp only [mkOp] at hf ⊢
          by_cases e1 : w = submitW
          · simp [e1, told, join_cons_cons, Lib.join_one, itoa_nat]
          · by_cases e2 : w = cancelW
            · rw [if_neg e1, if_pos e2]; simp [e2, told, join_cons_cons, Lib.join_one, itoa_nat]
            · rw [if_neg e1, if_neg e2] at hf; exact absurd hf (by decide)
        | [x, y], hf =>
          simp only [mkOp] at hf ⊢
          by_cases e1 : w = afterW
          · simp [e1, told, join_cons_cons, Lib.join_one, itoa_nat]
          · rw [if_neg e1] at hf; exact absurd hf (by decide)
        | x :: y :: z :: t, hf =>
          simp only [mkOp] at hf
          exact absurd hf (by decide)

theorem told_no59 {o : O} (h : fits o = true) : (59 : UInt8) ∉ told o := by
  intro hm
  obtain ⟨k, a, b⟩ := o
  have hdec : ∀ n : Int, 0 ≤ n → (59 : UInt8) ∉ Lib.itoa n := fun n hn => by
    obtain ⟨m, rfl, e⟩ := itoa_pos hn
    rw [e]; exact dec_not m 59 (by decide)
  simp only [fits] at h
  split at h
  · rename_i hk
    rcases hk with rfl | rfl <;> simp [told, nopW, panicW] at hm
  · split at h
    · rename_i h1 hk
      subst hk
      simp only [decide_eq_true_eq] at h
      simp [told, submitW] at hm
      exact hdec a h.1 hm
    · split at h
      · rename_i h1 h2 hk
        subst hk
        simp only [decide_eq_true_eq] at h
        simp [told, afterW] at hm
        rcases hm with hm | hm
        · exact hdec a h.1 hm
        · exact hdec b h.2.2.1 hm
      · split at h
        · rename_i h1 h2 h3 hk
          subst hk
          simp only [decide_eq_true_eq] at h
          simp [told, cancelW] at hm
          exact hdec a (by omega) hm
        · cases h

theorem mapM_congr {α β : Type} (f g : α → Option β) : ∀ (l : List α) (out : List β), l.mapM f = some out → (∀ x y, x ∈ l → f x = some y → g x = some y) → l.mapM g = some out
  | [], out, h, _ => by simpa using h
  | x :: r, out, h, hg => by
    rw [List.mapM_cons] at h ⊢
    cases hx : f x with
    | none => rw [hx] at h; cases h
    | some y =>
      cases hr : r.mapM f with
      | none => rw [hx, hr] at h; cases h
      | some ys =>
        rw [hx, hr] at h
        rw [hg x y (by simp) hx, mapM_congr f g r ys hr (fun a b ha hb => hg a b (by simp [ha]) hb)]
        exact h

theorem mapM_all {α β : Type} (f : α → Option β) (P : β → Prop) : ∀ (l : List α) (out : List β), l.mapM f = some out → (∀ x y, x ∈ l → f x = some y → P y) → ∀ y ∈ out, P y
  | [], out, h, _, y, hy => by simp at h; subst h; cases hy
  | x :: r, out, h, hp, y, hy => by
    rw [List.mapM_cons] at h
    cases hx : f x with
    | none => rw [hx] at h; cases h
    | some z =>
      cases hr : r.mapM f with
      | none => rw [hx, hr] at h; cases h
      | some zs =>
        rw [hx, hr] at h
        obtain rfl : z :: zs = out := by simpa using h
        rcases List.mem_cons.1 hy with rfl | hy
        · exact hp x y (by simp) hx
        · exact mapM_all f P r zs hr (fun a b ha hb => hp a b (by simp [ha]) hb) y hy

theorem mapM_map_told : ∀ (l : List (List UInt8)) (out : List O), l.mapM refOp = some out → out.map told = l
  | [], out, h => by simp at h; subst h; rfl
  | x :: r, out, h => by
    rw [List.mapM_cons] at h
    cases hx : refOp x with
    | none => rw [hx] at h; cases h
    | some z =>
      cases hr : r.mapM refOp with
      | none => rw [hx, hr] at h; cases h
      | some zs =>
        rw [hx, hr] at h
        obtain rfl : z :: zs = out := by simpa using h
        rw [List.map_cons, (told_ref hx).2, mapM_map_told r zs hr]

theorem mapM_told : ∀ (out : List O), (∀ o ∈ out, fits o = true) → (out.map told).mapM refOp = some out
  | [], _ => by simp
  | o :: r, h => by
    rw [List.map_cons, List.mapM_cons, ref_told (h o (by simp)), mapM_told r (fun x hx => h x (by simp [hx]))]
    rfl

/-- THE LAW. -/
theorem parse_eq (s : List UInt8) : parse s = refBody s := by
  unfold parse refBody
  split
  · rfl
  · split
    · rfl
    · cases hr : (pieces 59 s).mapM refOp with
      | some out =>
        have h1 : (pieces 59 s).mapM read = some out := mapM_congr refOp read _ _ hr fun x y _ hy => by
          have := told_ref hy
          rw [← this.2]; exact read_told this.1
        have hall : ∀ o ∈ out, fits o = true := mapM_all refOp (fun o => fits o = true) _ _ hr fun x y _ hy => (told_ref hy).1
        have hne : out ≠ [] := by
          intro e
          have := mapM_map_told _ _ hr
          rw [e] at this
          exact pieces_ne 59 s this.symm
        have htext : textOf out = s := by
          unfold textOf
          rw [if_neg hne, mapM_map_told _ _ hr, join_pieces]
        rw [h1]
        simp only
        by_cases hl : out.length ≤ 16
        · rw [if_pos ⟨by simp [bodyOk, hl]; exact hall, htext⟩, if_pos hl]
        · rw [if_neg (fun e => by simp [bodyOk] at e; omega), if_neg hl]
      | none =>
        simp only
        cases hq : (pieces 59 s).mapM read with
        | none => rfl
        | some out =>
          simp only
          rw [if_neg]
          rintro ⟨hok, htext⟩
          simp only [bodyOk, Bool.and_eq_true, decide_eq_true_eq, List.all_eq_true] at hok
          have hne : out ≠ [] := by
            intro e
            subst e
            cases hp : pieces 59 s with
            | nil => exact pieces_ne 59 s hp
            | cons p ps =>
              rw [hp, List.mapM_cons] at hq
              cases hx : read p with
              | none => rw [hx] at hq; cases hq
              | some z =>
                cases hr2 : ps.mapM read with
                | none => rw [hx, hr2] at hq; cases hq
                | some zs => rw [hx, hr2] at hq; simp at hq
          unfold textOf at htext
          rw [if_neg hne] at htext
          have hp : pieces 59 s = out.map told := by
            rw [← htext]
            refine pieces_join 59 _ (by simpa using hne) fun p hp => ?_
            obtain ⟨o, ho, rfl⟩ := List.mem_map.1 hp
            exact told_no59 (hok.2 o ho)
          rw [hp, mapM_told out hok.2] at hr
          cases hr

end Bp
end Go.Proofs.YtllabeiadeclkaaDoor

/-! CmdPure: Commands: what cmd.Parse and cmd.Text come to, in plain terms. -/
namespace Go.Proofs.YtllabeiadeclkaaDoor.Cp
open Go.Proofs.YtllabeiadeclkaaDoor

structure C where
  kind : Int
  t : Int
  prio : Int
  id : Int
  n : Int
  m : Int
  body : List Bp.O
  preds : List Int
deriving DecidableEq

def zero : C := ⟨0, 0, 0, 0, 0, 0, [], []⟩

/-- The words, by kind. -/
def wordsL : List (List UInt8) :=
  [[115, 117, 98, 109, 105, 116], [97, 102, 116, 101, 114], [101, 118, 101, 114, 121], [99, 97, 110, 99, 101, 108], [97, 100, 118, 97, 110, 99, 101], [112, 105, 99, 107], [114, 111, 117, 110, 100], [114, 101, 115, 116],
   [115, 116, 97, 116, 117, 115], [115, 116, 97, 116, 101], [99, 108, 111, 115, 101], [115, 104, 117, 116, 100, 111, 119, 110], [101, 118, 101, 110, 116, 115], [114, 104, 111]]

/-- What stands where: a kind, a place, what. -/
def placesL : List ((Int × Int) × Int) :=
  [((1, 0), 1), ((1, 1), 2), ((1, 2), 6), ((1, 3), 7), ((2, 0), 1), ((2, 1), 2), ((2, 2), 6), ((2, 3), 4), ((3, 0), 1), ((3, 1), 2), ((3, 2), 6), ((3, 3), 4), ((3, 4), 5),
   ((4, 0), 3), ((9, 0), 3), ((5, 0), 1), ((5, 1), 4), ((6, 0), 5), ((6, 1), 4), ((7, 0), 4), ((8, 0), 4), ((8, 1), 5), ((11, 0), 4)]

/-- What stands at a place; 0: nothing. -/
def place (k i : Int) : Int := match placesL.find? (fun x => x.1 == (k, i)) with | some x => x.2 | none => 0

/-- Spaces in the place of commas. -/
def spaced (s : List UInt8) : List UInt8 := s.map fun b => if b = 44 then 32 else b
/-- Commas in the place of spaces. -/
def comma'd (s : List UInt8) : List UInt8 := s.map fun b => if b = 32 then 44 else b

/-- cmd.put. -/
def put (c : C) (what : Int) (s : List UInt8) : Option C :=
  if what = 6 then (if (Bp.parse (spaced s)).2 = 0 ∧ (32 : UInt8) ∉ s then some { c with body := (Bp.parse (spaced s)).1 } else none)
  else if what = 4 then (Bp.number 18 s).map fun n => { c with n := n }
  else if what = 5 then (Bp.number 18 s).map fun n => { c with m := n }
  else match Bp.number 4 s with
    | none => none
    | some n =>
      if what = 1 then some { c with t := n } else if what = 2 then some { c with prio := n } else if what = 3 then some { c with id := n }
      else if what = 7 then (if c.preds.length + 1 ≤ 16 then some { c with preds := c.preds ++ [(n : Int)] } else none)
      else none

/-- cmd.fill. -/
def fill (c : C) (i : Int) : List (List UInt8) → Option C
  | [] => if place c.kind i = 0 ∨ place c.kind i = 7 then some c else none
  | s :: r => (put c (place c.kind i) s).bind fun c' => fill c' (if place c.kind i = 7 then i else i + 1) r

/-- A word's kind; 0: it is none. -/
def kindOf (w : List UInt8) : Int := match wordsL.findIdx? (· == w) with | some i => (i : Int) + 1 | none => 0

/-- cmd.Parse. -/
def parse (s : List UInt8) : C × Int :=
  if 1000 < s.length then (zero, 2) else
  if kindOf ((Bp.pieces 32 s).headD []) = 0 then (zero, 3) else
  match fill { zero with kind := kindOf ((Bp.pieces 32 s).headD []) } 0 (Bp.pieces 32 s).tail with
  | none => (zero, 3)
  | some c => (c, 0)

theorem put_kind {c c' : C} {what : Int} {s : List UInt8} (h : put c what s = some c') : c'.kind = c.kind := by
  unfold put at h
  repeat' split at h
  all_goals first
    | (cases h; done)
    | (simp only [Option.some.injEq] at h; subst h; rfl)
    | (obtain ⟨n, _, rfl⟩ := Option.map_eq_some_iff.1 h; rfl)
end Go.Proofs.YtllabeiadeclkaaDoor.Cp

/-! CmdTPure: Commands' texts, in plain terms. -/
namespace Go.Proofs.YtllabeiadeclkaaDoor.Cp
open Go.Proofs.YtllabeiadeclkaaDoor

/-- A command's numbers are of their kinds. -/
structure Rng (c : C) : Prop where
  t0 : -9223372036854775808 ≤ c.t
  t1 : c.t ≤ 9223372036854775807
  p0 : -9223372036854775808 ≤ c.prio
  p1 : c.prio ≤ 9223372036854775807
  i0 : -9223372036854775808 ≤ c.id
  i1 : c.id ≤ 9223372036854775807
  n0 : 0 ≤ c.n
  n1 : c.n < 18446744073709551616
  m0 : 0 ≤ c.m
  m1 : c.m < 18446744073709551616
  l0 : ∀ p ∈ c.preds, -9223372036854775808 ≤ p ∧ p ≤ 9223372036854775807

/-- The text of a body; nothing, if it is none. -/
def bodyW (c : C) : List UInt8 := comma'd (if Bp.bodyOk c.body then Bp.textOf c.body else [])

/-- cmd.told. -/
def toldW (c : C) (what : Int) : List UInt8 :=
  if what = 1 then Lib.itoa c.t else if what = 2 then Lib.itoa c.prio else if what = 3 then Lib.itoa c.id
  else if what = 4 then Lib.decDigits c.n.toNat else if what = 5 then Lib.decDigits c.m.toNat else bodyW c

/-- What stands at a place, in words. -/
def pieceOf (c : C) (what : Int) : List (List UInt8) := if what = 7 then (c.preds.take 17).map Lib.itoa else [toldW c what]
def wordsTo (c : C) (n : Nat) : List (List UInt8) := (List.range n).flatMap fun (j : Nat) => pieceOf c (place c.kind (j : Nat))
theorem wordsTo_zero (c : C) : wordsTo c 0 = [] := by simp [wordsTo]
theorem wordsTo_succ (c : C) (n : Nat) : wordsTo c (n + 1) = wordsTo c n ++ pieceOf c (place c.kind n) := by
  unfold wordsTo
  rw [List.range_succ, List.flatMap_append]; simp

/-- How many places a kind has. -/
def rowLen (k : Int) : Nat := if k = 1 ∨ k = 2 then 4 else if k = 3 then 5 else if k = 5 ∨ k = 6 ∨ k = 8 then 2 else if k = 4 ∨ k = 7 ∨ k = 9 ∨ k = 11 then 1 else 0
theorem kinds14 {k : Int} (h0 : 1 ≤ k) (h1 : k ≤ 14) : k = 1 ∨ k = 2 ∨ k = 3 ∨ k = 4 ∨ k = 5 ∨ k = 6 ∨ k = 7 ∨ k = 8 ∨ k = 9 ∨ k = 10 ∨ k = 11 ∨ k = 12 ∨ k = 13 ∨ k = 14 := by omega
theorem rowLen_ne {k : Int} (h0 : 1 ≤ k) (h1 : k ≤ 14) : ∀ j : Nat, j < rowLen k → place k j ≠ 0 := by
  rcases kinds14 h0 h1 with rfl | rfl | rfl | rfl | rfl | rfl | rfl | rfl | rfl | rfl | rfl | rfl | rfl | rfl <;> decide +kernel
theorem rowLen_end {k : Int} (h0 : 1 ≤ k) (h1 : k ≤ 14) : place k (rowLen k : Nat) = 0 := by
  rcases kinds14 h0 h1 with rfl | rfl | rfl | rfl | rfl | rfl | rfl | rfl | rfl | rfl | rfl | rfl | rfl | rfl <;> decide +kernel
theorem rowLen_is {k : Int} (h0 : 1 ≤ k) (h1 : k ≤ 14) {n : Nat} (hn : n ≤ rowLen k) (hz : place k n = 0) : n = rowLen k := by
  rcases Nat.lt_or_ge n (rowLen k) with h | h
  · exact absurd hz (rowLen_ne h0 h1 n h)
  · omega
theorem rowLen_lt {k : Int} (h0 : 1 ≤ k) (h1 : k ≤ 14) {n : Nat} (hn : n ≤ rowLen k) (hz : place k n ≠ 0) : n < rowLen k := by
  rcases Nat.lt_or_ge n (rowLen k) with h | h
  · exact h
  · obtain rfl : n = rowLen k := by omega
    exact absurd (rowLen_end h0 h1) hz
theorem rowLen_le (k : Int) : rowLen k ≤ 5 := by
  unfold rowLen
  repeat' split
  all_goals omega

def word (k : Int) : List UInt8 := wordsL.getD (k - 1).toNat []
/-- cmd.line. -/
def lineL (c : C) : List (List UInt8) := word c.kind :: wordsTo c (rowLen c.kind)
def line (c : C) : List UInt8 := Lib.join (lineL c) [32]

/-- cmd.Text. -/
def text (c : C) : List UInt8 × Int :=
  if c.kind < 1 ∨ 14 < c.kind then ([], 1) else if parse (line c) = (c, 0) then (line c, 0) else ([], 1)
end Go.Proofs.YtllabeiadeclkaaDoor.Cp

/-! Base: Small lemmas that all walks of this seat use; no program. -/
namespace Go.Proofs.YtllabeiadeclkaaDoor
open Go.RowKit

theorem ret_bool {x y : Bool} (h : x = y) : Ending.returned (.bool x) = .returned (.bool y) := by rw [h]
theorem ret_int {k : IntKind} {x y : Int} (h : x = y) : Ending.returned (.int k x) = .returned (.int k y) := by rw [h]
theorem bl_alloc {B : Nat} {w W : World} (h : Below B w W) (hB : B ≤ W.heap.size) (o : Obj) : Below B w (W.alloc o) := h.alloc hB o
theorem bl0 (w : World) : Below w.heap.size w w := Below.refl _ _
theorem bl1 {w W : World} (h : Below w.heap.size w W) (o : Obj) : Below w.heap.size w (W.alloc o) := h.alloc h.size o
theorem bl2 {w W : World} (h : Below w.heap.size w W) : Below w.heap.size w W.drew := h.drew
theorem bl3 {w W W' : World} (h : Below w.heap.size w W) (h' : Below W.heap.size W W') : Below w.heap.size w W' := h.trans (h'.mono h.size)
theorem bl4 {w W : World} (h : Below w.heap.size w W) (n : Nat) : Below w.heap.size w (W.drewN n) := ⟨h.os, h.tape, h.output, h.size, h.block⟩
theorem blk {w W : World} (h : Below w.heap.size w W) {b : Nat} {o : Obj} (hb : w.heap[b]? = some o) : W.heap[b]? = some o :=
  (h.block b (Array.getElem?_eq_some_iff.1 hb).1).trans hb
theorem cellk {w W : World} (h : Below w.heap.size w W) {a : Addr} {v : Value} (hc : w.cell? a = some v) : W.cell? a = some v :=
  (h.cell (World.block_lt_of_cell? w a hc)).trans hc
theorem bcell {W w1 : World} (hb : Below W.heap.size W w1) : (∀ b o, b < W.heap.size → w1.cell? ⟨b, o, none⟩ = W.cell? ⟨b, o, none⟩) ∧ (∀ b o, b < W.heap.size → w1.frozen? ⟨b, o, none⟩ = W.frozen? ⟨b, o, none⟩) :=
  ⟨fun b o h => hb.cell (p := ⟨b, o, none⟩) h, fun b o h => hb.frozen (p := ⟨b, o, none⟩) h⟩
theorem sc_block {w : World} {b : Nat} {c : Array Value} {t : TypeId} {f : Nat × Nat} (h : w.heap[b]? = some (.cells c t f)) (i : Nat) (v : Value) : (w.setCell ⟨b, i, none⟩ v).heap[b]? = some (.cells (c.setIfInBounds i v) t f) := by
  simp only [World.setCell, Array.getElem?_modify, if_true, h, Option.map_some]
  rfl
theorem cell_blk {w : World} {b : Nat} {c : Array Value} {t : TypeId} {f : Nat × Nat} (h : w.heap[b]? = some (.cells c t f)) (i : Nat) : w.cell? ⟨b, i, none⟩ = c[i]? := by
  simp [World.cell?, h]
theorem frozen_blk {w : World} {b : Nat} {c : Array Value} {t : TypeId} (h : w.heap[b]? = some (.cells c t (0, 0))) (i : Nat) : w.frozen? ⟨b, i, none⟩ = false := by
  simp [World.frozen?, h]
theorem blk_ne {w w1 : World} {r b : Nat} {o : Obj} (hg : w.grownBy w1 (some r)) (h : w.heap[b]? = some o) (hne : b ≠ r) : w1.heap[b]? = some o :=
  (hg.block b (Array.getElem?_eq_some_iff.1 h).1 (fun e => hne (Option.some.inj e))).trans h
theorem bl_grown {w wr w1 : World} {r : Nat} (h : Below w.heap.size w wr) (hg : wr.grownBy w1 (some r)) (hr : w.heap.size ≤ r) : Below w.heap.size w w1 :=
  h.grown hg h.size (fun k e => by cases e; exact hr)
theorem drew_new (w : World) (o : Obj) (b : Nat) (h : b = w.heap.size) : ((w.alloc o).drew).heap[b]? = some o := by subst h; exact heap_alloc_new w o
theorem alloc_new (w : World) (o : Obj) (b : Nat) (h : b = w.heap.size) : (w.alloc o).heap[b]? = some o := by subst h; exact heap_alloc_new w o
theorem blk_below {w W : World} {b : Nat} {o : Obj} (hb : w.heap[b]? = some o) (B : Nat) (h : Below B w W) (hlt : b < B) : W.heap[b]? = some o := (h.block b hlt).trans hb
theorem bl5 {w W : World} (h : Below w.heap.size w W) (b o : Nat) (v : Value) (hb : w.heap.size ≤ b) : Below w.heap.size w (W.setCell ⟨b, o, none⟩ v) := h.setCell hb v
end Go.Proofs.YtllabeiadeclkaaDoor

/-! BodyLib: What the library's functions answer, in the words of the plain laws: pieces between one byte, numbers, texts; each under the package-level variables that it reads. -/
namespace Go.Proofs.YtllabeiadeclkaaDoor
open Go.RowKit

/-- The library's variables hold what they should. -/
structure Glob (w : World) : Prop where
  maxLen : ∃ m, w.cell? ⟨2, 0, none⟩ = some (.int .i64 m)
  syn : ∃ te pe, w.cell? ⟨3, 0, none⟩ = some (.iface te pe)
  rng : ∃ te pe, w.cell? ⟨4, 0, none⟩ = some (.iface te pe)
  pow : Lib.TabIs Tryd.prog w "internal/strconv.uint64pow10" .u64 Lib.pow10Tab
  big : 5 < w.heap.size
  low : 8 ≤ w.heap.size

theorem Glob.below {w W : World} (h : Glob w) (hb : Below w.heap.size w W) : Glob W where
  maxLen := let ⟨m, hm⟩ := h.maxLen; ⟨m, cellk hb hm⟩
  syn := let ⟨a, b, hm⟩ := h.syn; ⟨a, b, cellk hb hm⟩
  rng := let ⟨a, b, hm⟩ := h.rng; ⟨a, b, cellk hb hm⟩
  pow := var?_below hb (show Tryd.prog.globalNamed "internal/strconv.uint64pow10" = some 5 by kernel_rfl) h.big h.pow
  big := Nat.lt_of_lt_of_le h.big hb.size
  low := Nat.le_trans h.low hb.size

/-- A text as the model's string. -/
abbrev S (l : List UInt8) : ByteArray := ⟨l.toArray⟩
theorem S_data (s : ByteArray) : S s.data.toList = s := by cases s; simp [S]
theorem S_list (l : List UInt8) : (S l).data.toList = l := by simp
theorem S_size (l : List UInt8) : (S l).size = l.length := by simp [ByteArray.size]
theorem size_len (s : ByteArray) : s.size = s.data.toList.length := by cases s; simp [ByteArray.size]

theorem index_cons (b c : UInt8) (r : List UInt8) (h : b ≠ c) : Lib.index (b :: r) [c] = if Lib.index r [c] == -1 then -1 else Lib.index r [c] + 1 := by
  have hp : ([c] : List UInt8).isPrefixOf (b :: r) = false := by simp [List.isPrefixOf, Ne.symm h]
  rw [Lib.index, hp]; simp
theorem index_eq (c : UInt8) (r : List UInt8) : Lib.index (c :: r) [c] = 0 := by rw [Lib.index]; simp [List.isPrefixOf]

theorem split_pieces (c : UInt8) : ∀ s : List UInt8, Lib.splitK [c] 0 (Lib.count s [c]) s = Bp.pieces c s
  | [] => by
    have : Lib.count [] [c] = 0 := Lib.count_miss (by simp [Lib.index])
    rw [this]; simp [Lib.splitK, Bp.pieces]
  | b :: r => by
    have ih := split_pieces c r
    by_cases h : b = c
    · subst h
      rw [Lib.count_cons_eq, Nat.add_comm, Lib.splitK, index_eq]
      simp [Bp.pieces, ih]
    · rw [Lib.count_cons_ne b c r h]
      simp only [Bp.pieces, if_neg h]
      by_cases hm : Lib.index r [c] = -1
      · rw [Lib.count_miss hm] at ih ⊢
        simp only [Lib.splitK] at ih ⊢
        rw [← ih]
      · have hge := Lib.index_ge r [c]
        obtain ⟨j, hj⟩ : ∃ j : Nat, Lib.index r [c] = j := ⟨(Lib.index r [c]).toNat, by omega⟩
        obtain ⟨k, hk⟩ : ∃ k, Lib.count r [c] = k + 1 := ⟨Lib.count (r.drop (j + 1)) [c], by rw [Lib.count_hit (by simp) hj]; simp; omega⟩
        rw [hk] at ih ⊢
        have hi : Lib.index (b :: r) [c] = ((j + 1 : Nat) : Int) := by rw [index_cons b c r h, if_neg (fun e => hm (beq_iff_eq.1 e)), hj]; omega
        have h1 : ¬ (Lib.index r [c] == -1) = true := fun e => hm (beq_iff_eq.1 e)
        have h2 : ¬ (Lib.index (b :: r) [c] == -1) = true := fun e => by have := beq_iff_eq.1 e; omega
        rw [Lib.splitK, if_neg h1, hj] at ih
        rw [Lib.splitK, if_neg h2, hi, ← ih]
        simp

theorem splitB_pieces (c : UInt8) (s : ByteArray) : (Lib.splitB (S [c]) 0 (Lib.countB s (S [c])) s).map (·.data.toList) = Bp.pieces c s.data.toList := by
  rw [Lib.splitB_data, S_list]
  exact split_pieces c s.data.toList

/-- strings.Split at one byte. -/
theorem split_any (s : ByteArray) (c : UInt8) (w : World) (G : Glob w) (hs : s.size ≤ 4294967280) :
    Calls Tryd.prog 24 #[.string s, .string (S [c])] w fun e w' =>
      e = .returned (.slice (some ⟨w.heap.size, 0, none⟩) (Bp.pieces c s.data.toList).length (Bp.pieces c s.data.toList).length) ∧
      w' = w.alloc (.cells ((Bp.pieces c s.data.toList).map fun l => Value.string (S l)).toArray 9) := by
  obtain ⟨m, hm⟩ := G.maxLen
  refine (Tryd.strings_Split s (S [c]) m w (by omega) hm (by simp [S_size])).mono ?_
  rintro e w' ⟨rfl, rfl⟩
  have hp := splitB_pieces c s
  have hl : (Lib.splitB (S [c]) 0 (Lib.countB s (S [c])) s).length = Lib.countB s (S [c]) + 1 := Lib.splitB_all (S [c]) (by simp [S_size]) 0 _ s rfl
  have hl2 : (Bp.pieces c s.data.toList).length = Lib.countB s (S [c]) + 1 := by rw [← hp, List.length_map, hl]
  refine ⟨by rw [hl2], ?_⟩
  rw [← hp, List.map_map]
  congr 4

/-- strconv.Atoi: the number (0, or the greatest, beside an error), and some error or none. -/
theorem atoi_any (s : ByteArray) (w : World) (G : Glob w) (hs : s.size ≤ 281474976710656) :
    Calls Tryd.prog 32 #[.string s] w fun e w' => (∃ v, e = .returned (.tuple #[.int .i64 (Bp.atoiN s.data.toList), v])) ∧ Below w.heap.size w w' := by
  cases h : Lib.atoiAll s.data.toList
  case ok v =>
    refine (Tryd.strconv_Atoi_ok s (by omega) v h w).mono ?_
    rintro e w' ⟨rfl, hw⟩
    refine ⟨⟨_, by rw [Bp.atoiN, h]⟩, ?_⟩
    rcases hw with rfl | ⟨t, rfl⟩
    · exact bl0 _
    · exact ⟨rfl, rfl, rfl, by rw [Lib.bytesWorld_size]; omega, fun i hi => Lib.bytesWorld_at_old w _ t i hi⟩
  case range =>
    obtain ⟨te, pe, hv⟩ := G.rng
    refine (Tryd.strconv_Atoi_range s hs h _ w hv (.inr ⟨_, _, rfl⟩)).mono ?_
    rintro e w' ⟨N, rfl, _, _, hb⟩
    exact ⟨⟨_, by rw [Bp.atoiN, h]⟩, hb⟩
  · obtain ⟨te, pe, hv⟩ := G.syn
    refine (Any.strconv_Atoi_syntax Tryd.laysC172 s hs h _ w hv (.inr ⟨_, _, rfl⟩)).mono ?_
    rintro e w' ⟨N, rfl, _, _, hb⟩
    exact ⟨⟨_, by rw [Bp.atoiN, h]⟩, hb⟩

/-- strconv.Itoa. -/
theorem itoa_any (n : Int) (w : World) (G : Glob w) (h0 : -9223372036854775808 ≤ n) (h1 : n ≤ 9223372036854775807) :
    Calls Tryd.prog 45 #[.int .i64 n] w fun e w' => e = .returned (.string (S (Lib.itoa n))) ∧ Below w.heap.size w w' := by
  refine (Tryd.strconv_Itoa n h0 h1 w G.pow).mono ?_
  rintro e w' ⟨rfl, k, os, rfl⟩
  exact ⟨rfl, Lib.below_grow _ w (Nat.le_refl _) k os⟩

/-- A slice of strings that is read. -/
def StrsAt (w : World) (A : Option Addr) (l : List (List UInt8)) : Prop :=
  0 < l.length → ∃ b o, A = some ⟨b, o, none⟩ ∧ b < w.heap.size ∧ ∀ (j : Nat) x, l[j]? = some x → w.cell? ⟨b, o + j, none⟩ = some (.string (S x))

/-- strings.Join. -/
theorem join_any (A : Option Addr) (c : Nat) (l : List (List UInt8)) (sep : List UInt8) (w : World) (h : StrsAt w A l) (hc : l.length ≤ c) (hlen : (Lib.join l sep).length ≤ 140737488355328) (hN : l.length ≤ 140737488355328) :
    Calls Tryd.prog 36 #[.slice A l.length c, .string (S sep)] w fun e w' => e = .returned (.string (S (Lib.join l sep))) ∧ Below w.heap.size w w' := by
  rcases Nat.eq_zero_or_pos l.length with h0 | h0
  · obtain rfl : l = [] := List.eq_nil_of_length_eq_zero h0
    refine (Tryd.strings_Join_none A c (S sep) w).mono ?_
    rintro e w' ⟨rfl, rfl⟩
    exact ⟨by simp [S, Lib.join_nil], bl0 _⟩
  · obtain ⟨b, o, rfl, hb, hcell⟩ := h h0
    have e1 : (l.map S).map (·.data.toList) = l := by rw [List.map_map]; exact (List.map_congr_left fun x _ => S_list x).trans (List.map_id l)
    have := Tryd.strings_Join b o c (l.map S) (S sep) w (fun j x hx => by
      rw [List.getElem?_map] at hx
      obtain ⟨y, hy, rfl⟩ := Option.map_eq_some_iff.1 hx
      exact hcell j y hy) hb (by simpa using hN) (by simpa using hc) (by rw [e1, S_list]; exact hlen)
    rw [e1, S_list, List.length_map] at this
    exact this

/-- strings.Index of one byte. -/
theorem index_any (s : ByteArray) (c : UInt8) (w : World) :
    Calls Tryd.prog 50 #[.string s, .string (S [c])] w fun e w' => e = .returned (.int .i64 (Lib.indexByte s.data.toList c)) ∧ w = w' :=
  (Tryd.strings_Index_one s c w).mono fun _ _ h => ⟨h.1, h.2.symm⟩
end Go.Proofs.YtllabeiadeclkaaDoor

/-! FmtUint: strconv.FormatUint at base 10. -/
namespace Go.Proofs.YtllabeiadeclkaaDoor
open Go.Shelf Go.RowKit Go.Sort Go.Lib

theorem zeros_row (w : World) (T : TypeId) (nd : Nat) (hs : nd ≤ 24) : Holds (fun (b : UInt8) => Value.int .u8 (b.toNat : Int)) (w.alloc (.cells Lib.zeros24 T)) w.heap.size 0 (Array.replicate nd (0 : UInt8)) := fun j hj => by
  have hj' : j < nd := by simpa using hj
  refine ⟨?_, World.frozen?_alloc_new _ _ _ _⟩
  rw [World.cell?_alloc_new, Lib.zeros24_at _ (by omega), getElem!_pos _ j hj]
  simp

theorem row_below (w : World) (o : Obj) (dk : Array UInt8) (k : Nat) : Below w.heap.size w ((putRow (fun (b : UInt8) => Value.int .u8 (b.toNat : Int)) (w.alloc o) w.heap.size 0 dk).drewN k) := by
  rw [alloc_eq_grow]
  obtain ⟨os', _, e⟩ := putRow_grow_new (fun (b : UInt8) => Value.int .u8 (b.toNat : Int)) w #[o] w.heap.size 0 dk (Nat.le_refl _)
  rw [e]
  exact Lib.below_grow _ w (Nat.le_refl _) k os'

set_option maxHeartbeats 6400000 in
set_option maxRecDepth 100000 in
theorem fmtU_inner (u : Nat) (hu64 : u < 18446744073709551616) (w : World) (G : Glob w) :
    Calls Tryd.prog 81 #[.int .u64 u, .int .i64 10] w fun e w' => e = .returned (.string (S (Lib.decDigits u))) ∧ Below w.heap.size w w' := by
  by_cases hs : u < 100
  · have hc : IntKind.i64.wrap (u : Int) = u := by simp [IntKind.wrap, IntKind.signed, IntKind.bits]; omega
    go_enter Tryd.func81, Tryd.ntmps81
    go_wp2_with (go_at_call 92; go_must (refine (Tryd.internal_strconv_small u hs _).mono ?_; rintro e w' ⟨rfl, rfl⟩))
    go_ret
    exact ⟨rfl, bl0 _⟩
  · have hu1 : 1 ≤ u := by omega
    have hnd20 : Lib.nDigits u ≤ 20 := by have := Lib.numDigits_eq u hu1 hu64; split at this <;> omega
    have hal : Tryd.prog.arrayLen 137 = 24 := by kernel_rfl
    have hsl : ∀ W, (Instr.sliceAt 137 (.pointer (some ⟨w.heap.size, 0, none⟩)) none (some (.int .i64 (Lib.nDigits u : Int))) none).run Tryd.prog W = .ok (.slice (some ⟨w.heap.size, 0, none⟩) (Lib.nDigits u) 24) W := fun W => by
      rw [run_sliceAt_array_h W 137 ⟨w.heap.size, 0, none⟩ (by kernel_rfl) .i64 (Lib.nDigits u : Int) (by omega) (by rw [hal]; omega)]
      go_simp
      try omega
    have hH0 := zeros_row w 137 (Lib.nDigits u) (by omega)
    have hfmt := Tryd.internal_strconv_formatBase10 w.heap.size 0 24 u (Array.replicate (Lib.nDigits u) 0) (w.alloc (.cells Lib.zeros24 137)) hH0 (by rw [Array.size_replicate]; exact Lib.lt_pow_nDigits u) hu64 (by rw [Array.size_replicate]; omega)
    rw [Array.size_replicate] at hfmt
    have HH0 := Lib.hid hH0
    have HG := Lib.hid G
    clear hH0 hal G
    go_enter Tryd.func81, Tryd.ntmps81
    go_wp2_with (first
      | (go_at_call 93; refine (Tryd.internal_strconv_numDigits u hu1 hu64 _ (Lib.tabIs_alloc HG.out.pow _)).mono ?_; rintro e w' ⟨rfl, rfl⟩))
    go_at_call 94
    refine hfmt.mono ?_
    rintro e w' ⟨rfl, k, v', dk, rfl, hF⟩
    have hcv : (convert 100 9 (.slice (some ⟨w.heap.size, 0, none⟩) (Lib.nDigits u) 24)).run Tryd.prog ((putRow (fun (b : UInt8) => Value.int .u8 (b.toNat : Int)) (w.alloc (.cells Lib.zeros24 137)) w.heap.size 0 dk).drewN k) = .ok (.string ⟨(Lib.decDigits u).toArray⟩) ((putRow (fun (b : UInt8) => Value.int .u8 (b.toNat : Int)) (w.alloc (.cells Lib.zeros24 137)) w.heap.size 0 dk).drewN k) := by
      have h := run_convert_bytes_back (P := Tryd.prog) ((putRow (fun (b : UInt8) => Value.int .u8 (b.toNat : Int)) (w.alloc (.cells Lib.zeros24 137)) w.heap.size 0 dk).drewN k) 100 9 5 ⟨w.heap.size, 0, none⟩ 24 (Lib.decDigits u) (by kernel_rfl) (by kernel_rfl) Tryd.underlying9 (fun j hj => by
        rw [Lib.row_is_numeral hF j hj, Lib.add_plain, World.cell?_drewN]
        exact cell?_putRow (fun (b : UInt8) => Value.int .u8 (b.toNat : Int)) _ w.heap.size 0 _ dk HH0.out (by rw [hF.size, Array.size_replicate]) j (by rw [hF.size]; rw [Lib.decDigits_length] at hj; exact hj))
      rw [Lib.decDigits_length] at h
      exact h
    go_wp2
    go_ret
    exact ⟨rfl, row_below _ _ _ _⟩

set_option maxRecDepth 100000 in
theorem fmtU_any (u : Nat) (hu64 : u < 18446744073709551616) (w : World) (G : Glob w) :
    Calls Tryd.prog 65 #[.int .u64 u, .int .i64 10] w fun e w' => e = .returned (.string (S (Lib.decDigits u))) ∧ Below w.heap.size w w' := by
  have HG := Lib.hid G
  clear G
  go_enter Tryd.func65, Tryd.ntmps65
  go_wp2_with (go_at_call 81; go_must (refine (fmtU_inner u hu64 _ HG.out).mono ?_; rintro e w' ⟨rfl, hb⟩))
  go_ret
  exact ⟨rfl, hb⟩
end Go.Proofs.YtllabeiadeclkaaDoor

/-! CmdNum: cmd.number: a word's number. -/
namespace Go.Proofs.YtllabeiadeclkaaDoor
open Go.RowKit

theorem mag_dec {n : Nat} (h : n < 9223372036854775808) : Lib.parseMag (Lib.decDigits n) = .ok n := by
  unfold Lib.parseMag
  rw [if_neg (Bp.dec_ne n)]
  exact Bp.parse10 _ 0 n (Bp.numVal_dec n) (by omega)

theorem number_mag {m n : Nat} {l : List UInt8} (hm : m ≤ 18) (h : Bp.number m l = some n) : Lib.parseUintB 64 l = .ok n ∧ l = Lib.decDigits n ∧ l.length ≤ m ∧ n < 1000000000000000000 := by
  obtain ⟨h1, h2⟩ := Bp.number_some h
  have hn : n < 10 ^ 18 := by
    have := h2
    rw [h1, Lib.decDigits_length] at this
    exact Nat.lt_of_lt_of_le (Lib.lt_pow_nDigits n) (Nat.pow_le_pow_right (by omega) (by omega))
  exact ⟨by rw [Lib.parseUintB_64, h1]; exact mag_dec (by omega), h1, h2, hn⟩

/-- What cmd.number comes to. -/
def NumPost (s : List UInt8) (m : Nat) (w : World) (e : Ending) (w' : World) : Prop :=
  Below w.heap.size w w' ∧ ∃ u : Nat, match Bp.number m s with
    | some n => e = .returned (.tuple #[.int .u64 n, .bool true])
    | none => e = .returned (.tuple #[.int .u64 u, .bool false])

set_option maxRecDepth 100000 in
set_option maxHeartbeats 1600000 in
theorem number_any (s : List UInt8) (m : Nat) (hm : m ≤ 18) (w : World) (G : Glob w) (hs : s.length ≤ 281474976710656) : Calls Tryd.prog 64 #[.string (S s), .int .i64 m] w (NumPost s m w) := by
  have HG := Lib.hid G
  clear G
  have hz : (S s).size = s.length := S_size s
  have hd : (S s).data.toList = s := S_list s
  cases h : Lib.parseUintB 64 s
  case ok u =>
    have hu : u < 18446744073709551616 := by have := Lib.parseUintB_le h; omega
    have HP : Hid (Calls Tryd.prog 80 #[.string (S s), .int .i64 10, .int .i64 64] w fun e w' => e = .returned (.tuple #[.int .u64 u, .nilIface]) ∧ Below w.heap.size w w') := Lib.hid <| by
      refine (Tryd.strconv_ParseUint_10_at64_ok (S s) (by omega) u (by rw [hd]; exact h) w).mono ?_
      rintro e w' ⟨rfl, hw⟩
      refine ⟨rfl, ?_⟩
      rcases hw with rfl | rfl
      · exact bl0 _
      · exact ⟨rfl, rfl, rfl, by rw [Lib.bytesWorld_size]; omega, fun i hi => Lib.bytesWorld_at_old w _ _ i hi⟩
    by_cases hl : s.length ≤ m
    · have hl' : ((s.length : Int) ≤ (m : Int)) := by omega
      by_cases he : Lib.decDigits u = s
      · have hn : Bp.number m s = some u := by rw [← he]; exact Bp.number_dec (by rw [he]; exact hl)
        have HN := Lib.hid hn
        have he' : (Lib.decDigits u == s) = true := by simpa using he
        clear hn h he
        go_enter Tryd.func64, Tryd.ntmps64
        go_wp2_with (first
          | (go_at_call 80; go_must (refine HP.out.mono ?_; rintro e w1 ⟨rfl, hb1⟩; have HB1 := Lib.hid hb1; clear hb1))
          | (go_at_call 65; go_must (refine (fmtU_any u hu _ (HG.out.below HB1.out)).mono ?_; rintro e w2 ⟨rfl, hb2⟩; have HB2 := Lib.hid (bl3 HB1.out hb2); clear hb2)))
        go_ret2
        refine ⟨HB2.out, u, ?_⟩
        rw [HN.out]
        rfl
      · have hn : Bp.number m s = none := by
          cases hc : Bp.number m s with
          | none => rfl
          | some n =>
            obtain ⟨h1, h2, _⟩ := number_mag hm hc
            rw [h] at h1
            injection h1 with h1
            exact absurd (h1 ▸ h2.symm) he
        have HN := Lib.hid hn
        have he' : (Lib.decDigits u == s) = false := beq_eq_false_iff_ne.2 he
        clear hn h he
        go_enter Tryd.func64, Tryd.ntmps64
        go_wp2_with (first
          | (go_at_call 80; go_must (refine HP.out.mono ?_; rintro e w1 ⟨rfl, hb1⟩; have HB1 := Lib.hid hb1; clear hb1))
          | (go_at_call 65; go_must (refine (fmtU_any u hu _ (HG.out.below HB1.out)).mono ?_; rintro e w2 ⟨rfl, hb2⟩; have HB2 := Lib.hid (bl3 HB1.out hb2); clear hb2)))
        go_ret2
        refine ⟨HB2.out, u, ?_⟩
        rw [HN.out]
        rfl
    · have hn : Bp.number m s = none := by
        cases hc : Bp.number m s with
        | none => rfl
        | some n => exact absurd (number_mag hm hc).2.2.1 hl
      have HN := Lib.hid hn
      have hl' : (m : Int) < (s.length : Int) := by omega
      clear hn h
      go_enter Tryd.func64, Tryd.ntmps64
      go_wp2_with (go_at_call 80; go_must (refine HP.out.mono ?_; rintro e w1 ⟨rfl, hb1⟩; have HB1 := Lib.hid hb1; clear hb1))
      go_ret2
      refine ⟨HB1.out, u, ?_⟩
      rw [HN.out]
      rfl
  case range =>
    have hn : Bp.number m s = none := by
      cases hc : Bp.number m s with
      | none => rfl
      | some n => have h1 := (number_mag hm hc).1; rw [h] at h1; cases h1
    have HN := Lib.hid hn
    obtain ⟨te, pe, hv⟩ := HG.out.rng
    have HP : Hid (Calls Tryd.prog 80 #[.string (S s), .int .i64 10, .int .i64 64] w fun e w' => (∃ tq pq, e = .returned (.tuple #[.int .u64 18446744073709551615, .iface tq pq])) ∧ Below w.heap.size w w') := Lib.hid <| by
      refine (Tryd.strconv_ParseUint_10_at64_range (S s) (by omega) (by rw [hd]; exact h) _ w hv (.inr ⟨_, _, rfl⟩)).mono ?_
      rintro e w' ⟨N, rfl, _, _, hb⟩
      exact ⟨⟨_, _, rfl⟩, hb⟩
    clear hn h hv
    go_enter Tryd.func64, Tryd.ntmps64
    go_wp2_with (go_at_call 80; go_must (refine HP.out.mono ?_; rintro e w1 ⟨⟨tq, pq, rfl⟩, hb1⟩; have HB1 := Lib.hid hb1; clear hb1))
    go_ret2
    refine ⟨HB1.out, 18446744073709551615, ?_⟩
    rw [HN.out]
    rfl
  · have hn : Bp.number m s = none := by
      cases hc : Bp.number m s with
      | none => rfl
      | some n => have h1 := (number_mag hm hc).1; rw [h] at h1; cases h1
    have HN := Lib.hid hn
    obtain ⟨te, pe, hv⟩ := HG.out.syn
    have HP : Hid (Calls Tryd.prog 80 #[.string (S s), .int .i64 10, .int .i64 64] w fun e w' => (∃ tq pq, e = .returned (.tuple #[.int .u64 0, .iface tq pq])) ∧ Below w.heap.size w w') := Lib.hid <| by
      refine (Any.strconv_ParseUint_10_at64_syntax Tryd.laysPu14 (S s) (by omega) (by rw [hd]; exact h) _ w hv (.inr ⟨_, _, rfl⟩)).mono ?_
      rintro e w' ⟨N, rfl, _, _, hb⟩
      exact ⟨⟨_, _, rfl⟩, hb⟩
    clear hn h hv
    go_enter Tryd.func64, Tryd.ntmps64
    go_wp2_with (go_at_call 80; go_must (refine HP.out.mono ?_; rintro e w1 ⟨⟨tq, pq, rfl⟩, hb1⟩; have HB1 := Lib.hid hb1; clear hb1))
    go_ret2
    refine ⟨HB1.out, 0, ?_⟩
    rw [HN.out]
    rfl
end Go.Proofs.YtllabeiadeclkaaDoor

/-! Repl: strings.ReplaceAll of one byte by another one, strings.Contains of one byte. -/
namespace Go.Proofs.YtllabeiadeclkaaDoor
open Go.RowKit

def mapB (a b : UInt8) (s : List UInt8) : List UInt8 := s.map fun x => if x = a then b else x
theorem mapB_none {a b : UInt8} {s : List UInt8} (h : a ∉ s) : mapB a b s = s := by
  unfold mapB
  conv => rhs; rw [← List.map_id s]
  exact List.map_congr_left fun x hx => by simp [show x ≠ a from fun e => h (e ▸ hx)]
theorem mapB_len (a b : UInt8) (s : List UInt8) : (mapB a b s).length = s.length := by simp [mapB]

theorem repl_k (a b : UInt8) : ∀ (k : Nat) (s : List UInt8), s.count a = k → Lib.replaceK [a] [b] k s = mapB a b s
  | 0, s, h => by
    have : a ∉ s := fun hm => by have := List.count_pos_iff.2 hm; omega
    rw [mapB_none this]; rfl
  | k + 1, s, h => by
    have hm : a ∈ s := List.count_pos_iff.1 (by omega)
    have hge := Lib.indexByte_ge s a
    have hne : Lib.indexByte s a ≠ -1 := fun e => by
      obtain ⟨j, hj⟩ := List.mem_iff_getElem?.1 hm
      exact Lib.indexByte_none e j hj
    obtain ⟨i, hi⟩ := Int.eq_ofNat_of_zero_le (show 0 ≤ Lib.indexByte s a by omega)
    obtain ⟨h1, h2⟩ := Lib.indexByte_some hi
    obtain ⟨hlt, he⟩ := List.getElem?_eq_some_iff.1 h1
    have hs : s = s.take i ++ a :: s.drop (i + 1) := by
      conv => lhs; rw [← List.take_append_drop i s, List.drop_eq_getElem_cons hlt, he]
    have hno : a ∉ s.take i := fun hx => by
      obtain ⟨j, hj⟩ := List.mem_iff_getElem?.1 hx
      have hji : j < i := by
        have := (List.getElem?_eq_some_iff.1 hj).1
        simp at this; omega
      rw [List.getElem?_take_of_lt hji] at hj
      exact h2 j hji hj
    have hc : (s.drop (i + 1)).count a = k := by
      have := h
      rw [hs, List.count_append, List.count_cons_self, List.count_eq_zero.2 hno] at this
      omega
    have hidx : Lib.index s [a] = i := by rw [Lib.index_one]; exact hi
    rw [Lib.replaceK_hit [a] [b] k s i hidx, List.length_singleton, repl_k a b k _ hc]
    conv => rhs; rw [hs]
    unfold mapB
    rw [List.map_append, List.map_cons, if_pos rfl]
    have := mapB_none (b := b) hno
    unfold mapB at this
    rw [this]
    simp

theorem repl_all (a b : UInt8) (hab : a ≠ b) (s : List UInt8) : Lib.replaceAll s [a] [b] = mapB a b s := by
  unfold Lib.replaceAll Lib.replace
  rw [if_neg (by simp [hab])]
  unfold Lib.replaceNum
  rw [if_pos (.inl (by omega)), Lib.count_one]
  exact repl_k a b _ s rfl

theorem replace_any (a b : UInt8) (hab : a ≠ b) (s : List UInt8) (hs : s.length ≤ 1000000) (w : World) (G : Glob w) :
    Calls Tryd.prog 62 #[.string (S s), .string ⟨#[a]⟩, .string ⟨#[b]⟩] w fun e w' => e = .returned (.string (S (mapB a b s))) ∧ Below w.heap.size w w' := by
  obtain ⟨m, hm⟩ := G.maxLen
  have hz : (S s).size = s.length := S_size s
  have hc := Lib.countB_le (⟨#[a]⟩ : ByteArray) (Nat.le_refl 1) (S s).size (S s) (Nat.le_refl _)
  have h1 : (⟨#[a]⟩ : ByteArray).size = 1 := rfl
  have h2 : (⟨#[b]⟩ : ByteArray).size = 1 := rfl
  have h := Tryd.strings_ReplaceAll (S s) ⟨#[a]⟩ ⟨#[b]⟩ m w (by omega) hm (by omega) (by rw [h2]; omega)
  rw [S_list, show (⟨#[a]⟩ : ByteArray).data.toList = [a] from rfl, show (⟨#[b]⟩ : ByteArray).data.toList = [b] from rfl, repl_all a b hab] at h
  exact h

theorem contains_any (c : UInt8) (s : List UInt8) (w : World) :
    Calls Tryd.prog 63 #[.string (S s), .string ⟨#[c]⟩] w fun e w' => e = .returned (.bool (decide (c ∈ s))) ∧ w' = w := by
  have h := Tryd.strings_Contains_one (S s) c w
  rw [S_list] at h
  have e : decide (0 ≤ Lib.indexByte s c) = decide (c ∈ s) := by
    rw [decide_eq_decide]
    constructor
    · intro hge
      obtain ⟨i, hi⟩ := Int.eq_ofNat_of_zero_le hge
      exact List.mem_of_getElem? (Lib.indexByte_some hi).1
    · intro hm
      have hge := Lib.indexByte_ge s c
      have hne : Lib.indexByte s c ≠ -1 := fun e => by
        obtain ⟨j, hj⟩ := List.mem_iff_getElem?.1 hm
        exact Lib.indexByte_none e j hj
      omega
  rw [e] at h
  exact h
end Go.Proofs.YtllabeiadeclkaaDoor

/-! RangeCell: A range over a function whose iterator keeps a state of its own in a cell (the kit's laws ask that no cell be written between two rounds). -/
namespace Go.Proofs.YtllabeiadeclkaaDoor
open Go.RowKit

/-- What the iterator does between two rounds: it lays and draws, or writes the cell of its own. -/
def Step (sb : Nat) (W W' : World) : Prop := Below W.heap.size W W' ∨ ∃ v, W' = W.setCell ⟨sb, 0, none⟩ v

/-- The iterator's contract: in a world that is at hand (H), for whatever rounds keep Kp. -/
def Yields {α : Type} (F : Fence) (n : Nat) (P : Program) (g : Nat) (lb : Array Value) (encs : α → Array Value) (sb : Nat) (Kp : World → World → Prop) (H : World → Prop) (xs : List α) : Prop :=
  ∀ (l : Nat) (J Jx : List α → World → Prop) (W : World), H W → (∀ pre A B, Step sb A B → J pre A → J pre B) →
    (∀ pre x A, J pre A → pre ++ [x] <+: xs → YieldAt F (n - 1) P l (encs x) A fun e B => (e = .returned (.bool true) ∧ J (pre ++ [x]) B ∧ Kp A B) ∨ (e = .returned (.bool false) ∧ Jx (pre ++ [x]) B)) →
    J [] W → CallsIn F n P g (#[.func (.yield l) #[] #[]] ++ lb) W fun e B => (∃ v, e = .returned v) ∧ (J xs B ∨ ∃ pre, pre <+: xs ∧ Jx pre B)

/-- How a round's body may be left. -/
def RoundPost {α : Type} (B : Nat) (Kp : World → World → Prop) (I Ix : List α → World → Prop) (xs : List α) (W : World) : Exit → Act → World → Prop
  | .normal, _, W' => KeepsFrom B W W' ∧ Kp W W' ∧ I xs W'
  | .ret, _, W' => KeepsFrom B W W' ∧ Ix xs W'
  | _, _, _ => False

theorem setCell_others {W : World} {b : Nat} {o : Obj} (sb : Nat) (v : Value) (h : W.heap[b]? = some o) (ho : o.isCells = false) : (W.setCell ⟨sb, 0, none⟩ v).heap[b]? = some o :=
  (KeepsOthers.setCell W ⟨sb, 0, none⟩ v).same b o h ho

theorem step_same {sb : Nat} {A B : World} (h : Step sb A B) {b : Nat} {o : Obj} (hb : A.heap[b]? = some o) (ho : o.isCells = false) : B.heap[b]? = some o := by
  rcases h with h | ⟨v, rfl⟩
  · exact blk h hb
  · exact setCell_others sb v hb ho

variable {F : Fence} {n : Nat} {P : Program}

theorem range_cell {α : Type} {g : Operand} {ps : Array Tmp} {assign body : Code} {Q : Exit → Act → World → Prop} {a : Act} {w : World}
    (hro : F.round = none) (h1 : 1 ≤ n) {gf : Nat} {lb : Array Value} (hg : a.eval g = .func (.func gf) #[] lb) (hFg : F.fn gf) (eg : ∀ args w, (callFunc gf args).run P w = .ok (.enter gf args) w)
    {encs : α → Array Value} {sb : Nat} {Kp : World → World → Prop} {H : World → Prop} {xs : List α} (hseq : Yields F (n - 1) P gf lb encs sb Kp H xs)
    (hH : ∀ W, Below w.heap.size w W → H W)
    (hKt : ∀ A B C, Kp A B → Kp B C → Kp A C) (hKp : ∀ (W : World) (l : Nat) (o : Obj), w.heap.size ≤ l → Kp W (W.putObj l o)) (hps : ∀ x, (encs x).size = ps.size)
    (I Ix : List α → World → Prop) (hI : ∀ pre A B, Step sb A B → I pre A → I pre B) (hIp : ∀ pre W l o o', w.heap.size ≤ l → W.heap[l]? = some o → o.isCells = false → I pre W → I pre (W.putObj l o'))
    (hIxp : ∀ pre W l o o', w.heap.size ≤ l → W.heap[l]? = some o → o.isCells = false → Ix pre W → Ix pre (W.putObj l o'))
    (h0 : I [] w) (a₁ : α → Act)
    (hassign : ∀ (l : Nat) (x : α) (W : World) (K : Act → World → Prop), K (a₁ x) W →
      assign.wpIn (F.inRound l) (n - 1 - 1) P (Exit.then K (fun _ _ _ => False)) { tmps := (ps.zip (encs x)).foldl (fun t (p, v) => t.setIfInBounds p v) a.tmps, defers := [] } W)
    (hbody : ∀ (l : Nat) (pre : List α) (x : α) (W : World), I pre W → pre ++ [x] <+: xs → w.heap.size ≤ l → l < W.heap.size → body.wpIn (F.inRound l) (n - 1 - 1) P (RoundPost w.heap.size Kp I Ix (pre ++ [x]) W) (a₁ x) W)
    (hdone : ∀ (D : Nat) (W : World), w.heap.size ≤ D → I xs W → W.heap[D]? = some (.deferred (some [])) → Q .normal { a with defers := { target := .collected D, args := #[] } :: a.defers } W)
    (hstop : ∀ (D : Nat) (pre : List α) (W : World), w.heap.size ≤ D → pre <+: xs → Ix pre W → W.heap[D]? = some (.deferred (some [])) → Code.ret.wpIn F n P Q { a with defers := { target := .collected D, args := #[] } :: a.defers } W) :
    (Code.rangeFunc g ps assign body).wpIn F n P Q a w := by
  refine wpIn_rangeFunc fun fn hfn => ?_
  rw [hro]
  let rec_ : LoopState → Option Code → Loop := fun st pe => { state := st, pending := pe, fn := fn, tmps := a.tmps, params := ps, assign := assign, body := body, defers := w.heap.size }
  have sz1 : (w.alloc (.deferred (some []))).heap.size = w.heap.size + 1 := World.size_alloc _ _
  have hbW : Below w.heap.size w ((w.alloc (.deferred (some []))).alloc (.loop (rec_ .ready none))) := bl1 (bl1 (bl0 w) _) _
  have hI1 : I [] ((w.alloc (.deferred (some []))).alloc (.loop (rec_ .ready none))) := hI _ _ _ (.inl hbW) h0
  have hL1 : ((w.alloc (.deferred (some []))).alloc (.loop (rec_ .ready none))).heap[w.heap.size + 1]? = some (.loop (rec_ .ready none)) := by
    rw [← sz1]; exact alloc_new _ _ _ rfl
  have hK1 : ((w.alloc (.deferred (some []))).alloc (.loop (rec_ .ready none))).heap[w.heap.size]? = some (.deferred (some [])) := blk (bl1 (bl0 _) _) (alloc_new w _ _ rfl)
  refine ⟨w.heap.size + 1, [{ target := .collected w.heap.size, args := #[] }], ((w.alloc (.deferred (some []))).alloc (.loop (rec_ .ready none))), { target := .fn (.func gf) lb, args := #[.func (.yield (w.heap.size + 1)) #[] #[]] }, ((w.alloc (.deferred (some []))).alloc (.loop (rec_ .ready none))), gf,
    #[.func (.yield (w.heap.size + 1)) #[] #[]] ++ lb, ((w.alloc (.deferred (some []))).alloc (.loop (rec_ .ready none))), run_enterLoop_outer _ _ _ _ _, ?_, ?_, ?_, fun _ => h1, ?_⟩
  · simp only [resolve, hg]; simp [go_sem]
  · intro f' hf'; simp [Target.leads] at hf'; subst hf'; exact hFg
  · simp [invoke, go_sem, eg]
  refine (hseq (w.heap.size + 1)
    (fun pre W => I pre W ∧ W.heap[w.heap.size + 1]? = some (.loop (rec_ .ready none)) ∧ W.heap[w.heap.size]? = some (.deferred (some [])))
    (fun pre W => Ix pre W ∧ W.heap[w.heap.size + 1]? = some (.loop (rec_ .done (some .ret))) ∧ W.heap[w.heap.size]? = some (.deferred (some [])))
    _ (hH _ hbW) (fun pre A B hs h => ⟨hI _ _ _ hs h.1, step_same hs h.2.1 rfl, step_same hs h.2.2 rfl⟩) ?_ ⟨hI1, hL1, hK1⟩).mono ?_
  · rintro pre x W ⟨hi, hl, hk⟩ hpre
    have hlt : w.heap.size + 1 < W.heap.size := (Array.getElem?_eq_some_iff.1 hl).1
    refine ⟨fn, _, assign, body, run_yield (P := P) (args := encs x) hl (hps x), roundIn_of_wpIn hfn (hassign _ x W _ ⟨_, run_beginRound hl rfl, ?_⟩)⟩
    have hl2 : (W.putObj (w.heap.size + 1) (.loop (rec_ .busy none))).heap[w.heap.size + 1]? = some (.loop (rec_ .busy none)) := World.putObj_heap_same hlt
    have hk2 : (W.putObj (w.heap.size + 1) (.loop (rec_ .busy none))).heap[w.heap.size]? = some (.deferred (some [])) := (World.putObj_heap_other (by omega)).trans hk
    have hi2 : I pre (W.putObj (w.heap.size + 1) (.loop (rec_ .busy none))) := hIp _ _ _ _ _ (by omega) hl rfl hi
    refine wpIn_mono (hbody (w.heap.size + 1) pre x _ hi2 hpre (by omega) (Array.getElem?_eq_some_iff.1 hl2).1) ?_
    intro e a3 W3 hp
    cases e with
    | normal =>
      obtain ⟨hk3, hkp, hi3⟩ := hp
      have hl3 := hk3.same _ _ (by omega) hl2 rfl
      have hk4 := hk3.same _ _ (Nat.le_refl _) hk2 rfl
      exact ⟨_, _, run_endRound (P := P) none hl3, .inl ⟨rfl, ⟨hIp _ _ _ _ _ (by omega) hl3 rfl hi3, World.putObj_heap_same (Array.getElem?_eq_some_iff.1 hl3).1, (World.putObj_heap_other (by omega)).trans hk4⟩,
        hKt _ _ _ (hKt _ _ _ (hKp _ _ _ (by omega)) hkp) (hKp _ _ _ (by omega))⟩⟩
    | ret =>
      obtain ⟨hk3, hi3⟩ := hp
      have hl3 := hk3.same _ _ (by omega) hl2 rfl
      have hk4 := hk3.same _ _ (Nat.le_refl _) hk2 rfl
      exact ⟨_, _, run_endRound (P := P) (some .ret) hl3, .inr ⟨rfl, hIxp _ _ _ _ _ (by omega) hl3 rfl hi3, World.putObj_heap_same (Array.getElem?_eq_some_iff.1 hl3).1, (World.putObj_heap_other (by omega)).trans hk4⟩⟩
    | exit id => exact hp.elim
    | goto t => exact hp.elim
    | panic ch => exact hp.elim
    | outgrown => exact hp.elim
  · rintro e W2 ⟨⟨v, rfl⟩, (⟨hi, hl, hk⟩ | ⟨pre, hpre, hi, hl, hk⟩)⟩
    · exact ⟨none, _, run_endLoop (P := P) hl (by simp [rec_]), hdone _ _ (Nat.le_refl _) (hIp _ _ _ _ _ (by omega) hl rfl hi) ((World.putObj_heap_other (by omega)).trans hk)⟩
    · exact ⟨some .ret, _, run_endLoop (P := P) hl (by simp [rec_]), hstop _ pre _ (Nat.le_refl _) hpre (hIxp _ _ _ _ _ (by omega) hl rfl hi) ((World.putObj_heap_other (by omega)).trans hk)⟩
end Go.Proofs.YtllabeiadeclkaaDoor

/-! BodySeq: strings.SplitSeq at a separator of one byte: it yields the pieces. -/
namespace Go.Proofs.YtllabeiadeclkaaDoor
open Go.RowKit
attribute [local go_sem] Oper.semAt_some

theorem pieces_at {c : UInt8} : ∀ (s : List UInt8) (o : Nat), s[o]? = some c → (∀ k, k < o → s[k]? ≠ some c) → Bp.pieces c s = s.take o :: Bp.pieces c (s.drop (o + 1))
  | [], o, h, _ => by simp at h
  | b :: r, 0, h, _ => by
    obtain rfl : b = c := by simpa using h
    simp [Bp.pieces]
  | b :: r, o + 1, h, hk => by
    have h1 : b ≠ c := fun e => hk 0 (by omega) (by simp [e])
    have ih := pieces_at r o (by simpa using h) (fun k hlt => by have := hk (k + 1) (by omega); simpa using this)
    simp [Bp.pieces, h1, ih]

theorem not_mem_of_index {s : List UInt8} {c : UInt8} (h : Lib.indexByte s c = -1) : c ∉ s := fun hm => by
  obtain ⟨k, hk⟩ := List.mem_iff_getElem?.1 hm
  exact Lib.indexByte_none h k hk

theorem S_take (s : List UInt8) (o : Nat) (h : o ≤ s.length) : (S s).extract 0 o = S (s.take o) := by
  simp [S, ByteArray.ext_iff, Array.ext_iff]
theorem S_drop (s : List UInt8) (o : Nat) : (S s).extract o (S s).size = S (s.drop o) := by
  rw [S_size]
  simp [S, ByteArray.ext_iff, Array.ext_iff]

theorem sc_else {w : World} {a : Addr} {v : Value} {b : Nat} (h : b ≠ a.block) : (w.setCell a v).heap[b]? = w.heap[b]? := by
  simp only [World.setCell, Array.getElem?_modify]
  rw [if_neg (fun e => h e.symm)]
/-- What the iterator's boxes hold. -/
def SeqBoxes (sb : Nat) (s : List UInt8) (W : World) : Prop :=
  W.heap[sb]? = some (.cells #[.string (S s)] 9 (0, 0)) ∧ W.heap[sb + 1]? = some (.cells #[.string (S [59])] 9 (0, 0)) ∧ W.heap[sb + 2]? = some (.cells #[.int .i64 0] 3 (0, 0))

/-- What a round keeps. -/
def SeqKeeps (sb : Nat) (A B : World) : Prop := ∀ b, sb ≤ b → b < sb + 3 → B.heap[b]? = A.heap[b]?

theorem SeqBoxes.keeps {sb : Nat} {s : List UInt8} {A B : World} (h : SeqBoxes sb s A) (hk : SeqKeeps sb A B) : SeqBoxes sb s B :=
  ⟨(hk sb (Nat.le_refl _) (by omega)).trans h.1, (hk (sb + 1) (by omega) (by omega)).trans h.2.1, (hk (sb + 2) (by omega) (by omega)).trans h.2.2⟩

/-- How much is still to come, read off the world. -/
def seqLeft (sb : Nat) (W : World) : Nat := match W.cell? ⟨sb, 0, none⟩ with | some (.string s) => s.size | _ => 0

theorem SeqBoxes.left {sb : Nat} {s : List UInt8} {W : World} (h : SeqBoxes sb s W) : seqLeft sb W = s.length := by
  unfold seqLeft
  rw [cell_blk h.1 0]
  exact S_size s

theorem SeqBoxes.set {sb : Nat} {s t : List UInt8} {W : World} (h : SeqBoxes sb s W) : SeqBoxes sb t (W.setCell ⟨sb, 0, none⟩ (.string (S t))) :=
  ⟨by rw [sc_block h.1]; rfl, (sc_else (by simp)).trans h.2.1, (sc_else (by simp)).trans h.2.2⟩

set_option maxRecDepth 100000 in
set_option maxHeartbeats 2000000 in
theorem seq_yields (n : Nat) (hn : 2 ≤ n) (sb : Nat) (s : List UInt8) (hs : s.length ≤ 1000) :
    Yields Fence.wide n Tryd.prog 48 #[.pointer (some ⟨sb + 1, 0, none⟩), .pointer (some ⟨sb, 0, none⟩), .pointer (some ⟨sb + 2, 0, none⟩)] (fun x => #[.string (S x)]) sb (SeqKeeps sb) (SeqBoxes sb s) (Bp.pieces 59 s) := by
  intro l J Jx W hW hJ hY h0
  have HJ := Lib.hid hJ
  have HY := Lib.hid hY
  clear hJ hY
  refine callsIn_of_wp Tryd.func48 rfl trivial ?_ rfl
  simp only [Tryd.ntmps48, List.size_toArray, List.length_cons, List.length_nil, Nat.reduceAdd, Nat.reduceSub, Array.replicate_succ, Array.replicate_zero, List.push_toArray, List.append_toArray, List.nil_append, List.cons_append]
  have c0 := cell_blk hW.1 0
  have c1 := cell_blk hW.2.1 0
  have c2 := cell_blk hW.2.2 0
  simp only [List.getElem?_toArray, List.getElem?_cons_zero] at c0 c1 c2
  have h1 : 1 ≤ n := by omega
  gi_wp2_with fail
  gi_loopw [7] (fun _ wr => ∃ (pre : List (List UInt8)) (cur : List UInt8), Bp.pieces 59 s = pre ++ Bp.pieces 59 cur ∧ SeqBoxes sb cur wr ∧ J pre wr ∧ cur.length ≤ s.length) (fun _ wr => seqLeft sb wr)
  case atStart => exact ⟨[], s, rfl, hW, h0, Nat.le_refl _⟩
  case round =>
    obtain ⟨pre, cur, hpre, hbx, hj, hcl⟩ := hrel
    have d0 := cell_blk hbx.1 0
    have d1 := cell_blk hbx.2.1 0
    have d2 := cell_blk hbx.2.2 0
    have f0 := frozen_blk hbx.1 0
    simp only [List.getElem?_toArray, List.getElem?_cons_zero] at d0 d1 d2
    have hI := index_any (S cur) 59 wr
    rw [S_list] at hI
    rcases (show Lib.indexByte cur 59 < 0 ∨ 0 ≤ Lib.indexByte cur 59 by omega) with hlt | hge
    · have he : Lib.indexByte cur 59 = -1 := by have := Lib.indexByte_ge cur 59; omega
      have hp : Bp.pieces 59 cur = [cur] := Bp.pieces_none 59 cur (not_mem_of_index he)
      rw [he] at hI
      have HI := Lib.hid hI
      rw [hp] at hpre
      have HP := Lib.hid hpre
      obtain ⟨fn, tmps, assign, body, hy, hR⟩ := HY.out pre cur wr hj (by rw [hpre]; exact List.prefix_refl _)
      clear hI hpre hp he hlt
      gi_wp2_with (refine ⟨trivial, ?_⟩; gi_at_call 50; go_must (refine (callsIn_wide.2 HI.out).mono ?_; rintro e w1 ⟨rfl, rfl⟩))
      refine hR.mono ?_
      rintro e W3 (⟨rfl, hJ3, hk3⟩ | ⟨rfl, hJx3⟩)
      · gi_wp2
        go_end0
        exact ⟨⟨_, rfl⟩, .inl (by rw [HP.out]; exact hJ3)⟩
      · gi_wp2
        go_end0
        exact ⟨⟨_, rfl⟩, .inr ⟨pre ++ [cur], by rw [HP.out]; exact List.prefix_refl _, hJx3⟩⟩
    · obtain ⟨o, ho⟩ := Int.eq_ofNat_of_zero_le hge
      have hio := Lib.indexByte_some ho
      have hol : o < cur.length := (List.getElem?_eq_some_iff.1 hio.1).1
      have hp : Bp.pieces 59 cur = cur.take o :: Bp.pieces 59 (cur.drop (o + 1)) := pieces_at cur o hio.1 hio.2
      rw [ho] at hI
      have HI := Lib.hid hI
      rw [hp] at hpre
      have HP := Lib.hid hpre
      have hsz : (S cur).size = cur.length := S_size cur
      have e1 : (S cur).extract 0 o = S (cur.take o) := S_take cur o (by omega)
      obtain ⟨fn, tmps, assign, body, hy, hR⟩ := HY.out pre (cur.take o) wr hj (by rw [hpre]; exact ⟨_, by rw [List.append_assoc]; rfl⟩)
      have e2 : (S cur).extract (o + 1) cur.length = S (cur.drop (o + 1)) := by rw [← S_drop, S_size]
      have hw0 : wrap64 (o : Int) = o := by unfold wrap64; omega
      have hw1 : wrap64 ((o : Int) + 1) = o + 1 := by unfold wrap64; omega
      clear hI hpre hp hge ho hio
      gi_wp2_with (refine ⟨trivial, ?_⟩; gi_at_call 50; go_must (refine (callsIn_wide.2 HI.out).mono ?_; rintro e w1 ⟨rfl, rfl⟩))
      refine hR.mono ?_
      rintro e W3 (⟨rfl, hJ3, hk3⟩ | ⟨rfl, hJx3⟩)
      · have hb3 := hbx.keeps hk3
        have g0 := cell_blk hb3.1 0
        have g1 := cell_blk hb3.2.1 0
        have gf := frozen_blk hb3.1 0
        simp only [List.getElem?_toArray, List.getElem?_cons_zero] at g0 g1
        gi_wp2
        go_roundw
        case rel => exact ⟨pre ++ [cur.take o], cur.drop (o + 1), by rw [HP.out]; simp, hb3.set, HJ.out _ _ _ (.inr ⟨_, rfl⟩) hJ3, by simp only [List.length_drop]; omega⟩
        case measure => rw [SeqBoxes.left hb3.set, SeqBoxes.left hbx, List.length_drop]; omega
      · gi_wp2
        refine bodyPost_ret (results_none rfl _ _ _) rfl ?_
        exact ⟨⟨_, rfl⟩, .inr ⟨pre ++ [cur.take o], by rw [HP.out]; exact ⟨_, by rw [List.append_assoc]; rfl⟩, hJx3⟩⟩
end Go.Proofs.YtllabeiadeclkaaDoor

/-! PairMap: Maps whose keys are pairs of ints ('[2]int'): equality of keys, look-up, insertion, as plain functions on a list of entries; over any program. -/
namespace Go.Proofs.YtllabeiadeclkaaDoor
namespace Pm
open Go.RowKit

/-- A pair as a value. -/
def pk (x : Int × Int) : Value := .agg #[.int .i64 x.1, .int .i64 x.2]

/-- K is an array of two ints. -/
structure PairKey (P : Program) (K I : TypeId) : Prop where
  arr : P.underlying K = some (.array 2 I)
  int : P.underlying I = some (.int .i64)
  size : ∀ w, (sizeOf I).run P w = .ok 1 w
  noagg : ∀ w, (isAgg I).run P w = .ok false w

section
variable {P : Program} {K I : TypeId} (h : PairKey P K I) (w : World)
include h

theorem run_part (a b : Int) (i : Nat) (x : Int) (hx : #[Value.int .i64 a, .int .i64 b][i]? = some (.int .i64 x)) : (part I #[.int .i64 a, .int .i64 b] i).run P w = .ok (.int .i64 x) w := by
  simp [part, h.noagg, hx]

theorem run_equal_pk (x y : Int × Int) : (Op.equal K (pk x) (pk y)).run P w = .ok (decide (x = y)) w := by
  obtain ⟨a, b⟩ := x
  obtain ⟨c, d⟩ := y
  have e0 : ∀ w (d' : Nat) (p q : Int), (Op.equalIn (d' + 1) I (.int .i64 p) (.int .i64 q)).run P w = .ok (p == q) w := fun w d' p q => run_equalIn_int w d' I .i64 .i64 p q h.int
  have p0 : ∀ w (p q : Int), (part I #[.int .i64 p, .int .i64 q] 0).run P w = .ok (.int .i64 p) w := fun w p q => run_part h w p q 0 p rfl
  have p1 : ∀ w (p q : Int), (part I #[.int .i64 p, .int .i64 q] 1).run P w = .ok (.int .i64 q) w := fun w p q => run_part h w p q 1 q rfl
  simp only [Op.equal, pk, show Op.maxDepth = 9998 + 1 + 1 from rfl]
  unfold Op.equalIn
  simp only [Sem.run_bind, run_underlying h.arr, Result.andThen_ok, h.size]
  simp [Std.Legacy.Range.forIn_eq_forIn_range', Std.Legacy.Range.size, List.range'_succ, p0, p1, e0]
  by_cases h1 : a = c <;> by_cases h2 : b = d <;> simp [h1, h2]

theorem run_checkKey_pk (x : Int × Int) (em : Bool) : (Instr.checkKey em 10000 K (pk x)).run P w = .ok () w := by
  obtain ⟨a, b⟩ := x
  have p0 : ∀ w (p q : Int), (part I #[.int .i64 p, .int .i64 q] 0).run P w = .ok (.int .i64 p) w := fun w p q => run_part h w p q 0 p rfl
  have p1 : ∀ w (p q : Int), (part I #[.int .i64 p, .int .i64 q] 1).run P w = .ok (.int .i64 q) w := fun w p q => run_part h w p q 1 q rfl
  have c0 : ∀ w (d' : Nat) (p : Int), (Instr.checkKey em (d' + 1) I (.int .i64 p)).run P w = .ok () w := by
    intro w d' p
    unfold Instr.checkKey
    simp [run_underlying h.int]
  simp only [pk, show (10000 : Nat) = 9998 + 1 + 1 from rfl]
  unfold Instr.checkKey
  simp only [Sem.run_bind, run_underlying h.arr, Result.andThen_ok]
  simp [Std.Legacy.Range.forIn_eq_forIn_range', Std.Legacy.Range.size, List.range'_succ, p0, p1, c0, h.size, Sem.run_pure]


/-- Where a key stands in a list of entries, from place i on, and what it holds. -/
def findP (x : Int × Int) : List ((Int × Int) × Value) → Nat → Option (Nat × Value)
  | [], _ => none
  | (p, v) :: r, i => if x = p then some (i, v) else findP x r (i + 1)
end
/-- The entries as the model keeps them: stamps rise by one. -/
def entsFrom : List ((Int × Int) × Value) → Nat → List MapEntry
  | [], _ => []
  | (p, v) :: r, i => { key := pk p, val := v, born := i } :: entsFrom r (i + 1)
def ents (l : List ((Int × Int) × Value)) : Array MapEntry := (entsFrom l 0).toArray

theorem entsFrom_length : ∀ (l : List ((Int × Int) × Value)) (i : Nat), (entsFrom l i).length = l.length
  | [], _ => rfl
  | _ :: r, i => by simp [entsFrom, entsFrom_length r]
theorem entsFrom_app : ∀ (l r : List ((Int × Int) × Value)) (i : Nat), entsFrom (l ++ r) i = entsFrom l i ++ entsFrom r (i + l.length)
  | [], r, i => by simp [entsFrom]
  | (p, v) :: l, r, i => by simp [entsFrom, entsFrom_app l r, Nat.add_assoc, Nat.add_comm 1]
theorem ents_push (l : List ((Int × Int) × Value)) (p : Int × Int) (v : Value) : (ents l).push { key := pk p, val := v, born := l.length } = ents (l ++ [(p, v)]) := by
  simp [ents, entsFrom_app, entsFrom]

section
variable {P : Program} {K I : TypeId} (h : PairKey P K I) (w : World)
include h

theorem run_findAsking_pk (x : Int × Int) : ∀ (l : List ((Int × Int) × Value)) (s i : Nat) (w : World), (Instr.findAsking K (pk x) (entsFrom l s) i).run P w = .ok (findP x l i) w
  | [], s, i, w => by simp [entsFrom, Instr.findAsking, findP, Sem.run_pure]
  | (p, v) :: r, s, i, w => by
    have ih := run_findAsking_pk x r (s + 1) (i + 1) w
    by_cases e : x = p
    · simp [entsFrom, Instr.findAsking, findP, run_equal_pk h, e, Sem.run_pure]
    · simp [entsFrom, Instr.findAsking, findP, run_equal_pk h, e, ih]

theorem run_findKey_pk (x : Int × Int) (l : List ((Int × Int) × Value)) (w : World) : (Instr.findKey K (pk x) (ents l).toList).run P w = .ok (findP x l 0) w := by
  cases l with
  | nil => simp [ents, entsFrom, Instr.findKey, Instr.findNow, findP, run_underlying h.arr]
  | cons e r =>
    obtain ⟨p, v⟩ := e
    have := run_findAsking_pk h x ((p, v) :: r) 0 0 w
    simp only [ents, Instr.findKey, Sem.run_bind, run_underlying h.arr, Result.andThen_ok]
    rw [show Instr.findNow (.array 2 I) (pk x) (entsFrom ((p, v) :: r) 0) 0 = none by simp [entsFrom, Instr.findNow, Instr.sameNow]]
    exact this

/-- 'm[x]', with or without ok. -/
theorem run_lookup_pk {T E : TypeId} {z : Value} (hT : P.underlying T = some (.map K E)) (hz : ∀ w, (zeroValue E).run P w = .ok z w) (b c : Nat) (l : List ((Int × Int) × Value)) (hb : w.heap[b]? = some (.map (ents l) c)) (x : Int × Int) (ok : Bool) :
    (Instr.lookup T (.map (some b)) (pk x) ok).run P w = .ok (match findP x l 0 with
      | some (_, v) => if ok then .tuple #[v, .bool true] else v
      | none => if ok then .tuple #[z, .bool false] else z) w := by
  unfold Instr.lookup
  simp only [Sem.run_bind, run_underlying hT, Result.andThen_ok]
  have hg : (Sem.getObj b Sem.pure : Sem Obj).run P w = .ok (.map (ents l) c) w := by simp [Sem.run, hb]
  simp only [getObj, hg, Result.andThen_ok, Sem.run_bind, Sem.run_pure, run_checkKey_pk h, run_findKey_pk h]
  cases hf : findP x l 0 with
  | none => cases ok <;> simp [hz]
  | some r => obtain ⟨i, v⟩ := r; cases ok <;> simp

/-- 'm[x] = v' at a new key. -/
theorem run_update_new {T E : TypeId} (hT : P.underlying T = some (.map K E)) (b : Nat) (l : List ((Int × Int) × Value)) (hb : w.heap[b]? = some (.map (ents l) l.length)) (x : Int × Int) (v : Value) (hx : findP x l 0 = none) :
    (Instr.mapUpdate T (.map (some b)) (pk x) v).run P w = .ok () { w with heap := w.heap.setIfInBounds b (.map (ents (l ++ [(x, v)])) (l.length + 1)) } := by
  unfold Instr.mapUpdate
  simp only [Sem.run_bind, run_underlying hT, Result.andThen_ok]
  have hg : (Sem.getObj b Sem.pure : Sem Obj).run P w = .ok (.map (ents l) l.length) w := by simp [Sem.run, hb]
  simp only [getObj, hg, Result.andThen_ok, Sem.run_bind, run_checkKey_pk h, run_findKey_pk h, hx, ents_push]
  simp [setObj, Sem.run, hb]
end

theorem findP_none {x : Int × Int} : ∀ {l : List ((Int × Int) × Value)} {i : Nat}, findP x l i = none ↔ x ∉ l.map (·.1)
  | [], i => by simp [findP]
  | (p, v) :: r, i => by
    unfold findP
    by_cases e : x = p
    · simp [e]
    · rw [if_neg e, findP_none]; simp [e]
theorem findP_some {x : Int × Int} {v : Value} : ∀ {l : List ((Int × Int) × Value)} {i : Nat}, (l.map (·.1)).Nodup → (x, v) ∈ l → ∃ j, findP x l i = some (j, v)
  | [], i, _, hm => by cases hm
  | (p, u) :: r, i, hn, hm => by
    unfold findP
    rw [List.map_cons, List.nodup_cons] at hn
    by_cases e : x = p
    · subst e
      rcases List.mem_cons.1 hm with hm | hm
      · injection hm with _ hm; subst hm; exact ⟨i, by simp⟩
      · exact absurd (List.mem_map.2 ⟨_, hm, rfl⟩) hn.1
    · rw [if_neg e]
      rcases List.mem_cons.1 hm with hm | hm
      · injection hm with hm; exact absurd hm e
      · exact findP_some hn.2 hm

/-! ### A region that makes a map out of a literal, in whatever order -/
inductive D where
  | mk
  | val (v : Value)
  | ins (x : Int × Int) (v : Value)
  | mv

def dval (b : Nat) : D → Value
  | .mk => .map (some b)
  | .val v => v
  | .ins _ _ => undef
  | .mv => .map (some b)

def src (ops : Array Oper) (ds : List D) (after : Array Edge) : Operand → Option D
  | .tmp t => after.toList.findSome? fun e => if Region.binds .any e && ((ops[e.on]?).bind (·.dst)) == some t then ds[e.on]? else none
  | _ => none

def OpIs (P : Program) (T : TypeId) (ops : Array Oper) (ds : List D) (o : Oper) : D → Prop
  | .mk => o.guard = none ∧ o.op = .makeMap T none
  | .val v => o.guard = none ∧ ∀ (a : Act) w, (execOp a.eval o).run P w = .ok (.value v) w
  | .ins x v => o.guard = none ∧ o.dst = none ∧ ∃ m kx vx, o.op = .insert T m kx vx ∧ src ops ds o.after m = some .mk ∧ src ops ds o.after kx = some (.val (pk x)) ∧ (vx = .const v ∨ src ops ds o.after vx = some (.val v))
  | .mv => o.guard = none ∧ ∃ x, (o.op = .move x ∨ o.op = .assign x) ∧ (src ops ds o.after x = some .mk ∨ src ops ds o.after x = some .mv)

def putV (a : Array Value) (dst : Option Tmp) (v : Value) : Array Value :=
  match dst with
  | some d => a.setIfInBounds d v
  | none => a
theorem put_eq (a : Act) (dst : Option Tmp) (v : Value) : a.put dst v = { a with tmps := putV a.tmps dst v } := by cases dst <;> rfl

def putL (b : Nat) (on : Nat → Bool) : Nat → List (Oper × D) → Array Value → Array Value
  | _, [], t => t
  | i, (o, d) :: r, t => putL b on (i + 1) r (if on i then putV t o.dst (dval b d) else t)

theorem putV_size (a : Array Value) (dst : Option Tmp) (v : Value) : (putV a dst v).size = a.size := by cases dst <;> simp [putV]
theorem putL_size (b : Nat) (on : Nat → Bool) : ∀ (L : List (Oper × D)) (i : Nat) (t : Array Value), (putL b on i L t).size = t.size
  | [], _, _ => rfl
  | (o, d) :: r, i, t => by
    unfold putL
    rw [putL_size b on r]
    split
    · exact putV_size _ _ _
    · rfl
theorem putL_skip (b : Nat) (on : Nat → Bool) (t : Tmp) : ∀ (L : List (Oper × D)) (i : Nat) (a : Array Value), (∀ x ∈ L, x.1.dst ≠ some t) → (putL b on i L a)[t]? = a[t]?
  | [], _, _, _ => rfl
  | (o, d) :: r, i, a, hn => by
    unfold putL
    rw [putL_skip b on t r _ _ (fun x hx => hn x (by simp [hx]))]
    split
    · cases hd : o.dst with
      | none => rfl
      | some u =>
        have : u ≠ t := fun e => hn (o, d) (by simp) (by rw [hd, e])
        simp [putV, Array.getElem?_setIfInBounds_ne this]
    · rfl
theorem putL_comm (b : Nat) (on : Nat → Bool) (dst : Option Tmp) (v : Value) : ∀ (L : List (Oper × D)) (i : Nat) (a : Array Value), (∀ t, dst = some t → ∀ x ∈ L, x.1.dst ≠ some t) → putV (putL b on i L a) dst v = putL b on i L (putV a dst v)
  | [], _, _, _ => rfl
  | (o, d) :: r, i, a, hn => by
    unfold putL
    rw [putL_comm b on dst v r _ _ (fun t ht x hx => hn t ht x (by simp [hx]))]
    congr 1
    split
    · cases hd : dst with
      | none => rfl
      | some t =>
        cases ho : o.dst with
        | none => rfl
        | some u =>
          have : u ≠ t := fun e => hn t hd (o, d) (by simp) (by rw [ho, e])
          simp [putV, Array.setIfInBounds_comm _ _ this]
    · rfl
theorem putL_on (b : Nat) (on on' : Nat → Bool) : ∀ (L : List (Oper × D)) (i : Nat) (a : Array Value), (∀ k, i ≤ k → k < i + L.length → on k = on' k) → putL b on i L a = putL b on' i L a
  | [], _, _, _ => rfl
  | (o, d) :: r, i, a, he => by
    unfold putL
    rw [he i (Nat.le_refl _) (by simp), putL_on b on on' r (i + 1) _ (fun k h1 h2 => he k (by omega) (by simp; omega))]

/-- Each slot is written by one operation. -/
def Once (L : List (Oper × D)) : Prop := L.Pairwise fun x y => ∀ t, x.1.dst = some t → y.1.dst ≠ some t

theorem putL_flip (b : Nat) (on on' : Nat → Bool) : ∀ (L : List (Oper × D)) (i k : Nat) (a : Array Value) (o : Oper) (d : D), Once L → L[k]? = some (o, d) → on (i + k) = false → on' (i + k) = true → (∀ j, j ≠ i + k → on j = on' j) →
    putV (putL b on i L a) o.dst (dval b d) = putL b on' i L a
  | [], _, _, _, _, _, _, hk, _, _, _ => by cases hk
  | (o', d') :: r, i, 0, a, o, d, hO, hk, h0, h1, he => by
    simp only [List.getElem?_cons_zero, Option.some.injEq, Prod.mk.injEq] at hk
    obtain ⟨rfl, rfl⟩ := hk
    unfold putL
    simp only [Nat.add_zero] at h0 h1 he
    rw [h0, h1, putL_comm b on o'.dst (dval b d') r]
    · simp only [Bool.false_eq_true, if_false, if_true]
      exact putL_on b on on' r (i + 1) _ (fun k h2 _ => he k (by omega))
    · intro t ht x hx
      exact (List.pairwise_cons.1 hO).1 x hx t ht
  | (o', d') :: r, i, k + 1, a, o, d, hO, hk, h0, h1, he => by
    unfold putL
    rw [he i (by omega)]
    exact putL_flip b on on' r (i + 1) k _ o d (List.pairwise_cons.1 hO).2 (by simpa using hk) (by rw [show i + 1 + k = i + (k + 1) by omega]; exact h0) (by rw [show i + 1 + k = i + (k + 1) by omega]; exact h1) (fun j hj => he j (by omega))
theorem putL_get (b : Nat) (on : Nat → Bool) : ∀ (L : List (Oper × D)) (i k : Nat) (a : Array Value) (o : Oper) (d : D) (t : Tmp), Once L → L[k]? = some (o, d) → on (i + k) = true → o.dst = some t → t < a.size → (putL b on i L a)[t]? = some (dval b d)
  | [], _, _, _, _, _, _, _, hk, _, _, _ => by cases hk
  | (o', d') :: r, i, 0, a, o, d, t, hO, hk, h0, hd, ht => by
    simp only [List.getElem?_cons_zero, Option.some.injEq, Prod.mk.injEq] at hk
    obtain ⟨rfl, rfl⟩ := hk
    unfold putL
    simp only [Nat.add_zero] at h0
    rw [putL_skip b on t r _ _ (fun x hx => (List.pairwise_cons.1 hO).1 x hx t hd), h0]
    simp [putV, hd, ht]
  | (o', d') :: r, i, k + 1, a, o, d, t, hO, hk, h0, hd, ht => by
    unfold putL
    refine putL_get b on r (i + 1) k _ o d t (List.pairwise_cons.1 hO).2 (by simpa using hk) (by rw [show i + 1 + k = i + (k + 1) by omega]; exact h0) hd ?_
    split
    · rw [putV_size]; exact ht
    · exact ht

theorem src_some {ops : Array Oper} {ds : List D} {after : Array Edge} {x : Operand} {d : D} (h : src ops ds after x = some d) :
    ∃ t e o, x = .tmp t ∧ e ∈ after ∧ Region.binds .any e = true ∧ ops[e.on]? = some o ∧ o.dst = some t ∧ ds[e.on]? = some d := by
  cases x with
  | tmp t =>
    simp only [src] at h
    obtain ⟨e, he, hq⟩ := List.exists_of_findSome?_eq_some h
    split at hq
    · rename_i hc
      simp only [Bool.and_eq_true, beq_iff_eq] at hc
      obtain ⟨o, ho, hd⟩ := Option.bind_eq_some_iff.1 hc.2
      exact ⟨t, e, o, rfl, by simpa using he, hc.1, ho, hd, hq⟩
    · cases hq
  | const v => cases h
  | global g => cases h
  | func f => cases h

/-- The entries are the literal's, each key once, in some order. -/
structure IsLit (l lit : List ((Int × Int) × Value)) : Prop where
  mem : ∀ p, p ∈ l ↔ p ∈ lit
  nodup : (l.map (·.1)).Nodup
theorem IsLit.some {l lit : List ((Int × Int) × Value)} (h : IsLit l lit) {x : Int × Int} {v : Value} (hm : (x, v) ∈ lit) : ∃ j, findP x l 0 = some (j, v) := findP_some h.nodup ((h.mem _).2 hm)
theorem IsLit.none {l lit : List ((Int × Int) × Value)} (h : IsLit l lit) {x : Int × Int} (hm : x ∉ lit.map (·.1)) : findP x l 0 = none := findP_none.2 fun hc => hm (by
  obtain ⟨p, hp, he⟩ := List.mem_map.1 hc
  exact List.mem_map.2 ⟨p, (h.mem p).1 hp, he⟩)

/-- What the region needs to be a literal's. -/
structure LitRegion (P : Program) (T K E I : TypeId) (ops : Array Oper) (ds : List D) (j0 : Nat) (lit : List ((Int × Int) × Value)) : Prop where
  size : ds.length = ops.size
  is : ∀ (i : Nat) (o : Oper) (d : D), ops[i]? = some o → ds[i]? = some d → OpIs P T ops ds o d
  once : Once (ops.toList.zip ds)
  down : ∀ (i : Nat) (o : Oper), ops[i]? = some o → ∀ e ∈ o.after, e.on < i
  first : ds[j0]? = some .mk
  one : ∀ (i : Nat), ds[i]? = some .mk → i = j0
  lits : ∀ p : (Int × Int) × Value, p ∈ lit ↔ D.ins p.1 p.2 ∈ ds
  keys : ∀ (i j : Nat) (x : Int × Int) (v u : Value), ds[i]? = some (.ins x v) → ds[j]? = some (.ins x u) → i = j


/-! ### Any order: an invariant on what has been carried out -/
theorem mem_ready {md : Region.Mode} {ops : Array Oper} {listed : Array Bool} {i : Nat} : i ∈ Region.ready md ops listed ↔ i < ops.size ∧ listed.getD i true = false ∧ ∀ o, ops[i]? = some o → ∀ e ∈ o.after, Region.binds md e = true → listed.getD e.on false = true := by
  unfold Region.ready
  simp only [List.mem_filter, List.mem_range, Bool.and_eq_true, Bool.not_eq_true']
  refine and_congr_right fun hi => and_congr_right fun _ => ?_
  obtain ⟨o, ho⟩ : ∃ o, ops[i]? = some o := ⟨ops[i], by simp [hi]⟩
  rw [ho]
  simp only [Option.map_some, Option.getD_some, Option.some.injEq, Array.all_eq_true_iff_forall_mem, Bool.or_eq_true, Bool.not_eq_true']
  constructor
  · rintro h o' rfl e he hb
    rcases h e he with h | h
    · rw [hb] at h; cases h
    · exact h
  · intro h e he
    cases hb : Region.binds md e with
    | false => exact .inl rfl
    | true => exact .inr (h o rfl e he hb)

theorem wpAny_inv {P : Program} {md : Region.Mode} {ops : Array Oper} {Q : Exit → Act → World → Prop} (I : Array Bool → Act → World → Prop)
    (hsz : ∀ listed a w, I listed a w → listed.size = ops.size)
    (hstep : ∀ listed a w i, I listed a w → i ∈ Region.ready md ops listed → wpOp P ops Q i (I (listed.setIfInBounds i true)) a w)
    (hdown : ∀ (i : Nat) (o : Oper), ops[i]? = some o → ∀ e ∈ o.after, e.on < i)
    (hend : ∀ listed a w, I listed a w → (∀ i, i < ops.size → listed.getD i false = true) → Q .normal a w) :
    ∀ fuel listed a w, listed.toList.count false ≤ fuel → I listed a w → wpAny P md ops Q fuel listed a w := by
  have hall : ∀ listed a w, I listed a w → Region.ready md ops listed = [] → Q .normal a w := by
    intro listed a w hI hr
    refine hend listed a w hI fun i => ?_
    induction i using Nat.strongRecOn with
    | _ i ih =>
      intro hi
      cases hl : listed.getD i false with
      | true => rfl
      | false =>
        have hlt : i < listed.size := by rw [hsz _ _ _ hI]; exact hi
        have : i ∈ Region.ready md ops listed := mem_ready.2 ⟨hi, by simp [Array.getD, hlt] at hl ⊢; exact hl, fun o ho e he _ => ih e.on (hdown i o ho e he) (Nat.lt_trans (hdown i o ho e he) hi)⟩
        rw [hr] at this
        cases this
  intro fuel
  induction fuel with
  | zero =>
    intro listed a w hc hI
    have hnil : Region.ready md ops listed = [] := by
      apply List.eq_nil_iff_forall_not_mem.2
      intro i hi
      obtain ⟨h1, h2, _⟩ := mem_ready.1 hi
      have hlt : i < listed.size := by rw [hsz _ _ _ hI]; exact h1
      have h3 : listed[i] = false := by simpa [Array.getD, hlt] using h2
      have : (false : Bool) ∈ listed.toList := by rw [← h3]; simp
      have := List.count_pos_iff.2 this
      omega
    exact ⟨hnil, hall _ _ _ hI hnil⟩
  | succ fuel ih =>
    intro listed a w hc hI
    refine ⟨hall _ _ _ hI, fun i hi => wpOp_mono (fun a' w' h' => ih _ _ _ ?_ h') (hstep _ _ _ _ hI hi)⟩
    obtain ⟨h1, h2, _⟩ := mem_ready.1 hi
    have hlt : i < listed.size := by rw [hsz _ _ _ hI]; exact h1
    have h3 : listed[i] = false := by simpa [Array.getD, hlt] using h2
    have hp : 0 < listed.toList.count false := List.count_pos_iff.2 (by rw [← h3]; simp)
    rw [Array.toList_setIfInBounds, List.count_set (by simpa using hlt)]
    simp only [Array.getElem_toList, h3, beq_self_eq_true, if_true]
    rw [if_neg (by decide)]
    omega

theorem push_set (a : Array Obj) (o o' : Obj) : (a.push o).setIfInBounds a.size o' = a.push o' := by
  apply Array.ext_getElem?
  intro j
  by_cases hj : j = a.size
  · subst hj; simp
  · rw [Array.getElem?_setIfInBounds_ne (Ne.symm hj), Array.getElem?_push, Array.getElem?_push, if_neg hj, if_neg hj]

theorem getD_set {listed : Array Bool} {i j : Nat} (hi : i < listed.size) : (listed.setIfInBounds i true).getD j false = if j = i then true else listed.getD j false := by
  by_cases e : j = i
  · subst e
    simp [Array.getD, hi]
  · rw [if_neg e]
    by_cases hj : j < listed.size
    · simp [Array.getD, hj, Ne.symm e]
    · simp [Array.getD, hj]

theorem zip_get {ops : Array Oper} {ds : List D} {i : Nat} {o : Oper} {d : D} (h1 : ops[i]? = some o) (h2 : ds[i]? = some d) : (ops.toList.zip ds)[i]? = some (o, d) := by
  rw [List.getElem?_zip_eq_some]
  exact ⟨by simpa using h1, h2⟩

theorem wp_lit {P : Program} {T K E I : TypeId} {ops : Array Oper} {ds : List D} {j0 : Nat} {lit : List ((Int × Int) × Value)} {id : Nat} {Q : Exit → Act → World → Prop} {a0 : Act} {w : World}
    (R : LitRegion P T K E I ops ds j0 lit) (hk : PairKey P K I) (hT : P.underlying T = some (.map K E)) (hm : P.follows .mixedOrders = true)
    (hbig : ∀ (i : Nat) (o : Oper) t, ops[i]? = some o → o.dst = some t → t < a0.tmps.size)
    (hpost : ∀ l, IsLit l lit → Q .normal { a0 with tmps := putL w.heap.size (fun _ => true) 0 (ops.toList.zip ds) a0.tmps } (w.alloc (.map (ents l) l.length)).drew) :
    (Code.region id ops true).wp P Q a0 w := by
  refine wp_region_any hm ?_
  have hlen : (ops.toList.zip ds).length = ops.size := by simp [List.length_zip, R.size]
  refine wpAny_inv (fun listed a w' => listed.size = ops.size ∧ a = { a0 with tmps := putL w.heap.size (fun i => listed.getD i false) 0 (ops.toList.zip ds) a0.tmps } ∧
      (∀ (i : Nat) (o : Oper), listed.getD i false = true → ops[i]? = some o → ∀ e ∈ o.after, Region.binds .any e = true → listed.getD e.on false = true) ∧
      ∃ l : List ((Int × Int) × Value), (∀ p, p ∈ l ↔ ∃ i, listed.getD i false = true ∧ ds[i]? = some (.ins p.1 p.2)) ∧ (l.map (·.1)).Nodup ∧
        w' = if listed.getD j0 false then w.drew.alloc (.map (ents l) l.length) else w.drew) (fun _ _ _ h => h.1) ?_ R.down ?_ ops.size _ a0 _ ?_ ?_
  · rintro listed a w' i ⟨hsz, rfl, hclo, l, hmem, hnd, rfl⟩ hi
    obtain ⟨h1, h2, hready⟩ := mem_ready.1 hi
    have hlt : i < listed.size := by omega
    obtain ⟨o, ho⟩ : ∃ o, ops[i]? = some o := ⟨ops[i], by simp [h1]⟩
    obtain ⟨d, hd⟩ : ∃ d, ds[i]? = some d := ⟨ds[i]'(by rw [R.size]; exact h1), by simp⟩
    have hoff : listed.getD i false = false := by simpa [Array.getD, hlt] using h2
    have hflip : ∀ (v : Value), v = dval w.heap.size d ∨ o.dst = none → ({ a0 with tmps := putL w.heap.size (fun i => listed.getD i false) 0 (ops.toList.zip ds) a0.tmps } : Act).put o.dst v = { a0 with tmps := putL w.heap.size (fun j => (listed.setIfInBounds i true).getD j false) 0 (ops.toList.zip ds) a0.tmps } := by
      intro v hv
      rw [put_eq]
      have hv' : putV (putL w.heap.size (fun i => listed.getD i false) 0 (ops.toList.zip ds) a0.tmps) o.dst v = putV (putL w.heap.size (fun i => listed.getD i false) 0 (ops.toList.zip ds) a0.tmps) o.dst (dval w.heap.size d) := by
        rcases hv with rfl | hv
        · rfl
        · rw [hv]; rfl
      simp only [hv']
      rw [putL_flip w.heap.size _ (fun j => (listed.setIfInBounds i true).getD j false) (ops.toList.zip ds) 0 i a0.tmps o d R.once (zip_get ho hd) (by simpa using hoff) (by simp only [Nat.zero_add]; rw [getD_set hlt, if_pos rfl]) (fun j hj => by rw [getD_set hlt, if_neg (by omega)])]
    have hclo' : ∀ (j : Nat) (o : Oper), (listed.setIfInBounds i true).getD j false = true → ops[j]? = some o → ∀ e ∈ o.after, Region.binds .any e = true → (listed.setIfInBounds i true).getD e.on false = true := by
      intro j o' hj ho' e he hb
      rw [getD_set hlt] at hj ⊢
      split
      · rfl
      · split at hj
        · rename_i e2
          subst e2
          exact hready o' ho' e he hb
        · exact hclo j o' hj ho' e he hb
    have hsrc : ∀ x q, src ops ds o.after x = some q → ({ a0 with tmps := putL w.heap.size (fun i => listed.getD i false) 0 (ops.toList.zip ds) a0.tmps } : Act).eval x = dval w.heap.size q ∧ ∃ j, listed.getD j false = true ∧ ds[j]? = some q := by
      intro x q hx
      obtain ⟨t, e, o', rfl, he, hb, ho', ht, hq⟩ := src_some hx
      have hon := hready o ho e he hb
      refine ⟨?_, e.on, hon, hq⟩
      have := putL_get w.heap.size (fun i => listed.getD i false) (ops.toList.zip ds) 0 e.on a0.tmps o' q t R.once (zip_get ho' hq) (by simpa using hon) ht (hbig _ _ _ ho' ht)
      show (putL w.heap.size (fun i => listed.getD i false) 0 (ops.toList.zip ds) a0.tmps).getD t undef = _
      rw [Array.getD_eq_getD_getElem?, this]; rfl
    have hins : ∀ x v, d = .ins x v → ∀ p : (Int × Int) × Value, (∃ j, (listed.setIfInBounds i true).getD j false = true ∧ ds[j]? = some (.ins p.1 p.2)) ↔ (p = (x, v) ∨ ∃ j, listed.getD j false = true ∧ ds[j]? = some (.ins p.1 p.2)) := by
      rintro x v rfl p
      constructor
      · rintro ⟨j, hj, hp⟩
        rw [getD_set hlt] at hj
        split at hj
        · rename_i e
          subst e
          rw [hd] at hp
          injection hp with hp
          injection hp with e1 e2
          exact .inl (Prod.ext e1.symm e2.symm)
        · exact .inr ⟨j, hj, hp⟩
      · rintro (rfl | ⟨j, hj, hp⟩)
        · exact ⟨i, by rw [getD_set hlt, if_pos rfl], hd⟩
        · exact ⟨j, by rw [getD_set hlt]; split <;> simp_all, hp⟩
    have hother : (∀ x v, d ≠ .ins x v) → ∀ p : (Int × Int) × Value, (∃ j, (listed.setIfInBounds i true).getD j false = true ∧ ds[j]? = some (.ins p.1 p.2)) ↔ ∃ j, listed.getD j false = true ∧ ds[j]? = some (.ins p.1 p.2) := by
      intro hne p
      constructor
      · rintro ⟨j, hj, hp⟩
        rw [getD_set hlt] at hj
        split at hj
        · rename_i e
          subst e
          rw [hd] at hp
          injection hp with hp
          exact absurd hp (hne _ _)
        · exact ⟨j, hj, hp⟩
      · rintro ⟨j, hj, hp⟩
        exact ⟨j, by rw [getD_set hlt]; split <;> simp_all, hp⟩
    have hsz' : (listed.setIfInBounds i true).size = ops.size := by simpa using hsz
    have his := R.is i o d ho hd
    unfold wpOp
    rw [ho]
    cases d with
    | mk =>
      obtain ⟨hg, hop⟩ := his
      have hi0 : i = j0 := R.one i hd
      subst hi0
      have hl : l = [] := by
        apply List.eq_nil_iff_forall_not_mem.2
        intro p hp
        obtain ⟨j, hj, hpj⟩ := (hmem p).1 hp
        obtain ⟨oj, hoj⟩ : ∃ oj, ops[j]? = some oj := by
          have : j < ops.size := by rw [← R.size]; exact (List.getElem?_eq_some_iff.1 hpj).1
          exact ⟨ops[j], by simp [this]⟩
        obtain ⟨_, _, m, kx, vx, _, hm1, _⟩ := R.is j oj _ hoj hpj
        obtain ⟨t, e, o', _, he, hb, _, _, hq⟩ := src_some hm1
        have := hclo j oj hj hoj e he hb
        rw [R.one _ hq, hoff] at this
        cases this
      subst hl
      simp only [Region.wanted, hg, if_true]
      left
      unfold Oper.wp execOp
      simp only [hop, hoff, Bool.false_eq_true, if_false, Option.map_none]
      have hmk : (Instr.makeMap T none).run P w.drew = .ok (.map (some w.drew.heap.size)) (w.drew.alloc (.map #[] 0)) := run_makeMap T w.drew
      simp only [Sem.run_bind, hmk, Result.andThen_ok, Sem.run_pure, Oper.upon_value]
      refine ⟨hsz', hflip _ (.inl rfl), hclo', [], fun p => ?_, hnd, ?_⟩
      · rw [hother (fun _ _ e => by cases e) p]; exact hmem p
      · rw [getD_set hlt, if_pos rfl]; rfl
    | val v =>
      obtain ⟨hg, hrun⟩ := his
      simp only [Region.wanted, hg, if_true]
      left
      unfold Oper.wp
      rw [hrun, Oper.upon_value]
      refine ⟨hsz', hflip _ (.inl rfl), hclo', l, fun p => ?_, hnd, ?_⟩
      · rw [hother (fun _ _ e => by cases e) p]; exact hmem p
      · have hne : j0 ≠ i := fun e => by subst e; rw [R.first] at hd; cases hd
        rw [getD_set hlt, if_neg hne]
    | mv =>
      obtain ⟨hg, x, hop, hs⟩ := his
      have hv : ({ a0 with tmps := putL w.heap.size (fun i => listed.getD i false) 0 (ops.toList.zip ds) a0.tmps } : Act).eval x = .map (some w.heap.size) := by
        rcases hs with hs | hs
        · exact (hsrc _ _ hs).1
        · exact (hsrc _ _ hs).1
      simp only [Region.wanted, hg, if_true]
      left
      unfold Oper.wp execOp
      rcases hop with hop | hop
      all_goals
        simp only [hop, Sem.run_pure, Oper.upon_value, hv]
        refine ⟨hsz', hflip _ (.inl rfl), hclo', l, fun p => ?_, hnd, ?_⟩
        · rw [hother (fun _ _ e => by cases e) p]; exact hmem p
        · have hne : j0 ≠ i := fun e => by subst e; rw [R.first] at hd; cases hd
          rw [getD_set hlt, if_neg hne]
    | ins x v =>
      obtain ⟨hg, hdst, m, kx, vx, hop, hs1, hs2, hs3⟩ := his
      obtain ⟨hv1, j, hj, hq⟩ := hsrc _ _ hs1
      have hj0 : listed.getD j0 false = true := by rw [← R.one j hq]; exact hj
      have hv2 := (hsrc _ _ hs2).1
      have hv3 : ({ a0 with tmps := putL w.heap.size (fun i => listed.getD i false) 0 (ops.toList.zip ds) a0.tmps } : Act).eval vx = v := by
        rcases hs3 with rfl | hs3
        · rfl
        · exact (hsrc _ _ hs3).1
      have hnew : x ∉ l.map (·.1) := by
        intro hx
        obtain ⟨p, hp, he⟩ := List.mem_map.1 hx
        obtain ⟨j', hj', hp'⟩ := (hmem p).1 hp
        have := R.keys i j' x v p.2 hd (by rw [hp', ← he])
        subst this
        rw [hoff] at hj'; cases hj'
      simp only [Region.wanted, hg, if_true]
      left
      unfold Oper.wp execOp
      have hsize : w.drew.heap.size = w.heap.size := rfl
      have hrun := run_update_new hk (w.drew.alloc (.map (ents l) l.length)) hT w.heap.size l (heap_alloc_new w.drew _) x v (findP_none.2 hnew)
      simp only [hop, hv1, hv2, hv3, dval, hj0, if_true, Sem.run_bind, hrun, Result.andThen_ok, Sem.run_pure, Oper.upon_skip]
      refine ⟨hsz', hflip _ (.inr hdst), hclo', l ++ [(x, v)], fun p => ?_, ?_, ?_⟩
      · rw [hins x v rfl p, List.mem_append, hmem p]
        simp [or_comm]
      · rw [List.map_append, List.nodup_append]
        refine ⟨hnd, by simp, fun a ha b hb => ?_⟩
        simp only [List.map_cons, List.map_nil, List.mem_singleton] at hb
        subst hb
        exact fun e => hnew (e ▸ ha)
      · have hne : j0 ≠ i := fun e => by subst e; rw [R.first] at hd; cases hd
        rw [getD_set hlt, if_neg hne, hj0, if_pos rfl]
        show ({ (w.drew.alloc (.map (ents l) l.length)) with heap := (w.drew.heap.push (.map (ents l) l.length)).setIfInBounds w.heap.size (.map (ents (l ++ [(x, v)])) (l.length + 1)) } : World) = { w.drew with heap := w.drew.heap.push (.map (ents (l ++ [(x, v)])) (l ++ [(x, v)]).length) }
        have : (w.drew.heap.push (.map (ents l) l.length)).setIfInBounds w.heap.size (.map (ents (l ++ [(x, v)])) (l.length + 1)) = w.drew.heap.push (.map (ents (l ++ [(x, v)])) (l ++ [(x, v)]).length) := by
          rw [show (l ++ [(x, v)]).length = l.length + 1 by simp]
          exact push_set w.drew.heap _ _
        rw [this]; rfl
  · rintro listed a w' ⟨hsz, rfl, _, l, hmem, hnd, rfl⟩ hall
    have hon : putL w.heap.size (fun i => listed.getD i false) 0 (ops.toList.zip ds) a0.tmps = putL w.heap.size (fun _ => true) 0 (ops.toList.zip ds) a0.tmps :=
      putL_on _ _ _ _ 0 _ fun k _ hk => hall k (by omega)
    rw [hon]
    have hj0 : j0 < ops.size := by rw [← R.size]; exact (List.getElem?_eq_some_iff.1 R.first).1
    rw [hall j0 hj0, if_pos rfl]
    refine hpost l ⟨fun p => ?_, hnd⟩
    rw [hmem p, R.lits p]
    constructor
    · rintro ⟨i, _, hp⟩; exact List.mem_of_getElem? hp
    · intro hp
      obtain ⟨i, hi, he⟩ := List.getElem_of_mem hp
      exact ⟨i, hall i (by rw [← R.size]; exact hi), by rw [List.getElem?_eq_getElem hi, he]⟩
  · simp
  · refine ⟨by simp, ?_, fun i o h => by simp [Array.getD] at h, [], fun p => ?_, List.nodup_nil, ?_⟩
    · have : putL w.heap.size (fun i => (Array.replicate ops.size false).getD i false) 0 (ops.toList.zip ds) a0.tmps = a0.tmps := by
        generalize (ops.toList.zip ds) = L
        have hz : ∀ (L : List (Oper × D)) (i : Nat) (t : Array Value), putL w.heap.size (fun i => (Array.replicate ops.size false).getD i false) i L t = t := by
          intro L
          induction L with
          | nil => intro i t; rfl
          | cons x r ih =>
            intro i t
            obtain ⟨o, d⟩ := x
            unfold putL
            rw [if_neg (by simp [Array.getD]), ih]
        exact hz L 0 _
      rw [this]
    · simp [Array.getD]
    · simp [Array.getD]


/-- The entries that a literal's region makes. -/
def litOf (ds : List D) : List ((Int × Int) × Value) := ds.filterMap fun | .ins x v => some (x, v) | _ => none
def keysOf (ds : List D) : List (Int × Int) := ds.filterMap fun | .ins x _ => some x | _ => none

theorem filterMap_inj {α β : Type} (f : α → Option β) : ∀ (l : List α), (l.filterMap f).Nodup → ∀ (i j : Nat) (a b : α) (x : β), l[i]? = some a → l[j]? = some b → f a = some x → f b = some x → i = j
  | [], _, i, _, _, _, _, hi, _, _, _ => by simp at hi
  | c :: r, hn, i, j, a, b, x, hi, hj, ha, hb => by
    have hr : (r.filterMap f).Nodup := by
      rw [List.filterMap_cons] at hn
      split at hn
      · exact hn
      · exact (List.nodup_cons.1 hn).2
    have hnot : f c = some x → x ∉ r.filterMap f := by
      intro hc
      rw [List.filterMap_cons, hc] at hn
      exact (List.nodup_cons.1 hn).1
    match i, j with
    | 0, 0 => rfl
    | 0, j + 1 =>
      simp only [List.getElem?_cons_zero, Option.some.injEq] at hi
      subst hi
      exact absurd (List.mem_filterMap.2 ⟨b, List.mem_of_getElem? (by simpa using hj), hb⟩) (hnot ha)
    | i + 1, 0 =>
      simp only [List.getElem?_cons_zero, Option.some.injEq] at hj
      subst hj
      exact absurd (List.mem_filterMap.2 ⟨a, List.mem_of_getElem? (by simpa using hi), ha⟩) (hnot hb)
    | i + 1, j + 1 =>
      rw [filterMap_inj f r hr i j a b x (by simpa using hi) (by simpa using hj) ha hb]

theorem once_of : ∀ (os : List Oper) (ds : List D), (os.filterMap (·.dst)).Nodup → Once (os.zip ds)
  | [], ds, _ => by simp [Once]
  | o :: os, [], _ => by simp [Once]
  | o :: os, d :: ds, hn => by
    have hr : (os.filterMap (·.dst)).Nodup := by
      rw [List.filterMap_cons] at hn
      split at hn
      · exact hn
      · exact (List.nodup_cons.1 hn).2
    refine List.pairwise_cons.2 ⟨fun x hx t ht hx2 => ?_, once_of os ds hr⟩
    rw [List.filterMap_cons, ht] at hn
    refine (List.nodup_cons.1 hn).1 (List.mem_filterMap.2 ⟨x.1, ?_, hx2⟩)
    obtain ⟨a, b⟩ := x
    exact (List.of_mem_zip hx).1

theorem LitRegion.of {P : Program} {T K E I : TypeId} {ops : Array Oper} {ds : List D} (j0 : Nat) (hsz : ds.length = ops.size)
    (his : ∀ x ∈ ops.toList.zip ds, OpIs P T ops ds x.1 x.2) (honce : (ops.toList.filterMap (·.dst)).Nodup)
    (hdown : (ops.toList.zipIdx.all fun x => x.1.after.all fun e => decide (e.on < x.2)) = true) (hfirst : ds[j0]? = some .mk)
    (hone : (ds.filterMap fun | .mk => some () | _ => none).Nodup) (hkeys : (keysOf ds).Nodup) : LitRegion P T K E I ops ds j0 (litOf ds) where
  size := hsz
  is := fun i o d ho hd => his (o, d) (List.mem_of_getElem? (zip_get ho hd))
  once := once_of _ _ honce
  down := fun i o ho e he => by
    have h1 := List.all_eq_true.1 hdown (o, i) (by rw [List.mem_zipIdx_iff_getElem?]; simpa using ho)
    have h2 := Array.all_eq_true_iff_forall_mem.1 h1 e he
    simpa using h2
  first := hfirst
  one := fun i hi => filterMap_inj _ ds hone i j0 _ _ () hi hfirst rfl rfl
  lits := fun p => by
    unfold litOf
    rw [List.mem_filterMap]
    constructor
    · rintro ⟨d, hd, he⟩
      cases d <;> simp only [Option.some.injEq, reduceCtorEq] at he
      subst he
      exact hd
    · intro h
      exact ⟨_, h, rfl⟩
  keys := fun i j x v u hi hj => filterMap_inj _ ds hkeys i j _ _ x hi hj rfl rfl


section
variable {P : Program} {ops : Array Oper} {rest : List Oper} {o : Oper} {a : Act} {Q : Exit → Act → World → Prop} {w : World}
/-- 'm[x]' without ok, as a step of the walk. -/
theorem wpList_lookup_pk {K I T E : TypeId} {z : Value} (h : PairKey P K I) (hT : P.underlying T = some (.map K E)) (hz : ∀ w, (zeroValue E).run P w = .ok z w) (hg : o.guard = none) (mx kx : Operand) (hop : o.op = .lookup T mx kx false)
    (b c : Nat) (l : List ((Int × Int) × Value)) (hm : a.eval mx = .map (some b)) (x y : Int) (hx : a.eval kx = .agg #[.int .i64 x, .int .i64 y]) (hb : w.heap[b]? = some (.map (ents l) c)) (v : Value)
    (hv : (match findP (x, y) l 0 with | some (_, v) => v | none => z) = v) (hK : wpList P ops Q rest (a.put o.dst v) w) : wpList P ops Q (o :: rest) a w := by
  refine wpList_plain hg fun K hK' => ?_
  unfold Oper.wp execOp
  have hrun := run_lookup_pk h w hT hz b c l hb (x, y) false
  simp only [hop, hm, hx, Sem.run_bind]
  rw [show (Value.agg #[.int .i64 x, .int .i64 y]) = pk (x, y) from rfl, hrun]
  simp only [Result.andThen_ok, Sem.run_pure, Oper.upon_value]
  refine hK' _ _ ?_
  subst hv
  cases hf : findP (x, y) l 0 with
  | none => rw [hf] at hK; exact hK
  | some r => rw [hf] at hK; exact hK
end

end Pm
end Go.Proofs.YtllabeiadeclkaaDoor

/-! BodyMaps: body.words and body.spans: the maps that they make, whatever the order in which the literal's entries are laid. -/
namespace Go.Proofs.YtllabeiadeclkaaDoor
open Go.RowKit Pm

theorem pairKey74 : PairKey Tryd.prog 74 3 where
  arr := Tryd.underlying74
  int := Tryd.underlying3
  size := fun w => by kernel_rfl
  noagg := fun w => by kernel_rfl

def wordsDs : List D := [.mk, .val (pk (1, 0)), .ins (1, 0) (.string ⟨#[110, 111, 112]⟩), .val (pk (2, 1)), .ins (2, 1) (.string ⟨#[115, 117, 98, 109, 105, 116]⟩),
  .val (pk (3, 2)), .ins (3, 2) (.string ⟨#[97, 102, 116, 101, 114]⟩), .val (pk (4, 1)), .ins (4, 1) (.string ⟨#[99, 97, 110, 99, 101, 108]⟩), .val (pk (5, 0)), .ins (5, 0) (.string ⟨#[112, 97, 110, 105, 99]⟩), .mv, .mv]

theorem dst_small (ops : Array Oper) (n : Nat) (h : (ops.toList.all fun o => (o.dst.map fun t => decide (t < n)).getD true) = true) : ∀ (i : Nat) (o : Oper) t, ops[i]? = some o → o.dst = some t → t < n := by
  intro i o t ho ht
  have := List.all_eq_true.1 h o (by rw [Array.mem_toList_iff]; exact Array.mem_of_getElem? ho)
  rw [ht] at this
  simpa using this

set_option maxHeartbeats 400000 in
theorem words_any (w : World) : Calls Tryd.prog 33 #[] w fun e w' =>
    ∃ l, IsLit l (litOf wordsDs) ∧ e = .returned (.map (some w.heap.size)) ∧ w' = (w.alloc (.map (ents l) l.length)).drew := by
  go_enter Tryd.func33, Tryd.ntmps33
  go_wp2
  refine wp_lit (ds := wordsDs) (LitRegion.of (I := 3) 0 rfl ?_ (of_decide_eq_true (by kernel_rfl)) (by kernel_rfl) rfl (by decide) (by decide)) pairKey74 Tryd.underlying72 (by kernel_rfl) ?_ ?_
  · simp only [wordsDs, List.zip_cons_cons, List.zip_nil_right, List.forall_mem_cons]
    refine ⟨⟨rfl, rfl⟩, ⟨rfl, fun _ _ => by kernel_rfl⟩, ⟨rfl, rfl, _, _, _, rfl, rfl, rfl, .inl rfl⟩, ⟨rfl, fun _ _ => by kernel_rfl⟩, ⟨rfl, rfl, _, _, _, rfl, rfl, rfl, .inl rfl⟩, ⟨rfl, fun _ _ => by kernel_rfl⟩, ⟨rfl, rfl, _, _, _, rfl, rfl, rfl, .inl rfl⟩, ⟨rfl, fun _ _ => by kernel_rfl⟩, ⟨rfl, rfl, _, _, _, rfl, rfl, rfl, .inl rfl⟩, ⟨rfl, fun _ _ => by kernel_rfl⟩, ⟨rfl, rfl, _, _, _, rfl, rfl, rfl, .inl rfl⟩, ⟨rfl, _, .inl rfl, .inl rfl⟩, ⟨rfl, _, .inr rfl, .inr rfl⟩, fun _ h => by cases h⟩
  · exact dst_small _ _ (by kernel_rfl)
  · intro l hl
    simp only [putL, putV, wordsDs, List.zip_cons_cons, List.zip_nil_right, dval, if_true, List.setIfInBounds_toArray, List.set_cons_zero, List.set_cons_succ]
    go_wp2
    go_ret
    exact ⟨l, hl, rfl, rfl⟩

/-- A span as a value. -/
def spanV (lo hi : Int) : Value := .agg #[.int .i64 lo, .int .i64 hi]
def spansDs : List D := [.mk, .val (pk (2, 0)), .val (spanV 0 7), .ins (2, 0) (spanV 0 7), .val (pk (3, 0)), .val (spanV 0 7), .ins (3, 0) (spanV 0 7),
  .val (pk (3, 1)), .val (spanV 0 1000000), .ins (3, 1) (spanV 0 1000000), .val (pk (4, 0)), .val (spanV 1 1000), .ins (4, 0) (spanV 1 1000), .mv, .mv]

set_option maxHeartbeats 400000 in
theorem spans_any (w : World) : Calls Tryd.prog 53 #[] w fun e w' =>
    ∃ l, IsLit l (litOf spansDs) ∧ e = .returned (.map (some w.heap.size)) ∧ w' = (w.alloc (.map (ents l) l.length)).drew := by
  go_enter Tryd.func53, Tryd.ntmps53
  go_wp2
  refine wp_lit (ds := spansDs) (LitRegion.of (I := 3) 0 rfl ?_ (of_decide_eq_true (by kernel_rfl)) (by kernel_rfl) rfl (by decide) (by decide)) pairKey74 Tryd.underlying94 (by kernel_rfl) ?_ ?_
  · simp only [spansDs, List.zip_cons_cons, List.zip_nil_right, List.forall_mem_cons]
    refine ⟨⟨rfl, rfl⟩, ⟨rfl, fun _ _ => by kernel_rfl⟩, ⟨rfl, fun _ _ => by kernel_rfl⟩, ⟨rfl, rfl, _, _, _, rfl, rfl, rfl, .inr rfl⟩, ⟨rfl, fun _ _ => by kernel_rfl⟩, ⟨rfl, fun _ _ => by kernel_rfl⟩, ⟨rfl, rfl, _, _, _, rfl, rfl, rfl, .inr rfl⟩, ⟨rfl, fun _ _ => by kernel_rfl⟩, ⟨rfl, fun _ _ => by kernel_rfl⟩, ⟨rfl, rfl, _, _, _, rfl, rfl, rfl, .inr rfl⟩, ⟨rfl, fun _ _ => by kernel_rfl⟩, ⟨rfl, fun _ _ => by kernel_rfl⟩, ⟨rfl, rfl, _, _, _, rfl, rfl, rfl, .inr rfl⟩, ⟨rfl, _, .inl rfl, .inl rfl⟩, ⟨rfl, _, .inr rfl, .inr rfl⟩, fun _ h => by cases h⟩
  · exact dst_small _ _ (by kernel_rfl)
  · intro l hl
    simp only [putL, putV, spansDs, List.zip_cons_cons, List.zip_nil_right, dval, if_true, List.setIfInBounds_toArray, List.set_cons_zero, List.set_cons_succ]
    go_wp2
    go_ret
    exact ⟨l, hl, rfl, rfl⟩
end Go.Proofs.YtllabeiadeclkaaDoor

/-! BodyFits: body.fits: whether an op is within its bounds, by a look into the map of spans. -/
namespace Go.Proofs.YtllabeiadeclkaaDoor
open Go.RowKit Pm

def spanAt (k i : Int) : Int × Int :=
  if (k = 2 ∨ k = 3) ∧ i = 0 then (0, 7) else if k = 3 ∧ i = 1 then (0, 1000000) else if k = 4 ∧ i = 0 then (1, 1000) else (0, 0)

theorem spans_find {l : List ((Int × Int) × Value)} (hl : IsLit l (litOf spansDs)) (k i : Int) :
    (match findP (k, i) l 0 with | some (_, v) => v | none => spanV 0 0) = spanV (spanAt k i).1 (spanAt k i).2 := by
  by_cases h1 : (k = 2 ∨ k = 3) ∧ i = 0
  · obtain ⟨h1, rfl⟩ := h1
    rcases h1 with rfl | rfl
    · obtain ⟨j, hj⟩ := hl.some (x := (2, 0)) (v := spanV 0 7) (by simp [litOf, spansDs])
      rw [hj]; rfl
    · obtain ⟨j, hj⟩ := hl.some (x := (3, 0)) (v := spanV 0 7) (by simp [litOf, spansDs])
      rw [hj]; rfl
  · by_cases h2 : k = 3 ∧ i = 1
    · obtain ⟨rfl, rfl⟩ := h2
      obtain ⟨j, hj⟩ := hl.some (x := (3, 1)) (v := spanV 0 1000000) (by simp [litOf, spansDs])
      rw [hj]; rfl
    · by_cases h3 : k = 4 ∧ i = 0
      · obtain ⟨rfl, rfl⟩ := h3
        obtain ⟨j, hj⟩ := hl.some (x := (4, 0)) (v := spanV 1 1000) (by simp [litOf, spansDs])
        rw [hj]; rfl
      · rw [hl.none (x := (k, i)) (by simp [litOf, spansDs]; omega)]
        simp only [spanAt, if_neg h1, if_neg h2, if_neg h3]

theorem fits_spans (o : Bp.O) : Bp.fits o = (decide (1 ≤ o.kind ∧ o.kind ≤ 5) && (decide ((spanAt o.kind 0).1 ≤ o.a ∧ o.a ≤ (spanAt o.kind 0).2) && decide ((spanAt o.kind 1).1 ≤ o.b ∧ o.b ≤ (spanAt o.kind 1).2))) := by
  obtain ⟨k, a, b⟩ := o
  simp only [Bp.fits, spanAt]
  rw [Bool.eq_iff_iff]
  by_cases h1 : k = 1
  · subst h1; simp; omega
  by_cases h2 : k = 2
  · subst h2; simp; omega
  by_cases h3 : k = 3
  · subst h3; simp; omega
  by_cases h4 : k = 4
  · subst h4; simp; omega
  by_cases h5 : k = 5
  · subst h5; simp; omega
  simp [h1, h2, h3, h4, h5]; omega

theorem zeroSpan (w : World) : (zeroValue 116).run Tryd.prog w = .ok (spanV 0 0) w := by kernel_rfl

set_option maxRecDepth 100000 in
set_option maxHeartbeats 800000 in
theorem fits_any (k a b : Int) (l : List ((Int × Int) × Value)) (hl : IsLit l (litOf spansDs)) (B c : Nat) (w : World) (hB : w.heap[B]? = some (.map (ents l) c)) :
    Calls Tryd.prog 56 #[.agg #[.int .i64 k, .int .i64 a, .int .i64 b], .map (some B)] w fun e w' => e = .returned (.bool (Bp.fits ⟨k, a, b⟩)) ∧ Below w.heap.size w w' := by
  have hlt : B < w.heap.size := (Array.getElem?_eq_some_iff.1 hB).1
  have i0 : ∀ w, (Instr.index 67 (.agg #[.int .i64 a, .int .i64 b]) (.int .i64 0)).run Tryd.prog w = .ok (.int .i64 a) w := fun _ => by kernel_rfl
  have i1 : ∀ w, (Instr.index 67 (.agg #[.int .i64 a, .int .i64 b]) (.int .i64 1)).run Tryd.prog w = .ok (.int .i64 b) w := fun _ => by kernel_rfl
  have hs0 := spans_find hl k 0
  have hs1 := spans_find hl k 1
  have HS0 := Lib.hid hs0
  have HS1 := Lib.hid hs1
  have HF := Lib.hid (fits_spans ⟨k, a, b⟩)
  clear hs0 hs1
  generalize spanAt k 0 = s0 at HS0 HF
  generalize spanAt k 1 = s1 at HS1 HF
  obtain ⟨lo0, hi0⟩ := s0
  obtain ⟨lo1, hi1⟩ := s1
  have hB1 : ∀ o, (w.alloc o).heap[B]? = some (.map (ents l) c) := fun o => (Below.heap_alloc w o B hlt).trans hB
  have hB2 : ∀ o o', ((w.alloc o).alloc o').heap[B]? = some (.map (ents l) c) := fun o o' => (Below.heap_alloc _ o' B (by simp; omega)).trans (hB1 o)
  have HB1 := Lib.hid hB1
  have HB2 := Lib.hid hB2
  clear hB1 hB2
  by_cases h1 : 1 ≤ k
  · by_cases h5 : k ≤ 5
    · go_enter Tryd.func56, Tryd.ntmps56
      go_wp2
      refine wp_loop_rounds 3 ?_
      rw [rounds_succ]
      go_wp2_with (at_lookup; go_must (refine wpList_lookup_pk pairKey74 Tryd.underlying94 zeroSpan rfl (.tmp 25) (.tmp 29) rfl B c l rfl k 0 rfl (HB1.out _) _ HS0.out ?_; simp only [spanV]))
      any_goals (rw [rounds_succ]; go_wp2_with (at_lookup; refine wpList_lookup_pk pairKey74 Tryd.underlying94 zeroSpan rfl (.tmp 25) (.tmp 29) rfl B c l rfl k 1 rfl (HB2.out _ _) _ HS1.out ?_; simp only [spanV]))
      any_goals (rw [rounds_succ]; go_wp2)
      all_goals go_ret
      all_goals refine ⟨ret_bool ?_, by repeat (first | exact bl0 _ | refine bl1 ?_ _)⟩
      all_goals go_light
      all_goals (rw [HF.out, Bool.eq_iff_iff]; simp; omega)
    · go_enter Tryd.func56, Tryd.ntmps56
      go_wp2
      go_ret
      refine ⟨ret_bool ?_, by repeat (first | exact bl0 _ | refine bl1 ?_ _)⟩
      rw [HF.out, Bool.eq_iff_iff]; simp; omega
  · go_enter Tryd.func56, Tryd.ntmps56
    go_wp2
    go_ret
    refine ⟨ret_bool ?_, by repeat (first | exact bl0 _ | refine bl1 ?_ _)⟩
    rw [HF.out, Bool.eq_iff_iff]; simp; omega
end Go.Proofs.YtllabeiadeclkaaDoor

/-! BodyOk: body.Ok and body.Steps: slices.IndexFunc and slices.ContainsFunc over a body's ops. -/
namespace Go.Proofs.YtllabeiadeclkaaDoor
open Go.RowKit Pm

/-- An op as a value. -/
abbrev opV (x : Bp.O) : Value := .agg #[.int .i64 x.kind, .int .i64 x.a, .int .i64 x.b]
/-- A slice of ops that is read. -/
def OpsAt (w : World) (A : Option Addr) (l : List Bp.O) : Prop :=
  0 < l.length → ∃ b o, A = some ⟨b, o, none⟩ ∧ b < w.heap.size ∧ ∀ (j : Nat) x, l[j]? = some x →
    w.cell? ⟨b, o + j * 3, none⟩ = some (.int .i64 x.kind) ∧ w.cell? ⟨b, o + j * 3 + 1, none⟩ = some (.int .i64 x.a) ∧ w.cell? ⟨b, o + j * 3 + 2, none⟩ = some (.int .i64 x.b)
theorem OpsAt.below {w W : World} {A : Option Addr} {l : List Bp.O} (h : OpsAt w A l) (hb : Below w.heap.size w W) : OpsAt W A l := by
  intro hl
  obtain ⟨b, o, rfl, hlt, hc⟩ := h hl
  exact ⟨b, o, rfl, Nat.lt_of_lt_of_le hlt hb.size, fun j x hx => ⟨cellk hb (hc j x hx).1, cellk hb (hc j x hx).2.1, cellk hb (hc j x hx).2.2⟩⟩

def idxOf (p : Bp.O → Bool) (l : List Bp.O) : Int := match l.findIdx? p with | some i => i | none => -1

theorem notFits_any (x : Bp.O) (l : List ((Int × Int) × Value)) (hl : IsLit l (litOf spansDs)) (B c C : Nat) (w : World) (hB : w.heap[B]? = some (.map (ents l) c)) (hC : w.cell? ⟨C, 0, none⟩ = some (.map (some B))) :
    Calls Tryd.prog 55 #[opV x, .pointer (some ⟨C, 0, none⟩)] w fun e w' => e = .returned (.bool (!Bp.fits x)) ∧ Below w.heap.size w w' := by
  have hCb := World.block_lt_of_cell? w _ hC
  have hc1 : ∀ o, (w.alloc o).cell? ⟨C, 0, none⟩ = some (.map (some B)) := fun o => cellk (bl1 (bl0 w) o) hC
  obtain ⟨k, a, b⟩ := x
  go_enter Tryd.func55, Tryd.ntmps55
  go_wp2_with (go_at_call 56; refine (fits_any k a b l hl B c _ (blk (bl1 (bl0 _) _) hB)).mono ?_; rintro e w1 ⟨rfl, hb⟩)
  go_ret
  exact ⟨rfl, bl3 (bl1 (bl0 _) _) hb⟩

theorem idx_hit {p : Bp.O → Bool} {l : List Bp.O} {k : Nat} {x : Bp.O} (h : ∀ j, j < k → ∀ x, l[j]? = some x → p x = false) (hx : l[k]? = some x) (hp : p x = true) : (k : Int) = idxOf p l := by
  obtain ⟨hk, hx⟩ := List.getElem?_eq_some_iff.1 hx
  have : l.findIdx? p = some k := List.findIdx?_eq_some_iff_getElem.2 ⟨hk, by rw [hx]; exact hp, fun j hj => by
    rw [h j hj _ (List.getElem?_eq_getElem (by omega))]; simp⟩
  simp [idxOf, this]
theorem idx_miss {p : Bp.O → Bool} {l : List Bp.O} (h : ∀ j, j < l.length → ∀ x, l[j]? = some x → p x = false) : (-1 : Int) = idxOf p l := by
  have : l.findIdx? p = none := List.findIdx?_eq_none_iff.2 fun x hx => by
    obtain ⟨i, hi, he⟩ := List.getElem_of_mem hx
    exact h i hi x (by rw [List.getElem?_eq_getElem hi, he])
  simp [idxOf, this]
theorem idx_any (p : Bp.O → Bool) (l : List Bp.O) : decide (0 ≤ idxOf p l) = l.any p := by
  unfold idxOf
  cases h : l.findIdx? p with
  | none =>
    have := List.findIdx?_eq_none_iff.1 h
    rw [show l.any p = false by rw [List.any_eq_false]; intro x hx; rw [this x hx]; simp]; rfl
  | some i =>
    obtain ⟨hi, h1, _⟩ := List.findIdx?_eq_some_iff_getElem.1 h
    rw [show l.any p = true by rw [List.any_eq_true]; exact ⟨_, List.getElem_mem hi, h1⟩]
    simp

theorem isPanic_any (x : Bp.O) (w : World) : Calls Tryd.prog 40 #[opV x] w fun e w' => e = .returned (.bool (x.kind == 5)) ∧ Below w.heap.size w w' := by
  obtain ⟨k, a, b⟩ := x
  go_enter Tryd.func40, Tryd.ntmps40
  go_wp2
  go_ret
  exact ⟨rfl, bl1 (bl0 _) _⟩

set_option maxHeartbeats 800000 in
theorem indexNot_any (l : List Bp.O) (A : Option Addr) (cap : Nat) (m : List ((Int × Int) × Value)) (B c C : Nat) (w : World) (hl : OpsAt w A l) (hlen : l.length ≤ 140737488355328) (hm : IsLit m (litOf spansDs)) (hB : w.heap[B]? = some (.map (ents m) c)) (hC : w.cell? ⟨C, 0, none⟩ = some (.map (some B))) :
    Calls Tryd.prog 39 #[.slice A l.length cap, .func (.func 55) #[] #[.pointer (some ⟨C, 0, none⟩)]] w fun e w' => e = .returned (.int .i64 (idxOf (fun x => !Bp.fits x) l)) ∧ Below w.heap.size w w' := by
  have HO := Lib.hid hl
  clear hl
  have HM := Lib.hid hm
  have HB := Lib.hid hB
  have HC := Lib.hid hC
  clear hm hB hC
  go_enter Tryd.func39, Tryd.ntmps39
  go_wp2
  go_loopw [8] (fun i wr => ∃ k : Nat, i = .int .i64 k ∧ k ≤ l.length ∧ (∀ j, j < k → ∀ x, l[j]? = some x → (fun x => !Bp.fits x) x = false) ∧ Below w.heap.size w wr) (fun i _ => l.length - (intOf i).toNat)
  case atStart => exact ⟨0, rfl, by omega, fun j h => by omega, bl0 _⟩
  case round =>
    obtain ⟨k, rfl, hk, hall, hbw⟩ := hrel
    have HA := Lib.hid hall
    have HW := Lib.hid hbw
    clear hall hbw
    by_cases hlt : k < l.length
    · obtain ⟨b, o, rfl, hbl, hcells⟩ := HO.out (by omega)
      obtain ⟨x, hx⟩ : ∃ x, l[k]? = some x := ⟨_, List.getElem?_eq_getElem hlt⟩
      have HX := Lib.hid hx
      obtain ⟨c0, c1, c2⟩ := hcells k x hx
      replace c0 := cellk HW.out c0
      replace c1 := cellk HW.out c1
      replace c2 := cellk HW.out c2
      clear hcells hx
      have HT : Hid (∀ b : Bool, (fun x => !Bp.fits x) x = b → (fun x => !Bp.fits x) x = b) := fun _ h => h
      go_wp2_with (go_at_call 55; go_must (refine (notFits_any x m HM.out B c C _ (blk HW.out HB.out) (cellk HW.out HC.out)).mono ?_; rintro e w1 ⟨rfl, hb⟩))
      · have ht := HT.out true (by assumption)
        go_ret
        go_light
        exact ⟨ret_int (idx_hit HA.out HX.out ht), bl3 HW.out hb⟩
      · have ht := HT.out false (by assumption)
        go_light
        refine ⟨⟨k + 1, by go_num, by omega, fun j hj y hy => ?_, bl3 HW.out hb⟩, by simp [intOf]; omega⟩
        rcases Nat.lt_or_ge j k with h | h
        · exact HA.out j h y hy
        · obtain rfl : j = k := by omega
          rw [HX.out] at hy
          injection hy with hy
          exact hy ▸ ht
    · go_wp2
      go_ret
      go_light
      obtain rfl : k = l.length := by omega
      exact ⟨ret_int (idx_miss HA.out), HW.out⟩

set_option maxHeartbeats 800000 in
theorem indexPanic_any (l : List Bp.O) (A : Option Addr) (cap : Nat) (w : World) (hl : OpsAt w A l) (hlen : l.length ≤ 140737488355328) :
    Calls Tryd.prog 39 #[.slice A l.length cap, .func (.func 40) #[] #[]] w fun e w' => e = .returned (.int .i64 (idxOf (fun x => x.kind == 5) l)) ∧ Below w.heap.size w w' := by
  have HO := Lib.hid hl
  clear hl
  go_enter Tryd.func39, Tryd.ntmps39
  go_wp2
  go_loopw [8] (fun i wr => ∃ k : Nat, i = .int .i64 k ∧ k ≤ l.length ∧ (∀ j, j < k → ∀ x, l[j]? = some x → (fun x => x.kind == 5) x = false) ∧ Below w.heap.size w wr) (fun i _ => l.length - (intOf i).toNat)
  case atStart => exact ⟨0, rfl, by omega, fun j h => by omega, bl0 _⟩
  case round =>
    obtain ⟨k, rfl, hk, hall, hbw⟩ := hrel
    have HA := Lib.hid hall
    have HW := Lib.hid hbw
    clear hall hbw
    by_cases hlt : k < l.length
    · obtain ⟨b, o, rfl, hbl, hcells⟩ := HO.out (by omega)
      obtain ⟨x, hx⟩ : ∃ x, l[k]? = some x := ⟨_, List.getElem?_eq_getElem hlt⟩
      have HX := Lib.hid hx
      obtain ⟨c0, c1, c2⟩ := hcells k x hx
      replace c0 := cellk HW.out c0
      replace c1 := cellk HW.out c1
      replace c2 := cellk HW.out c2
      clear hcells hx
      have HT : Hid (∀ b : Bool, (fun x => x.kind == 5) x = b → (fun x => x.kind == 5) x = b) := fun _ h => h
      go_wp2_with (go_at_call 40; go_must (refine (isPanic_any x _).mono ?_; rintro e w1 ⟨rfl, hb⟩))
      · have ht := HT.out true (by assumption)
        go_ret
        go_light
        exact ⟨ret_int (idx_hit HA.out HX.out ht), bl3 HW.out hb⟩
      · have ht := HT.out false (by assumption)
        go_light
        refine ⟨⟨k + 1, by go_num, by omega, fun j hj y hy => ?_, bl3 HW.out hb⟩, by simp [intOf]; omega⟩
        rcases Nat.lt_or_ge j k with h | h
        · exact HA.out j h y hy
        · obtain rfl : j = k := by omega
          rw [HX.out] at hy
          injection hy with hy
          exact hy ▸ ht
    · go_wp2
      go_ret
      go_light
      obtain rfl : k = l.length := by omega
      exact ⟨ret_int (idx_miss HA.out), HW.out⟩

theorem containsNot_any (l : List Bp.O) (A : Option Addr) (cap : Nat) (m : List ((Int × Int) × Value)) (B c C : Nat) (w : World) (hl : OpsAt w A l) (hlen : l.length ≤ 140737488355328) (hm : IsLit m (litOf spansDs)) (hB : w.heap[B]? = some (.map (ents m) c)) (hC : w.cell? ⟨C, 0, none⟩ = some (.map (some B))) :
    Calls Tryd.prog 54 #[.slice A l.length cap, .func (.func 55) #[] #[.pointer (some ⟨C, 0, none⟩)]] w fun e w' => e = .returned (.bool (l.any fun x => !Bp.fits x)) ∧ Below w.heap.size w w' := by
  have H := Lib.hid (indexNot_any l A cap m B c C w hl hlen hm hB hC)
  have HQ := Lib.hid (idx_any (fun x => !Bp.fits x) l)
  clear hl hm hB hC
  generalize idxOf (fun x => !Bp.fits x) l = i at H HQ
  go_enter Tryd.func54, Tryd.ntmps54
  go_wp2_with (go_at_call 39; go_must (refine H.out.mono ?_; rintro e w1 ⟨rfl, hb⟩))
  go_ret
  exact ⟨ret_bool HQ.out, hb⟩

set_option maxHeartbeats 800000 in
/-- body.Ok. -/
theorem ok_any (l : List Bp.O) (A : Option Addr) (cap : Nat) (w : World) (hl : OpsAt w A l) (hlen : l.length ≤ 140737488355328) :
    Calls Tryd.prog 34 #[.slice A l.length cap] w fun e w' => e = .returned (.bool (Bp.bodyOk l)) ∧ Below w.heap.size w w' := by
  have HO := Lib.hid hl
  clear hl
  have HQ : Hid (Bp.bodyOk l = (decide (l.length ≤ 16) && !(l.any fun x => !Bp.fits x))) := by
    show Bp.bodyOk l = _
    unfold Bp.bodyOk
    rw [List.not_any_eq_all_not]; simp
  by_cases h16 : l.length ≤ 16
  · have hd : decide ((l.length : Int) ≤ 16) = true := by simp; omega
    go_enter Tryd.func34, Tryd.ntmps34
    go_wp2_with (first | (go_at_call 53; refine (spans_any _).mono ?_; rintro e w1 ⟨m, hm, rfl, hw⟩; have HM := Lib.hid hm; have HB1 := Lib.hid (show Below w.heap.size w w1 by rw [hw]; exact bl2 (bl1 (bl0 _) _)); have HM1 := Lib.hid (show w1.heap[w.heap.size]? = some (.map (ents m) m.length) by rw [hw]; exact drew_new _ _ _ rfl); clear hm hw) | (go_at_call 54; go_must (refine (containsNot_any l A cap m w.heap.size m.length w1.heap.size _ (HO.out.below (bl1 HB1.out _)) hlen HM.out (blk (bl1 (bl0 _) _) HM1.out) (cell_blk (alloc_new _ _ _ rfl) 0)).mono ?_; rintro e w2 ⟨rfl, hb⟩)))
    go_ret
    go_light
    exact ⟨ret_bool (by rw [HQ.out]; try simp [h16]), bl3 (bl1 HB1.out _) hb⟩
  · have hd : decide ((l.length : Int) ≤ 16) = false := by simp <;> omega
    go_enter Tryd.func34, Tryd.ntmps34
    go_wp2_with (go_at_call 53; refine (spans_any _).mono ?_; rintro e w1 ⟨m, hm, rfl, hw⟩; have HB1 := Lib.hid (show Below w.heap.size w w1 by rw [hw]; exact bl2 (bl1 (bl0 _) _)); clear hm hw)
    go_ret
    go_light
    exact ⟨ret_bool (by rw [HQ.out]; try simp [h16]), bl1 HB1.out _⟩

def stepsOf (l : List Bp.O) : Nat := match l.findIdx? (fun x => x.kind == 5) with | some i => i + 1 | none => l.length
theorem steps_idx (l : List Bp.O) : (if idxOf (fun x => x.kind == 5) l < 0 then (l.length : Int) else idxOf (fun x => x.kind == 5) l + 1) = (stepsOf l : Int) := by
  unfold idxOf stepsOf
  cases h : l.findIdx? (fun x => x.kind == 5) with
  | none => simp
  | some i => simp; omega
theorem idx_bound (p : Bp.O → Bool) (l : List Bp.O) : -1 ≤ idxOf p l ∧ idxOf p l ≤ l.length := by
  unfold idxOf
  cases h : l.findIdx? p with
  | none => simp
  | some i => obtain ⟨hi, _⟩ := List.findIdx?_eq_some_iff_getElem.1 h; simp; omega

/-- body.Steps. -/
theorem steps_any (l : List Bp.O) (A : Option Addr) (cap : Nat) (w : World) (hl : OpsAt w A l) (hlen : l.length ≤ 140737488355328) :
    Calls Tryd.prog 22 #[.slice A l.length cap] w fun e w' => e = .returned (.int .i64 (stepsOf l : Int)) ∧ Below w.heap.size w w' := by
  have H := Lib.hid (indexPanic_any l A cap w hl hlen)
  have HS := Lib.hid (steps_idx l)
  obtain ⟨h1, h2⟩ := idx_bound (fun x => x.kind == 5) l
  generalize idxOf (fun x => x.kind == 5) l = i at H HS h1 h2
  clear hl
  by_cases hi : i < 0
  all_goals
    go_enter Tryd.func22, Tryd.ntmps22
    go_wp2_with (go_at_call 39; go_must (refine H.out.mono ?_; rintro e w1 ⟨rfl, hb⟩))
    go_ret
    go_light
    exact ⟨ret_int (by rw [← HS.out]; split <;> omega), hb⟩
end Go.Proofs.YtllabeiadeclkaaDoor

/-! BodyTold: body.told: an op's text, by looks into the map of words. -/
namespace Go.Proofs.YtllabeiadeclkaaDoor
open Go.RowKit Pm

theorem zeroStr (w : World) : (zeroValue 9).run Tryd.prog w = .ok (.string ⟨#[]⟩) w := by kernel_rfl

/-- The word of a kind and so many numbers. -/
def wordAt (k : Int) (n : Int) : Option (List UInt8) :=
  if k = 1 ∧ n = 0 then some Bp.nopW else if k = 2 ∧ n = 1 then some Bp.submitW else if k = 3 ∧ n = 2 then some Bp.afterW else if k = 4 ∧ n = 1 then some Bp.cancelW else if k = 5 ∧ n = 0 then some Bp.panicW else none

theorem words_at {l : List ((Int × Int) × Value)} (hl : IsLit l (litOf wordsDs)) (k n : Int) :
    (match findP (k, n) l 0 with | some (_, v) => Value.tuple #[v, .bool true] | none => .tuple #[.string ⟨#[]⟩, .bool false]) =
    match wordAt k n with | some wd => .tuple #[.string (S wd), .bool true] | none => .tuple #[.string ⟨#[]⟩, .bool false] := by
  by_cases h1 : k = 1 ∧ n = 0
  · obtain ⟨rfl, rfl⟩ := h1
    obtain ⟨j, hj⟩ := hl.some (x := (1, 0)) (v := .string (S Bp.nopW)) (by simp [litOf, wordsDs, Bp.nopW])
    rw [hj]; rfl
  by_cases h2 : k = 2 ∧ n = 1
  · obtain ⟨rfl, rfl⟩ := h2
    obtain ⟨j, hj⟩ := hl.some (x := (2, 1)) (v := .string (S Bp.submitW)) (by simp [litOf, wordsDs, Bp.submitW])
    rw [hj]; rfl
  by_cases h3 : k = 3 ∧ n = 2
  · obtain ⟨rfl, rfl⟩ := h3
    obtain ⟨j, hj⟩ := hl.some (x := (3, 2)) (v := .string (S Bp.afterW)) (by simp [litOf, wordsDs, Bp.afterW])
    rw [hj]; rfl
  by_cases h4 : k = 4 ∧ n = 1
  · obtain ⟨rfl, rfl⟩ := h4
    obtain ⟨j, hj⟩ := hl.some (x := (4, 1)) (v := .string (S Bp.cancelW)) (by simp [litOf, wordsDs, Bp.cancelW])
    rw [hj]; rfl
  by_cases h5 : k = 5 ∧ n = 0
  · obtain ⟨rfl, rfl⟩ := h5
    obtain ⟨j, hj⟩ := hl.some (x := (5, 0)) (v := .string (S Bp.panicW)) (by simp [litOf, wordsDs, Bp.panicW])
    rw [hj]; rfl
  rw [hl.none (x := (k, n)) (by simp [litOf, wordsDs]; omega)]
  simp only [wordAt, if_neg h1, if_neg h2, if_neg h3, if_neg h4, if_neg h5]

section
variable {P : Program} {ops : Array Oper} {rest : List Oper} {o : Oper} {a : Act} {Q : Exit → Act → World → Prop} {w : World}
/-- 'v, ok := m[x]', as a step of the walk. -/
theorem wpList_lookup_pk_ok {K I T E : TypeId} {z : Value} (h : PairKey P K I) (hT : P.underlying T = some (.map K E)) (hz : ∀ w, (zeroValue E).run P w = .ok z w) (hg : o.guard = none) (mx kx : Operand) (hop : o.op = .lookup T mx kx true)
    (b c : Nat) (l : List ((Int × Int) × Value)) (hm : a.eval mx = .map (some b)) (x y : Int) (hx : a.eval kx = .agg #[.int .i64 x, .int .i64 y]) (hb : w.heap[b]? = some (.map (ents l) c)) (v : Value)
    (hv : (match findP (x, y) l 0 with | some (_, v) => Value.tuple #[v, .bool true] | none => .tuple #[z, .bool false]) = v) (hK : wpList P ops Q rest (a.put o.dst v) w) : wpList P ops Q (o :: rest) a w := by
  refine wpList_plain hg fun K hK' => ?_
  unfold Oper.wp execOp
  have hrun := run_lookup_pk h w hT hz b c l hb (x, y) true
  simp only [hop, hm, hx, Sem.run_bind]
  rw [show (Value.agg #[.int .i64 x, .int .i64 y]) = pk (x, y) from rfl, hrun]
  simp only [Result.andThen_ok, Sem.run_pure, Oper.upon_value]
  refine hK' _ _ ?_
  subst hv
  cases hf : findP (x, y) l 0 with
  | none => rw [hf] at hK; exact hK
  | some r => rw [hf] at hK; exact hK
end

theorem size_S (l : List UInt8) (n : Nat) (h : l.length ≤ n) : (S l).size ≤ n := by rw [S_size]; exact h
theorem word_size (l : List UInt8) (h : l.length ≤ 6) : (S l).size ≤ 6 := by rw [S_size]; exact h
theorem S_app (a b : List UInt8) : S a ++ S b = S (a ++ b) := by
  have h : (S a ++ S b).data = (S (a ++ b)).data := by
    apply Array.toList_inj.1
    rw [ByteArray.data_append]; simp
  exact ByteArray.ext h
theorem size_32 (l : List UInt8) (n : Nat) (h : l.length ≤ n) : ((⟨#[32]⟩ : ByteArray) ++ S l).size ≤ n + 1 := by
  rw [show ((⟨#[32]⟩ : ByteArray)) = S [32] from rfl, S_app, S_size]; simp; omega
theorem size_w32 (w l : List UInt8) (hw : w.length ≤ 6) (h : l.length ≤ 21) : (S w ++ ((⟨#[32]⟩ : ByteArray) ++ S l)).size ≤ 28 := by
  rw [show ((⟨#[32]⟩ : ByteArray)) = S [32] from rfl, S_app, S_app, S_size]; simp; omega
def strV (l : List UInt8) : Ending := .returned (.string (S l))

set_option maxRecDepth 100000 in
set_option maxHeartbeats 1600000 in
theorem told_1 (a b : Int) (w : World) (G : Glob w) (h0 : -9223372036854775808 ≤ a) (h1 : a ≤ 9223372036854775807) (h2 : -9223372036854775808 ≤ b) (h3 : b ≤ 9223372036854775807) :
    Calls Tryd.prog 35 #[.agg #[.int .i64 1, .int .i64 a, .int .i64 b]] w fun e w' => e = strV (Bp.nopW) ∧ Below w.heap.size w w' := by
  have HG := Lib.hid G
  clear G
  have ha := Lib.itoa_length_le a h0 h1
  have hb' := Lib.itoa_length_le b h2 h3
  have hw := word_size Bp.nopW (by decide)
  have hsa := size_S (Lib.itoa a) 21 ha
  have hsb := size_S (Lib.itoa b) 21 hb'
  have hsa2 := size_32 (Lib.itoa a) 21 ha
  have hsb2 := size_32 (Lib.itoa b) 21 hb'
  have hsa3 := size_w32 Bp.nopW (Lib.itoa a) (by decide) ha
  go_enter Tryd.func35, Tryd.ntmps35
  go_wp2_with (go_at_call 33; refine (words_any _).mono ?_; rintro e w9 ⟨ws, hws, rfl, rfl⟩)
  have HW := Lib.hid hws
  clear hws
  refine wp_loop_rounds 1 ?_
  rw [rounds_succ]
  go_wp2_with (at_lookup; go_must (refine wpList_lookup_pk_ok pairKey74 Tryd.underlying72 zeroStr rfl (.tmp 14) (.tmp 18) rfl (w.heap.size + 1) ws.length ws rfl 1 0 rfl (drew_new _ _ _ (by simp)) _ (words_at HW.out 1 0) ?_; simp only [wordAt]))
  refine wp_loop_rounds 1 ?_
  rw [rounds_succ]
  go_wp2
  go_ret
  go_light
  exact ⟨rfl, by repeat (first | exact bl0 _ | refine bl2 ?_ | refine bl1 ?_ _)⟩

set_option maxRecDepth 100000 in
set_option maxHeartbeats 1600000 in
theorem told_2 (a b : Int) (w : World) (G : Glob w) (h0 : -9223372036854775808 ≤ a) (h1 : a ≤ 9223372036854775807) (h2 : -9223372036854775808 ≤ b) (h3 : b ≤ 9223372036854775807) :
    Calls Tryd.prog 35 #[.agg #[.int .i64 2, .int .i64 a, .int .i64 b]] w fun e w' => e = strV (Bp.submitW ++ 32 :: Lib.itoa a) ∧ Below w.heap.size w w' := by
  have HG := Lib.hid G
  clear G
  have ha := Lib.itoa_length_le a h0 h1
  have hb' := Lib.itoa_length_le b h2 h3
  have hw := word_size Bp.submitW (by decide)
  have hsa := size_S (Lib.itoa a) 21 ha
  have hsb := size_S (Lib.itoa b) 21 hb'
  have hsa2 := size_32 (Lib.itoa a) 21 ha
  have hsb2 := size_32 (Lib.itoa b) 21 hb'
  have hsa3 := size_w32 Bp.submitW (Lib.itoa a) (by decide) ha
  go_enter Tryd.func35, Tryd.ntmps35
  go_wp2_with (go_at_call 33; refine (words_any _).mono ?_; rintro e w9 ⟨ws, hws, rfl, rfl⟩)
  have HW := Lib.hid hws
  clear hws
  refine wp_loop_rounds 2 ?_
  rw [rounds_succ]
  go_wp2_with (at_lookup; go_must (refine wpList_lookup_pk_ok pairKey74 Tryd.underlying72 zeroStr rfl (.tmp 14) (.tmp 18) rfl (w.heap.size + 1) ws.length ws rfl 2 0 rfl (drew_new _ _ _ (by simp)) _ (words_at HW.out 2 0) ?_; simp only [wordAt]))
  rw [rounds_succ]
  go_wp2_with (at_lookup; go_must (refine wpList_lookup_pk_ok pairKey74 Tryd.underlying72 zeroStr rfl (.tmp 14) (.tmp 18) rfl (w.heap.size + 1) ws.length ws rfl 2 1 rfl (drew_new _ _ _ (by simp)) _ (words_at HW.out 2 1) ?_; simp only [wordAt]))
  refine wp_loop_rounds 2 ?_
  rw [rounds_succ]
  go_wp2_with (go_at_call 45; go_must (refine (itoa_any a _ (HG.out.below (by repeat (first | exact bl0 _ | refine bl2 ?_ | refine bl1 ?_ _))) (by omega) (by omega)).mono ?_; rintro e w1 ⟨rfl, hb⟩; obtain ⟨hc, hf⟩ := bcell hb))
  rw [rounds_succ]
  go_wp2
  go_ret
  go_light
  exact ⟨congrArg (fun x => Ending.returned (.string x)) (by rw [show ((⟨#[32]⟩ : ByteArray)) = S [32] from rfl, S_app, S_app]; rfl), bl3 (by repeat (first | exact bl0 _ | refine bl2 ?_ | refine bl1 ?_ _)) hb⟩

set_option maxRecDepth 100000 in
set_option maxHeartbeats 1600000 in
theorem told_3 (a b : Int) (w : World) (G : Glob w) (h0 : -9223372036854775808 ≤ a) (h1 : a ≤ 9223372036854775807) (h2 : -9223372036854775808 ≤ b) (h3 : b ≤ 9223372036854775807) :
    Calls Tryd.prog 35 #[.agg #[.int .i64 3, .int .i64 a, .int .i64 b]] w fun e w' => e = strV (Bp.afterW ++ 32 :: (Lib.itoa a ++ 32 :: Lib.itoa b)) ∧ Below w.heap.size w w' := by
  have HG := Lib.hid G
  clear G
  have ha := Lib.itoa_length_le a h0 h1
  have hb' := Lib.itoa_length_le b h2 h3
  have hw := word_size Bp.afterW (by decide)
  have hsa := size_S (Lib.itoa a) 21 ha
  have hsb := size_S (Lib.itoa b) 21 hb'
  have hsa2 := size_32 (Lib.itoa a) 21 ha
  have hsb2 := size_32 (Lib.itoa b) 21 hb'
  have hsa3 := size_w32 Bp.afterW (Lib.itoa a) (by decide) ha
  go_enter Tryd.func35, Tryd.ntmps35
  go_wp2_with (go_at_call 33; refine (words_any _).mono ?_; rintro e w9 ⟨ws, hws, rfl, rfl⟩)
  have HW := Lib.hid hws
  clear hws
  refine wp_loop_rounds 3 ?_
  rw [rounds_succ]
  go_wp2_with (at_lookup; go_must (refine wpList_lookup_pk_ok pairKey74 Tryd.underlying72 zeroStr rfl (.tmp 14) (.tmp 18) rfl (w.heap.size + 1) ws.length ws rfl 3 0 rfl (drew_new _ _ _ (by simp)) _ (words_at HW.out 3 0) ?_; simp only [wordAt]))
  rw [rounds_succ]
  go_wp2_with (at_lookup; go_must (refine wpList_lookup_pk_ok pairKey74 Tryd.underlying72 zeroStr rfl (.tmp 14) (.tmp 18) rfl (w.heap.size + 1) ws.length ws rfl 3 1 rfl (drew_new _ _ _ (by simp)) _ (words_at HW.out 3 1) ?_; simp only [wordAt]))
  rw [rounds_succ]
  go_wp2_with (at_lookup; go_must (refine wpList_lookup_pk_ok pairKey74 Tryd.underlying72 zeroStr rfl (.tmp 14) (.tmp 18) rfl (w.heap.size + 1) ws.length ws rfl 3 2 rfl (drew_new _ _ _ (by simp)) _ (words_at HW.out 3 2) ?_; simp only [wordAt]))
  refine wp_loop_rounds 3 ?_
  rw [rounds_succ]
  go_wp2_with (go_at_call 45; go_must (refine (itoa_any a _ (HG.out.below (by repeat (first | exact bl0 _ | refine bl2 ?_ | refine bl1 ?_ _))) (by omega) (by omega)).mono ?_; rintro e w1 ⟨rfl, hb⟩; obtain ⟨hc, hf⟩ := bcell hb))
  rw [rounds_succ]
  go_wp2_with (go_at_call 45; go_must (refine (itoa_any b _ (HG.out.below (bl3 (by repeat (first | exact bl0 _ | refine bl2 ?_ | refine bl1 ?_ _)) hb)) (by omega) (by omega)).mono ?_; rintro e w2 ⟨rfl, hb2⟩))
  rw [rounds_succ]
  go_wp2
  go_ret
  go_light
  exact ⟨congrArg (fun x => Ending.returned (.string x)) (by rw [show ((⟨#[32]⟩ : ByteArray)) = S [32] from rfl, S_app, S_app, S_app, S_app]; simp), bl3 (bl3 (by repeat (first | exact bl0 _ | refine bl2 ?_ | refine bl1 ?_ _)) hb) hb2⟩

set_option maxRecDepth 100000 in
set_option maxHeartbeats 1600000 in
theorem told_4 (a b : Int) (w : World) (G : Glob w) (h0 : -9223372036854775808 ≤ a) (h1 : a ≤ 9223372036854775807) (h2 : -9223372036854775808 ≤ b) (h3 : b ≤ 9223372036854775807) :
    Calls Tryd.prog 35 #[.agg #[.int .i64 4, .int .i64 a, .int .i64 b]] w fun e w' => e = strV (Bp.cancelW ++ 32 :: Lib.itoa a) ∧ Below w.heap.size w w' := by
  have HG := Lib.hid G
  clear G
  have ha := Lib.itoa_length_le a h0 h1
  have hb' := Lib.itoa_length_le b h2 h3
  have hw := word_size Bp.cancelW (by decide)
  have hsa := size_S (Lib.itoa a) 21 ha
  have hsb := size_S (Lib.itoa b) 21 hb'
  have hsa2 := size_32 (Lib.itoa a) 21 ha
  have hsb2 := size_32 (Lib.itoa b) 21 hb'
  have hsa3 := size_w32 Bp.cancelW (Lib.itoa a) (by decide) ha
  go_enter Tryd.func35, Tryd.ntmps35
  go_wp2_with (go_at_call 33; refine (words_any _).mono ?_; rintro e w9 ⟨ws, hws, rfl, rfl⟩)
  have HW := Lib.hid hws
  clear hws
  refine wp_loop_rounds 2 ?_
  rw [rounds_succ]
  go_wp2_with (at_lookup; go_must (refine wpList_lookup_pk_ok pairKey74 Tryd.underlying72 zeroStr rfl (.tmp 14) (.tmp 18) rfl (w.heap.size + 1) ws.length ws rfl 4 0 rfl (drew_new _ _ _ (by simp)) _ (words_at HW.out 4 0) ?_; simp only [wordAt]))
  rw [rounds_succ]
  go_wp2_with (at_lookup; go_must (refine wpList_lookup_pk_ok pairKey74 Tryd.underlying72 zeroStr rfl (.tmp 14) (.tmp 18) rfl (w.heap.size + 1) ws.length ws rfl 4 1 rfl (drew_new _ _ _ (by simp)) _ (words_at HW.out 4 1) ?_; simp only [wordAt]))
  refine wp_loop_rounds 2 ?_
  rw [rounds_succ]
  go_wp2_with (go_at_call 45; go_must (refine (itoa_any a _ (HG.out.below (by repeat (first | exact bl0 _ | refine bl2 ?_ | refine bl1 ?_ _))) (by omega) (by omega)).mono ?_; rintro e w1 ⟨rfl, hb⟩; obtain ⟨hc, hf⟩ := bcell hb))
  rw [rounds_succ]
  go_wp2
  go_ret
  go_light
  exact ⟨congrArg (fun x => Ending.returned (.string x)) (by rw [show ((⟨#[32]⟩ : ByteArray)) = S [32] from rfl, S_app, S_app]; rfl), bl3 (by repeat (first | exact bl0 _ | refine bl2 ?_ | refine bl1 ?_ _)) hb⟩

set_option maxRecDepth 100000 in
set_option maxHeartbeats 1600000 in
theorem told_5 (a b : Int) (w : World) (G : Glob w) (h0 : -9223372036854775808 ≤ a) (h1 : a ≤ 9223372036854775807) (h2 : -9223372036854775808 ≤ b) (h3 : b ≤ 9223372036854775807) :
    Calls Tryd.prog 35 #[.agg #[.int .i64 5, .int .i64 a, .int .i64 b]] w fun e w' => e = strV (Bp.panicW) ∧ Below w.heap.size w w' := by
  have HG := Lib.hid G
  clear G
  have ha := Lib.itoa_length_le a h0 h1
  have hb' := Lib.itoa_length_le b h2 h3
  have hw := word_size Bp.panicW (by decide)
  have hsa := size_S (Lib.itoa a) 21 ha
  have hsb := size_S (Lib.itoa b) 21 hb'
  have hsa2 := size_32 (Lib.itoa a) 21 ha
  have hsb2 := size_32 (Lib.itoa b) 21 hb'
  have hsa3 := size_w32 Bp.panicW (Lib.itoa a) (by decide) ha
  go_enter Tryd.func35, Tryd.ntmps35
  go_wp2_with (go_at_call 33; refine (words_any _).mono ?_; rintro e w9 ⟨ws, hws, rfl, rfl⟩)
  have HW := Lib.hid hws
  clear hws
  refine wp_loop_rounds 1 ?_
  rw [rounds_succ]
  go_wp2_with (at_lookup; go_must (refine wpList_lookup_pk_ok pairKey74 Tryd.underlying72 zeroStr rfl (.tmp 14) (.tmp 18) rfl (w.heap.size + 1) ws.length ws rfl 5 0 rfl (drew_new _ _ _ (by simp)) _ (words_at HW.out 5 0) ?_; simp only [wordAt]))
  refine wp_loop_rounds 1 ?_
  rw [rounds_succ]
  go_wp2
  go_ret
  go_light
  exact ⟨rfl, by repeat (first | exact bl0 _ | refine bl2 ?_ | refine bl1 ?_ _)⟩

/-- body.told, of an op that may be. -/
theorem told_any (x : Bp.O) (hf : Bp.fits x = true) (w : World) (G : Glob w) : Calls Tryd.prog 35 #[opV x] w fun e w' => e = strV (Bp.told x) ∧ Below w.heap.size w w' := by
  obtain ⟨k, a, b⟩ := x
  have hq := hf
  simp only [Bp.fits] at hf
  split at hf
  · rename_i hk
    simp only [decide_eq_true_eq] at hf
    rcases hk with rfl | rfl
    · exact told_1 a b w G (by omega) (by omega) (by omega) (by omega)
    · exact told_5 a b w G (by omega) (by omega) (by omega) (by omega)
  · split at hf
    · rename_i hk
      subst hk
      simp only [decide_eq_true_eq] at hf
      exact told_2 a b w G (by omega) (by omega) (by omega) (by omega)
    · split at hf
      · rename_i hk
        subst hk
        simp only [decide_eq_true_eq] at hf
        exact told_3 a b w G (by omega) (by omega) (by omega) (by omega)
      · split at hf
        · rename_i hk
          subst hk
          simp only [decide_eq_true_eq] at hf
          exact told_4 a b w G (by omega) (by omega) (by omega) (by omega)
        · cases hf
end Go.Proofs.YtllabeiadeclkaaDoor

/-! BodyText: body.Text: a body's text. -/
namespace Go.Proofs.YtllabeiadeclkaaDoor
open Go.RowKit Pm Go.Proofs.YtllabeiadeclkaaDoorW.PrintWords

theorem infoStr : (Tryd.prog.info? 9).map (fun i => (i.zero, i.size, i.bytes)) = some (some (.string ⟨#[]⟩), 1, 16) := by kernel_rfl

abbrev encS (l : List UInt8) : Value := .string (S l)

theorem strs_of_own {w : World} {base : Nat} {v : Value} {l : List (List UInt8)} (h : w.ownsRow base 9 1 v l.length (encs encS l)) : ∃ A c, v = .slice A l.length c ∧ l.length ≤ c ∧ StrsAt w A l := by
  rcases h.2 with ⟨rfl, h2⟩ | ⟨g, cap, cur, rfl, h1, h2, h3, h4, h5, h6⟩
  · have h0 : l = [] := by simpa [encs] using h2
    subst h0
    exact ⟨none, 0, rfl, Nat.le_refl _, fun h => by simp at h⟩
  · refine ⟨some ⟨g, 0, none⟩, cap, rfl, by first | omega | assumption, fun hp => ⟨g, 0, rfl, (Array.getElem?_eq_some_iff.1 h2).1, fun j x hx => ?_⟩⟩
    have := h.cells (g := g) rfl j (.string (S x)) (by simp [encs, hx])
    rw [add_plain] at this
    simpa using this

theorem told_len {x : Bp.O} (h : Bp.fits x = true) : (Bp.told x).length ≤ 60 := by
  obtain ⟨k, a, b⟩ := x
  have hd : ∀ n : Int, 0 ≤ n → n ≤ 1000000 → (Lib.itoa n).length ≤ 21 := fun n h0 h1 => Lib.itoa_length_le n (by omega) (by omega)
  simp only [Bp.fits] at h
  split at h
  · rename_i hk
    rcases hk with rfl | rfl <;> simp [Bp.told, Bp.nopW, Bp.panicW]
  · split at h
    · rename_i hk
      subst hk
      simp only [decide_eq_true_eq] at h
      have := hd a (by omega) (by omega)
      simp [Bp.told, Bp.submitW]; omega
    · split at h
      · rename_i hk
        subst hk
        simp only [decide_eq_true_eq] at h
        have h1 := hd a (by omega) (by omega)
        have h2 := hd b (by omega) (by omega)
        simp [Bp.told, Bp.afterW]; omega
      · split at h
        · rename_i hk
          subst hk
          simp only [decide_eq_true_eq] at h
          have := hd a (by omega) (by omega)
          simp [Bp.told, Bp.cancelW]; omega
        · cases h
theorem join_len (c : UInt8) : ∀ (l : List (List UInt8)) (n : Nat), (∀ x ∈ l, x.length ≤ n) → (Lib.join l [c]).length ≤ (n + 1) * l.length
  | [], n, _ => by simp [Lib.join_nil]
  | [x], n, h => by rw [Lib.join_one]; have := h x (by simp); simp; omega
  | x :: y :: r, n, h => by
    have ih := join_len c (y :: r) n (fun z hz => h z (by simp [hz]))
    have hx := h x (by simp)
    rw [Bp.join_cons_cons, List.length_append, List.length_append]
    have e1 : (n + 1) * (x :: y :: r).length = (n + 1) * (y :: r).length + (n + 1) := by
      rw [List.length_cons, Nat.mul_add, Nat.mul_one]
    have e2 : ([c] : List UInt8).length = 1 := rfl
    omega

theorem take_map_succ {α β : Type} {l : List α} {f : α → β} {k : Nat} {x : α} (h : l[k]? = some x) : (l.take (k + 1)).map f = (l.take k).map f ++ [f x] := by
  rw [List.take_add_one, List.map_append, h]; rfl
/-- What body.Text comes to. -/
def TextPost (l : List Bp.O) (w : World) (e : Ending) (w' : World) : Prop :=
  Below w.heap.size w w' ∧ e = .returned (.tuple (if Bp.bodyOk l then #[.string (S (Bp.textOf l)), .int .i64 0] else #[.string ⟨#[]⟩, .int .i64 1]))

set_option maxHeartbeats 1600000 in
set_option maxRecDepth 100000 in
theorem text_any (l : List Bp.O) (A : Option Addr) (cap : Nat) (w : World) (G : Glob w) (hl : OpsAt w A l) (hlen : l.length ≤ 140737488355328) :
    Calls Tryd.prog 18 #[.slice A l.length cap] w (TextPost l w) := by
  have HG := Lib.hid G
  have HO := Lib.hid hl
  have HK := Lib.hid (ok_any l A cap w hl hlen)
  clear G hl
  cases hok : Bp.bodyOk l with
  | false =>
    rw [hok] at HK
    have HQ := Lib.hid hok
    clear hok
    go_enter Tryd.func18, Tryd.ntmps18
    go_wp2_with (go_at_call 34; go_must (refine HK.out.mono ?_; rintro e w1 ⟨rfl, hb⟩))
    go_ret2
    exact ⟨hb, by rw [HQ.out]; rfl⟩
  | true =>
    rw [hok] at HK
    have HQ := Lib.hid hok
    simp only [Bp.bodyOk, Bool.and_eq_true, decide_eq_true_eq, List.all_eq_true] at hok
    obtain ⟨h16, hall⟩ := hok
    have HF := Lib.hid hall
    clear hall
    by_cases h0 : l.length = 0
    · obtain rfl : l = [] := List.eq_nil_of_length_eq_zero h0
      clear h0
      go_enter Tryd.func18, Tryd.ntmps18
      go_wp2_with (go_at_call 34; go_must (refine HK.out.mono ?_; rintro e w1 ⟨rfl, hb⟩))
      go_ret2
      exact ⟨hb, by rw [HQ.out]; rfl⟩
    · have hne : ((l.length : Int) == 0) = false := beq_eq_false_iff_ne.2 (by omega)
      go_enter Tryd.func18, Tryd.ntmps18
      go_wp2_with (go_at_call 34; go_must (refine HK.out.mono ?_; rintro e w1 ⟨rfl, hb⟩))
      have HB := Lib.hid hb
      clear hb
      go_loopw [4, 15] (fun v i wr => ∃ k : Nat, i = .int .i64 k ∧ k ≤ l.length ∧ wr.ownsRow w.heap.size 9 1 v ((l.take k).map Bp.told).length (encs encS ((l.take k).map Bp.told)) ∧ Below w.heap.size w wr) (fun _ i _ => l.length - (intOf i).toNat)
      case atStart => exact ⟨0, rfl, by omega, own_nil _ _ _ _, HB.out⟩
      case round =>
        obtain ⟨k, rfl, hk, hown, hbw⟩ := hrel
        have HW := Lib.hid hbw
        have HN := Lib.hid hown
        clear hbw hown
        by_cases hlt : k < l.length
        · obtain ⟨b, o, rfl, hbl, hcells⟩ := HO.out (by omega)
          obtain ⟨x, hx⟩ : ∃ x, l[k]? = some x := ⟨_, List.getElem?_eq_getElem hlt⟩
          have HX := Lib.hid hx
          obtain ⟨c0, c1, c2⟩ := hcells k x hx
          replace c0 := cellk HW.out c0
          replace c1 := cellk HW.out c1
          replace c2 := cellk HW.out c2
          clear hcells hx
          go_wp2_with (first
            | (go_at_call 35; go_must (refine (told_any x (HF.out x (List.mem_of_getElem? HX.out)) _ (HG.out.below (bl1 HW.out _))).mono ?_; rintro e w2 ⟨he2, hb2⟩; simp only [strV] at he2; subst he2))
            | (at_builtin; go_must (refine print_append_of (w0 := w) encS w.heap.size rfl _ _ 44 9 (.string ⟨#[]⟩) 16 rfl rfl infoStr rfl (by decide) u4 ((l.take k).map Bp.told) (Bp.told x) rfl rfl rfl (pw_own_below HN.out (bl3 (bl1 (bl0 _) _) hb2)) (bl3 (bl1 HW.out _) hb2) (Nat.le_trans HW.out.size (Nat.le_trans (bl1 (bl0 wr) _).size hb2.size)) (by simp only [List.length_map, List.length_take]; omega) ?_; rintro v1 w3 hown3 hb3 hgr hat)))
          go_goals
          go_roundw
          exact ⟨k + 1, rfl, by omega, by rw [take_map_succ (HX.out)]; exact hown3, hb3⟩
          simp only [intOf]
          omega
        · obtain rfl : k = l.length := by omega
          have HN' := HN.out
          rw [List.take_length] at HN'
          obtain ⟨A', c', rfl, hc', hst⟩ := strs_of_own HN'
          have HS := Lib.hid hst
          clear hst HN'
          have hJ : (Lib.join (l.map Bp.told) [59]).length ≤ 61 * (l.map Bp.told).length := join_len 59 _ 60 fun y hy => by
            obtain ⟨z, hz, rfl⟩ := List.mem_map.1 hy
            exact told_len (HF.out z hz)
          have hm : (l.map Bp.told).length = l.length := List.length_map _
          have HJ : Hid (Calls Tryd.prog 36 #[.slice A' l.length c', .string ⟨#[59]⟩] wr fun e w' => e = .returned (.string (S (Lib.join (l.map Bp.told) [59]))) ∧ Below wr.heap.size wr w') :=
            Lib.hid (hm ▸ join_any A' c' (l.map Bp.told) [59] wr HS.out hc' (by omega) (by omega))
          clear hJ hm hc'
          go_wp2_with (go_at_call 36; go_must (refine HJ.out.mono ?_; rintro e w2 ⟨rfl, hb2⟩))
          go_ret2
          refine ⟨bl3 HW.out hb2, ?_⟩
          rw [HQ.out]
          simp [Bp.textOf, show (l = []) = False from by simp; rintro rfl; simp at h0]
end Go.Proofs.YtllabeiadeclkaaDoor

/-! PairIter: Ranging over a map whose keys are pairs of ints: 'range', 'next', 'entry' as steps of the walk; over any program. -/
namespace Go.Proofs.YtllabeiadeclkaaDoor
namespace Pm
open Go.RowKit

theorem ents_size (l : List ((Int × Int) × Value)) : (ents l).size = l.length := by simp [ents, entsFrom_length]
theorem entsFrom_get : ∀ (l : List ((Int × Int) × Value)) (s i : Nat), (entsFrom l s)[i]? = (l[i]?).map fun e => { key := pk e.1, val := e.2, born := s + i }
  | [], s, i => by simp [entsFrom]
  | (p, v) :: r, s, 0 => by simp [entsFrom]
  | (p, v) :: r, s, i + 1 => by
    simp only [entsFrom, List.getElem?_cons_succ, entsFrom_get r (s + 1) i]
    congr 1; funext e; congr 1; omega
theorem ents_get (l : List ((Int × Int) × Value)) (i : Nat) : (ents l)[i]? = (l[i]?).map fun e => { key := pk e.1, val := e.2, born := i } := by
  simp only [ents, List.getElem?_toArray, entsFrom_get, Nat.zero_add]
theorem ents_mem {l : List ((Int × Int) × Value)} {e : MapEntry} (h : e ∈ ents l) : ∃ p v, l[e.born]? = some (p, v) ∧ e = { key := pk p, val := v, born := e.born } := by
  obtain ⟨i, hi⟩ := Array.getElem?_of_mem h
  rw [ents_get] at hi
  obtain ⟨x, hx, rfl⟩ := Option.map_eq_some_iff.1 hi
  exact ⟨x.1, x.2, hx, rfl⟩
theorem ents_find {l : List ((Int × Int) × Value)} {i : Nat} {p : Int × Int} {v : Value} (h : l[i]? = some (p, v)) : (ents l).find? (·.born == i) = some { key := pk p, val := v, born := i } := by
  cases hf : (ents l).find? (·.born == i) with
  | none =>
    rw [Array.find?_eq_none] at hf
    have hm : ({ key := pk p, val := v, born := i } : MapEntry) ∈ ents l := Array.mem_of_getElem? (i := i) (by rw [ents_get, h]; rfl)
    exact absurd (by simp) (hf _ hm)
  | some e =>
    have h1 := Array.find?_some hf
    obtain ⟨p', v', h2, h3⟩ := ents_mem (Array.mem_of_find?_eq_some hf)
    have h4 : e.born = i := by simpa using h1
    rw [h4, h] at h2
    injection h2 with h2
    injection h2 with h5 h6
    subst h5 h6
    rw [h3, h4]

/-- Block r goes over the map in block b; the entries at the places 'seen' have come. -/
structure Iter (w : World) (r b : Nat) (l : List ((Int × Int) × Value)) (seen : List Nat) : Prop where
  it : w.heap[r]? = some (.mapIter (some b) l.length seen.toArray l.length)
  map : w.heap[b]? = some (.map (ents l) l.length)
  nodup : seen.Nodup
  lt : ∀ i ∈ seen, i < l.length

theorem nodup_le : ∀ (n : Nat) (s : List Nat), s.Nodup → (∀ i ∈ s, i < n) → s.length ≤ n
  | 0, s, _, h => by
    cases s with
    | nil => simp
    | cons a r => exact absurd (h a (by simp)) (by omega)
  | n + 1, s, hn, h => by
    by_cases hm : n ∈ s
    · have h1 := nodup_le n (s.erase n) (hn.erase n) (fun i hi => by
        have := h i (List.mem_of_mem_erase hi)
        have h2 : i ≠ n := fun e => by subst e; exact (hn.mem_erase_iff.1 hi).1 rfl
        omega)
      rw [List.length_erase_of_mem hm] at h1
      omega
    · have := nodup_le n s hn (fun i hi => by
        have := h i hi
        have h2 : i ≠ n := fun e => hm (e ▸ hi)
        omega)
      omega
theorem Iter.len {w : World} {r b : Nat} {l : List ((Int × Int) × Value)} {seen : List Nat} (h : Iter w r b l seen) : seen.length ≤ l.length :=
  nodup_le _ _ h.nodup h.lt
theorem Iter.ne {w : World} {r b : Nat} {l : List ((Int × Int) × Value)} {seen : List Nat} (h : Iter w r b l seen) : b ≠ r := by
  intro e
  have h1 := h.map
  rw [e, h.it] at h1
  cases h1
theorem Iter.keep {w w' : World} {r b : Nat} {l : List ((Int × Int) × Value)} {seen : List Nat} (h : Iter w r b l seen) (h1 : w'.heap[r]? = w.heap[r]?) (h2 : w'.heap[b]? = w.heap[b]?) : Iter w' r b l seen :=
  ⟨h1.trans h.it, h2.trans h.map, h.nodup, h.lt⟩
theorem Iter.below {w w' : World} {r b : Nat} {l : List ((Int × Int) × Value)} {seen : List Nat} (h : Iter w r b l seen) (hb : Below w.heap.size w w') : Iter w' r b l seen :=
  h.keep (hb.block r (Array.getElem?_eq_some_iff.1 h.it).1) (hb.block b (Array.getElem?_eq_some_iff.1 h.map).1)

section
variable {P : Program} {ops : Array Oper} {rest : List Oper} {o : Oper} {a : Act} {Q : Exit → Act → World → Prop} {w : World}
theorem wpList_range_pm {T K E : TypeId} (hT : P.underlying T = some (.map K E)) (hg : o.guard = none) (mx : Operand) (hop : o.op = .range T mx) (b : Nat) (l : List ((Int × Int) × Value)) (hm : a.eval mx = .map (some b)) (hb : w.heap[b]? = some (.map (ents l) l.length)) (r : Nat) (hr : r = w.heap.size)
    (hK : ∀ w', Iter w' r b l [] → w' = w.alloc (.mapIter (some b) l.length #[] l.length) → wpList P ops Q rest (a.put o.dst (.pointer (some ⟨r, 0, none⟩))) w') : wpList P ops Q (o :: rest) a w := by
  subst hr
  refine wpList_plain hg fun K' hK' => ?_
  have hlt : b < w.heap.size := (Array.getElem?_eq_some_iff.1 hb).1
  unfold Oper.wp execOp
  have hg : (Sem.getObj b Sem.pure : Sem Obj).run P w = .ok (.map (ents l) l.length) w := by simp [Sem.run, hb]
  have hrun : (Instr.range T (.map (some b))).run P w = .ok (.pointer (some ⟨w.heap.size, 0, none⟩)) (w.alloc (.mapIter (some b) l.length #[] l.length)) := by
    unfold Instr.range
    simp only [Sem.run_bind, run_underlying hT, Result.andThen_ok, getObj, hg, Sem.run_pure]
    rfl
  simp only [hop, hm, Sem.run_bind, hrun, Result.andThen_ok, Sem.run_pure, Oper.upon_value]
  refine hK' _ _ (hK _ ⟨heap_alloc_new w _, (Below.heap_alloc w _ b hlt).trans hb, List.nodup_nil, fun i h => by cases h⟩ rfl)

theorem run_entry_pm {l : List ((Int × Int) × Value)} {r b i : Nat} {seen : List Nat} {p : Int × Int} {v : Value} (h : Iter w r b l (seen ++ [i])) (hi : l[i]? = some (p, v)) :
    (Instr.entry (.pointer (some ⟨r, 0, none⟩))).run P w = .ok (.tuple #[pk p, v]) w := by
  unfold Instr.entry
  have hg1 : (Sem.getObj r Sem.pure : Sem Obj).run P w = .ok (.mapIter (some b) l.length (seen ++ [i]).toArray l.length) w := by simp [Sem.run, h.it]
  have hg2 : (Sem.getObj b Sem.pure : Sem Obj).run P w = .ok (.map (ents l) l.length) w := by simp [Sem.run, h.map]
  simp only [getObj, Sem.run_bind, hg1, Result.andThen_ok]
  have hback : (seen ++ [i]).toArray.back? = some i := by simp
  simp only [hback, Sem.run_bind, hg2, Result.andThen_ok, ents_find hi, bne_self_eq_false, Bool.false_eq_true, if_false, Sem.run_pure]

theorem wpList_next_pm (hg : o.guard = none) (it : Operand) (hop : o.op = .next it false) (r b : Nat) (l : List ((Int × Int) × Value)) (seen : List Nat) (hit : a.eval it = .pointer (some ⟨r, 0, none⟩)) (h : Iter w r b l seen)
    (hDone : (∀ i, i < l.length → i ∈ seen) → wpList P ops Q rest (a.put o.dst (.tuple #[.bool false])) w)
    (hMore : ∀ (i : Nat) (x y : Int) (v : Value) (w1 : World), l[i]? = some ((x, y), v) → i ∉ seen → Iter w1 r b l (seen ++ [i]) → w.grownBy w1 (some r) → w1.heap.size = w.heap.size →
      (Instr.entry (.pointer (some ⟨r, 0, none⟩))).run P w1 = .ok (.tuple #[.agg #[.int .i64 x, .int .i64 y], v]) w1 → wpList P ops Q rest (a.put o.dst (.tuple #[.bool true, .agg #[.int .i64 x, .int .i64 y], v])) w1) :
    wpList P ops Q (o :: rest) a w := by
  refine wpList_plain hg fun K' hK' => ?_
  unfold Oper.wp execOp
  simp only [hop, hit, Sem.run_bind]
  have hg1 : (Sem.getObj r Sem.pure : Sem Obj).run P w = .ok (.mapIter (some b) l.length seen.toArray l.length) w := by simp [Sem.run, h.it]
  have hg2 : (Sem.getObj b Sem.pure : Sem Obj).run P w = .ok (.map (ents l) l.length) w := by simp [Sem.run, h.map]
  unfold Instr.next
  simp only [getObj, Sem.run_bind, hg1, Result.andThen_ok, hg2]
  have hguard : (!seen.toArray.isEmpty && !(ents l).isEmpty && (ents l).all (fun x => decide (x.born ≥ l.length))) = false := by
    by_cases hl : l = []
    · subst hl; simp [ents, entsFrom]
    · have : (ents l).all (fun x => decide (x.born ≥ l.length)) = false := by
        refine Bool.eq_false_iff.2 fun hall => ?_
        have h0 : 0 < l.length := List.length_pos_iff.2 hl
        have hx : (ents l)[0]? = (l[0]?).map fun e => { key := pk e.1, val := e.2, born := 0 } := ents_get l 0
        rw [List.getElem?_eq_getElem h0] at hx
        have := Array.all_eq_true_iff_forall_mem.1 hall _ (Array.mem_of_getElem? hx)
        simp at this
        exact hl this
      rw [this]; simp
  rw [hguard]
  simp only [Bool.false_eq_true, if_false]
  have hold : ∀ (A : Array MapEntry), (∀ e ∈ A, e.born < l.length) → A.filter (fun x => decide (x.born < l.length)) = A ∧ A.filter (fun x => decide (x.born ≥ l.length)) = #[] := by
    intro A hA
    constructor
    · rw [Array.filter_eq_self]; intro e he; simpa using hA e he
    · rw [Array.filter_eq_empty_iff]; intro e he; have := hA e he; simp; omega
  have hborn : ∀ e ∈ (ents l).filter (fun e => !seen.toArray.contains e.born), e.born < l.length := by
    intro e he
    obtain ⟨p, v, h1, _⟩ := ents_mem (Array.mem_filter.1 he).1
    exact (List.getElem?_eq_some_iff.1 h1).1
  obtain ⟨ho1, ho2⟩ := hold _ hborn
  simp only [ho1, ho2]
  by_cases hleft : ((ents l).filter (fun e => !seen.toArray.contains e.born)).isEmpty = true
  · have he : (ents l).filter (fun e => !seen.toArray.contains e.born) = #[] := by simpa using hleft
    rw [he]
    have hch : (choose (.mapNext 1)).run P w = .ok 0 w := by simp [choose, Sem.run, Question.forced]
    simp only [Array.isEmpty_empty, if_true, Array.append_empty, List.map_toArray, List.map_nil, List.size_toArray, List.length_cons, List.length_nil, Nat.zero_add, Sem.run_bind, hch, Result.andThen_ok]
    simp only [List.getElem?_toArray, List.getElem?_cons_zero, Sem.run_pure, Result.andThen_ok, Oper.upon_value]
    refine hK' _ _ (hDone fun i hi => ?_)
    have hm : ({ key := pk (l[i]).1, val := (l[i]).2, born := i } : MapEntry) ∈ ents l := Array.mem_of_getElem? (i := i) (by rw [ents_get, List.getElem?_eq_getElem hi]; rfl)
    refine Classical.byContradiction fun hn => ?_
    have : ({ key := pk (l[i]).1, val := (l[i]).2, born := i } : MapEntry) ∈ (ents l).filter (fun e => !seen.toArray.contains e.born) := Array.mem_filter.2 ⟨hm, by simpa using hn⟩
    rw [he] at this
    simp at this
  · have hle : (((ents l).filter (fun e => !seen.toArray.contains e.born)).isEmpty) = false := by simpa using hleft
    rw [hle]
    simp only [Bool.false_eq_true, if_false, Array.append_empty, Array.empty_append]
    generalize hA : (ents l).filter (fun e => !seen.toArray.contains e.born) = A at *
    have hApos : 0 < A.size := by
      rcases Nat.eq_zero_or_pos A.size with e | e
      · rw [Array.isEmpty_eq_false_iff] at hle
        exact absurd (Array.eq_empty_of_size_eq_zero e) hle
      · exact e
    obtain ⟨j, q, hj, hch⟩ : ∃ j q, j < A.size ∧ (choose (.mapNext (A.map some).size)).run P w = .ok j (w.drewN q) := by
      by_cases h1 : A.size ≤ 1
      · exact ⟨0, 0, hApos, by simp [choose, Sem.run, Question.forced, h1, World.drewN]⟩
      · refine ⟨(Question.mapNext A.size).cut (w.tape w.drawn (.mapNext A.size)), 1, Nat.mod_lt _ hApos, ?_⟩
        simp [choose, Sem.run, Question.forced, h1, World.drewN]
    simp only [Sem.run_bind, hch, Result.andThen_ok]
    have hget : (A.map some)[j]? = some (some A[j]) := by simp [hj]
    have hmem : A[j] ∈ (ents l).filter (fun e => !seen.toArray.contains e.born) := by rw [hA]; exact Array.getElem_mem hj
    obtain ⟨hm1, hm2⟩ := Array.mem_filter.1 hmem
    obtain ⟨p, v, h1, h2⟩ := ents_mem hm1
    generalize hi : A[j].born = i at h1 h2
    have hns : i ∉ seen := by rw [hi] at hm2; simpa using hm2
    have hr : r < w.heap.size := (Array.getElem?_eq_some_iff.1 h.it).1
    simp only [hget, h2]
    have hset : (setObj r (.mapIter (some b) l.length (seen.toArray.push i) l.length) : Sem Unit).run P (w.drewN q) = .ok () { w.drewN q with heap := w.heap.setIfInBounds r (.mapIter (some b) l.length (seen ++ [i]).toArray l.length) } := by
      simp [setObj, Sem.run, h.it, World.drewN]
    simp only [Sem.run_bind, hset, Result.andThen_ok, Sem.run_pure, Oper.upon_value]
    have hI : Iter { w.drewN q with heap := w.heap.setIfInBounds r (.mapIter (some b) l.length (seen ++ [i]).toArray l.length) } r b l (seen ++ [i]) := by
      refine ⟨?_, ?_, ?_, ?_⟩
      · show (w.heap.setIfInBounds r _)[r]? = _
        simp [hr]
      · show (w.heap.setIfInBounds r _)[b]? = _
        rw [Array.getElem?_setIfInBounds_ne (Ne.symm h.ne)]; exact h.map
      · rw [List.nodup_append]; exact ⟨h.nodup, by simp, fun x hx y hy => by simp at hy; subst hy; exact fun e => hns (e ▸ hx)⟩
      · intro x hx
        rcases List.mem_append.1 hx with hx | hx
        · exact h.lt x hx
        · simp at hx; subst hx; exact (List.getElem?_eq_some_iff.1 h1).1
    obtain ⟨x, y⟩ := p
    refine hK' _ _ (hMore i x y v _ h1 hns hI ⟨rfl, rfl, rfl, by simp, fun k hk hne => ?_⟩ (by simp) (run_entry_pm hI h1))
    show (w.heap.setIfInBounds r _)[k]? = _
    rw [Array.getElem?_setIfInBounds_ne (fun e => hne (by rw [e]))]
end
end Pm
end Go.Proofs.YtllabeiadeclkaaDoor

/-! BodyRead: body.read: the op of a piece: its words, its numbers, and the word's kind, found by ranging over the map of words in whatever order. -/
namespace Go.Proofs.YtllabeiadeclkaaDoor
open Go.RowKit Pm

theorem words_mem {l : List ((Int × Int) × Value)} (hl : IsLit l (litOf wordsDs)) {i : Nat} {x y : Int} {v : Value} (h : l[i]? = some ((x, y), v)) :
    ∃ wd, v = .string (S wd) ∧ ∃ n : Nat, y = n ∧ Bp.kindOf wd = some (x, n) := by
  have := (hl.mem _).1 (List.mem_of_getElem? h)
  simp only [litOf, wordsDs, List.filterMap_cons, List.filterMap_nil, List.mem_cons, List.not_mem_nil, or_false, Prod.mk.injEq] at this
  rcases this with ⟨⟨rfl, rfl⟩, rfl⟩ | ⟨⟨rfl, rfl⟩, rfl⟩ | ⟨⟨rfl, rfl⟩, rfl⟩ | ⟨⟨rfl, rfl⟩, rfl⟩ | ⟨⟨rfl, rfl⟩, rfl⟩
  · exact ⟨Bp.nopW, rfl, 0, rfl, by decide⟩
  · exact ⟨Bp.submitW, rfl, 1, rfl, by decide⟩
  · exact ⟨Bp.afterW, rfl, 2, rfl, by decide⟩
  · exact ⟨Bp.cancelW, rfl, 1, rfl, by decide⟩
  · exact ⟨Bp.panicW, rfl, 0, rfl, by decide⟩
theorem words_all {l : List ((Int × Int) × Value)} (hl : IsLit l (litOf wordsDs)) {wd : List UInt8} {k : Int} {n : Nat} (h : Bp.kindOf wd = some (k, n)) :
    ∃ i : Nat, l[i]? = some ((k, (n : Int)), .string (S wd)) := by
  have hm : ((k, (n : Int)), Value.string (S wd)) ∈ litOf wordsDs := by
    unfold Bp.kindOf at h
    simp only [litOf, wordsDs, List.filterMap_cons, List.filterMap_nil, List.mem_cons, List.not_mem_nil, or_false, Prod.mk.injEq]
    repeat' (split at h)
    all_goals first | (injection h with h; injection h with h1 h2; subst h1 h2; subst_vars; simp [Bp.nopW, Bp.submitW, Bp.afterW, Bp.cancelW, Bp.panicW]) | cases h
  obtain ⟨i, hi, he⟩ := List.getElem_of_mem ((hl.mem _).2 hm)
  exact ⟨i, by rw [List.getElem?_eq_getElem hi, he]⟩

/-- How many entries are still to come. -/
def leftOf (w : World) (r n : Nat) : Nat := match w.heap[r]? with | some (.mapIter _ _ seen _) => n - seen.size | _ => 0
theorem leftOf_eq {w : World} {r b : Nat} {l : List ((Int × Int) × Value)} {seen : List Nat} (h : Iter w r b l seen) : leftOf w r l.length = l.length - seen.length := by
  unfold leftOf; rw [h.it]; simp

/-- What body.read comes to. -/
def ReadPost (s : ByteArray) (w : World) (e : Ending) (w' : World) : Prop :=
  Below w.heap.size w w' ∧ match Bp.read s.data.toList with
    | some o => e = .returned (.tuple #[.agg #[.int .i64 o.kind, .int .i64 o.a, .int .i64 o.b], .bool true])
    | none => ∃ x y z : Int, e = .returned (.tuple #[.agg #[.int .i64 x, .int .i64 y, .int .i64 z], .bool false])

/-- The three blocks that the call has laid: its result, the words, the numbers. -/
structure Blks (w : World) (x0 : List UInt8) (cs : List Value) (n0 n1 : Int) (wr : World) : Prop where
  below : Below w.heap.size w wr
  res : wr.heap[w.heap.size]? = some (.cells #[.int .i64 0, .int .i64 0, .int .i64 0] 50)
  strs : wr.heap[w.heap.size + 1]? = some (.cells (Value.string (S x0) :: cs).toArray 9)
  nums : wr.heap[w.heap.size + 1 + 1]? = some (.cells #[.int .i64 n0, .int .i64 n1] 67)
theorem Blks.step {w : World} {x0 : List UInt8} {cs : List Value} {n0 n1 : Int} {wr w1 : World} {r : Nat} (h : Blks w x0 cs n0 n1 wr) (hg : wr.grownBy w1 (some r)) (hr : w.heap.size + 1 + 1 < r) : Blks w x0 cs n0 n1 w1 where
  below := bl_grown h.below hg (by omega)
  res := blk_ne hg h.res (by omega)
  strs := blk_ne hg h.strs (by omega)
  nums := blk_ne hg h.nums (by omega)
theorem Blks.alloc {w : World} {x0 : List UInt8} {cs : List Value} {n0 n1 : Int} {wr : World} (h : Blks w x0 cs n0 n1 wr) (o : Obj) : Blks w x0 cs n0 n1 (wr.alloc o) where
  below := bl1 h.below o
  res := blk (bl1 (bl0 wr) o) h.res
  strs := blk (bl1 (bl0 wr) o) h.strs
  nums := blk (bl1 (bl0 wr) o) h.nums
theorem Blks.cells {w : World} {x0 : List UInt8} {cs : List Value} {n0 n1 : Int} {wr : World} (h : Blks w x0 cs n0 n1 wr) :
    wr.cell? ⟨w.heap.size, 0, none⟩ = some (.int .i64 0) ∧ wr.cell? ⟨w.heap.size, 1, none⟩ = some (.int .i64 0) ∧ wr.cell? ⟨w.heap.size, 2, none⟩ = some (.int .i64 0) ∧
    wr.frozen? ⟨w.heap.size, 0, none⟩ = false ∧ wr.frozen? ⟨w.heap.size, 1, none⟩ = false ∧ wr.frozen? ⟨w.heap.size, 2, none⟩ = false ∧
    wr.cell? ⟨w.heap.size + 1, 0, none⟩ = some (.string (S x0)) ∧ wr.cell? ⟨w.heap.size + 1 + 1, 0, none⟩ = some (.int .i64 n0) ∧ wr.cell? ⟨w.heap.size + 1 + 1, 1, none⟩ = some (.int .i64 n1) ∧
    w.heap.size + 1 + 1 < wr.heap.size :=
  ⟨cell_blk h.res 0, cell_blk h.res 1, cell_blk h.res 2, frozen_blk h.res 0, frozen_blk h.res 1, frozen_blk h.res 2, cell_blk h.strs 0, cell_blk h.nums 0, cell_blk h.nums 1, (Array.getElem?_eq_some_iff.1 h.nums).1⟩

theorem Blks.cellsA {w : World} {x0 : List UInt8} {cs : List Value} {n0 n1 : Int} {wr : World} (h : Blks w x0 cs n0 n1 wr) :
    (∀ o, (wr.alloc o).cell? ⟨w.heap.size, 0, none⟩ = some (.int .i64 0)) ∧ (∀ o, (wr.alloc o).cell? ⟨w.heap.size, 1, none⟩ = some (.int .i64 0)) ∧ (∀ o, (wr.alloc o).cell? ⟨w.heap.size, 2, none⟩ = some (.int .i64 0)) ∧
    (∀ o, (wr.alloc o).frozen? ⟨w.heap.size, 0, none⟩ = false) ∧ (∀ o, (wr.alloc o).frozen? ⟨w.heap.size, 1, none⟩ = false) ∧ (∀ o, (wr.alloc o).frozen? ⟨w.heap.size, 2, none⟩ = false) ∧
    (∀ o, (wr.alloc o).cell? ⟨w.heap.size + 1, 0, none⟩ = some (.string (S x0))) ∧ (∀ o, (wr.alloc o).cell? ⟨w.heap.size + 1 + 1, 0, none⟩ = some (.int .i64 n0)) ∧ (∀ o, (wr.alloc o).cell? ⟨w.heap.size + 1 + 1, 1, none⟩ = some (.int .i64 n1)) :=
  ⟨fun o => cell_blk (h.alloc o).res 0, fun o => cell_blk (h.alloc o).res 1, fun o => cell_blk (h.alloc o).res 2, fun o => frozen_blk (h.alloc o).res 0, fun o => frozen_blk (h.alloc o).res 1, fun o => frozen_blk (h.alloc o).res 2, fun o => cell_blk (h.alloc o).strs 0, fun o => cell_blk (h.alloc o).nums 0, fun o => cell_blk (h.alloc o).nums 1⟩

theorem Blks.start (w : World) (x0 : List UInt8) (cs : List Value) :
    Blks w x0 cs 0 0 (((w.alloc (.cells #[.int .i64 0, .int .i64 0, .int .i64 0] 50)).alloc (.cells (Value.string (S x0) :: cs).toArray 9)).alloc (.cells #[.int .i64 0, .int .i64 0] 67)) where
  below := bl1 (bl1 (bl1 (bl0 _) _) _) _
  res := blk (bl1 (bl1 (bl0 _) _) _) (heap_alloc_new w _)
  strs := blk (bl1 (bl0 _) _) (alloc_new _ _ _ (by simp))
  nums := alloc_new _ _ _ (by simp)
theorem Blks.bl {w : World} {x0 : List UInt8} {cs : List Value} {n0 n1 : Int} {wr w1 : World} (h : Blks w x0 cs n0 n1 wr) (hb : Below wr.heap.size wr w1) : Blks w x0 cs n0 n1 w1 where
  below := bl3 h.below hb
  res := blk hb h.res
  strs := blk hb h.strs
  nums := blk hb h.nums
theorem Blks.drew {w : World} {x0 : List UInt8} {cs : List Value} {n0 n1 : Int} {wr : World} (h : Blks w x0 cs n0 n1 wr) : Blks w x0 cs n0 n1 wr.drew := ⟨bl2 h.below, h.res, h.strs, h.nums⟩
theorem Blks.set0 {w : World} {x0 : List UInt8} {cs : List Value} {n0 n1 : Int} {wr : World} (h : Blks w x0 cs n0 n1 wr) (m : Int) : Blks w x0 cs m n1 (wr.setCell ⟨w.heap.size + 1 + 1, 0, none⟩ (.int .i64 m)) where
  below := h.below.setCell (by simp; omega) _
  res := (Below.heap_setCell wr _ _ _ (by simp; omega)).trans h.res
  strs := (Below.heap_setCell wr _ _ _ (by simp)).trans h.strs
  nums := sc_block h.nums 0 _
theorem Blks.set1 {w : World} {x0 : List UInt8} {cs : List Value} {n0 n1 : Int} {wr : World} (h : Blks w x0 cs n0 n1 wr) (m : Int) : Blks w x0 cs n0 m (wr.setCell ⟨w.heap.size + 1 + 1, 1, none⟩ (.int .i64 m)) where
  below := h.below.setCell (by simp; omega) _
  res := (Below.heap_setCell wr _ _ _ (by simp; omega)).trans h.res
  strs := (Below.heap_setCell wr _ _ _ (by simp)).trans h.strs
  nums := sc_block h.nums 1 _

/-- What holds while the map of words is gone over. -/
structure RInv (w : World) (x0 : List UInt8) (cs : List Value) (n0 n1 : Int) (ws : List ((Int × Int) × Value)) (r b : Nat) (seen : List Nat) (wr : World) : Prop where
  it : Iter wr r b ws seen
  not : ∀ i ∈ seen, ∀ p v, ws[i]? = some (p, v) → v ≠ .string (S x0)
  blks : Blks w x0 cs n0 n1 wr
  far : w.heap.size + 1 + 1 < r

theorem RInv.step {w : World} {x0 : List UInt8} {cs : List Value} {n0 n1 : Int} {ws : List ((Int × Int) × Value)} {r b : Nat} {seen : List Nat} {wr w1 : World} {i : Nat} {p : Int × Int} {v : Value} (h : RInv w x0 cs n0 n1 ws r b seen wr)
    (hi : ws[i]? = some (p, v)) (hv : v ≠ .string (S x0)) (hI : Iter w1 r b ws (seen ++ [i])) (hg : wr.grownBy w1 (some r)) : RInv w x0 cs n0 n1 ws r b (seen ++ [i]) w1 where
  it := hI
  not := fun j hj q u hu => by
    rcases List.mem_append.1 hj with hj | hj
    · exact h.not j hj q u hu
    · simp only [List.mem_singleton] at hj
      subst hj
      rw [hi] at hu
      injection hu with hu
      injection hu with _ hu
      exact hu ▸ hv
  blks := h.blks.step hg h.far
  far := h.far
theorem RInv.alloc {w : World} {x0 : List UInt8} {cs : List Value} {n0 n1 : Int} {ws : List ((Int × Int) × Value)} {r b : Nat} {seen : List Nat} {wr : World} (h : RInv w x0 cs n0 n1 ws r b seen wr) (o : Obj) : RInv w x0 cs n0 n1 ws r b seen (wr.alloc o) where
  it := h.it.below (bl1 (bl0 _) _)
  not := h.not
  blks := h.blks.alloc o
  far := h.far
theorem S_inj {a b : List UInt8} (h : S a = S b) : a = b := by rw [← S_list a, h, S_list]

theorem read_hit {s : ByteArray} {w W : World} {x : Int} {nn : Nat} {x0 : List UInt8} {r : List (List UInt8)} {n0 n1 : Int} (hp : Bp.pieces 32 s.data.toList = x0 :: r) (hr : r.length ≤ 2) (hk : Bp.kindOf x0 = some (x, nn)) (h0 : n0 = Bp.at' (x0 :: r) 1) (h1 : n1 = Bp.at' (x0 :: r) 2)
    (b : Bool) (hb : b = decide (nn = r.length)) (hB : Below w.heap.size w W) : ReadPost s w (.returned (.tuple #[.agg #[.int .i64 x, .int .i64 n0, .int .i64 n1], .bool b])) W := by
  refine ⟨hB, ?_⟩
  subst hb h0 h1
  unfold Bp.read
  rw [hp, if_neg (by simp; omega)]
  simp only [List.headD_cons, hk, List.length_cons, Nat.add_sub_cancel]
  by_cases h : nn = r.length
  · rw [if_pos h]; simp [h]
  · rw [if_neg h]; exact ⟨x, Bp.at' (x0 :: r) 1, Bp.at' (x0 :: r) 2, by simp [h]⟩
theorem read_miss {s : ByteArray} {w W : World} {x0 : List UInt8} {r : List (List UInt8)} (hp : Bp.pieces 32 s.data.toList = x0 :: r) (hk : Bp.kindOf x0 = none) (hB : Below w.heap.size w W) :
    ReadPost s w (.returned (.tuple #[.agg #[.int .i64 0, .int .i64 0, .int .i64 0], .bool false])) W := by
  refine ⟨hB, ?_⟩
  have : Bp.read s.data.toList = none := by
    unfold Bp.read
    rw [hp]
    split
    · rfl
    · simp only [List.headD_cons, hk]
  rw [this]
  exact ⟨_, _, _, rfl⟩
theorem read_long {s : ByteArray} {w W : World} (hp : 3 < (Bp.pieces 32 s.data.toList).length) (hB : Below w.heap.size w W) :
    ReadPost s w (.returned (.tuple #[.agg #[.int .i64 0, .int .i64 0, .int .i64 0], .bool false])) W := by
  refine ⟨hB, ?_⟩
  have : Bp.read s.data.toList = none := by
    unfold Bp.read
    rw [if_pos hp]
  rw [this]
  exact ⟨_, _, _, rfl⟩

theorem read_l (s : ByteArray) (w : World) (HG : Hid (Glob w)) (hs : s.size ≤ 1000) (h3 : 3 < (Bp.pieces 32 s.data.toList).length) : Calls Tryd.prog 17 #[.string s] w (ReadPost s w) := by
  obtain ⟨l, hl⟩ : ∃ l, Bp.pieces 32 s.data.toList = l := ⟨_, rfl⟩
  have HL := Lib.hid hl
  have HB := Lib.hid h3
  rw [hl] at h3
  clear hl
  go_enter Tryd.func17, Tryd.ntmps17
  go_wp2_with (go_at_call 24; refine (split_any s 32 _ (HG.out.below (bl1 (bl0 _) _)) (by omega)).mono ?_; rintro e w1 ⟨rfl, rfl⟩; rw [HL.out])
  refine bodyPost_ret (v := .tuple #[.agg #[.int .i64 0, .int .i64 0, .int .i64 0], .bool false]) (by simp [results, Tryd.results17, go_sem]) rfl ?_
  exact read_long HB.out (by repeat (first | exact bl0 _ | refine bl2 ?_ | refine bl1 ?_ _ | refine bl5 ?_ _ _ _ (by omega)))

set_option maxRecDepth 100000 in
set_option maxHeartbeats 1600000 in
theorem read_1 (s : ByteArray) (w : World) (HG : Hid (Glob w)) (hs : s.size ≤ 1000) (x0 : List UInt8) (HL : Hid (Bp.pieces 32 s.data.toList = [x0])) : Calls Tryd.prog 17 #[.string s] w (ReadPost s w) := by
      go_enter Tryd.func17, Tryd.ntmps17
      go_wp2_with (go_at_call 24; refine (split_any s 32 _ (HG.out.below (bl1 (bl0 _) _)) (by omega)).mono ?_; rintro e w1 ⟨rfl, rfl⟩; rw [HL.out])
      refine wp_loop_rounds 1 ?_
      rw [rounds_succ]
      go_wp2_with (first | (go_at_call 33; refine (words_any _).mono ?_; rintro e w9 ⟨ws, hws, rfl, rfl⟩) | (at_range; go_must (refine wpList_range_pm Tryd.underlying72 rfl (.tmp 32) rfl _ ws rfl (drew_new _ _ _ (by simp)) (w.heap.size + 1 + 1 + 1 + 1) (by simp) ?_; rintro w8 hI rfl)))
      have HW := Lib.hid hws
      clear hws
      go_frame
      go_loopw [34] (fun _ wr => ∃ seen, RInv w x0 [] 0 0 ws (w.heap.size + 1 + 1 + 1 + 1) (w.heap.size + 1 + 1 + 1) seen wr) (fun _ wr => leftOf wr (w.heap.size + 1 + 1 + 1 + 1) ws.length)
      case atStart => exact ⟨[], hI, fun i h => by (cases h), (((Blks.start w x0 []).alloc _).drew).alloc _, by omega⟩
      case round =>
        obtain ⟨seen, hR⟩ := hrel
        clear hI
        obtain ⟨c0, c1, c2, f0, f1, f2, cx, cn0, cn1, hlt⟩ := hR.blks.cells
        go_wp2_with (at_next; go_must (refine wpList_next_pm rfl (.tmp 33) rfl (w.heap.size + 1 + 1 + 1 + 1) (w.heap.size + 1 + 1 + 1) ws seen rfl hR.it ?_ ?_); intro hdone; rotate_left; clear c0 c1 c2 f0 f1 f2 cx cn0 cn1; intro i x y v w1 hi hns hI hg hsz hen; obtain ⟨wd, rfl, nn, rfl, hk⟩ := words_mem HW.out hi; obtain ⟨c0, c1, c2, f0, f1, f2, cx, cn0, cn1⟩ := (hR.blks.step hg hR.far).cellsA)
        · have hne1 : ¬ wr.heap.size = w.heap.size := by omega
          have hne2 : ¬ w.heap.size = wr.heap.size := by omega
          have hw : wd = x0 := by have h : (wd == x0) = true := by assumption
                                  exact beq_iff_eq.1 h
          go_region
          go_wp2
          refine bodyPost_ret (v := .tuple #[.agg #[.int .i64 x, .int .i64 0, .int .i64 0], .bool ((nn : Int) == 0)]) (by simp [results, Tryd.results17, go_sem, c0, c1, c2, f0, f1, f2, hne1, hne2]) rfl ?_
          go_light
          exact read_hit HL.out (by simp) (hw ▸ hk) rfl rfl _ (by rw [Bool.eq_iff_iff]; simp) (by repeat (first | exact (hR.blks.step hg hR.far).below | refine bl2 ?_ | refine bl1 ?_ _ | refine bl5 ?_ _ _ _ (by omega)))
        · have hw : ¬ wd = x0 := by have h : (wd == x0) = false := by assumption
                                    intro e; simp [e] at h
          go_light
          refine ⟨⟨seen ++ [i], (hR.step hi (fun e => hw (S_inj (Value.string.inj e))) hI hg).alloc _⟩, ?_⟩
          have h1 := hI.len
          rw [leftOf_eq hR.it, leftOf_eq ((hI.below (bl1 (bl0 _) _)))]
          simp at h1 ⊢
          omega
        · refine bodyPost_ret (v := .tuple #[.agg #[.int .i64 0, .int .i64 0, .int .i64 0], .bool false]) (by simp [results, Tryd.results17, go_sem, c0, c1, c2, f0, f1, f2]) rfl ?_
          go_light
          refine read_miss HL.out ?_ (by repeat (first | exact hR.blks.below | refine bl2 ?_ | refine bl1 ?_ _ | refine bl5 ?_ _ _ _ (by omega)))
          cases hk : Bp.kindOf x0 with
          | none => rfl
          | some kn =>
            obtain ⟨k, n⟩ := kn
            obtain ⟨j, hj⟩ := words_all HW.out hk
            exact absurd rfl (hR.not j (hdone j (List.getElem?_eq_some_iff.1 hj).1) _ _ hj)

set_option maxRecDepth 100000 in
set_option maxHeartbeats 1600000 in
theorem read_2 (s : ByteArray) (w : World) (HG : Hid (Glob w)) (hs : s.size ≤ 1000) (x0 x1 : List UInt8) (HL : Hid (Bp.pieces 32 s.data.toList = [x0, x1])) : Calls Tryd.prog 17 #[.string s] w (ReadPost s w) := by
      have hx1 : (S x1).size ≤ 1000 := by
        have h1 : x1 ∈ Bp.pieces 32 s.data.toList := by rw [HL.out]; simp
        have := Bp.piece_le 32 _ _ h1
        rw [S_size, ← size_len] at *; omega
      go_enter Tryd.func17, Tryd.ntmps17
      go_wp2_with (go_at_call 24; refine (split_any s 32 _ (HG.out.below (bl1 (bl0 _) _)) (by omega)).mono ?_; rintro e w1 ⟨rfl, rfl⟩; rw [HL.out])
      refine wp_loop_rounds 2 ?_
      rw [rounds_succ]
      go_wp2_with (go_at_call 32; go_must (refine (atoi_any _ _ (HG.out.below (bl1 (bl1 (bl1 (bl0 _) _) _) _)) (by omega)).mono ?_; rintro e w1 ⟨⟨v, rfl⟩, hb⟩; obtain ⟨c0, c1, c2, f0, f1, f2, cx, cn0, cn1, hlt⟩ := ((Blks.start w x0 [.string (S x1)]).bl hb).cells; have fn0 := frozen_blk ((Blks.start w x0 [.string (S x1)]).bl hb).nums 0; have fn1 := frozen_blk ((Blks.start w x0 [.string (S x1)]).bl hb).nums 1))
      clear hlt c0 c1 c2 f0 f1 f2 cx cn0 cn1 fn0 fn1
      have hz := hb.size
      simp only [World.size_alloc] at hz
      rw [rounds_succ]
      go_wp2_with (first | (go_at_call 33; refine (words_any _).mono ?_; rintro e w9 ⟨ws, hws, rfl, rfl⟩) | (at_range; go_must (refine wpList_range_pm Tryd.underlying72 rfl (.tmp 32) rfl _ ws rfl (drew_new _ _ _ (by simp)) (w1.heap.size + 1) (by simp) ?_; rintro w8 hI rfl)))
      have HW := Lib.hid hws
      clear hws
      go_frame
      go_loopw [34] (fun _ wr => ∃ seen, RInv w x0 [.string (S x1)] (Bp.atoiN x1) 0 ws (w1.heap.size + 1) (w1.heap.size) seen wr) (fun _ wr => leftOf wr (w1.heap.size + 1) ws.length)
      case atStart => exact ⟨[], hI, fun i h => by (cases h), (((((Blks.start w x0 [.string (S x1)]).bl hb).set0 _).alloc _).drew).alloc _, by omega⟩
      case round =>
        obtain ⟨seen, hR⟩ := hrel
        clear hI
        obtain ⟨c0, c1, c2, f0, f1, f2, cx, cn0, cn1, hlt⟩ := hR.blks.cells
        go_wp2_with (at_next; go_must (refine wpList_next_pm rfl (.tmp 33) rfl (w1.heap.size + 1) (w1.heap.size) ws seen rfl hR.it ?_ ?_); intro hdone; rotate_left; clear c0 c1 c2 f0 f1 f2 cx cn0 cn1; intro i x y v w1 hi hns hI hg hsz hen; obtain ⟨wd, rfl, nn, rfl, hk⟩ := words_mem HW.out hi; obtain ⟨c0, c1, c2, f0, f1, f2, cx, cn0, cn1⟩ := (hR.blks.step hg hR.far).cellsA)
        · have hne1 : ¬ wr.heap.size = w.heap.size := by omega
          have hne2 : ¬ w.heap.size = wr.heap.size := by omega
          have hw : wd = x0 := by have h : (wd == x0) = true := by assumption
                                  exact beq_iff_eq.1 h
          go_region
          go_wp2
          refine bodyPost_ret (v := .tuple #[.agg #[.int .i64 x, .int .i64 (Bp.atoiN x1), .int .i64 0], .bool ((nn : Int) == 1)]) (by simp [results, Tryd.results17, go_sem, c0, c1, c2, f0, f1, f2, hne1, hne2]) rfl ?_
          go_light
          exact read_hit HL.out (by simp) (hw ▸ hk) rfl rfl _ (by rw [Bool.eq_iff_iff]; simp; try omega) (by repeat (first | exact (hR.blks.step hg hR.far).below | refine bl2 ?_ | refine bl1 ?_ _ | refine bl5 ?_ _ _ _ (by omega)))
        · have hw : ¬ wd = x0 := by have h : (wd == x0) = false := by assumption
                                    intro e; simp [e] at h
          go_light
          refine ⟨⟨seen ++ [i], (hR.step hi (fun e => hw (S_inj (Value.string.inj e))) hI hg).alloc _⟩, ?_⟩
          have h1 := hI.len
          rw [leftOf_eq hR.it, leftOf_eq ((hI.below (bl1 (bl0 _) _)))]
          simp at h1 ⊢
          omega
        · refine bodyPost_ret (v := .tuple #[.agg #[.int .i64 0, .int .i64 0, .int .i64 0], .bool false]) (by simp [results, Tryd.results17, go_sem, c0, c1, c2, f0, f1, f2]) rfl ?_
          go_light
          refine read_miss HL.out ?_ (by repeat (first | exact hR.blks.below | refine bl2 ?_ | refine bl1 ?_ _ | refine bl5 ?_ _ _ _ (by omega)))
          cases hk : Bp.kindOf x0 with
          | none => rfl
          | some kn =>
            obtain ⟨k, n⟩ := kn
            obtain ⟨j, hj⟩ := words_all HW.out hk
            exact absurd rfl (hR.not j (hdone j (List.getElem?_eq_some_iff.1 hj).1) _ _ hj)

set_option maxRecDepth 100000 in
set_option maxHeartbeats 1600000 in
theorem read_3 (s : ByteArray) (w : World) (HG : Hid (Glob w)) (hs : s.size ≤ 1000) (x0 x1 x2 : List UInt8) (HL : Hid (Bp.pieces 32 s.data.toList = [x0, x1, x2])) : Calls Tryd.prog 17 #[.string s] w (ReadPost s w) := by
      have hx1 : (S x1).size ≤ 1000 := by
        have h1 : x1 ∈ Bp.pieces 32 s.data.toList := by rw [HL.out]; simp
        have := Bp.piece_le 32 _ _ h1
        rw [S_size, ← size_len] at *; omega
      have hx2 : (S x2).size ≤ 1000 := by
        have h1 : x2 ∈ Bp.pieces 32 s.data.toList := by rw [HL.out]; simp
        have := Bp.piece_le 32 _ _ h1
        rw [S_size, ← size_len] at *; omega
      go_enter Tryd.func17, Tryd.ntmps17
      go_wp2_with (go_at_call 24; refine (split_any s 32 _ (HG.out.below (bl1 (bl0 _) _)) (by omega)).mono ?_; rintro e w1 ⟨rfl, rfl⟩; rw [HL.out])
      refine wp_loop_rounds 3 ?_
      rw [rounds_succ]
      go_wp2_with (go_at_call 32; go_must (refine (atoi_any _ _ (HG.out.below (bl1 (bl1 (bl1 (bl0 _) _) _) _)) (by omega)).mono ?_; rintro e w1 ⟨⟨v, rfl⟩, hb⟩; obtain ⟨c0, c1, c2, f0, f1, f2, cx, cn0, cn1, hlt⟩ := ((Blks.start w x0 [.string (S x1), .string (S x2)]).bl hb).cells; have fn0 := frozen_blk ((Blks.start w x0 [.string (S x1), .string (S x2)]).bl hb).nums 0; have fn1 := frozen_blk ((Blks.start w x0 [.string (S x1), .string (S x2)]).bl hb).nums 1))
      clear hlt c0 c1 c2 f0 f1 f2 cx cn0 cn1 fn0 fn1
      have hz := hb.size
      simp only [World.size_alloc] at hz
      rw [rounds_succ]
      have cx2 : w1.cell? ⟨w.heap.size + 1, 2, none⟩ = some (.string (S x2)) := cell_blk ((Blks.start w x0 [.string (S x1), .string (S x2)]).bl hb).strs 2
      go_wp2_with (go_at_call 32; go_must (refine (atoi_any _ _ (HG.out.below (bl5 (bl3 (bl1 (bl1 (bl1 (bl0 _) _) _) _) hb) _ _ _ (by omega))) (by omega)).mono ?_; rintro e w2 ⟨⟨v, rfl⟩, hb2⟩; obtain ⟨c0, c1, c2, f0, f1, f2, cx, cn0, cn1, hlt⟩ := ((((Blks.start w x0 [.string (S x1), .string (S x2)]).bl hb).set0 (Bp.atoiN x1)).bl hb2).cells; have fn0 := frozen_blk ((((Blks.start w x0 [.string (S x1), .string (S x2)]).bl hb).set0 (Bp.atoiN x1)).bl hb2).nums 0; have fn1 := frozen_blk ((((Blks.start w x0 [.string (S x1), .string (S x2)]).bl hb).set0 (Bp.atoiN x1)).bl hb2).nums 1))
      clear hlt c0 c1 c2 f0 f1 f2 cx cn0 cn1 fn0 fn1
      have hz2 := hb2.size
      simp only [World.size_setCell] at hz2
      rw [rounds_succ]
      go_wp2_with (first | (go_at_call 33; refine (words_any _).mono ?_; rintro e w9 ⟨ws, hws, rfl, rfl⟩) | (at_range; go_must (refine wpList_range_pm Tryd.underlying72 rfl (.tmp 32) rfl _ ws rfl (drew_new _ _ _ (by simp)) (w2.heap.size + 1) (by simp) ?_; rintro w8 hI rfl)))
      have HW := Lib.hid hws
      clear hws
      go_frame
      go_loopw [34] (fun _ wr => ∃ seen, RInv w x0 [.string (S x1), .string (S x2)] (Bp.atoiN x1) (Bp.atoiN x2) ws (w2.heap.size + 1) (w2.heap.size) seen wr) (fun _ wr => leftOf wr (w2.heap.size + 1) ws.length)
      case atStart => exact ⟨[], hI, fun i h => by (cases h), (((((((Blks.start w x0 [.string (S x1), .string (S x2)]).bl hb).set0 _).bl hb2).set1 _).alloc _).drew).alloc _, by omega⟩
      case round =>
        obtain ⟨seen, hR⟩ := hrel
        clear hI
        obtain ⟨c0, c1, c2, f0, f1, f2, cx, cn0, cn1, hlt⟩ := hR.blks.cells
        go_wp2_with (at_next; go_must (refine wpList_next_pm rfl (.tmp 33) rfl (w2.heap.size + 1) (w2.heap.size) ws seen rfl hR.it ?_ ?_); intro hdone; rotate_left; clear c0 c1 c2 f0 f1 f2 cx cn0 cn1; intro i x y v w1 hi hns hI hg hsz hen; obtain ⟨wd, rfl, nn, rfl, hk⟩ := words_mem HW.out hi; obtain ⟨c0, c1, c2, f0, f1, f2, cx, cn0, cn1⟩ := (hR.blks.step hg hR.far).cellsA)
        · have hne1 : ¬ wr.heap.size = w.heap.size := by omega
          have hne2 : ¬ w.heap.size = wr.heap.size := by omega
          have hw : wd = x0 := by have h : (wd == x0) = true := by assumption
                                  exact beq_iff_eq.1 h
          go_region
          go_wp2
          refine bodyPost_ret (v := .tuple #[.agg #[.int .i64 x, .int .i64 (Bp.atoiN x1), .int .i64 (Bp.atoiN x2)], .bool ((nn : Int) == 2)]) (by simp [results, Tryd.results17, go_sem, c0, c1, c2, f0, f1, f2, hne1, hne2]) rfl ?_
          go_light
          exact read_hit HL.out (by simp) (hw ▸ hk) rfl rfl _ (by rw [Bool.eq_iff_iff]; simp; try omega) (by repeat (first | exact (hR.blks.step hg hR.far).below | refine bl2 ?_ | refine bl1 ?_ _ | refine bl5 ?_ _ _ _ (by omega)))
        · have hw : ¬ wd = x0 := by have h : (wd == x0) = false := by assumption
                                    intro e; simp [e] at h
          go_light
          refine ⟨⟨seen ++ [i], (hR.step hi (fun e => hw (S_inj (Value.string.inj e))) hI hg).alloc _⟩, ?_⟩
          have h1 := hI.len
          rw [leftOf_eq hR.it, leftOf_eq ((hI.below (bl1 (bl0 _) _)))]
          simp at h1 ⊢
          omega
        · refine bodyPost_ret (v := .tuple #[.agg #[.int .i64 0, .int .i64 0, .int .i64 0], .bool false]) (by simp [results, Tryd.results17, go_sem, c0, c1, c2, f0, f1, f2]) rfl ?_
          go_light
          refine read_miss HL.out ?_ (by repeat (first | exact hR.blks.below | refine bl2 ?_ | refine bl1 ?_ _ | refine bl5 ?_ _ _ _ (by omega)))
          cases hk : Bp.kindOf x0 with
          | none => rfl
          | some kn =>
            obtain ⟨k, n⟩ := kn
            obtain ⟨j, hj⟩ := words_all HW.out hk
            exact absurd rfl (hR.not j (hdone j (List.getElem?_eq_some_iff.1 hj).1) _ _ hj)

theorem read_any (s : ByteArray) (w : World) (G : Glob w) (hs : s.size ≤ 1000) : Calls Tryd.prog 17 #[.string s] w (ReadPost s w) := by
  by_cases h3 : 3 < (Bp.pieces 32 s.data.toList).length
  · exact read_l s w G hs h3
  · have hne := Bp.pieces_ne 32 s.data.toList
    cases hp : Bp.pieces 32 s.data.toList with
    | nil => exact absurd hp hne
    | cons x0 r =>
      rw [hp] at h3
      match r, h3, hp with
      | [], _, hp => exact read_1 s w G hs x0 hp
      | [x1], _, hp => exact read_2 s w G hs x0 x1 hp
      | [x1, x2], _, hp => exact read_3 s w G hs x0 x1 x2 hp
      | _ :: _ :: _ :: _, h3, _ => exact absurd (by simp) h3
end Go.Proofs.YtllabeiadeclkaaDoor

/-! BodyParse: body.Parse: the body of a text. -/
namespace Go.Proofs.YtllabeiadeclkaaDoor
open Go.RowKit Go.Proofs.YtllabeiadeclkaaDoorW

/-- What strings.SplitSeq comes to: the boxes are laid. -/
def SeqPost (s : List UInt8) (w : World) (e : Ending) (w' : World) : Prop :=
  e = .returned (.func (.func 48) #[] #[.pointer (some ⟨w.heap.size + 1, 0, none⟩), .pointer (some ⟨w.heap.size, 0, none⟩), .pointer (some ⟨w.heap.size + 2, 0, none⟩)]) ∧
    w' = ((w.alloc (.cells #[.string (S s)] 9)).alloc (.cells #[.string ⟨#[59]⟩] 9)).alloc (.cells #[.int .i64 0] 3)

set_option maxRecDepth 100000 in
theorem seq_inner (s : List UInt8) (w : World) :
    Calls Tryd.prog 31 #[.string (S s), .string ⟨#[59]⟩, .int .i64 0] w (SeqPost s w) := by
  go_enter Tryd.func31, Tryd.ntmps31
  go_wp2
  go_ret
  exact ⟨by simp, rfl⟩

set_option maxRecDepth 100000 in
theorem seq_any (s : List UInt8) (w : World) : Calls Tryd.prog 16 #[.string (S s), .string ⟨#[59]⟩] w (SeqPost s w) := by
  go_enter Tryd.func16, Tryd.ntmps16
  go_wp2_with (go_at_call 31; go_must (refine (seq_inner s w).mono ?_; rintro e w' ⟨rfl, rfl⟩))
  go_ret
  exact ⟨rfl, rfl⟩

theorem SeqPost.boxes (s : List UInt8) (w : World) : SeqBoxes w.heap.size s (((w.alloc (.cells #[.string (S s)] 9)).alloc (.cells #[.string ⟨#[59]⟩] 9)).alloc (.cells #[.int .i64 0] 3)) :=
  ⟨blk (bl1 (bl1 (bl0 _) _) _) (alloc_new w _ _ rfl), blk (bl1 (bl0 _) _) (alloc_new _ _ _ (by simp)), alloc_new _ _ _ (by simp)⟩

set_option maxRecDepth 100000 in
/-- slices.Clip. -/
theorem clip_any (A : Option Addr) (n c : Nat) (hn : n ≤ c) (w : World) :
    Calls Tryd.prog 19 #[.slice A n c] w fun e w' => e = .returned (.slice A n n) ∧ w' = w := by
  go_enter Tryd.func19, Tryd.ntmps19
  go_wp2
  go_ret
  exact ⟨rfl, rfl⟩

/-- A row of ops lies in a block of its own kind. -/
def OpRow (w : World) (A : Option Addr) : Prop := ∀ a, A = some a → ∃ cs, w.heap[a.block]? = some (.cells cs 50 (0, 0))

/-- What body.Parse comes to. -/
def ParsePost (s : List UInt8) (w : World) (e : Ending) (w' : World) : Prop :=
  Below w.heap.size w w' ∧ ∃ A c, e = .returned (.tuple #[.slice A (Bp.parse s).1.length c, .int .i64 (Bp.parse s).2]) ∧ (Bp.parse s).1.length ≤ c ∧ OpsAt w' A (Bp.parse s).1 ∧ OpRow w' A

theorem none_post {s : List UInt8} {w W : World} {x : Int} (h : Bp.parse s = ([], x)) (hb : Below w.heap.size w W) : ParsePost s w (.returned (.tuple #[.slice none 0 0, .int .i64 x])) W := by
  refine ⟨hb, none, 0, ?_⟩
  rw [h]
  exact ⟨rfl, Nat.le_refl _, fun hl => absurd hl (by simp), fun a h => by cases h⟩

set_option maxRecDepth 100000 in
set_option maxHeartbeats 1600000 in
/-- A text that is too long. -/
theorem parse_long (s : List UInt8) (w : World) (hs : 400 < s.length) : Calls Tryd.prog 6 #[.string (S s)] w (ParsePost s w) := by
  have hz : (S s).size = s.length := S_size s
  go_enter Tryd.func6, Tryd.ntmps6
  go_wp2
  refine bodyPost_ret (v := .tuple #[.slice none 0 0, .int .i64 2]) (by simp [results, Tryd.results6, go_sem]) rfl ?_
  refine none_post (by simp [Bp.parse, hs]) ?_
  repeat (first | exact bl0 _ | refine bl1 ?_ _ | refine bl5 ?_ _ _ _ (by simp))

set_option maxRecDepth 100000 in
set_option maxHeartbeats 1600000 in
/-- The text of no op. -/
theorem parse_dash (w : World) : Calls Tryd.prog 6 #[.string ⟨#[45]⟩] w (ParsePost [45] w) := by
  go_enter Tryd.func6, Tryd.ntmps6
  go_wp2
  refine bodyPost_ret (v := .tuple #[.slice none 0 0, .int .i64 0]) (by simp [results, Tryd.results6, go_sem]) rfl ?_
  refine none_post (by simp [Bp.parse]) ?_
  repeat (first | exact bl0 _ | refine bl1 ?_ _ | refine bl5 ?_ _ _ _ (by simp))

/-- The cells of a row of ops. -/
def opCells (l : List Bp.O) : List Value := l.flatMap fun o => [.int .i64 o.kind, .int .i64 o.a, .int .i64 o.b]
theorem opCells_snoc (l : List Bp.O) (o : Bp.O) : opCells (l ++ [o]) = opCells l ++ [.int .i64 o.kind, .int .i64 o.a, .int .i64 o.b] := by simp [opCells]
theorem opCells_at : ∀ (l : List Bp.O) (j : Nat) (x : Bp.O), l[j]? = some x → (opCells l)[j * 3]? = some (.int .i64 x.kind) ∧ (opCells l)[j * 3 + 1]? = some (.int .i64 x.a) ∧ (opCells l)[j * 3 + 2]? = some (.int .i64 x.b)
  | [], j, x, h => by simp at h
  | y :: r, 0, x, h => by
    obtain rfl : y = x := by simpa using h
    simp [opCells]
  | y :: r, j + 1, x, h => by
    have ih := opCells_at r j x (by simpa using h)
    have e : opCells (y :: r) = [.int .i64 y.kind, .int .i64 y.a, .int .i64 y.b] ++ opCells r := rfl
    have e0 : (j + 1) * 3 = j * 3 + 3 := by omega
    rw [e, e0]
    refine ⟨?_, ?_, ?_⟩
    · rw [List.getElem?_append_right (by simp)]; simpa using ih.1
    · rw [List.getElem?_append_right (by simp)]; simpa using ih.2.1
    · rw [List.getElem?_append_right (by simp)]; simpa using ih.2.2

/-- A row of ops that the call owns is at hand for readers. -/
theorem ops_of_own {w : World} {base : Nat} {v : Value} {l : List Bp.O} (h : w.ownsRow base 50 3 v l.length (opCells l)) : ∃ A c, v = .slice A l.length c ∧ l.length ≤ c ∧ OpsAt w A l := by
  rcases h.2 with ⟨rfl, h2⟩ | ⟨g, cap, cur, rfl, h1, h2, h3, h4, h5, h6⟩
  · have h0 : l = [] := by
      cases l with
      | nil => rfl
      | cons x r => simp [opCells] at h2
    subst h0
    exact ⟨none, 0, rfl, Nat.le_refl _, fun h => by simp at h⟩
  · refine ⟨some ⟨g, 0, none⟩, cap, rfl, by first | omega | assumption, fun hp => ⟨g, 0, rfl, (Array.getElem?_eq_some_iff.1 h2).1, fun j x hx => ?_⟩⟩
    obtain ⟨a0, a1, a2⟩ := opCells_at l j x hx
    have k0 := h.cells (g := g) rfl _ _ a0
    have k1 := h.cells (g := g) rfl _ _ a1
    have k2 := h.cells (g := g) rfl _ _ a2
    simp only [PrintWords.add_plain] at k0 k1 k2
    exact ⟨by simpa using k0, by simpa [Nat.add_assoc] using k1, by simpa [Nat.add_assoc] using k2⟩

theorem row_of_own {w : World} {base n c : Nat} {A : Option Addr} {xs : List Value} (h : w.ownsRow base 50 3 (.slice A n c) n xs) : OpRow w A := by
  rcases h.2 with ⟨e, _⟩ | ⟨g, cap, cur, e, h1, h2, _⟩
  · injection e with e1; subst e1; exact fun a h => by cases h
  · injection e with e1; subst e1
    intro a ha
    injection ha with ha; subst ha
    exact ⟨_, h2⟩

theorem read_all_none : ∀ {l : List (List UInt8)} {p : List UInt8}, p ∈ l → Bp.read p = none → l.mapM Bp.read = none
  | x :: r, p, hp, hn => by
    rcases List.mem_cons.1 hp with rfl | h
    · rw [List.mapM_cons, hn]; rfl
    · rw [List.mapM_cons, read_all_none h hn]
      cases Bp.read x <;> rfl
theorem read_all_snoc {pre : List (List UInt8)} {l : List Bp.O} {x : List UInt8} {o : Bp.O} (h : pre.mapM Bp.read = some l) (hx : Bp.read x = some o) : (pre ++ [x]).mapM Bp.read = some (l ++ [o]) := by
  rw [List.mapM_append, h, List.mapM_cons, hx]; rfl

/-- Between two rounds. -/
def LoopI (w : World) (pre : List (List UInt8)) (W : World) : Prop :=
  ∃ v l, pre.mapM Bp.read = some l ∧ l.length = pre.length ∧ W.heap[w.heap.size + 2]? = some (.cells #[v] 22 (0, 0)) ∧ W.ownsRow (w.heap.size + 6) 50 3 v l.length (opCells l) ∧
    W.heap[w.heap.size]? = some (.cells #[.slice none 0 0] 22 (0, 0)) ∧ W.heap[w.heap.size + 1]? = some (.cells #[.int .i64 0] 23 (0, 0)) ∧ Below w.heap.size w W ∧ w.heap.size + 6 ≤ W.heap.size
/-- A round has left. -/
def LoopX (w : World) (pre : List (List UInt8)) (W : World) : Prop :=
  (∃ p, p ∈ pre ∧ Bp.read p = none) ∧ W.heap[w.heap.size]? = some (.cells #[.slice none 0 0] 22 (0, 0)) ∧ W.heap[w.heap.size + 1]? = some (.cells #[.int .i64 3] 23 (0, 0)) ∧ Below w.heap.size w W

theorem below_put {w W : World} (h : Below w.heap.size w W) (l : Nat) (o : Obj) (hl : w.heap.size ≤ l) : Below w.heap.size w (W.putObj l o) :=
  h.grown (grownBy_putObj' W l o) h.size (fun k e => by cases e; exact hl)
theorem LoopI.step {w A B : World} {pre : List (List UInt8)} (h : LoopI w pre A) (hs : Step (w.heap.size + 3) A B) : LoopI w pre B := by
  obtain ⟨v, l, h1, h2, h3, h4, h5, h6, h7, h8⟩ := h
  rcases hs with hs | ⟨u, rfl⟩
  · exact ⟨v, l, h1, h2, blk hs h3, PrintWords.pw_own_below h4 hs, blk hs h5, blk hs h6, bl3 h7 hs, Nat.le_trans h8 hs.size⟩
  · exact ⟨v, l, h1, h2, (sc_else (by simp)).trans h3, PrintWords.own_setCell h4 (fun e => by have := PrintWords.own_base h4 _ e.symm; simp at this) u, (sc_else (by simp)).trans h5, (sc_else (by simp)).trans h6, bl5 h7 _ _ _ (by omega), by simpa using h8⟩
theorem LoopI.put {w A : World} {pre : List (List UInt8)} {l : Nat} {o : Obj} (o' : Obj) (h : LoopI w pre A) (hl : w.heap.size + 6 ≤ l) (ho : A.heap[l]? = some o) (hc : o.isCells = false) : LoopI w pre (A.putObj l o') := by
  obtain ⟨v, ll, h1, h2, h3, h4, h5, h6, h7, h8⟩ := h
  exact ⟨v, ll, h1, h2, (World.putObj_heap_other (by omega)).trans h3, ownsRow_putObj h4 _ ho hc, (World.putObj_heap_other (by omega)).trans h5, (World.putObj_heap_other (by omega)).trans h6, below_put h7 _ _ (by omega), Nat.le_trans h8 (grownBy_putObj' A l o').size⟩
theorem LoopX.put {w A : World} {pre : List (List UInt8)} {l : Nat} (o' : Obj) (h : LoopX w pre A) (hl : w.heap.size + 6 ≤ l) : LoopX w pre (A.putObj l o') := by
  obtain ⟨h1, h5, h6, h7⟩ := h
  exact ⟨h1, (World.putObj_heap_other (by omega)).trans h5, (World.putObj_heap_other (by omega)).trans h6, below_put h7 _ _ (by omega)⟩
end Go.Proofs.YtllabeiadeclkaaDoor
