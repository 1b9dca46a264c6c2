/-
  The plain law of a body's text: what body.Parse computes (split, read each piece, print again, compare) is what the document's answer computes (numbers without noughts ahead, each op within its bounds, at most sixteen). No program in this text.
-/
import Derived.Lib.ItoaNum
import Derived.Lib.AtoiAllCases
import Derived.Lib.SplitLaws
import Derived.Lib.Join
set_option linter.unusedVariables false
set_option linter.unusedSimpArgs false
namespace Go.Proofs.YtllabeiadeclkaaDoor
namespace Bp

/-- A text's pieces between one byte. -/
def pieces (c : UInt8) : List UInt8 → List (List UInt8)
  | [] => [[]]
  | b :: r => if b = c then [] :: pieces c r else
    match pieces c r with
    | [] => [[b]]
    | p :: ps => (b :: p) :: ps

theorem pieces_ne (c : UInt8) : ∀ s, pieces c s ≠ []
  | [] => by simp [pieces]
  | b :: r => by
    unfold pieces
    split
    · simp
    · split <;> simp

theorem join_cons_cons (x y : List UInt8) (r : List (List UInt8)) (sep : List UInt8) : Lib.join (x :: y :: r) sep = x ++ sep ++ Lib.join (y :: r) sep := by
  rw [Lib.join_cons, Lib.join_cons]; simp [Lib.joinTail]

theorem join_pieces (c : UInt8) : ∀ s, Lib.join (pieces c s) [c] = s
  | [] => by simp [pieces, Lib.join_one]
  | b :: r => by
    have ih := join_pieces c r
    have hne := pieces_ne c r
    unfold pieces
    split
    · rename_i h
      subst h
      cases hp : pieces b r with
      | nil => exact absurd hp hne
      | cons p ps =>
        rw [join_cons_cons, ← hp, ih]; simp
    · cases hp : pieces c r with
      | nil => exact absurd hp hne
      | cons p ps =>
        rw [hp] at ih
        simp only
        cases ps with
        | nil => rw [Lib.join_one] at ih ⊢; rw [ih]
        | cons q qs => rw [join_cons_cons] at ih ⊢; rw [← ih]; simp

theorem pieces_none (c : UInt8) : ∀ p : List UInt8, c ∉ p → pieces c p = [p]
  | [], _ => rfl
  | b :: r, h => by
    have h1 : b ≠ c := fun e => h (by simp [e])
    have h2 : c ∉ r := fun e => h (by simp [e])
    simp [pieces, h1, pieces_none c r h2]

theorem pieces_app (c : UInt8) : ∀ (p r : List UInt8), c ∉ p → pieces c (p ++ c :: r) = p :: pieces c r
  | [], r, _ => by simp [pieces]
  | b :: p, r, h => by
    have h1 : b ≠ c := fun e => h (by simp [e])
    have h2 : c ∉ p := fun e => h (by simp [e])
    simp [pieces, h1, pieces_app c p r h2]

theorem pieces_join (c : UInt8) : ∀ ps : List (List UInt8), ps ≠ [] → (∀ p ∈ ps, c ∉ p) → pieces c (Lib.join ps [c]) = ps
  | [], h, _ => absurd rfl h
  | [p], _, h => by rw [Lib.join_one]; exact pieces_none c p (h p (by simp))
  | p :: q :: ps, _, h => by
    rw [join_cons_cons, List.append_assoc, List.singleton_append, pieces_app c p _ (h p (by simp)), pieces_join c (q :: ps) (by simp) (fun x hx => h x (by simp [hx]))]

theorem pieces_noc (c : UInt8) : ∀ s, ∀ p ∈ pieces c s, c ∉ p
  | [], p, hp => by simp [pieces] at hp; subst hp; simp
  | b :: r, p, hp => by
    have ih := pieces_noc c r
    unfold pieces at hp
    split at hp
    · rcases List.mem_cons.1 hp with rfl | hp
      · simp
      · exact ih p hp
    · rename_i hb
      cases hq : pieces c r with
      | nil => exact absurd hq (pieces_ne c r)
      | cons q qs =>
        rw [hq] at hp ih
        simp only [List.mem_cons] at hp
        rcases hp with rfl | hp
        · intro hc
          rcases List.mem_cons.1 hc with hc | hc
          · exact hb hc.symm
          · exact ih q (by simp) hc
        · exact ih p (by simp [hp])

theorem pieces_le (c : UInt8) : ∀ s, (pieces c s).length ≤ s.length + 1
  | [] => by simp [pieces]
  | b :: r => by
    have ih := pieces_le c r
    unfold pieces
    split
    · simp; omega
    · cases hq : pieces c r with
      | nil => simp
      | cons q qs => rw [hq] at ih; simp at ih ⊢; omega

theorem piece_le (c : UInt8) : ∀ s, ∀ p ∈ pieces c s, p.length ≤ s.length
  | [], p, hp => by simp [pieces] at hp; subst hp; simp
  | b :: r, p, hp => by
    have ih := piece_le c r
    unfold pieces at hp
    split at hp
    · rcases List.mem_cons.1 hp with rfl | hp
      · simp
      · have := ih p hp; simp; omega
    · cases hq : pieces c r with
      | nil => exact absurd hq (pieces_ne c r)
      | cons q qs =>
        rw [hq] at hp ih
        simp only [List.mem_cons] at hp
        rcases hp with rfl | hp
        · have := ih q (by simp); simp; omega
        · have := ih p (by simp [hp]); simp; omega

/-! ### Numbers -/
def isDig (b : UInt8) : Bool := decide (48 ≤ b.toNat) && decide (b.toNat ≤ 57)
def numVal (acc : Nat) : List UInt8 → Option Nat
  | [] => some acc
  | b :: r => if isDig b then numVal (10 * acc + (b.toNat - 48)) r else none
/-- A word's number, of so many digits at most, no nought ahead. -/
def number (most : Nat) (w : List UInt8) : Option Nat :=
  if w = [] ∨ most < w.length ∨ (w.head? = some 48 ∧ w ≠ [48]) then none else numVal 0 w

theorem numVal_app : ∀ (l : List UInt8) (acc : Nat) (d : UInt8), numVal acc (l ++ [d]) = (numVal acc l).bind fun n => if isDig d then some (10 * n + (d.toNat - 48)) else none
  | [], acc, d => by simp [numVal]
  | b :: r, acc, d => by
    simp only [List.cons_append, numVal]
    split
    · exact numVal_app r _ d
    · rfl

theorem snoc_form (w : List UInt8) (h : w ≠ []) : ∃ p d, w = p ++ [d] := ⟨w.dropLast, w.getLast h, (List.dropLast_concat_getLast h).symm⟩

theorem dec_small {n : Nat} (h : n < 10) : Lib.decDigits n = [UInt8.ofNat (48 + n)] := by rw [Lib.decDigits, dif_pos h]
theorem dec_big {n : Nat} (h : ¬ n < 10) : Lib.decDigits n = Lib.decDigits (n / 10) ++ [UInt8.ofNat (48 + n % 10)] := by rw [Lib.decDigits, dif_neg h]
theorem dig_toNat {n : Nat} (h : n < 10) : (UInt8.ofNat (48 + n)).toNat = 48 + n := by
  show (48 + n) % 256 = 48 + n
  exact Nat.mod_eq_of_lt (by omega)
theorem dig_is {n : Nat} (h : n < 10) : isDig (UInt8.ofNat (48 + n)) = true := by
  simp only [isDig, dig_toNat h, Bool.and_eq_true, decide_eq_true_eq]; omega
theorem dec_ne (n : Nat) : Lib.decDigits n ≠ [] := by
  intro h
  have := congrArg List.length h
  rw [Lib.decDigits_length] at this
  have := Lib.nDigits_pos n
  simp at *
  omega
theorem byte_of_dig {d : UInt8} (h : isDig d = true) : d = UInt8.ofNat (48 + (d.toNat - 48)) ∧ d.toNat - 48 < 10 := by
  simp only [isDig, Bool.and_eq_true, decide_eq_true_eq] at h
  refine ⟨?_, by omega⟩
  apply UInt8.toNat_inj.1
  rw [dig_toNat (by omega)]; omega

theorem numVal_dec (n : Nat) : numVal 0 (Lib.decDigits n) = some n := by
  induction n using Nat.strongRecOn with
  | _ n ih =>
    by_cases h : n < 10
    · rw [dec_small h]; simp only [numVal, dig_is h, if_true, dig_toNat h]; congr 1; omega
    · have hm : n % 10 < 10 := Nat.mod_lt _ (by omega)
      rw [dec_big h, numVal_app, ih (n / 10) (by omega)]
      simp only [Option.bind_some, dig_is hm, if_true, dig_toNat hm]; congr 1; omega

theorem dec_head (n : Nat) (h : 0 < n) : (Lib.decDigits n).head? ≠ some 48 := by
  induction n using Nat.strongRecOn with
  | _ n ih =>
    by_cases h1 : n < 10
    · rw [dec_small h1]
      intro e
      have e' : UInt8.ofNat (48 + n) = 48 := by simpa using e
      have := congrArg UInt8.toNat e'
      rw [dig_toNat h1] at this
      simp at this; omega
    · rw [dec_big h1, List.head?_append]
      have := ih (n / 10) (by omega) (by omega)
      cases hd : (Lib.decDigits (n / 10)).head? with
      | none => exact absurd (List.head?_eq_none_iff.1 hd) (dec_ne _)
      | some x => rw [hd] at this; simpa using this

theorem dec_of_numVal : ∀ (k : Nat) (w : List UInt8) (n : Nat), w.length ≤ k → w ≠ [] → (w.head? = some 48 → w = [48]) → numVal 0 w = some n → w = Lib.decDigits n
  | 0, w, n, hk, hw, _, _ => absurd (List.eq_nil_of_length_eq_zero (by omega)) hw
  | k + 1, w, n, hk, hw, h0, hv => by
    obtain ⟨p, d, rfl⟩ := snoc_form w hw
    rw [numVal_app] at hv
    cases hp : numVal 0 p with
    | none => rw [hp] at hv; cases hv
    | some m =>
      rw [hp] at hv
      simp only [Option.bind_some] at hv
      split at hv
      · rename_i hd
        obtain ⟨hb, hlt⟩ := byte_of_dig hd
        injection hv with hv
        by_cases hpn : p = []
        · subst hpn
          simp only [numVal] at hp
          injection hp with hp
          subst hp
          rw [dec_small (by omega), List.nil_append, hb, show d.toNat - 48 = n by omega]
        · have hhead : p.head? ≠ some 48 := by
            intro e
            have h1 : (p ++ [d]).head? = some 48 := by rw [List.head?_append, e]; rfl
            have h2 := congrArg List.length (h0 h1)
            have h3 : 0 < p.length := List.length_pos_iff.2 hpn
            simp at h2
            exact hpn (by simpa using h2)
          have ih := dec_of_numVal k p m (by simp at hk; omega) hpn (fun e => absurd e hhead) hp
          have hm : 0 < m := by
            rcases Nat.eq_zero_or_pos m with e | e
            · subst e
              rw [dec_small (by omega)] at ih
              rw [ih] at hhead
              exact absurd rfl hhead
            · exact e
          rw [dec_big (by omega), show n / 10 = m by omega, show n % 10 = d.toNat - 48 by omega, ← hb, ← ih]
      · cases hv

theorem number_some {most : Nat} {w : List UInt8} {n : Nat} (h : number most w = some n) : w = Lib.decDigits n ∧ w.length ≤ most := by
  unfold number at h
  split at h
  · cases h
  · rename_i hc
    have h1 : w ≠ [] := fun e => hc (.inl e)
    have h2 : w.length ≤ most := by
      rcases Nat.lt_or_ge most w.length with e | e
      · exact absurd (.inr (.inl e)) hc
      · exact e
    exact ⟨dec_of_numVal w.length w n (Nat.le_refl _) h1 (fun e => Classical.byContradiction fun e2 => hc (.inr (.inr ⟨e, e2⟩))) h, h2⟩

theorem number_dec {most n : Nat} (h : (Lib.decDigits n).length ≤ most) : number most (Lib.decDigits n) = some n := by
  unfold number
  rw [if_neg, numVal_dec]
  rintro (e | e | ⟨e1, e2⟩)
  · exact dec_ne n e
  · omega
  · rcases Nat.eq_zero_or_pos n with e | e
    · subst e; exact e2 (by rw [dec_small (by omega)]; rfl)
    · exact dec_head n e e1

/-- A digit's neighbours: no byte of a numeral is a byte that is no digit. -/
theorem dec_digs (n : Nat) : ∀ b ∈ Lib.decDigits n, isDig b = true := by
  induction n using Nat.strongRecOn with
  | _ n ih =>
    intro b hb
    by_cases h : n < 10
    · rw [dec_small h] at hb
      simp only [List.mem_singleton] at hb
      rw [hb]; exact dig_is h
    · rw [dec_big h, List.mem_append] at hb
      rcases hb with hb | hb
      · exact ih (n / 10) (by omega) b hb
      · simp only [List.mem_singleton] at hb
        rw [hb]; exact dig_is (Nat.mod_lt _ (by omega))
theorem dec_not (n : Nat) (c : UInt8) (h : isDig c = false) : c ∉ Lib.decDigits n := fun e => by
  have := dec_digs n c e
  rw [h] at this; cases this

theorem numVal_mono : ∀ (l : List UInt8) (acc n : Nat), numVal acc l = some n → acc ≤ n
  | [], acc, n, h => by simp only [numVal] at h; injection h with h; omega
  | b :: r, acc, n, h => by
    simp only [numVal] at h
    split at h
    · have := numVal_mono r _ n h; omega
    · cases h

theorem parse10 : ∀ (l : List UInt8) (acc n : Nat), numVal acc l = some n → n < 18446744073709551616 → Lib.parseUint10 acc l = .ok n
  | [], acc, n, h, _ => by simp only [numVal] at h; injection h with h; simp [Lib.parseUint10, h]
  | b :: r, acc, n, h, hn => by
    simp only [numVal] at h
    split at h
    · rename_i hb
      have hm := numVal_mono r _ n h
      simp only [isDig, Bool.and_eq_true, decide_eq_true_eq] at hb
      rw [Lib.parseUint10, if_pos hb, if_neg (by omega), if_neg (by omega)]
      exact parse10 r _ n (by rw [Nat.mul_comm]; exact h) hn
    · cases h

theorem atoi_dec {n : Nat} (h : n < 9223372036854775808) : Lib.atoiAll (Lib.decDigits n) = .ok (n : Int) := by
  cases hd : Lib.decDigits n with
  | nil => exact absurd hd (dec_ne n)
  | cons c r =>
    have hc : isDig c = true := dec_digs n c (by rw [hd]; simp)
    simp only [isDig, Bool.and_eq_true, decide_eq_true_eq] at hc
    rw [Lib.atoiAll_plain c r (by omega) (by omega), ← hd]
    have h1 : Lib.parseMag (Lib.decDigits n) = .ok n := by
      unfold Lib.parseMag
      rw [if_neg (dec_ne n)]
      exact parse10 _ 0 n (numVal_dec n) (by omega)
    rw [h1]
    simp only [Lib.signless]
    rw [if_neg (by omega)]

/-! ### Ops -/
structure O where
  kind : Int
  a : Int
  b : Int
deriving DecidableEq

def nopW : List UInt8 := [110, 111, 112]
def submitW : List UInt8 := [115, 117, 98, 109, 105, 116]
def afterW : List UInt8 := [97, 102, 116, 101, 114]
def cancelW : List UInt8 := [99, 97, 110, 99, 101, 108]
def panicW : List UInt8 := [112, 97, 110, 105, 99]

/-- A word's kind, and how many numbers it has. -/
def kindOf (w : List UInt8) : Option (Int × Nat) :=
  if w = nopW then some (1, 0) else if w = submitW then some (2, 1) else if w = afterW then some (3, 2) else if w = cancelW then some (4, 1) else if w = panicW then some (5, 0) else none

/-- What strconv.Atoi gives beside its error. -/
def atoiN (w : List UInt8) : Int :=
  match Lib.atoiAll w with
  | .ok v => v
  | .range => Lib.atoiSat w
  | _ => 0
def at' (l : List (List UInt8)) (i : Nat) : Int :=
  match l[i]? with
  | some w => atoiN w
  | none => 0

/-- body.read. -/
def read (p : List UInt8) : Option O :=
  if 3 < (pieces 32 p).length then none else
  match kindOf ((pieces 32 p).headD []) with
  | none => none
  | some (k, n) => if n = (pieces 32 p).length - 1 then some ⟨k, at' (pieces 32 p) 1, at' (pieces 32 p) 2⟩ else none

/-- The bounds of an op. -/
def fits (o : O) : Bool :=
  if o.kind = 1 ∨ o.kind = 5 then decide (o.a = 0 ∧ o.b = 0)
  else if o.kind = 2 then decide (0 ≤ o.a ∧ o.a ≤ 7 ∧ o.b = 0)
  else if o.kind = 3 then decide (0 ≤ o.a ∧ o.a ≤ 7 ∧ 0 ≤ o.b ∧ o.b ≤ 1000000)
  else if o.kind = 4 then decide (1 ≤ o.a ∧ o.a ≤ 1000 ∧ o.b = 0)
  else false

/-- An op's text. -/
def told (o : O) : List UInt8 :=
  if o.kind = 1 then nopW
  else if o.kind = 2 then submitW ++ 32 :: Lib.itoa o.a
  else if o.kind = 3 then afterW ++ 32 :: (Lib.itoa o.a ++ 32 :: Lib.itoa o.b)
  else if o.kind = 4 then cancelW ++ 32 :: Lib.itoa o.a
  else if o.kind = 5 then panicW
  else []

def bodyOk (l : List O) : Bool := decide (l.length ≤ 16) && l.all fits
/-- body.Text of a body that may be. -/
def textOf (l : List O) : List UInt8 := if l = [] then [45] else Lib.join (l.map told) [59]

/-- body.Parse. -/
def parse (s : List UInt8) : List O × Int :=
  if 400 < s.length then ([], 2) else if s = [45] then ([], 0) else
  match (pieces 59 s).mapM read with
  | none => ([], 3)
  | some out => if bodyOk out = true ∧ textOf out = s then (out, 0) else ([], 3)

/-- The op of a word and numbers; none that may be: a kind of 0. -/
def mkOp (w : List UInt8) : List Nat → O
  | [] => if w = nopW then ⟨1, 0, 0⟩ else if w = panicW then ⟨5, 0, 0⟩ else ⟨0, 0, 0⟩
  | [x] => if w = submitW then ⟨2, x, 0⟩ else if w = cancelW then ⟨4, x, 0⟩ else ⟨0, 0, 0⟩
  | [x, y] => if w = afterW then ⟨3, x, y⟩ else ⟨0, 0, 0⟩
  | _ => ⟨0, 0, 0⟩
/-- An op, if it may be. -/
def chk (o : O) : Option O := if fits o then some o else none
theorem chk_some {x o : O} (h : chk x = some o) : fits x = true ∧ x = o := by
  unfold chk at h
  split at h
  · rename_i hf
    injection h with h
    exact ⟨hf, h⟩
  · cases h
theorem chk_fits {x : O} (h : fits x = true) : chk x = some x := by unfold chk; rw [if_pos h]
/-- The document's op of a piece. -/
def refOp (p : List UInt8) : Option O :=
  match (pieces 32 p).tail.mapM (number 9) with
  | none => none
  | some n => chk (mkOp ((pieces 32 p).headD []) n)

/-- The document's answer. -/
def refBody (s : List UInt8) : List O × Int :=
  if 400 < s.length then ([], 2) else if s = [45] then ([], 0) else
  match (pieces 59 s).mapM refOp with
  | none => ([], 3)
  | some out => if out.length ≤ 16 then (out, 0) else ([], 3)

theorem itoa_nat (n : Nat) : Lib.itoa (n : Int) = Lib.decDigits n := by
  unfold Lib.itoa
  rw [if_neg (by omega)]; simp
theorem itoa_pos {n : Int} (h : 0 ≤ n) : ∃ m : Nat, n = m ∧ Lib.itoa n = Lib.decDigits m := by
  obtain ⟨m, rfl⟩ := Int.eq_ofNat_of_zero_le h
  exact ⟨m, rfl, itoa_nat m⟩

theorem dec_len {n k : Nat} (h : n < 10 ^ k) (hk : 0 < k) : (Lib.decDigits n).length ≤ k := by
  rw [Lib.decDigits_length]
  induction k generalizing n with
  | zero => omega
  | succ k ih =>
    by_cases h1 : n < 10
    · rw [Lib.nDigits_small h1]; omega
    · rw [Lib.nDigits_big h1]
      rw [Nat.pow_succ] at h
      rcases Nat.eq_zero_or_pos k with e | e
      · subst e; simp at h; omega
      · have := ih (n := n / 10) (by omega) e
        omega

theorem p1 {w x : List UInt8} (hw : (32 : UInt8) ∉ w) (hx : (32 : UInt8) ∉ x) : pieces 32 (w ++ 32 :: x) = [w, x] := by
  rw [pieces_app 32 w x hw, pieces_none 32 x hx]
theorem p2 {w x y : List UInt8} (hw : (32 : UInt8) ∉ w) (hx : (32 : UInt8) ∉ x) (hy : (32 : UInt8) ∉ y) : pieces 32 (w ++ 32 :: (x ++ 32 :: y)) = [w, x, y] := by
  rw [pieces_app 32 w _ hw, p1 hx hy]

theorem atoiN_dec {n : Nat} (h : n < 9223372036854775808) : atoiN (Lib.decDigits n) = n := by unfold atoiN; rw [atoi_dec h]

theorem read_told {o : O} (h : fits o = true) : read (told o) = some o := by
  obtain ⟨k, a, b⟩ := o
  simp only [fits] at h
  split at h
  · rename_i hk
    simp only [decide_eq_true_eq] at h
    obtain ⟨rfl, rfl⟩ := h
    rcases hk with rfl | rfl
    · have : told ⟨1, 0, 0⟩ = nopW := by simp [told]
      rw [this]; decide
    · have : told ⟨5, 0, 0⟩ = panicW := by simp [told]
      rw [this]; decide
  · split at h
    · rename_i h1 hk
      subst hk
      simp only [decide_eq_true_eq] at h
      obtain ⟨h0, h7, rfl⟩ := h
      obtain ⟨m, rfl, hm⟩ := itoa_pos h0
      have ht : told ⟨2, (m : Int), 0⟩ = submitW ++ 32 :: Lib.decDigits m := by simp [told, itoa_nat]
      have hp := p1 (w := submitW) (x := Lib.decDigits m) (by decide) (dec_not m 32 (by decide))
      rw [ht, read, hp]
      simp [kindOf, submitW, nopW, at', atoiN_dec (n := m) (by omega)]
    · split at h
      · rename_i h1 h2 hk
        subst hk
        simp only [decide_eq_true_eq] at h
        obtain ⟨h0, h7, h3, h4⟩ := h
        obtain ⟨m, rfl, hm⟩ := itoa_pos h0
        obtain ⟨m', rfl, hm'⟩ := itoa_pos h3
        have ht : told ⟨3, (m : Int), (m' : Int)⟩ = afterW ++ 32 :: (Lib.decDigits m ++ 32 :: Lib.decDigits m') := by simp [told, itoa_nat]
        have hp := p2 (w := afterW) (x := Lib.decDigits m) (y := Lib.decDigits m') (by decide) (dec_not m 32 (by decide)) (dec_not m' 32 (by decide))
        rw [ht, read, hp]
        simp [kindOf, submitW, nopW, afterW, at', atoiN_dec (n := m) (by omega), atoiN_dec (n := m') (by omega)]
      · split at h
        · rename_i h1 h2 h3 hk
          subst hk
          simp only [decide_eq_true_eq] at h
          obtain ⟨h0, h7, rfl⟩ := h
          obtain ⟨m, rfl, hm⟩ := itoa_pos (n := a) (by omega)
          have ht : told ⟨4, (m : Int), 0⟩ = cancelW ++ 32 :: Lib.decDigits m := by simp [told, itoa_nat]
          have hp := p1 (w := cancelW) (x := Lib.decDigits m) (by decide) (dec_not m 32 (by decide))
          rw [ht, read, hp]
          simp [kindOf, submitW, nopW, afterW, cancelW, at', atoiN_dec (n := m) (by omega)]
        · cases h

theorem ref_told {o : O} (h : fits o = true) : refOp (told o) = some o := by
  have hf := h
  obtain ⟨k, a, b⟩ := o
  simp only [fits] at h
  split at h
  · rename_i hk
    simp only [decide_eq_true_eq] at h
    obtain ⟨rfl, rfl⟩ := h
    rcases hk with rfl | rfl
    · have : told ⟨1, 0, 0⟩ = nopW := by simp [told]
      rw [this]; decide
    · have : told ⟨5, 0, 0⟩ = panicW := by simp [told]
      rw [this]; decide
  · split at h
    · rename_i h1 hk
      subst hk
      simp only [decide_eq_true_eq] at h
      obtain ⟨h0, h7, rfl⟩ := h
      obtain ⟨m, rfl, hm⟩ := itoa_pos h0
      have ht : told ⟨2, (m : Int), 0⟩ = submitW ++ 32 :: Lib.decDigits m := by simp [told, itoa_nat]
      have hp := p1 (w := submitW) (x := Lib.decDigits m) (by decide) (dec_not m 32 (by decide))
      have hn : number 9 (Lib.decDigits m) = some m := number_dec (dec_len (k := 9) (by omega) (by omega))
      rw [ht, refOp, hp]
      simp [hn, mkOp, chk_fits hf]
    · split at h
      · rename_i h1 h2 hk
        subst hk
        simp only [decide_eq_true_eq] at h
        obtain ⟨h0, h7, h3, h4⟩ := h
        obtain ⟨m, rfl, hm⟩ := itoa_pos h0
        obtain ⟨m', rfl, hm'⟩ := itoa_pos h3
        have ht : told ⟨3, (m : Int), (m' : Int)⟩ = afterW ++ 32 :: (Lib.decDigits m ++ 32 :: Lib.decDigits m') := by simp [told, itoa_nat]
        have hp := p2 (w := afterW) (x := Lib.decDigits m) (y := Lib.decDigits m') (by decide) (dec_not m 32 (by decide)) (dec_not m' 32 (by decide))
        have hn : number 9 (Lib.decDigits m) = some m := number_dec (dec_len (k := 9) (by omega) (by omega))
        have hn' : number 9 (Lib.decDigits m') = some m' := number_dec (dec_len (k := 9) (by omega) (by omega))
        rw [ht, refOp, hp]
        simp [hn, hn', mkOp, chk_fits hf]
      · split at h
        · rename_i h1 h2 h3 hk
          subst hk
          simp only [decide_eq_true_eq] at h
          obtain ⟨h0, h7, rfl⟩ := h
          obtain ⟨m, rfl, hm⟩ := itoa_pos (n := a) (by omega)
          have ht : told ⟨4, (m : Int), 0⟩ = cancelW ++ 32 :: Lib.decDigits m := by simp [told, itoa_nat]
          have hp := p1 (w := cancelW) (x := Lib.decDigits m) (by decide) (dec_not m 32 (by decide))
          have hn : number 9 (Lib.decDigits m) = some m := number_dec (dec_len (k := 9) (by omega) (by omega))
          rw [ht, refOp, hp]
          simp [hn, mkOp, chk_fits hf, show ¬ cancelW = submitW by decide]
        · cases h

theorem mapM_numbers : ∀ (l : List (List UInt8)) (n : List Nat), l.mapM (number 9) = some n → l = n.map Lib.decDigits
  | [], n, h => by simp at h; subst h; rfl
  | w :: r, n, h => by
    rw [List.mapM_cons] at h
    cases hw : number 9 w with
    | none => rw [hw] at h; cases h
    | some x =>
      cases hr : r.mapM (number 9) with
      | none => rw [hw, hr] at h; cases h
      | some y =>
        rw [hw, hr] at h
        obtain rfl : x :: y = n := by simpa using h
        rw [List.map_cons, ← (number_some hw).1, ← mapM_numbers r y hr]

/-- What the document takes for an op is an op that may be, and its own text. -/
theorem told_ref {p : List UInt8} {o : O} (h : refOp p = some o) : fits o = true ∧ told o = p := by
  unfold refOp at h
  cases hn : (pieces 32 p).tail.mapM (number 9) with
  | none => rw [hn] at h; cases h
  | some n =>
    rw [hn] at h
    have ht := mapM_numbers _ _ hn
    have hj := join_pieces 32 p
    cases hp : pieces 32 p with
    | nil => exact absurd hp (pieces_ne 32 p)
    | cons w r =>
      rw [hp] at h ht hj
      simp only [List.tail_cons, List.headD_cons] at h ht
      subst ht
      · obtain ⟨hf, rfl⟩ := chk_some h
        clear h
        refine ⟨hf, ?_⟩
        rw [← hj]
        match n, hf with
        | [], hf =>
          simp only [mkOp] at hf ⊢
          by_cases e1 : w = nopW
          · simp [e1, told, Lib.join_one]
          · by_cases e2 : w = panicW
            · rw [if_neg e1, if_pos e2]; simp [e2, told, Lib.join_one]
            · rw [if_neg e1, if_neg e2] at hf; exact absurd hf (by decide)
        | [x], hf =>
          simp only [mkOp] at hf ⊢
          by_cases e1 : w = submitW
          · simp [e1, told, join_cons_cons, Lib.join_one, itoa_nat]
          · by_cases e2 : w = cancelW
            · rw [if_neg e1, if_pos e2]; simp [e2, told, join_cons_cons, Lib.join_one, itoa_nat]
            · rw [if_neg e1, if_neg e2] at hf; exact absurd hf (by decide)
        | [x, y], hf =>
          simp only [mkOp] at hf ⊢
          by_cases e1 : w = afterW
          · simp [e1, told, join_cons_cons, Lib.join_one, itoa_nat]
          · rw [if_neg e1] at hf; exact absurd hf (by decide)
        | x :: y :: z :: t, hf =>
          simp only [mkOp] at hf
          exact absurd hf (by decide)

theorem told_no59 {o : O} (h : fits o = true) : (59 : UInt8) ∉ told o := by
  intro hm
  obtain ⟨k, a, b⟩ := o
  have hdec : ∀ n : Int, 0 ≤ n → (59 : UInt8) ∉ Lib.itoa n := fun n hn => by
    obtain ⟨m, rfl, e⟩ := itoa_pos hn
    rw [e]; exact dec_not m 59 (by decide)
  simp only [fits] at h
  split at h
  · rename_i hk
    rcases hk with rfl | rfl <;> simp [told, nopW, panicW] at hm
  · split at h
    · rename_i h1 hk
      subst hk
      simp only [decide_eq_true_eq] at h
      simp [told, submitW] at hm
      exact hdec a h.1 hm
    · split at h
      · rename_i h1 h2 hk
        subst hk
        simp only [decide_eq_true_eq] at h
        simp [told, afterW] at hm
        rcases hm with hm | hm
        · exact hdec a h.1 hm
        · exact hdec b h.2.2.1 hm
      · split at h
        · rename_i h1 h2 h3 hk
          subst hk
          simp only [decide_eq_true_eq] at h
          simp [told, cancelW] at hm
          exact hdec a (by omega) hm
        · cases h

theorem mapM_congr {α β : Type} (f g : α → Option β) : ∀ (l : List α) (out : List β), l.mapM f = some out → (∀ x y, x ∈ l → f x = some y → g x = some y) → l.mapM g = some out
  | [], out, h, _ => by simpa using h
  | x :: r, out, h, hg => by
    rw [List.mapM_cons] at h ⊢
    cases hx : f x with
    | none => rw [hx] at h; cases h
    | some y =>
      cases hr : r.mapM f with
      | none => rw [hx, hr] at h; cases h
      | some ys =>
        rw [hx, hr] at h
        rw [hg x y (by simp) hx, mapM_congr f g r ys hr (fun a b ha hb => hg a b (by simp [ha]) hb)]
        exact h

theorem mapM_all {α β : Type} (f : α → Option β) (P : β → Prop) : ∀ (l : List α) (out : List β), l.mapM f = some out → (∀ x y, x ∈ l → f x = some y → P y) → ∀ y ∈ out, P y
  | [], out, h, _, y, hy => by simp at h; subst h; cases hy
  | x :: r, out, h, hp, y, hy => by
    rw [List.mapM_cons] at h
    cases hx : f x with
    | none => rw [hx] at h; cases h
    | some z =>
      cases hr : r.mapM f with
      | none => rw [hx, hr] at h; cases h
      | some zs =>
        rw [hx, hr] at h
        obtain rfl : z :: zs = out := by simpa using h
        rcases List.mem_cons.1 hy with rfl | hy
        · exact hp x y (by simp) hx
        · exact mapM_all f P r zs hr (fun a b ha hb => hp a b (by simp [ha]) hb) y hy

theorem mapM_map_told : ∀ (l : List (List UInt8)) (out : List O), l.mapM refOp = some out → out.map told = l
  | [], out, h => by simp at h; subst h; rfl
  | x :: r, out, h => by
    rw [List.mapM_cons] at h
    cases hx : refOp x with
    | none => rw [hx] at h; cases h
    | some z =>
      cases hr : r.mapM refOp with
      | none => rw [hx, hr] at h; cases h
      | some zs =>
        rw [hx, hr] at h
        obtain rfl : z :: zs = out := by simpa using h
        rw [List.map_cons, (told_ref hx).2, mapM_map_told r zs hr]

theorem mapM_told : ∀ (out : List O), (∀ o ∈ out, fits o = true) → (out.map told).mapM refOp = some out
  | [], _ => by simp
  | o :: r, h => by
    rw [List.map_cons, List.mapM_cons, ref_told (h o (by simp)), mapM_told r (fun x hx => h x (by simp [hx]))]
    rfl

/-- THE LAW. -/
theorem parse_eq (s : List UInt8) : parse s = refBody s := by
  unfold parse refBody
  split
  · rfl
  · split
    · rfl
    · cases hr : (pieces 59 s).mapM refOp with
      | some out =>
        have h1 : (pieces 59 s).mapM read = some out := mapM_congr refOp read _ _ hr fun x y _ hy => by
          have := told_ref hy
          rw [← this.2]; exact read_told this.1
        have hall : ∀ o ∈ out, fits o = true := mapM_all refOp (fun o => fits o = true) _ _ hr fun x y _ hy => (told_ref hy).1
        have hne : out ≠ [] := by
          intro e
          have := mapM_map_told _ _ hr
          rw [e] at this
          exact pieces_ne 59 s this.symm
        have htext : textOf out = s := by
          unfold textOf
          rw [if_neg hne, mapM_map_told _ _ hr, join_pieces]
        rw [h1]
        simp only
        by_cases hl : out.length ≤ 16
        · rw [if_pos ⟨by simp [bodyOk, hl]; exact hall, htext⟩, if_pos hl]
        · rw [if_neg (fun e => by simp [bodyOk] at e; omega), if_neg hl]
      | none =>
        simp only
        cases hq : (pieces 59 s).mapM read with
        | none => rfl
        | some out =>
          simp only
          rw [if_neg]
          rintro ⟨hok, htext⟩
          simp only [bodyOk, Bool.and_eq_true, decide_eq_true_eq, List.all_eq_true] at hok
          have hne : out ≠ [] := by
            intro e
            subst e
            cases hp : pieces 59 s with
            | nil => exact pieces_ne 59 s hp
            | cons p ps =>
              rw [hp, List.mapM_cons] at hq
              cases hx : read p with
              | none => rw [hx] at hq; cases hq
              | some z =>
                cases hr2 : ps.mapM read with
                | none => rw [hx, hr2] at hq; cases hq
                | some zs => rw [hx, hr2] at hq; simp at hq
          unfold textOf at htext
          rw [if_neg hne] at htext
          have hp : pieces 59 s = out.map told := by
            rw [← htext]
            refine pieces_join 59 _ (by simpa using hne) fun p hp => ?_
            obtain ⟨o, ho, rfl⟩ := List.mem_map.1 hp
            exact told_no59 (hok.2 o ho)
          rw [hp, mapM_told out hok.2] at hr
          cases hr

end Bp
end Go.Proofs.YtllabeiadeclkaaDoor
