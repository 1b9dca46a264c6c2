/-
  What the library's functions answer, in the words of the plain laws: pieces between one byte, numbers, texts; each under the package-level variables that it reads.
-/
import Derived.Test.YtllabeiadeclkaaDoorBase
import Derived.Test.YtllabeiadeclkaaDoorBodyPure
import Derived.Test.YtllabeiadeclkaaDoorShelf
import Derived.Lib.AppendIntMem
import Derived.WalkSmall
set_option linter.unusedVariables false
set_option linter.unusedSimpArgs false
namespace Go.Proofs.YtllabeiadeclkaaDoor
open Go.RowKit

/-- The library's variables hold what they should. -/
structure Glob (w : World) : Prop where
  maxLen : ∃ m, w.cell? ⟨2, 0, none⟩ = some (.int .i64 m)
  syn : ∃ te pe, w.cell? ⟨3, 0, none⟩ = some (.iface te pe)
  rng : ∃ te pe, w.cell? ⟨4, 0, none⟩ = some (.iface te pe)
  pow : Lib.TabIs Tryd.prog w "internal/strconv.uint64pow10" .u64 Lib.pow10Tab
  big : 5 < w.heap.size

theorem Glob.below {w W : World} (h : Glob w) (hb : Below w.heap.size w W) : Glob W where
  maxLen := let ⟨m, hm⟩ := h.maxLen; ⟨m, cellk hb hm⟩
  syn := let ⟨a, b, hm⟩ := h.syn; ⟨a, b, cellk hb hm⟩
  rng := let ⟨a, b, hm⟩ := h.rng; ⟨a, b, cellk hb hm⟩
  pow := var?_below hb (show Tryd.prog.globalNamed "internal/strconv.uint64pow10" = some 5 by kernel_rfl) h.big h.pow
  big := Nat.lt_of_lt_of_le h.big hb.size

/-- A text as the model's string. -/
abbrev S (l : List UInt8) : ByteArray := ⟨l.toArray⟩
theorem S_data (s : ByteArray) : S s.data.toList = s := by cases s; simp [S]
theorem S_list (l : List UInt8) : (S l).data.toList = l := by simp
theorem S_size (l : List UInt8) : (S l).size = l.length := by simp [ByteArray.size]
theorem size_len (s : ByteArray) : s.size = s.data.toList.length := by cases s; simp [ByteArray.size]

theorem index_cons (b c : UInt8) (r : List UInt8) (h : b ≠ c) : Lib.index (b :: r) [c] = if Lib.index r [c] == -1 then -1 else Lib.index r [c] + 1 := by
  have hp : ([c] : List UInt8).isPrefixOf (b :: r) = false := by simp [List.isPrefixOf, Ne.symm h]
  rw [Lib.index, hp]; simp
theorem index_eq (c : UInt8) (r : List UInt8) : Lib.index (c :: r) [c] = 0 := by rw [Lib.index]; simp [List.isPrefixOf]

theorem split_pieces (c : UInt8) : ∀ s : List UInt8, Lib.splitK [c] 0 (Lib.count s [c]) s = Bp.pieces c s
  | [] => by
    have : Lib.count [] [c] = 0 := Lib.count_miss (by simp [Lib.index])
    rw [this]; simp [Lib.splitK, Bp.pieces]
  | b :: r => by
    have ih := split_pieces c r
    by_cases h : b = c
    · subst h
      rw [Lib.count_cons_eq, Nat.add_comm, Lib.splitK, index_eq]
      simp [Bp.pieces, ih]
    · rw [Lib.count_cons_ne b c r h]
      simp only [Bp.pieces, if_neg h]
      by_cases hm : Lib.index r [c] = -1
      · rw [Lib.count_miss hm] at ih ⊢
        simp only [Lib.splitK] at ih ⊢
        rw [← ih]
      · have hge := Lib.index_ge r [c]
        obtain ⟨j, hj⟩ : ∃ j : Nat, Lib.index r [c] = j := ⟨(Lib.index r [c]).toNat, by omega⟩
        obtain ⟨k, hk⟩ : ∃ k, Lib.count r [c] = k + 1 := ⟨Lib.count (r.drop (j + 1)) [c], by rw [Lib.count_hit (by simp) hj]; simp; omega⟩
        rw [hk] at ih ⊢
        have hi : Lib.index (b :: r) [c] = ((j + 1 : Nat) : Int) := by rw [index_cons b c r h, if_neg (fun e => hm (beq_iff_eq.1 e)), hj]; omega
        have h1 : ¬ (Lib.index r [c] == -1) = true := fun e => hm (beq_iff_eq.1 e)
        have h2 : ¬ (Lib.index (b :: r) [c] == -1) = true := fun e => by have := beq_iff_eq.1 e; omega
        rw [Lib.splitK, if_neg h1, hj] at ih
        rw [Lib.splitK, if_neg h2, hi, ← ih]
        simp

theorem splitB_pieces (c : UInt8) (s : ByteArray) : (Lib.splitB (S [c]) 0 (Lib.countB s (S [c])) s).map (·.data.toList) = Bp.pieces c s.data.toList := by
  rw [Lib.splitB_data, S_list]
  exact split_pieces c s.data.toList

/-- strings.Split at one byte. -/
theorem split_any (s : ByteArray) (c : UInt8) (w : World) (G : Glob w) (hs : s.size ≤ 4294967280) :
    Calls Tryd.prog 24 #[.string s, .string (S [c])] w fun e w' =>
      e = .returned (.slice (some ⟨w.heap.size, 0, none⟩) (Bp.pieces c s.data.toList).length (Bp.pieces c s.data.toList).length) ∧
      w' = w.alloc (.cells ((Bp.pieces c s.data.toList).map fun l => Value.string (S l)).toArray 9) := by
  obtain ⟨m, hm⟩ := G.maxLen
  refine (Tryd.strings_Split s (S [c]) m w (by omega) hm (by simp [S_size])).mono ?_
  rintro e w' ⟨rfl, rfl⟩
  have hp := splitB_pieces c s
  have hl : (Lib.splitB (S [c]) 0 (Lib.countB s (S [c])) s).length = Lib.countB s (S [c]) + 1 := Lib.splitB_all (S [c]) (by simp [S_size]) 0 _ s rfl
  have hl2 : (Bp.pieces c s.data.toList).length = Lib.countB s (S [c]) + 1 := by rw [← hp, List.length_map, hl]
  refine ⟨by rw [hl2], ?_⟩
  rw [← hp, List.map_map]
  congr 4

/-- strconv.Atoi: the number (0, or the greatest, beside an error), and some error or none. -/
theorem atoi_any (s : ByteArray) (w : World) (G : Glob w) (hs : s.size ≤ 281474976710656) :
    Calls Tryd.prog 32 #[.string s] w fun e w' => (∃ v, e = .returned (.tuple #[.int .i64 (Bp.atoiN s.data.toList), v])) ∧ Below w.heap.size w w' := by
  cases h : Lib.atoiAll s.data.toList
  case ok v =>
    refine (Tryd.strconv_Atoi_ok s (by omega) v h w).mono ?_
    rintro e w' ⟨rfl, hw⟩
    refine ⟨⟨_, by rw [Bp.atoiN, h]⟩, ?_⟩
    rcases hw with rfl | ⟨t, rfl⟩
    · exact bl0 _
    · exact ⟨rfl, rfl, rfl, by rw [Lib.bytesWorld_size]; omega, fun i hi => Lib.bytesWorld_at_old w _ t i hi⟩
  case range =>
    obtain ⟨te, pe, hv⟩ := G.rng
    refine (Tryd.strconv_Atoi_range s hs h _ w hv (.inr ⟨_, _, rfl⟩)).mono ?_
    rintro e w' ⟨N, rfl, _, _, hb⟩
    exact ⟨⟨_, by rw [Bp.atoiN, h]⟩, hb⟩
  · obtain ⟨te, pe, hv⟩ := G.syn
    refine (Any.strconv_Atoi_syntax Tryd.laysC172 s hs h _ w hv (.inr ⟨_, _, rfl⟩)).mono ?_
    rintro e w' ⟨N, rfl, _, _, hb⟩
    exact ⟨⟨_, by rw [Bp.atoiN, h]⟩, hb⟩

/-- strconv.Itoa. -/
theorem itoa_any (n : Int) (w : World) (G : Glob w) (h0 : -9223372036854775808 ≤ n) (h1 : n ≤ 9223372036854775807) :
    Calls Tryd.prog 45 #[.int .i64 n] w fun e w' => e = .returned (.string (S (Lib.itoa n))) ∧ Below w.heap.size w w' := by
  refine (Tryd.strconv_Itoa n h0 h1 w G.pow).mono ?_
  rintro e w' ⟨rfl, k, os, rfl⟩
  exact ⟨rfl, Lib.below_grow _ w (Nat.le_refl _) k os⟩

/-- A slice of strings that is read. -/
def StrsAt (w : World) (A : Option Addr) (l : List (List UInt8)) : Prop :=
  0 < l.length → ∃ b o, A = some ⟨b, o, none⟩ ∧ b < w.heap.size ∧ ∀ (j : Nat) x, l[j]? = some x → w.cell? ⟨b, o + j, none⟩ = some (.string (S x))

/-- strings.Join. -/
theorem join_any (A : Option Addr) (c : Nat) (l : List (List UInt8)) (sep : List UInt8) (w : World) (h : StrsAt w A l) (hc : l.length ≤ c) (hlen : (Lib.join l sep).length ≤ 140737488355328) (hN : l.length ≤ 140737488355328) :
    Calls Tryd.prog 36 #[.slice A l.length c, .string (S sep)] w fun e w' => e = .returned (.string (S (Lib.join l sep))) ∧ Below w.heap.size w w' := by
  rcases Nat.eq_zero_or_pos l.length with h0 | h0
  · obtain rfl : l = [] := List.eq_nil_of_length_eq_zero h0
    refine (Tryd.strings_Join_none A c (S sep) w).mono ?_
    rintro e w' ⟨rfl, rfl⟩
    exact ⟨by simp [S, Lib.join_nil], bl0 _⟩
  · obtain ⟨b, o, rfl, hb, hcell⟩ := h h0
    have e1 : (l.map S).map (·.data.toList) = l := by rw [List.map_map]; exact (List.map_congr_left fun x _ => S_list x).trans (List.map_id l)
    have := Tryd.strings_Join b o c (l.map S) (S sep) w (fun j x hx => by
      rw [List.getElem?_map] at hx
      obtain ⟨y, hy, rfl⟩ := Option.map_eq_some_iff.1 hx
      exact hcell j y hy) hb (by simpa using hN) (by simpa using hc) (by rw [e1, S_list]; exact hlen)
    rw [e1, S_list, List.length_map] at this
    exact this

/-- strings.Index of one byte. -/
theorem index_any (s : ByteArray) (c : UInt8) (w : World) :
    Calls Tryd.prog 50 #[.string s, .string (S [c])] w fun e w' => e = .returned (.int .i64 (Lib.indexByte s.data.toList c)) ∧ w = w' :=
  (Tryd.strings_Index_one s c w).mono fun _ _ h => ⟨h.1, h.2.symm⟩
end Go.Proofs.YtllabeiadeclkaaDoor
