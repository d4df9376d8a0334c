/- The pure statement of FnRetired and what it needs. Conditions: those that each theorem states. -/
import Derived.Test.YtemdjfiimgjiaaaVFnRetired4
import Derived.RowKit
namespace Go.Proofs.Ytemdjfiimgjiaaa.Pb
open Go.RowKit Go.Proofs.YtemdjfiimgjiaaaW.PrintWords

theorem w64 {x : Int} (h0 : -9223372036854775808 ≤ x) (h1 : x ≤ 9223372036854775807) : wrap64 x = x := by
 unfold wrap64
 omega

theorem rd_at (l : List Int) (i : Nat) (h : i < l.length) : rd l (i : Int) = l[i] := by
 simp [rd, List.getD_eq_getElem?_getD, List.getElem?_eq_getElem h]

theorem drop_cons {α : Type} (l : List α) (i : Nat) (h : i < l.length) : l.drop i = l[i] :: l.drop (i + 1) := List.drop_eq_getElem_cons h


end Go.Proofs.Ytemdjfiimgjiaaa.Pb
namespace Go.Proofs.Ytemdjfiimgjiaaa.M
set_option linter.unusedVariables false
set_option linter.unusedSimpArgs false
open Go.RowKit Go.Proofs.YtemdjfiimgjiaaaW.PrintWords Go.Proofs.Ytemdjfiimgjiaaa.Pb

/-- All of a list within bounds. -/
def inB (a b x : Int) : Bool := decide (a ≤ x) && decide (x ≤ b)

theorem in_eq (x a b : Int) : impl_in.f x a b = some (inB a b x) := by
 unfold impl_in.f inB
 by_cases h : a ≤ x
 ·rw [if_pos h, decide_eq_true h, Bool.true_and]
 ·rw [if_neg h, decide_eq_false h, Bool.false_and]

theorem index_l0 (l : List Int) (x : Int) (hl : l.length ≤ 4000000) (d : Nat) : ∀ (k i : Nat), i + d = l.length → d < k → ∃ r, slices_Index_int_int.l0 k l x (l.length : Int) (i : Int) = some r ∧ decide (r ≥ 0) = decide (x ∈ l.drop i) := by
 induction d with
 | zero =>
  intro k i hi hk
  obtain ⟨k, rfl⟩ : ∃ m, k = m + 1 := ⟨k - 1, by omega⟩
  refine ⟨-1, ?_, ?_⟩
  ·simp only [slices_Index_int_int.l0]
   rw [if_neg (by omega)]
  ·rw [List.drop_of_length_le (by omega)]
   simp
 | succ d ih =>
  intro k i hi hk
  obtain ⟨k, rfl⟩ : ∃ m, k = m + 1 := ⟨k - 1, by omega⟩
  simp only [slices_Index_int_int.l0]
  rw [if_pos (by omega), if_pos (by omega), if_pos (by omega), rd_at l i (by omega), drop_cons l i (by omega)]
  by_cases h : x = l[i]
  ·rw [if_pos h]
   exact ⟨(i : Int), rfl, by simp [← h]⟩
  ·rw [if_neg h, w64 (by omega) (by omega), show ((i : Int) + 1) = ((i + 1 : Nat) : Int) from by omega]
   obtain ⟨r, h1, h2⟩ := ih k (i + 1) (by omega) (by omega)
   exact ⟨r, h1, by rw [h2]; simp [-List.getElem_cons_drop, h]⟩
theorem contains_eq {k : Nat} {l : List Int} {x : Int} (hl : l.length ≤ 4000000) (hk : l.length < k) : slices_Contains_int_int.f k l x = some (decide (x ∈ l)) := by
 unfold slices_Contains_int_int.f slices_Index_int_int.f
 obtain ⟨r, h1, h2⟩ := index_l0 l x hl l.length k 0 (by omega) hk
 rw [show ((0 : Nat) : Int) = 0 from rfl] at h1
 rw [h1, Option.bind_some, h2, List.drop_zero]

/-- A value. -/
def valB (x : Int) : Bool := inB (-1000000000) 1000000000 x
theorem isValue_eq (x : Int) : impl_isValue.f x = some (valB x) := by
 unfold impl_isValue.f valB
 rw [in_eq]
 rfl
theorem areV_l0 (l : List Int) (hl : l.length ≤ 4000000) (d : Nat) : ∀ (k i : Nat), i + d = l.length → d < k → ∃ r, slices_IndexFunc_int_int_F99.l0 k l (l.length : Int) (i : Int) = some r ∧ decide (r ≥ 0) = !((l.drop i).all valB) := by
 induction d with
 | zero =>
  intro k i hi hk
  obtain ⟨k, rfl⟩ : ∃ m, k = m + 1 := ⟨k - 1, by omega⟩
  refine ⟨-1, ?_, ?_⟩
  ·simp only [slices_IndexFunc_int_int_F99.l0]
   rw [if_neg (by omega)]
  ·rw [List.drop_of_length_le (by omega)]
   simp
 | succ d ih =>
  intro k i hi hk
  obtain ⟨k, rfl⟩ : ∃ m, k = m + 1 := ⟨k - 1, by omega⟩
  simp only [slices_IndexFunc_int_int_F99.l0, impl_areValues_1.f, isValue_eq, Option.bind_some]
  rw [if_pos (by omega), if_pos (by omega), if_pos (by omega), rd_at l i (by omega), drop_cons l i (by omega), List.all_cons]
  cases h : valB l[i] with
  | false =>
   rw [if_pos (by rfl)]
   refine ⟨(i : Int), rfl, ?_⟩
   rw [decide_eq_true (by omega)]
   rfl
  | true =>
   rw [if_neg (by decide), w64 (by omega) (by omega), show ((i : Int) + 1) = ((i + 1 : Nat) : Int) from by omega]
   obtain ⟨r, h1, h2⟩ := ih k (i + 1) (by omega) (by omega)
   exact ⟨r, h1, by rw [h2]; rfl⟩
theorem areValues_eq {k : Nat} {l : List Int} (hl : l.length ≤ 4000000) (hk : l.length < k) : impl_areValues.f k l = some (l.all valB) := by
 unfold impl_areValues.f slices_ContainsFunc_int_int_F99.f slices_IndexFunc_int_int_F99.f
 obtain ⟨r, h1, h2⟩ := areV_l0 l hl l.length k 0 (by omega) hk
 rw [show ((0 : Nat) : Int) = 0 from rfl] at h1
 rw [h1, Option.bind_some, Option.bind_some, h2, List.drop_zero, Bool.not_not]


end Go.Proofs.Ytemdjfiimgjiaaa.M
namespace Go.Proofs.Ytemdjfiimgjiaaa.M
set_option linter.unusedVariables false
set_option linter.unusedSimpArgs false
open Go.RowKit Go.Proofs.YtemdjfiimgjiaaaW.PrintWords Go.Proofs.Ytemdjfiimgjiaaa.Pb

theorem rdB_set (l : List S77) (i : Nat) (y : S77) (h : i < l.length) : rd_T77 (l.set i y) (i : Int) = y := by
 simp [rd_T77, List.getD_eq_getElem?_getD, h]
theorem w12 : wrap64 ((1 : Int) + 1) = 2 := w64 (by decide) (by decide)
theorem w23 : wrap64 ((2 : Int) + 1) = 3 := w64 (by decide) (by decide)

end Go.Proofs.Ytemdjfiimgjiaaa.M
namespace Go.Proofs.Ytemdjfiimgjiaaa.M
set_option linter.unusedVariables false
set_option linter.unusedSimpArgs false
open Go.RowKit Go.Proofs.YtemdjfiimgjiaaaW.PrintWords Go.Proofs.Ytemdjfiimgjiaaa.Pb

def okB (b : S77) : Bool := inB 0 5 b.f0 && (!(!b.f1 && b.f0 == 5) && (valB b.f2.f0 && (valB b.f2.f1 && valB b.f2.f2)))
def listedB (b : S77) : Bool := b.f1 && decide (b.f0 < 5)
theorem isListed_eq (b : S77) : impl_isListed.f b.f0 b.f1 b.f2.f0 b.f2.f1 b.f2.f2 = some (listedB b) := by
 unfold impl_isListed.f listedB
 cases b.f1 <;> simp
/-- The list from place j on. -/
def lsR (B : List S77) (L : List Int) (c : Int) : Nat → Nat → Bool
 | _, 0 => (L.length : Int) == c
 | j, d + 1 => inB 0 ((B.length : Int) - 1) (rd L j) && (listedB (rd_T77 B (rd L j)) && (!decide (rd L j ∈ L.take j) && lsR B L c (j + 1) d))
/-- The blocks from i on, then the list. -/
def arR (B : List S77) (L : List Int) : Nat → Nat → Int → Bool
 | _, 0, c => lsR B L c 0 L.length
 | i, d + 1, c => okB (rd_T77 B i) && arR B L (i + 1) d (if listedB (rd_T77 B i) = true then c + 1 else c)
def arOk (B : List S77) (L : List Int) : Bool := inB 1 24 (B.length : Int) && arR B L 0 B.length 0
theorem inB_iff {a b x : Int} : inB a b x = true ↔ a ≤ x ∧ x ≤ b := by
 unfold inB
 simp
theorem implArena_l1 (B : List S77) (L : List Int) (c : Int) (hB : B.length ≤ 4000000) (hL : L.length ≤ 4000000) (d : Nat) : ∀ (k j : Nat), j + d = L.length → d + L.length < k → impl_ArenaOk.l1 k c L (L.length : Int) (j : Int) B L = some (lsR B L c j d) := by
 induction d with
 | zero =>
  intro k j hj hk
  obtain ⟨k, rfl⟩ : ∃ m, k = m + 1 := ⟨k - 1, by omega⟩
  rw [impl_ArenaOk.l1, if_neg (by omega)]
  rfl
 | succ d ih =>
  intro k j hj hk
  obtain ⟨k, rfl⟩ : ∃ m, k = m + 1 := ⟨k - 1, by omega⟩
  have ih1 := ih k (j + 1) (by omega) (by omega)
  rw [impl_ArenaOk.l1, if_pos (by omega), if_pos (by omega), if_pos (by omega), w64 (x := (B.length : Int) - 1) (by omega) (by omega), in_eq, Option.bind_some]
  simp only [lsR]
  cases h : inB 0 ((B.length : Int) - 1) (rd L j) with
  | false => rw [if_neg Bool.false_ne_true, Bool.false_and]
  | true =>
   have h1 := inB_iff.1 h
   rw [if_pos rfl, Bool.true_and, if_pos (by omega), if_pos (by omega), isListed_eq, Option.bind_some]
   cases listedB (rd_T77 B (rd L j)) with
   | false => rw [if_neg Bool.false_ne_true, Bool.false_and]
   | true =>
    rw [if_pos rfl, Bool.true_and, if_pos (by omega), Int.toNat_natCast, contains_eq (by rw [List.length_take]; omega) (by rw [List.length_take]; omega), Option.bind_some]
    cases decide (rd L j ∈ L.take j) with
    | true => rw [if_pos rfl]; rfl
    | false => rw [if_neg Bool.false_ne_true, w64 (by omega) (by omega), show ((j : Int) + 1) = ((j + 1 : Nat) : Int) from by omega, ih1]; rfl
theorem implArena_l0 (B : List S77) (L : List Int) (hB : B.length ≤ 4000000) (hL : L.length ≤ 4000000) (d : Nat) : ∀ (k i : Nat) (c : Int), i + d = B.length → 2 * d + 2 * L.length + 4 < k → 0 ≤ c → c ≤ i → impl_ArenaOk.l0 k c B (B.length : Int) (i : Int) B L = some (arR B L i d c) := by
 induction d with
 | zero =>
  intro k i c hi hk h0 h1
  obtain ⟨k, rfl⟩ : ∃ m, k = m + 1 := ⟨k - 1, by omega⟩
  have h := implArena_l1 B L c hB hL L.length k 0 (by omega) (by omega)
  rw [impl_ArenaOk.l0, if_neg (by omega)]
  exact h
 | succ d ih =>
  intro k i c hi hk h0 h1
  obtain ⟨k, rfl⟩ : ∃ m, k = m + 2 := ⟨k - 2, by omega⟩
  have ihA := ih k (i + 1) (c + 1) (by omega) (by omega) (by omega) (by omega)
  have ihB := ih k (i + 1) c (by omega) (by omega) (by omega) (by omega)
  have j1f : ∀ x : S77, impl_ArenaOk.j1 (k + 1) c B (B.length : Int) (i : Int) true B L x.f0 x.f1 x.f2.f0 x.f2.f1 x.f2.f2 = some false := by
   intro x
   rw [impl_ArenaOk.j1, if_pos rfl]
  have j1t : ∀ x : S77, impl_ArenaOk.j1 (k + 1) c B (B.length : Int) (i : Int) false B L x.f0 x.f1 x.f2.f0 x.f2.f1 x.f2.f2 = some (arR B L (i + 1) d (if listedB x = true then c + 1 else c)) := by
   intro x
   rw [impl_ArenaOk.j1, if_neg Bool.false_ne_true, isListed_eq, Option.bind_some, w64 (x := c + 1) (by omega) (by omega), w64 (x := (i : Int) + 1) (by omega) (by omega), show ((i : Int) + 1) = ((i + 1 : Nat) : Int) from by omega, ihA, ihB]
   split <;> rfl
  rw [impl_ArenaOk.l0, if_pos (by omega), if_pos (by omega), if_pos (by omega), in_eq, Option.bind_some]
  simp only [arR]
  generalize rd_T77 B (i : Int) = x
  rw [areValues_eq (by simp) (by simp; omega), Option.bind_some, j1f]
  have hv : ([x.f2.f0, x.f2.f1, x.f2.f2] : List Int).all valB = (valB x.f2.f0 && (valB x.f2.f1 && valB x.f2.f2)) := by simp [Bool.and_assoc]
  rw [hv]
  unfold okB
  cases inB 0 5 x.f0 with
  | false => rw [if_neg Bool.false_ne_true, Bool.false_and, Bool.false_and]
  | true =>
   rw [if_pos rfl, Bool.true_and]
   have hv2 : impl_ArenaOk.j1 (k + 1) c B (B.length : Int) (i : Int) (!(valB x.f2.f0 && (valB x.f2.f1 && valB x.f2.f2))) B L x.f0 x.f1 x.f2.f0 x.f2.f1 x.f2.f2 = some ((valB x.f2.f0 && (valB x.f2.f1 && valB x.f2.f2)) && arR B L (i + 1) d (if listedB x = true then c + 1 else c)) := by
    cases (valB x.f2.f0 && (valB x.f2.f1 && valB x.f2.f2)) with
    | false => rw [Bool.not_false, j1f, Bool.false_and]
    | true => rw [Bool.not_true, j1t, Bool.true_and]
   rw [hv2]
   cases h1 : x.f1 with
   | true => rw [if_pos rfl, Bool.not_true, Bool.false_and, Bool.not_false, Bool.true_and]
   | false =>
    rw [if_neg Bool.false_ne_true]
    by_cases h5 : x.f0 = 5
    ·rw [if_pos h5, h5]
     rfl
    ·rw [if_neg h5, Bool.not_false, Bool.true_and, show (x.f0 == 5) = false from by simpa using h5, Bool.not_false, Bool.true_and]
theorem implArena_eq {k : Nat} {B : List S77} {L : List Int} (hB : B.length ≤ 4000000) (hL : L.length ≤ 4000000) (hk : 2 * B.length + 2 * L.length + 4 < k) : impl_ArenaOk.f k B L = some (arOk B L) := by
 unfold impl_ArenaOk.f arOk
 rw [in_eq, Option.bind_some]
 have h := implArena_l0 B L hB hL B.length k 0 0 (by omega) hk (by omega) (by omega)
 rw [show ((0 : Nat) : Int) = 0 from rfl] at h
 cases inB 1 24 (B.length : Int) with
 | false => rw [if_neg Bool.false_ne_true, Bool.false_and]
 | true => rw [if_pos rfl, Bool.true_and, h]

end Go.Proofs.Ytemdjfiimgjiaaa.M
namespace Go.Proofs.Ytemdjfiimgjiaaa.M
set_option linter.unusedVariables false
set_option linter.unusedSimpArgs false
open Go.RowKit Go.Proofs.YtemdjfiimgjiaaaW.PrintWords Go.Proofs.Ytemdjfiimgjiaaa.Pb

theorem w8 {h : Int} (h0 : 0 ≤ h) (h1 : h ≤ 9223372036854775807) : wrap64 (Int.tdiv h 8) = h / 8 := by
 rw [Int.tdiv_eq_ediv_of_nonneg h0, w64 (by omega) (by omega)]
def liveB (B : List S77) (L : List Int) (h : Int) : Bool := arOk B L && (inB 0 (8 * (B.length : Int) - 1) h && (!(rd_T77 B (h / 8)).f1 && ((rd_T77 B (h / 8)).f0 == h % 8)))
theorem implLive_eq {k : Nat} {B : List S77} {L : List Int} {h : Int} (hB : B.length ≤ 4000000) (hL : L.length ≤ 4000000) (hk : 2 * B.length + 2 * L.length + 4 < k) : impl_Live.f k B L h = some (liveB B L h) := by
 unfold impl_Live.f liveB
 rw [implArena_eq hB hL hk, Option.bind_some, w64 (x := 8 * (B.length : Int)) (by omega) (by omega), w64 (x := 8 * (B.length : Int) - 1) (by omega) (by omega), in_eq, Option.bind_some]
 cases arOk B L with
 | false => rw [if_neg Bool.false_ne_true, Bool.false_and]
 | true =>
  rw [if_pos rfl, Bool.true_and]
  cases hi : inB 0 (8 * (B.length : Int) - 1) h with
  | false => rw [if_neg Bool.false_ne_true, Bool.false_and]
  | true =>
   have h1 := inB_iff.1 hi
   rw [if_pos rfl, Bool.true_and, w8 h1.1 (by omega), Int.tmod_eq_emod_of_nonneg h1.1, if_pos (by omega), if_pos (by omega)]
   cases (rd_T77 B (h / 8)).f1 <;> rfl
theorem liveB_rng {B : List S77} {L : List Int} {h : Int} (hb : liveB B L h = true) : 0 ≤ h ∧ h ≤ 8 * (B.length : Int) - 1 := by
 unfold liveB at hb
 simp only [Bool.and_eq_true] at hb
 exact inB_iff.1 hb.2.1
theorem liveB_gen {B : List S77} {L : List Int} {h : Int} (hb : liveB B L h = true) : (rd_T77 B (h / 8)).f0 = h % 8 := by
 unfold liveB at hb
 simp only [Bool.and_eq_true] at hb
 exact by simpa using hb.2.2.2

theorem own_eq {l : List Int} (hl : l.length ≤ 4000000) : impl_own.f l = some l := by
 unfold impl_own.f
 rw [Option.bind_some, if_pos (by simp only [List.length_nil]; omega), List.nil_append]
theorem ownArena_eq {B : List S77} {L : List Int} (hB : B.length ≤ 4000000) (hL : L.length ≤ 4000000) : impl_ownArena.f B L = some (B, L) := by
 unfold impl_ownArena.f
 rw [Option.bind_some, if_pos (by simp only [List.length_nil]; omega), own_eq hL, Option.bind_some, List.nil_append]

end Go.Proofs.Ytemdjfiimgjiaaa.M
namespace Go.Proofs.Ytemdjfiimgjiaaa.M
set_option linter.unusedSimpArgs false
open Go.RowKit Go.Proofs.YtemdjfiimgjiaaaW.PrintWords Go.Proofs.Ytemdjfiimgjiaaa.Pb

theorem rdT41_at (l : List S41) (i : Nat) (h : i < l.length) : rd_T41 l (i : Int) = l[i] := by
 simp [rd_T41, List.getD_eq_getElem?_getD, List.getElem?_eq_getElem h]

end Go.Proofs.Ytemdjfiimgjiaaa.M
namespace Go.Proofs.Ytemdjfiimgjiaaa.M
set_option linter.unusedVariables false
set_option linter.unusedSimpArgs false
open Go.RowKit Go.Proofs.YtemdjfiimgjiaaaW.PrintWords Go.Proofs.Ytemdjfiimgjiaaa.Pb

def hasG (l : List S41) (x : Int) : Bool := l.any (fun g => g.f0 == x)
theorem ret_l0 (l : List S41) (x : Int) (hl : l.length ≤ 4000000) (d : Nat) : ∀ (k i : Nat), i + d = l.length → d < k → ∃ r, impl_Gone_F86c900001_102.l0 k l (l.length : Int) (i : Int) x = some r ∧ decide (r ≥ 0) = hasG (l.drop i) x := by
 induction d with
 | zero =>
  intro k i hi hk
  obtain ⟨k, rfl⟩ : ∃ m, k = m + 1 := ⟨k - 1, by omega⟩
  refine ⟨-1, ?_, ?_⟩
  ·rw [impl_Gone_F86c900001_102.l0, if_neg (by omega)]
  ·rw [List.drop_of_length_le (by omega)]
   rfl
 | succ d ih =>
  intro k i hi hk
  obtain ⟨k, rfl⟩ : ∃ m, k = m + 1 := ⟨k - 1, by omega⟩
  rw [impl_Gone_F86c900001_102.l0, if_pos (by omega), if_pos (by omega), if_pos (by omega), impl_isRetired_1_c2.f, Option.bind_some, rdT41_at l i (by omega), drop_cons l i (by omega)]
  by_cases h : l[i].f0 = x
  ·rw [if_pos (by simpa using h)]
   refine ⟨(i : Int), rfl, ?_⟩
   rw [decide_eq_true (by omega)]
   simp only [hasG, List.any_cons]
   rw [show (l[i].f0 == x) = true from by simpa using h, Bool.true_or]
  ·rw [if_neg (by simpa using h), w64 (by omega) (by omega), show ((i : Int) + 1) = ((i + 1 : Nat) : Int) from by omega]
   obtain ⟨r, h1, h2⟩ := ih k (i + 1) (by omega) (by omega)
   refine ⟨r, h1, ?_⟩
   rw [h2]
   simp only [hasG, List.any_cons]
   rw [show (l[i].f0 == x) = false from by simpa using h, Bool.false_or]
theorem isRetired_eq {k : Nat} {l : List S41} {x : Int} (hl : l.length ≤ 4000000) (hk : l.length < k) : impl_isRetired.f k l x = some (hasG l x) := by
 unfold impl_isRetired.f impl_Gone_F86c900001.f impl_Gone_F86c900001_102.f
 obtain ⟨r, h1, h2⟩ := ret_l0 l x hl l.length k 0 (by omega) hk
 rw [show ((0 : Nat) : Int) = 0 from rfl] at h1
 rw [List.drop_zero] at h2
 rw [h1, Option.bind_some, Option.bind_some, h2]
theorem pins_l0 (l : List Int) (p : Int) (hl : l.length ≤ 4000000) (d : Nat) : ∀ (k i : Nat), i + d = l.length → d < k → ∃ r, slices_IndexFunc_int_int_F46c900002.l0 k l (l.length : Int) (i : Int) p = some r ∧ decide (r ≥ 0) = !((l.drop i).all (inB (-1) p)) := by
 induction d with
 | zero =>
  intro k i hi hk
  obtain ⟨k, rfl⟩ : ∃ m, k = m + 1 := ⟨k - 1, by omega⟩
  refine ⟨-1, ?_, ?_⟩
  ·rw [slices_IndexFunc_int_int_F46c900002.l0, if_neg (by omega)]
  ·rw [List.drop_of_length_le (by omega)]
   rfl
 | succ d ih =>
  intro k i hi hk
  obtain ⟨k, rfl⟩ : ∃ m, k = m + 1 := ⟨k - 1, by omega⟩
  rw [slices_IndexFunc_int_int_F46c900002.l0, if_pos (by omega), if_pos (by omega), if_pos (by omega), impl_YardOk_1_c2.f, in_eq, Option.bind_some, Option.bind_some, rd_at l i (by omega), drop_cons l i (by omega), List.all_cons]
  cases h : inB (-1) p l[i] with
  | false =>
   rw [if_pos (by rfl)]
   refine ⟨(i : Int), rfl, ?_⟩
   rw [decide_eq_true (by omega)]
   rfl
  | true =>
   rw [if_neg (by decide), w64 (by omega) (by omega), show ((i : Int) + 1) = ((i + 1 : Nat) : Int) from by omega]
   obtain ⟨r, h1, h2⟩ := ih k (i + 1) (by omega) (by omega)
   exact ⟨r, h1, by rw [h2]; rfl⟩
theorem pins_eq {k : Nat} {l : List Int} {p : Int} (hl : l.length ≤ 4000000) (hk : l.length < k) : slices_ContainsFunc_int_int_F46c900002.f k l p = some (!(l.all (inB (-1) p))) := by
 unfold slices_ContainsFunc_int_int_F46c900002.f slices_IndexFunc_int_int_F46c900002.f
 obtain ⟨r, h1, h2⟩ := pins_l0 l p hl l.length k 0 (by omega) hk
 rw [show ((0 : Nat) : Int) = 0 from rfl] at h1
 rw [h1, Option.bind_some, h2, List.drop_zero]

/-- The retired handles from i on. -/
def goR (B : List S77) (L : List Int) (R : List S41) (p : Int) : Nat → Nat → Int → Bool
 | _, 0, _ => true
 | i, d + 1, c => inB c p (rd_T41 R i).f1 && (liveB B L (rd_T41 R i).f0 && (!hasG (R.take i) (rd_T41 R i).f0 && goR B L R p (i + 1) d (rd_T41 R i).f1))
def yardB (B : List S77) (L Q : List Int) (R : List S41) (p : Int) : Bool :=
 arOk B L && (inB 1 6 (Q.length : Int) && (inB 0 1000000 p && (!decide ((R.length : Int) > 24) && (Q.all (inB (-1) p) && goR B L R p 0 R.length 0))))
theorem implYard_l0 (B : List S77) (L Q : List Int) (R : List S41) (p : Int) (hB : B.length ≤ 4000000) (hL : L.length ≤ 4000000) (hR : R.length ≤ 4000000) (d : Nat) : ∀ (k i : Nat) (c : Int), i + d = R.length → d + R.length + 2 * B.length + 2 * L.length + 6 < k →
  impl_YardOk.l0 k c R (R.length : Int) (i : Int) B L Q R p = some (goR B L R p i d c) := by
 induction d with
 | zero =>
  intro k i c hi hk
  obtain ⟨k, rfl⟩ : ∃ m, k = m + 1 := ⟨k - 1, by omega⟩
  rw [impl_YardOk.l0, if_neg (by omega)]
  rfl
 | succ d ih =>
  intro k i c hi hk
  obtain ⟨k, rfl⟩ : ∃ m, k = m + 1 := ⟨k - 1, by omega⟩
  have ih1 := ih k (i + 1) (rd_T41 R i).f1 (by omega) (by omega)
  rw [impl_YardOk.l0, if_pos (by omega), if_pos (by omega), if_pos (by omega), in_eq, Option.bind_some]
  simp only [goR]
  cases inB c p (rd_T41 R i).f1 with
  | false => rw [if_neg Bool.false_ne_true, Bool.false_and]
  | true =>
   rw [if_pos rfl, Bool.true_and, implLive_eq hB hL (by omega), Option.bind_some]
   cases liveB B L (rd_T41 R i).f0 with
   | false => rw [if_neg Bool.false_ne_true, Bool.false_and]
   | true =>
    rw [if_pos rfl, Bool.true_and, if_pos (by omega), Int.toNat_natCast, isRetired_eq (by rw [List.length_take]; omega) (by rw [List.length_take]; omega), Option.bind_some]
    cases hasG (R.take i) (rd_T41 R i).f0 with
    | true => rw [if_pos rfl]; rfl
    | false => rw [if_neg Bool.false_ne_true, w64 (by omega) (by omega), show ((i : Int) + 1) = ((i + 1 : Nat) : Int) from by omega, ih1]; rfl
theorem implYard_eq {k : Nat} {B : List S77} {L Q : List Int} {R : List S41} {p : Int} (hB : B.length ≤ 4000000) (hL : L.length ≤ 4000000) (hQ : Q.length ≤ 4000000) (hR : R.length ≤ 4000000) (hk : 2 * R.length + 2 * B.length + 2 * L.length + Q.length + 10 < k) :
  impl_YardOk.f k B L Q R p = some (yardB B L Q R p) := by
 obtain ⟨k, rfl⟩ : ∃ m, k = m + 1 := ⟨k - 1, by omega⟩
 have hl := implYard_l0 B L Q R p hB hL hR R.length k 0 0 (by omega) (by omega)
 rw [show ((0 : Nat) : Int) = 0 from rfl] at hl
 unfold impl_YardOk.f yardB
 rw [implArena_eq hB hL (by omega), Option.bind_some, in_eq, Option.bind_some, in_eq, Option.bind_some]
 have j0t : impl_YardOk.j0 (k + 1) true B L Q R p = some false := by rw [impl_YardOk.j0, if_pos rfl]
 rw [j0t]
 cases arOk B L with
 | false => rw [if_neg Bool.false_ne_true, Bool.false_and]
 | true =>
  rw [if_pos rfl, Bool.true_and]
  cases inB 1 6 (Q.length : Int) with
  | false => rw [if_neg Bool.false_ne_true, Bool.false_and]
  | true =>
   rw [if_pos rfl, Bool.true_and]
   cases inB 0 1000000 p with
   | false => rw [if_neg Bool.false_ne_true, Bool.false_and]
   | true =>
    rw [if_pos rfl, Bool.true_and]
    cases decide ((R.length : Int) > 24) with
    | true => rw [j0t]; rfl
    | false =>
     rw [impl_YardOk.j0, if_neg Bool.false_ne_true, pins_eq hQ (by omega), Option.bind_some, Bool.not_false, Bool.true_and]
     cases Q.all (inB (-1) p) with
     | false => rw [Bool.not_false, if_pos rfl, Bool.false_and]
     | true => rw [Bool.not_true, if_neg Bool.false_ne_true, hl, Bool.true_and]

end Go.Proofs.Ytemdjfiimgjiaaa.M
namespace Go.Proofs.Ytemdjfiimgjiaaa.M
set_option linter.unusedVariables false
set_option linter.unusedSimpArgs false
open Go.RowKit Go.Proofs.YtemdjfiimgjiaaaW.PrintWords Go.Proofs.Ytemdjfiimgjiaaa.Pb

/-- The listed places from i on. -/
def lpR (B : List S77) : Nat → Nat → List Int
 | _, 0 => []
 | i, d + 1 => if listedB (rd_T77 B i) = true then (i : Int) :: lpR B (i + 1) d else lpR B (i + 1) d
theorem arR_true (B : List S77) (L : List Int) (d : Nat) : ∀ (i : Nat) (c : Int), arR B L i d c = true → lsR B L (c + ((lpR B i d).length : Int)) 0 L.length = true ∧ ∀ m : Nat, i ≤ m → m < i + d → okB (rd_T77 B m) = true := by
 induction d with
 | zero =>
  intro i c h
  simp only [arR] at h
  refine ⟨?_, fun m h1 h2 => by omega⟩
  simpa [lpR] using h
 | succ d ih =>
  intro i c h
  simp only [arR, Bool.and_eq_true] at h
  have h1 := ih (i + 1) _ h.2
  refine ⟨?_, fun m hm1 hm2 => ?_⟩
  ·have h2 := h1.1
   simp only [lpR]
   by_cases hl : listedB (rd_T77 B i) = true
   ·rw [if_pos hl] at h2 ⊢
    rw [List.length_cons, show c + (((lpR B (i + 1) d).length + 1 : Nat) : Int) = c + 1 + ((lpR B (i + 1) d).length : Int) from by omega]
    exact h2
   ·rw [if_neg hl] at h2 ⊢
    exact h2
  ·by_cases e : m = i
   ·rw [e]; exact h.1
   ·exact h1.2 m (by omega) (by omega)
theorem lsR_true (B : List S77) (L : List Int) (c : Int) (d : Nat) : ∀ (j : Nat), j + d = L.length → lsR B L c j d = true → (L.length : Int) = c ∧ ∀ m : Nat, j ≤ m → m < L.length → inB 0 ((B.length : Int) - 1) (rd L m) = true ∧ listedB (rd_T77 B (rd L m)) = true ∧ ¬ rd L m ∈ L.take m := by
 induction d with
 | zero =>
  intro j hj h
  simp only [lsR] at h
  exact ⟨by simpa using h, fun m h1 h2 => by omega⟩
 | succ d ih =>
  intro j hj h
  simp only [lsR, Bool.and_eq_true] at h
  have h1 := ih (j + 1) (by omega) h.2.2.2
  refine ⟨h1.1, fun m hm1 hm2 => ?_⟩
  by_cases e : m = j
  ·rw [e]
   exact ⟨h.1, h.2.1, by simpa using h.2.2.1⟩
  ·exact h1.2 m (by omega) hm2
/-- What ArenaOk says. -/
theorem arOk_true {B : List S77} {L : List Int} (h : arOk B L = true) : (1 ≤ (B.length : Int) ∧ (B.length : Int) ≤ 24) ∧ (∀ m : Nat, m < B.length → okB (rd_T77 B m) = true) ∧ (∀ m : Nat, m < L.length → inB 0 ((B.length : Int) - 1) (rd L m) = true ∧ listedB (rd_T77 B (rd L m)) = true ∧ ¬ rd L m ∈ L.take m) ∧ L.length = (lpR B 0 B.length).length := by
 unfold arOk at h
 simp only [Bool.and_eq_true] at h
 have h1 := arR_true B L B.length 0 0 h.2
 have h2 := lsR_true B L _ L.length 0 (by omega) h1.1
 refine ⟨inB_iff.1 h.1, fun m hm => h1.2 m (by omega) (by omega), fun m hm => h2.2 m (by omega) hm, ?_⟩
 have h3 := h2.1
 omega
theorem gen_rng {B : List S77} {L : List Int} (h : arOk B L = true) {x : Int} (h0 : 0 ≤ x) (h1 : x < (B.length : Int)) : 0 ≤ (rd_T77 B x).f0 ∧ (rd_T77 B x).f0 ≤ 5 := by
 have h2 := (arOk_true h).2.1 x.toNat (by omega)
 rw [Int.toNat_of_nonneg h0] at h2
 unfold okB at h2
 simp only [Bool.and_eq_true] at h2
 exact inB_iff.1 h2.1

def clsB (B : List S77) (R : List S41) (a : Int) : Int := if listedB (rd_T77 B a) = true then 0 else if (rd_T77 B a).f1 = true then 1 else if hasG R (8 * a + (rd_T77 B a).f0) = true then 2 else 3
theorem yardB_ar {B : List S77} {L Q : List Int} {R : List S41} {p : Int} (h : yardB B L Q R p = true) : arOk B L = true := by
 unfold yardB at h
 simp only [Bool.and_eq_true] at h
 exact h.1
theorem implCls_eq {k : Nat} {B : List S77} {L Q : List Int} {R : List S41} {p a : Int} (hR : R.length ≤ 4000000) (hk : R.length < k) (ha : arOk B L = true) (h0 : 0 ≤ a) (h1 : a < (B.length : Int)) : impl_classOf.f k B L Q R p a = some (clsB B R a) := by
 have hb := (arOk_true ha).1
 have hg := gen_rng ha h0 h1
 unfold impl_classOf.f clsB
 rw [if_pos h0, if_pos h1, isListed_eq, Option.bind_some, w64 (x := 8 * a) (by omega) (by omega), w64 (x := 8 * a + (rd_T77 B a).f0) (by omega) (by omega), isRetired_eq hR hk, Option.bind_some]
 split
 ·rfl
 ·split
  ·rfl
  ·split <;> rfl
def classR (B : List S77) (L Q : List Int) (R : List S41) (p a : Int) : Int := if yardB B L Q R p = true then (if inB 0 ((B.length : Int) - 1) a = true then clsB B R a else -1) else -1
theorem implClassOf_eq {k : Nat} {B : List S77} {L Q : List Int} {R : List S41} {p a : Int} (hB : B.length ≤ 4000000) (hL : L.length ≤ 4000000) (hQ : Q.length ≤ 4000000) (hR : R.length ≤ 4000000) (hk : 2 * R.length + 2 * B.length + 2 * L.length + Q.length + 10 < k) : impl_ClassOf.f k B L Q R p a = some (classR B L Q R p a) := by
 unfold impl_ClassOf.f classR
 rw [implYard_eq hB hL hQ hR hk, Option.bind_some, w64 (x := (B.length : Int) - 1) (by omega) (by omega), in_eq, Option.bind_some]
 cases hy : yardB B L Q R p with
 | false => rw [if_neg Bool.false_ne_true, if_neg Bool.false_ne_true]
 | true =>
  rw [if_pos rfl, if_pos rfl]
  cases hi : inB 0 ((B.length : Int) - 1) a with
  | false => rw [if_neg Bool.false_ne_true, if_neg Bool.false_ne_true]
  | true =>
   have h1 := inB_iff.1 hi
   rw [if_pos rfl, if_pos rfl, implCls_eq hR (by omega) (yardB_ar hy) h1.1 (by omega), Option.bind_some]
theorem w34 : wrap64 ((3 : Int) + 1) = 4 := w64 (by decide) (by decide)

end Go.Proofs.Ytemdjfiimgjiaaa.M
namespace Go.Proofs.Ytemdjfiimgjiaaa.M
set_option linter.unusedVariables false
set_option linter.unusedSimpArgs false
open Go.RowKit Go.Proofs.YtemdjfiimgjiaaaW.PrintWords Go.Proofs.Ytemdjfiimgjiaaa.Pb

def takeR (B : List S77) (L : List Int) : List S77 × List Int × Int × Bool :=
 if arOk B L = true then (if (L.length : Int) = 0 then (B, L, -1, false) else (B.set (rd L 0).toNat ⟨(rd_T77 B (rd L 0)).f0, false, ⟨0, 0, 0⟩⟩, L.drop 1, 8 * rd L 0 + (rd_T77 B (rd L 0)).f0, true)) else (B, L, -1, false)
theorem takeR_len (B : List S77) (L : List Int) : (takeR B L).1.length = B.length ∧ (takeR B L).2.1.length ≤ L.length := by
 unfold takeR
 split
 ·split
  ·exact ⟨rfl, Nat.le_refl _⟩
  ·exact ⟨by simp, by simp⟩
 ·exact ⟨rfl, Nat.le_refl _⟩
theorem implTake_eq {k : Nat} {B : List S77} {L : List Int} (hB : B.length ≤ 4000000) (hL : L.length ≤ 4000000) (hk : 2 * B.length + 2 * L.length + 4 < k) : impl_Take.f k B L = some (takeR B L) := by
 unfold impl_Take.f takeR
 rw [ownArena_eq hB hL, Option.bind_some, implArena_eq hB hL hk, Option.bind_some]
 cases ha : arOk B L with
 | false => rw [if_neg Bool.false_ne_true, if_neg Bool.false_ne_true]
 | true =>
  rw [if_pos rfl, if_pos rfl]
  by_cases h0 : (L.length : Int) = 0
  ·rw [if_pos h0, if_pos h0]
  ·have h1 := inB_iff.1 ((arOk_true ha).2.2.1 0 (by omega)).1
   rw [show ((0 : Nat) : Int) = 0 from rfl] at h1
   have h2 := gen_rng ha h1.1 (show rd L 0 < (B.length : Int) by omega)
   rw [if_neg h0, if_neg h0, if_pos (by omega), if_pos (by simp only []; omega), if_pos h1.1, if_pos (by omega), if_pos (by simp only []; omega), w64 (x := 8 * rd L 0) (by omega) (by omega), w64 (by omega) (by omega)]
   rfl


end Go.Proofs.Ytemdjfiimgjiaaa.M
namespace Go.Proofs.Ytemdjfiimgjiaaa.M
set_option linter.unusedVariables false
set_option linter.unusedSimpArgs false
open Go.RowKit Go.Proofs.YtemdjfiimgjiaaaW.PrintWords Go.Proofs.Ytemdjfiimgjiaaa.Pb

/-- Free blocks and their places from i on. -/
def nwB : Nat → List S77
 | 0 => []
 | d + 1 => ⟨0, true, ⟨0, 0, 0⟩⟩ :: nwB d
def nwL : Nat → Nat → List Int
 | _, 0 => []
 | i, d + 1 => (i : Int) :: nwL (i + 1) d
theorem nwB_len : ∀ d, (nwB d).length = d
 | 0 => rfl
 | d + 1 => by simp [nwB, nwB_len d]
theorem nwL_len : ∀ d i, (nwL i d).length = d
 | 0, _ => rfl
 | d + 1, i => by simp [nwL, nwL_len d]
def newR (n : Int) : List S77 × List Int × Bool := if inB 1 24 n = true then (nwB n.toNat, nwL 0 n.toNat, true) else ([], [], false)
theorem newR_len (n : Int) : (newR n).1.length ≤ 24 ∧ (newR n).2.1.length ≤ 24 := by
 unfold newR
 split
 ·rename_i h
  have h1 := inB_iff.1 h
  exact ⟨by rw [nwB_len]; omega, by rw [nwL_len]; omega⟩
 ·exact ⟨Nat.zero_le _, Nat.zero_le _⟩
theorem implNew_l0 (n : Int) (hn : n ≤ 24) (d : Nat) : ∀ (k i : Nat) (P : List S77) (Q : List Int), (i : Int) + d = n → d < k → P.length = i → Q.length = i → impl_NewArena.l0 k n (i : Int) P Q = some (P ++ nwB d, Q ++ nwL i d, true) := by
 induction d with
 | zero =>
  intro k i P Q hi hk hP hQ
  obtain ⟨k, rfl⟩ : ∃ m, k = m + 1 := ⟨k - 1, by omega⟩
  rw [impl_NewArena.l0, if_neg (by omega)]
  simp [nwB, nwL]
 | succ d ih =>
  intro k i P Q hi hk hP hQ
  obtain ⟨k, rfl⟩ : ∃ m, k = m + 1 := ⟨k - 1, by omega⟩
  rw [impl_NewArena.l0, if_pos (by omega), if_pos (by omega), if_pos (by omega), w64 (by omega) (by omega), show ((i : Int) + 1) = ((i + 1 : Nat) : Int) from by omega, ih k (i + 1) _ _ (by omega) (by omega) (by simp [hP]) (by simp [hQ])]
  simp [nwB, nwL, List.append_assoc]
theorem implNew_eq {k : Nat} {n : Int} (hk : 24 < k) : impl_NewArena.f k n = some (newR n) := by
 unfold impl_NewArena.f newR
 rw [in_eq, Option.bind_some]
 cases h : inB 1 24 n with
 | false => rw [if_neg Bool.false_ne_true, if_neg Bool.false_ne_true]
 | true =>
  have h1 := inB_iff.1 h
  have h2 := implNew_l0 n h1.2 n.toNat k 0 [] [] (by omega) (by omega) rfl rfl
  rw [show ((0 : Nat) : Int) = 0 from rfl] at h2
  rw [if_pos rfl, if_pos rfl, h2]
  rfl


end Go.Proofs.Ytemdjfiimgjiaaa.M
namespace Go.Proofs.Ytemdjfiimgjiaaa.M
set_option linter.unusedVariables false
set_option linter.unusedSimpArgs false
open Go.RowKit Go.Proofs.YtemdjfiimgjiaaaW.PrintWords Go.Proofs.Ytemdjfiimgjiaaa.Pb

def newYR (n t : Int) : List S77 × List Int × List Int × List S41 × Int × Bool := if (newR n).2.2 = true then (if inB 1 6 t = true then ((newR n).1, (newR n).2.1, List.replicate t.toNat (-1), [], 0, true) else ([], [], [], [], 0, false)) else ([], [], [], [], 0, false)
theorem newYR_len (n t : Int) : (newYR n t).1.length ≤ 24 ∧ (newYR n t).2.1.length ≤ 24 ∧ (newYR n t).2.2.1.length ≤ 6 ∧ (newYR n t).2.2.2.1.length ≤ 0 := by
 have h := newR_len n
 unfold newYR
 split
 ·split
  ·rename_i h1 h2
   have h3 := inB_iff.1 h2
   exact ⟨h.1, h.2, by simp only [List.length_replicate]; omega, Nat.le_refl _⟩
  ·exact ⟨Nat.zero_le _, Nat.zero_le _, Nat.zero_le _, Nat.le_refl _⟩
 ·exact ⟨Nat.zero_le _, Nat.zero_le _, Nat.zero_le _, Nat.le_refl _⟩
theorem implNewY_l0 (n : Int) (hn : n ≤ 6) (B : List S77) (L : List Int) (p : Int) (d : Nat) : ∀ (k i : Nat) (P : List Int), (i : Int) + d = n → d < k → P.length = i → impl_NewYard.l0 k n (i : Int) B L P p = some (B, L, P ++ List.replicate d (-1), [], p, true) := by
 induction d with
 | zero =>
  intro k i P hi hk hP
  obtain ⟨k, rfl⟩ : ∃ m, k = m + 1 := ⟨k - 1, by omega⟩
  rw [impl_NewYard.l0, if_neg (by omega)]
  simp
 | succ d ih =>
  intro k i P hi hk hP
  obtain ⟨k, rfl⟩ : ∃ m, k = m + 1 := ⟨k - 1, by omega⟩
  rw [impl_NewYard.l0, if_pos (by omega), if_pos (by omega), w64 (by omega) (by omega), show ((i : Int) + 1) = ((i + 1 : Nat) : Int) from by omega, ih k (i + 1) _ (by omega) (by omega) (by simp [hP])]
  simp [List.replicate_succ]
theorem implNewY_eq {k : Nat} {n t : Int} (hk : 40 < k) : impl_NewYard.f k n t = some (newYR n t) := by
 obtain ⟨k, rfl⟩ : ∃ m, k = m + 1 := ⟨k - 1, by omega⟩
 unfold impl_NewYard.f newYR
 rw [implNew_eq (by omega), Option.bind_some, in_eq, Option.bind_some]
 generalize newR n = r
 cases r.2.2 with
 | false => rw [if_neg Bool.false_ne_true, if_neg Bool.false_ne_true, impl_NewYard.j0, if_pos rfl]
 | true =>
  rw [if_pos rfl, if_pos rfl]
  cases h : inB 1 6 t with
  | false => rw [if_neg Bool.false_ne_true, Bool.not_false, impl_NewYard.j0, if_pos rfl]
  | true =>
   have h1 := inB_iff.1 h
   have h2 := implNewY_l0 t h1.2 r.1 r.2.1 0 t.toNat k 0 [] (by omega) (by omega) rfl
   rw [show ((0 : Nat) : Int) = 0 from rfl] at h2
   rw [if_pos rfl, Bool.not_true, impl_NewYard.j0, if_neg Bool.false_ne_true, h2]
   rfl


end Go.Proofs.Ytemdjfiimgjiaaa.M
namespace Go.Proofs.Ytemdjfiimgjiaaa.M
set_option linter.unusedVariables false
set_option linter.unusedSimpArgs false
open Go.RowKit Go.Proofs.YtemdjfiimgjiaaaW.PrintWords Go.Proofs.Ytemdjfiimgjiaaa.Pb

def giveR (B : List S77) (L : List Int) (h : Int) : List S77 × List Int × Bool :=
 if liveB B L h = true then (B.set (h / 8).toNat ⟨(rd_T77 B (h / 8)).f0 + 1, true, (rd_T77 B (h / 8)).f2⟩, if (rd_T77 B (h / 8)).f0 + 1 < 5 then [h / 8] ++ L else L, true) else (B, L, false)
theorem giveR_len (B : List S77) (L : List Int) (h : Int) : (giveR B L h).1.length = B.length ∧ (giveR B L h).2.1.length ≤ L.length + 1 := by
 unfold giveR
 split
 ·refine ⟨by simp, ?_⟩
  show (if (rd_T77 B (h / 8)).f0 + 1 < 5 then [h / 8] ++ L else L).length ≤ L.length + 1
  split
  ·simp
  ·omega
 ·exact ⟨rfl, by simp⟩
theorem rdB_setI {B : List S77} {q : Int} (y : S77) (h0 : 0 ≤ q) (h1 : q < (B.length : Int)) : rd_T77 (B.set q.toNat y) q = y := by
 have h := rdB_set B q.toNat y (by omega)
 rw [Int.toNat_of_nonneg h0] at h
 exact h
theorem implGive_eq {k : Nat} {B : List S77} {L : List Int} {h : Int} (hB : B.length ≤ 4000000) (hL : L.length ≤ 4000000) (hk : 2 * B.length + 2 * L.length + 4 < k) : impl_Give.f k B L h = some (giveR B L h) := by
 unfold impl_Give.f giveR
 rw [ownArena_eq hB hL, Option.bind_some, implLive_eq hB hL hk, Option.bind_some]
 cases hb : liveB B L h with
 | false => rw [if_neg Bool.false_ne_true, if_neg Bool.false_ne_true]
 | true =>
  have h1 := liveB_rng hb
  have h2 := liveB_gen hb
  rw [if_pos rfl, if_pos rfl, w8 h1.1 (by omega), if_pos (by omega), if_pos (by simp only []; omega), Option.bind_some, Option.bind_some]
  simp only [rdB_setI _ (show 0 ≤ h / 8 by omega) (show h / 8 < (B.length : Int) by omega), List.set_set, Option.bind_some]
  rw [w64 (x := (rd_T77 B (h / 8)).f0 + 1) (by omega) (by omega)]
  rw [isListed_eq (⟨(rd_T77 B (h / 8)).f0 + 1, true, (rd_T77 B (h / 8)).f2⟩), Option.bind_some]
  by_cases h3 : (rd_T77 B (h / 8)).f0 + 1 < 5
  ·rw [if_pos (by simp [listedB, h3]), if_pos h3, if_pos (by simp; omega)]
  ·rw [if_neg (by simp [listedB, h3]), if_neg h3]

end Go.Proofs.Ytemdjfiimgjiaaa.M
namespace Go.Proofs.Ytemdjfiimgjiaaa.M
set_option linter.unusedVariables false
set_option linter.unusedSimpArgs false
open Go.RowKit Go.Proofs.YtemdjfiimgjiaaaW.PrintWords Go.Proofs.Ytemdjfiimgjiaaa.Pb

theorem ownYard_eq {B : List S77} {L Q : List Int} {R : List S41} {p : Int} (hB : B.length ≤ 4000000) (hL : L.length ≤ 4000000) (hQ : Q.length ≤ 4000000) (hR : R.length ≤ 4000000) : impl_ownYard.f B L Q R p = some (B, L, Q, R, p) := by
 unfold impl_ownYard.f
 rw [ownArena_eq hB hL, Option.bind_some, own_eq hQ, Option.bind_some, Option.bind_some, if_pos (by simp only [List.length_nil]; omega), List.nil_append]

def retR (B : List S77) (L Q : List Int) (R : List S41) (p h : Int) : List S77 × List Int × List Int × List S41 × Int × Int :=
 if yardB B L Q R p = true then (if liveB B L h = true then (if hasG R h = true then (B, L, Q, R, p, 4) else (if (R.length : Int) = 24 then (B, L, Q, R, p, 5) else (B, L, Q, R ++ [⟨h, p⟩], p, 0))) else (B, L, Q, R, p, 4)) else (B, L, Q, R, p, 1)
theorem retR_len (B : List S77) (L Q : List Int) (R : List S41) (p h : Int) : (retR B L Q R p h).1.length = B.length ∧ (retR B L Q R p h).2.1.length = L.length ∧ (retR B L Q R p h).2.2.1.length = Q.length ∧ (retR B L Q R p h).2.2.2.1.length ≤ R.length + 1 := by
 unfold retR
 split
 ·split
  ·split
   ·exact ⟨rfl, rfl, rfl, by simp⟩
   ·split
    ·exact ⟨rfl, rfl, rfl, by simp⟩
    ·exact ⟨rfl, rfl, rfl, by simp⟩
  ·exact ⟨rfl, rfl, rfl, by simp⟩
 ·exact ⟨rfl, rfl, rfl, by simp⟩
theorem implRetire_eq {k : Nat} {B : List S77} {L Q : List Int} {R : List S41} {p h : Int} (hB : B.length ≤ 4000000) (hL : L.length ≤ 4000000) (hQ : Q.length ≤ 4000000) (hR : R.length ≤ 4000000) (hk : 2 * R.length + 2 * B.length + 2 * L.length + Q.length + 11 < k) : impl_Retire.f k B L Q R p h = some (retR B L Q R p h) := by
 obtain ⟨k, rfl⟩ : ∃ m, k = m + 1 := ⟨k - 1, by omega⟩
 have j0t : impl_Retire.j0 (k + 1) h true B L Q R p B L Q R p = some (B, L, Q, R, p, 4) := by rw [impl_Retire.j0, if_pos rfl]
 have j0f : impl_Retire.j0 (k + 1) h false B L Q R p B L Q R p = some (if (R.length : Int) = 24 then (B, L, Q, R, p, 5) else (B, L, Q, R ++ [⟨h, p⟩], p, 0)) := by
  rw [impl_Retire.j0, if_neg Bool.false_ne_true]
  split
  ·rfl
  ·rw [if_pos (by omega)]
 unfold impl_Retire.f retR
 rw [ownYard_eq hB hL hQ hR, Option.bind_some, implYard_eq hB hL hQ hR (by omega), Option.bind_some, implLive_eq hB hL (by omega), Option.bind_some, isRetired_eq hR (by omega), Option.bind_some, j0t]
 cases yardB B L Q R p with
 | false => rw [if_neg Bool.false_ne_true, if_neg Bool.false_ne_true]
 | true =>
  rw [if_pos rfl, if_pos rfl]
  cases liveB B L h with
  | false => rw [if_neg Bool.false_ne_true, if_neg Bool.false_ne_true]
  | true =>
   rw [if_pos rfl, if_pos rfl]
   cases hasG R h with
   | true => rw [j0t, if_pos rfl]
   | false => rw [j0f, if_neg Bool.false_ne_true]
/-- What YardOk says of the pins. -/
theorem yardB_pins {B : List S77} {L Q : List Int} {R : List S41} {p : Int} (h : yardB B L Q R p = true) : (0 ≤ p ∧ p ≤ 1000000) ∧ (R.length ≤ 24) ∧ (∀ m : Nat, m < Q.length → -1 ≤ rd Q m ∧ rd Q m ≤ p) ∧ goR B L R p 0 R.length 0 = true := by
 unfold yardB at h
 simp only [Bool.and_eq_true] at h
 refine ⟨inB_iff.1 h.2.2.1, ?_, fun m hm => ?_, h.2.2.2.2.2⟩
 ·have h1 := h.2.2.2.1
  simp only [Bool.not_eq_true', decide_eq_false_iff_not] at h1
  omega
 ·have h1 := List.all_eq_true.1 h.2.2.2.2.1 (Q[m]) (List.getElem_mem hm)
  rw [rd_at Q m hm]
  exact inB_iff.1 h1

end Go.Proofs.Ytemdjfiimgjiaaa.M
namespace Go.Proofs.Ytemdjfiimgjiaaa.M
set_option linter.unusedVariables false
set_option linter.unusedSimpArgs false
open Go.RowKit Go.Proofs.YtemdjfiimgjiaaaW.PrintWords Go.Proofs.Ytemdjfiimgjiaaa.Pb

/-- Is what was retired at pass s kept: is a thread pinned at s or before. -/
def keepB (Q : List Int) (s : Int) : Bool := Q.any (fun x => !(x == -1) && decide (s ≥ x))
theorem keep1_eq (x s : Int) : impl_Pass_1_c2.f x s = some (!(x == -1) && decide (s ≥ x)) := by
 unfold impl_Pass_1_c2.f
 by_cases h : x = -1
 ·rw [if_pos h, h]
  rfl
 ·rw [if_neg h, show (x == -1) = false from by simpa using h, Bool.not_false, Bool.true_and]
theorem keep_l0 (l : List Int) (s : Int) (hl : l.length ≤ 4000000) (d : Nat) : ∀ (k i : Nat), i + d = l.length → d < k → ∃ r, slices_IndexFunc_int_int_F50c900003.l0 k l (l.length : Int) (i : Int) s = some r ∧ decide (r ≥ 0) = keepB (l.drop i) s := by
 induction d with
 | zero =>
  intro k i hi hk
  obtain ⟨k, rfl⟩ : ∃ m, k = m + 1 := ⟨k - 1, by omega⟩
  refine ⟨-1, ?_, ?_⟩
  ·rw [slices_IndexFunc_int_int_F50c900003.l0, if_neg (by omega)]
  ·rw [List.drop_of_length_le (by omega)]
   rfl
 | succ d ih =>
  intro k i hi hk
  obtain ⟨k, rfl⟩ : ∃ m, k = m + 1 := ⟨k - 1, by omega⟩
  rw [slices_IndexFunc_int_int_F50c900003.l0, if_pos (by omega), if_pos (by omega), if_pos (by omega), keep1_eq, Option.bind_some, rd_at l i (by omega), drop_cons l i (by omega)]
  simp only [keepB, List.any_cons]
  cases h : (!(l[i] == -1) && decide (s ≥ l[i])) with
  | true =>
   rw [if_pos rfl]
   refine ⟨(i : Int), rfl, ?_⟩
   rw [decide_eq_true (by omega)]
   rfl
  | false =>
   rw [if_neg Bool.false_ne_true, w64 (by omega) (by omega), show ((i : Int) + 1) = ((i + 1 : Nat) : Int) from by omega]
   obtain ⟨r, h1, h2⟩ := ih k (i + 1) (by omega) (by omega)
   exact ⟨r, h1, by rw [h2]; rfl⟩
theorem keep_eq {k : Nat} {l : List Int} {s : Int} (hl : l.length ≤ 4000000) (hk : l.length < k) : slices_ContainsFunc_int_int_F50c900003.f k l s = some (keepB l s) := by
 unfold slices_ContainsFunc_int_int_F50c900003.f slices_IndexFunc_int_int_F50c900003.f
 obtain ⟨r, h1, h2⟩ := keep_l0 l s hl l.length k 0 (by omega) hk
 rw [show ((0 : Nat) : Int) = 0 from rfl] at h1
 rw [h1, Option.bind_some, h2, List.drop_zero]

/-- The blocks, the list and what is kept, from i on. -/
def psR (Q : List Int) (R : List S41) (q : Int) : Nat → Nat → List S77 → List Int → List S41 → Int → List S77 × List Int × List Int × List S41 × Int × Int × Int
 | _, 0, B, L, K, c => (B, L, Q, K, q, c, 0)
 | i, d + 1, B, L, K, c => if keepB Q (rd_T41 R i).f1 = true then psR Q R q (i + 1) d B L (K ++ [⟨(rd_T41 R i).f0, (rd_T41 R i).f1⟩]) c else psR Q R q (i + 1) d (giveR B L (rd_T41 R i).f0).1 (giveR B L (rd_T41 R i).f0).2.1 K (c + 1)
def passR (B : List S77) (L Q : List Int) (R : List S41) (p : Int) : List S77 × List Int × List Int × List S41 × Int × Int × Int :=
 if yardB B L Q R p = true then (if p = 1000000 then (B, L, Q, R, p, 0, 1) else psR Q R (p + 1) 0 R.length B L [] 0) else (B, L, Q, R, p, 0, 1)
theorem psR_len (Q : List Int) (R : List S41) (q : Int) (d : Nat) : ∀ (i : Nat) (B : List S77) (L : List Int) (K : List S41) (c : Int), (psR Q R q i d B L K c).1.length = B.length ∧ (psR Q R q i d B L K c).2.1.length ≤ L.length + d ∧ (psR Q R q i d B L K c).2.2.1.length = Q.length ∧ (psR Q R q i d B L K c).2.2.2.1.length ≤ K.length + d := by
 induction d with
 | zero => intro i B L K c; exact ⟨rfl, by simp [psR], rfl, by simp [psR]⟩
 | succ d ih =>
  intro i B L K c
  simp only [psR]
  split
  ·have h := ih (i + 1) B L (K ++ [⟨(rd_T41 R i).f0, (rd_T41 R i).f1⟩]) c
   simp only [List.length_append, List.length_singleton] at h
   exact ⟨h.1, by omega, h.2.2.1, by omega⟩
  ·have hg := giveR_len B L (rd_T41 R i).f0
   have h := ih (i + 1) (giveR B L (rd_T41 R i).f0).1 (giveR B L (rd_T41 R i).f0).2.1 K (c + 1)
   exact ⟨by omega, by omega, h.2.2.1, by omega⟩
theorem passR_len (B : List S77) (L Q : List Int) (R : List S41) (p : Int) : (passR B L Q R p).1.length = B.length ∧ (passR B L Q R p).2.1.length ≤ L.length + R.length ∧ (passR B L Q R p).2.2.1.length = Q.length ∧ (passR B L Q R p).2.2.2.1.length ≤ R.length := by
 unfold passR
 split
 ·split
  ·exact ⟨rfl, by simp, rfl, Nat.le_refl _⟩
  ·have h := psR_len Q R (p + 1) R.length 0 B L [] 0
   simp only [List.length_nil] at h
   exact ⟨h.1, h.2.1, h.2.2.1, by omega⟩
 ·exact ⟨rfl, by simp, rfl, Nat.le_refl _⟩
theorem implPass_l0 (B0 : List S77) (L0 Q : List Int) (R : List S41) (p : Int) (hQ : Q.length ≤ 4000000) (hR : R.length ≤ 4000000) (hp : 0 ≤ p ∧ p ≤ 1000000) (d : Nat) : ∀ (k i : Nat) (B : List S77) (L : List Int) (K : List S41) (c : Int), i + d = R.length → B.length ≤ 4000000 → L.length + d ≤ 4000000 → K.length ≤ i → d + 2 * B.length + 2 * (L.length + d) + Q.length + 8 < k → 0 ≤ c → c ≤ i →
  impl_Pass.l0 k c R (R.length : Int) (i : Int) B0 L0 Q R p B L Q K p = some (psR Q R (p + 1) i d B L K c) := by
 induction d with
 | zero =>
  intro k i B L K c hi hB hL hK hk h0 h1
  obtain ⟨k, rfl⟩ : ∃ m, k = m + 1 := ⟨k - 1, by omega⟩
  rw [impl_Pass.l0, if_neg (by omega), w64 (by omega) (by omega)]
  rfl
 | succ d ih =>
  intro k i B L K c hi hB hL hK hk h0 h1
  obtain ⟨k, rfl⟩ : ∃ m, k = m + 1 := ⟨k - 1, by omega⟩
  have hg := giveR_len B L (rd_T41 R i).f0
  rw [impl_Pass.l0, if_pos (by omega), if_pos (by omega), if_pos (by omega), keep_eq hQ (by omega), Option.bind_some, implGive_eq hB (by omega) (by omega), Option.bind_some, w64 (x := (i : Int) + 1) (by omega) (by omega), w64 (x := c + 1) (by omega) (by omega), show ((i : Int) + 1) = ((i + 1 : Nat) : Int) from by omega]
  simp only [psR]
  split
  ·rw [if_pos (by omega), ih k (i + 1) B L _ c (by omega) hB (by omega) (by simp only [List.length_append, List.length_singleton]; omega) (by omega) h0 (by omega)]
  ·rw [ih k (i + 1) _ _ K (c + 1) (by omega) (by omega) (by omega) (by omega) (by omega) (by omega) (by omega)]
theorem implPass_eq {k : Nat} {B : List S77} {L Q : List Int} {R : List S41} {p : Int} (hB : B.length ≤ 2000000) (hL : L.length ≤ 2000000) (hQ : Q.length ≤ 2000000) (hR : R.length ≤ 2000000) (hk : 3 * R.length + 2 * B.length + 2 * (L.length + R.length) + Q.length + 14 < k) : impl_Pass.f k B L Q R p = some (passR B L Q R p) := by
 obtain ⟨k, rfl⟩ : ∃ m, k = m + 1 := ⟨k - 1, by omega⟩
 have j0t : impl_Pass.j0 (k + 1) 0 true B L Q R p B L Q R p = some (B, L, Q, R, p, 0, 1) := by rw [impl_Pass.j0, if_pos rfl]
 unfold impl_Pass.f passR
 rw [ownYard_eq (by omega) (by omega) (by omega) (by omega), Option.bind_some, implYard_eq (by omega) (by omega) (by omega) (by omega) (by omega), Option.bind_some, j0t]
 cases hy : yardB B L Q R p with
 | false => rw [if_neg Bool.false_ne_true, if_neg Bool.false_ne_true]
 | true =>
  rw [if_pos rfl, if_pos rfl]
  by_cases h : p = 1000000
  ·rw [if_pos h, show (p == 1000000) = true from by simpa using h, j0t]
  ·have hp := (yardB_pins hy).1
   have h1 := implPass_l0 B L Q R p (by omega) (by omega) hp R.length k 0 B L [] 0 (by omega) (by omega) (by omega) (Nat.zero_le _) (by omega) (by omega) (by omega)
   rw [show ((0 : Nat) : Int) = 0 from rfl] at h1
   rw [if_neg h, show (p == 1000000) = false from by simpa using h, impl_Pass.j0, if_neg Bool.false_ne_true, h1]


end Go.Proofs.Ytemdjfiimgjiaaa.M
namespace Go.Proofs.Ytemdjfiimgjiaaa.Pure
set_option linter.unusedVariables false
set_option linter.unusedSimpArgs false
open Go.RowKit Go.Proofs.Ytemdjfiimgjiaaa.M Go.Proofs.YtemdjfiimgjiaaaW.PrintWords Go.Proofs.Ytemdjfiimgjiaaa.Pb

/-- What the law asks, of n blocks and t threads. -/
def oneR (n t : Int) : List S77 × List Int × List Int × List S41 × Int × Int := retR (takeR (newYR n t).1 (newYR n t).2.1).1 (takeR (newYR n t).1 (newYR n t).2.1).2.1 (newYR n t).2.2.1 (newYR n t).2.2.2.1 (newYR n t).2.2.2.2.1 (takeR (newYR n t).1 (newYR n t).2.1).2.2.1
def hR (n t : Int) : Int := (takeR (newYR n t).1 (newYR n t).2.1).2.2.1
def twoR (n t x : Int) : List S77 × List Int × List Int × List S41 × Int × Int := retR (oneR n t).1 (oneR n t).2.1 (oneR n t).2.2.1 (oneR n t).2.2.2.1 (oneR n t).2.2.2.2.1 x
def endR (n t : Int) : List S77 × List Int × List Int × List S41 × Int × Int × Int := passR (oneR n t).1 (oneR n t).2.1 (oneR n t).2.2.1 (oneR n t).2.2.2.1 (oneR n t).2.2.2.2.1
def retLaw (n t : Int) : Bool :=
 (newYR n t).2.2.2.2.2 && ((takeR (newYR n t).1 (newYR n t).2.1).2.2.2 && ((oneR n t).2.2.2.2.2 == 0 && ((twoR n t (hR n t)).2.2.2.2.2 == 4 && (((twoR n t (hR n t)).2.2.2.1.length : Int) == 1 &&
  (classR (oneR n t).1 (oneR n t).2.1 (oneR n t).2.2.1 (oneR n t).2.2.2.1 (oneR n t).2.2.2.2.1 (wrap64 (Int.tdiv (hR n t) 8)) == 2 && ((twoR n t (wrap64 (hR n t + 1))).2.2.2.2.2 == 4 && ((endR n t).2.2.2.2.2.1 == 1 &&
  (classR (endR n t).1 (endR n t).2.1 (endR n t).2.2.1 (endR n t).2.2.2.1 (endR n t).2.2.2.2.1 (wrap64 (Int.tdiv (hR n t) 8)) == 0 &&
  classR (takeR (newYR n t).1 (newYR n t).2.1).1 (takeR (newYR n t).1 (newYR n t).2.1).2.1 (newYR n t).2.2.1 (newYR n t).2.2.2.1 (newYR n t).2.2.2.2.1 (wrap64 (Int.tdiv (hR n t) 8)) == 3))))))))
theorem retLaw_all : ∀ n ∈ [(2 : Int), 3, 4, 5], ∀ t ∈ [(1 : Int), 2, 3], retLaw n t = true := by
 decide +kernel
theorem at_rng {l : List Int} (i : Nat) (hi : i ≤ 1) (hl : l.length ≤ 1048576) (hu : ∀ z ∈ l, (Lit.int .u8 z).wf = true) : ∃ a, laws_at.f l (i : Int) = some a ∧ 0 ≤ a ∧ a ≤ 255 := by
 unfold laws_at.f
 by_cases h : (i : Int) < (l.length : Int)
 ·rw [if_pos h, if_pos (by omega), rd_at l i (by omega)]
  have h1 := hu (l[i]) (List.getElem_mem (by omega))
  have h2 := of_decide_eq_true (show decide (IntKind.u8.min ≤ l[i]) = true from by simp [Lit.wf] at h1; simpa using h1.1)
  have h3 := of_decide_eq_true (show decide (l[i] ≤ IntKind.u8.max) = true from by simp [Lit.wf] at h1; simpa using h1.2)
  have h4 : 0 ≤ l[i] := h2
  have h5 : l[i] ≤ 255 := h3
  exact ⟨l[i], by rw [w64 (by omega) (by omega)], h4, h5⟩
 ·rw [if_neg h, w64 (x := (i : Int) * 7) (by omega) (by omega), w64 (x := (i : Int) * 7 + (l.length : Int)) (by omega) (by omega), Int.tmod_eq_emod_of_nonneg (by omega)]
  exact ⟨_, rfl, by omega, by omega⟩

theorem FnRetired : laws_FnRetired.Pure := by
 intro l hl
 obtain ⟨k, hk⟩ : ∃ k : Nat, 50000000 < k := ⟨50000001, by omega⟩
 refine ⟨k + 3, ?_⟩
 unfold laws_FnRetired.f laws_big.f
 rw [Option.bind_some]
 by_cases h1 : (l.length : Int) > 1048576
 ·rw [decide_eq_true h1, if_pos rfl]
 ·rw [decide_eq_false h1, if_neg Bool.false_ne_true]
  obtain ⟨a, ha, a0, a1⟩ := at_rng (l := l) 0 (by omega) (by omega) hl.2
  obtain ⟨b, hb, b0, b1⟩ := at_rng (l := l) 1 (by omega) (by omega) hl.2
  rw [show ((0 : Nat) : Int) = 0 from rfl] at ha
  rw [show ((1 : Nat) : Int) = 1 from rfl] at hb
  rw [ha, Option.bind_some, hb, Option.bind_some, Int.tmod_eq_emod_of_nonneg a0, Int.tmod_eq_emod_of_nonneg b0, w64 (x := 2 + a % 4) (by omega) (by omega), w64 (x := 1 + b % 3) (by omega) (by omega)]
  generalize hn : 2 + a % 4 = n
  generalize ht : 1 + b % 3 = t
  have hlaw := retLaw_all n (by simp; omega) t (by simp; omega)
  clear ha hb hn ht
  unfold retLaw at hlaw
  simp only [Bool.and_eq_true, beq_iff_eq] at hlaw
  obtain ⟨e1, e2, e3, e4, e5, e6, e7, e8, e9, e10⟩ := hlaw
  have ly := newYR_len n t
  have la := takeR_len (newYR n t).1 (newYR n t).2.1
  have l1 := retR_len (takeR (newYR n t).1 (newYR n t).2.1).1 (takeR (newYR n t).1 (newYR n t).2.1).2.1 (newYR n t).2.2.1 (newYR n t).2.2.2.1 (newYR n t).2.2.2.2.1 (takeR (newYR n t).1 (newYR n t).2.1).2.2.1
  have l2 := passR_len (oneR n t).1 (oneR n t).2.1 (oneR n t).2.2.1 (oneR n t).2.2.2.1 (oneR n t).2.2.2.2.1
  rw [implNewY_eq (by omega), Option.bind_some, implTake_eq (by omega) (by omega) (by omega), Option.bind_some, if_pos e1, e2, Bool.not_true, laws_FnRetired.j0, if_neg Bool.false_ne_true]
  rw [implRetire_eq (by omega) (by omega) (by omega) (by omega) (by omega), Option.bind_some]
  rw [show retR (takeR (newYR n t).1 (newYR n t).2.1).1 (takeR (newYR n t).1 (newYR n t).2.1).2.1 (newYR n t).2.2.1 (newYR n t).2.2.2.1 (newYR n t).2.2.2.2.1 (takeR (newYR n t).1 (newYR n t).2.1).2.2.1 = oneR n t from rfl] at l1 ⊢
  rw [implRetire_eq (by omega) (by omega) (by omega) (by omega) (by omega), Option.bind_some]
  rw [implClassOf_eq (by omega) (by omega) (by omega) (by omega) (by omega), Option.bind_some]
  rw [implRetire_eq (by omega) (by omega) (by omega) (by omega) (by omega), Option.bind_some]
  rw [implPass_eq (by omega) (by omega) (by omega) (by omega) (by omega), Option.bind_some]
  rw [show passR (oneR n t).1 (oneR n t).2.1 (oneR n t).2.2.1 (oneR n t).2.2.2.1 (oneR n t).2.2.2.2.1 = endR n t from rfl]
  simp only [twoR, hR] at e4 e5 e6 e7 e9 e10
  rw [if_pos e3, if_pos e4, if_pos e5, if_pos e6, if_pos e7, if_pos e8]
  have l3 : (endR n t).1.length ≤ 4000000 ∧ (endR n t).2.1.length ≤ 4000000 ∧ (endR n t).2.2.1.length ≤ 4000000 ∧ (endR n t).2.2.2.1.length ≤ 4000000 := by
   unfold endR
   omega
  have l4 : 2 * (endR n t).2.2.2.1.length + 2 * (endR n t).1.length + 2 * (endR n t).2.1.length + (endR n t).2.2.1.length + 10 < k := by
   unfold endR
   omega
  rw [implClassOf_eq l3.1 l3.2.1 l3.2.2.1 l3.2.2.2 (by omega), Option.bind_some, if_pos e9]
  rw [implClassOf_eq (by omega) (by omega) (by omega) (by omega) (by omega), Option.bind_some]
  refine congrArg some ?_
  rw [beq_iff_eq]
  exact e10


end Go.Proofs.Ytemdjfiimgjiaaa.Pure
