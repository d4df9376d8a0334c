/- The pure statement of FnReclaimed and what it needs. Conditions: those that each theorem states. -/
import Derived.Test.YtemdjfiimgjiaaaVFnReclaimed10
import Derived.Laws.BitsLemmas
import Derived.RowKit
namespace Go.Proofs.Ytemdjfiimgjiaaa.PbR
open Go.RowKit Go.Proofs.YtemdjfiimgjiaaaW.PrintWords

theorem w64 {x : Int} (h0 : -9223372036854775808 ≤ x) (h1 : x ≤ 9223372036854775807) : wrap64 x = x := by
 unfold wrap64
 omega

theorem rd_at (l : List Int) (i : Nat) (h : i < l.length) : rd l (i : Int) = l[i] := by
 simp [rd, List.getD_eq_getElem?_getD, List.getElem?_eq_getElem h]

theorem drop_cons {α : Type} (l : List α) (i : Nat) (h : i < l.length) : l.drop i = l[i] :: l.drop (i + 1) := List.drop_eq_getElem_cons h


end Go.Proofs.Ytemdjfiimgjiaaa.PbR
namespace Go.Proofs.Ytemdjfiimgjiaaa.R
set_option linter.unusedVariables false
set_option linter.unusedSimpArgs false
open Go.RowKit Go.Proofs.YtemdjfiimgjiaaaW.PrintWords Go.Proofs.Ytemdjfiimgjiaaa.PbR

/-- All of a list within bounds. -/
def inB (a b x : Int) : Bool := decide (a ≤ x) && decide (x ≤ b)

theorem l1In_eq (x a b : Int) : spec_l1In.f x a b = some (inB a b x) := by
 unfold spec_l1In.f inB
 by_cases h : x ≥ a
 ·rw [if_pos h, decide_eq_true (show a ≤ x from h), Bool.true_and]
 ·rw [if_neg h, decide_eq_false (show ¬ a ≤ x from h), Bool.false_and]

theorem in_eq (x a b : Int) : impl_in.f x a b = some (inB a b x) := by
 unfold impl_in.f inB
 by_cases h : a ≤ x
 ·rw [if_pos h, decide_eq_true h, Bool.true_and]
 ·rw [if_neg h, decide_eq_false h, Bool.false_and]

theorem index_l0 (l : List Int) (x : Int) (hl : l.length ≤ 4000000) (d : Nat) : ∀ (k i : Nat), i + d = l.length → d < k → ∃ r, slices_Index_int_int.l0 k l x (l.length : Int) (i : Int) = some r ∧ decide (r ≥ 0) = decide (x ∈ l.drop i) := by
 induction d with
 | zero =>
  intro k i hi hk
  obtain ⟨k, rfl⟩ : ∃ m, k = m + 1 := ⟨k - 1, by omega⟩
  refine ⟨-1, ?_, ?_⟩
  ·simp only [slices_Index_int_int.l0]
   rw [if_neg (by omega)]
  ·rw [List.drop_of_length_le (by omega)]
   simp
 | succ d ih =>
  intro k i hi hk
  obtain ⟨k, rfl⟩ : ∃ m, k = m + 1 := ⟨k - 1, by omega⟩
  simp only [slices_Index_int_int.l0]
  rw [if_pos (by omega), if_pos (by omega), if_pos (by omega), rd_at l i (by omega), drop_cons l i (by omega)]
  by_cases h : x = l[i]
  ·rw [if_pos h]
   exact ⟨(i : Int), rfl, by simp [← h]⟩
  ·rw [if_neg h, w64 (by omega) (by omega), show ((i : Int) + 1) = ((i + 1 : Nat) : Int) from by omega]
   obtain ⟨r, h1, h2⟩ := ih k (i + 1) (by omega) (by omega)
   exact ⟨r, h1, by rw [h2]; simp [-List.getElem_cons_drop, h]⟩
theorem contains_eq {k : Nat} {l : List Int} {x : Int} (hl : l.length ≤ 4000000) (hk : l.length < k) : slices_Contains_int_int.f k l x = some (decide (x ∈ l)) := by
 unfold slices_Contains_int_int.f slices_Index_int_int.f
 obtain ⟨r, h1, h2⟩ := index_l0 l x hl l.length k 0 (by omega) hk
 rw [show ((0 : Nat) : Int) = 0 from rfl] at h1
 rw [h1, Option.bind_some, h2, List.drop_zero]

theorem l1Has_l0 (l : List Int) (x : Int) (hl : l.length ≤ 4000000) (d : Nat) : ∀ (k i : Nat), i + d = l.length → d < k → spec_l1Has.l0 k l x (i : Int) = some (decide (x ∈ l.drop i)) := by
 induction d with
 | zero =>
  intro k i hi hk
  obtain ⟨k, rfl⟩ : ∃ m, k = m + 1 := ⟨k - 1, by omega⟩
  simp only [spec_l1Has.l0]
  rw [if_neg (by omega), List.drop_of_length_le (by omega)]
  simp
 | succ d ih =>
  intro k i hi hk
  obtain ⟨k, rfl⟩ : ∃ m, k = m + 1 := ⟨k - 1, by omega⟩
  simp only [spec_l1Has.l0]
  rw [if_pos (by omega), if_pos (by omega), rd_at l i (by omega), drop_cons l i (by omega)]
  by_cases h : l[i] = x
  ·rw [if_pos h]
   simp [h]
  ·rw [if_neg h, w64 (by omega) (by omega), show ((i : Int) + 1) = ((i + 1 : Nat) : Int) from by omega, ih k (i + 1) (by omega) (by omega)]
   have h2 : ¬ x = l[i] := fun e => h e.symm
   simp [-List.getElem_cons_drop, h2]
theorem l1Has_eq {k : Nat} {l : List Int} {x : Int} (hl : l.length ≤ 4000000) (hk : l.length < k) : spec_l1Has.f k l x = some (decide (x ∈ l)) := by
 unfold spec_l1Has.f
 have h := l1Has_l0 l x hl l.length k 0 (by omega) hk
 rw [List.drop_zero] at h
 exact h

/-- A value. -/
def valB (x : Int) : Bool := inB (-1000000000) 1000000000 x
theorem l1Value_eq (x : Int) : spec_l1Value.f x = some (valB x) := by
 unfold spec_l1Value.f valB
 rw [l1In_eq]
 rfl
theorem isValue_eq (x : Int) : impl_isValue.f x = some (valB x) := by
 unfold impl_isValue.f valB
 rw [in_eq]
 rfl
theorem areV_l0 (l : List Int) (hl : l.length ≤ 4000000) (d : Nat) : ∀ (k i : Nat), i + d = l.length → d < k → ∃ r, slices_IndexFunc_int_int_F99.l0 k l (l.length : Int) (i : Int) = some r ∧ decide (r ≥ 0) = !((l.drop i).all valB) := by
 induction d with
 | zero =>
  intro k i hi hk
  obtain ⟨k, rfl⟩ : ∃ m, k = m + 1 := ⟨k - 1, by omega⟩
  refine ⟨-1, ?_, ?_⟩
  ·simp only [slices_IndexFunc_int_int_F99.l0]
   rw [if_neg (by omega)]
  ·rw [List.drop_of_length_le (by omega)]
   simp
 | succ d ih =>
  intro k i hi hk
  obtain ⟨k, rfl⟩ : ∃ m, k = m + 1 := ⟨k - 1, by omega⟩
  simp only [slices_IndexFunc_int_int_F99.l0, impl_areValues_1.f, isValue_eq, Option.bind_some]
  rw [if_pos (by omega), if_pos (by omega), if_pos (by omega), rd_at l i (by omega), drop_cons l i (by omega), List.all_cons]
  cases h : valB l[i] with
  | false =>
   rw [if_pos (by rfl)]
   refine ⟨(i : Int), rfl, ?_⟩
   rw [decide_eq_true (by omega)]
   rfl
  | true =>
   rw [if_neg (by decide), w64 (by omega) (by omega), show ((i : Int) + 1) = ((i + 1 : Nat) : Int) from by omega]
   obtain ⟨r, h1, h2⟩ := ih k (i + 1) (by omega) (by omega)
   exact ⟨r, h1, by rw [h2]; rfl⟩
theorem areValues_eq {k : Nat} {l : List Int} (hl : l.length ≤ 4000000) (hk : l.length < k) : impl_areValues.f k l = some (l.all valB) := by
 unfold impl_areValues.f slices_ContainsFunc_int_int_F99.f slices_IndexFunc_int_int_F99.f
 obtain ⟨r, h1, h2⟩ := areV_l0 l hl l.length k 0 (by omega) hk
 rw [show ((0 : Nat) : Int) = 0 from rfl] at h1
 rw [h1, Option.bind_some, Option.bind_some, h2, List.drop_zero, Bool.not_not]


end Go.Proofs.Ytemdjfiimgjiaaa.R
namespace Go.Proofs.Ytemdjfiimgjiaaa.R
set_option linter.unusedVariables false
set_option linter.unusedSimpArgs false
open Go.RowKit Go.Proofs.YtemdjfiimgjiaaaW.PrintWords Go.Proofs.Ytemdjfiimgjiaaa.PbR

theorem rdB_set (l : List S77) (i : Nat) (y : S77) (h : i < l.length) : rd_T77 (l.set i y) (i : Int) = y := by
 simp [rd_T77, List.getD_eq_getElem?_getD, h]
theorem w01 : wrap64 ((0 : Int) + 1) = 1 := w64 (by decide) (by decide)
theorem w12 : wrap64 ((1 : Int) + 1) = 2 := w64 (by decide) (by decide)
theorem w23 : wrap64 ((2 : Int) + 1) = 3 := w64 (by decide) (by decide)

end Go.Proofs.Ytemdjfiimgjiaaa.R
namespace Go.Proofs.Ytemdjfiimgjiaaa.R
set_option linter.unusedVariables false
set_option linter.unusedSimpArgs false
open Go.RowKit Go.Proofs.YtemdjfiimgjiaaaW.PrintWords Go.Proofs.Ytemdjfiimgjiaaa.PbR

def okB (b : S77) : Bool := inB 0 5 b.f0 && (!(!b.f1 && b.f0 == 5) && (valB b.f2.f0 && (valB b.f2.f1 && valB b.f2.f2)))
def listedB (b : S77) : Bool := b.f1 && decide (b.f0 < 5)
theorem isListed_eq (b : S77) : impl_isListed.f b.f0 b.f1 b.f2.f0 b.f2.f1 b.f2.f2 = some (listedB b) := by
 unfold impl_isListed.f listedB
 cases b.f1 <;> simp
/-- The list from place j on. -/
def lsR (B : List S77) (L : List Int) (c : Int) : Nat → Nat → Bool
 | _, 0 => (L.length : Int) == c
 | j, d + 1 => inB 0 ((B.length : Int) - 1) (rd L j) && (listedB (rd_T77 B (rd L j)) && (!decide (rd L j ∈ L.take j) && lsR B L c (j + 1) d))
/-- The blocks from i on, then the list. -/
def arR (B : List S77) (L : List Int) : Nat → Nat → Int → Bool
 | _, 0, c => lsR B L c 0 L.length
 | i, d + 1, c => okB (rd_T77 B i) && arR B L (i + 1) d (if listedB (rd_T77 B i) = true then c + 1 else c)
def arOk (B : List S77) (L : List Int) : Bool := inB 1 24 (B.length : Int) && arR B L 0 B.length 0
theorem inB_iff {a b x : Int} : inB a b x = true ↔ a ≤ x ∧ x ≤ b := by
 unfold inB
 simp
theorem implArena_l1 (B : List S77) (L : List Int) (c : Int) (hB : B.length ≤ 4000000) (hL : L.length ≤ 4000000) (d : Nat) : ∀ (k j : Nat), j + d = L.length → d + L.length < k → impl_ArenaOk.l1 k c L (L.length : Int) (j : Int) B L = some (lsR B L c j d) := by
 induction d with
 | zero =>
  intro k j hj hk
  obtain ⟨k, rfl⟩ : ∃ m, k = m + 1 := ⟨k - 1, by omega⟩
  rw [impl_ArenaOk.l1, if_neg (by omega)]
  rfl
 | succ d ih =>
  intro k j hj hk
  obtain ⟨k, rfl⟩ : ∃ m, k = m + 1 := ⟨k - 1, by omega⟩
  have ih1 := ih k (j + 1) (by omega) (by omega)
  rw [impl_ArenaOk.l1, if_pos (by omega), if_pos (by omega), if_pos (by omega), w64 (x := (B.length : Int) - 1) (by omega) (by omega), in_eq, Option.bind_some]
  simp only [lsR]
  cases h : inB 0 ((B.length : Int) - 1) (rd L j) with
  | false => rw [if_neg Bool.false_ne_true, Bool.false_and]
  | true =>
   have h1 := inB_iff.1 h
   rw [if_pos rfl, Bool.true_and, if_pos (by omega), if_pos (by omega), isListed_eq, Option.bind_some]
   cases listedB (rd_T77 B (rd L j)) with
   | false => rw [if_neg Bool.false_ne_true, Bool.false_and]
   | true =>
    rw [if_pos rfl, Bool.true_and, if_pos (by omega), Int.toNat_natCast, contains_eq (by rw [List.length_take]; omega) (by rw [List.length_take]; omega), Option.bind_some]
    cases decide (rd L j ∈ L.take j) with
    | true => rw [if_pos rfl]; rfl
    | false => rw [if_neg Bool.false_ne_true, w64 (by omega) (by omega), show ((j : Int) + 1) = ((j + 1 : Nat) : Int) from by omega, ih1]; rfl
theorem specArena_l2 (B : List S77) (L : List Int) (c : Int) (hB : B.length ≤ 4000000) (hL : L.length ≤ 4000000) (hG : ∀ m : Nat, m < B.length → inB 0 5 (rd_T77 B m).f0 = true) (d : Nat) : ∀ (k j : Nat), j + d = L.length → d + L.length < k → spec_ArenaOk.l2 k c (j : Int) B L = some (lsR B L c j d) := by
 induction d with
 | zero =>
  intro k j hj hk
  obtain ⟨k, rfl⟩ : ∃ m, k = m + 1 := ⟨k - 1, by omega⟩
  rw [spec_ArenaOk.l2, if_neg (by omega)]
  rfl
 | succ d ih =>
  intro k j hj hk
  obtain ⟨k, rfl⟩ : ∃ m, k = m + 1 := ⟨k - 1, by omega⟩
  have ih1 := ih k (j + 1) (by omega) (by omega)
  rw [spec_ArenaOk.l2, if_pos (by omega), if_pos (by omega), w64 (x := (B.length : Int) - 1) (by omega) (by omega), l1In_eq, Option.bind_some]
  simp only [lsR]
  cases h : inB 0 ((B.length : Int) - 1) (rd L j) with
  | false => rw [if_neg Bool.false_ne_true, Bool.false_and]
  | true =>
   have h1 := inB_iff.1 h
   have h2 : inB 0 5 (rd_T77 B (rd L j)).f0 = true := by
    have h3 := hG (rd L j).toNat (by omega)
    rw [Int.toNat_of_nonneg h1.1] at h3
    exact h3
   have h3 := inB_iff.1 h2
   rw [if_pos rfl, Bool.true_and, if_pos (by omega), if_pos (by omega)]
   unfold listedB
   cases (rd_T77 B (rd L j)).f1 with
   | false => rw [if_neg Bool.false_ne_true, Bool.false_and, Bool.false_and]
   | true =>
    rw [if_pos rfl, Bool.true_and]
    by_cases h4 : (rd_T77 B (rd L j)).f0 = 5
    ·rw [if_pos h4, decide_eq_false (by omega), Bool.false_and]
    ·rw [if_neg h4, decide_eq_true (by omega), Bool.true_and, if_pos (by omega), Int.toNat_natCast, l1Has_eq (by rw [List.length_take]; omega) (by rw [List.length_take]; omega), Option.bind_some]
     cases decide (rd L j ∈ L.take j) with
     | true => rw [if_pos rfl]; rfl
     | false => rw [if_neg Bool.false_ne_true, w64 (by omega) (by omega), show ((j : Int) + 1) = ((j + 1 : Nat) : Int) from by omega, ih1]; rfl
theorem implArena_l0 (B : List S77) (L : List Int) (hB : B.length ≤ 4000000) (hL : L.length ≤ 4000000) (d : Nat) : ∀ (k i : Nat) (c : Int), i + d = B.length → 2 * d + 2 * L.length + 4 < k → 0 ≤ c → c ≤ i → impl_ArenaOk.l0 k c B (B.length : Int) (i : Int) B L = some (arR B L i d c) := by
 induction d with
 | zero =>
  intro k i c hi hk h0 h1
  obtain ⟨k, rfl⟩ : ∃ m, k = m + 1 := ⟨k - 1, by omega⟩
  have h := implArena_l1 B L c hB hL L.length k 0 (by omega) (by omega)
  rw [impl_ArenaOk.l0, if_neg (by omega)]
  exact h
 | succ d ih =>
  intro k i c hi hk h0 h1
  obtain ⟨k, rfl⟩ : ∃ m, k = m + 2 := ⟨k - 2, by omega⟩
  have ihA := ih k (i + 1) (c + 1) (by omega) (by omega) (by omega) (by omega)
  have ihB := ih k (i + 1) c (by omega) (by omega) (by omega) (by omega)
  have j1f : ∀ x : S77, impl_ArenaOk.j1 (k + 1) c B (B.length : Int) (i : Int) true B L x.f0 x.f1 x.f2.f0 x.f2.f1 x.f2.f2 = some false := by
   intro x
   rw [impl_ArenaOk.j1, if_pos rfl]
  have j1t : ∀ x : S77, impl_ArenaOk.j1 (k + 1) c B (B.length : Int) (i : Int) false B L x.f0 x.f1 x.f2.f0 x.f2.f1 x.f2.f2 = some (arR B L (i + 1) d (if listedB x = true then c + 1 else c)) := by
   intro x
   rw [impl_ArenaOk.j1, if_neg Bool.false_ne_true, isListed_eq, Option.bind_some, w64 (x := c + 1) (by omega) (by omega), w64 (x := (i : Int) + 1) (by omega) (by omega), show ((i : Int) + 1) = ((i + 1 : Nat) : Int) from by omega, ihA, ihB]
   split <;> rfl
  rw [impl_ArenaOk.l0, if_pos (by omega), if_pos (by omega), if_pos (by omega), in_eq, Option.bind_some]
  simp only [arR]
  generalize rd_T77 B (i : Int) = x
  rw [areValues_eq (by simp) (by simp; omega), Option.bind_some, j1f]
  have hv : ([x.f2.f0, x.f2.f1, x.f2.f2] : List Int).all valB = (valB x.f2.f0 && (valB x.f2.f1 && valB x.f2.f2)) := by simp [Bool.and_assoc]
  rw [hv]
  unfold okB
  cases inB 0 5 x.f0 with
  | false => rw [if_neg Bool.false_ne_true, Bool.false_and, Bool.false_and]
  | true =>
   rw [if_pos rfl, Bool.true_and]
   have hv2 : impl_ArenaOk.j1 (k + 1) c B (B.length : Int) (i : Int) (!(valB x.f2.f0 && (valB x.f2.f1 && valB x.f2.f2))) B L x.f0 x.f1 x.f2.f0 x.f2.f1 x.f2.f2 = some ((valB x.f2.f0 && (valB x.f2.f1 && valB x.f2.f2)) && arR B L (i + 1) d (if listedB x = true then c + 1 else c)) := by
    cases (valB x.f2.f0 && (valB x.f2.f1 && valB x.f2.f2)) with
    | false => rw [Bool.not_false, j1f, Bool.false_and]
    | true => rw [Bool.not_true, j1t, Bool.true_and]
   rw [hv2]
   cases h1 : x.f1 with
   | true => rw [if_pos rfl, Bool.not_true, Bool.false_and, Bool.not_false, Bool.true_and]
   | false =>
    rw [if_neg Bool.false_ne_true]
    by_cases h5 : x.f0 = 5
    ·rw [if_pos h5, h5]
     rfl
    ·rw [if_neg h5, Bool.not_false, Bool.true_and, show (x.f0 == 5) = false from by simpa using h5, Bool.not_false, Bool.true_and]
theorem implArena_eq {k : Nat} {B : List S77} {L : List Int} (hB : B.length ≤ 4000000) (hL : L.length ≤ 4000000) (hk : 2 * B.length + 2 * L.length + 4 < k) : impl_ArenaOk.f k B L = some (arOk B L) := by
 unfold impl_ArenaOk.f arOk
 rw [in_eq, Option.bind_some]
 have h := implArena_l0 B L hB hL B.length k 0 0 (by omega) hk (by omega) (by omega)
 rw [show ((0 : Nat) : Int) = 0 from rfl] at h
 cases inB 1 24 (B.length : Int) with
 | false => rw [if_neg Bool.false_ne_true, Bool.false_and]
 | true => rw [if_pos rfl, Bool.true_and, h]
theorem specArena_l1 (B : List S77) (L : List Int) (hB : B.length ≤ 4000000) (k i : Nat) (c : Int) (x : S77) (h0 : 0 ≤ c) (h1 : c ≤ i) (hi : i < B.length) : spec_ArenaOk.l1 (k + 4) c (i : Int) 0 B L x.f0 x.f1 x.f2.f0 x.f2.f1 x.f2.f2 = if (valB x.f2.f0 && (valB x.f2.f1 && valB x.f2.f2)) = true then spec_ArenaOk.l0 k (if listedB x = true then c + 1 else c) ((i + 1 : Nat) : Int) B L else some false := by
 rw [spec_ArenaOk.l1, if_pos (by decide), if_pos rfl, l1Value_eq, Option.bind_some]
 cases valB x.f2.f0 with
 | false => rw [if_neg Bool.false_ne_true, Bool.false_and, if_neg Bool.false_ne_true]
 | true =>
  rw [if_pos rfl, Bool.true_and, w01, spec_ArenaOk.l1, if_pos (by decide), if_neg (by decide), if_pos rfl, l1Value_eq, Option.bind_some]
  cases valB x.f2.f1 with
  | false => rw [if_neg Bool.false_ne_true, Bool.false_and, if_neg Bool.false_ne_true]
  | true =>
   rw [if_pos rfl, Bool.true_and, w12, spec_ArenaOk.l1, if_pos (by decide), if_neg (by decide), if_neg (by decide), if_pos rfl, l1Value_eq, Option.bind_some]
   cases valB x.f2.f2 with
   | false => rw [if_neg Bool.false_ne_true, if_neg Bool.false_ne_true]
   | true =>
    rw [if_pos rfl, if_pos rfl, w23, spec_ArenaOk.l1, if_neg (by decide), w64 (x := c + 1) (by omega) (by omega), w64 (x := (i : Int) + 1) (by omega) (by omega), show ((i : Int) + 1) = ((i + 1 : Nat) : Int) from by omega]
    unfold listedB
    cases x.f1 with
    | false => rw [if_neg Bool.false_ne_true, Bool.false_and, if_neg Bool.false_ne_true]
    | true =>
     rw [if_pos rfl, Bool.true_and]
     by_cases h5 : x.f0 < 5
     ·rw [if_pos h5, decide_eq_true h5, if_pos rfl]
     ·rw [if_neg h5, decide_eq_false h5, if_neg Bool.false_ne_true]
theorem specArena_l0 (B : List S77) (L : List Int) (hB : B.length ≤ 4000000) (hL : L.length ≤ 4000000) (d : Nat) : ∀ (k i : Nat) (c : Int), i + d = B.length → 6 * d + 2 * L.length + 6 < k → 0 ≤ c → c ≤ i → (∀ m : Nat, m < i → inB 0 5 (rd_T77 B m).f0 = true) → spec_ArenaOk.l0 k c (i : Int) B L = some (arR B L i d c) := by
 induction d with
 | zero =>
  intro k i c hi hk h0 h1 hG
  obtain ⟨k, rfl⟩ : ∃ m, k = m + 1 := ⟨k - 1, by omega⟩
  have h := specArena_l2 B L c hB hL (fun m hm => hG m (by omega)) L.length k 0 (by omega) (by omega)
  rw [spec_ArenaOk.l0, if_neg (by omega)]
  exact h
 | succ d ih =>
  intro k i c hi hk h0 h1 hG
  obtain ⟨k, rfl⟩ : ∃ m, k = m + 6 := ⟨k - 6, by omega⟩
  have ihC : inB 0 5 (rd_T77 B i).f0 = true → spec_ArenaOk.l0 k (if listedB (rd_T77 B i) = true then c + 1 else c) ((i + 1 : Nat) : Int) B L = some (arR B L (i + 1) d (if listedB (rd_T77 B i) = true then c + 1 else c)) := by
   intro hin
   have hG' : ∀ m : Nat, m < i + 1 → inB 0 5 (rd_T77 B m).f0 = true := by
    intro m hm
    by_cases e : m = i
    ·rw [e]; exact hin
    ·exact hG m (by omega)
   split
   ·exact ih k (i + 1) (c + 1) (by omega) (by omega) (by omega) (by omega) hG'
   ·exact ih k (i + 1) c (by omega) (by omega) (by omega) (by omega) hG'
  rw [spec_ArenaOk.l0, if_pos (by omega), if_pos (by omega), l1In_eq, Option.bind_some]
  simp only [arR]
  generalize rd_T77 B (i : Int) = x at *
  have j1f : spec_ArenaOk.j1 (k + 5) c (i : Int) true B L x.f0 x.f1 x.f2.f0 x.f2.f1 x.f2.f2 = some false := by
   rw [spec_ArenaOk.j1, if_pos rfl]
  have j1t : inB 0 5 x.f0 = true → spec_ArenaOk.j1 (k + 5) c (i : Int) false B L x.f0 x.f1 x.f2.f0 x.f2.f1 x.f2.f2 = some ((valB x.f2.f0 && (valB x.f2.f1 && valB x.f2.f2)) && arR B L (i + 1) d (if listedB x = true then c + 1 else c)) := by
   intro hin
   rw [spec_ArenaOk.j1, if_neg Bool.false_ne_true, specArena_l1 B L hB k i c x h0 h1 (by omega), ihC hin]
   cases (valB x.f2.f0 && (valB x.f2.f1 && valB x.f2.f2)) with
   | false => rw [if_neg Bool.false_ne_true, Bool.false_and]
   | true => rw [if_pos rfl, Bool.true_and]
  unfold okB
  cases hin : inB 0 5 x.f0 with
  | false => rw [if_neg Bool.false_ne_true, j1f, Bool.false_and, Bool.false_and]
  | true =>
   rw [if_pos rfl, Bool.true_and, j1t hin]
   cases h1 : x.f1 with
   | true => rw [if_pos rfl, Bool.not_true, Bool.false_and, Bool.not_false, Bool.true_and]
   | false =>
    rw [if_neg Bool.false_ne_true]
    have j1t' := j1t hin
    rw [h1] at j1f j1t'
    by_cases h5 : x.f0 = 5
    ·rw [show (x.f0 == 5) = true from by simpa using h5, j1f]
     rfl
    ·rw [show (x.f0 == 5) = false from by simpa using h5, j1t', Bool.not_false, Bool.true_and, Bool.not_false, Bool.true_and]
theorem specArena_eq {k : Nat} {B : List S77} {L : List Int} (hB : B.length ≤ 4000000) (hL : L.length ≤ 4000000) (hk : 6 * B.length + 2 * L.length + 6 < k) : spec_ArenaOk.f k B L = some (arOk B L) := by
 unfold spec_ArenaOk.f arOk
 rw [l1In_eq, Option.bind_some]
 have h := specArena_l0 B L hB hL B.length k 0 0 (by omega) hk (by omega) (by omega) (fun m hm => absurd hm (by omega))
 rw [show ((0 : Nat) : Int) = 0 from rfl] at h
 cases inB 1 24 (B.length : Int) with
 | false => rw [if_neg Bool.false_ne_true, Bool.false_and]
 | true => rw [if_pos rfl, Bool.true_and, h]

-- the laws' own: sizes, copies, comparisons

end Go.Proofs.Ytemdjfiimgjiaaa.R
namespace Go.Proofs.Ytemdjfiimgjiaaa.R
set_option linter.unusedVariables false
set_option linter.unusedSimpArgs false
open Go.RowKit Go.Proofs.YtemdjfiimgjiaaaW.PrintWords Go.Proofs.Ytemdjfiimgjiaaa.PbR

theorem own_eq {l : List Int} (hl : l.length ≤ 4000000) : impl_own.f l = some l := by
 unfold impl_own.f
 rw [Option.bind_some, if_pos (by simp only [List.length_nil]; omega), List.nil_append]
theorem l1Copy_eq {l : List Int} (hl : l.length ≤ 4000000) : spec_l1Copy.f l = some l := by
 unfold spec_l1Copy.f
 rw [Option.bind_some, if_pos (by simp only [List.length_nil]; omega), List.nil_append]
theorem ownArena_eq {B : List S77} {L : List Int} (hB : B.length ≤ 4000000) (hL : L.length ≤ 4000000) : impl_ownArena.f B L = some (B, L) := by
 unfold impl_ownArena.f
 rw [Option.bind_some, if_pos (by simp only [List.length_nil]; omega), own_eq hL, Option.bind_some, List.nil_append]
theorem l2Copy_eq {B : List S77} {L : List Int} (hB : B.length ≤ 4000000) (hL : L.length ≤ 4000000) : spec_l2Copy.f B L = some (B, L) := by
 unfold spec_l2Copy.f
 rw [Option.bind_some, if_pos (by simp only [List.length_nil]; omega), l1Copy_eq hL, Option.bind_some, List.nil_append]


end Go.Proofs.Ytemdjfiimgjiaaa.R
namespace Go.Proofs.Ytemdjfiimgjiaaa.R
set_option linter.unusedVariables false
set_option linter.unusedSimpArgs false
open Go.RowKit Go.Proofs.YtemdjfiimgjiaaaW.PrintWords Go.Proofs.Ytemdjfiimgjiaaa.PbR

theorem len_le_of_sub : ∀ (L S : List Int), L.Nodup → (∀ x ∈ L, x ∈ S) → L.length ≤ S.length
 | [], _, _, _ => Nat.zero_le _
 | a :: t, S, hn, hs => by
  have ha : a ∈ S := hs a (by simp)
  have hn2 := List.nodup_cons.1 hn
  have h := len_le_of_sub t (S.erase a) hn2.2 (fun x hx => by
   have hne : x ≠ a := fun e => hn2.1 (e ▸ hx)
   exact (List.mem_erase_of_ne hne).2 (hs x (by simp [hx])))
  have h2 := List.length_erase_of_mem ha
  have h3 := List.length_pos_of_mem ha
  simp only [List.length_cons]
  omega
/-- The listed places from i on. -/
def lpR (B : List S77) : Nat → Nat → List Int
 | _, 0 => []
 | i, d + 1 => if listedB (rd_T77 B i) = true then (i : Int) :: lpR B (i + 1) d else lpR B (i + 1) d
theorem arR_true (B : List S77) (L : List Int) (d : Nat) : ∀ (i : Nat) (c : Int), arR B L i d c = true → lsR B L (c + ((lpR B i d).length : Int)) 0 L.length = true ∧ ∀ m : Nat, i ≤ m → m < i + d → okB (rd_T77 B m) = true := by
 induction d with
 | zero =>
  intro i c h
  simp only [arR] at h
  refine ⟨?_, fun m h1 h2 => by omega⟩
  simpa [lpR] using h
 | succ d ih =>
  intro i c h
  simp only [arR, Bool.and_eq_true] at h
  have h1 := ih (i + 1) _ h.2
  refine ⟨?_, fun m hm1 hm2 => ?_⟩
  ·have h2 := h1.1
   simp only [lpR]
   by_cases hl : listedB (rd_T77 B i) = true
   ·rw [if_pos hl] at h2 ⊢
    rw [List.length_cons, show c + (((lpR B (i + 1) d).length + 1 : Nat) : Int) = c + 1 + ((lpR B (i + 1) d).length : Int) from by omega]
    exact h2
   ·rw [if_neg hl] at h2 ⊢
    exact h2
  ·by_cases e : m = i
   ·rw [e]; exact h.1
   ·exact h1.2 m (by omega) (by omega)
theorem lsR_true (B : List S77) (L : List Int) (c : Int) (d : Nat) : ∀ (j : Nat), j + d = L.length → lsR B L c j d = true → (L.length : Int) = c ∧ ∀ m : Nat, j ≤ m → m < L.length → inB 0 ((B.length : Int) - 1) (rd L m) = true ∧ listedB (rd_T77 B (rd L m)) = true ∧ ¬ rd L m ∈ L.take m := by
 induction d with
 | zero =>
  intro j hj h
  simp only [lsR] at h
  exact ⟨by simpa using h, fun m h1 h2 => by omega⟩
 | succ d ih =>
  intro j hj h
  simp only [lsR, Bool.and_eq_true] at h
  have h1 := ih (j + 1) (by omega) h.2.2.2
  refine ⟨h1.1, fun m hm1 hm2 => ?_⟩
  by_cases e : m = j
  ·rw [e]
   exact ⟨h.1, h.2.1, by simpa using h.2.2.1⟩
  ·exact h1.2 m (by omega) hm2
/-- What ArenaOk says. -/
theorem arOk_true {B : List S77} {L : List Int} (h : arOk B L = true) : (1 ≤ (B.length : Int) ∧ (B.length : Int) ≤ 24) ∧ (∀ m : Nat, m < B.length → okB (rd_T77 B m) = true) ∧ (∀ m : Nat, m < L.length → inB 0 ((B.length : Int) - 1) (rd L m) = true ∧ listedB (rd_T77 B (rd L m)) = true ∧ ¬ rd L m ∈ L.take m) ∧ L.length = (lpR B 0 B.length).length := by
 unfold arOk at h
 simp only [Bool.and_eq_true] at h
 have h1 := arR_true B L B.length 0 0 h.2
 have h2 := lsR_true B L _ L.length 0 (by omega) h1.1
 refine ⟨inB_iff.1 h.1, fun m hm => h1.2 m (by omega) (by omega), fun m hm => h2.2 m (by omega) hm, ?_⟩
 have h3 := h2.1
 omega
theorem gen_rng {B : List S77} {L : List Int} (h : arOk B L = true) {x : Int} (h0 : 0 ≤ x) (h1 : x < (B.length : Int)) : 0 ≤ (rd_T77 B x).f0 ∧ (rd_T77 B x).f0 ≤ 5 := by
 have h2 := (arOk_true h).2.1 x.toNat (by omega)
 rw [Int.toNat_of_nonneg h0] at h2
 unfold okB at h2
 simp only [Bool.and_eq_true] at h2
 exact inB_iff.1 h2.1


end Go.Proofs.Ytemdjfiimgjiaaa.R
namespace Go.Proofs.Ytemdjfiimgjiaaa.R
set_option linter.unusedVariables false
set_option linter.unusedSimpArgs false
open Go.RowKit Go.Proofs.YtemdjfiimgjiaaaW.PrintWords Go.Proofs.Ytemdjfiimgjiaaa.PbR

def takeR (B : List S77) (L : List Int) : List S77 × List Int × Int × Bool :=
 if arOk B L = true then (if (L.length : Int) = 0 then (B, L, -1, false) else (B.set (rd L 0).toNat ⟨(rd_T77 B (rd L 0)).f0, false, ⟨0, 0, 0⟩⟩, L.drop 1, 8 * rd L 0 + (rd_T77 B (rd L 0)).f0, true)) else (B, L, -1, false)
theorem specTake_eq {k : Nat} {B : List S77} {L : List Int} (ha : arOk B L = true) (hB : B.length ≤ 4000000) (hL : L.length ≤ 4000000) (hk : 6 * B.length + 2 * L.length + 6 < k) : spec_Take.f k B L = some (takeR B L) := by
 unfold spec_Take.f takeR
 rw [l2Copy_eq hB hL, Option.bind_some, specArena_eq hB hL hk, Option.bind_some]
 rw [ha]
 rw [if_pos rfl, if_pos rfl]
 by_cases h0 : (L.length : Int) = 0
 ·rw [if_pos h0, if_pos h0]
 ·have h1 := inB_iff.1 ((arOk_true ha).2.2.1 0 (by omega)).1
  rw [show ((0 : Nat) : Int) = 0 from rfl] at h1
  have h2 := gen_rng ha h1.1 (show rd L 0 < (B.length : Int) by omega)
  rw [if_neg h0, if_neg h0, if_pos (by omega), if_pos (by omega), l1Copy_eq (by rw [List.length_drop]; omega), Option.bind_some, if_pos h1.1, if_pos (by omega), if_pos (by simp only []; omega), w64 (x := 8 * rd L 0) (by omega) (by omega), w64 (by omega) (by omega)]


end Go.Proofs.Ytemdjfiimgjiaaa.R
namespace Go.Proofs.Ytemdjfiimgjiaaa.R
set_option linter.unusedVariables false
set_option linter.unusedSimpArgs false
open Go.RowKit Go.Proofs.YtemdjfiimgjiaaaW.PrintWords Go.Proofs.Ytemdjfiimgjiaaa.PbR

theorem w8 {h : Int} (h0 : 0 ≤ h) (h1 : h ≤ 9223372036854775807) : wrap64 (Int.tdiv h 8) = h / 8 := by
 rw [Int.tdiv_eq_ediv_of_nonneg h0, w64 (by omega) (by omega)]
def liveB (B : List S77) (L : List Int) (h : Int) : Bool := arOk B L && (inB 0 (8 * (B.length : Int) - 1) h && (!(rd_T77 B (h / 8)).f1 && ((rd_T77 B (h / 8)).f0 == h % 8)))
theorem implLive_eq {k : Nat} {B : List S77} {L : List Int} {h : Int} (ha : arOk B L = true) (hB : B.length ≤ 4000000) (hL : L.length ≤ 4000000) (hk : 2 * B.length + 2 * L.length + 4 < k) : impl_Live.f k B L h = some (liveB B L h) := by
 unfold impl_Live.f liveB
 rw [implArena_eq hB hL hk, Option.bind_some, w64 (x := 8 * (B.length : Int)) (by omega) (by omega), w64 (x := 8 * (B.length : Int) - 1) (by omega) (by omega), in_eq, Option.bind_some]
 rw [ha]
 rw [if_pos rfl, Bool.true_and]
 cases hi : inB 0 (8 * (B.length : Int) - 1) h with
 | false => rw [if_neg Bool.false_ne_true, Bool.false_and]
 | true =>
  have h1 := inB_iff.1 hi
  rw [if_pos rfl, Bool.true_and, w8 h1.1 (by omega), Int.tmod_eq_emod_of_nonneg h1.1, if_pos (by omega), if_pos (by omega)]
  cases (rd_T77 B (h / 8)).f1 <;> rfl
theorem specLive_eq {k : Nat} {B : List S77} {L : List Int} {h : Int} (ha : arOk B L = true) (hB : B.length ≤ 4000000) (hL : L.length ≤ 4000000) (hk : 6 * B.length + 2 * L.length + 6 < k) : spec_Live.f k B L h = some (liveB B L h) := by
 unfold spec_Live.f liveB
 rw [specArena_eq hB hL hk, Option.bind_some, w64 (x := 8 * (B.length : Int)) (by omega) (by omega), w64 (x := 8 * (B.length : Int) - 1) (by omega) (by omega), l1In_eq, Option.bind_some]
 rw [ha]
 rw [if_pos rfl, Bool.true_and]
 cases hi : inB 0 (8 * (B.length : Int) - 1) h with
 | false => rw [if_neg Bool.false_ne_true, Bool.false_and]
 | true =>
  have h1 := inB_iff.1 hi
  rw [if_pos rfl, Bool.true_and, w8 h1.1 (by omega), Int.tmod_eq_emod_of_nonneg h1.1, if_pos (by omega), if_pos (by omega)]
  cases (rd_T77 B (h / 8)).f1 <;> rfl
theorem liveB_rng {B : List S77} {L : List Int} {h : Int} (hb : liveB B L h = true) : 0 ≤ h ∧ h ≤ 8 * (B.length : Int) - 1 := by
 unfold liveB at hb
 simp only [Bool.and_eq_true] at hb
 exact inB_iff.1 hb.2.1
theorem liveB_gen {B : List S77} {L : List Int} {h : Int} (hb : liveB B L h = true) : (rd_T77 B (h / 8)).f0 = h % 8 := by
 unfold liveB at hb
 simp only [Bool.and_eq_true] at hb
 exact by simpa using hb.2.2.2


end Go.Proofs.Ytemdjfiimgjiaaa.R
namespace Go.Proofs.Ytemdjfiimgjiaaa.R
set_option linter.unusedVariables false
set_option linter.unusedSimpArgs false
open Go.RowKit Go.Proofs.YtemdjfiimgjiaaaW.PrintWords Go.Proofs.Ytemdjfiimgjiaaa.PbR

def giveR (B : List S77) (L : List Int) (h : Int) : List S77 × List Int × Bool :=
 if liveB B L h = true then (B.set (h / 8).toNat ⟨(rd_T77 B (h / 8)).f0 + 1, true, (rd_T77 B (h / 8)).f2⟩, if (rd_T77 B (h / 8)).f0 + 1 < 5 then [h / 8] ++ L else L, true) else (B, L, false)
theorem rdB_setI {B : List S77} {q : Int} (y : S77) (h0 : 0 ≤ q) (h1 : q < (B.length : Int)) : rd_T77 (B.set q.toNat y) q = y := by
 have h := rdB_set B q.toNat y (by omega)
 rw [Int.toNat_of_nonneg h0] at h
 exact h
theorem implGive_eq {k : Nat} {B : List S77} {L : List Int} {h : Int} (ha : arOk B L = true) (hB : B.length ≤ 4000000) (hL : L.length ≤ 4000000) (hk : 2 * B.length + 2 * L.length + 4 < k) : impl_Give.f k B L h = some (giveR B L h) := by
 unfold impl_Give.f giveR
 rw [ownArena_eq hB hL, Option.bind_some, implLive_eq ha hB hL hk, Option.bind_some]
 cases hb : liveB B L h with
 | false => rw [if_neg Bool.false_ne_true, if_neg Bool.false_ne_true]
 | true =>
  have h1 := liveB_rng hb
  have h2 := liveB_gen hb
  rw [if_pos rfl, if_pos rfl, w8 h1.1 (by omega), if_pos (by omega), if_pos (by simp only []; omega), Option.bind_some, Option.bind_some]
  simp only [rdB_setI _ (show 0 ≤ h / 8 by omega) (show h / 8 < (B.length : Int) by omega), List.set_set, Option.bind_some]
  rw [w64 (x := (rd_T77 B (h / 8)).f0 + 1) (by omega) (by omega)]
  rw [isListed_eq (⟨(rd_T77 B (h / 8)).f0 + 1, true, (rd_T77 B (h / 8)).f2⟩), Option.bind_some]
  by_cases h3 : (rd_T77 B (h / 8)).f0 + 1 < 5
  ·rw [if_pos (by simp [listedB, h3]), if_pos h3, if_pos (by simp; omega)]
  ·rw [if_neg (by simp [listedB, h3]), if_neg h3]
theorem specGive_eq {k : Nat} {B : List S77} {L : List Int} {h : Int} (ha : arOk B L = true) (hB : B.length ≤ 4000000) (hL : L.length ≤ 4000000) (hk : 6 * B.length + 2 * L.length + 6 < k) : spec_Give.f k B L h = some (giveR B L h) := by
 unfold spec_Give.f giveR
 rw [l2Copy_eq hB hL, Option.bind_some, specLive_eq ha hB hL hk, Option.bind_some]
 cases hb : liveB B L h with
 | false => rw [if_neg Bool.false_ne_true, if_neg Bool.false_ne_true]
 | true =>
  have h1 := liveB_rng hb
  have h2 := liveB_gen hb
  rw [if_pos rfl, if_pos rfl, w8 h1.1 (by omega), if_pos (by omega), if_pos (by simp only []; omega), Option.bind_some, Option.bind_some]
  simp only [rdB_setI _ (show 0 ≤ h / 8 by omega) (show h / 8 < (B.length : Int) by omega), List.set_set, Option.bind_some]
  rw [w64 (x := (rd_T77 B (h / 8)).f0 + 1) (by omega) (by omega)]
  by_cases h3 : (rd_T77 B (h / 8)).f0 + 1 < 5
  ·rw [if_pos h3, if_pos h3, if_pos (by simp; omega)]
  ·rw [if_neg h3, if_neg h3]


end Go.Proofs.Ytemdjfiimgjiaaa.R
namespace Go.Proofs.Ytemdjfiimgjiaaa.R
set_option linter.unusedVariables false
set_option linter.unusedSimpArgs false
open Go.RowKit Go.Proofs.YtemdjfiimgjiaaaW.PrintWords Go.Proofs.Ytemdjfiimgjiaaa.PbR

/-- Free blocks and their places from i on. -/
def nwB : Nat → List S77
 | 0 => []
 | d + 1 => ⟨0, true, ⟨0, 0, 0⟩⟩ :: nwB d
def nwL : Nat → Nat → List Int
 | _, 0 => []
 | i, d + 1 => (i : Int) :: nwL (i + 1) d
theorem nwB_len : ∀ d, (nwB d).length = d
 | 0 => rfl
 | d + 1 => by simp [nwB, nwB_len d]
theorem nwL_len : ∀ d i, (nwL i d).length = d
 | 0, _ => rfl
 | d + 1, i => by simp [nwL, nwL_len d]
def newR (n : Int) : List S77 × List Int × Bool := if inB 1 24 n = true then (nwB n.toNat, nwL 0 n.toNat, true) else ([], [], false)
theorem specNew_l0 (n : Int) (hn : n ≤ 24) (d : Nat) : ∀ (k i : Nat) (P : List S77) (Q : List Int), (i : Int) + d = n → d < k → P.length = i → Q.length = i → spec_NewArena.l0 k n (i : Int) P Q = some (P ++ nwB d, Q ++ nwL i d, true) := by
 induction d with
 | zero =>
  intro k i P Q hi hk hP hQ
  obtain ⟨k, rfl⟩ : ∃ m, k = m + 1 := ⟨k - 1, by omega⟩
  rw [spec_NewArena.l0, if_neg (by omega)]
  simp [nwB, nwL]
 | succ d ih =>
  intro k i P Q hi hk hP hQ
  obtain ⟨k, rfl⟩ : ∃ m, k = m + 1 := ⟨k - 1, by omega⟩
  rw [spec_NewArena.l0, if_pos (by omega), if_pos (by omega), if_pos (by omega), w64 (by omega) (by omega), show ((i : Int) + 1) = ((i + 1 : Nat) : Int) from by omega, ih k (i + 1) _ _ (by omega) (by omega) (by simp [hP]) (by simp [hQ])]
  simp [nwB, nwL, List.append_assoc]
theorem specNew_eq {k : Nat} {n : Int} (hk : 24 < k) : spec_NewArena.f k n = some (newR n) := by
 unfold spec_NewArena.f newR
 rw [l1In_eq, Option.bind_some]
 cases h : inB 1 24 n with
 | false => rw [if_neg Bool.false_ne_true, if_neg Bool.false_ne_true]
 | true =>
  have h1 := inB_iff.1 h
  have h2 := specNew_l0 n h1.2 n.toNat k 0 [] [] (by omega) (by omega) rfl rfl
  rw [show ((0 : Nat) : Int) = 0 from rfl] at h2
  rw [if_pos rfl, if_pos rfl, h2]
  rfl

end Go.Proofs.Ytemdjfiimgjiaaa.R
namespace Go.Proofs.Ytemdjfiimgjiaaa.R
set_option linter.unusedVariables false
set_option linter.unusedSimpArgs false
open Go.RowKit Go.Proofs.YtemdjfiimgjiaaaW.PrintWords Go.Proofs.Ytemdjfiimgjiaaa.PbR

theorem rdT_nat (B : List S77) (i : Nat) (h : i < B.length) : rd_T77 B (i : Int) = B[i] := by
 simp [rd_T77, List.getD_eq_getElem?_getD, List.getElem?_eq_getElem h]
theorem rdT_mem (B : List S77) {x : Int} (h0 : 0 ≤ x) (h1 : x < (B.length : Int)) : rd_T77 B x ∈ B := by
 obtain ⟨i, rfl⟩ := Int.eq_ofNat_of_zero_le h0
 rw [rdT_nat B i (by omega)]
 exact List.getElem_mem _
theorem rdT_ne (B : List S77) {x q : Int} (y : S77) (h0 : 0 ≤ x) (hq : 0 ≤ q) (h : x ≠ q) : rd_T77 (B.set q.toNat y) x = rd_T77 B x := by
 simp only [rd_T77, List.getD_eq_getElem?_getD]
 rw [List.getElem?_set_ne (by omega)]
theorem cnt_set (p : S77 → Bool) (B : List S77) {q : Int} (y : S77) (h0 : 0 ≤ q) (h1 : q < (B.length : Int)) : (B.set q.toNat y).countP p + (if p (rd_T77 B q) = true then 1 else 0) = B.countP p + (if p y = true then 1 else 0) := by
 obtain ⟨i, rfl⟩ := Int.eq_ofNat_of_zero_le h0
 rw [rdT_nat B i (by omega), Int.toNat_natCast, List.countP_set (by omega)]
 have h : (if p B[i] = true then 1 else 0) ≤ B.countP p := by
  split
  ·next hp => exact List.countP_pos_iff.2 ⟨_, List.getElem_mem _, hp⟩
  ·exact Nat.zero_le _
 omega
theorem okB_iff (b : S77) : okB b = true ↔ (0 ≤ b.f0 ∧ b.f0 ≤ 5) ∧ (b.f1 = false → b.f0 ≠ 5) ∧ valB b.f2.f0 = true ∧ valB b.f2.f1 = true ∧ valB b.f2.f2 = true := by
 unfold okB
 simp only [Bool.and_eq_true, inB_iff]
 constructor
 ·rintro ⟨h1, h2, h3⟩
  exact ⟨h1, fun h e => by rw [h, e] at h2; simp at h2, h3⟩
 ·rintro ⟨h1, h2, h3⟩
  refine ⟨h1, ?_, h3⟩
  cases hf : b.f1 with
  | true => rfl
  | false => have := h2 hf; simp [this]
theorem lsR_intro (B : List S77) (L : List Int) (c : Int) (hx : ∀ x ∈ L, (0 ≤ x ∧ x < (B.length : Int)) ∧ listedB (rd_T77 B x) = true) (hn : L.Nodup) (hc : (L.length : Int) = c) (d : Nat) : ∀ j : Nat, j + d = L.length → lsR B L c j d = true := by
 induction d with
 | zero => intro j h; rw [lsR]; simpa using hc
 | succ d ih =>
  intro j h
  rw [lsR, ih (j + 1) (by omega), rd_at L j (by omega)]
  have hm := hx L[j] (List.getElem_mem _)
  rw [hm.2, inB_iff.2 (show (0 : Int) ≤ L[j] ∧ L[j] ≤ (B.length : Int) - 1 by omega)]
  have hno : ¬ L[j] ∈ L.take j := by
   intro hin
   have h1 : (L.take (j + 1)).Nodup := hn.sublist (List.take_sublist _ _)
   rw [List.take_succ_eq_append_getElem (by omega : j < L.length)] at h1
   exact (List.nodup_append.1 h1).2.2 _ hin _ (by simp) rfl
  rw [decide_eq_false hno]
  rfl
theorem arR_intro (B : List S77) (L : List Int) (hok : ∀ b ∈ B, okB b = true) (hx : ∀ x ∈ L, (0 ≤ x ∧ x < (B.length : Int)) ∧ listedB (rd_T77 B x) = true) (hn : L.Nodup) (d : Nat) : ∀ (i : Nat) (c : Int), i + d = B.length → (L.length : Int) = c + ((B.drop i).countP listedB : Nat) → arR B L i d c = true := by
 induction d with
 | zero =>
  intro i c h hc
  rw [arR]
  rw [List.drop_eq_nil_of_le (by omega)] at hc
  exact lsR_intro B L c hx hn (by simpa using hc) L.length 0 (by omega)
 | succ d ih =>
  intro i c h hc
  rw [List.drop_eq_getElem_cons (by omega : i < B.length), List.countP_cons] at hc
  rw [arR, rdT_nat B i (by omega), hok _ (List.getElem_mem _), Bool.true_and]
  refine ih (i + 1) _ (by omega) ?_
  by_cases hp : listedB B[i] = true
  ·rw [if_pos hp] at hc ⊢; omega
  ·rw [if_neg hp] at hc ⊢; omega
structure Ar (B : List S77) (L : List Int) : Prop where
 n1 : 1 ≤ B.length
 n4 : B.length ≤ 24
 ok : ∀ b ∈ B, okB b = true
 ls : ∀ x ∈ L, (0 ≤ x ∧ x < (B.length : Int)) ∧ listedB (rd_T77 B x) = true
 nd : L.Nodup
 ln : L.length = B.countP listedB
theorem Ar.arOk {B : List S77} {L : List Int} (h : Ar B L) : arOk B L = true := by
 show (inB 1 24 (B.length : Int) && arR B L 0 B.length 0) = true
 have h1 := h.n1
 have h4 := h.n4
 rw [inB_iff.2 ⟨by omega, by omega⟩, Bool.true_and]
 exact arR_intro B L h.ok h.ls h.nd B.length 0 0 (by omega) (by rw [List.drop_zero, h.ln]; omega)
theorem Ar.set {B : List S77} {L L' : List Int} {q : Int} {y : S77} (h : Ar B L) (h0 : 0 ≤ q) (h1 : q < (B.length : Int)) (hy : okB y = true) (hs : ∀ x ∈ L', (0 ≤ x ∧ x < (B.length : Int)) ∧ (x ≠ q → listedB (rd_T77 B x) = true) ∧ (x = q → listedB y = true)) (hn : L'.Nodup) (hl : L'.length + (if listedB (rd_T77 B q) = true then 1 else 0) = L.length + (if listedB y = true then 1 else 0)) : Ar (B.set q.toNat y) L' := by
 refine ⟨by rw [List.length_set]; exact h.n1, by rw [List.length_set]; exact h.n4, ?_, ?_, hn, ?_⟩
 ·intro b hb
  rcases List.mem_or_eq_of_mem_set hb with hb | rfl
  ·exact h.ok b hb
  ·exact hy
 ·intro x hx
  rw [List.length_set]
  have := hs x hx
  refine ⟨this.1, ?_⟩
  by_cases e : x = q
  ·rw [e, rdB_setI y h0 h1]; exact this.2.2 e
  ·rw [rdT_ne B y this.1.1 h0 e]; exact this.2.1 e
 ·have := cnt_set listedB B y h0 h1
  have := h.ln
  omega
theorem nwB_mem : ∀ (d : Nat) (b : S77), b ∈ nwB d → b = ⟨0, true, ⟨0, 0, 0⟩⟩
 | 0, b, h => by simp [nwB] at h
 | d + 1, b, h => by
  rcases List.mem_cons.1 (show b ∈ (⟨0, true, ⟨0, 0, 0⟩⟩ : S77) :: nwB d from h) with h | h
  ·exact h
  ·exact nwB_mem d b h
theorem nwL_mem : ∀ (d i : Nat) (x : Int), x ∈ nwL i d → (i : Int) ≤ x ∧ x < (i : Int) + d
 | 0, i, x, h => by simp [nwL] at h
 | d + 1, i, x, h => by
  rcases List.mem_cons.1 (show x ∈ (i : Int) :: nwL (i + 1) d from h) with h | h
  ·omega
  ·have := nwL_mem d (i + 1) x h
   omega
theorem nwL_nodup : ∀ (d i : Nat), (nwL i d).Nodup
 | 0, i => by simp [nwL]
 | d + 1, i => by
  rw [nwL]
  refine List.nodup_cons.2 ⟨fun h => ?_, nwL_nodup d (i + 1)⟩
  have := nwL_mem d (i + 1) _ h
  omega
theorem cnt_all (p : S77 → Bool) (r : Bool) : ∀ (B : List S77), (∀ b ∈ B, p b = r) → B.countP p = if r = true then B.length else 0
 | [], _ => by simp
 | b :: B, h => by
  rw [List.countP_cons, cnt_all p r B (fun x hx => h x (List.mem_cons_of_mem _ hx)), h b (by simp)]
  cases r <;> simp
/-- A handle that is live. -/
def LV (B : List S77) (h : Int) : Prop := (0 ≤ h ∧ h < 8 * (B.length : Int)) ∧ (rd_T77 B (h / 8)).f1 = false ∧ (rd_T77 B (h / 8)).f0 = h % 8
theorem Ar.len {B : List S77} {L : List Int} (h : Ar B L) : L.length ≤ 24 := by
 rw [h.ln]; exact Nat.le_trans List.countP_le_length h.n4
theorem live_iff {B : List S77} {L : List Int} (h : Ar B L) (x : Int) : liveB B L x = true ↔ LV B x := by
 unfold liveB LV
 rw [h.arOk, Bool.true_and, Bool.and_eq_true, inB_iff, Bool.and_eq_true, Bool.not_eq_true', beq_iff_eq]
 constructor
 ·rintro ⟨h1, h2, h3⟩
  exact ⟨⟨h1.1, by omega⟩, h2, h3⟩
 ·rintro ⟨h1, h2, h3⟩
  exact ⟨⟨h1.1, by omega⟩, h2, h3⟩
theorem LV.place {B : List S77} {x y : Int} (hx : LV B x) (hy : LV B y) (h : x / 8 = y / 8) : x = y := by
 have h1 := hx.2.2
 have h2 := hy.2.2
 rw [h] at h1
 omega
/-- What a give of a live handle comes to. -/
theorem give_ok {B : List S77} {L : List Int} (h : Ar B L) {x : Int} (hx : LV B x) : ∃ B' L', giveR B L x = (B', L', true) ∧ Ar B' L' ∧ B'.length = B.length ∧ (∀ y, LV B y → y ≠ x → LV B' y) ∧ (∀ q : Int, 0 ≤ q → (rd_T77 B q).f1 = true → (rd_T77 B' q).f1 = true) ∧ (rd_T77 B' (x / 8)).f1 = true := by
 have q0 : 0 ≤ x / 8 := by have := hx.1; omega
 have q1 : x / 8 < (B.length : Int) := by have := hx.1; omega
 have hb := (okB_iff _).1 (h.ok _ (rdT_mem B q0 q1))
 have h5 := hb.2.1 hx.2.1
 have hnl : listedB (rd_T77 B (x / 8)) = false := by unfold listedB; rw [hx.2.1]; rfl
 have hqL : ¬ x / 8 ∈ L := fun hm => by
  have := (h.ls _ hm).2
  rw [hnl] at this
  exact absurd this (by simp)
 have hby : listedB (⟨(rd_T77 B (x / 8)).f0 + 1, true, (rd_T77 B (x / 8)).f2⟩ : S77) = decide ((rd_T77 B (x / 8)).f0 + 1 < 5) := by unfold listedB; simp
 refine ⟨_, _, by unfold giveR; rw [if_pos ((live_iff h x).2 hx)], ?_, by rw [List.length_set], ?_, ?_, by rw [rdB_setI _ q0 q1]⟩
 ·refine h.set q0 q1 ((okB_iff _).2 ⟨by simp only []; omega, fun e => absurd e (by simp), hb.2.2⟩) (fun y hy => ?_) ?_ ?_
  ·by_cases hc : (rd_T77 B (x / 8)).f0 + 1 < 5
   ·rw [if_pos hc] at hy
    rcases List.mem_cons.1 hy with hy | hy
    ·subst hy
     exact ⟨⟨q0, q1⟩, fun e => absurd rfl e, fun _ => by rw [hby]; exact decide_eq_true hc⟩
    ·have := h.ls y hy
     exact ⟨this.1, fun _ => this.2, fun e => absurd (e ▸ hy) hqL⟩
   ·rw [if_neg hc] at hy
    have := h.ls y hy
    exact ⟨this.1, fun _ => this.2, fun e => absurd (e ▸ hy) hqL⟩
  ·split
   ·exact List.nodup_cons.2 ⟨hqL, h.nd⟩
   ·exact h.nd
  ·rw [hnl, hby]
   by_cases hc : (rd_T77 B (x / 8)).f0 + 1 < 5
   ·rw [if_pos hc, decide_eq_true hc]; simp
   ·rw [if_neg hc, decide_eq_false hc]
 ·intro y hy hne
  have hp : y / 8 ≠ x / 8 := fun e => hne (hy.place hx e)
  have := hy.1
  refine ⟨by rw [List.length_set]; exact hy.1, ?_⟩
  rw [rdT_ne B _ (by omega) q0 hp]
  exact hy.2
 ·intro q hq hf
  by_cases e : q = x / 8
  ·rw [e, rdB_setI _ q0 q1]
  ·rw [rdT_ne B _ hq q0 e]
   exact hf
/-- What a take comes to. -/
theorem take_ok {B : List S77} {L : List Int} (h : Ar B L) : ∃ B' L' x b, takeR B L = (B', L', x, b) ∧ Ar B' L' ∧ B'.length = B.length ∧ (∀ y, LV B y → LV B' y) := by
 unfold takeR
 rw [if_pos h.arOk]
 cases L with
 | nil =>
  rw [if_pos (by simp)]
  exact ⟨B, [], _, _, rfl, h, rfl, fun y hy => hy⟩
 | cons p L =>
  rw [if_neg (by simp only [List.length_cons]; omega)]
  have e0 : rd (p :: L) 0 = p := rd_at (p :: L) 0 (by simp)
  rw [e0]
  have hp := h.ls p (by simp)
  have hb := (okB_iff _).1 (h.ok _ (rdT_mem B hp.1.1 hp.1.2))
  have hl : (rd_T77 B p).f1 = true ∧ (rd_T77 B p).f0 < 5 := by
   have := hp.2
   unfold listedB at this
   simpa using this
  have hnd := List.nodup_cons.1 h.nd
  refine ⟨_, _, _, _, rfl, ?_, by rw [List.length_set], ?_⟩
  ·refine h.set hp.1.1 hp.1.2 ((okB_iff _).2 ⟨hb.1, fun _ => by simp only []; omega, (rfl : valB 0 = true), (rfl : valB 0 = true), (rfl : valB 0 = true)⟩) (fun x hx => ?_) hnd.2 ?_
   ·have := h.ls x (List.mem_cons_of_mem _ hx)
    exact ⟨this.1, fun _ => this.2, fun e => absurd (e ▸ hx) hnd.1⟩
   ·rw [if_pos hp.2]
    simp [listedB]
  ·intro y hy
   have hne : y / 8 ≠ p := fun e => by
    have := hy.2.1
    rw [e, hl.1] at this
    exact absurd this (by simp)
   have := hy.1
   refine ⟨by rw [List.length_set]; exact hy.1, ?_⟩
   rw [rdT_ne B _ (by omega) hp.1.1 hne]
   exact hy.2
theorem ar_new {n : Nat} (h1 : 1 ≤ n) (h4 : n ≤ 24) : Ar (nwB n) (nwL 0 n) := by
 have hb := nwB_mem n
 refine ⟨by rw [nwB_len]; exact h1, by rw [nwB_len]; exact h4, fun b h => by rw [hb b h]; decide, fun x hx => ?_, nwL_nodup n 0, ?_⟩
 ·have h := nwL_mem n 0 x hx
  rw [nwB_len]
  refine ⟨by omega, ?_⟩
  rw [hb _ (rdT_mem (nwB n) (by omega) (by rw [nwB_len]; omega))]
  decide
 ·rw [nwL_len, cnt_all listedB true _ (fun b h => by rw [hb b h]; decide), if_pos rfl, nwB_len]


end Go.Proofs.Ytemdjfiimgjiaaa.R
namespace Go.Proofs.Ytemdjfiimgjiaaa.R
set_option linter.unusedSimpArgs false
open Go.RowKit Go.Proofs.YtemdjfiimgjiaaaW.PrintWords Go.Proofs.Ytemdjfiimgjiaaa.PbR

theorem rdT41_at (l : List S41) (i : Nat) (h : i < l.length) : rd_T41 l (i : Int) = l[i] := by
 simp [rd_T41, List.getD_eq_getElem?_getD, List.getElem?_eq_getElem h]

end Go.Proofs.Ytemdjfiimgjiaaa.R
namespace Go.Proofs.Ytemdjfiimgjiaaa.R
set_option linter.unusedVariables false
set_option linter.unusedSimpArgs false
open Go.RowKit Go.Proofs.YtemdjfiimgjiaaaW.PrintWords Go.Proofs.Ytemdjfiimgjiaaa.PbR

def hasG (l : List S41) (x : Int) : Bool := l.any (fun g => g.f0 == x)
theorem find_l0 (l : List S41) (x : Int) (hl : l.length ≤ 4000000) (d : Nat) : ∀ (k i : Nat), i + d = l.length → d < k → ∃ r, spec_l3Find.l0 k l x (i : Int) = some r ∧ decide (r ≥ 0) = hasG (l.drop i) x := by
 induction d with
 | zero =>
  intro k i hi hk
  obtain ⟨k, rfl⟩ : ∃ m, k = m + 1 := ⟨k - 1, by omega⟩
  refine ⟨-1, ?_, ?_⟩
  ·rw [spec_l3Find.l0, if_neg (by omega)]
  ·rw [List.drop_of_length_le (by omega)]
   rfl
 | succ d ih =>
  intro k i hi hk
  obtain ⟨k, rfl⟩ : ∃ m, k = m + 1 := ⟨k - 1, by omega⟩
  rw [spec_l3Find.l0, if_pos (by omega), if_pos (by omega), rdT41_at l i (by omega), drop_cons l i (by omega)]
  by_cases h : l[i].f0 = x
  ·rw [if_pos h]
   refine ⟨(i : Int), rfl, ?_⟩
   rw [decide_eq_true (by omega)]
   simp only [hasG, List.any_cons]
   rw [show (l[i].f0 == x) = true from by simpa using h, Bool.true_or]
  ·rw [if_neg h, w64 (by omega) (by omega), show ((i : Int) + 1) = ((i + 1 : Nat) : Int) from by omega]
   obtain ⟨r, h1, h2⟩ := ih k (i + 1) (by omega) (by omega)
   refine ⟨r, h1, ?_⟩
   rw [h2]
   simp only [hasG, List.any_cons]
   rw [show (l[i].f0 == x) = false from by simpa using h, Bool.false_or]
theorem find_eq {k : Nat} {l : List S41} {x : Int} (hl : l.length ≤ 4000000) (hk : l.length < k) : ∃ r, spec_l3Find.f k l x = some r ∧ decide (r ≥ 0) = hasG l x := by
 unfold spec_l3Find.f
 obtain ⟨r, h1, h2⟩ := find_l0 l x hl l.length k 0 (by omega) hk
 rw [List.drop_zero] at h2
 exact ⟨r, h1, h2⟩
theorem ret_l0 (l : List S41) (x : Int) (hl : l.length ≤ 4000000) (d : Nat) : ∀ (k i : Nat), i + d = l.length → d < k → ∃ r, impl_Gone_F86c900001_102.l0 k l (l.length : Int) (i : Int) x = some r ∧ decide (r ≥ 0) = hasG (l.drop i) x := by
 induction d with
 | zero =>
  intro k i hi hk
  obtain ⟨k, rfl⟩ : ∃ m, k = m + 1 := ⟨k - 1, by omega⟩
  refine ⟨-1, ?_, ?_⟩
  ·rw [impl_Gone_F86c900001_102.l0, if_neg (by omega)]
  ·rw [List.drop_of_length_le (by omega)]
   rfl
 | succ d ih =>
  intro k i hi hk
  obtain ⟨k, rfl⟩ : ∃ m, k = m + 1 := ⟨k - 1, by omega⟩
  rw [impl_Gone_F86c900001_102.l0, if_pos (by omega), if_pos (by omega), if_pos (by omega), impl_isRetired_1_c2.f, Option.bind_some, rdT41_at l i (by omega), drop_cons l i (by omega)]
  by_cases h : l[i].f0 = x
  ·rw [if_pos (by simpa using h)]
   refine ⟨(i : Int), rfl, ?_⟩
   rw [decide_eq_true (by omega)]
   simp only [hasG, List.any_cons]
   rw [show (l[i].f0 == x) = true from by simpa using h, Bool.true_or]
  ·rw [if_neg (by simpa using h), w64 (by omega) (by omega), show ((i : Int) + 1) = ((i + 1 : Nat) : Int) from by omega]
   obtain ⟨r, h1, h2⟩ := ih k (i + 1) (by omega) (by omega)
   refine ⟨r, h1, ?_⟩
   rw [h2]
   simp only [hasG, List.any_cons]
   rw [show (l[i].f0 == x) = false from by simpa using h, Bool.false_or]
theorem isRetired_eq {k : Nat} {l : List S41} {x : Int} (hl : l.length ≤ 4000000) (hk : l.length < k) : impl_isRetired.f k l x = some (hasG l x) := by
 unfold impl_isRetired.f impl_Gone_F86c900001.f impl_Gone_F86c900001_102.f
 obtain ⟨r, h1, h2⟩ := ret_l0 l x hl l.length k 0 (by omega) hk
 rw [show ((0 : Nat) : Int) = 0 from rfl] at h1
 rw [List.drop_zero] at h2
 rw [h1, Option.bind_some, Option.bind_some, h2]
theorem pins_l0 (l : List Int) (p : Int) (hl : l.length ≤ 4000000) (d : Nat) : ∀ (k i : Nat), i + d = l.length → d < k → ∃ r, slices_IndexFunc_int_int_F46c900002.l0 k l (l.length : Int) (i : Int) p = some r ∧ decide (r ≥ 0) = !((l.drop i).all (inB (-1) p)) := by
 induction d with
 | zero =>
  intro k i hi hk
  obtain ⟨k, rfl⟩ : ∃ m, k = m + 1 := ⟨k - 1, by omega⟩
  refine ⟨-1, ?_, ?_⟩
  ·rw [slices_IndexFunc_int_int_F46c900002.l0, if_neg (by omega)]
  ·rw [List.drop_of_length_le (by omega)]
   rfl
 | succ d ih =>
  intro k i hi hk
  obtain ⟨k, rfl⟩ : ∃ m, k = m + 1 := ⟨k - 1, by omega⟩
  rw [slices_IndexFunc_int_int_F46c900002.l0, if_pos (by omega), if_pos (by omega), if_pos (by omega), impl_YardOk_1_c2.f, in_eq, Option.bind_some, Option.bind_some, rd_at l i (by omega), drop_cons l i (by omega), List.all_cons]
  cases h : inB (-1) p l[i] with
  | false =>
   rw [if_pos (by rfl)]
   refine ⟨(i : Int), rfl, ?_⟩
   rw [decide_eq_true (by omega)]
   rfl
  | true =>
   rw [if_neg (by decide), w64 (by omega) (by omega), show ((i : Int) + 1) = ((i + 1 : Nat) : Int) from by omega]
   obtain ⟨r, h1, h2⟩ := ih k (i + 1) (by omega) (by omega)
   exact ⟨r, h1, by rw [h2]; rfl⟩
theorem pins_eq {k : Nat} {l : List Int} {p : Int} (hl : l.length ≤ 4000000) (hk : l.length < k) : slices_ContainsFunc_int_int_F46c900002.f k l p = some (!(l.all (inB (-1) p))) := by
 unfold slices_ContainsFunc_int_int_F46c900002.f slices_IndexFunc_int_int_F46c900002.f
 obtain ⟨r, h1, h2⟩ := pins_l0 l p hl l.length k 0 (by omega) hk
 rw [show ((0 : Nat) : Int) = 0 from rfl] at h1
 rw [h1, Option.bind_some, h2, List.drop_zero]

/-- The retired handles from i on. -/
def goR (B : List S77) (L : List Int) (R : List S41) (p : Int) : Nat → Nat → Int → Bool
 | _, 0, _ => true
 | i, d + 1, c => inB c p (rd_T41 R i).f1 && (liveB B L (rd_T41 R i).f0 && (!hasG (R.take i) (rd_T41 R i).f0 && goR B L R p (i + 1) d (rd_T41 R i).f1))
def yardB (B : List S77) (L Q : List Int) (R : List S41) (p : Int) : Bool :=
 arOk B L && (inB 1 6 (Q.length : Int) && (inB 0 1000000 p && (!decide ((R.length : Int) > 24) && (Q.all (inB (-1) p) && goR B L R p 0 R.length 0))))
theorem implYard_l0 (B : List S77) (L Q : List Int) (R : List S41) (p : Int) (ha : arOk B L = true) (hB : B.length ≤ 4000000) (hL : L.length ≤ 4000000) (hR : R.length ≤ 4000000) (d : Nat) : ∀ (k i : Nat) (c : Int), i + d = R.length → d + R.length + 2 * B.length + 2 * L.length + 6 < k →
  impl_YardOk.l0 k c R (R.length : Int) (i : Int) B L Q R p = some (goR B L R p i d c) := by
 induction d with
 | zero =>
  intro k i c hi hk
  obtain ⟨k, rfl⟩ : ∃ m, k = m + 1 := ⟨k - 1, by omega⟩
  rw [impl_YardOk.l0, if_neg (by omega)]
  rfl
 | succ d ih =>
  intro k i c hi hk
  obtain ⟨k, rfl⟩ : ∃ m, k = m + 1 := ⟨k - 1, by omega⟩
  have ih1 := ih k (i + 1) (rd_T41 R i).f1 (by omega) (by omega)
  rw [impl_YardOk.l0, if_pos (by omega), if_pos (by omega), if_pos (by omega), in_eq, Option.bind_some]
  simp only [goR]
  cases inB c p (rd_T41 R i).f1 with
  | false => rw [if_neg Bool.false_ne_true, Bool.false_and]
  | true =>
   rw [if_pos rfl, Bool.true_and, implLive_eq ha hB hL (by omega), Option.bind_some]
   cases liveB B L (rd_T41 R i).f0 with
   | false => rw [if_neg Bool.false_ne_true, Bool.false_and]
   | true =>
    rw [if_pos rfl, Bool.true_and, if_pos (by omega), Int.toNat_natCast, isRetired_eq (by rw [List.length_take]; omega) (by rw [List.length_take]; omega), Option.bind_some]
    cases hasG (R.take i) (rd_T41 R i).f0 with
    | true => rw [if_pos rfl]; rfl
    | false => rw [if_neg Bool.false_ne_true, w64 (by omega) (by omega), show ((i : Int) + 1) = ((i + 1 : Nat) : Int) from by omega, ih1]; rfl
theorem implYard_eq {k : Nat} {B : List S77} {L Q : List Int} {R : List S41} {p : Int} (ha : arOk B L = true) (hB : B.length ≤ 4000000) (hL : L.length ≤ 4000000) (hQ : Q.length ≤ 4000000) (hR : R.length ≤ 4000000) (hk : 2 * R.length + 2 * B.length + 2 * L.length + Q.length + 10 < k) :
  impl_YardOk.f k B L Q R p = some (yardB B L Q R p) := by
 obtain ⟨k, rfl⟩ : ∃ m, k = m + 1 := ⟨k - 1, by omega⟩
 have hl := implYard_l0 B L Q R p ha hB hL hR R.length k 0 0 (by omega) (by omega)
 rw [show ((0 : Nat) : Int) = 0 from rfl] at hl
 unfold impl_YardOk.f yardB
 rw [implArena_eq hB hL (by omega), Option.bind_some, in_eq, Option.bind_some, in_eq, Option.bind_some]
 have j0t : impl_YardOk.j0 (k + 1) true B L Q R p = some false := by rw [impl_YardOk.j0, if_pos rfl]
 rw [j0t]
 rw [ha]
 rw [if_pos rfl, Bool.true_and]
 cases inB 1 6 (Q.length : Int) with
 | false => rw [if_neg Bool.false_ne_true, Bool.false_and]
 | true =>
  rw [if_pos rfl, Bool.true_and]
  cases inB 0 1000000 p with
  | false => rw [if_neg Bool.false_ne_true, Bool.false_and]
  | true =>
   rw [if_pos rfl, Bool.true_and]
   cases decide ((R.length : Int) > 24) with
   | true => rw [j0t]; rfl
   | false =>
    rw [impl_YardOk.j0, if_neg Bool.false_ne_true, pins_eq hQ (by omega), Option.bind_some, Bool.not_false, Bool.true_and]
    cases Q.all (inB (-1) p) with
    | false => rw [Bool.not_false, if_pos rfl, Bool.false_and]
    | true => rw [Bool.not_true, if_neg Bool.false_ne_true, hl, Bool.true_and]
theorem specYard_l0 (B : List S77) (L Q : List Int) (R : List S41) (p : Int) (ha : arOk B L = true) (hB : B.length ≤ 4000000) (hL : L.length ≤ 4000000) (hR : R.length ≤ 4000000) (d : Nat) : ∀ (k i : Nat) (c : Int), i + d = R.length → d + R.length + 6 * B.length + 2 * L.length + 8 < k → 0 ≤ c → (i = 0 → c = 0) → (∀ m : Nat, i = m + 1 → (rd_T41 R m).f1 = c) →
  spec_YardOk.l0 k (i : Int) B L Q R p = some (goR B L R p i d c) := by
 induction d with
 | zero =>
  intro k i c hi hk h0 hc hm
  obtain ⟨k, rfl⟩ : ∃ m, k = m + 1 := ⟨k - 1, by omega⟩
  rw [spec_YardOk.l0, if_neg (by omega)]
  rfl
 | succ d ih =>
  intro k i c hi hk h0 hc hm
  obtain ⟨k, rfl⟩ : ∃ m, k = m + 1 := ⟨k - 1, by omega⟩
  have hm' : ∀ m : Nat, i + 1 = m + 1 → (rd_T41 R m).f1 = (rd_T41 R i).f1 := by
   intro m e
   have e2 : m = i := by omega
   rw [e2]
  have ih1 : 0 ≤ (rd_T41 R i).f1 → spec_YardOk.l0 k ((i + 1 : Nat) : Int) B L Q R p = some (goR B L R p (i + 1) d (rd_T41 R i).f1) := fun hg => ih k (i + 1) (rd_T41 R i).f1 (by omega) (by omega) hg (fun e => absurd e (by omega)) hm'
  obtain ⟨r, hr1, hr2⟩ := find_eq (k := k) (l := R.take i) (x := (rd_T41 R i).f0) (by rw [List.length_take]; omega) (by rw [List.length_take]; omega)
  rw [spec_YardOk.l0, if_pos (by omega), if_pos (by omega), specLive_eq ha hB hL (by omega), Option.bind_some, l1In_eq, Option.bind_some, Int.toNat_natCast, hr1, Option.bind_some, w64 (x := (i : Int) + 1) (by omega) (by omega), show ((i : Int) + 1) = ((i + 1 : Nat) : Int) from by omega]
  simp only [goR]
  cases liveB B L (rd_T41 R i).f0 with
  | false => rw [if_neg Bool.false_ne_true, Bool.false_and, Bool.and_false]
  | true =>
   rw [if_pos rfl, Bool.true_and]
   cases hin : inB 0 p (rd_T41 R i).f1 with
   | false =>
    rw [if_neg Bool.false_ne_true]
    have h2 : inB c p (rd_T41 R i).f1 = false := by
     cases h3 : inB c p (rd_T41 R i).f1 with
     | false => rfl
     | true =>
      have h4 := inB_iff.1 h3
      rw [inB_iff.2 ⟨by omega, h4.2⟩] at hin
      exact hin
    rw [h2, Bool.false_and]
   | true =>
    have h1 := inB_iff.1 hin
    have ih2 := ih1 h1.1
    rw [if_pos rfl, ih2]
    have fin : (if r ≥ 0 then some false else some (goR B L R p (i + 1) d (rd_T41 R i).f1)) = some (!hasG (R.take i) (rd_T41 R i).f0 && goR B L R p (i + 1) d (rd_T41 R i).f1) := by
     rw [← hr2]
     by_cases hge : r ≥ 0
     ·rw [if_pos hge, decide_eq_true hge]; rfl
     ·rw [if_neg hge, decide_eq_false hge]; rfl
    by_cases hi0 : i = 0
    ·rw [if_neg (by omega), if_pos (by omega), fin]
     have h5 := hc hi0
     rw [h5, hin, Bool.true_and]
    ·obtain ⟨m, hmi⟩ : ∃ m, i = m + 1 := ⟨i - 1, by omega⟩
     have h6 := hm m hmi
     have e1 : wrap64 ((i : Int) - 1) = (m : Int) := by rw [w64 (by omega) (by omega)]; omega
     rw [if_pos (by omega), e1, if_pos (by omega), if_pos (by omega), h6, if_pos (show (i : Int) ≤ (R.length : Int) by omega), fin]
     by_cases h7 : c > (rd_T41 R i).f1
     ·rw [if_pos h7]
      have h2 : inB c p (rd_T41 R i).f1 = false := by
       cases h3 : inB c p (rd_T41 R i).f1 with
       | false => rfl
       | true =>
        have h4 := inB_iff.1 h3
        omega
      rw [h2, Bool.false_and]
     ·rw [if_neg h7, inB_iff.2 ⟨by omega, h1.2⟩, Bool.true_and]
theorem l1All_l0 (l : List Int) (a b : Int) (hl : l.length ≤ 4000000) (d : Nat) : ∀ (k i : Nat), i + d = l.length → d < k → spec_l1All.l0 k l a b (i : Int) = some ((l.drop i).all (inB a b)) := by
 induction d with
 | zero =>
  intro k i hi hk
  obtain ⟨k, rfl⟩ : ∃ m, k = m + 1 := ⟨k - 1, by omega⟩
  rw [spec_l1All.l0, if_neg (by omega), List.drop_of_length_le (by omega)]
  rfl
 | succ d ih =>
  intro k i hi hk
  obtain ⟨k, rfl⟩ : ∃ m, k = m + 1 := ⟨k - 1, by omega⟩
  rw [spec_l1All.l0, if_pos (by omega), if_pos (by omega), rd_at l i (by omega), l1In_eq, Option.bind_some, drop_cons l i (by omega), List.all_cons]
  cases h : inB a b l[i] with
  | true =>
   rw [if_pos rfl, w64 (by omega) (by omega), show ((i : Int) + 1) = ((i + 1 : Nat) : Int) from by omega, ih k (i + 1) (by omega) (by omega), Bool.true_and]
  | false => simp
theorem l1All_eq {k : Nat} {l : List Int} {a b : Int} (hl : l.length ≤ 4000000) (hk : l.length < k) : spec_l1All.f k l a b = some (l.all (inB a b)) := by
 unfold spec_l1All.f
 exact l1All_l0 l a b hl l.length k 0 (by omega) hk
theorem specYard_eq {k : Nat} {B : List S77} {L Q : List Int} {R : List S41} {p : Int} (ha : arOk B L = true) (hB : B.length ≤ 4000000) (hL : L.length ≤ 4000000) (hQ : Q.length ≤ 4000000) (hR : R.length ≤ 4000000) (hk : 2 * R.length + 6 * B.length + 2 * L.length + Q.length + 12 < k) :
  spec_YardOk.f k B L Q R p = some (yardB B L Q R p) := by
 obtain ⟨k, rfl⟩ : ∃ m, k = m + 1 := ⟨k - 1, by omega⟩
 have hl := specYard_l0 B L Q R p ha hB hL hR R.length k 0 0 (by omega) (by omega) (by omega) (fun _ => rfl) (fun m e => absurd e (by omega))
 rw [show ((0 : Nat) : Int) = 0 from rfl] at hl
 unfold spec_YardOk.f yardB
 rw [specArena_eq hB hL (by omega), Option.bind_some, l1In_eq, Option.bind_some, l1In_eq, Option.bind_some, l1All_eq hQ (by omega), Option.bind_some]
 have j0t : spec_YardOk.j0 (k + 1) true B L Q R p = some false := by rw [spec_YardOk.j0, if_pos rfl]
 rw [j0t]
 rw [ha]
 rw [if_pos rfl, Bool.true_and]
 cases inB 0 1000000 p with
 | false => rw [if_neg Bool.false_ne_true, Bool.false_and, Bool.and_false]
 | true =>
  rw [if_pos rfl, Bool.true_and]
  cases inB 1 6 (Q.length : Int) with
  | false => rw [if_neg Bool.false_ne_true, Bool.false_and]
  | true =>
   rw [if_pos rfl, Bool.true_and]
   cases Q.all (inB (-1) p) with
   | false => rw [if_neg Bool.false_ne_true, Bool.false_and, Bool.and_false]
   | true =>
    rw [if_pos rfl, Bool.true_and]
    cases decide ((R.length : Int) > 24) with
    | true => rw [j0t]; rfl
    | false => rw [spec_YardOk.j0, if_neg Bool.false_ne_true, hl]; rfl
theorem yardB_ar {B : List S77} {L Q : List Int} {R : List S41} {p : Int} (h : yardB B L Q R p = true) : arOk B L = true := by
 unfold yardB at h
 simp only [Bool.and_eq_true] at h
 exact h.1


end Go.Proofs.Ytemdjfiimgjiaaa.R
namespace Go.Proofs.Ytemdjfiimgjiaaa.R
set_option linter.unusedVariables false
set_option linter.unusedSimpArgs false
open Go.RowKit Go.Proofs.YtemdjfiimgjiaaaW.PrintWords Go.Proofs.Ytemdjfiimgjiaaa.PbR

theorem l3Copy_eq {B : List S77} {L Q : List Int} {R : List S41} {p : Int} (hB : B.length ≤ 4000000) (hL : L.length ≤ 4000000) (hQ : Q.length ≤ 4000000) (hR : R.length ≤ 4000000) : spec_l3Copy.f B L Q R p = some (B, L, Q, R, p) := by
 unfold spec_l3Copy.f
 rw [l2Copy_eq hB hL, Option.bind_some, l1Copy_eq hQ, Option.bind_some, Option.bind_some, if_pos (by simp only [List.length_nil]; omega), List.nil_append]
theorem ownYard_eq {B : List S77} {L Q : List Int} {R : List S41} {p : Int} (hB : B.length ≤ 4000000) (hL : L.length ≤ 4000000) (hQ : Q.length ≤ 4000000) (hR : R.length ≤ 4000000) : impl_ownYard.f B L Q R p = some (B, L, Q, R, p) := by
 unfold impl_ownYard.f
 rw [ownArena_eq hB hL, Option.bind_some, own_eq hQ, Option.bind_some, Option.bind_some, if_pos (by simp only [List.length_nil]; omega), List.nil_append]

def retR (B : List S77) (L Q : List Int) (R : List S41) (p h : Int) : List S77 × List Int × List Int × List S41 × Int × Int :=
 if yardB B L Q R p = true then (if liveB B L h = true then (if hasG R h = true then (B, L, Q, R, p, 4) else (if (R.length : Int) = 24 then (B, L, Q, R, p, 5) else (B, L, Q, R ++ [⟨h, p⟩], p, 0))) else (B, L, Q, R, p, 4)) else (B, L, Q, R, p, 1)
theorem specRetire_eq {k : Nat} {B : List S77} {L Q : List Int} {R : List S41} {p h : Int} (hy : yardB B L Q R p = true) (hB : B.length ≤ 4000000) (hL : L.length ≤ 4000000) (hQ : Q.length ≤ 4000000) (hR : R.length ≤ 4000000) (hk : 2 * R.length + 6 * B.length + 2 * L.length + Q.length + 14 < k) : spec_Retire.f k B L Q R p h = some (retR B L Q R p h) := by
 obtain ⟨k, rfl⟩ : ∃ m, k = m + 1 := ⟨k - 1, by omega⟩
 have j0t : spec_Retire.j0 (k + 1) h true B L Q R p B L Q R p = some (B, L, Q, R, p, 4) := by rw [spec_Retire.j0, if_pos rfl]
 have j0f : spec_Retire.j0 (k + 1) h false B L Q R p B L Q R p = some (if (R.length : Int) = 24 then (B, L, Q, R, p, 5) else (B, L, Q, R ++ [⟨h, p⟩], p, 0)) := by
  rw [spec_Retire.j0, if_neg Bool.false_ne_true]
  split
  ·rfl
  ·rw [if_pos (by omega)]
 obtain ⟨r, hr1, hr2⟩ := find_eq (k := k + 1) (l := R) (x := h) hR (by omega)
 unfold spec_Retire.f retR
 rw [l3Copy_eq hB hL hQ hR, Option.bind_some, specYard_eq (yardB_ar hy) hB hL hQ hR (by omega), Option.bind_some, specLive_eq (yardB_ar hy) hB hL (by omega), Option.bind_some, hr1, Option.bind_some, hr2, j0t]
 rw [hy]
 rw [if_pos rfl, if_pos rfl]
 cases liveB B L h with
 | false => rw [if_neg Bool.false_ne_true, if_neg Bool.false_ne_true]
 | true =>
  rw [if_pos rfl, if_pos rfl]
  cases hasG R h with
  | true => rw [j0t, if_pos rfl]
  | false => rw [j0f, if_neg Bool.false_ne_true]

def pinR (B : List S77) (L Q : List Int) (R : List S41) (p t : Int) : List S77 × List Int × List Int × List S41 × Int × Int :=
 if yardB B L Q R p = true then (if inB 0 ((Q.length : Int) - 1) t = true then (if rd Q t ≥ 0 then (B, L, Q, R, p, 2) else (B, L, Q.set t.toNat p, R, p, 0)) else (B, L, Q, R, p, 1)) else (B, L, Q, R, p, 1)
def unpinR (B : List S77) (L Q : List Int) (R : List S41) (p t : Int) : List S77 × List Int × List Int × List S41 × Int × Int :=
 if yardB B L Q R p = true then (if inB 0 ((Q.length : Int) - 1) t = true then (if rd Q t < 0 then (B, L, Q, R, p, 3) else (B, L, Q.set t.toNat (-1), R, p, 0)) else (B, L, Q, R, p, 1)) else (B, L, Q, R, p, 1)
/-- What YardOk says of the pins. -/
theorem yardB_pins {B : List S77} {L Q : List Int} {R : List S41} {p : Int} (h : yardB B L Q R p = true) : (0 ≤ p ∧ p ≤ 1000000) ∧ (R.length ≤ 24) ∧ (∀ m : Nat, m < Q.length → -1 ≤ rd Q m ∧ rd Q m ≤ p) ∧ goR B L R p 0 R.length 0 = true := by
 unfold yardB at h
 simp only [Bool.and_eq_true] at h
 refine ⟨inB_iff.1 h.2.2.1, ?_, fun m hm => ?_, h.2.2.2.2.2⟩
 ·have h1 := h.2.2.2.1
  simp only [Bool.not_eq_true', decide_eq_false_iff_not] at h1
  omega
 ·have h1 := List.all_eq_true.1 h.2.2.2.2.1 (Q[m]) (List.getElem_mem hm)
  rw [rd_at Q m hm]
  exact inB_iff.1 h1
theorem yardB_pin {B : List S77} {L Q : List Int} {R : List S41} {p t : Int} (h : yardB B L Q R p = true) (h0 : 0 ≤ t) (h1 : t < (Q.length : Int)) : -1 ≤ rd Q t := by
 have h2 := (yardB_pins h).2.2.1 t.toNat (by omega)
 rw [Int.toNat_of_nonneg h0] at h2
 exact h2.1
theorem specPin_eq {k : Nat} {B : List S77} {L Q : List Int} {R : List S41} {p t : Int} (hy : yardB B L Q R p = true) (hB : B.length ≤ 4000000) (hL : L.length ≤ 4000000) (hQ : Q.length ≤ 4000000) (hR : R.length ≤ 4000000) (hk : 2 * R.length + 6 * B.length + 2 * L.length + Q.length + 14 < k) : spec_Pin.f k B L Q R p t = some (pinR B L Q R p t) := by
 unfold spec_Pin.f pinR
 rw [l3Copy_eq hB hL hQ hR, Option.bind_some, specYard_eq (yardB_ar hy) hB hL hQ hR (by omega), Option.bind_some, hy, if_pos rfl, if_pos rfl, w64 (x := (Q.length : Int) - 1) (by omega) (by omega), l1In_eq, Option.bind_some]
 cases hi : inB 0 ((Q.length : Int) - 1) t with
 | false => rw [if_neg Bool.false_ne_true, if_neg Bool.false_ne_true]
 | true =>
  have h1 := inB_iff.1 hi
  rw [if_pos rfl, if_pos rfl, if_pos h1.1, if_pos (show t < (Q.length : Int) by omega), if_pos (show t < (Q.length : Int) by omega)]
  split <;> rfl
theorem specUnpin_eq {k : Nat} {B : List S77} {L Q : List Int} {R : List S41} {p t : Int} (hy : yardB B L Q R p = true) (hB : B.length ≤ 4000000) (hL : L.length ≤ 4000000) (hQ : Q.length ≤ 4000000) (hR : R.length ≤ 4000000) (hk : 2 * R.length + 6 * B.length + 2 * L.length + Q.length + 14 < k) : spec_Unpin.f k B L Q R p t = some (unpinR B L Q R p t) := by
 unfold spec_Unpin.f unpinR
 rw [l3Copy_eq hB hL hQ hR, Option.bind_some, specYard_eq (yardB_ar hy) hB hL hQ hR (by omega), Option.bind_some, hy, if_pos rfl, if_pos rfl, w64 (x := (Q.length : Int) - 1) (by omega) (by omega), l1In_eq, Option.bind_some]
 cases hi : inB 0 ((Q.length : Int) - 1) t with
 | false => rw [if_neg Bool.false_ne_true, if_neg Bool.false_ne_true]
 | true =>
  have h1 := inB_iff.1 hi
  rw [if_pos rfl, if_pos rfl, if_pos h1.1, if_pos (show t < (Q.length : Int) by omega), if_pos (show t < (Q.length : Int) by omega)]
  split <;> rfl
theorem implPin_eq {k : Nat} {B : List S77} {L Q : List Int} {R : List S41} {p t : Int} (hy : yardB B L Q R p = true) (hB : B.length ≤ 4000000) (hL : L.length ≤ 4000000) (hQ : Q.length ≤ 4000000) (hR : R.length ≤ 4000000) (hk : 2 * R.length + 2 * B.length + 2 * L.length + Q.length + 14 < k) : impl_Pin.f k B L Q R p t = some (pinR B L Q R p t) := by
 obtain ⟨k, rfl⟩ : ∃ m, k = m + 3 := ⟨k - 3, by omega⟩
 unfold impl_Pin.f impl_pinned.f pinR
 rw [ownYard_eq hB hL hQ hR, Option.bind_some, implYard_eq (yardB_ar hy) hB hL hQ hR (by omega), Option.bind_some, hy, w64 (x := (Q.length : Int) - 1) (by omega) (by omega), in_eq, Option.bind_some]
 repeat rw [if_pos (rfl : true = true)]
 cases hi : inB 0 ((Q.length : Int) - 1) t with
 | false => repeat (first | rw [if_neg Bool.false_ne_true] | rw [Option.bind_some])
 | true =>
  have h1 := inB_iff.1 hi
  have h2 := yardB_pin hy h1.1 (show t < (Q.length : Int) by omega)
  repeat rw [if_pos (rfl : true = true)]
  rw [if_pos h1.1, if_pos (show t < (Q.length : Int) by omega), impl_pinned.j0]
  by_cases h3 : rd Q t ≥ 0
  ·rw [if_pos h3, if_pos (by simp; omega), Option.bind_some]
  ·rw [if_neg h3, if_neg (by simp; omega), if_pos rfl, impl_pinned.j1, if_neg Bool.false_ne_true, if_pos h1.1, if_pos (show t < (Q.length : Int) by omega), Option.bind_some, if_pos rfl, Option.bind_some, List.set_set]
theorem implUnpin_eq {k : Nat} {B : List S77} {L Q : List Int} {R : List S41} {p t : Int} (hy : yardB B L Q R p = true) (hB : B.length ≤ 4000000) (hL : L.length ≤ 4000000) (hQ : Q.length ≤ 4000000) (hR : R.length ≤ 4000000) (hk : 2 * R.length + 2 * B.length + 2 * L.length + Q.length + 14 < k) : impl_Unpin.f k B L Q R p t = some (unpinR B L Q R p t) := by
 obtain ⟨k, rfl⟩ : ∃ m, k = m + 3 := ⟨k - 3, by omega⟩
 unfold impl_Unpin.f impl_pinned.f unpinR
 rw [ownYard_eq hB hL hQ hR, Option.bind_some, implYard_eq (yardB_ar hy) hB hL hQ hR (by omega), Option.bind_some, hy, w64 (x := (Q.length : Int) - 1) (by omega) (by omega), in_eq, Option.bind_some]
 repeat rw [if_pos (rfl : true = true)]
 cases hi : inB 0 ((Q.length : Int) - 1) t with
 | false => repeat (first | rw [if_neg Bool.false_ne_true] | rw [Option.bind_some])
 | true =>
  have h1 := inB_iff.1 hi
  have h2 := yardB_pin hy h1.1 (show t < (Q.length : Int) by omega)
  repeat rw [if_pos (rfl : true = true)]
  rw [if_neg Bool.false_ne_true, impl_pinned.j0, if_neg Bool.false_ne_true, if_neg Bool.false_ne_true, if_pos h1.1, if_pos (show t < (Q.length : Int) by omega), impl_pinned.j1]
  by_cases h3 : rd Q t < 0
  ·rw [if_pos h3, if_pos (by simp; omega), Option.bind_some]
  ·rw [if_neg h3, if_neg (by simp; omega), if_pos h1.1, if_pos (show t < (Q.length : Int) by omega), Option.bind_some, if_neg Bool.false_ne_true, Option.bind_some]


end Go.Proofs.Ytemdjfiimgjiaaa.R
namespace Go.Proofs.Ytemdjfiimgjiaaa.R
set_option linter.unusedVariables false
set_option linter.unusedSimpArgs false
open Go.RowKit Go.Proofs.YtemdjfiimgjiaaaW.PrintWords Go.Proofs.Ytemdjfiimgjiaaa.PbR

/-- Is what was retired at pass s kept: is a thread pinned at s or before. -/
def keepB (Q : List Int) (s : Int) : Bool := Q.any (fun x => !(x == -1) && decide (s ≥ x))
theorem keep1_eq (x s : Int) : impl_Pass_1_c2.f x s = some (!(x == -1) && decide (s ≥ x)) := by
 unfold impl_Pass_1_c2.f
 by_cases h : x = -1
 ·rw [if_pos h, h]
  rfl
 ·rw [if_neg h, show (x == -1) = false from by simpa using h, Bool.not_false, Bool.true_and]
theorem keep_l0 (l : List Int) (s : Int) (hl : l.length ≤ 4000000) (d : Nat) : ∀ (k i : Nat), i + d = l.length → d < k → ∃ r, slices_IndexFunc_int_int_F50c900003.l0 k l (l.length : Int) (i : Int) s = some r ∧ decide (r ≥ 0) = keepB (l.drop i) s := by
 induction d with
 | zero =>
  intro k i hi hk
  obtain ⟨k, rfl⟩ : ∃ m, k = m + 1 := ⟨k - 1, by omega⟩
  refine ⟨-1, ?_, ?_⟩
  ·rw [slices_IndexFunc_int_int_F50c900003.l0, if_neg (by omega)]
  ·rw [List.drop_of_length_le (by omega)]
   rfl
 | succ d ih =>
  intro k i hi hk
  obtain ⟨k, rfl⟩ : ∃ m, k = m + 1 := ⟨k - 1, by omega⟩
  rw [slices_IndexFunc_int_int_F50c900003.l0, if_pos (by omega), if_pos (by omega), if_pos (by omega), keep1_eq, Option.bind_some, rd_at l i (by omega), drop_cons l i (by omega)]
  simp only [keepB, List.any_cons]
  cases h : (!(l[i] == -1) && decide (s ≥ l[i])) with
  | true =>
   rw [if_pos rfl]
   refine ⟨(i : Int), rfl, ?_⟩
   rw [decide_eq_true (by omega)]
   rfl
  | false =>
   rw [if_neg Bool.false_ne_true, w64 (by omega) (by omega), show ((i : Int) + 1) = ((i + 1 : Nat) : Int) from by omega]
   obtain ⟨r, h1, h2⟩ := ih k (i + 1) (by omega) (by omega)
   exact ⟨r, h1, by rw [h2]; rfl⟩
theorem keep_eq {k : Nat} {l : List Int} {s : Int} (hl : l.length ≤ 4000000) (hk : l.length < k) : slices_ContainsFunc_int_int_F50c900003.f k l s = some (keepB l s) := by
 unfold slices_ContainsFunc_int_int_F50c900003.f slices_IndexFunc_int_int_F50c900003.f
 obtain ⟨r, h1, h2⟩ := keep_l0 l s hl l.length k 0 (by omega) hk
 rw [show ((0 : Nat) : Int) = 0 from rfl] at h1
 rw [h1, Option.bind_some, h2, List.drop_zero]

/-- The blocks, the list and what is kept, from i on. -/
def psR (Q : List Int) (R : List S41) (q : Int) : Nat → Nat → List S77 → List Int → List S41 → Int → List S77 × List Int × List Int × List S41 × Int × Int × Int
 | _, 0, B, L, K, c => (B, L, Q, K, q, c, 0)
 | i, d + 1, B, L, K, c => if keepB Q (rd_T41 R i).f1 = true then psR Q R q (i + 1) d B L (K ++ [⟨(rd_T41 R i).f0, (rd_T41 R i).f1⟩]) c else psR Q R q (i + 1) d (giveR B L (rd_T41 R i).f0).1 (giveR B L (rd_T41 R i).f0).2.1 K (c + 1)
def passR (B : List S77) (L Q : List Int) (R : List S41) (p : Int) : List S77 × List Int × List Int × List S41 × Int × Int × Int :=
 if yardB B L Q R p = true then (if p = 1000000 then (B, L, Q, R, p, 0, 1) else psR Q R (p + 1) 0 R.length B L [] 0) else (B, L, Q, R, p, 0, 1)
theorem psR_ok (Q : List Int) (R : List S41) (q : Int) (d : Nat) : ∀ (i : Nat) (B : List S77) (L : List Int) (K : List S41) (c : Int), i + d = R.length → Ar B L → (∀ g ∈ K ++ R.drop i, LV B g.f0) → ((K ++ R.drop i).map (·.f0)).Nodup →
  ∃ B' L', psR Q R q i d B L K c = (B', L', Q, K ++ (R.drop i).filter (fun g => keepB Q g.f1), q, c + ((R.drop i).countP (fun g => !keepB Q g.f1) : Nat), 0) ∧ Ar B' L' ∧ B'.length = B.length ∧ (∀ g ∈ K ++ (R.drop i).filter (fun g => keepB Q g.f1), LV B' g.f0) ∧ (∀ x : Int, 0 ≤ x → (rd_T77 B x).f1 = true → (rd_T77 B' x).f1 = true) ∧ (∀ g ∈ R.drop i, keepB Q g.f1 = false → (rd_T77 B' (g.f0 / 8)).f1 = true) := by
 induction d with
 | zero =>
  intro i B L K c hi hA hv hn
  rw [List.drop_of_length_le (by omega)] at hv hn ⊢
  rw [List.append_nil] at hv hn
  refine ⟨B, L, ?_, hA, rfl, ?_, fun _ _ h => h, fun g hg => by cases hg⟩
  ·rw [psR]
   simp
  ·intro g hg
   exact hv g (by simpa using hg)
 | succ d ih =>
  intro i B L K c hi hA hv hn
  have hil : i < R.length := by omega
  rw [drop_cons R i hil] at hv hn ⊢
  have hg := hv R[i] (List.mem_append_right _ (List.mem_cons_self ..))
  rw [psR, rdT41_at R i hil]
  have hfun : ∀ g ∈ K ++ R.drop (i + 1), g.f0 ≠ R[i].f0 := by
   intro g hg e
   rw [List.map_append, List.map_cons] at hn
   have h1 := List.nodup_append.1 hn
   rcases List.mem_append.1 hg with hg | hg
   ·exact h1.2.2 _ (List.mem_map.2 ⟨g, hg, rfl⟩) _ (List.mem_cons_self ..) e
   ·exact (List.nodup_cons.1 h1.2.1).1 (List.mem_map.2 ⟨g, hg, e⟩)
  cases hk : keepB Q R[i].f1 with
  | true =>
   rw [if_pos rfl]
   have e1 : (K ++ [R[i]]) ++ R.drop (i + 1) = K ++ R[i] :: R.drop (i + 1) := by simp
   obtain ⟨B', L', h1, h2, h3, h4, h5, h6⟩ := ih (i + 1) B L (K ++ [R[i]]) c (by omega) hA (by rw [e1]; exact hv) (by rw [e1]; exact hn)
   have e2 : (R[i] :: R.drop (i + 1)).filter (fun g => keepB Q g.f1) = R[i] :: (R.drop (i + 1)).filter (fun g => keepB Q g.f1) := List.filter_cons_of_pos hk
   have e3 : (R[i] :: R.drop (i + 1)).countP (fun g => !keepB Q g.f1) = (R.drop (i + 1)).countP (fun g => !keepB Q g.f1) := List.countP_cons_of_neg (by simp [hk])
   have e4 : (K ++ [R[i]]) ++ (R.drop (i + 1)).filter (fun g => keepB Q g.f1) = K ++ R[i] :: (R.drop (i + 1)).filter (fun g => keepB Q g.f1) := by simp
   rw [e4] at h1 h4
   refine ⟨B', L', ?_, h2, h3, ?_, h5, ?_⟩
   ·rw [e2, e3]
    exact h1
   ·rw [e2]
    exact h4
   ·intro g hg hgk
    rcases List.mem_cons.1 hg with rfl | hg
    ·rw [hk] at hgk
     cases hgk
    ·exact h6 g hg hgk
  | false =>
   rw [if_neg Bool.false_ne_true]
   obtain ⟨B1, L1, g1, g2, g3, g4, g5, g6⟩ := give_ok hA hg
   rw [g1]
   simp only
   have hn2 : ((K ++ R.drop (i + 1)).map (·.f0)).Nodup := by
    refine hn.sublist (List.Sublist.map _ ?_)
    exact List.Sublist.append (List.Sublist.refl _) (List.sublist_cons_self _ _)
   obtain ⟨B', L', h1, h2, h3, h4, h5, h6⟩ := ih (i + 1) B1 L1 K (c + 1) (by omega) g2 (fun g hg => g4 _ (hv g (by
    rcases List.mem_append.1 hg with hg | hg
    ·exact List.mem_append_left _ hg
    ·exact List.mem_append_right _ (List.mem_cons_of_mem _ hg))) (hfun g hg)) hn2
   have e2 : (R[i] :: R.drop (i + 1)).filter (fun g => keepB Q g.f1) = (R.drop (i + 1)).filter (fun g => keepB Q g.f1) := List.filter_cons_of_neg (by simp [hk])
   have e3 : (R[i] :: R.drop (i + 1)).countP (fun g => !keepB Q g.f1) = (R.drop (i + 1)).countP (fun g => !keepB Q g.f1) + 1 := List.countP_cons_of_pos (by simp [hk])
   refine ⟨B', L', ?_, h2, h3.trans g3, ?_, fun x hx hf => h5 x hx (g5 x hx hf), ?_⟩
   ·rw [e2, e3, h1]
    refine Prod.ext rfl (Prod.ext rfl (Prod.ext rfl (Prod.ext rfl (Prod.ext rfl (Prod.ext ?_ rfl)))))
    show c + 1 + ((List.countP _ _ : Nat) : Int) = c + ((List.countP _ _ + 1 : Nat) : Int)
    omega
   ·rw [e2]
    exact h4
   ·intro g hg hgk
    rcases List.mem_cons.1 hg with rfl | hg
    ·exact h5 _ (by have := (hv _ (List.mem_append_right _ (List.mem_cons_self ..))).1; omega) g6
    ·exact h6 g hg hgk
theorem implPass_l0 (B0 : List S77) (L0 Q : List Int) (R : List S41) (p : Int) (hQ : Q.length ≤ 4000000) (hR : R.length ≤ 4000000) (hp : 0 ≤ p ∧ p ≤ 1000000) (d : Nat) : ∀ (k i : Nat) (B : List S77) (L : List Int) (K : List S41) (c : Int), i + d = R.length → Ar B L → (∀ g ∈ R.drop i, LV B g.f0) → ((R.drop i).map (·.f0)).Nodup → K.length ≤ i → d + Q.length + 120 < k → 0 ≤ c → c ≤ i →
  impl_Pass.l0 k c R (R.length : Int) (i : Int) B0 L0 Q R p B L Q K p = some (psR Q R (p + 1) i d B L K c) := by
 induction d with
 | zero =>
  intro k i B L K c hi hA hv hn hK hk h0 h1
  obtain ⟨k, rfl⟩ : ∃ m, k = m + 1 := ⟨k - 1, by omega⟩
  rw [impl_Pass.l0, if_neg (by omega), w64 (by omega) (by omega)]
  rfl
 | succ d ih =>
  intro k i B L K c hi hA hv hn hK hk h0 h1
  obtain ⟨k, rfl⟩ : ∃ m, k = m + 1 := ⟨k - 1, by omega⟩
  have hil : i < R.length := by omega
  have hB := hA.n4
  have hL := hA.len
  rw [drop_cons R i hil] at hv hn
  rw [List.map_cons] at hn
  have hn2 := List.nodup_cons.1 hn
  obtain ⟨B1, L1, g1, g2, g3, g4, g5, g6⟩ := give_ok hA (hv R[i] (List.mem_cons_self ..))
  rw [impl_Pass.l0, if_pos (by omega), if_pos (by omega), if_pos (by omega), keep_eq hQ (by omega), Option.bind_some, implGive_eq hA.arOk (by omega) (by omega) (by omega), Option.bind_some, w64 (x := (i : Int) + 1) (by omega) (by omega), w64 (x := c + 1) (by omega) (by omega), show ((i : Int) + 1) = ((i + 1 : Nat) : Int) from by omega]
  simp only [psR]
  rw [rdT41_at R i hil, g1]
  split
  ·rw [if_pos (by omega), ih k (i + 1) B L _ c (by omega) hA (fun g hg => hv g (List.mem_cons_of_mem _ hg)) hn2.2 (by simp only [List.length_append, List.length_singleton]; omega) (by omega) h0 (by omega)]
  ·rw [ih k (i + 1) B1 L1 K (c + 1) (by omega) g2 (fun g hg => g4 _ (hv g (List.mem_cons_of_mem _ hg)) (fun e => hn2.1 (e ▸ List.mem_map.2 ⟨g, hg, rfl⟩))) hn2.2 (by omega) (by omega) (by omega) (by omega)]
def lstR (Q : List Int) : Nat → Nat → Int → Int
 | _, 0, c => c
 | i, d + 1, c => if rd Q i ≥ 0 then lstR Q (i + 1) d (if c < rd Q i then c else rd Q i) else lstR Q (i + 1) d c
theorem lstR_lt (Q : List Int) (s : Int) (d : Nat) : ∀ (i : Nat) (c : Int), s < lstR Q i d c ↔ (s < c ∧ ∀ m : Nat, i ≤ m → m < i + d → rd Q m ≥ 0 → s < rd Q m) := by
 induction d with
 | zero =>
  intro i c
  simp only [lstR]
  exact ⟨fun h => ⟨h, fun m h1 h2 => by omega⟩, fun h => h.1⟩
 | succ d ih =>
  intro i c
  simp only [lstR]
  by_cases h : rd Q i ≥ 0
  ·rw [if_pos h, ih]
   constructor
   ·intro h1
    have h2 := h1.1
    refine ⟨by split at h2 <;> omega, fun m hm1 hm2 hm3 => ?_⟩
    by_cases e : m = i
    ·rw [e]; split at h2 <;> omega
    ·exact h1.2 m (by omega) (by omega) hm3
   ·intro h1
    have h2 := h1.2 i (Nat.le_refl _) (by omega) h
    exact ⟨by split <;> omega, fun m hm1 hm2 hm3 => h1.2 m (by omega) (by omega) hm3⟩
  ·rw [if_neg h, ih]
   constructor
   ·intro h1
    refine ⟨h1.1, fun m hm1 hm2 hm3 => ?_⟩
    by_cases e : m = i
    ·rw [e] at hm3; exact absurd hm3 h
    ·exact h1.2 m (by omega) (by omega) hm3
   ·intro h1
    exact ⟨h1.1, fun m hm1 hm2 hm3 => h1.2 m (by omega) (by omega) hm3⟩
theorem lst_keep {Q : List Int} {s : Int} (hs : s ≤ 1000000) (hQ : ∀ m : Nat, m < Q.length → -1 ≤ rd Q m) : (s < lstR Q 0 Q.length 1000001) ↔ keepB Q s = false := by
 rw [lstR_lt]
 constructor
 ·intro h
  cases hk : keepB Q s with
  | false => rfl
  | true =>
   unfold keepB at hk
   obtain ⟨x, hx, hx2⟩ := List.any_eq_true.1 hk
   obtain ⟨m, hm1, hm2⟩ := List.mem_iff_getElem.1 hx
   have h1 := hQ m hm1
   have h2 := h.2 m (by omega) (by omega)
   rw [rd_at Q m hm1, hm2] at h1 h2
   simp at hx2
   have h3 := h2 (by omega)
   omega
 ·intro hk
  refine ⟨by omega, fun m _ hm2 hm3 => ?_⟩
  have hm1 : m < Q.length := by omega
  rw [rd_at Q m hm1] at hm3 ⊢
  unfold keepB at hk
  have h1 := List.any_eq_false.1 hk (Q[m]) (List.getElem_mem hm1)
  simp at h1
  have h2 := h1 (by omega)
  omega
theorem goR_le (B : List S77) (L : List Int) (R : List S41) (p : Int) (d : Nat) : ∀ (i : Nat) (c : Int), goR B L R p i d c = true → ∀ m : Nat, i ≤ m → m < i + d → (rd_T41 R m).f1 ≤ p := by
 induction d with
 | zero => intro i c _ m h1 h2; omega
 | succ d ih =>
  intro i c h m h1 h2
  simp only [goR, Bool.and_eq_true] at h
  by_cases e : m = i
  ·rw [e]; exact (inB_iff.1 h.1).2
  ·exact ih (i + 1) _ h.2.2.2 m (by omega) (by omega)
theorem specPass_l1 (B0 : List S77) (L0 Q : List Int) (R : List S41) (p : Int) (hQ : Q.length ≤ 4000000) (hR : R.length ≤ 4000000) (hp : 0 ≤ p ∧ p ≤ 1000000) (hpin : ∀ m : Nat, m < Q.length → -1 ≤ rd Q m) (hle : ∀ m : Nat, m < R.length → (rd_T41 R m).f1 ≤ p) (d : Nat) : ∀ (k i : Nat) (B : List S77) (L : List Int) (K : List S41) (c : Int), i + d = R.length → Ar B L → (∀ g ∈ R.drop i, LV B g.f0) → ((R.drop i).map (·.f0)).Nodup → K.length ≤ i → d + Q.length + 300 < k → 0 ≤ c → c ≤ i →
  spec_Pass.l1 k (lstR Q 0 Q.length 1000001) c (i : Int) B0 L0 Q R p B L Q K p = some (psR Q R (p + 1) i d B L K c) := by
 induction d with
 | zero =>
  intro k i B L K c hi hA hv hn hK hk h0 h1
  obtain ⟨k, rfl⟩ : ∃ m, k = m + 1 := ⟨k - 1, by omega⟩
  rw [spec_Pass.l1, if_neg (by omega), w64 (by omega) (by omega)]
  rfl
 | succ d ih =>
  intro k i B L K c hi hA hv hn hK hk h0 h1
  obtain ⟨k, rfl⟩ : ∃ m, k = m + 1 := ⟨k - 1, by omega⟩
  have hil : i < R.length := by omega
  have hB := hA.n4
  have hL := hA.len
  have hl := hle i hil
  have hlk := lst_keep (Q := Q) (s := (rd_T41 R i).f1) (by omega) hpin
  rw [drop_cons R i hil] at hv hn
  rw [List.map_cons] at hn
  have hn2 := List.nodup_cons.1 hn
  obtain ⟨B1, L1, g1, g2, g3, g4, g5, g6⟩ := give_ok hA (hv R[i] (List.mem_cons_self ..))
  rw [spec_Pass.l1, if_pos (by omega), if_pos (by omega), specGive_eq hA.arOk (by omega) (by omega) (by omega), Option.bind_some, w64 (x := (i : Int) + 1) (by omega) (by omega), w64 (x := c + 1) (by omega) (by omega), show ((i : Int) + 1) = ((i + 1 : Nat) : Int) from by omega]
  simp only [psR]
  rw [rdT41_at R i hil] at hlk ⊢
  rw [g1]
  cases hk2 : keepB Q R[i].f1 with
  | true =>
   rw [if_neg (fun e => by rw [hlk.1 e] at hk2; exact Bool.false_ne_true hk2), if_pos (by omega), if_pos rfl, ih k (i + 1) B L _ c (by omega) hA (fun g hg => hv g (List.mem_cons_of_mem _ hg)) hn2.2 (by simp only [List.length_append, List.length_singleton]; omega) (by omega) h0 (by omega)]
  | false =>
   rw [if_pos (hlk.2 hk2), if_neg Bool.false_ne_true, ih k (i + 1) B1 L1 K (c + 1) (by omega) g2 (fun g hg => g4 _ (hv g (List.mem_cons_of_mem _ hg)) (fun e => hn2.1 (e ▸ List.mem_map.2 ⟨g, hg, rfl⟩))) hn2.2 (by omega) (by omega) (by omega) (by omega)]
theorem specPass_l0 (B : List S77) (L Q : List Int) (R : List S41) (p : Int) (hQ : Q.length ≤ 4000000) (d : Nat) : ∀ (k i : Nat) (c : Int), i + d = Q.length → spec_Pass.l0 (k + d + 1) c (i : Int) B L Q R p B L Q R p = spec_Pass.l1 k (lstR Q i d c) 0 0 B L Q R p B L Q [] p := by
 induction d with
 | zero =>
  intro k i c hi
  rw [spec_Pass.l0, if_neg (by omega)]
  rfl
 | succ d ih =>
  intro k i c hi
  have ihA := ih k (i + 1) c (by omega)
  have ihB := ih k (i + 1) (if c < rd Q i then c else rd Q i) (by omega)
  rw [show k + (d + 1) + 1 = (k + d + 1) + 1 from by omega, spec_Pass.l0, if_pos (by omega), if_pos (by omega), spec_l1Min.f, w64 (x := (i : Int) + 1) (by omega) (by omega), show ((i : Int) + 1) = ((i + 1 : Nat) : Int) from by omega, ihA]
  simp only [lstR]
  by_cases h : rd Q i ≥ 0
  ·rw [if_pos h, if_pos h]
   by_cases h2 : c < rd Q i
   ·rw [if_pos h2] at ihB ⊢
    rw [if_pos h2, Option.bind_some, ihB]
   ·rw [if_neg h2] at ihB ⊢
    rw [if_neg h2, Option.bind_some, ihB]
  ·rw [if_neg h, if_neg h]
theorem implPass_eq {k : Nat} {B : List S77} {L Q : List Int} {R : List S41} {p : Int} (hA : Ar B L) (hv : ∀ g ∈ R, LV B g.f0) (hn : (R.map (·.f0)).Nodup) (hy : yardB B L Q R p = true) (hQ : Q.length ≤ 2000000) (hR : R.length ≤ 24) (hk : Q.length + 300 < k) : impl_Pass.f k B L Q R p = some (passR B L Q R p) := by
 have hB := hA.n4
 have hL := hA.len
 unfold impl_Pass.f passR
 rw [ownYard_eq (by omega) (by omega) (by omega) (by omega), Option.bind_some, implYard_eq (yardB_ar hy) (by omega) (by omega) (by omega) (by omega) (by omega), Option.bind_some]
 rw [hy]
 rw [if_pos rfl, if_pos rfl]
 by_cases h : p = 1000000
 ·rw [if_pos h, if_pos h]
 ·have hp := (yardB_pins hy).1
  have h1 := implPass_l0 B L Q R p (by omega) (by omega) hp R.length k 0 B L [] 0 (by omega) hA (by rw [List.drop_zero]; exact hv) (by rw [List.drop_zero]; exact hn) (Nat.zero_le _) (by omega) (by omega) (by omega)
  rw [show ((0 : Nat) : Int) = 0 from rfl] at h1
  rw [if_neg h, if_neg h, h1]
theorem specPass_eq {k : Nat} {B : List S77} {L Q : List Int} {R : List S41} {p : Int} (hA : Ar B L) (hv : ∀ g ∈ R, LV B g.f0) (hn : (R.map (·.f0)).Nodup) (hy : yardB B L Q R p = true) (hQ : Q.length ≤ 2000000) (hR : R.length ≤ 24) (hk : 2 * Q.length + 600 < k) : spec_Pass.f k B L Q R p = some (passR B L Q R p) := by
 have hB := hA.n4
 have hL := hA.len
 obtain ⟨k, rfl⟩ : ∃ m, k = m + Q.length + 1 := ⟨k - Q.length - 1, by omega⟩
 unfold spec_Pass.f passR
 rw [l3Copy_eq (by omega) (by omega) (by omega) (by omega), Option.bind_some, specYard_eq (yardB_ar hy) (by omega) (by omega) (by omega) (by omega) (by omega), Option.bind_some]
 rw [hy]
 rw [if_pos rfl, if_pos rfl]
 by_cases h : p = 1000000
 ·rw [if_pos h, if_pos h]
 ·have hy2 := yardB_pins hy
  have h0 := specPass_l0 B L Q R p (by omega) Q.length k 0 1000001 (by omega)
  have h1 := specPass_l1 B L Q R p (by omega) (by omega) hy2.1 (fun m hm => (hy2.2.2.1 m hm).1) (fun m hm => goR_le B L R p R.length 0 0 hy2.2.2.2 m (by omega) (by omega)) R.length k 0 B L [] 0 (by omega) hA (by rw [List.drop_zero]; exact hv) (by rw [List.drop_zero]; exact hn) (Nat.zero_le _) (by omega) (by omega) (by omega)
  rw [show ((0 : Nat) : Int) = 0 from rfl] at h0 h1
  rw [if_neg h, if_neg h, h0, h1]


end Go.Proofs.Ytemdjfiimgjiaaa.R
namespace Go.Proofs.Ytemdjfiimgjiaaa.R
set_option linter.unusedVariables false
set_option linter.unusedSimpArgs false
open Go.RowKit Go.Proofs.YtemdjfiimgjiaaaW.PrintWords Go.Proofs.Ytemdjfiimgjiaaa.PbR

def clsB (B : List S77) (R : List S41) (a : Int) : Int := if listedB (rd_T77 B a) = true then 0 else if (rd_T77 B a).f1 = true then 1 else if hasG R (8 * a + (rd_T77 B a).f0) = true then 2 else 3
theorem clsB_rng (B : List S77) (R : List S41) (a : Int) : 0 ≤ clsB B R a ∧ clsB B R a ≤ 3 := by
 unfold clsB
 split
 ·omega
 ·split
  ·omega
  ·split <;> omega
theorem implCls_eq {k : Nat} {B : List S77} {L Q : List Int} {R : List S41} {p a : Int} (hR : R.length ≤ 4000000) (hk : R.length < k) (ha : arOk B L = true) (h0 : 0 ≤ a) (h1 : a < (B.length : Int)) : impl_classOf.f k B L Q R p a = some (clsB B R a) := by
 have hb := (arOk_true ha).1
 have hg := gen_rng ha h0 h1
 unfold impl_classOf.f clsB
 rw [if_pos h0, if_pos h1, isListed_eq, Option.bind_some, w64 (x := 8 * a) (by omega) (by omega), w64 (x := 8 * a + (rd_T77 B a).f0) (by omega) (by omega), isRetired_eq hR hk, Option.bind_some]
 split
 ·rfl
 ·split
  ·rfl
  ·split <;> rfl
/-- The counts from i on. -/
def cntR (B : List S77) (R : List S41) : Nat → Nat → Int → Int → Int → Int → Int × Int × Int × Int × Bool
 | _, 0, a, b, c, d => (a, b, c, d, true)
 | i, n + 1, a, b, c, d => if clsB B R i = 0 then cntR B R (i + 1) n (a + 1) b c d else if clsB B R i = 1 then cntR B R (i + 1) n a (b + 1) c d else if clsB B R i = 2 then cntR B R (i + 1) n a b (c + 1) d else cntR B R (i + 1) n a b c (d + 1)
def countsR (B : List S77) (L Q : List Int) (R : List S41) (p : Int) : Int × Int × Int × Int × Bool := if yardB B L Q R p = true then cntR B R 0 B.length 0 0 0 0 else (0, 0, 0, 0, false)
theorem implCounts_l0 (B : List S77) (L Q : List Int) (R : List S41) (p : Int) (hB : B.length ≤ 4000000) (hR : R.length ≤ 4000000) (ha : arOk B L = true) (n : Nat) : ∀ (k i : Nat) (a b c d : Int), i + n = B.length → n + R.length < k → 0 ≤ a → a ≤ i → 0 ≤ b → b ≤ i → 0 ≤ c → c ≤ i → 0 ≤ d → d ≤ i →
  impl_Counts.l0 k (B.length : Int) (i : Int) B L Q R p a b c d = some (cntR B R i n a b c d) := by
 induction n with
 | zero =>
  intro k i a b c d hi hk _ _ _ _ _ _ _ _
  obtain ⟨k, rfl⟩ : ∃ m, k = m + 1 := ⟨k - 1, by omega⟩
  rw [impl_Counts.l0, if_neg (by omega)]
  rfl
 | succ n ih =>
  intro k i a b c d hi hk a0 a1 b0 b1 c0 c1 d0 d1
  obtain ⟨k, rfl⟩ : ∃ m, k = m + 1 := ⟨k - 1, by omega⟩
  have hr := clsB_rng B R i
  rw [impl_Counts.l0, if_pos (by omega), implCls_eq hR (by omega) ha (by omega) (by omega), Option.bind_some, w64 (x := (i : Int) + 1) (by omega) (by omega), w64 (x := a + 1) (by omega) (by omega), w64 (x := b + 1) (by omega) (by omega), w64 (x := c + 1) (by omega) (by omega), w64 (x := d + 1) (by omega) (by omega), show ((i : Int) + 1) = ((i + 1 : Nat) : Int) from by omega]
  rw [ih k (i + 1) (a + 1) b c d (by omega) (by omega) (by omega) (by omega) (by omega) (by omega) (by omega) (by omega) (by omega) (by omega)]
  rw [ih k (i + 1) a (b + 1) c d (by omega) (by omega) (by omega) (by omega) (by omega) (by omega) (by omega) (by omega) (by omega) (by omega)]
  rw [ih k (i + 1) a b (c + 1) d (by omega) (by omega) (by omega) (by omega) (by omega) (by omega) (by omega) (by omega) (by omega) (by omega)]
  rw [ih k (i + 1) a b c (d + 1) (by omega) (by omega) (by omega) (by omega) (by omega) (by omega) (by omega) (by omega) (by omega) (by omega)]
  simp only [cntR]
  split
  ·rfl
  ·split
   ·rfl
   ·split
    ·rfl
    ·rw [if_pos (by omega)]
theorem implCounts_eq {k : Nat} {B : List S77} {L Q : List Int} {R : List S41} {p : Int} (hy : yardB B L Q R p = true) (hB : B.length ≤ 4000000) (hL : L.length ≤ 4000000) (hQ : Q.length ≤ 4000000) (hR : R.length ≤ 4000000) (hk : 2 * R.length + 2 * B.length + 2 * L.length + Q.length + 10 < k) : impl_Counts.f k B L Q R p = some (countsR B L Q R p) := by
 unfold impl_Counts.f countsR
 rw [implYard_eq (yardB_ar hy) hB hL hQ hR hk, Option.bind_some]
 rw [hy]
 have h := implCounts_l0 B L Q R p hB hR (yardB_ar hy) B.length k 0 0 0 0 0 (by omega) (by omega) (by omega) (by omega) (by omega) (by omega) (by omega) (by omega) (by omega) (by omega)
 rw [show ((0 : Nat) : Int) = 0 from rfl] at h
 rw [if_pos rfl, if_pos rfl, h]

end Go.Proofs.Ytemdjfiimgjiaaa.R
namespace Go.Proofs.Ytemdjfiimgjiaaa.R
set_option linter.unusedVariables false
set_option linter.unusedSimpArgs false
open Go.RowKit Go.Proofs.YtemdjfiimgjiaaaW.PrintWords Go.Proofs.Ytemdjfiimgjiaaa.PbR

def newYR (n t : Int) : List S77 × List Int × List Int × List S41 × Int × Bool := if (newR n).2.2 = true then (if inB 1 6 t = true then ((newR n).1, (newR n).2.1, List.replicate t.toNat (-1), [], 0, true) else ([], [], [], [], 0, false)) else ([], [], [], [], 0, false)
theorem specNewY_l0 (n : Int) (hn : n ≤ 6) (B : List S77) (L : List Int) (p : Int) (d : Nat) : ∀ (k i : Nat) (P : List Int), (i : Int) + d = n → d < k → P.length = i → spec_NewYard.l0 k n (i : Int) B L P p = some (B, L, P ++ List.replicate d (-1), [], p, true) := by
 induction d with
 | zero =>
  intro k i P hi hk hP
  obtain ⟨k, rfl⟩ : ∃ m, k = m + 1 := ⟨k - 1, by omega⟩
  rw [spec_NewYard.l0, if_neg (by omega)]
  simp
 | succ d ih =>
  intro k i P hi hk hP
  obtain ⟨k, rfl⟩ : ∃ m, k = m + 1 := ⟨k - 1, by omega⟩
  rw [spec_NewYard.l0, if_pos (by omega), if_pos (by omega), w64 (by omega) (by omega), show ((i : Int) + 1) = ((i + 1 : Nat) : Int) from by omega, ih k (i + 1) _ (by omega) (by omega) (by simp [hP])]
  simp [List.replicate_succ]
theorem specNewY_eq {k : Nat} {n t : Int} (hk : 40 < k) : spec_NewYard.f k n t = some (newYR n t) := by
 obtain ⟨k, rfl⟩ : ∃ m, k = m + 1 := ⟨k - 1, by omega⟩
 unfold spec_NewYard.f newYR
 rw [specNew_eq (by omega), Option.bind_some, l1In_eq, Option.bind_some]
 generalize newR n = r
 cases r.2.2 with
 | false => rw [if_neg Bool.false_ne_true, if_neg Bool.false_ne_true, spec_NewYard.j0, if_pos rfl]
 | true =>
  rw [if_pos rfl, if_pos rfl]
  cases h : inB 1 6 t with
  | false => rw [if_neg Bool.false_ne_true, Bool.not_false, spec_NewYard.j0, if_pos rfl]
  | true =>
   have h1 := inB_iff.1 h
   have h2 := specNewY_l0 t h1.2 r.1 r.2.1 0 t.toNat k 0 [] (by omega) (by omega) rfl
   rw [show ((0 : Nat) : Int) = 0 from rfl] at h2
   rw [if_pos rfl, Bool.not_true, spec_NewYard.j0, if_neg Bool.false_ne_true, h2]
   rfl

end Go.Proofs.Ytemdjfiimgjiaaa.R
namespace Go.Proofs.Ytemdjfiimgjiaaa.R
set_option linter.unusedVariables false
set_option linter.unusedSimpArgs false
open Go.RowKit Go.Proofs.YtemdjfiimgjiaaaW.PrintWords Go.Proofs.Ytemdjfiimgjiaaa.PbR

structure YI (B : List S77) (L Q : List Int) (R : List S41) (p : Int) : Prop where
 ar : Ar B L
 q1 : 1 ≤ Q.length
 q6 : Q.length ≤ 6
 qr : ∀ x ∈ Q, -1 ≤ x ∧ x ≤ p
 p0 : 0 ≤ p
 lv : ∀ g ∈ R, LV B g.f0
 dn : (R.map (·.f0)).Nodup
 rp : ∀ g ∈ R, 0 ≤ g.f1 ∧ g.f1 ≤ p
 so : R.Pairwise (fun a b => a.f1 ≤ b.f1)
 rl : R.length ≤ 24
theorem hasG_iff {l : List S41} {x : Int} : hasG l x = true ↔ ∃ g ∈ l, g.f0 = x := by
 unfold hasG
 simp [List.any_eq_true]
theorem goR_intro {B : List S77} {L : List Int} {R : List S41} {p : Int} (hA : Ar B L) (hv : ∀ g ∈ R, LV B g.f0) (hn : (R.map (·.f0)).Nodup) (hr : ∀ g ∈ R, g.f1 ≤ p) (hs : R.Pairwise (fun a b => a.f1 ≤ b.f1)) (d : Nat) : ∀ (i : Nat) (c : Int), i + d = R.length → (∀ g ∈ R.drop i, c ≤ g.f1) → goR B L R p i d c = true := by
 induction d with
 | zero => intro i c _ _; rfl
 | succ d ih =>
  intro i c hi hc
  have hil : i < R.length := by omega
  have hm : R[i] ∈ R := List.getElem_mem hil
  have hd := drop_cons R i hil
  rw [goR, rdT41_at R i hil]
  have h1 : inB c p R[i].f1 = true := inB_iff.2 ⟨hc _ (by rw [hd]; exact List.mem_cons_self ..), hr _ hm⟩
  have h2 : liveB B L R[i].f0 = true := (live_iff hA _).2 (hv _ hm)
  have h3 : hasG (R.take i) R[i].f0 = false := by
   rw [Bool.eq_false_iff]
   intro h
   obtain ⟨g, hg, e⟩ := hasG_iff.1 h
   have hn2 : ((R.take (i + 1)).map (·.f0)).Nodup := hn.sublist (List.Sublist.map _ (List.take_sublist _ _))
   rw [List.take_succ_eq_append_getElem hil, List.map_append] at hn2
   exact (List.nodup_append.1 hn2).2.2 _ (List.mem_map.2 ⟨g, hg, rfl⟩) _ (by simp) e
  have hs2 : (R.drop i).Pairwise (fun a b => a.f1 ≤ b.f1) := hs.sublist (List.drop_sublist _ _)
  rw [hd] at hs2
  rw [h1, h2, h3, ih (i + 1) R[i].f1 (by omega) (fun g hg => (List.pairwise_cons.1 hs2).1 g hg)]
  rfl
theorem YI.yard {B : List S77} {L Q : List Int} {R : List S41} {p : Int} (h : YI B L Q R p) (hp : p ≤ 1000000) : yardB B L Q R p = true := by
 have h1 := h.q1
 have h6 := h.q6
 have h24 := h.rl
 unfold yardB
 rw [h.ar.arOk, inB_iff.2 (show (1 : Int) ≤ (Q.length : Int) ∧ (Q.length : Int) ≤ 6 by omega), inB_iff.2 ⟨h.p0, hp⟩, decide_eq_false (show ¬ ((R.length : Int) > 24) by omega), List.all_eq_true.2 (fun x hx => inB_iff.2 (h.qr x hx)),
  goR_intro h.ar h.lv h.dn (fun g hg => (h.rp g hg).2) h.so R.length 0 0 (by omega) (fun g hg => (h.rp g (by rwa [List.drop_zero] at hg)).1)]
 rfl
theorem YI.new {n t : Int} (n0 : 1 ≤ n) (n1 : n ≤ 24) (t0 : 1 ≤ t) (t1 : t ≤ 6) : ∃ B L Q, newYR n t = (B, L, Q, [], 0, true) ∧ YI B L Q [] 0 ∧ (B.length : Int) = n := by
 unfold newYR newR
 rw [if_pos (inB_iff.2 ⟨n0, n1⟩)]
 simp only
 rw [if_pos trivial, if_pos (inB_iff.2 ⟨t0, t1⟩)]
 refine ⟨_, _, _, rfl, ⟨ar_new (by omega) (by omega), by rw [List.length_replicate]; omega, by rw [List.length_replicate]; omega, fun x hx => ?_, by omega, fun g hg => (by cases hg), by simp, fun g hg => (by cases hg), List.Pairwise.nil, by simp⟩, by rw [nwB_len]; omega⟩
 rw [List.eq_of_mem_replicate hx]
 omega
theorem YI.setPin {B : List S77} {L Q : List Int} {R : List S41} {p : Int} (h : YI B L Q R p) (i : Nat) (x : Int) (hx : -1 ≤ x ∧ x ≤ p) : YI B L (Q.set i x) R p :=
 ⟨h.ar, by rw [List.length_set]; exact h.q1, by rw [List.length_set]; exact h.q6, fun y hy => by
  rcases List.mem_or_eq_of_mem_set hy with hy | rfl
  ·exact h.qr y hy
  ·exact hx, h.p0, h.lv, h.dn, h.rp, h.so, h.rl⟩
theorem YI.pin {B : List S77} {L Q : List Int} {R : List S41} {p : Int} (h : YI B L Q R p) (hp : p ≤ 1000000) (t : Int) : ∃ Q' c, pinR B L Q R p t = (B, L, Q', R, p, c) ∧ YI B L Q' R p ∧ Q'.length = Q.length ∧ (t = 0 → (c = 0 ∨ c = 2) ∧ 0 ≤ rd Q' 0) := by
 have hq := h.q1
 unfold pinR
 rw [if_pos (h.yard hp)]
 by_cases hi : inB 0 ((Q.length : Int) - 1) t = true
 ·rw [if_pos hi]
  have hi2 := inB_iff.1 hi
  by_cases hg : rd Q t ≥ 0
  ·rw [if_pos hg]
   exact ⟨Q, 2, rfl, h, rfl, fun e => ⟨Or.inr rfl, by rw [e] at hg; exact hg⟩⟩
  ·rw [if_neg hg]
   refine ⟨_, 0, rfl, h.setPin _ _ ⟨by have := h.p0; omega, Int.le_refl _⟩, by rw [List.length_set], fun e => ⟨Or.inl rfl, ?_⟩⟩
   subst e
   rw [show (0 : Int) = ((0 : Nat) : Int) from rfl, rd_at _ 0 (by rw [List.length_set]; omega)]
   have := h.p0
   simpa using this
 ·rw [if_neg hi]
  refine ⟨Q, 1, rfl, h, rfl, fun e => absurd (inB_iff.2 ⟨by omega, by omega⟩) hi⟩
theorem YI.unpin {B : List S77} {L Q : List Int} {R : List S41} {p : Int} (h : YI B L Q R p) (hp : p ≤ 1000000) (t : Int) : ∃ Q' c, unpinR B L Q R p t = (B, L, Q', R, p, c) ∧ YI B L Q' R p ∧ Q'.length = Q.length ∧ ∀ n : Nat, t = (n : Int) → n < Q.length → rd Q' t < 0 ∧ ∀ m : Nat, m < Q.length → rd Q m < 0 → rd Q' m < 0 := by
 unfold unpinR
 rw [if_pos (h.yard hp)]
 by_cases hi : inB 0 ((Q.length : Int) - 1) t = true
 ·rw [if_pos hi]
  have hi2 := inB_iff.1 hi
  by_cases hg : rd Q t < 0
  ·rw [if_pos hg]
   exact ⟨Q, 3, rfl, h, rfl, fun n e hn => ⟨hg, fun m hm hl => hl⟩⟩
  ·rw [if_neg hg]
   refine ⟨_, 0, rfl, h.setPin _ _ ⟨by omega, by have := h.p0; omega⟩, by rw [List.length_set], fun n e hn => ?_⟩
   subst e
   rw [Int.toNat_natCast, rd_at _ n (by rw [List.length_set]; exact hn)]
   refine ⟨by simp, fun m hm hl => ?_⟩
   rw [rd_at _ m (by rw [List.length_set]; exact hm), List.getElem_set]
   rw [rd_at _ m hm] at hl
   split
   ·omega
   ·exact hl
 ·rw [if_neg hi]
  exact ⟨Q, 1, rfl, h, rfl, fun n e hn => absurd (inB_iff.2 ⟨by omega, by omega⟩) hi⟩
theorem YI.retire {B : List S77} {L Q : List Int} {R : List S41} {p : Int} (h : YI B L Q R p) (hp : p ≤ 1000000) (x : Int) : ∃ R' c, retR B L Q R p x = (B, L, Q, R', p, c) ∧ YI B L Q R' p := by
 unfold retR
 rw [if_pos (h.yard hp)]
 by_cases hl : liveB B L x = true
 ·rw [if_pos hl]
  by_cases hg : hasG R x = true
  ·rw [if_pos hg]
   exact ⟨R, 4, rfl, h⟩
  ·rw [if_neg hg]
   by_cases h24 : (R.length : Int) = 24
   ·rw [if_pos h24]
    exact ⟨R, 5, rfl, h⟩
   ·rw [if_neg h24]
    have hrl := h.rl
    refine ⟨_, 0, rfl, ⟨h.ar, h.q1, h.q6, h.qr, h.p0, ?_, ?_, ?_, ?_, by rw [List.length_append, List.length_singleton]; omega⟩⟩
    ·intro g hg2
     rcases List.mem_append.1 hg2 with hg2 | hg2
     ·exact h.lv g hg2
     ·obtain rfl := List.mem_singleton.1 hg2
      exact (live_iff h.ar x).1 hl
    ·rw [List.map_append]
     refine List.nodup_append.2 ⟨h.dn, by simp, fun a ha b hb e => ?_⟩
     obtain ⟨g, hg2, rfl⟩ := List.mem_map.1 ha
     simp only [List.map_cons, List.map_nil, List.mem_singleton] at hb
     exact hg (hasG_iff.2 ⟨g, hg2, e.trans hb⟩)
    ·intro g hg2
     rcases List.mem_append.1 hg2 with hg2 | hg2
     ·exact h.rp g hg2
     ·obtain rfl := List.mem_singleton.1 hg2
      exact ⟨h.p0, Int.le_refl _⟩
    ·refine List.pairwise_append.2 ⟨h.so, List.pairwise_singleton _ _, fun a ha b hb => ?_⟩
     obtain rfl := List.mem_singleton.1 hb
     exact (h.rp a ha).2
 ·rw [if_neg hl]
  exact ⟨R, 4, rfl, h⟩
theorem YI.take {B : List S77} {L Q : List Int} {R : List S41} {p : Int} (h : YI B L Q R p) : ∃ B' L' x b, takeR B L = (B', L', x, b) ∧ YI B' L' Q R p ∧ B'.length = B.length := by
 obtain ⟨B', L', x, b, h1, h2, h3, h4⟩ := take_ok h.ar
 exact ⟨B', L', x, b, h1, ⟨h2, h.q1, h.q6, h.qr, h.p0, fun g hg => h4 _ (h.lv g hg), h.dn, h.rp, h.so, h.rl⟩, h3⟩
theorem YI.pass {B : List S77} {L Q : List Int} {R : List S41} {p : Int} (h : YI B L Q R p) (hp : p < 1000000) : ∃ B' L', passR B L Q R p = (B', L', Q, R.filter (fun g => keepB Q g.f1), p + 1, ((R.countP (fun g => !keepB Q g.f1) : Nat) : Int), 0) ∧ YI B' L' Q (R.filter (fun g => keepB Q g.f1)) (p + 1) ∧ B'.length = B.length ∧ ∀ g ∈ R, keepB Q g.f1 = false → (rd_T77 B' (g.f0 / 8)).f1 = true := by
 unfold passR
 rw [if_pos (h.yard (by omega)), if_neg (by omega)]
 obtain ⟨B', L', h1, h2, h3, h4, h5, h6⟩ := psR_ok Q R (p + 1) R.length 0 B L [] 0 (by omega) h.ar (by rw [List.drop_zero, List.nil_append]; exact h.lv) (by rw [List.drop_zero, List.nil_append]; exact h.dn)
 rw [List.drop_zero, List.nil_append] at h1 h4
 rw [List.drop_zero] at h6
 have hf : (R.filter (fun g => keepB Q g.f1)).Sublist R := List.filter_sublist
 refine ⟨B', L', ?_, ⟨h2, h.q1, h.q6, fun x hx => ?_, by have := h.p0; omega, h4, h.dn.sublist (List.Sublist.map _ hf), fun g hg => ?_, h.so.sublist hf, Nat.le_trans hf.length_le h.rl⟩, h3, h6⟩
 ·rw [h1, Int.zero_add]
 ·have := h.qr x hx
  omega
 ·have := h.rp g (hf.subset hg)
  omega


end Go.Proofs.Ytemdjfiimgjiaaa.R
namespace Go.Proofs.Ytemdjfiimgjiaaa.R
set_option linter.unusedVariables false
set_option linter.unusedSimpArgs false
open Go.RowKit Go.Proofs.YtemdjfiimgjiaaaW.PrintWords Go.Proofs.Ytemdjfiimgjiaaa.PbR

theorem and255 (n : Int) : bits .and .i64 n 255 = n % 256 := by
 have h255 : (BitVec.ofInt 64 255).toNat = 2 ^ 8 - 1 := by decide
 have key : (BitVec.ofInt 64 n &&& BitVec.ofInt 64 255).toNat = (n % ((2 ^ 64 : Nat) : Int)).toNat % 2 ^ 8 := by
  rw [BitVec.toNat_and, BitVec.toNat_ofInt, h255, Nat.and_two_pow_sub_one_eq_mod]
 show IntKind.i64.wrap ((BitVec.ofInt 64 n &&& BitVec.ofInt 64 255).toNat : Nat) = n % 256
 rw [key, IntKind.wrap_i64]
 omega

theorem l1New_l0 (s : List Int) (hs : s.length ≤ 1048576) (d : Nat) : ∀ (k i : Nat) (x : Int), i + d = s.length → d < k → ∃ x', spec_l1New.l0 k s x (i : Int) = some (s, 0, x') := by
 induction d with
 | zero =>
  intro k i x hi hk
  obtain ⟨k, rfl⟩ : ∃ q, k = q + 1 := ⟨k - 1, by omega⟩
  rw [spec_l1New.l0, if_neg (by omega)]
  exact ⟨_, rfl⟩
 | succ d ih =>
  intro k i x hi hk
  obtain ⟨k, rfl⟩ : ∃ q, k = q + 1 := ⟨k - 1, by omega⟩
  rw [spec_l1New.l0, if_pos (by omega)]
  split
  ·rw [if_pos (by omega), w64 (x := (i : Int) + 1) (by omega) (by omega), show ((i : Int) + 1) = ((i + 1 : Nat) : Int) from by omega]
   exact ih k (i + 1) _ (by omega) (by omega)
  ·exact ⟨_, rfl⟩
theorem l1New_ok {k : Nat} {s : List Int} (hs : s.length ≤ 1048576) (hk : s.length < k) : ∃ x', spec_l1New.f k s = some (s, 0, x') := by
 unfold spec_l1New.f
 exact l1New_l0 s hs s.length k 0 _ (by omega) hk

/-- A place within the bytes. -/
def Pl (s : List Int) (p : Int) : Prop := 0 ≤ p ∧ p ≤ (s.length : Int)
theorem byte_ok {s : List Int} {p x : Int} (hs : s.length ≤ 1048576) (hp : Pl s p) : ∃ b p' x', spec_l1Byte.f s p x = some (b, p', x') ∧ 0 ≤ b ∧ b ≤ 255 ∧ Pl s p' := by
 obtain ⟨h0, h1⟩ := hp
 unfold spec_l1Byte.f
 by_cases h : p < (s.length : Int)
 ·rw [if_pos h, if_pos h0]
  refine ⟨_, _, _, rfl, ?_, ?_, ?_, ?_⟩
  ·rw [and255 (wrap64 _)]; omega
  ·rw [and255 (wrap64 _)]; omega
  ·rw [w64 (by omega) (by omega)]; omega
  ·rw [w64 (by omega) (by omega)]; omega
 ·rw [if_neg h]
  refine ⟨_, _, _, rfl, ?_, ?_, h0, h1⟩
  ·rw [and255]; omega
  ·rw [and255]; omega
theorem below_ok {s : List Int} {p x n : Int} (hs : s.length ≤ 1048576) (hp : Pl s p) (h0 : 0 < n) (h1 : n ≤ 256) : ∃ r p' x', spec_l1Below.f s p x n = some (r, p', x') ∧ 0 ≤ r ∧ r < n ∧ Pl s p' := by
 obtain ⟨b, p', x', e, hb0, hb1, hp'⟩ := byte_ok (x := x) hs hp
 unfold spec_l1Below.f
 rw [if_neg (by omega), if_pos h1, e, Option.bind_some, if_neg (by omega)]
 refine ⟨_, _, _, rfl, ?_, ?_, hp'⟩
 ·exact Int.tmod_nonneg _ hb0
 ·exact Int.tmod_lt_of_pos _ h0

end Go.Proofs.Ytemdjfiimgjiaaa.R
namespace Go.Proofs.Ytemdjfiimgjiaaa.Pure
set_option linter.unusedVariables false
set_option linter.unusedSimpArgs false
open Go.RowKit Go.Proofs.Ytemdjfiimgjiaaa.R Go.Proofs.YtemdjfiimgjiaaaW.PrintWords Go.Proofs.Ytemdjfiimgjiaaa.PbR

theorem draw3_l0 {s : List Int} (hs : s.length ≤ 1048576) (d : Nat) : ∀ (k : Nat) (told : List Int) (n c x : Int) (B : List S77) (L Q : List Int) (R : List S41) (p : Int), n = (d : Int) → 0 < told.length → told.length + d ≤ 60 → YI B L Q R p → p + (d : Int) ≤ 60 → Pl s c → d + 1000 < k →
  ∃ B' L' Q' R' p' told' c' x', spec_l3Draw.l0 k told n s c x B L Q R p = some (B', L', Q', R', p', told', c', x') ∧ YI B' L' Q' R' p' ∧ p' ≤ 60 := by
 induction d with
 | zero =>
  intro k told n c x B L Q R p hn ht hl hY hp hc hk
  obtain ⟨k, rfl⟩ : ∃ q, k = q + 1 := ⟨k - 1, by omega⟩
  rw [spec_l3Draw.l0, if_neg (by omega)]
  exact ⟨_, _, _, _, _, _, _, _, rfl, hY, by omega⟩
 | succ d ih =>
  intro k told n c x B L Q R p hn ht hl hY hp hc hk
  obtain ⟨k, rfl⟩ : ∃ q, k = q + 1 := ⟨k - 1, by omega⟩
  have hB := hY.ar.n4
  have hL := hY.ar.len
  have hQ := hY.q6
  have hR := hY.rl
  have hp0 := hY.p0
  have hy := hY.yard (by omega)
  obtain ⟨r, c1, x1, e1, r0, r1, hc1⟩ := below_ok (x := x) hs hc (n := 6) (by omega) (by omega)
  rw [spec_l3Draw.l0, if_pos (by omega), e1, Option.bind_some]
  dsimp only
  rw [w64 (x := n - 1) (by omega) (by omega)]
  by_cases h0 : r = 0
  ·rw [if_pos h0]
   obtain ⟨t, c2, x2, e2, t0, t1, hc2⟩ := below_ok (x := x1) hs hc1 (n := 3) (by omega) (by omega)
   obtain ⟨Q', w, g1, g2, g3, _⟩ := hY.pin (by omega) t
   rw [e2, Option.bind_some]
   dsimp only
   rw [specPin_eq hy (by omega) (by omega) (by omega) (by omega) (by omega), g1, Option.bind_some]
   dsimp only
   exact ih k told _ _ _ _ _ _ _ _ (by omega) ht (by omega) g2 (by omega) hc2 (by omega)
  ·rw [if_neg h0]
   by_cases h1 : r = 1
   ·rw [if_pos h1]
    obtain ⟨t, c2, x2, e2, t0, t1, hc2⟩ := below_ok (x := x1) hs hc1 (n := 3) (by omega) (by omega)
    obtain ⟨Q', w, g1, g2, g3, _⟩ := hY.unpin (by omega) t
    rw [e2, Option.bind_some]
    dsimp only
    rw [specUnpin_eq hy (by omega) (by omega) (by omega) (by omega) (by omega), g1, Option.bind_some]
    dsimp only
    exact ih k told _ _ _ _ _ _ _ _ (by omega) ht (by omega) g2 (by omega) hc2 (by omega)
   ·rw [if_neg h1]
    by_cases h2 : r = 2
    ·rw [if_pos h2]
     obtain ⟨t, c2, x2, e2, t0, t1, hc2⟩ := below_ok (x := x1) hs hc1 (n := (told.length : Int)) (by omega) (by omega)
     obtain ⟨R', w, g1, g2⟩ := hY.retire (by omega) (rd told t)
     rw [e2, Option.bind_some]
     dsimp only
     rw [if_pos t0, if_pos t1, specRetire_eq hy (by omega) (by omega) (by omega) (by omega) (by omega), g1, Option.bind_some]
     dsimp only
     exact ih k told _ _ _ _ _ _ _ _ (by omega) ht (by omega) g2 (by omega) hc2 (by omega)
    ·rw [if_neg h2]
     by_cases h3 : r = 3
     ·rw [if_pos h3]
      obtain ⟨B', L', g1, g2, g3, _⟩ := hY.pass (by omega)
      rw [specPass_eq hY.ar hY.lv hY.dn hy (by omega) hR (by omega), g1, Option.bind_some]
      dsimp only
      exact ih k told _ _ _ _ _ _ _ _ (by omega) ht (by omega) g2 (by omega) hc1 (by omega)
     ·rw [if_neg h3]
      obtain ⟨B', L', h, b, g1, g2, g3⟩ := hY.take
      rw [specTake_eq hY.ar.arOk (by omega) (by omega) (by omega), g1, Option.bind_some]
      dsimp only
      cases b with
      | true =>
       rw [if_pos rfl, if_pos (by omega)]
       exact ih k _ _ _ _ _ _ _ _ _ (by omega) (by rw [List.length_append]; omega) (by rw [List.length_append, List.length_singleton]; omega) g2 (by omega) hc1 (by omega)
      | false =>
       rw [if_neg Bool.false_ne_true]
       exact ih k told _ _ _ _ _ _ _ _ (by omega) ht (by omega) hY (by omega) hc1 (by omega)
theorem draw_ok {s : List Int} (hs : s.length ≤ 1048576) {k : Nat} (hk : s.length + 2000 < k) : ∃ B L Q R p, spec_DrawYard.f k s = some (B, L, Q, R, p) ∧ YI B L Q R p ∧ p ≤ 60 := by
 unfold spec_DrawYard.f spec_l3Draw.f
 obtain ⟨x, e⟩ := l1New_ok (k := k) hs (by omega)
 have hc : Pl s 0 := ⟨by omega, by omega⟩
 obtain ⟨n, c1, x1, e1, n0, n1, hc1⟩ := below_ok (x := x) hs hc (n := 5) (by omega) (by omega)
 obtain ⟨t, c2, x2, e2, t0, t1, hc2⟩ := below_ok (x := x1) hs hc1 (n := 3) (by omega) (by omega)
 obtain ⟨m, c3, x3, e3, m0, m1, hc3⟩ := below_ok (x := x2) hs hc2 (n := 30) (by omega) (by omega)
 obtain ⟨B, L, Q, g1, g2, g3⟩ := YI.new (n := 1 + n) (t := 1 + t) (by omega) (by omega) (by omega) (by omega)
 obtain ⟨B', L', Q', R', p', told', c', x', h1, h2, h3⟩ := draw3_l0 hs m.toNat k [0] m c3 x3 B L Q [] 0 (by omega) (by simp) (by simp only [List.length_singleton]; omega) g2 (by omega) hc3 (by omega)
 rw [e, Option.bind_some]
 dsimp only
 rw [e1, Option.bind_some]
 dsimp only
 rw [e2, Option.bind_some]
 dsimp only
 rw [w64 (x := 1 + n) (by omega) (by omega), w64 (x := 1 + t) (by omega) (by omega), specNewY_eq (by omega), g1, Option.bind_some]
 dsimp only
 rw [e3, Option.bind_some]
 dsimp only
 rw [h1, Option.bind_some]
 exact ⟨_, _, _, _, _, rfl, h2, h3⟩
def cn (B : List S77) (R : List S41) (v : Int) : Nat → Nat → Nat
 | _, 0 => 0
 | i, n + 1 => (if clsB B R i = v then 1 else 0) + cn B R v (i + 1) n
theorem cntR_cn (B : List S77) (R : List S41) (n : Nat) : ∀ (i : Nat) (a b c d : Int), cntR B R i n a b c d = (a + cn B R 0 i n, b + cn B R 1 i n, c + cn B R 2 i n, d + cn B R 3 i n, true) := by
 induction n with
 | zero => intro i a b c d; simp [cntR, cn]
 | succ n ih =>
  intro i a b c d
  have hr := clsB_rng B R i
  rw [cntR]
  simp only [cn]
  generalize clsB B R (i : Int) = v at hr
  have hv : v = 0 ∨ v = 1 ∨ v = 2 ∨ v = 3 := by omega
  rcases hv with rfl | rfl | rfl | rfl
  ·rw [if_pos rfl, ih]
   simp
   omega
  ·rw [if_neg (by decide), if_pos rfl, ih]
   simp
   omega
  ·rw [if_neg (by decide), if_neg (by decide), if_pos rfl, ih]
   simp
   omega
  ·rw [if_neg (by decide), if_neg (by decide), if_neg (by decide), ih]
   simp
   omega
theorem cn_sum (B : List S77) (R : List S41) (n : Nat) : ∀ i : Nat, cn B R 0 i n + cn B R 1 i n + cn B R 2 i n + cn B R 3 i n = n := by
 induction n with
 | zero => intro i; rfl
 | succ n ih =>
  intro i
  have hr := clsB_rng B R i
  have h1 := ih (i + 1)
  simp only [cn]
  generalize clsB B R (i : Int) = v at hr
  have hv : v = 0 ∨ v = 1 ∨ v = 2 ∨ v = 3 := by omega
  rcases hv with rfl | rfl | rfl | rfl <;> simp <;> omega
theorem cn0 (B : List S77) (R : List S41) (n : Nat) : ∀ i : Nat, cn B R 0 i n = (lpR B i n).length := by
 induction n with
 | zero => intro i; rfl
 | succ n ih =>
  intro i
  simp only [cn, lpR, ih]
  by_cases h : listedB (rd_T77 B i) = true
  ·rw [if_pos h, if_pos (by unfold clsB; rw [if_pos h]), List.length_cons]
   omega
  ·rw [if_neg h, if_neg (by unfold clsB; rw [if_neg h]; split; decide; split <;> decide)]
   omega
def pl2 (B : List S77) (R : List S41) : Nat → Nat → List Int
 | _, 0 => []
 | i, n + 1 => if clsB B R i = 2 then (i : Int) :: pl2 B R (i + 1) n else pl2 B R (i + 1) n
theorem cn2_len (B : List S77) (R : List S41) (n : Nat) : ∀ i : Nat, cn B R 2 i n = (pl2 B R i n).length := by
 induction n with
 | zero => intro i; rfl
 | succ n ih =>
  intro i
  simp only [cn, pl2, ih]
  split
  ·rw [List.length_cons]
   omega
  ·omega
theorem mem_pl2 (B : List S77) (R : List S41) (n : Nat) : ∀ (i : Nat) (x : Int), x ∈ pl2 B R i n ↔ ∃ m : Nat, i ≤ m ∧ m < i + n ∧ x = (m : Int) ∧ clsB B R m = 2 := by
 induction n with
 | zero =>
  intro i x
  simp only [pl2, List.not_mem_nil, false_iff]
  rintro ⟨m, h1, h2, _⟩
  omega
 | succ n ih =>
  intro i x
  have step : x ∈ pl2 B R (i + 1) n → ∃ m : Nat, i ≤ m ∧ m < i + (n + 1) ∧ x = (m : Int) ∧ clsB B R m = 2 := fun h => by
   obtain ⟨m, h1, h2, h3, h4⟩ := (ih (i + 1) x).1 h
   exact ⟨m, by omega, by omega, h3, h4⟩
  simp only [pl2]
  by_cases h : clsB B R i = 2
  ·rw [if_pos h, List.mem_cons]
   constructor
   ·rintro (rfl | h')
    ·exact ⟨i, by omega, by omega, rfl, h⟩
    ·exact step h'
   ·rintro ⟨m, h1, h2, h3, h4⟩
    by_cases e : m = i
    ·exact Or.inl (by rw [h3, e])
    ·exact Or.inr ((ih (i + 1) x).2 ⟨m, by omega, by omega, h3, h4⟩)
  ·rw [if_neg h]
   constructor
   ·exact step
   ·rintro ⟨m, h1, h2, h3, h4⟩
    have e : m ≠ i := fun e => h (e ▸ h4)
    exact (ih (i + 1) x).2 ⟨m, by omega, by omega, h3, h4⟩
theorem nodup_pl2 (B : List S77) (R : List S41) (n : Nat) : ∀ i : Nat, (pl2 B R i n).Nodup := by
 induction n with
 | zero => intro i; exact List.Pairwise.nil
 | succ n ih =>
  intro i
  simp only [pl2]
  split
  ·refine List.nodup_cons.2 ⟨fun h => ?_, ih (i + 1)⟩
   obtain ⟨m, h1, _, h3, _⟩ := (mem_pl2 B R n (i + 1) _).1 h
   omega
  ·exact ih (i + 1)
theorem cn2 {B : List S77} {L Q : List Int} {R : List S41} {p : Int} (h : YI B L Q R p) : cn B R 2 0 B.length = R.length := by
 rw [cn2_len]
 have hpl : (R.map (fun g => g.f0 / 8)).Nodup := by
  have h1 := List.pairwise_map.1 h.dn
  refine List.pairwise_map.2 (List.Pairwise.imp_of_mem (fun {a b} ha hb hne e => ?_) h1)
  exact hne ((h.lv a ha).place (h.lv b hb) e)
 have a1 := len_le_of_sub _ (pl2 B R 0 B.length) hpl (fun x hx => by
  obtain ⟨g, hg, rfl⟩ := List.mem_map.1 hx
  have hl := h.lv g hg
  have h0 := hl.1
  refine (mem_pl2 B R B.length 0 _).2 ⟨(g.f0 / 8).toNat, by omega, by omega, by omega, ?_⟩
  rw [Int.toNat_of_nonneg (by omega)]
  unfold clsB
  rw [if_neg (by unfold listedB; rw [hl.2.1]; simp), if_neg (by rw [hl.2.1]; simp), if_pos (hasG_iff.2 ⟨g, hg, by rw [hl.2.2]; omega⟩)])
 have a2 := len_le_of_sub _ (R.map (fun g => g.f0 / 8)) (nodup_pl2 B R B.length 0) (fun x hx => by
  obtain ⟨m, h1, h2, rfl, h4⟩ := (mem_pl2 B R B.length 0 x).1 hx
  unfold clsB at h4
  have hg := gen_rng h.ar.arOk (x := (m : Int)) (by omega) (by omega)
  split at h4
  ·cases h4
  ·split at h4
   ·cases h4
   ·split at h4
    ·rename_i h5
     obtain ⟨g, hg1, hg2⟩ := hasG_iff.1 h5
     exact List.mem_map.2 ⟨g, hg1, by omega⟩
    ·cases h4)
 rw [List.length_map] at a1 a2
 omega
theorem counts_ok {B : List S77} {L Q : List Int} {R : List S41} {p : Int} (h : YI B L Q R p) (hp : p ≤ 1000000) : ∃ b d : Int, countsR B L Q R p = ((L.length : Int), b, (R.length : Int), d, true) ∧ 0 ≤ b ∧ 0 ≤ d ∧ (L.length : Int) + b + (R.length : Int) + d = (B.length : Int) := by
 unfold countsR
 rw [if_pos (h.yard hp), cntR_cn]
 have h0 := cn0 B R B.length 0
 have h2 := cn2 h
 have hs := cn_sum B R B.length 0
 have hl := (arOk_true h.ar.arOk).2.2.2
 refine ⟨(cn B R 1 0 B.length : Int), (cn B R 3 0 B.length : Int), ?_, by omega, by omega, by omega⟩
 rw [h0, h2, ← hl]
 simp
def eqG (a b : S41) : Bool := (a.f0 == b.f0) && (a.f1 == b.f1)
theorem eqG_iff {a b : S41} : eqG a b = true ↔ a = b := by
 unfold eqG
 rw [Bool.and_eq_true, beq_iff_eq, beq_iff_eq]
 constructor
 ·rintro ⟨h1, h2⟩
  cases a
  cases b
  simp only at h1 h2
  rw [h1, h2]
 ·rintro rfl
  exact ⟨rfl, rfl⟩
theorem l1_eq (old : Int) (i : Nat) (B : List S77) (L Q : List Int) (R : List S41) (p : Int) (B' : List S77) (L' Q' : List Int) (R' : List S41) (p' : Int) (hi : i < R.length) (hR : R.length ≤ 24) (hR' : R'.length ≤ 24) (d : Nat) : ∀ (k j : Nat) (b : Bool), j + d = R'.length → laws_FnReclaimed.l1 (k + d) old (i : Int) b (j : Int) B L Q R p B' L' Q' R' p' = laws_FnReclaimed.l1 k old (i : Int) (b || (R'.drop j).any (fun g => eqG g R[i])) (R'.length : Int) B L Q R p B' L' Q' R' p' := by
 induction d with
 | zero =>
  intro k j b hj
  rw [List.drop_of_length_le (by omega), show j = R'.length from by omega]
  simp
 | succ d ih =>
  intro k j b hj
  have hjl : j < R'.length := by omega
  rw [show k + (d + 1) = (k + d) + 1 from by omega, laws_FnReclaimed.l1, if_pos (by omega), drop_cons R' j hjl, List.any_cons, w64 (by omega) (by omega), show ((j : Int) + 1) = ((j + 1 : Nat) : Int) from by omega, rdT41_at R' j hjl, rdT41_at R i hi]
  cases b with
  | true =>
   rw [if_pos rfl, ih k (j + 1) true (by omega)]
   simp
  | false =>
   rw [if_neg Bool.false_ne_true, if_pos (by omega), if_pos (by omega), if_pos (by omega), Bool.false_or]
   exact ih k (j + 1) (eqG R'[j] R[i]) (by omega)
theorem keep_old {Q : List Int} {s : Int} (hq : 0 < Q.length) (h0 : 0 ≤ rd Q 0) (hs : s ≥ rd Q 0) : keepB Q s = true := by
 unfold keepB
 rw [show (0 : Int) = ((0 : Nat) : Int) from rfl, rd_at Q 0 hq] at h0 hs
 refine List.any_eq_true.2 ⟨Q[0], List.getElem_mem hq, ?_⟩
 rw [Bool.and_eq_true]
 exact ⟨by simp; omega, decide_eq_true hs⟩
theorem l2_ok (B : List S77) (L Q : List Int) (R : List S41) (p : Int) (hp : 0 ≤ p ∧ p ≤ 100) (B' : List S77) (L' : List Int) (R' : List S41) (d : Nat) : ∀ (k t : Nat) (Q' : List Int), t + d = Q'.length → YI B' L' Q' R' (p + 1) → (∀ m : Nat, m < t → rd Q' m < 0) → d + 1000 < k → laws_FnReclaimed.l2 k (t : Int) B L Q R p B' L' Q' R' (p + 1) = some true := by
 induction d with
 | zero =>
  intro k t Q' ht hY hneg hk
  obtain ⟨k, rfl⟩ : ∃ q, k = q + 1 := ⟨k - 1, by omega⟩
  have hQ := hY.q6
  have hR := hY.rl
  obtain ⟨B2, L2, g1, _⟩ := hY.pass (by omega)
  have hno : ∀ s, keepB Q' s = false := by
   intro s
   rw [Bool.eq_false_iff]
   intro h
   unfold keepB at h
   obtain ⟨x, hx, h2⟩ := List.any_eq_true.1 h
   obtain ⟨m, hm, rfl⟩ := List.mem_iff_getElem.1 hx
   have h3 := hneg m (by omega)
   rw [rd_at Q' m hm] at h3
   have h4 := (hY.qr _ hx).1
   rw [Bool.and_eq_true] at h2
   have h5 := h2.1
   simp at h5
   omega
  have hf : R'.filter (fun g => keepB Q' g.f1) = [] := List.filter_eq_nil_iff.2 (fun g _ => by rw [hno]; simp)
  rw [laws_FnReclaimed.l2, if_neg (by omega), implPass_eq hY.ar hY.lv hY.dn (hY.yard (by omega)) (by omega) hR (by omega), g1, Option.bind_some]
  dsimp only
  rw [hf, if_pos (by simp), w64 (by omega) (by omega)]
  congr 1
  simp
  omega
 | succ d ih =>
  intro k t Q' ht hY hneg hk
  obtain ⟨k, rfl⟩ : ∃ q, k = q + 1 := ⟨k - 1, by omega⟩
  have hB := hY.ar.n4
  have hL := hY.ar.len
  have hQ := hY.q6
  have hR := hY.rl
  obtain ⟨Q2, w, g1, g2, g3, g4⟩ := hY.unpin (by omega) (t : Int)
  have g5 := g4 t rfl (by omega)
  rw [laws_FnReclaimed.l2, if_pos (by omega), implUnpin_eq (hY.yard (by omega)) (by omega) (by omega) (by omega) (by omega) (by omega), g1, Option.bind_some, w64 (by omega) (by omega), show ((t : Int) + 1) = ((t + 1 : Nat) : Int) from by omega]
  exact ih k (t + 1) Q2 (by omega) g2 (fun m hm => by
   by_cases e : m = t
   ·rw [e]
    exact g5.1
   ·exact g5.2 m (by omega) (hneg m (by omega))) (by omega)
theorem l0_ok {B : List S77} {L Q : List Int} {R : List S41} {p : Int} (hY : YI B L Q R p) (hp : p ≤ 100) {B' : List S77} {L' : List Int} {R' : List S41} {Q0 : List Int} (h0 : 0 ≤ rd Q0 0) (hY' : YI B' L' Q0 R' (p + 1)) (hR' : R' = R.filter (fun g => keepB Q0 g.f1)) (hfree : ∀ g ∈ R, keepB Q0 g.f1 = false → (rd_T77 B' (g.f0 / 8)).f1 = true) (d : Nat) : ∀ (k i : Nat), i + d = R.length → 40 * d + 1100 < k → laws_FnReclaimed.l0 k (rd Q0 0) (i : Int) B L Q R p B' L' Q0 R' (p + 1) = some true := by
 have hR := hY.rl
 have hRl := hY'.rl
 have hB := hY'.ar.n4
 have hL := hY'.ar.len
 have hq1 := hY'.q1
 have hq6 := hY'.q6
 induction d with
 | zero =>
  intro k i hi hk
  obtain ⟨k, rfl⟩ : ∃ q, k = q + 1 := ⟨k - 1, by omega⟩
  rw [laws_FnReclaimed.l0, if_neg (by omega)]
  exact l2_ok B L Q R p ⟨hY.p0, hp⟩ B' L' R' Q0.length k 0 Q0 (by omega) hY' (fun m hm => by omega) (by omega)
 | succ d ih =>
  intro k i hi hk
  obtain ⟨k, rfl⟩ : ∃ q, k = (q + 1 + R'.length) + 1 := ⟨k - R'.length - 2, by omega⟩
  have hil : i < R.length := by omega
  have hm : R[i] ∈ R := List.getElem_mem hil
  have hany : (R'.drop 0).any (fun g => eqG g R[i]) = keepB Q0 R[i].f1 := by
   rw [List.drop_zero]
   cases hk2 : keepB Q0 R[i].f1 with
   | true => exact List.any_eq_true.2 ⟨R[i], by rw [hR']; exact List.mem_filter.2 ⟨hm, hk2⟩, eqG_iff.2 rfl⟩
   | false =>
    rw [Bool.eq_false_iff]
    intro h
    obtain ⟨g, hg, e⟩ := List.any_eq_true.1 h
    have e2 := eqG_iff.1 e
    subst e2
    rw [hR'] at hg
    have := (List.mem_filter.1 hg).2
    rw [hk2] at this
    cases this
  have hlive : liveB B' L' R[i].f0 = keepB Q0 R[i].f1 := by
   cases hk2 : keepB Q0 R[i].f1 with
   | true => exact (live_iff hY'.ar _).2 (hY'.lv _ (by rw [hR']; exact List.mem_filter.2 ⟨hm, hk2⟩))
   | false =>
    rw [Bool.eq_false_iff]
    intro h
    have h1 := ((live_iff hY'.ar _).1 h).2.1
    rw [hfree _ hm hk2] at h1
    cases h1
  have hrec := ih k (i + 1) (by omega) (by omega)
  rw [laws_FnReclaimed.l0, if_pos (by omega), show (0 : Int) = ((0 : Nat) : Int) from rfl, l1_eq (rd Q0 ((0 : Nat) : Int)) i B L Q R p B' L' Q0 R' (p + 1) hil hR hRl R'.length (k + 1) 0 false (by omega), hany, Bool.false_or, laws_FnReclaimed.l1, if_neg (by omega), if_pos (by omega), if_pos (by omega), rdT41_at R i hil, implLive_eq hY'.ar.arOk (by omega) (by omega) (by omega), Option.bind_some, hlive, w64 (by omega) (by omega), show ((i : Int) + 1) = ((i + 1 : Nat) : Int) from by omega, show ((0 : Nat) : Int) = 0 from rfl]
  by_cases hold : R[i].f1 ≥ rd Q0 0
  ·have hk2 := keep_old (by omega) h0 hold
   rw [hk2, if_pos hold, if_pos rfl, if_neg (by simp)]
   exact hrec
  ·rw [if_neg hold, if_neg (by simp)]
   exact hrec
theorem FnReclaimed : laws_FnReclaimed.Pure := by
 intro s hs
 refine ⟨s.length + 4000, ?_⟩
 unfold laws_FnReclaimed.f laws_big.f
 rw [Option.bind_some]
 by_cases hb : (s.length : Int) > 1048576
 ·rw [if_pos (decide_eq_true hb)]
 ·rw [if_neg (by simpa using hb)]
  have hlen : s.length ≤ 1048576 := by omega
  obtain ⟨B, L, Q, R, p, e, hY, hp⟩ := draw_ok hlen (k := s.length + 4000) (by omega)
  have hB := hY.ar.n4
  have hL := hY.ar.len
  have hQ := hY.q6
  have hR := hY.rl
  have hy := hY.yard (by omega)
  obtain ⟨b, d, e1, b0, d0, hsum⟩ := counts_ok hY (by omega)
  rw [e, Option.bind_some]
  dsimp only
  rw [implCounts_eq hy (by omega) (by omega) (by omega) (by omega) (by omega), e1, Option.bind_some]
  dsimp only
  rw [if_pos rfl, implYard_eq hY.ar.arOk (by omega) (by omega) (by omega) (by omega) (by omega), hy, Option.bind_some, if_pos rfl, w64 (x := (L.length : Int) + b) (by omega) (by omega), w64 (x := (L.length : Int) + b + (R.length : Int)) (by omega) (by omega), w64 (x := (L.length : Int) + b + (R.length : Int) + d) (by omega) (by omega), if_pos hsum, if_pos rfl, bne_self_eq_false]
  obtain ⟨k, hk⟩ : ∃ k, s.length + 4000 = k + 3 := ⟨s.length + 3997, by omega⟩
  obtain ⟨Q0, c, g1, g2, g3, g4⟩ := hY.pin (by omega) 0
  have g5 := g4 rfl
  have hQ0 := g2.q6
  have hq1 := g2.q1
  obtain ⟨B', L', f1, f2, f3, f4⟩ := g2.pass (by omega)
  have hR0 := f2.rl
  have hB0 := f2.ar.n4
  have hL0 := f2.ar.len
  have hcount : (((R.filter (fun g => keepB Q0 g.f1)).length : Nat) : Int) + ((R.countP (fun g => !keepB Q0 g.f1) : Nat) : Int) = (R.length : Int) := by
   have h1 := List.length_eq_countP_add_countP (fun g : S41 => keepB Q0 g.f1) (l := R)
   rw [List.countP_eq_length_filter] at h1
   have h2 : R.countP (fun g => !keepB Q0 g.f1) = R.countP (fun a => decide ¬ keepB Q0 a.f1 = true) := by
    apply List.countP_congr
    intro g _
    cases keepB Q0 g.f1 <;> simp
   omega
  have hj1 : laws_FnReclaimed.j1 (k + 2) false B L Q R p B L Q0 R p = some true := by
   rw [laws_FnReclaimed.j1, if_neg Bool.false_ne_true, if_pos (by omega), implPass_eq g2.ar g2.lv g2.dn (g2.yard (by omega)) (by omega) hR (by omega), f1, Option.bind_some]
   dsimp only
   rw [if_pos rfl, implYard_eq f2.ar.arOk (by omega) (by omega) (by omega) (by omega) (by omega), f2.yard (by omega), Option.bind_some, if_pos rfl, w64 (by omega) (by omega), show ((((R.filter (fun g => keepB Q0 g.f1)).length : Int) + ((R.countP (fun g => !keepB Q0 g.f1) : Nat) : Int)) != (R.length : Int)) = false from by rw [hcount]; exact bne_self_eq_false _,
    laws_FnReclaimed.j2, if_neg Bool.false_ne_true]
   exact l0_ok hY (by omega) g5.2 f2 rfl f4 R.length k 0 (by omega) (by omega)
  rw [hk, laws_FnReclaimed.j0, if_neg Bool.false_ne_true, implPin_eq hy (by omega) (by omega) (by omega) (by omega) (by omega), g1, Option.bind_some]
  dsimp only
  have hdec : decide (rd Q0 0 < 0) = false := decide_eq_false (by have := g5.2; omega)
  rcases g5.1 with rfl | rfl
  ·rw [if_pos rfl, if_neg (by omega), if_pos (by omega), hdec]
   exact hj1
  ·rw [if_neg (by decide), if_pos rfl, if_neg (by omega), if_pos (by omega), hdec]
   exact hj1


end Go.Proofs.Ytemdjfiimgjiaaa.Pure
