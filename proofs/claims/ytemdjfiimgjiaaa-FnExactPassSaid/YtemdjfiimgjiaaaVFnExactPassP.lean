/- The pure statement of FnExactPass and what it needs. Conditions: those that each theorem states. -/
import Derived.Test.YtemdjfiimgjiaaaVFnExactPass8
import Derived.RowKit
namespace Go.Proofs.Ytemdjfiimgjiaaa.PbS
open Go.RowKit Go.Proofs.YtemdjfiimgjiaaaW.PrintWords

theorem w64 {x : Int} (h0 : -9223372036854775808 ≤ x) (h1 : x ≤ 9223372036854775807) : wrap64 x = x := by
 unfold wrap64
 omega

theorem rd_at (l : List Int) (i : Nat) (h : i < l.length) : rd l (i : Int) = l[i] := by
 simp [rd, List.getD_eq_getElem?_getD, List.getElem?_eq_getElem h]

theorem set_take {α : Type} (x : List α) (v : α) (i : Nat) (h : i < x.length) : (x.set i v).take (i + 1) = x.take i ++ [v] := by
 rw [List.take_succ_eq_append_getElem (by simpa using h)]
 rw [List.take_set_of_le (Nat.le_refl i)]
 simp

/-- One round of a loop that copies. -/
theorem copy_step {α : Type} (x l : List α) (i : Nat) (h : i < l.length) (hx : i < x.length) :
  (x.set i l[i]).take (i + 1) ++ l.drop (i + 1) = x.take i ++ l.drop i := by
 rw [set_take x l[i] i hx, List.drop_eq_getElem_cons h, List.append_assoc]
 rfl

/-- The same where each element is turned into another kind. -/
theorem copy_step_map {α β : Type} (f : α → β) (x : List β) (l : List α) (i : Nat) (h : i < l.length) (hx : i < x.length) :
  (x.set i (f l[i])).take (i + 1) ++ (l.drop (i + 1)).map f = x.take i ++ (l.drop i).map f := by
 rw [set_take x (f l[i]) i hx, List.drop_eq_getElem_cons h, List.append_assoc]
 rfl

theorem drop_cons {α : Type} (l : List α) (i : Nat) (h : i < l.length) : l.drop i = l[i] :: l.drop (i + 1) := List.drop_eq_getElem_cons h


end Go.Proofs.Ytemdjfiimgjiaaa.PbS
namespace Go.Proofs.Ytemdjfiimgjiaaa.PbS
theorem ifneg_lt {α : Type} {c : Int} {a b : α} (h : ¬ c < 0) : (if c < 0 then a else b) = b := if_neg h


end Go.Proofs.Ytemdjfiimgjiaaa.PbS
namespace Go.Proofs.Ytemdjfiimgjiaaa.S
set_option linter.unusedVariables false
set_option linter.unusedSimpArgs false
open Go.RowKit Go.Proofs.YtemdjfiimgjiaaaW.PrintWords Go.Proofs.Ytemdjfiimgjiaaa.PbS

theorem toIntS_l0 (l : List Int) (hl : l.length ≤ 4000000) (d : Nat) : ∀ (k i : Nat) (x : List Int), i + d = l.length → d < k → x.length = l.length → laws_toIntS.l0 k l x (i : Int) = some (x.take i ++ l.drop i) := by
 induction d with
 | zero =>
  intro k i x hi hk hx
  obtain ⟨k, rfl⟩ : ∃ m, k = m + 1 := ⟨k - 1, by omega⟩
  simp only [laws_toIntS.l0]
  rw [if_neg (by omega), List.take_of_length_le (by omega), List.drop_of_length_le (by omega), List.append_nil]
 | succ d ih =>
  intro k i x hi hk hx
  obtain ⟨k, rfl⟩ : ∃ m, k = m + 1 := ⟨k - 1, by omega⟩
  simp only [laws_toIntS.l0]
  rw [if_pos (by omega), if_pos (by omega), if_pos (by omega), w64 (by omega) (by omega), rd_at l i (by omega), Int.toNat_natCast,
   show ((i : Int) + 1) = ((i + 1 : Nat) : Int) from by omega, ih k (i + 1) _ (by omega) (by omega) (by simp [hx]), copy_step x l i (by omega) (by omega)]

theorem toIntS_eq {k : Nat} {l : List Int} (hl : l.length ≤ 4000000) (hk : l.length < k) : laws_toIntS.f k l = some l := by
 unfold laws_toIntS.f
 rw [if_pos (by omega), if_pos (by omega)]
 have h := toIntS_l0 l hl l.length k 0 (List.replicate ((l.length : Int) : Int).toNat 0) (by omega) hk (by simp)
 rw [List.take_zero, List.drop_zero, List.nil_append] at h
 exact h

theorem eqIntS_l0 (l : List Int) (hl : l.length ≤ 4000000) (d : Nat) : ∀ (k i : Nat), i + d = l.length → d < k → laws_eqIntS.l0 k l l (i : Int) = some true := by
 induction d with
 | zero =>
  intro k i hi hk
  obtain ⟨k, rfl⟩ : ∃ m, k = m + 1 := ⟨k - 1, by omega⟩
  simp only [laws_eqIntS.l0]
  rw [if_neg (by omega)]
 | succ d ih =>
  intro k i hi hk
  obtain ⟨k, rfl⟩ : ∃ m, k = m + 1 := ⟨k - 1, by omega⟩
  simp only [laws_eqIntS.l0]
  rw [if_pos (by omega), if_pos (by omega), if_pos (by omega), if_pos trivial, w64 (by omega) (by omega), show ((i : Int) + 1) = ((i + 1 : Nat) : Int) from by omega]
  exact ih k (i + 1) (by omega) (by omega)

theorem eqIntS_refl {k : Nat} {l : List Int} (hl : l.length ≤ 4000000) (hk : l.length < k) : laws_eqIntS.f k l l = some true := by
 unfold laws_eqIntS.f
 rw [if_pos rfl]
 exact eqIntS_l0 l hl l.length k 0 (by omega) hk

/-- All of a list within bounds. -/
def inB (a b x : Int) : Bool := decide (a ≤ x) && decide (x ≤ b)

theorem l1In_eq (x a b : Int) : spec_l1In.f x a b = some (inB a b x) := by
 unfold spec_l1In.f inB
 by_cases h : x ≥ a
 ·rw [if_pos h, decide_eq_true (show a ≤ x from h), Bool.true_and]
 ·rw [if_neg h, decide_eq_false (show ¬ a ≤ x from h), Bool.false_and]

theorem in_eq (x a b : Int) : impl_in.f x a b = some (inB a b x) := by
 unfold impl_in.f inB
 by_cases h : a ≤ x
 ·rw [if_pos h, decide_eq_true h, Bool.true_and]
 ·rw [if_neg h, decide_eq_false h, Bool.false_and]

theorem index_l0 (l : List Int) (x : Int) (hl : l.length ≤ 4000000) (d : Nat) : ∀ (k i : Nat), i + d = l.length → d < k → ∃ r, slices_Index_int_int.l0 k l x (l.length : Int) (i : Int) = some r ∧ decide (r ≥ 0) = decide (x ∈ l.drop i) := by
 induction d with
 | zero =>
  intro k i hi hk
  obtain ⟨k, rfl⟩ : ∃ m, k = m + 1 := ⟨k - 1, by omega⟩
  refine ⟨-1, ?_, ?_⟩
  ·simp only [slices_Index_int_int.l0]
   rw [if_neg (by omega)]
  ·rw [List.drop_of_length_le (by omega)]
   simp
 | succ d ih =>
  intro k i hi hk
  obtain ⟨k, rfl⟩ : ∃ m, k = m + 1 := ⟨k - 1, by omega⟩
  simp only [slices_Index_int_int.l0]
  rw [if_pos (by omega), if_pos (by omega), if_pos (by omega), rd_at l i (by omega), drop_cons l i (by omega)]
  by_cases h : x = l[i]
  ·rw [if_pos h]
   exact ⟨(i : Int), rfl, by simp [← h]⟩
  ·rw [if_neg h, w64 (by omega) (by omega), show ((i : Int) + 1) = ((i + 1 : Nat) : Int) from by omega]
   obtain ⟨r, h1, h2⟩ := ih k (i + 1) (by omega) (by omega)
   exact ⟨r, h1, by rw [h2]; simp [-List.getElem_cons_drop, h]⟩
theorem contains_eq {k : Nat} {l : List Int} {x : Int} (hl : l.length ≤ 4000000) (hk : l.length < k) : slices_Contains_int_int.f k l x = some (decide (x ∈ l)) := by
 unfold slices_Contains_int_int.f slices_Index_int_int.f
 obtain ⟨r, h1, h2⟩ := index_l0 l x hl l.length k 0 (by omega) hk
 rw [show ((0 : Nat) : Int) = 0 from rfl] at h1
 rw [h1, Option.bind_some, h2, List.drop_zero]

theorem l1Has_l0 (l : List Int) (x : Int) (hl : l.length ≤ 4000000) (d : Nat) : ∀ (k i : Nat), i + d = l.length → d < k → spec_l1Has.l0 k l x (i : Int) = some (decide (x ∈ l.drop i)) := by
 induction d with
 | zero =>
  intro k i hi hk
  obtain ⟨k, rfl⟩ : ∃ m, k = m + 1 := ⟨k - 1, by omega⟩
  simp only [spec_l1Has.l0]
  rw [if_neg (by omega), List.drop_of_length_le (by omega)]
  simp
 | succ d ih =>
  intro k i hi hk
  obtain ⟨k, rfl⟩ : ∃ m, k = m + 1 := ⟨k - 1, by omega⟩
  simp only [spec_l1Has.l0]
  rw [if_pos (by omega), if_pos (by omega), rd_at l i (by omega), drop_cons l i (by omega)]
  by_cases h : l[i] = x
  ·rw [if_pos h]
   simp [h]
  ·rw [if_neg h, w64 (by omega) (by omega), show ((i : Int) + 1) = ((i + 1 : Nat) : Int) from by omega, ih k (i + 1) (by omega) (by omega)]
   have h2 : ¬ x = l[i] := fun e => h e.symm
   simp [-List.getElem_cons_drop, h2]
theorem l1Has_eq {k : Nat} {l : List Int} {x : Int} (hl : l.length ≤ 4000000) (hk : l.length < k) : spec_l1Has.f k l x = some (decide (x ∈ l)) := by
 unfold spec_l1Has.f
 have h := l1Has_l0 l x hl l.length k 0 (by omega) hk
 rw [List.drop_zero] at h
 exact h

/-- A value. -/
def valB (x : Int) : Bool := inB (-1000000000) 1000000000 x
theorem l1Value_eq (x : Int) : spec_l1Value.f x = some (valB x) := by
 unfold spec_l1Value.f valB
 rw [l1In_eq]
 rfl
theorem isValue_eq (x : Int) : impl_isValue.f x = some (valB x) := by
 unfold impl_isValue.f valB
 rw [in_eq]
 rfl
theorem areV_l0 (l : List Int) (hl : l.length ≤ 4000000) (d : Nat) : ∀ (k i : Nat), i + d = l.length → d < k → ∃ r, slices_IndexFunc_int_int_F99.l0 k l (l.length : Int) (i : Int) = some r ∧ decide (r ≥ 0) = !((l.drop i).all valB) := by
 induction d with
 | zero =>
  intro k i hi hk
  obtain ⟨k, rfl⟩ : ∃ m, k = m + 1 := ⟨k - 1, by omega⟩
  refine ⟨-1, ?_, ?_⟩
  ·simp only [slices_IndexFunc_int_int_F99.l0]
   rw [if_neg (by omega)]
  ·rw [List.drop_of_length_le (by omega)]
   simp
 | succ d ih =>
  intro k i hi hk
  obtain ⟨k, rfl⟩ : ∃ m, k = m + 1 := ⟨k - 1, by omega⟩
  simp only [slices_IndexFunc_int_int_F99.l0, impl_areValues_1.f, isValue_eq, Option.bind_some]
  rw [if_pos (by omega), if_pos (by omega), if_pos (by omega), rd_at l i (by omega), drop_cons l i (by omega), List.all_cons]
  cases h : valB l[i] with
  | false =>
   rw [if_pos (by rfl)]
   refine ⟨(i : Int), rfl, ?_⟩
   rw [decide_eq_true (by omega)]
   rfl
  | true =>
   rw [if_neg (by decide), w64 (by omega) (by omega), show ((i : Int) + 1) = ((i + 1 : Nat) : Int) from by omega]
   obtain ⟨r, h1, h2⟩ := ih k (i + 1) (by omega) (by omega)
   exact ⟨r, h1, by rw [h2]; rfl⟩
theorem areValues_eq {k : Nat} {l : List Int} (hl : l.length ≤ 4000000) (hk : l.length < k) : impl_areValues.f k l = some (l.all valB) := by
 unfold impl_areValues.f slices_ContainsFunc_int_int_F99.f slices_IndexFunc_int_int_F99.f
 obtain ⟨r, h1, h2⟩ := areV_l0 l hl l.length k 0 (by omega) hk
 rw [show ((0 : Nat) : Int) = 0 from rfl] at h1
 rw [h1, Option.bind_some, Option.bind_some, h2, List.drop_zero, Bool.not_not]


end Go.Proofs.Ytemdjfiimgjiaaa.S
namespace Go.Proofs.Ytemdjfiimgjiaaa.S
set_option linter.unusedVariables false
set_option linter.unusedSimpArgs false
open Go.RowKit Go.Proofs.YtemdjfiimgjiaaaW.PrintWords Go.Proofs.Ytemdjfiimgjiaaa.PbS

def cvBlock (x : S114) : S77 := ⟨x.f0, x.f1, ⟨x.f2.f0, x.f2.f1, x.f2.f2⟩⟩
theorem rdLB_at (l : List S114) (i : Nat) (h : i < l.length) : rd_T114 l (i : Int) = l[i] := by
 simp [rd_T114, List.getD_eq_getElem?_getD, List.getElem?_eq_getElem h]
theorem rdB_set (l : List S77) (i : Nat) (y : S77) (h : i < l.length) : rd_T77 (l.set i y) (i : Int) = y := by
 simp [rd_T77, List.getD_eq_getElem?_getD, h]
theorem rdB_mid (p q : List S77) (y : S77) : rd_T77 (p ++ y :: q) ((p.length : Nat) : Int) = y := by
 simp [rd_T77, List.getD_eq_getElem?_getD]
theorem w01 : wrap64 ((0 : Int) + 1) = 1 := w64 (by decide) (by decide)
theorem w12 : wrap64 ((1 : Int) + 1) = 2 := w64 (by decide) (by decide)
theorem w23 : wrap64 ((2 : Int) + 1) = 3 := w64 (by decide) (by decide)
theorem toIntA3_eq {k : Nat} {a b c : Int} (hk : 3 < k) : laws_toIntA3.f k a b c = some (a, b, c) := by
 obtain ⟨k, rfl⟩ : ∃ m, k = m + 4 := ⟨k - 4, by omega⟩
 unfold laws_toIntA3.f
 rw [laws_toIntA3.l0, if_pos (by decide), if_pos rfl, w01, laws_toIntA3.l0, if_pos (by decide), if_neg (by decide), if_pos rfl, w12, laws_toIntA3.l0, if_pos (by decide), if_neg (by decide), if_neg (by decide), if_pos rfl, w23, laws_toIntA3.l0, if_neg (by decide)]
theorem eqIntA3_refl {k : Nat} {a b c : Int} (hk : 3 < k) : laws_eqIntA3.f k a b c a b c = some true := by
 obtain ⟨k, rfl⟩ : ∃ m, k = m + 4 := ⟨k - 4, by omega⟩
 unfold laws_eqIntA3.f
 rw [laws_eqIntA3.l0, if_pos (by decide), if_pos rfl, if_pos rfl, w01, laws_eqIntA3.l0, if_pos (by decide), if_neg (by decide), if_pos rfl, if_pos rfl, w12, laws_eqIntA3.l0, if_pos (by decide), if_neg (by decide), if_neg (by decide), if_pos rfl, if_pos rfl, w23, laws_eqIntA3.l0, if_neg (by decide)]
theorem eqBlock_refl {k : Nat} {a : Int} {b : Bool} {c d e : Int} (hk : 3 < k) : laws_eqBlock.f k a b c d e a b c d e = some true := by
 unfold laws_eqBlock.f
 rw [if_pos rfl, if_neg (by simp), eqIntA3_refl hk, Option.bind_some, if_pos rfl]
theorem szBlockS_eq {l : List S114} {a : Int} (hl : l.length ≤ maxLen) (ha : 0 ≤ a ∧ a ≤ 1048576) : laws_szBlockS.f l a = some (if a - (l.length : Int) < 0 then -1 else a - (l.length : Int)) := by
 unfold laws_szBlockS.f
 have hm : l.length ≤ 9223372036854775807 := hl
 rw [w64 (by omega) (by omega)]
 by_cases h : a - (l.length : Int) < 0
 ·rw [if_pos h, if_pos h]
 ·rw [if_neg h, if_neg h]
theorem toBlockS_l0 (l : List S114) (hl : l.length ≤ 4000000) (d : Nat) : ∀ (k i : Nat) (x : List S77), i + d = l.length → d + 4 < k → x.length = l.length → laws_toBlockS.l0 k l x (i : Int) = some (x.take i ++ (l.drop i).map cvBlock) := by
 induction d with
 | zero =>
  intro k i x hi hk hx
  obtain ⟨k, rfl⟩ : ∃ m, k = m + 1 := ⟨k - 1, by omega⟩
  simp only [laws_toBlockS.l0]
  rw [if_neg (by omega), List.take_of_length_le (by omega), List.drop_of_length_le (by omega), List.map_nil, List.append_nil]
 | succ d ih =>
  intro k i x hi hk hx
  obtain ⟨k, rfl⟩ : ∃ m, k = m + 1 := ⟨k - 1, by omega⟩
  simp only [laws_toBlockS.l0]
  rw [if_pos (by omega), if_pos (by omega)]
  simp only [laws_toBlock.f, toIntA3_eq (show 3 < k by omega), Option.bind_some]
  rw [if_pos (by omega), w64 (by omega) (by omega), rdLB_at l i (by omega), Int.toNat_natCast,
   show ((i : Int) + 1) = ((i + 1 : Nat) : Int) from by omega, ih k (i + 1) _ (by omega) (by omega) (by simp [hx])]
  exact congrArg some (copy_step_map cvBlock x l i (by omega) (by omega))
theorem toBlockS_eq {k : Nat} {l : List S114} (hl : l.length ≤ 4000000) (hk : l.length + 4 < k) : laws_toBlockS.f k l = some (l.map cvBlock) := by
 unfold laws_toBlockS.f
 rw [if_pos (by omega), if_pos (by omega)]
 have h := toBlockS_l0 l hl l.length k 0 (List.replicate ((l.length : Int) : Int).toNat z77) (by omega) hk (by simp)
 rw [List.take_zero, List.drop_zero, List.nil_append] at h
 exact h
theorem eqBlockS_l0 (l : List S77) (hl : l.length ≤ 4000000) (d : Nat) : ∀ (k i : Nat), i + d = l.length → d + 4 < k → laws_eqBlockS.l0 k l l (i : Int) = some true := by
 induction d with
 | zero =>
  intro k i hi hk
  obtain ⟨k, rfl⟩ : ∃ m, k = m + 1 := ⟨k - 1, by omega⟩
  simp only [laws_eqBlockS.l0]
  rw [if_neg (by omega)]
 | succ d ih =>
  intro k i hi hk
  obtain ⟨k, rfl⟩ : ∃ m, k = m + 1 := ⟨k - 1, by omega⟩
  simp only [laws_eqBlockS.l0]
  rw [if_pos (by omega), if_pos (by omega), if_pos (by omega), eqBlock_refl (by omega), Option.bind_some, if_pos rfl, w64 (by omega) (by omega), show ((i : Int) + 1) = ((i + 1 : Nat) : Int) from by omega]
  exact ih k (i + 1) (by omega) (by omega)
theorem eqBlockS_refl {k : Nat} {l : List S77} (hl : l.length ≤ 4000000) (hk : l.length + 4 < k) : laws_eqBlockS.f k l l = some true := by
 unfold laws_eqBlockS.f
 rw [if_pos rfl]
 exact eqBlockS_l0 l hl l.length k 0 (by omega) hk


end Go.Proofs.Ytemdjfiimgjiaaa.S
namespace Go.Proofs.Ytemdjfiimgjiaaa.S
set_option linter.unusedVariables false
set_option linter.unusedSimpArgs false
open Go.RowKit Go.Proofs.YtemdjfiimgjiaaaW.PrintWords Go.Proofs.Ytemdjfiimgjiaaa.PbS

def okB (b : S77) : Bool := inB 0 5 b.f0 && (!(!b.f1 && b.f0 == 5) && (valB b.f2.f0 && (valB b.f2.f1 && valB b.f2.f2)))
def listedB (b : S77) : Bool := b.f1 && decide (b.f0 < 5)
theorem isListed_eq (b : S77) : impl_isListed.f b.f0 b.f1 b.f2.f0 b.f2.f1 b.f2.f2 = some (listedB b) := by
 unfold impl_isListed.f listedB
 cases b.f1 <;> simp
/-- The list from place j on. -/
def lsR (B : List S77) (L : List Int) (c : Int) : Nat → Nat → Bool
 | _, 0 => (L.length : Int) == c
 | j, d + 1 => inB 0 ((B.length : Int) - 1) (rd L j) && (listedB (rd_T77 B (rd L j)) && (!decide (rd L j ∈ L.take j) && lsR B L c (j + 1) d))
/-- The blocks from i on, then the list. -/
def arR (B : List S77) (L : List Int) : Nat → Nat → Int → Bool
 | _, 0, c => lsR B L c 0 L.length
 | i, d + 1, c => okB (rd_T77 B i) && arR B L (i + 1) d (if listedB (rd_T77 B i) = true then c + 1 else c)
def arOk (B : List S77) (L : List Int) : Bool := inB 1 24 (B.length : Int) && arR B L 0 B.length 0
theorem inB_iff {a b x : Int} : inB a b x = true ↔ a ≤ x ∧ x ≤ b := by
 unfold inB
 simp
theorem implArena_l1 (B : List S77) (L : List Int) (c : Int) (hB : B.length ≤ 4000000) (hL : L.length ≤ 4000000) (d : Nat) : ∀ (k j : Nat), j + d = L.length → d + L.length < k → impl_ArenaOk.l1 k c L (L.length : Int) (j : Int) B L = some (lsR B L c j d) := by
 induction d with
 | zero =>
  intro k j hj hk
  obtain ⟨k, rfl⟩ : ∃ m, k = m + 1 := ⟨k - 1, by omega⟩
  rw [impl_ArenaOk.l1, if_neg (by omega)]
  rfl
 | succ d ih =>
  intro k j hj hk
  obtain ⟨k, rfl⟩ : ∃ m, k = m + 1 := ⟨k - 1, by omega⟩
  have ih1 := ih k (j + 1) (by omega) (by omega)
  rw [impl_ArenaOk.l1, if_pos (by omega), if_pos (by omega), if_pos (by omega), w64 (x := (B.length : Int) - 1) (by omega) (by omega), in_eq, Option.bind_some]
  simp only [lsR]
  cases h : inB 0 ((B.length : Int) - 1) (rd L j) with
  | false => rw [if_neg Bool.false_ne_true, Bool.false_and]
  | true =>
   have h1 := inB_iff.1 h
   rw [if_pos rfl, Bool.true_and, if_pos (by omega), if_pos (by omega), isListed_eq, Option.bind_some]
   cases listedB (rd_T77 B (rd L j)) with
   | false => rw [if_neg Bool.false_ne_true, Bool.false_and]
   | true =>
    rw [if_pos rfl, Bool.true_and, if_pos (by omega), Int.toNat_natCast, contains_eq (by rw [List.length_take]; omega) (by rw [List.length_take]; omega), Option.bind_some]
    cases decide (rd L j ∈ L.take j) with
    | true => rw [if_pos rfl]; rfl
    | false => rw [if_neg Bool.false_ne_true, w64 (by omega) (by omega), show ((j : Int) + 1) = ((j + 1 : Nat) : Int) from by omega, ih1]; rfl
theorem specArena_l2 (B : List S77) (L : List Int) (c : Int) (hB : B.length ≤ 4000000) (hL : L.length ≤ 4000000) (hG : ∀ m : Nat, m < B.length → inB 0 5 (rd_T77 B m).f0 = true) (d : Nat) : ∀ (k j : Nat), j + d = L.length → d + L.length < k → spec_ArenaOk.l2 k c (j : Int) B L = some (lsR B L c j d) := by
 induction d with
 | zero =>
  intro k j hj hk
  obtain ⟨k, rfl⟩ : ∃ m, k = m + 1 := ⟨k - 1, by omega⟩
  rw [spec_ArenaOk.l2, if_neg (by omega)]
  rfl
 | succ d ih =>
  intro k j hj hk
  obtain ⟨k, rfl⟩ : ∃ m, k = m + 1 := ⟨k - 1, by omega⟩
  have ih1 := ih k (j + 1) (by omega) (by omega)
  rw [spec_ArenaOk.l2, if_pos (by omega), if_pos (by omega), w64 (x := (B.length : Int) - 1) (by omega) (by omega), l1In_eq, Option.bind_some]
  simp only [lsR]
  cases h : inB 0 ((B.length : Int) - 1) (rd L j) with
  | false => rw [if_neg Bool.false_ne_true, Bool.false_and]
  | true =>
   have h1 := inB_iff.1 h
   have h2 : inB 0 5 (rd_T77 B (rd L j)).f0 = true := by
    have h3 := hG (rd L j).toNat (by omega)
    rw [Int.toNat_of_nonneg h1.1] at h3
    exact h3
   have h3 := inB_iff.1 h2
   rw [if_pos rfl, Bool.true_and, if_pos (by omega), if_pos (by omega)]
   unfold listedB
   cases (rd_T77 B (rd L j)).f1 with
   | false => rw [if_neg Bool.false_ne_true, Bool.false_and, Bool.false_and]
   | true =>
    rw [if_pos rfl, Bool.true_and]
    by_cases h4 : (rd_T77 B (rd L j)).f0 = 5
    ·rw [if_pos h4, decide_eq_false (by omega), Bool.false_and]
    ·rw [if_neg h4, decide_eq_true (by omega), Bool.true_and, if_pos (by omega), Int.toNat_natCast, l1Has_eq (by rw [List.length_take]; omega) (by rw [List.length_take]; omega), Option.bind_some]
     cases decide (rd L j ∈ L.take j) with
     | true => rw [if_pos rfl]; rfl
     | false => rw [if_neg Bool.false_ne_true, w64 (by omega) (by omega), show ((j : Int) + 1) = ((j + 1 : Nat) : Int) from by omega, ih1]; rfl
theorem implArena_l0 (B : List S77) (L : List Int) (hB : B.length ≤ 4000000) (hL : L.length ≤ 4000000) (d : Nat) : ∀ (k i : Nat) (c : Int), i + d = B.length → 2 * d + 2 * L.length + 4 < k → 0 ≤ c → c ≤ i → impl_ArenaOk.l0 k c B (B.length : Int) (i : Int) B L = some (arR B L i d c) := by
 induction d with
 | zero =>
  intro k i c hi hk h0 h1
  obtain ⟨k, rfl⟩ : ∃ m, k = m + 1 := ⟨k - 1, by omega⟩
  have h := implArena_l1 B L c hB hL L.length k 0 (by omega) (by omega)
  rw [impl_ArenaOk.l0, if_neg (by omega)]
  exact h
 | succ d ih =>
  intro k i c hi hk h0 h1
  obtain ⟨k, rfl⟩ : ∃ m, k = m + 2 := ⟨k - 2, by omega⟩
  have ihA := ih k (i + 1) (c + 1) (by omega) (by omega) (by omega) (by omega)
  have ihB := ih k (i + 1) c (by omega) (by omega) (by omega) (by omega)
  have j1f : ∀ x : S77, impl_ArenaOk.j1 (k + 1) c B (B.length : Int) (i : Int) true B L x.f0 x.f1 x.f2.f0 x.f2.f1 x.f2.f2 = some false := by
   intro x
   rw [impl_ArenaOk.j1, if_pos rfl]
  have j1t : ∀ x : S77, impl_ArenaOk.j1 (k + 1) c B (B.length : Int) (i : Int) false B L x.f0 x.f1 x.f2.f0 x.f2.f1 x.f2.f2 = some (arR B L (i + 1) d (if listedB x = true then c + 1 else c)) := by
   intro x
   rw [impl_ArenaOk.j1, if_neg Bool.false_ne_true, isListed_eq, Option.bind_some, w64 (x := c + 1) (by omega) (by omega), w64 (x := (i : Int) + 1) (by omega) (by omega), show ((i : Int) + 1) = ((i + 1 : Nat) : Int) from by omega, ihA, ihB]
   split <;> rfl
  rw [impl_ArenaOk.l0, if_pos (by omega), if_pos (by omega), if_pos (by omega), in_eq, Option.bind_some]
  simp only [arR]
  generalize rd_T77 B (i : Int) = x
  rw [areValues_eq (by simp) (by simp; omega), Option.bind_some, j1f]
  have hv : ([x.f2.f0, x.f2.f1, x.f2.f2] : List Int).all valB = (valB x.f2.f0 && (valB x.f2.f1 && valB x.f2.f2)) := by simp [Bool.and_assoc]
  rw [hv]
  unfold okB
  cases inB 0 5 x.f0 with
  | false => rw [if_neg Bool.false_ne_true, Bool.false_and, Bool.false_and]
  | true =>
   rw [if_pos rfl, Bool.true_and]
   have hv2 : impl_ArenaOk.j1 (k + 1) c B (B.length : Int) (i : Int) (!(valB x.f2.f0 && (valB x.f2.f1 && valB x.f2.f2))) B L x.f0 x.f1 x.f2.f0 x.f2.f1 x.f2.f2 = some ((valB x.f2.f0 && (valB x.f2.f1 && valB x.f2.f2)) && arR B L (i + 1) d (if listedB x = true then c + 1 else c)) := by
    cases (valB x.f2.f0 && (valB x.f2.f1 && valB x.f2.f2)) with
    | false => rw [Bool.not_false, j1f, Bool.false_and]
    | true => rw [Bool.not_true, j1t, Bool.true_and]
   rw [hv2]
   cases h1 : x.f1 with
   | true => rw [if_pos rfl, Bool.not_true, Bool.false_and, Bool.not_false, Bool.true_and]
   | false =>
    rw [if_neg Bool.false_ne_true]
    by_cases h5 : x.f0 = 5
    ·rw [if_pos h5, h5]
     rfl
    ·rw [if_neg h5, Bool.not_false, Bool.true_and, show (x.f0 == 5) = false from by simpa using h5, Bool.not_false, Bool.true_and]
theorem implArena_eq {k : Nat} {B : List S77} {L : List Int} (hB : B.length ≤ 4000000) (hL : L.length ≤ 4000000) (hk : 2 * B.length + 2 * L.length + 4 < k) : impl_ArenaOk.f k B L = some (arOk B L) := by
 unfold impl_ArenaOk.f arOk
 rw [in_eq, Option.bind_some]
 have h := implArena_l0 B L hB hL B.length k 0 0 (by omega) hk (by omega) (by omega)
 rw [show ((0 : Nat) : Int) = 0 from rfl] at h
 cases inB 1 24 (B.length : Int) with
 | false => rw [if_neg Bool.false_ne_true, Bool.false_and]
 | true => rw [if_pos rfl, Bool.true_and, h]
theorem specArena_l1 (B : List S77) (L : List Int) (hB : B.length ≤ 4000000) (k i : Nat) (c : Int) (x : S77) (h0 : 0 ≤ c) (h1 : c ≤ i) (hi : i < B.length) : spec_ArenaOk.l1 (k + 4) c (i : Int) 0 B L x.f0 x.f1 x.f2.f0 x.f2.f1 x.f2.f2 = if (valB x.f2.f0 && (valB x.f2.f1 && valB x.f2.f2)) = true then spec_ArenaOk.l0 k (if listedB x = true then c + 1 else c) ((i + 1 : Nat) : Int) B L else some false := by
 rw [spec_ArenaOk.l1, if_pos (by decide), if_pos rfl, l1Value_eq, Option.bind_some]
 cases valB x.f2.f0 with
 | false => rw [if_neg Bool.false_ne_true, Bool.false_and, if_neg Bool.false_ne_true]
 | true =>
  rw [if_pos rfl, Bool.true_and, w01, spec_ArenaOk.l1, if_pos (by decide), if_neg (by decide), if_pos rfl, l1Value_eq, Option.bind_some]
  cases valB x.f2.f1 with
  | false => rw [if_neg Bool.false_ne_true, Bool.false_and, if_neg Bool.false_ne_true]
  | true =>
   rw [if_pos rfl, Bool.true_and, w12, spec_ArenaOk.l1, if_pos (by decide), if_neg (by decide), if_neg (by decide), if_pos rfl, l1Value_eq, Option.bind_some]
   cases valB x.f2.f2 with
   | false => rw [if_neg Bool.false_ne_true, if_neg Bool.false_ne_true]
   | true =>
    rw [if_pos rfl, if_pos rfl, w23, spec_ArenaOk.l1, if_neg (by decide), w64 (x := c + 1) (by omega) (by omega), w64 (x := (i : Int) + 1) (by omega) (by omega), show ((i : Int) + 1) = ((i + 1 : Nat) : Int) from by omega]
    unfold listedB
    cases x.f1 with
    | false => rw [if_neg Bool.false_ne_true, Bool.false_and, if_neg Bool.false_ne_true]
    | true =>
     rw [if_pos rfl, Bool.true_and]
     by_cases h5 : x.f0 < 5
     ·rw [if_pos h5, decide_eq_true h5, if_pos rfl]
     ·rw [if_neg h5, decide_eq_false h5, if_neg Bool.false_ne_true]
theorem specArena_l0 (B : List S77) (L : List Int) (hB : B.length ≤ 4000000) (hL : L.length ≤ 4000000) (d : Nat) : ∀ (k i : Nat) (c : Int), i + d = B.length → 6 * d + 2 * L.length + 6 < k → 0 ≤ c → c ≤ i → (∀ m : Nat, m < i → inB 0 5 (rd_T77 B m).f0 = true) → spec_ArenaOk.l0 k c (i : Int) B L = some (arR B L i d c) := by
 induction d with
 | zero =>
  intro k i c hi hk h0 h1 hG
  obtain ⟨k, rfl⟩ : ∃ m, k = m + 1 := ⟨k - 1, by omega⟩
  have h := specArena_l2 B L c hB hL (fun m hm => hG m (by omega)) L.length k 0 (by omega) (by omega)
  rw [spec_ArenaOk.l0, if_neg (by omega)]
  exact h
 | succ d ih =>
  intro k i c hi hk h0 h1 hG
  obtain ⟨k, rfl⟩ : ∃ m, k = m + 6 := ⟨k - 6, by omega⟩
  have ihC : inB 0 5 (rd_T77 B i).f0 = true → spec_ArenaOk.l0 k (if listedB (rd_T77 B i) = true then c + 1 else c) ((i + 1 : Nat) : Int) B L = some (arR B L (i + 1) d (if listedB (rd_T77 B i) = true then c + 1 else c)) := by
   intro hin
   have hG' : ∀ m : Nat, m < i + 1 → inB 0 5 (rd_T77 B m).f0 = true := by
    intro m hm
    by_cases e : m = i
    ·rw [e]; exact hin
    ·exact hG m (by omega)
   split
   ·exact ih k (i + 1) (c + 1) (by omega) (by omega) (by omega) (by omega) hG'
   ·exact ih k (i + 1) c (by omega) (by omega) (by omega) (by omega) hG'
  rw [spec_ArenaOk.l0, if_pos (by omega), if_pos (by omega), l1In_eq, Option.bind_some]
  simp only [arR]
  generalize rd_T77 B (i : Int) = x at *
  have j1f : spec_ArenaOk.j1 (k + 5) c (i : Int) true B L x.f0 x.f1 x.f2.f0 x.f2.f1 x.f2.f2 = some false := by
   rw [spec_ArenaOk.j1, if_pos rfl]
  have j1t : inB 0 5 x.f0 = true → spec_ArenaOk.j1 (k + 5) c (i : Int) false B L x.f0 x.f1 x.f2.f0 x.f2.f1 x.f2.f2 = some ((valB x.f2.f0 && (valB x.f2.f1 && valB x.f2.f2)) && arR B L (i + 1) d (if listedB x = true then c + 1 else c)) := by
   intro hin
   rw [spec_ArenaOk.j1, if_neg Bool.false_ne_true, specArena_l1 B L hB k i c x h0 h1 (by omega), ihC hin]
   cases (valB x.f2.f0 && (valB x.f2.f1 && valB x.f2.f2)) with
   | false => rw [if_neg Bool.false_ne_true, Bool.false_and]
   | true => rw [if_pos rfl, Bool.true_and]
  unfold okB
  cases hin : inB 0 5 x.f0 with
  | false => rw [if_neg Bool.false_ne_true, j1f, Bool.false_and, Bool.false_and]
  | true =>
   rw [if_pos rfl, Bool.true_and, j1t hin]
   cases h1 : x.f1 with
   | true => rw [if_pos rfl, Bool.not_true, Bool.false_and, Bool.not_false, Bool.true_and]
   | false =>
    rw [if_neg Bool.false_ne_true]
    have j1t' := j1t hin
    rw [h1] at j1f j1t'
    by_cases h5 : x.f0 = 5
    ·rw [show (x.f0 == 5) = true from by simpa using h5, j1f]
     rfl
    ·rw [show (x.f0 == 5) = false from by simpa using h5, j1t', Bool.not_false, Bool.true_and, Bool.not_false, Bool.true_and]
theorem specArena_eq {k : Nat} {B : List S77} {L : List Int} (hB : B.length ≤ 4000000) (hL : L.length ≤ 4000000) (hk : 6 * B.length + 2 * L.length + 6 < k) : spec_ArenaOk.f k B L = some (arOk B L) := by
 unfold spec_ArenaOk.f arOk
 rw [l1In_eq, Option.bind_some]
 have h := specArena_l0 B L hB hL B.length k 0 0 (by omega) hk (by omega) (by omega) (fun m hm => absurd hm (by omega))
 rw [show ((0 : Nat) : Int) = 0 from rfl] at h
 cases inB 1 24 (B.length : Int) with
 | false => rw [if_neg Bool.false_ne_true, Bool.false_and]
 | true => rw [if_pos rfl, Bool.true_and, h]

-- the laws' own: sizes, copies, comparisons
theorem szIntS_eq {l : List Int} {a : Int} (hl : l.length ≤ maxLen) (ha : 0 ≤ a ∧ a ≤ 1048576) : laws_szIntS.f l a = some (if a - (l.length : Int) < 0 then -1 else a - (l.length : Int)) := by
 unfold laws_szIntS.f
 have hm : l.length ≤ 9223372036854775807 := hl
 rw [w64 (by omega) (by omega)]
 by_cases h : a - (l.length : Int) < 0
 ·rw [if_pos h, if_pos h]
 ·rw [if_neg h, if_neg h]
theorem szArena_ok {B : List S114} {L : List Int} (hB : B.length ≤ maxLen) (hL : L.length ≤ maxLen) : laws_szArena.f B L 1048576 = some (if 1048576 < (B.length : Int) + (L.length : Int) then -1 else 1048576 - (B.length : Int) - (L.length : Int)) := by
 unfold laws_szArena.f
 rw [szBlockS_eq hB (by omega), Option.bind_some]
 by_cases h : (1048576 : Int) - (B.length : Int) < 0
 ·rw [if_pos h, if_pos (by omega), if_pos (by omega)]
 ·rw [if_neg h, if_neg h, szIntS_eq hL (by omega), Option.bind_some]
  by_cases h2 : (1048576 : Int) - (B.length : Int) - (L.length : Int) < 0
  ·rw [if_pos h2, if_pos (by omega), if_pos (by omega)]
  ·rw [if_neg h2, if_neg h2, if_neg (by omega)]
theorem toArena_eq {k : Nat} {B : List S114} {L : List Int} (hB : B.length ≤ 4000000) (hL : L.length ≤ 4000000) (hk : B.length + L.length + 4 < k) : laws_toArena.f k B L = some (B.map cvBlock, L) := by
 unfold laws_toArena.f
 rw [toBlockS_eq hB (by omega), Option.bind_some, toIntS_eq hL (by omega), Option.bind_some]
theorem eqArena_refl {k : Nat} {B : List S77} {L : List Int} (hB : B.length ≤ 4000000) (hL : L.length ≤ 4000000) (hk : B.length + L.length + 4 < k) : laws_eqArena.f k B L B L = some true := by
 unfold laws_eqArena.f
 rw [eqBlockS_refl hB (by omega), Option.bind_some, if_pos rfl, eqIntS_refl hL (by omega), Option.bind_some, if_pos rfl]


end Go.Proofs.Ytemdjfiimgjiaaa.S
namespace Go.Proofs.Ytemdjfiimgjiaaa.S
set_option linter.unusedVariables false
set_option linter.unusedSimpArgs false
open Go.RowKit Go.Proofs.YtemdjfiimgjiaaaW.PrintWords Go.Proofs.Ytemdjfiimgjiaaa.PbS

theorem w8 {h : Int} (h0 : 0 ≤ h) (h1 : h ≤ 9223372036854775807) : wrap64 (Int.tdiv h 8) = h / 8 := by
 rw [Int.tdiv_eq_ediv_of_nonneg h0, w64 (by omega) (by omega)]
def liveB (B : List S77) (L : List Int) (h : Int) : Bool := arOk B L && (inB 0 (8 * (B.length : Int) - 1) h && (!(rd_T77 B (h / 8)).f1 && ((rd_T77 B (h / 8)).f0 == h % 8)))
theorem implLive_eq {k : Nat} {B : List S77} {L : List Int} {h : Int} (hB : B.length ≤ 4000000) (hL : L.length ≤ 4000000) (hk : 2 * B.length + 2 * L.length + 4 < k) : impl_Live.f k B L h = some (liveB B L h) := by
 unfold impl_Live.f liveB
 rw [implArena_eq hB hL hk, Option.bind_some, w64 (x := 8 * (B.length : Int)) (by omega) (by omega), w64 (x := 8 * (B.length : Int) - 1) (by omega) (by omega), in_eq, Option.bind_some]
 cases arOk B L with
 | false => rw [if_neg Bool.false_ne_true, Bool.false_and]
 | true =>
  rw [if_pos rfl, Bool.true_and]
  cases hi : inB 0 (8 * (B.length : Int) - 1) h with
  | false => rw [if_neg Bool.false_ne_true, Bool.false_and]
  | true =>
   have h1 := inB_iff.1 hi
   rw [if_pos rfl, Bool.true_and, w8 h1.1 (by omega), Int.tmod_eq_emod_of_nonneg h1.1, if_pos (by omega), if_pos (by omega)]
   cases (rd_T77 B (h / 8)).f1 <;> rfl
theorem specLive_eq {k : Nat} {B : List S77} {L : List Int} {h : Int} (hB : B.length ≤ 4000000) (hL : L.length ≤ 4000000) (hk : 6 * B.length + 2 * L.length + 6 < k) : spec_Live.f k B L h = some (liveB B L h) := by
 unfold spec_Live.f liveB
 rw [specArena_eq hB hL hk, Option.bind_some, w64 (x := 8 * (B.length : Int)) (by omega) (by omega), w64 (x := 8 * (B.length : Int) - 1) (by omega) (by omega), l1In_eq, Option.bind_some]
 cases arOk B L with
 | false => rw [if_neg Bool.false_ne_true, Bool.false_and]
 | true =>
  rw [if_pos rfl, Bool.true_and]
  cases hi : inB 0 (8 * (B.length : Int) - 1) h with
  | false => rw [if_neg Bool.false_ne_true, Bool.false_and]
  | true =>
   have h1 := inB_iff.1 hi
   rw [if_pos rfl, Bool.true_and, w8 h1.1 (by omega), Int.tmod_eq_emod_of_nonneg h1.1, if_pos (by omega), if_pos (by omega)]
   cases (rd_T77 B (h / 8)).f1 <;> rfl
theorem liveB_rng {B : List S77} {L : List Int} {h : Int} (hb : liveB B L h = true) : 0 ≤ h ∧ h ≤ 8 * (B.length : Int) - 1 := by
 unfold liveB at hb
 simp only [Bool.and_eq_true] at hb
 exact inB_iff.1 hb.2.1
theorem liveB_gen {B : List S77} {L : List Int} {h : Int} (hb : liveB B L h = true) : (rd_T77 B (h / 8)).f0 = h % 8 := by
 unfold liveB at hb
 simp only [Bool.and_eq_true] at hb
 exact by simpa using hb.2.2.2

theorem own_eq {l : List Int} (hl : l.length ≤ 4000000) : impl_own.f l = some l := by
 unfold impl_own.f
 rw [Option.bind_some, if_pos (by simp only [List.length_nil]; omega), List.nil_append]
theorem l1Copy_eq {l : List Int} (hl : l.length ≤ 4000000) : spec_l1Copy.f l = some l := by
 unfold spec_l1Copy.f
 rw [Option.bind_some, if_pos (by simp only [List.length_nil]; omega), List.nil_append]
theorem ownArena_eq {B : List S77} {L : List Int} (hB : B.length ≤ 4000000) (hL : L.length ≤ 4000000) : impl_ownArena.f B L = some (B, L) := by
 unfold impl_ownArena.f
 rw [Option.bind_some, if_pos (by simp only [List.length_nil]; omega), own_eq hL, Option.bind_some, List.nil_append]
theorem l2Copy_eq {B : List S77} {L : List Int} (hB : B.length ≤ 4000000) (hL : L.length ≤ 4000000) : spec_l2Copy.f B L = some (B, L) := by
 unfold spec_l2Copy.f
 rw [Option.bind_some, if_pos (by simp only [List.length_nil]; omega), l1Copy_eq hL, Option.bind_some, List.nil_append]


end Go.Proofs.Ytemdjfiimgjiaaa.S
namespace Go.Proofs.Ytemdjfiimgjiaaa.S
set_option linter.unusedVariables false
set_option linter.unusedSimpArgs false
open Go.RowKit Go.Proofs.YtemdjfiimgjiaaaW.PrintWords Go.Proofs.Ytemdjfiimgjiaaa.PbS

def giveR (B : List S77) (L : List Int) (h : Int) : List S77 × List Int × Bool :=
 if liveB B L h = true then (B.set (h / 8).toNat ⟨(rd_T77 B (h / 8)).f0 + 1, true, (rd_T77 B (h / 8)).f2⟩, if (rd_T77 B (h / 8)).f0 + 1 < 5 then [h / 8] ++ L else L, true) else (B, L, false)
theorem giveR_len (B : List S77) (L : List Int) (h : Int) : (giveR B L h).1.length = B.length ∧ (giveR B L h).2.1.length ≤ L.length + 1 := by
 unfold giveR
 split
 ·refine ⟨by simp, ?_⟩
  show (if (rd_T77 B (h / 8)).f0 + 1 < 5 then [h / 8] ++ L else L).length ≤ L.length + 1
  split
  ·simp
  ·omega
 ·exact ⟨rfl, by simp⟩
theorem rdB_setI {B : List S77} {q : Int} (y : S77) (h0 : 0 ≤ q) (h1 : q < (B.length : Int)) : rd_T77 (B.set q.toNat y) q = y := by
 have h := rdB_set B q.toNat y (by omega)
 rw [Int.toNat_of_nonneg h0] at h
 exact h
theorem implGive_eq {k : Nat} {B : List S77} {L : List Int} {h : Int} (hB : B.length ≤ 4000000) (hL : L.length ≤ 4000000) (hk : 2 * B.length + 2 * L.length + 4 < k) : impl_Give.f k B L h = some (giveR B L h) := by
 unfold impl_Give.f giveR
 rw [ownArena_eq hB hL, Option.bind_some, implLive_eq hB hL hk, Option.bind_some]
 cases hb : liveB B L h with
 | false => rw [if_neg Bool.false_ne_true, if_neg Bool.false_ne_true]
 | true =>
  have h1 := liveB_rng hb
  have h2 := liveB_gen hb
  rw [if_pos rfl, if_pos rfl, w8 h1.1 (by omega), if_pos (by omega), if_pos (by simp only []; omega), Option.bind_some, Option.bind_some]
  simp only [rdB_setI _ (show 0 ≤ h / 8 by omega) (show h / 8 < (B.length : Int) by omega), List.set_set, Option.bind_some]
  rw [w64 (x := (rd_T77 B (h / 8)).f0 + 1) (by omega) (by omega)]
  rw [isListed_eq (⟨(rd_T77 B (h / 8)).f0 + 1, true, (rd_T77 B (h / 8)).f2⟩), Option.bind_some]
  by_cases h3 : (rd_T77 B (h / 8)).f0 + 1 < 5
  ·rw [if_pos (by simp [listedB, h3]), if_pos h3, if_pos (by simp; omega)]
  ·rw [if_neg (by simp [listedB, h3]), if_neg h3]
theorem specGive_eq {k : Nat} {B : List S77} {L : List Int} {h : Int} (hB : B.length ≤ 4000000) (hL : L.length ≤ 4000000) (hk : 6 * B.length + 2 * L.length + 6 < k) : spec_Give.f k B L h = some (giveR B L h) := by
 unfold spec_Give.f giveR
 rw [l2Copy_eq hB hL, Option.bind_some, specLive_eq hB hL hk, Option.bind_some]
 cases hb : liveB B L h with
 | false => rw [if_neg Bool.false_ne_true, if_neg Bool.false_ne_true]
 | true =>
  have h1 := liveB_rng hb
  have h2 := liveB_gen hb
  rw [if_pos rfl, if_pos rfl, w8 h1.1 (by omega), if_pos (by omega), if_pos (by simp only []; omega), Option.bind_some, Option.bind_some]
  simp only [rdB_setI _ (show 0 ≤ h / 8 by omega) (show h / 8 < (B.length : Int) by omega), List.set_set, Option.bind_some]
  rw [w64 (x := (rd_T77 B (h / 8)).f0 + 1) (by omega) (by omega)]
  by_cases h3 : (rd_T77 B (h / 8)).f0 + 1 < 5
  ·rw [if_pos h3, if_pos h3, if_pos (by simp; omega)]
  ·rw [if_neg h3, if_neg h3]


end Go.Proofs.Ytemdjfiimgjiaaa.S
namespace Go.Proofs.Ytemdjfiimgjiaaa.S
set_option linter.unusedSimpArgs false
open Go.RowKit Go.Proofs.YtemdjfiimgjiaaaW.PrintWords Go.Proofs.Ytemdjfiimgjiaaa.PbS

theorem rd_mid (p q : List Int) (y : Int) : rd (p ++ y :: q) ((p.length : Nat) : Int) = y := by
 simp [rd, List.getD_eq_getElem?_getD]
def mkLInt : Int → Nat → List Int
 | _, 0 => []
 | a, m + 1 => a :: mkLInt (a + 1) m
theorem mkLInt_len : ∀ (m : Nat) (a : Int), (mkLInt a m).length = m
 | 0, _ => rfl
 | m + 1, a => by simp [mkLInt, mkLInt_len m]
theorem markIntS_l0 (d : Nat) : ∀ (k i : Nat) (a : Int) (x : List Int), x.length ≤ 4000000 → i + d = x.length → d < k → 0 ≤ a → a + d ≤ 1099511627776 → laws_markIntS.l0 k x a (i : Int) = some (a + d, x.take i ++ mkLInt a d) := by
 induction d with
 | zero =>
  intro k i a x hl hi hk h0 h1
  obtain ⟨k, rfl⟩ : ∃ m, k = m + 1 := ⟨k - 1, by omega⟩
  simp only [laws_markIntS.l0]
  rw [if_neg (by omega), List.take_of_length_le (by omega)]
  simp [mkLInt]
 | succ d ih =>
  intro k i a x hl hi hk h0 h1
  obtain ⟨k, rfl⟩ : ∃ m, k = m + 1 := ⟨k - 1, by omega⟩
  simp only [laws_markIntS.l0]
  have ei : wrap64 ((i : Int) + 1) = ((i + 1 : Nat) : Int) := by
   rw [w64 (by omega) (by omega)]
   omega
  have hx : i < x.length := by omega
  rw [if_pos (by omega), if_pos (by omega), w64 (x := a + 1) (by omega) (by omega), ei, Int.toNat_natCast,
   ih k (i + 1) (a + 1) _ (by simpa using hl) (by simp; omega) (by omega) (by omega) (by omega), set_take _ _ _ hx, List.append_assoc]
  refine congrArg some (Prod.ext ?_ rfl)
  show a + 1 + (d : Int) = a + ((d + 1 : Nat) : Int)
  omega
theorem markIntS_eq {k : Nat} {x : List Int} {a : Int} (hl : x.length ≤ 4000000) (hk : x.length < k) (h0 : 0 ≤ a) (h1 : a ≤ 549755813888) : laws_markIntS.f k x a = some (a + x.length, mkLInt a x.length) := by
 unfold laws_markIntS.f
 have h := markIntS_l0 x.length k 0 a x hl (by omega) hk h0 (by omega)
 rw [List.take_zero, List.nil_append] at h
 exact h
theorem heldIntS_l0 (d : Nat) : ∀ (k : Nat) (a : Int) (p : List Int), p.length + d ≤ 4000000 → d < k → 0 ≤ a → a + d ≤ 1099511627776 → laws_heldIntS.l0 k (p ++ mkLInt a d) a ((p.length : Nat) : Int) = some (a + d) := by
 induction d with
 | zero =>
  intro k a p hl hk h0 h1
  obtain ⟨k, rfl⟩ : ∃ m, k = m + 1 := ⟨k - 1, by omega⟩
  simp only [laws_heldIntS.l0]
  rw [if_neg (by simp [mkLInt])]
  simp
 | succ d ih =>
  intro k a p hl hk h0 h1
  obtain ⟨k, rfl⟩ : ∃ m, k = m + 1 := ⟨k - 1, by omega⟩
  simp only [laws_heldIntS.l0]
  have ei : wrap64 ((p.length : Int) + 1) = ((p.length + 1 : Nat) : Int) := by
   rw [w64 (by omega) (by omega)]
   omega
  have ea : wrap64 (a + 1) = a + 1 := w64 (by omega) (by omega)
  have hlen : ((p ++ mkLInt a (d + 1)).length : Int) = p.length + d + 1 := by
   simp [mkLInt_len]
   omega
  rw [if_pos (by omega), if_pos (by omega)]
  simp only [mkLInt, rd_mid, ea, ei, if_true]
  have h := ih k (a + 1) (p ++ [a]) (by simp; omega) (by omega) (by omega) (by omega)
  rw [List.append_assoc, List.length_append] at h
  simp only [List.singleton_append, List.length_singleton] at h
  rw [h]
  refine congrArg some ?_
  omega
theorem heldIntS_eq {k : Nat} {m : Nat} {a : Int} (hl : m ≤ 4000000) (hk : m < k) (h0 : 0 ≤ a) (h1 : a ≤ 549755813888) : laws_heldIntS.f k (mkLInt a m) a = some (a + m) := by
 unfold laws_heldIntS.f
 exact heldIntS_l0 m k a [] (by simpa using hl) hk h0 (by omega)


end Go.Proofs.Ytemdjfiimgjiaaa.S
namespace Go.Proofs.Ytemdjfiimgjiaaa.S
set_option linter.unusedSimpArgs false
open Go.RowKit Go.Proofs.YtemdjfiimgjiaaaW.PrintWords Go.Proofs.Ytemdjfiimgjiaaa.PbS

def cvGone (x : S109) : S41 := ⟨x.f0, x.f1⟩
theorem rdT109_at (l : List S109) (i : Nat) (h : i < l.length) : rd_T109 l (i : Int) = l[i] := by
 simp [rd_T109, List.getD_eq_getElem?_getD, List.getElem?_eq_getElem h]
theorem rdT41_at (l : List S41) (i : Nat) (h : i < l.length) : rd_T41 l (i : Int) = l[i] := by
 simp [rd_T41, List.getD_eq_getElem?_getD, List.getElem?_eq_getElem h]
theorem rdT41_set (l : List S41) (i : Nat) (y : S41) (h : i < l.length) : rd_T41 (l.set i y) (i : Int) = y := by
 simp [rd_T41, List.getD_eq_getElem?_getD, h]
theorem rdT41_mid (p q : List S41) (y : S41) : rd_T41 (p ++ y :: q) ((p.length : Nat) : Int) = y := by
 simp [rd_T41, List.getD_eq_getElem?_getD]
theorem szGoneS_eq {l : List S109} {a : Int} (hl : l.length ≤ maxLen) (ha : 0 ≤ a ∧ a ≤ 1048576) : laws_szGoneS.f l a = some (if a - (l.length : Int) < 0 then -1 else a - (l.length : Int)) := by
 unfold laws_szGoneS.f
 have hm : l.length ≤ 9223372036854775807 := hl
 rw [w64 (by omega) (by omega)]
 by_cases h : a - (l.length : Int) < 0
 ·rw [if_pos h, if_pos h]
 ·rw [if_neg h, if_neg h]
theorem toGoneS_l0 (l : List S109) (hl : l.length ≤ 4000000) (d : Nat) : ∀ (k i : Nat) (x : List S41), i + d = l.length → d < k → x.length = l.length → laws_toGoneS.l0 k l x (i : Int) = some (x.take i ++ (l.drop i).map cvGone) := by
 induction d with
 | zero =>
  intro k i x hi hk hx
  obtain ⟨k, rfl⟩ : ∃ m, k = m + 1 := ⟨k - 1, by omega⟩
  simp only [laws_toGoneS.l0]
  rw [if_neg (by omega), List.take_of_length_le (by omega), List.drop_of_length_le (by omega), List.map_nil, List.append_nil]
 | succ d ih =>
  intro k i x hi hk hx
  obtain ⟨k, rfl⟩ : ∃ m, k = m + 1 := ⟨k - 1, by omega⟩
  simp only [laws_toGoneS.l0]
  rw [if_pos (by omega), if_pos (by omega)]
  simp only [laws_toGone.f, Option.bind_some]
  rw [if_pos (by omega), w64 (by omega) (by omega), rdT109_at l i (by omega), Int.toNat_natCast,
   show ((i : Int) + 1) = ((i + 1 : Nat) : Int) from by omega, ih k (i + 1) _ (by omega) (by omega) (by simp [hx])]
  exact congrArg some (copy_step_map cvGone x l i (by omega) (by omega))
theorem toGoneS_eq {k : Nat} {l : List S109} (hl : l.length ≤ 4000000) (hk : l.length < k) : laws_toGoneS.f k l = some (l.map cvGone) := by
 unfold laws_toGoneS.f
 rw [if_pos (by omega), if_pos (by omega)]
 have h := toGoneS_l0 l hl l.length k 0 (List.replicate ((l.length : Int) : Int).toNat z41) (by omega) hk (by simp)
 rw [List.take_zero, List.drop_zero, List.nil_append] at h
 exact h
theorem eqGone_refl (a0 : Int) (a1 : Int) : laws_eqGone.f a0 a1 a0 a1 = some true := by
 simp [laws_eqGone.f]
theorem eqGoneS_l0 (l : List S41) (hl : l.length ≤ 4000000) (d : Nat) : ∀ (k i : Nat), i + d = l.length → d < k → laws_eqGoneS.l0 k l l (i : Int) = some true := by
 induction d with
 | zero =>
  intro k i hi hk
  obtain ⟨k, rfl⟩ : ∃ m, k = m + 1 := ⟨k - 1, by omega⟩
  simp only [laws_eqGoneS.l0]
  rw [if_neg (by omega)]
 | succ d ih =>
  intro k i hi hk
  obtain ⟨k, rfl⟩ : ∃ m, k = m + 1 := ⟨k - 1, by omega⟩
  simp only [laws_eqGoneS.l0]
  rw [if_pos (by omega), if_pos (by omega), if_pos (by omega), eqGone_refl, Option.bind_some, if_pos rfl, w64 (by omega) (by omega), show ((i : Int) + 1) = ((i + 1 : Nat) : Int) from by omega]
  exact ih k (i + 1) (by omega) (by omega)
theorem eqGoneS_refl {k : Nat} {l : List S41} (hl : l.length ≤ 4000000) (hk : l.length < k) : laws_eqGoneS.f k l l = some true := by
 unfold laws_eqGoneS.f
 rw [if_pos rfl]
 exact eqGoneS_l0 l hl l.length k 0 (by omega) hk
def mkGone (a : Int) : S41 := ⟨(a), (a + 1)⟩
def mkLGone : Int → Nat → List S41
 | _, 0 => []
 | a, m + 1 => mkGone a :: mkLGone (a + 1 + 1) m
theorem mkLGone_len : ∀ (m : Nat) (a : Int), (mkLGone a m).length = m
 | 0, _ => rfl
 | m + 1, a => by simp [mkLGone, mkLGone_len m]
theorem markGoneS_l0 (d : Nat) : ∀ (k i : Nat) (a : Int) (x : List S41), x.length ≤ 4000000 → i + d = x.length → d < k → 0 ≤ a → a + 2 * d ≤ 1099511627776 → laws_markGoneS.l0 k x a (i : Int) = some (a + 2 * d, x.take i ++ mkLGone a d) := by
 induction d with
 | zero =>
  intro k i a x hl hi hk h0 h1
  obtain ⟨k, rfl⟩ : ∃ m, k = m + 1 := ⟨k - 1, by omega⟩
  simp only [laws_markGoneS.l0]
  rw [if_neg (by omega), List.take_of_length_le (by omega)]
  simp [mkLGone]
 | succ d ih =>
  intro k i a x hl hi hk h0 h1
  obtain ⟨k, rfl⟩ : ∃ m, k = m + 1 := ⟨k - 1, by omega⟩
  simp only [laws_markGoneS.l0]
  have e0 : wrap64 (a + 1) = a + 1 := w64 (by omega) (by omega)
  have e1 : wrap64 (a + 1 + 1) = a + 1 + 1 := w64 (by omega) (by omega)
  have ei : wrap64 ((i : Int) + 1) = ((i + 1 : Nat) : Int) := by
   rw [w64 (by omega) (by omega)]
   omega
  have hx : i < x.length := by omega
  rw [if_pos (by omega), if_pos (by omega)]
  simp only [Option.bind_some, Int.toNat_natCast, List.set_set, rdT41_set, List.length_set, hx, e0, e1, ei]
  have hd : ((d + 1 : Nat) : Int) = (d : Int) + 1 := by omega
  refine Eq.trans (ih k (i + 1) (a + 1 + 1) (x.set i (mkGone a)) (by simpa using hl) (by simp; omega) (by omega) (by omega) (by omega)) ?_
  rw [set_take _ _ _ hx, List.append_assoc]
  refine congrArg some (Prod.ext ?_ rfl)
  show a + 1 + 1 + 2 * (d : Int) = a + 2 * ((d + 1 : Nat) : Int)
  omega
theorem markGoneS_eq {k : Nat} {x : List S41} {a : Int} (hl : x.length ≤ 4000000) (hk : x.length < k) (h0 : 0 ≤ a) (h1 : a ≤ 549755813888) : laws_markGoneS.f k x a = some (a + 2 * x.length, mkLGone a x.length) := by
 unfold laws_markGoneS.f
 have h := markGoneS_l0 x.length k 0 a x hl (by omega) hk h0 (by omega)
 rw [List.take_zero, List.nil_append] at h
 exact h
theorem heldGoneS_l0 (d : Nat) : ∀ (k : Nat) (a : Int) (p : List S41), p.length + d ≤ 4000000 → d < k → 0 ≤ a → a + 2 * d ≤ 1099511627776 → laws_heldGoneS.l0 k (p ++ mkLGone a d) a ((p.length : Nat) : Int) = some (a + 2 * d) := by
 induction d with
 | zero =>
  intro k a p hl hk h0 h1
  obtain ⟨k, rfl⟩ : ∃ m, k = m + 1 := ⟨k - 1, by omega⟩
  simp only [laws_heldGoneS.l0]
  rw [if_neg (by simp [mkLGone])]
  simp
 | succ d ih =>
  intro k a p hl hk h0 h1
  obtain ⟨k, rfl⟩ : ∃ m, k = m + 1 := ⟨k - 1, by omega⟩
  simp only [laws_heldGoneS.l0]
  have e0 : wrap64 (a + 1) = a + 1 := w64 (by omega) (by omega)
  have e1 : wrap64 (a + 1 + 1) = a + 1 + 1 := w64 (by omega) (by omega)
  have ei : wrap64 ((p.length : Int) + 1) = ((p.length + 1 : Nat) : Int) := by
   rw [w64 (by omega) (by omega)]
   omega
  have hlen : ((p ++ mkLGone a (d + 1)).length : Int) = p.length + d + 1 := by
   simp [mkLGone_len]
   omega
  rw [if_pos (by omega), if_pos (by omega)]
  simp only [mkLGone, rdT41_mid, mkGone, e0, e1, ei, if_true]
  have h := ih k (a + 1 + 1) (p ++ [mkGone a]) (by simp; omega) (by omega) (by omega) (by omega)
  rw [List.append_assoc, List.length_append] at h
  simp only [mkGone, List.singleton_append, List.length_singleton] at h
  rw [h]
  refine congrArg some ?_
  omega
theorem heldGoneS_eq {k : Nat} {m : Nat} {a : Int} (hl : m ≤ 4000000) (hk : m < k) (h0 : 0 ≤ a) (h1 : a ≤ 549755813888) : laws_heldGoneS.f k (mkLGone a m) a = some (a + 2 * m) := by
 unfold laws_heldGoneS.f
 exact heldGoneS_l0 m k a [] (by simpa using hl) hk h0 (by omega)


end Go.Proofs.Ytemdjfiimgjiaaa.S
namespace Go.Proofs.Ytemdjfiimgjiaaa.S
set_option linter.unusedVariables false
set_option linter.unusedSimpArgs false
open Go.RowKit Go.Proofs.YtemdjfiimgjiaaaW.PrintWords Go.Proofs.Ytemdjfiimgjiaaa.PbS

def hasG (l : List S41) (x : Int) : Bool := l.any (fun g => g.f0 == x)
theorem find_l0 (l : List S41) (x : Int) (hl : l.length ≤ 4000000) (d : Nat) : ∀ (k i : Nat), i + d = l.length → d < k → ∃ r, spec_l3Find.l0 k l x (i : Int) = some r ∧ decide (r ≥ 0) = hasG (l.drop i) x := by
 induction d with
 | zero =>
  intro k i hi hk
  obtain ⟨k, rfl⟩ : ∃ m, k = m + 1 := ⟨k - 1, by omega⟩
  refine ⟨-1, ?_, ?_⟩
  ·rw [spec_l3Find.l0, if_neg (by omega)]
  ·rw [List.drop_of_length_le (by omega)]
   rfl
 | succ d ih =>
  intro k i hi hk
  obtain ⟨k, rfl⟩ : ∃ m, k = m + 1 := ⟨k - 1, by omega⟩
  rw [spec_l3Find.l0, if_pos (by omega), if_pos (by omega), rdT41_at l i (by omega), drop_cons l i (by omega)]
  by_cases h : l[i].f0 = x
  ·rw [if_pos h]
   refine ⟨(i : Int), rfl, ?_⟩
   rw [decide_eq_true (by omega)]
   simp only [hasG, List.any_cons]
   rw [show (l[i].f0 == x) = true from by simpa using h, Bool.true_or]
  ·rw [if_neg h, w64 (by omega) (by omega), show ((i : Int) + 1) = ((i + 1 : Nat) : Int) from by omega]
   obtain ⟨r, h1, h2⟩ := ih k (i + 1) (by omega) (by omega)
   refine ⟨r, h1, ?_⟩
   rw [h2]
   simp only [hasG, List.any_cons]
   rw [show (l[i].f0 == x) = false from by simpa using h, Bool.false_or]
theorem find_eq {k : Nat} {l : List S41} {x : Int} (hl : l.length ≤ 4000000) (hk : l.length < k) : ∃ r, spec_l3Find.f k l x = some r ∧ decide (r ≥ 0) = hasG l x := by
 unfold spec_l3Find.f
 obtain ⟨r, h1, h2⟩ := find_l0 l x hl l.length k 0 (by omega) hk
 rw [List.drop_zero] at h2
 exact ⟨r, h1, h2⟩
theorem ret_l0 (l : List S41) (x : Int) (hl : l.length ≤ 4000000) (d : Nat) : ∀ (k i : Nat), i + d = l.length → d < k → ∃ r, impl_Gone_F86c900001_102.l0 k l (l.length : Int) (i : Int) x = some r ∧ decide (r ≥ 0) = hasG (l.drop i) x := by
 induction d with
 | zero =>
  intro k i hi hk
  obtain ⟨k, rfl⟩ : ∃ m, k = m + 1 := ⟨k - 1, by omega⟩
  refine ⟨-1, ?_, ?_⟩
  ·rw [impl_Gone_F86c900001_102.l0, if_neg (by omega)]
  ·rw [List.drop_of_length_le (by omega)]
   rfl
 | succ d ih =>
  intro k i hi hk
  obtain ⟨k, rfl⟩ : ∃ m, k = m + 1 := ⟨k - 1, by omega⟩
  rw [impl_Gone_F86c900001_102.l0, if_pos (by omega), if_pos (by omega), if_pos (by omega), impl_isRetired_1_c2.f, Option.bind_some, rdT41_at l i (by omega), drop_cons l i (by omega)]
  by_cases h : l[i].f0 = x
  ·rw [if_pos (by simpa using h)]
   refine ⟨(i : Int), rfl, ?_⟩
   rw [decide_eq_true (by omega)]
   simp only [hasG, List.any_cons]
   rw [show (l[i].f0 == x) = true from by simpa using h, Bool.true_or]
  ·rw [if_neg (by simpa using h), w64 (by omega) (by omega), show ((i : Int) + 1) = ((i + 1 : Nat) : Int) from by omega]
   obtain ⟨r, h1, h2⟩ := ih k (i + 1) (by omega) (by omega)
   refine ⟨r, h1, ?_⟩
   rw [h2]
   simp only [hasG, List.any_cons]
   rw [show (l[i].f0 == x) = false from by simpa using h, Bool.false_or]
theorem isRetired_eq {k : Nat} {l : List S41} {x : Int} (hl : l.length ≤ 4000000) (hk : l.length < k) : impl_isRetired.f k l x = some (hasG l x) := by
 unfold impl_isRetired.f impl_Gone_F86c900001.f impl_Gone_F86c900001_102.f
 obtain ⟨r, h1, h2⟩ := ret_l0 l x hl l.length k 0 (by omega) hk
 rw [show ((0 : Nat) : Int) = 0 from rfl] at h1
 rw [List.drop_zero] at h2
 rw [h1, Option.bind_some, Option.bind_some, h2]
theorem pins_l0 (l : List Int) (p : Int) (hl : l.length ≤ 4000000) (d : Nat) : ∀ (k i : Nat), i + d = l.length → d < k → ∃ r, slices_IndexFunc_int_int_F46c900002.l0 k l (l.length : Int) (i : Int) p = some r ∧ decide (r ≥ 0) = !((l.drop i).all (inB (-1) p)) := by
 induction d with
 | zero =>
  intro k i hi hk
  obtain ⟨k, rfl⟩ : ∃ m, k = m + 1 := ⟨k - 1, by omega⟩
  refine ⟨-1, ?_, ?_⟩
  ·rw [slices_IndexFunc_int_int_F46c900002.l0, if_neg (by omega)]
  ·rw [List.drop_of_length_le (by omega)]
   rfl
 | succ d ih =>
  intro k i hi hk
  obtain ⟨k, rfl⟩ : ∃ m, k = m + 1 := ⟨k - 1, by omega⟩
  rw [slices_IndexFunc_int_int_F46c900002.l0, if_pos (by omega), if_pos (by omega), if_pos (by omega), impl_YardOk_1_c2.f, in_eq, Option.bind_some, Option.bind_some, rd_at l i (by omega), drop_cons l i (by omega), List.all_cons]
  cases h : inB (-1) p l[i] with
  | false =>
   rw [if_pos (by rfl)]
   refine ⟨(i : Int), rfl, ?_⟩
   rw [decide_eq_true (by omega)]
   rfl
  | true =>
   rw [if_neg (by decide), w64 (by omega) (by omega), show ((i : Int) + 1) = ((i + 1 : Nat) : Int) from by omega]
   obtain ⟨r, h1, h2⟩ := ih k (i + 1) (by omega) (by omega)
   exact ⟨r, h1, by rw [h2]; rfl⟩
theorem pins_eq {k : Nat} {l : List Int} {p : Int} (hl : l.length ≤ 4000000) (hk : l.length < k) : slices_ContainsFunc_int_int_F46c900002.f k l p = some (!(l.all (inB (-1) p))) := by
 unfold slices_ContainsFunc_int_int_F46c900002.f slices_IndexFunc_int_int_F46c900002.f
 obtain ⟨r, h1, h2⟩ := pins_l0 l p hl l.length k 0 (by omega) hk
 rw [show ((0 : Nat) : Int) = 0 from rfl] at h1
 rw [h1, Option.bind_some, h2, List.drop_zero]

/-- The retired handles from i on. -/
def goR (B : List S77) (L : List Int) (R : List S41) (p : Int) : Nat → Nat → Int → Bool
 | _, 0, _ => true
 | i, d + 1, c => inB c p (rd_T41 R i).f1 && (liveB B L (rd_T41 R i).f0 && (!hasG (R.take i) (rd_T41 R i).f0 && goR B L R p (i + 1) d (rd_T41 R i).f1))
def yardB (B : List S77) (L Q : List Int) (R : List S41) (p : Int) : Bool :=
 arOk B L && (inB 1 6 (Q.length : Int) && (inB 0 1000000 p && (!decide ((R.length : Int) > 24) && (Q.all (inB (-1) p) && goR B L R p 0 R.length 0))))
theorem implYard_l0 (B : List S77) (L Q : List Int) (R : List S41) (p : Int) (hB : B.length ≤ 4000000) (hL : L.length ≤ 4000000) (hR : R.length ≤ 4000000) (d : Nat) : ∀ (k i : Nat) (c : Int), i + d = R.length → d + R.length + 2 * B.length + 2 * L.length + 6 < k →
  impl_YardOk.l0 k c R (R.length : Int) (i : Int) B L Q R p = some (goR B L R p i d c) := by
 induction d with
 | zero =>
  intro k i c hi hk
  obtain ⟨k, rfl⟩ : ∃ m, k = m + 1 := ⟨k - 1, by omega⟩
  rw [impl_YardOk.l0, if_neg (by omega)]
  rfl
 | succ d ih =>
  intro k i c hi hk
  obtain ⟨k, rfl⟩ : ∃ m, k = m + 1 := ⟨k - 1, by omega⟩
  have ih1 := ih k (i + 1) (rd_T41 R i).f1 (by omega) (by omega)
  rw [impl_YardOk.l0, if_pos (by omega), if_pos (by omega), if_pos (by omega), in_eq, Option.bind_some]
  simp only [goR]
  cases inB c p (rd_T41 R i).f1 with
  | false => rw [if_neg Bool.false_ne_true, Bool.false_and]
  | true =>
   rw [if_pos rfl, Bool.true_and, implLive_eq hB hL (by omega), Option.bind_some]
   cases liveB B L (rd_T41 R i).f0 with
   | false => rw [if_neg Bool.false_ne_true, Bool.false_and]
   | true =>
    rw [if_pos rfl, Bool.true_and, if_pos (by omega), Int.toNat_natCast, isRetired_eq (by rw [List.length_take]; omega) (by rw [List.length_take]; omega), Option.bind_some]
    cases hasG (R.take i) (rd_T41 R i).f0 with
    | true => rw [if_pos rfl]; rfl
    | false => rw [if_neg Bool.false_ne_true, w64 (by omega) (by omega), show ((i : Int) + 1) = ((i + 1 : Nat) : Int) from by omega, ih1]; rfl
theorem implYard_eq {k : Nat} {B : List S77} {L Q : List Int} {R : List S41} {p : Int} (hB : B.length ≤ 4000000) (hL : L.length ≤ 4000000) (hQ : Q.length ≤ 4000000) (hR : R.length ≤ 4000000) (hk : 2 * R.length + 2 * B.length + 2 * L.length + Q.length + 10 < k) :
  impl_YardOk.f k B L Q R p = some (yardB B L Q R p) := by
 obtain ⟨k, rfl⟩ : ∃ m, k = m + 1 := ⟨k - 1, by omega⟩
 have hl := implYard_l0 B L Q R p hB hL hR R.length k 0 0 (by omega) (by omega)
 rw [show ((0 : Nat) : Int) = 0 from rfl] at hl
 unfold impl_YardOk.f yardB
 rw [implArena_eq hB hL (by omega), Option.bind_some, in_eq, Option.bind_some, in_eq, Option.bind_some]
 have j0t : impl_YardOk.j0 (k + 1) true B L Q R p = some false := by rw [impl_YardOk.j0, if_pos rfl]
 rw [j0t]
 cases arOk B L with
 | false => rw [if_neg Bool.false_ne_true, Bool.false_and]
 | true =>
  rw [if_pos rfl, Bool.true_and]
  cases inB 1 6 (Q.length : Int) with
  | false => rw [if_neg Bool.false_ne_true, Bool.false_and]
  | true =>
   rw [if_pos rfl, Bool.true_and]
   cases inB 0 1000000 p with
   | false => rw [if_neg Bool.false_ne_true, Bool.false_and]
   | true =>
    rw [if_pos rfl, Bool.true_and]
    cases decide ((R.length : Int) > 24) with
    | true => rw [j0t]; rfl
    | false =>
     rw [impl_YardOk.j0, if_neg Bool.false_ne_true, pins_eq hQ (by omega), Option.bind_some, Bool.not_false, Bool.true_and]
     cases Q.all (inB (-1) p) with
     | false => rw [Bool.not_false, if_pos rfl, Bool.false_and]
     | true => rw [Bool.not_true, if_neg Bool.false_ne_true, hl, Bool.true_and]
theorem specYard_l0 (B : List S77) (L Q : List Int) (R : List S41) (p : Int) (hB : B.length ≤ 4000000) (hL : L.length ≤ 4000000) (hR : R.length ≤ 4000000) (d : Nat) : ∀ (k i : Nat) (c : Int), i + d = R.length → d + R.length + 6 * B.length + 2 * L.length + 8 < k → 0 ≤ c → (i = 0 → c = 0) → (∀ m : Nat, i = m + 1 → (rd_T41 R m).f1 = c) →
  spec_YardOk.l0 k (i : Int) B L Q R p = some (goR B L R p i d c) := by
 induction d with
 | zero =>
  intro k i c hi hk h0 hc hm
  obtain ⟨k, rfl⟩ : ∃ m, k = m + 1 := ⟨k - 1, by omega⟩
  rw [spec_YardOk.l0, if_neg (by omega)]
  rfl
 | succ d ih =>
  intro k i c hi hk h0 hc hm
  obtain ⟨k, rfl⟩ : ∃ m, k = m + 1 := ⟨k - 1, by omega⟩
  have hm' : ∀ m : Nat, i + 1 = m + 1 → (rd_T41 R m).f1 = (rd_T41 R i).f1 := by
   intro m e
   have e2 : m = i := by omega
   rw [e2]
  have ih1 : 0 ≤ (rd_T41 R i).f1 → spec_YardOk.l0 k ((i + 1 : Nat) : Int) B L Q R p = some (goR B L R p (i + 1) d (rd_T41 R i).f1) := fun hg => ih k (i + 1) (rd_T41 R i).f1 (by omega) (by omega) hg (fun e => absurd e (by omega)) hm'
  obtain ⟨r, hr1, hr2⟩ := find_eq (k := k) (l := R.take i) (x := (rd_T41 R i).f0) (by rw [List.length_take]; omega) (by rw [List.length_take]; omega)
  rw [spec_YardOk.l0, if_pos (by omega), if_pos (by omega), specLive_eq hB hL (by omega), Option.bind_some, l1In_eq, Option.bind_some, Int.toNat_natCast, hr1, Option.bind_some, w64 (x := (i : Int) + 1) (by omega) (by omega), show ((i : Int) + 1) = ((i + 1 : Nat) : Int) from by omega]
  simp only [goR]
  cases liveB B L (rd_T41 R i).f0 with
  | false => rw [if_neg Bool.false_ne_true, Bool.false_and, Bool.and_false]
  | true =>
   rw [if_pos rfl, Bool.true_and]
   cases hin : inB 0 p (rd_T41 R i).f1 with
   | false =>
    rw [if_neg Bool.false_ne_true]
    have h2 : inB c p (rd_T41 R i).f1 = false := by
     cases h3 : inB c p (rd_T41 R i).f1 with
     | false => rfl
     | true =>
      have h4 := inB_iff.1 h3
      rw [inB_iff.2 ⟨by omega, h4.2⟩] at hin
      exact hin
    rw [h2, Bool.false_and]
   | true =>
    have h1 := inB_iff.1 hin
    have ih2 := ih1 h1.1
    rw [if_pos rfl, ih2]
    have fin : (if r ≥ 0 then some false else some (goR B L R p (i + 1) d (rd_T41 R i).f1)) = some (!hasG (R.take i) (rd_T41 R i).f0 && goR B L R p (i + 1) d (rd_T41 R i).f1) := by
     rw [← hr2]
     by_cases hge : r ≥ 0
     ·rw [if_pos hge, decide_eq_true hge]; rfl
     ·rw [if_neg hge, decide_eq_false hge]; rfl
    by_cases hi0 : i = 0
    ·rw [if_neg (by omega), if_pos (by omega), fin]
     have h5 := hc hi0
     rw [h5, hin, Bool.true_and]
    ·obtain ⟨m, hmi⟩ : ∃ m, i = m + 1 := ⟨i - 1, by omega⟩
     have h6 := hm m hmi
     have e1 : wrap64 ((i : Int) - 1) = (m : Int) := by rw [w64 (by omega) (by omega)]; omega
     rw [if_pos (by omega), e1, if_pos (by omega), if_pos (by omega), h6, if_pos (show (i : Int) ≤ (R.length : Int) by omega), fin]
     by_cases h7 : c > (rd_T41 R i).f1
     ·rw [if_pos h7]
      have h2 : inB c p (rd_T41 R i).f1 = false := by
       cases h3 : inB c p (rd_T41 R i).f1 with
       | false => rfl
       | true =>
        have h4 := inB_iff.1 h3
        omega
      rw [h2, Bool.false_and]
     ·rw [if_neg h7, inB_iff.2 ⟨by omega, h1.2⟩, Bool.true_and]
theorem l1All_l0 (l : List Int) (a b : Int) (hl : l.length ≤ 4000000) (d : Nat) : ∀ (k i : Nat), i + d = l.length → d < k → spec_l1All.l0 k l a b (i : Int) = some ((l.drop i).all (inB a b)) := by
 induction d with
 | zero =>
  intro k i hi hk
  obtain ⟨k, rfl⟩ : ∃ m, k = m + 1 := ⟨k - 1, by omega⟩
  rw [spec_l1All.l0, if_neg (by omega), List.drop_of_length_le (by omega)]
  rfl
 | succ d ih =>
  intro k i hi hk
  obtain ⟨k, rfl⟩ : ∃ m, k = m + 1 := ⟨k - 1, by omega⟩
  rw [spec_l1All.l0, if_pos (by omega), if_pos (by omega), rd_at l i (by omega), l1In_eq, Option.bind_some, drop_cons l i (by omega), List.all_cons]
  cases h : inB a b l[i] with
  | true =>
   rw [if_pos rfl, w64 (by omega) (by omega), show ((i : Int) + 1) = ((i + 1 : Nat) : Int) from by omega, ih k (i + 1) (by omega) (by omega), Bool.true_and]
  | false => simp
theorem l1All_eq {k : Nat} {l : List Int} {a b : Int} (hl : l.length ≤ 4000000) (hk : l.length < k) : spec_l1All.f k l a b = some (l.all (inB a b)) := by
 unfold spec_l1All.f
 exact l1All_l0 l a b hl l.length k 0 (by omega) hk
theorem specYard_eq {k : Nat} {B : List S77} {L Q : List Int} {R : List S41} {p : Int} (hB : B.length ≤ 4000000) (hL : L.length ≤ 4000000) (hQ : Q.length ≤ 4000000) (hR : R.length ≤ 4000000) (hk : 2 * R.length + 6 * B.length + 2 * L.length + Q.length + 12 < k) :
  spec_YardOk.f k B L Q R p = some (yardB B L Q R p) := by
 obtain ⟨k, rfl⟩ : ∃ m, k = m + 1 := ⟨k - 1, by omega⟩
 have hl := specYard_l0 B L Q R p hB hL hR R.length k 0 0 (by omega) (by omega) (by omega) (fun _ => rfl) (fun m e => absurd e (by omega))
 rw [show ((0 : Nat) : Int) = 0 from rfl] at hl
 unfold spec_YardOk.f yardB
 rw [specArena_eq hB hL (by omega), Option.bind_some, l1In_eq, Option.bind_some, l1In_eq, Option.bind_some, l1All_eq hQ (by omega), Option.bind_some]
 have j0t : spec_YardOk.j0 (k + 1) true B L Q R p = some false := by rw [spec_YardOk.j0, if_pos rfl]
 rw [j0t]
 cases arOk B L with
 | false => rw [if_neg Bool.false_ne_true, Bool.false_and]
 | true =>
  rw [if_pos rfl, Bool.true_and]
  cases inB 0 1000000 p with
  | false => rw [if_neg Bool.false_ne_true, Bool.false_and, Bool.and_false]
  | true =>
   rw [if_pos rfl, Bool.true_and]
   cases inB 1 6 (Q.length : Int) with
   | false => rw [if_neg Bool.false_ne_true, Bool.false_and]
   | true =>
    rw [if_pos rfl, Bool.true_and]
    cases Q.all (inB (-1) p) with
    | false => rw [if_neg Bool.false_ne_true, Bool.false_and, Bool.and_false]
    | true =>
     rw [if_pos rfl, Bool.true_and]
     cases decide ((R.length : Int) > 24) with
     | true => rw [j0t]; rfl
     | false => rw [spec_YardOk.j0, if_neg Bool.false_ne_true, hl]; rfl


end Go.Proofs.Ytemdjfiimgjiaaa.S
namespace Go.Proofs.Ytemdjfiimgjiaaa.S
set_option linter.unusedVariables false
set_option linter.unusedSimpArgs false
open Go.RowKit Go.Proofs.YtemdjfiimgjiaaaW.PrintWords Go.Proofs.Ytemdjfiimgjiaaa.PbS

theorem l3Copy_eq {B : List S77} {L Q : List Int} {R : List S41} {p : Int} (hB : B.length ≤ 4000000) (hL : L.length ≤ 4000000) (hQ : Q.length ≤ 4000000) (hR : R.length ≤ 4000000) : spec_l3Copy.f B L Q R p = some (B, L, Q, R, p) := by
 unfold spec_l3Copy.f
 rw [l2Copy_eq hB hL, Option.bind_some, l1Copy_eq hQ, Option.bind_some, Option.bind_some, if_pos (by simp only [List.length_nil]; omega), List.nil_append]
theorem ownYard_eq {B : List S77} {L Q : List Int} {R : List S41} {p : Int} (hB : B.length ≤ 4000000) (hL : L.length ≤ 4000000) (hQ : Q.length ≤ 4000000) (hR : R.length ≤ 4000000) : impl_ownYard.f B L Q R p = some (B, L, Q, R, p) := by
 unfold impl_ownYard.f
 rw [ownArena_eq hB hL, Option.bind_some, own_eq hQ, Option.bind_some, Option.bind_some, if_pos (by simp only [List.length_nil]; omega), List.nil_append]

/-- What YardOk says of the pins. -/
theorem yardB_pins {B : List S77} {L Q : List Int} {R : List S41} {p : Int} (h : yardB B L Q R p = true) : (0 ≤ p ∧ p ≤ 1000000) ∧ (R.length ≤ 24) ∧ (∀ m : Nat, m < Q.length → -1 ≤ rd Q m ∧ rd Q m ≤ p) ∧ goR B L R p 0 R.length 0 = true := by
 unfold yardB at h
 simp only [Bool.and_eq_true] at h
 refine ⟨inB_iff.1 h.2.2.1, ?_, fun m hm => ?_, h.2.2.2.2.2⟩
 ·have h1 := h.2.2.2.1
  simp only [Bool.not_eq_true', decide_eq_false_iff_not] at h1
  omega
 ·have h1 := List.all_eq_true.1 h.2.2.2.2.1 (Q[m]) (List.getElem_mem hm)
  rw [rd_at Q m hm]
  exact inB_iff.1 h1

end Go.Proofs.Ytemdjfiimgjiaaa.S
namespace Go.Proofs.Ytemdjfiimgjiaaa.S
set_option linter.unusedVariables false
set_option linter.unusedSimpArgs false
open Go.RowKit Go.Proofs.YtemdjfiimgjiaaaW.PrintWords Go.Proofs.Ytemdjfiimgjiaaa.PbS

/-- Is what was retired at pass s kept: is a thread pinned at s or before. -/
def keepB (Q : List Int) (s : Int) : Bool := Q.any (fun x => !(x == -1) && decide (s ≥ x))
theorem keep1_eq (x s : Int) : impl_Pass_1_c2.f x s = some (!(x == -1) && decide (s ≥ x)) := by
 unfold impl_Pass_1_c2.f
 by_cases h : x = -1
 ·rw [if_pos h, h]
  rfl
 ·rw [if_neg h, show (x == -1) = false from by simpa using h, Bool.not_false, Bool.true_and]
theorem keep_l0 (l : List Int) (s : Int) (hl : l.length ≤ 4000000) (d : Nat) : ∀ (k i : Nat), i + d = l.length → d < k → ∃ r, slices_IndexFunc_int_int_F50c900003.l0 k l (l.length : Int) (i : Int) s = some r ∧ decide (r ≥ 0) = keepB (l.drop i) s := by
 induction d with
 | zero =>
  intro k i hi hk
  obtain ⟨k, rfl⟩ : ∃ m, k = m + 1 := ⟨k - 1, by omega⟩
  refine ⟨-1, ?_, ?_⟩
  ·rw [slices_IndexFunc_int_int_F50c900003.l0, if_neg (by omega)]
  ·rw [List.drop_of_length_le (by omega)]
   rfl
 | succ d ih =>
  intro k i hi hk
  obtain ⟨k, rfl⟩ : ∃ m, k = m + 1 := ⟨k - 1, by omega⟩
  rw [slices_IndexFunc_int_int_F50c900003.l0, if_pos (by omega), if_pos (by omega), if_pos (by omega), keep1_eq, Option.bind_some, rd_at l i (by omega), drop_cons l i (by omega)]
  simp only [keepB, List.any_cons]
  cases h : (!(l[i] == -1) && decide (s ≥ l[i])) with
  | true =>
   rw [if_pos rfl]
   refine ⟨(i : Int), rfl, ?_⟩
   rw [decide_eq_true (by omega)]
   rfl
  | false =>
   rw [if_neg Bool.false_ne_true, w64 (by omega) (by omega), show ((i : Int) + 1) = ((i + 1 : Nat) : Int) from by omega]
   obtain ⟨r, h1, h2⟩ := ih k (i + 1) (by omega) (by omega)
   exact ⟨r, h1, by rw [h2]; rfl⟩
theorem keep_eq {k : Nat} {l : List Int} {s : Int} (hl : l.length ≤ 4000000) (hk : l.length < k) : slices_ContainsFunc_int_int_F50c900003.f k l s = some (keepB l s) := by
 unfold slices_ContainsFunc_int_int_F50c900003.f slices_IndexFunc_int_int_F50c900003.f
 obtain ⟨r, h1, h2⟩ := keep_l0 l s hl l.length k 0 (by omega) hk
 rw [show ((0 : Nat) : Int) = 0 from rfl] at h1
 rw [h1, Option.bind_some, h2, List.drop_zero]

/-- The blocks, the list and what is kept, from i on. -/
def psR (Q : List Int) (R : List S41) (q : Int) : Nat → Nat → List S77 → List Int → List S41 → Int → List S77 × List Int × List Int × List S41 × Int × Int × Int
 | _, 0, B, L, K, c => (B, L, Q, K, q, c, 0)
 | i, d + 1, B, L, K, c => if keepB Q (rd_T41 R i).f1 = true then psR Q R q (i + 1) d B L (K ++ [⟨(rd_T41 R i).f0, (rd_T41 R i).f1⟩]) c else psR Q R q (i + 1) d (giveR B L (rd_T41 R i).f0).1 (giveR B L (rd_T41 R i).f0).2.1 K (c + 1)
def passR (B : List S77) (L Q : List Int) (R : List S41) (p : Int) : List S77 × List Int × List Int × List S41 × Int × Int × Int :=
 if yardB B L Q R p = true then (if p = 1000000 then (B, L, Q, R, p, 0, 1) else psR Q R (p + 1) 0 R.length B L [] 0) else (B, L, Q, R, p, 0, 1)
theorem psR_len (Q : List Int) (R : List S41) (q : Int) (d : Nat) : ∀ (i : Nat) (B : List S77) (L : List Int) (K : List S41) (c : Int), (psR Q R q i d B L K c).1.length = B.length ∧ (psR Q R q i d B L K c).2.1.length ≤ L.length + d ∧ (psR Q R q i d B L K c).2.2.1.length = Q.length ∧ (psR Q R q i d B L K c).2.2.2.1.length ≤ K.length + d := by
 induction d with
 | zero => intro i B L K c; exact ⟨rfl, by simp [psR], rfl, by simp [psR]⟩
 | succ d ih =>
  intro i B L K c
  simp only [psR]
  split
  ·have h := ih (i + 1) B L (K ++ [⟨(rd_T41 R i).f0, (rd_T41 R i).f1⟩]) c
   simp only [List.length_append, List.length_singleton] at h
   exact ⟨h.1, by omega, h.2.2.1, by omega⟩
  ·have hg := giveR_len B L (rd_T41 R i).f0
   have h := ih (i + 1) (giveR B L (rd_T41 R i).f0).1 (giveR B L (rd_T41 R i).f0).2.1 K (c + 1)
   exact ⟨by omega, by omega, h.2.2.1, by omega⟩
theorem passR_len (B : List S77) (L Q : List Int) (R : List S41) (p : Int) : (passR B L Q R p).1.length = B.length ∧ (passR B L Q R p).2.1.length ≤ L.length + R.length ∧ (passR B L Q R p).2.2.1.length = Q.length ∧ (passR B L Q R p).2.2.2.1.length ≤ R.length := by
 unfold passR
 split
 ·split
  ·exact ⟨rfl, by simp, rfl, Nat.le_refl _⟩
  ·have h := psR_len Q R (p + 1) R.length 0 B L [] 0
   simp only [List.length_nil] at h
   exact ⟨h.1, h.2.1, h.2.2.1, by omega⟩
 ·exact ⟨rfl, by simp, rfl, Nat.le_refl _⟩
theorem implPass_l0 (B0 : List S77) (L0 Q : List Int) (R : List S41) (p : Int) (hQ : Q.length ≤ 4000000) (hR : R.length ≤ 4000000) (hp : 0 ≤ p ∧ p ≤ 1000000) (d : Nat) : ∀ (k i : Nat) (B : List S77) (L : List Int) (K : List S41) (c : Int), i + d = R.length → B.length ≤ 4000000 → L.length + d ≤ 4000000 → K.length ≤ i → d + 2 * B.length + 2 * (L.length + d) + Q.length + 8 < k → 0 ≤ c → c ≤ i →
  impl_Pass.l0 k c R (R.length : Int) (i : Int) B0 L0 Q R p B L Q K p = some (psR Q R (p + 1) i d B L K c) := by
 induction d with
 | zero =>
  intro k i B L K c hi hB hL hK hk h0 h1
  obtain ⟨k, rfl⟩ : ∃ m, k = m + 1 := ⟨k - 1, by omega⟩
  rw [impl_Pass.l0, if_neg (by omega), w64 (by omega) (by omega)]
  rfl
 | succ d ih =>
  intro k i B L K c hi hB hL hK hk h0 h1
  obtain ⟨k, rfl⟩ : ∃ m, k = m + 1 := ⟨k - 1, by omega⟩
  have hg := giveR_len B L (rd_T41 R i).f0
  rw [impl_Pass.l0, if_pos (by omega), if_pos (by omega), if_pos (by omega), keep_eq hQ (by omega), Option.bind_some, implGive_eq hB (by omega) (by omega), Option.bind_some, w64 (x := (i : Int) + 1) (by omega) (by omega), w64 (x := c + 1) (by omega) (by omega), show ((i : Int) + 1) = ((i + 1 : Nat) : Int) from by omega]
  simp only [psR]
  split
  ·rw [if_pos (by omega), ih k (i + 1) B L _ c (by omega) hB (by omega) (by simp only [List.length_append, List.length_singleton]; omega) (by omega) h0 (by omega)]
  ·rw [ih k (i + 1) _ _ K (c + 1) (by omega) (by omega) (by omega) (by omega) (by omega) (by omega) (by omega)]
theorem implPass_eq {k : Nat} {B : List S77} {L Q : List Int} {R : List S41} {p : Int} (hB : B.length ≤ 2000000) (hL : L.length ≤ 2000000) (hQ : Q.length ≤ 2000000) (hR : R.length ≤ 2000000) (hk : 3 * R.length + 2 * B.length + 2 * (L.length + R.length) + Q.length + 14 < k) : impl_Pass.f k B L Q R p = some (passR B L Q R p) := by
 obtain ⟨k, rfl⟩ : ∃ m, k = m + 1 := ⟨k - 1, by omega⟩
 have j0t : impl_Pass.j0 (k + 1) 0 true B L Q R p B L Q R p = some (B, L, Q, R, p, 0, 1) := by rw [impl_Pass.j0, if_pos rfl]
 unfold impl_Pass.f passR
 rw [ownYard_eq (by omega) (by omega) (by omega) (by omega), Option.bind_some, implYard_eq (by omega) (by omega) (by omega) (by omega) (by omega), Option.bind_some, j0t]
 cases hy : yardB B L Q R p with
 | false => rw [if_neg Bool.false_ne_true, if_neg Bool.false_ne_true]
 | true =>
  rw [if_pos rfl, if_pos rfl]
  by_cases h : p = 1000000
  ·rw [if_pos h, show (p == 1000000) = true from by simpa using h, j0t]
  ·have hp := (yardB_pins hy).1
   have h1 := implPass_l0 B L Q R p (by omega) (by omega) hp R.length k 0 B L [] 0 (by omega) (by omega) (by omega) (Nat.zero_le _) (by omega) (by omega) (by omega)
   rw [show ((0 : Nat) : Int) = 0 from rfl] at h1
   rw [if_neg h, show (p == 1000000) = false from by simpa using h, impl_Pass.j0, if_neg Bool.false_ne_true, h1]

/-- The least pin from i on. -/
def lstR (Q : List Int) : Nat → Nat → Int → Int
 | _, 0, c => c
 | i, d + 1, c => if rd Q i ≥ 0 then lstR Q (i + 1) d (if c < rd Q i then c else rd Q i) else lstR Q (i + 1) d c
theorem lstR_lt (Q : List Int) (s : Int) (d : Nat) : ∀ (i : Nat) (c : Int), s < lstR Q i d c ↔ (s < c ∧ ∀ m : Nat, i ≤ m → m < i + d → rd Q m ≥ 0 → s < rd Q m) := by
 induction d with
 | zero =>
  intro i c
  simp only [lstR]
  exact ⟨fun h => ⟨h, fun m h1 h2 => by omega⟩, fun h => h.1⟩
 | succ d ih =>
  intro i c
  simp only [lstR]
  by_cases h : rd Q i ≥ 0
  ·rw [if_pos h, ih]
   constructor
   ·intro h1
    have h2 := h1.1
    refine ⟨by split at h2 <;> omega, fun m hm1 hm2 hm3 => ?_⟩
    by_cases e : m = i
    ·rw [e]; split at h2 <;> omega
    ·exact h1.2 m (by omega) (by omega) hm3
   ·intro h1
    have h2 := h1.2 i (Nat.le_refl _) (by omega) h
    exact ⟨by split <;> omega, fun m hm1 hm2 hm3 => h1.2 m (by omega) (by omega) hm3⟩
  ·rw [if_neg h, ih]
   constructor
   ·intro h1
    refine ⟨h1.1, fun m hm1 hm2 hm3 => ?_⟩
    by_cases e : m = i
    ·rw [e] at hm3; exact absurd hm3 h
    ·exact h1.2 m (by omega) (by omega) hm3
   ·intro h1
    exact ⟨h1.1, fun m hm1 hm2 hm3 => h1.2 m (by omega) (by omega) hm3⟩
theorem lst_keep {Q : List Int} {s : Int} (hs : s ≤ 1000000) (hQ : ∀ m : Nat, m < Q.length → -1 ≤ rd Q m) : (s < lstR Q 0 Q.length 1000001) ↔ keepB Q s = false := by
 rw [lstR_lt]
 constructor
 ·intro h
  cases hk : keepB Q s with
  | false => rfl
  | true =>
   unfold keepB at hk
   obtain ⟨x, hx, hx2⟩ := List.any_eq_true.1 hk
   obtain ⟨m, hm1, hm2⟩ := List.mem_iff_getElem.1 hx
   have h1 := hQ m hm1
   have h2 := h.2 m (by omega) (by omega)
   rw [rd_at Q m hm1, hm2] at h1 h2
   simp at hx2
   have h3 := h2 (by omega)
   omega
 ·intro hk
  refine ⟨by omega, fun m _ hm2 hm3 => ?_⟩
  have hm1 : m < Q.length := by omega
  rw [rd_at Q m hm1] at hm3 ⊢
  unfold keepB at hk
  have h1 := List.any_eq_false.1 hk (Q[m]) (List.getElem_mem hm1)
  simp at h1
  have h2 := h1 (by omega)
  omega
theorem goR_le (B : List S77) (L : List Int) (R : List S41) (p : Int) (d : Nat) : ∀ (i : Nat) (c : Int), goR B L R p i d c = true → ∀ m : Nat, i ≤ m → m < i + d → (rd_T41 R m).f1 ≤ p := by
 induction d with
 | zero => intro i c _ m h1 h2; omega
 | succ d ih =>
  intro i c h m h1 h2
  simp only [goR, Bool.and_eq_true] at h
  by_cases e : m = i
  ·rw [e]; exact (inB_iff.1 h.1).2
  ·exact ih (i + 1) _ h.2.2.2 m (by omega) (by omega)
theorem specPass_l1 (B0 : List S77) (L0 Q : List Int) (R : List S41) (p : Int) (hQ : Q.length ≤ 4000000) (hR : R.length ≤ 4000000) (hp : 0 ≤ p ∧ p ≤ 1000000) (hpin : ∀ m : Nat, m < Q.length → -1 ≤ rd Q m) (hle : ∀ m : Nat, m < R.length → (rd_T41 R m).f1 ≤ p) (d : Nat) : ∀ (k i : Nat) (B : List S77) (L : List Int) (K : List S41) (c : Int), i + d = R.length → B.length ≤ 4000000 → L.length + d ≤ 4000000 → K.length ≤ i → d + 6 * B.length + 2 * (L.length + d) + Q.length + 8 < k → 0 ≤ c → c ≤ i →
  spec_Pass.l1 k (lstR Q 0 Q.length 1000001) c (i : Int) B0 L0 Q R p B L Q K p = some (psR Q R (p + 1) i d B L K c) := by
 induction d with
 | zero =>
  intro k i B L K c hi hB hL hK hk h0 h1
  obtain ⟨k, rfl⟩ : ∃ m, k = m + 1 := ⟨k - 1, by omega⟩
  rw [spec_Pass.l1, if_neg (by omega), w64 (by omega) (by omega)]
  rfl
 | succ d ih =>
  intro k i B L K c hi hB hL hK hk h0 h1
  obtain ⟨k, rfl⟩ : ∃ m, k = m + 1 := ⟨k - 1, by omega⟩
  have hg := giveR_len B L (rd_T41 R i).f0
  have hl := hle i (by omega)
  have hlk := lst_keep (Q := Q) (s := (rd_T41 R i).f1) (by omega) hpin
  rw [spec_Pass.l1, if_pos (by omega), if_pos (by omega), specGive_eq hB (by omega) (by omega), Option.bind_some, w64 (x := (i : Int) + 1) (by omega) (by omega), w64 (x := c + 1) (by omega) (by omega), show ((i : Int) + 1) = ((i + 1 : Nat) : Int) from by omega]
  simp only [psR]
  cases hk2 : keepB Q (rd_T41 R i).f1 with
  | true =>
   rw [if_neg (fun e => by rw [hlk.1 e] at hk2; exact Bool.false_ne_true hk2), if_pos (by omega), if_pos rfl, ih k (i + 1) B L _ c (by omega) hB (by omega) (by simp only [List.length_append, List.length_singleton]; omega) (by omega) h0 (by omega)]
  | false =>
   rw [if_pos (hlk.2 hk2), if_neg Bool.false_ne_true, ih k (i + 1) _ _ K (c + 1) (by omega) (by omega) (by omega) (by omega) (by omega) (by omega) (by omega)]
theorem specPass_l0 (B : List S77) (L Q : List Int) (R : List S41) (p : Int) (hQ : Q.length ≤ 4000000) (d : Nat) : ∀ (k i : Nat) (c : Int), i + d = Q.length → spec_Pass.l0 (k + d + 1) c (i : Int) B L Q R p B L Q R p = spec_Pass.l1 k (lstR Q i d c) 0 0 B L Q R p B L Q [] p := by
 induction d with
 | zero =>
  intro k i c hi
  rw [spec_Pass.l0, if_neg (by omega)]
  rfl
 | succ d ih =>
  intro k i c hi
  have ihA := ih k (i + 1) c (by omega)
  have ihB := ih k (i + 1) (if c < rd Q i then c else rd Q i) (by omega)
  rw [show k + (d + 1) + 1 = (k + d + 1) + 1 from by omega, spec_Pass.l0, if_pos (by omega), if_pos (by omega), spec_l1Min.f, w64 (x := (i : Int) + 1) (by omega) (by omega), show ((i : Int) + 1) = ((i + 1 : Nat) : Int) from by omega, ihA]
  simp only [lstR]
  by_cases h : rd Q i ≥ 0
  ·rw [if_pos h, if_pos h]
   by_cases h2 : c < rd Q i
   ·rw [if_pos h2] at ihB ⊢
    rw [if_pos h2, Option.bind_some, ihB]
   ·rw [if_neg h2] at ihB ⊢
    rw [if_neg h2, Option.bind_some, ihB]
  ·rw [if_neg h, if_neg h]
theorem specPass_eq {k : Nat} {B : List S77} {L Q : List Int} {R : List S41} {p : Int} (hB : B.length ≤ 2000000) (hL : L.length ≤ 2000000) (hQ : Q.length ≤ 2000000) (hR : R.length ≤ 2000000) (hk : 3 * R.length + 6 * B.length + 2 * (L.length + R.length) + 2 * Q.length + 18 < k) : spec_Pass.f k B L Q R p = some (passR B L Q R p) := by
 obtain ⟨k, rfl⟩ : ∃ m, k = (m + Q.length + 1) + 1 := ⟨k - Q.length - 2, by omega⟩
 have j0t : spec_Pass.j0 ((k + Q.length + 1) + 1) true B L Q R p B L Q R p = some (B, L, Q, R, p, 0, 1) := by rw [spec_Pass.j0, if_pos rfl]
 unfold spec_Pass.f passR
 rw [l3Copy_eq (by omega) (by omega) (by omega) (by omega), Option.bind_some, specYard_eq (by omega) (by omega) (by omega) (by omega) (by omega), Option.bind_some, j0t]
 cases hy : yardB B L Q R p with
 | false => rw [if_neg Bool.false_ne_true, if_neg Bool.false_ne_true]
 | true =>
  rw [if_pos rfl, if_pos rfl]
  by_cases h : p = 1000000
  ·rw [if_pos h, show (p == 1000000) = true from by simpa using h, j0t]
  ·have hy2 := yardB_pins hy
   have h0 := specPass_l0 B L Q R p (by omega) Q.length k 0 1000001 (by omega)
   have h1 := specPass_l1 B L Q R p (by omega) (by omega) hy2.1 (fun m hm => (hy2.2.2.1 m hm).1) (fun m hm => goR_le B L R p R.length 0 0 hy2.2.2.2 m (by omega) (by omega)) R.length k 0 B L [] 0 (by omega) (by omega) (by omega) (Nat.zero_le _) (by omega) (by omega) (by omega)
   rw [show ((0 : Nat) : Int) = 0 from rfl] at h0 h1
   rw [if_neg h, show (p == 1000000) = false from by simpa using h, spec_Pass.j0, if_neg Bool.false_ne_true, h0, h1]


end Go.Proofs.Ytemdjfiimgjiaaa.S
namespace Go.Proofs.Ytemdjfiimgjiaaa.S
set_option linter.unusedVariables false
set_option linter.unusedSimpArgs false
open Go.RowKit Go.Proofs.YtemdjfiimgjiaaaW.PrintWords Go.Proofs.Ytemdjfiimgjiaaa.PbS

-- the laws' own
theorem szYard_ok {B : List S114} {L Q : List Int} {R : List S109} {p : Int} (hB : B.length ≤ maxLen) (hL : L.length ≤ maxLen) (hQ : Q.length ≤ maxLen) (hR : R.length ≤ maxLen) : laws_szYard.f B L Q R p 1048576 = some (if 1048576 < (B.length : Int) + (L.length : Int) + (Q.length : Int) + (R.length : Int) then -1 else 1048576 - (B.length : Int) - (L.length : Int) - (Q.length : Int) - (R.length : Int)) := by
 unfold laws_szYard.f
 rw [szArena_ok hB hL, Option.bind_some]
 by_cases h : (1048576 : Int) < (B.length : Int) + (L.length : Int)
 ·rw [if_pos h, if_pos (by omega), if_pos (by omega)]
 ·rw [if_neg h, if_neg (by omega), szIntS_eq hQ (by omega), Option.bind_some]
  by_cases h2 : (1048576 : Int) - (B.length : Int) - (L.length : Int) - (Q.length : Int) < 0
  ·rw [if_pos h2, if_pos (by omega), if_pos (by omega)]
  ·rw [if_neg h2, if_neg h2, szGoneS_eq hR (by omega), Option.bind_some]
   by_cases h3 : (1048576 : Int) - (B.length : Int) - (L.length : Int) - (Q.length : Int) - (R.length : Int) < 0
   ·rw [if_pos h3, if_pos (by omega), if_pos (by omega)]
   ·rw [if_neg h3, if_neg h3, if_neg (by omega)]
theorem toYard_eq {k : Nat} {B : List S114} {L Q : List Int} {R : List S109} {p : Int} (hB : B.length ≤ 4000000) (hL : L.length ≤ 4000000) (hQ : Q.length ≤ 4000000) (hR : R.length ≤ 4000000) (hk : B.length + L.length + Q.length + R.length + 4 < k) : laws_toYard.f k B L Q R p = some (B.map cvBlock, L, Q, R.map cvGone, p) := by
 unfold laws_toYard.f
 rw [toArena_eq hB hL (by omega), Option.bind_some, toIntS_eq hQ (by omega), Option.bind_some, toGoneS_eq hR (by omega), Option.bind_some]
theorem eqYard_refl {k : Nat} {B : List S77} {L Q : List Int} {R : List S41} {p : Int} (hB : B.length ≤ 4000000) (hL : L.length ≤ 4000000) (hQ : Q.length ≤ 4000000) (hR : R.length ≤ 4000000) (hk : B.length + L.length + Q.length + R.length + 4 < k) : laws_eqYard.f k B L Q R p B L Q R p = some true := by
 unfold laws_eqYard.f
 rw [eqArena_refl hB hL (by omega), Option.bind_some, if_pos rfl, eqIntS_refl hQ (by omega), Option.bind_some, if_pos rfl, eqGoneS_refl hR (by omega), Option.bind_some, if_pos rfl, if_pos rfl]


end Go.Proofs.Ytemdjfiimgjiaaa.S
namespace Go.Proofs.Ytemdjfiimgjiaaa.S
set_option linter.unusedVariables false
set_option linter.unusedSimpArgs false
open Go.RowKit Go.Proofs.YtemdjfiimgjiaaaW.PrintWords Go.Proofs.Ytemdjfiimgjiaaa.PbS

def mkBlock (a : Int) : S77 := ⟨a, ((Int.tmod (a + 1) 3) == 0), ⟨a + 1 + 1, a + 1 + 1 + 1, a + 1 + 1 + 1 + 1⟩⟩
def mkLBlock : Int → Nat → List S77
 | _, 0 => []
 | a, m + 1 => mkBlock a :: mkLBlock (a + 1 + 1 + 1 + 1 + 1) m
theorem mkLBlock_len : ∀ (m : Nat) (a : Int), (mkLBlock a m).length = m
 | 0, _ => rfl
 | m + 1, a => by simp [mkLBlock, mkLBlock_len m]
theorem markBlock_l1 (k i : Nat) (a : Int) (x : List S77) (hl : x.length ≤ 4000000) (hi : i < x.length) (h0 : 0 ≤ a) (h1 : a ≤ 1099511627776) :
  laws_markBlockS.l1 (k + 4) x a (i : Int) 0 = laws_markBlockS.l0 k (x.set i ⟨(rd_T77 x i).f0, (rd_T77 x i).f1, ⟨a, a + 1, a + 1 + 1⟩⟩) (a + 1 + 1 + 1) ((i + 1 : Nat) : Int) := by
 have hlt : ∀ y : S77, (i : Int) < ((x.set i y).length : Int) := fun y => by rw [List.length_set]; omega
 rw [laws_markBlockS.l1, if_pos (by decide), if_pos (by omega), if_pos (by omega), if_pos rfl, w01, Int.toNat_natCast, w64 (x := a + 1) (by omega) (by omega)]
 rw [laws_markBlockS.l1, if_pos (by decide), if_pos (by omega), if_pos (hlt _), if_neg (by decide), if_pos rfl, w12, Int.toNat_natCast, w64 (x := a + 1 + 1) (by omega) (by omega), List.set_set, rdB_set x i _ hi]
 rw [laws_markBlockS.l1, if_pos (by decide), if_pos (by omega), if_pos (hlt _), if_neg (by decide), if_neg (by decide), if_pos rfl, w23, Int.toNat_natCast, w64 (x := a + 1 + 1 + 1) (by omega) (by omega), List.set_set, rdB_set x i _ hi]
 rw [laws_markBlockS.l1, if_neg (by decide), w64 (by omega) (by omega), show ((i : Int) + 1) = ((i + 1 : Nat) : Int) from by omega]
theorem markBlockS_l0 (d : Nat) : ∀ (k i : Nat) (a : Int) (x : List S77), x.length ≤ 4000000 → i + d = x.length → 5 * d < k → 0 ≤ a → a + 5 * d ≤ 1099511627776 → laws_markBlockS.l0 k x a (i : Int) = some (a + 5 * d, x.take i ++ mkLBlock a d) := by
 induction d with
 | zero =>
  intro k i a x hl hi hk h0 h1
  obtain ⟨k, rfl⟩ : ∃ m, k = m + 1 := ⟨k - 1, by omega⟩
  rw [laws_markBlockS.l0, if_neg (by omega), List.take_of_length_le (by omega)]
  simp [mkLBlock]
 | succ d ih =>
  intro k i a x hl hi hk h0 h1
  obtain ⟨k, rfl⟩ : ∃ m, k = (m + 4) + 1 := ⟨k - 5, by omega⟩
  have hd : ((d + 1 : Nat) : Int) = (d : Int) + 1 := by omega
  have hx : i < x.length := by omega
  rw [laws_markBlockS.l0, if_pos (by omega), if_pos (by omega), Option.bind_some, w64 (x := a + 1) (by omega) (by omega), w64 (x := a + 1 + 1) (by omega) (by omega), Int.toNat_natCast, List.set_set, rdB_set x i _ hx]
  rw [markBlock_l1 k i (a + 1 + 1) _ (by simpa using hl) (by simpa using hx) (by omega) (by omega), List.set_set, rdB_set x i _ hx]
  refine Eq.trans (ih k (i + 1) (a + 1 + 1 + 1 + 1 + 1) (x.set i (mkBlock a)) (by simpa using hl) (by simp; omega) (by omega) (by omega) (by omega)) ?_
  rw [set_take _ _ _ hx, List.append_assoc]
  refine congrArg some (Prod.ext ?_ rfl)
  show a + 1 + 1 + 1 + 1 + 1 + 5 * (d : Int) = a + 5 * ((d + 1 : Nat) : Int)
  omega
theorem markBlockS_eq {k : Nat} {x : List S77} {a : Int} (hl : x.length ≤ 4000000) (hk : 5 * x.length < k) (h0 : 0 ≤ a) (h1 : a ≤ 549755813888) : laws_markBlockS.f k x a = some (a + 5 * x.length, mkLBlock a x.length) := by
 unfold laws_markBlockS.f
 have h := markBlockS_l0 x.length k 0 a x hl (by omega) hk h0 (by omega)
 rw [List.take_zero, List.nil_append] at h
 exact h
theorem heldBlock_l1 (k i : Nat) (a : Int) (x : List S77) (hl : x.length ≤ 4000000) (hi : i < x.length) (h0 : 0 ≤ a) (h1 : a ≤ 1099511627776) (hx : (rd_T77 x i).f2 = ⟨a, a + 1, a + 1 + 1⟩) :
  laws_heldBlockS.l1 (k + 4) x a (i : Int) 0 = laws_heldBlockS.l0 k x (a + 1 + 1 + 1) ((i + 1 : Nat) : Int) := by
 rw [laws_heldBlockS.l1, if_pos (by decide), if_pos (by omega), if_pos (by omega), if_pos rfl, if_pos (by rw [hx]), w01, w64 (x := a + 1) (by omega) (by omega)]
 rw [laws_heldBlockS.l1, if_pos (by decide), if_pos (by omega), if_pos (by omega), if_neg (by decide), if_pos rfl, if_pos (by rw [hx]), w12, w64 (x := a + 1 + 1) (by omega) (by omega)]
 rw [laws_heldBlockS.l1, if_pos (by decide), if_pos (by omega), if_pos (by omega), if_neg (by decide), if_neg (by decide), if_pos rfl, if_pos (by rw [hx]), w23, w64 (x := a + 1 + 1 + 1) (by omega) (by omega)]
 rw [laws_heldBlockS.l1, if_neg (by decide), w64 (by omega) (by omega), show ((i : Int) + 1) = ((i + 1 : Nat) : Int) from by omega]
theorem heldBlockS_l0 (d : Nat) : ∀ (k : Nat) (a : Int) (p : List S77), p.length + d ≤ 4000000 → 5 * d < k → 0 ≤ a → a + 5 * d ≤ 1099511627776 → laws_heldBlockS.l0 k (p ++ mkLBlock a d) a ((p.length : Nat) : Int) = some (a + 5 * d) := by
 induction d with
 | zero =>
  intro k a p hl hk h0 h1
  obtain ⟨k, rfl⟩ : ∃ m, k = m + 1 := ⟨k - 1, by omega⟩
  rw [laws_heldBlockS.l0, if_neg (by simp [mkLBlock])]
  simp
 | succ d ih =>
  intro k a p hl hk h0 h1
  obtain ⟨k, rfl⟩ : ∃ m, k = (m + 4) + 1 := ⟨k - 5, by omega⟩
  have hd : ((d + 1 : Nat) : Int) = (d : Int) + 1 := by omega
  have hlen : ((p ++ mkLBlock a (d + 1)).length : Int) = p.length + d + 1 := by
   simp [mkLBlock_len]
   omega
  have hr : rd_T77 (p ++ mkLBlock a (d + 1)) ((p.length : Nat) : Int) = mkBlock a := rdB_mid p _ _
  rw [laws_heldBlockS.l0, if_pos (by omega), if_pos (by omega), if_pos (by rw [hr]; rfl), w64 (x := a + 1) (by omega) (by omega), if_neg (by rw [hr]; simp [mkBlock]), w64 (x := a + 1 + 1) (by omega) (by omega)]
  rw [heldBlock_l1 k p.length (a + 1 + 1) _ (by omega) (by omega) (by omega) (by omega) (by rw [hr]; rfl)]
  have h := ih k (a + 1 + 1 + 1 + 1 + 1) (p ++ [mkBlock a]) (by simp; omega) (by omega) (by omega) (by omega)
  rw [List.append_assoc, List.length_append] at h
  simp only [List.singleton_append, List.length_singleton] at h
  refine Eq.trans h ?_
  refine congrArg some ?_
  omega
theorem heldBlockS_eq {k : Nat} {m : Nat} {a : Int} (hl : m ≤ 4000000) (hk : 5 * m < k) (h0 : 0 ≤ a) (h1 : a ≤ 549755813888) : laws_heldBlockS.f k (mkLBlock a m) a = some (a + 5 * m) := by
 unfold laws_heldBlockS.f
 exact heldBlockS_l0 m k a [] (by simpa using hl) hk h0 (by omega)


end Go.Proofs.Ytemdjfiimgjiaaa.S
namespace Go.Proofs.Ytemdjfiimgjiaaa.S
set_option linter.unusedVariables false
open Go.RowKit Go.Proofs.YtemdjfiimgjiaaaW.PrintWords Go.Proofs.Ytemdjfiimgjiaaa.PbS

theorem markArena_eq {k : Nat} {B : List S77} {L : List Int} (hB : B.length ≤ 4000000) (hL : L.length ≤ 4000000) (hk : 5 * B.length + L.length < k) : laws_markArena.f k B L 1 = some (1 + 5 * (B.length : Int) + (L.length : Int), mkLBlock 1 B.length, mkLInt (1 + 5 * (B.length : Int)) L.length) := by
 unfold laws_markArena.f
 rw [markBlockS_eq hB (by omega) (by omega) (by omega), Option.bind_some, markIntS_eq hL (by omega) (by omega) (by omega), Option.bind_some]
theorem heldArena_eq {k m n : Nat} (hm : m ≤ 4000000) (hn : n ≤ 4000000) (hk : 5 * m + n < k) : laws_heldArena.f k (mkLBlock 1 m) (mkLInt (1 + 5 * (m : Int)) n) 1 = some (1 + 5 * (m : Int) + (n : Int)) := by
 unfold laws_heldArena.f
 rw [heldBlockS_eq hm (by omega) (by omega) (by omega), Option.bind_some, if_neg (by omega), heldIntS_eq hn (by omega) (by omega) (by omega), Option.bind_some, if_neg (by omega)]


end Go.Proofs.Ytemdjfiimgjiaaa.S
namespace Go.Proofs.Ytemdjfiimgjiaaa.S
set_option linter.unusedVariables false
open Go.RowKit Go.Proofs.YtemdjfiimgjiaaaW.PrintWords Go.Proofs.Ytemdjfiimgjiaaa.PbS

theorem markYard_eq {k : Nat} {B : List S77} {L Q : List Int} {R : List S41} {p : Int} (hB : B.length ≤ 4000000) (hL : L.length ≤ 4000000) (hQ : Q.length ≤ 4000000) (hR : R.length ≤ 4000000) (hk : 5 * B.length + L.length + Q.length + R.length < k) : laws_markYard.f k B L Q R p 1 = some (1 + 5 * (B.length : Int) + (L.length : Int) + (Q.length : Int) + 2 * (R.length : Int), mkLBlock 1 B.length, mkLInt (1 + 5 * (B.length : Int)) L.length, mkLInt (1 + 5 * (B.length : Int) + (L.length : Int)) Q.length, mkLGone (1 + 5 * (B.length : Int) + (L.length : Int) + (Q.length : Int)) R.length) := by
 unfold laws_markYard.f
 rw [markArena_eq hB hL (by omega), Option.bind_some, markIntS_eq hQ (by omega) (by omega) (by omega), Option.bind_some, markGoneS_eq hR (by omega) (by omega) (by omega), Option.bind_some]
theorem heldYard_eq {k b l q r : Nat} {p : Int} (hb : b ≤ 4000000) (hl : l ≤ 4000000) (hq : q ≤ 4000000) (hr : r ≤ 4000000) (hk : 5 * b + l + q + r < k) : laws_heldYard.f k (mkLBlock 1 b) (mkLInt (1 + 5 * (b : Int)) l) (mkLInt (1 + 5 * (b : Int) + (l : Int)) q) (mkLGone (1 + 5 * (b : Int) + (l : Int) + (q : Int)) r) p 1 = some (1 + 5 * (b : Int) + (l : Int) + (q : Int) + 2 * (r : Int)) := by
 unfold laws_heldYard.f
 rw [heldArena_eq hb hl (by omega), Option.bind_some, if_neg (by omega), heldIntS_eq hq (by omega) (by omega) (by omega), Option.bind_some, if_neg (by omega), heldGoneS_eq hr (by omega) (by omega) (by omega), Option.bind_some, if_neg (by omega)]


end Go.Proofs.Ytemdjfiimgjiaaa.S
namespace Go.Proofs.Ytemdjfiimgjiaaa.Pure
set_option linter.unusedVariables false
set_option linter.unusedSimpArgs false
open Go.RowKit Go.Proofs.Ytemdjfiimgjiaaa.S Go.Proofs.YtemdjfiimgjiaaaW.PrintWords Go.Proofs.Ytemdjfiimgjiaaa.PbS


theorem FnExactPass : laws_FnExactPass.Pure := by
 intro B L Q R p  hB hL hQ hR _ 
 obtain ⟨k, hk⟩ : ∃ k : Nat, 50000000 < k := ⟨50000001, by omega⟩
 refine ⟨k + 3, ?_⟩
 unfold laws_FnExactPass.f
 rw [szYard_ok hB.1 hL.1 hQ.1 hR.1, Option.bind_some]
 by_cases h1 : 1048576 < (B.length : Int) + (L.length : Int) + (Q.length : Int) + (R.length : Int)
 ·rw [if_pos h1, if_pos (by omega)]
 ·rw [if_neg h1, if_neg (by omega)]
  have hr := passR_len (B.map cvBlock) L Q (R.map cvGone) p 
  rw [List.length_map, List.length_map] at hr
  (repeat (first | rw [if_pos rfl] | rw [if_neg Bool.false_ne_true] | rw [ifneg_lt (by (first | omega | (simp only [List.length_map]; omega)))] | rw [toYard_eq (by (first | omega | (simp only [List.length_map]; omega))) (by (first | omega | (simp only [List.length_map]; omega))) (by (first | omega | (simp only [List.length_map]; omega))) (by (first | omega | (simp only [List.length_map]; omega))) (by (first | omega | (simp only [List.length_map]; omega)))] | rw [eqYard_refl (by (first | omega | (simp only [List.length_map]; omega))) (by (first | omega | (simp only [List.length_map]; omega))) (by (first | omega | (simp only [List.length_map]; omega))) (by (first | omega | (simp only [List.length_map]; omega))) (by (first | omega | (simp only [List.length_map]; omega)))] | rw [specPass_eq (by (first | omega | (simp only [List.length_map]; omega))) (by (first | omega | (simp only [List.length_map]; omega))) (by (first | omega | (simp only [List.length_map]; omega))) (by (first | omega | (simp only [List.length_map]; omega))) (by (first | omega | (simp only [List.length_map]; omega)))] | rw [implPass_eq (by (first | omega | (simp only [List.length_map]; omega))) (by (first | omega | (simp only [List.length_map]; omega))) (by (first | omega | (simp only [List.length_map]; omega))) (by (first | omega | (simp only [List.length_map]; omega))) (by (first | omega | (simp only [List.length_map]; omega)))] | rw [markYard_eq (by (first | omega | (simp only [List.length_map]; omega))) (by (first | omega | (simp only [List.length_map]; omega))) (by (first | omega | (simp only [List.length_map]; omega))) (by (first | omega | (simp only [List.length_map]; omega))) (by (first | omega | (simp only [List.length_map]; omega)))] | rw [heldYard_eq (by (first | omega | (simp only [List.length_map]; omega))) (by (first | omega | (simp only [List.length_map]; omega))) (by (first | omega | (simp only [List.length_map]; omega))) (by (first | omega | (simp only [List.length_map]; omega))) (by (first | omega | (simp only [List.length_map]; omega)))] | (simp only [Option.bind_some, bne_self_eq_false, if_true, Bool.false_eq_true, if_false])))
  generalize hR : passR (B.map cvBlock) L Q (R.map cvGone) p  = R0 at hr
  obtain ⟨B2, L2, Q2, R2, p2, c0, c1⟩ := R0
  simp only at hr
  (repeat (first | rw [if_pos rfl] | rw [if_neg Bool.false_ne_true] | rw [ifneg_lt (by (first | omega | (simp only [List.length_map]; omega)))] | rw [toYard_eq (by (first | omega | (simp only [List.length_map]; omega))) (by (first | omega | (simp only [List.length_map]; omega))) (by (first | omega | (simp only [List.length_map]; omega))) (by (first | omega | (simp only [List.length_map]; omega))) (by (first | omega | (simp only [List.length_map]; omega)))] | rw [eqYard_refl (by (first | omega | (simp only [List.length_map]; omega))) (by (first | omega | (simp only [List.length_map]; omega))) (by (first | omega | (simp only [List.length_map]; omega))) (by (first | omega | (simp only [List.length_map]; omega))) (by (first | omega | (simp only [List.length_map]; omega)))] | rw [specPass_eq (by (first | omega | (simp only [List.length_map]; omega))) (by (first | omega | (simp only [List.length_map]; omega))) (by (first | omega | (simp only [List.length_map]; omega))) (by (first | omega | (simp only [List.length_map]; omega))) (by (first | omega | (simp only [List.length_map]; omega)))] | rw [implPass_eq (by (first | omega | (simp only [List.length_map]; omega))) (by (first | omega | (simp only [List.length_map]; omega))) (by (first | omega | (simp only [List.length_map]; omega))) (by (first | omega | (simp only [List.length_map]; omega))) (by (first | omega | (simp only [List.length_map]; omega)))] | rw [markYard_eq (by (first | omega | (simp only [List.length_map]; omega))) (by (first | omega | (simp only [List.length_map]; omega))) (by (first | omega | (simp only [List.length_map]; omega))) (by (first | omega | (simp only [List.length_map]; omega))) (by (first | omega | (simp only [List.length_map]; omega)))] | rw [heldYard_eq (by (first | omega | (simp only [List.length_map]; omega))) (by (first | omega | (simp only [List.length_map]; omega))) (by (first | omega | (simp only [List.length_map]; omega))) (by (first | omega | (simp only [List.length_map]; omega))) (by (first | omega | (simp only [List.length_map]; omega)))] | (simp only [Option.bind_some, bne_self_eq_false, if_true, Bool.false_eq_true, if_false])))
  rw [laws_FnExactPass.j0]
  (repeat (first | rw [if_pos rfl] | rw [if_neg Bool.false_ne_true] | rw [ifneg_lt (by (first | omega | (simp only [List.length_map]; omega)))] | rw [toYard_eq (by (first | omega | (simp only [List.length_map]; omega))) (by (first | omega | (simp only [List.length_map]; omega))) (by (first | omega | (simp only [List.length_map]; omega))) (by (first | omega | (simp only [List.length_map]; omega))) (by (first | omega | (simp only [List.length_map]; omega)))] | rw [eqYard_refl (by (first | omega | (simp only [List.length_map]; omega))) (by (first | omega | (simp only [List.length_map]; omega))) (by (first | omega | (simp only [List.length_map]; omega))) (by (first | omega | (simp only [List.length_map]; omega))) (by (first | omega | (simp only [List.length_map]; omega)))] | rw [specPass_eq (by (first | omega | (simp only [List.length_map]; omega))) (by (first | omega | (simp only [List.length_map]; omega))) (by (first | omega | (simp only [List.length_map]; omega))) (by (first | omega | (simp only [List.length_map]; omega))) (by (first | omega | (simp only [List.length_map]; omega)))] | rw [implPass_eq (by (first | omega | (simp only [List.length_map]; omega))) (by (first | omega | (simp only [List.length_map]; omega))) (by (first | omega | (simp only [List.length_map]; omega))) (by (first | omega | (simp only [List.length_map]; omega))) (by (first | omega | (simp only [List.length_map]; omega)))] | rw [markYard_eq (by (first | omega | (simp only [List.length_map]; omega))) (by (first | omega | (simp only [List.length_map]; omega))) (by (first | omega | (simp only [List.length_map]; omega))) (by (first | omega | (simp only [List.length_map]; omega))) (by (first | omega | (simp only [List.length_map]; omega)))] | rw [heldYard_eq (by (first | omega | (simp only [List.length_map]; omega))) (by (first | omega | (simp only [List.length_map]; omega))) (by (first | omega | (simp only [List.length_map]; omega))) (by (first | omega | (simp only [List.length_map]; omega))) (by (first | omega | (simp only [List.length_map]; omega)))] | (simp only [Option.bind_some, bne_self_eq_false, if_true, Bool.false_eq_true, if_false])))
  rw [laws_FnExactPass.j1]
  (repeat (first | rw [if_pos rfl] | rw [if_neg Bool.false_ne_true] | rw [ifneg_lt (by (first | omega | (simp only [List.length_map]; omega)))] | rw [toYard_eq (by (first | omega | (simp only [List.length_map]; omega))) (by (first | omega | (simp only [List.length_map]; omega))) (by (first | omega | (simp only [List.length_map]; omega))) (by (first | omega | (simp only [List.length_map]; omega))) (by (first | omega | (simp only [List.length_map]; omega)))] | rw [eqYard_refl (by (first | omega | (simp only [List.length_map]; omega))) (by (first | omega | (simp only [List.length_map]; omega))) (by (first | omega | (simp only [List.length_map]; omega))) (by (first | omega | (simp only [List.length_map]; omega))) (by (first | omega | (simp only [List.length_map]; omega)))] | rw [specPass_eq (by (first | omega | (simp only [List.length_map]; omega))) (by (first | omega | (simp only [List.length_map]; omega))) (by (first | omega | (simp only [List.length_map]; omega))) (by (first | omega | (simp only [List.length_map]; omega))) (by (first | omega | (simp only [List.length_map]; omega)))] | rw [implPass_eq (by (first | omega | (simp only [List.length_map]; omega))) (by (first | omega | (simp only [List.length_map]; omega))) (by (first | omega | (simp only [List.length_map]; omega))) (by (first | omega | (simp only [List.length_map]; omega))) (by (first | omega | (simp only [List.length_map]; omega)))] | rw [markYard_eq (by (first | omega | (simp only [List.length_map]; omega))) (by (first | omega | (simp only [List.length_map]; omega))) (by (first | omega | (simp only [List.length_map]; omega))) (by (first | omega | (simp only [List.length_map]; omega))) (by (first | omega | (simp only [List.length_map]; omega)))] | rw [heldYard_eq (by (first | omega | (simp only [List.length_map]; omega))) (by (first | omega | (simp only [List.length_map]; omega))) (by (first | omega | (simp only [List.length_map]; omega))) (by (first | omega | (simp only [List.length_map]; omega))) (by (first | omega | (simp only [List.length_map]; omega)))] | (simp only [Option.bind_some, bne_self_eq_false, if_true, Bool.false_eq_true, if_false])))
  rw [hR]
  (repeat (first | rw [if_pos rfl] | rw [if_neg Bool.false_ne_true] | rw [ifneg_lt (by (first | omega | (simp only [List.length_map]; omega)))] | rw [toYard_eq (by (first | omega | (simp only [List.length_map]; omega))) (by (first | omega | (simp only [List.length_map]; omega))) (by (first | omega | (simp only [List.length_map]; omega))) (by (first | omega | (simp only [List.length_map]; omega))) (by (first | omega | (simp only [List.length_map]; omega)))] | rw [eqYard_refl (by (first | omega | (simp only [List.length_map]; omega))) (by (first | omega | (simp only [List.length_map]; omega))) (by (first | omega | (simp only [List.length_map]; omega))) (by (first | omega | (simp only [List.length_map]; omega))) (by (first | omega | (simp only [List.length_map]; omega)))] | rw [specPass_eq (by (first | omega | (simp only [List.length_map]; omega))) (by (first | omega | (simp only [List.length_map]; omega))) (by (first | omega | (simp only [List.length_map]; omega))) (by (first | omega | (simp only [List.length_map]; omega))) (by (first | omega | (simp only [List.length_map]; omega)))] | rw [implPass_eq (by (first | omega | (simp only [List.length_map]; omega))) (by (first | omega | (simp only [List.length_map]; omega))) (by (first | omega | (simp only [List.length_map]; omega))) (by (first | omega | (simp only [List.length_map]; omega))) (by (first | omega | (simp only [List.length_map]; omega)))] | rw [markYard_eq (by (first | omega | (simp only [List.length_map]; omega))) (by (first | omega | (simp only [List.length_map]; omega))) (by (first | omega | (simp only [List.length_map]; omega))) (by (first | omega | (simp only [List.length_map]; omega))) (by (first | omega | (simp only [List.length_map]; omega)))] | rw [heldYard_eq (by (first | omega | (simp only [List.length_map]; omega))) (by (first | omega | (simp only [List.length_map]; omega))) (by (first | omega | (simp only [List.length_map]; omega))) (by (first | omega | (simp only [List.length_map]; omega))) (by (first | omega | (simp only [List.length_map]; omega)))] | (simp only [Option.bind_some, bne_self_eq_false, if_true, Bool.false_eq_true, if_false])))
  rw [laws_FnExactPass.j2]
  (repeat (first | rw [if_pos rfl] | rw [if_neg Bool.false_ne_true] | rw [ifneg_lt (by (first | omega | (simp only [List.length_map]; omega)))] | rw [toYard_eq (by (first | omega | (simp only [List.length_map]; omega))) (by (first | omega | (simp only [List.length_map]; omega))) (by (first | omega | (simp only [List.length_map]; omega))) (by (first | omega | (simp only [List.length_map]; omega))) (by (first | omega | (simp only [List.length_map]; omega)))] | rw [eqYard_refl (by (first | omega | (simp only [List.length_map]; omega))) (by (first | omega | (simp only [List.length_map]; omega))) (by (first | omega | (simp only [List.length_map]; omega))) (by (first | omega | (simp only [List.length_map]; omega))) (by (first | omega | (simp only [List.length_map]; omega)))] | rw [specPass_eq (by (first | omega | (simp only [List.length_map]; omega))) (by (first | omega | (simp only [List.length_map]; omega))) (by (first | omega | (simp only [List.length_map]; omega))) (by (first | omega | (simp only [List.length_map]; omega))) (by (first | omega | (simp only [List.length_map]; omega)))] | rw [implPass_eq (by (first | omega | (simp only [List.length_map]; omega))) (by (first | omega | (simp only [List.length_map]; omega))) (by (first | omega | (simp only [List.length_map]; omega))) (by (first | omega | (simp only [List.length_map]; omega))) (by (first | omega | (simp only [List.length_map]; omega)))] | rw [markYard_eq (by (first | omega | (simp only [List.length_map]; omega))) (by (first | omega | (simp only [List.length_map]; omega))) (by (first | omega | (simp only [List.length_map]; omega))) (by (first | omega | (simp only [List.length_map]; omega))) (by (first | omega | (simp only [List.length_map]; omega)))] | rw [heldYard_eq (by (first | omega | (simp only [List.length_map]; omega))) (by (first | omega | (simp only [List.length_map]; omega))) (by (first | omega | (simp only [List.length_map]; omega))) (by (first | omega | (simp only [List.length_map]; omega))) (by (first | omega | (simp only [List.length_map]; omega)))] | (simp only [Option.bind_some, bne_self_eq_false, if_true, Bool.false_eq_true, if_false])))


end Go.Proofs.Ytemdjfiimgjiaaa.Pure
