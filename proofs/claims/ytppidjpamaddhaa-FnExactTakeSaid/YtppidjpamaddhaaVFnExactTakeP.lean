/- The pure statement of FnExactTake and what it needs. Conditions: those that each theorem states. -/
import Derived.Test.YtppidjpamaddhaaVFnExactTake3
import Derived.RowKit
namespace Go.Proofs.Ytppidjpamaddhaa.PbT
open Go.RowKit Go.Proofs.YtppidjpamaddhaaW.PrintWords

theorem w64 {x : Int} (h0 : -9223372036854775808 ≤ x) (h1 : x ≤ 9223372036854775807) : wrap64 x = x := by
  unfold wrap64
  omega

theorem rd_at (l : List Int) (i : Nat) (h : i < l.length) : rd l (i : Int) = l[i] := by
  simp [rd, List.getD_eq_getElem?_getD, List.getElem?_eq_getElem h]

theorem set_take {α : Type} (x : List α) (v : α) (i : Nat) (h : i < x.length) : (x.set i v).take (i + 1) = x.take i ++ [v] := by
  rw [List.take_succ_eq_append_getElem (by simpa using h)]
  rw [List.take_set_of_le (Nat.le_refl i)]
  simp

/-- One round of a loop that copies. -/
theorem copy_step {α : Type} (x l : List α) (i : Nat) (h : i < l.length) (hx : i < x.length) :
    (x.set i l[i]).take (i + 1) ++ l.drop (i + 1) = x.take i ++ l.drop i := by
  rw [set_take x l[i] i hx, List.drop_eq_getElem_cons h, List.append_assoc]
  rfl

/-- The same where each element is turned into another kind. -/
theorem copy_step_map {α β : Type} (f : α → β) (x : List β) (l : List α) (i : Nat) (h : i < l.length) (hx : i < x.length) :
    (x.set i (f l[i])).take (i + 1) ++ (l.drop (i + 1)).map f = x.take i ++ (l.drop i).map f := by
  rw [set_take x (f l[i]) i hx, List.drop_eq_getElem_cons h, List.append_assoc]
  rfl

theorem drop_cons {α : Type} (l : List α) (i : Nat) (h : i < l.length) : l.drop i = l[i] :: l.drop (i + 1) := List.drop_eq_getElem_cons h


end Go.Proofs.Ytppidjpamaddhaa.PbT
namespace Go.Proofs.Ytppidjpamaddhaa.PbT
theorem ifneg_lt {α : Type} {c : Int} {a b : α} (h : ¬ c < 0) : (if c < 0 then a else b) = b := if_neg h


end Go.Proofs.Ytppidjpamaddhaa.PbT
namespace Go.Proofs.Ytppidjpamaddhaa.T
set_option linter.unusedVariables false
set_option linter.unusedSimpArgs false
open Go.RowKit Go.Proofs.YtppidjpamaddhaaW.PrintWords Go.Proofs.Ytppidjpamaddhaa.PbT

theorem toIntS_l0 (l : List Int) (hl : l.length ≤ 4000000) (d : Nat) : ∀ (k i : Nat) (x : List Int), i + d = l.length → d < k → x.length = l.length → laws_toIntS.l0 k l x (i : Int) = some (x.take i ++ l.drop i) := by
  induction d with
  | zero =>
    intro k i x hi hk hx
    obtain ⟨k, rfl⟩ : ∃ m, k = m + 1 := ⟨k - 1, by omega⟩
    simp only [laws_toIntS.l0]
    rw [if_neg (by omega), List.take_of_length_le (by omega), List.drop_of_length_le (by omega), List.append_nil]
  | succ d ih =>
    intro k i x hi hk hx
    obtain ⟨k, rfl⟩ : ∃ m, k = m + 1 := ⟨k - 1, by omega⟩
    simp only [laws_toIntS.l0]
    rw [if_pos (by omega), if_pos (by omega), if_pos (by omega), w64 (by omega) (by omega), rd_at l i (by omega), Int.toNat_natCast,
      show ((i : Int) + 1) = ((i + 1 : Nat) : Int) from by omega, ih k (i + 1) _ (by omega) (by omega) (by simp [hx]), copy_step x l i (by omega) (by omega)]

theorem toIntS_eq {k : Nat} {l : List Int} (hl : l.length ≤ 4000000) (hk : l.length < k) : laws_toIntS.f k l = some l := by
  unfold laws_toIntS.f
  rw [if_pos (by omega), if_pos (by omega)]
  have h := toIntS_l0 l hl l.length k 0 (List.replicate ((l.length : Int) : Int).toNat 0) (by omega) hk (by simp)
  rw [List.take_zero, List.drop_zero, List.nil_append] at h
  exact h

theorem eqIntS_l0 (l : List Int) (hl : l.length ≤ 4000000) (d : Nat) : ∀ (k i : Nat), i + d = l.length → d < k → laws_eqIntS.l0 k l l (i : Int) = some true := by
  induction d with
  | zero =>
    intro k i hi hk
    obtain ⟨k, rfl⟩ : ∃ m, k = m + 1 := ⟨k - 1, by omega⟩
    simp only [laws_eqIntS.l0]
    rw [if_neg (by omega)]
  | succ d ih =>
    intro k i hi hk
    obtain ⟨k, rfl⟩ : ∃ m, k = m + 1 := ⟨k - 1, by omega⟩
    simp only [laws_eqIntS.l0]
    rw [if_pos (by omega), if_pos (by omega), if_pos (by omega), if_pos trivial, w64 (by omega) (by omega), show ((i : Int) + 1) = ((i + 1 : Nat) : Int) from by omega]
    exact ih k (i + 1) (by omega) (by omega)

theorem eqIntS_refl {k : Nat} {l : List Int} (hl : l.length ≤ 4000000) (hk : l.length < k) : laws_eqIntS.f k l l = some true := by
  unfold laws_eqIntS.f
  rw [if_pos rfl]
  exact eqIntS_l0 l hl l.length k 0 (by omega) hk

/-- All of a list within bounds. -/
def inB (a b x : Int) : Bool := decide (a ≤ x) && decide (x ≤ b)

theorem l1In_eq (x a b : Int) : spec_l1In.f x a b = some (inB a b x) := by
  unfold spec_l1In.f inB
  by_cases h : x ≥ a
  · rw [if_pos h, decide_eq_true (show a ≤ x from h), Bool.true_and]
  · rw [if_neg h, decide_eq_false (show ¬ a ≤ x from h), Bool.false_and]

theorem in_eq (x a b : Int) : impl_in.f x a b = some (inB a b x) := by
  unfold impl_in.f inB
  by_cases h : a ≤ x
  · rw [if_pos h, decide_eq_true h, Bool.true_and]
  · rw [if_neg h, decide_eq_false h, Bool.false_and]

theorem index_l0 (l : List Int) (x : Int) (hl : l.length ≤ 4000000) (d : Nat) : ∀ (k i : Nat), i + d = l.length → d < k → ∃ r, slices_Index_int_int.l0 k l x (l.length : Int) (i : Int) = some r ∧ decide (r ≥ 0) = decide (x ∈ l.drop i) := by
  induction d with
  | zero =>
    intro k i hi hk
    obtain ⟨k, rfl⟩ : ∃ m, k = m + 1 := ⟨k - 1, by omega⟩
    refine ⟨-1, ?_, ?_⟩
    · simp only [slices_Index_int_int.l0]
      rw [if_neg (by omega)]
    · rw [List.drop_of_length_le (by omega)]
      simp
  | succ d ih =>
    intro k i hi hk
    obtain ⟨k, rfl⟩ : ∃ m, k = m + 1 := ⟨k - 1, by omega⟩
    simp only [slices_Index_int_int.l0]
    rw [if_pos (by omega), if_pos (by omega), if_pos (by omega), rd_at l i (by omega), drop_cons l i (by omega)]
    by_cases h : x = l[i]
    · rw [if_pos h]
      exact ⟨(i : Int), rfl, by simp [← h]⟩
    · rw [if_neg h, w64 (by omega) (by omega), show ((i : Int) + 1) = ((i + 1 : Nat) : Int) from by omega]
      obtain ⟨r, h1, h2⟩ := ih k (i + 1) (by omega) (by omega)
      exact ⟨r, h1, by rw [h2]; simp [-List.getElem_cons_drop, h]⟩
theorem contains_eq {k : Nat} {l : List Int} {x : Int} (hl : l.length ≤ 4000000) (hk : l.length < k) : slices_Contains_int_int.f k l x = some (decide (x ∈ l)) := by
  unfold slices_Contains_int_int.f slices_Index_int_int.f
  obtain ⟨r, h1, h2⟩ := index_l0 l x hl l.length k 0 (by omega) hk
  rw [show ((0 : Nat) : Int) = 0 from rfl] at h1
  rw [h1, Option.bind_some, h2, List.drop_zero]

theorem l1Has_l0 (l : List Int) (x : Int) (hl : l.length ≤ 4000000) (d : Nat) : ∀ (k i : Nat), i + d = l.length → d < k → spec_l1Has.l0 k l x (i : Int) = some (decide (x ∈ l.drop i)) := by
  induction d with
  | zero =>
    intro k i hi hk
    obtain ⟨k, rfl⟩ : ∃ m, k = m + 1 := ⟨k - 1, by omega⟩
    simp only [spec_l1Has.l0]
    rw [if_neg (by omega), List.drop_of_length_le (by omega)]
    simp
  | succ d ih =>
    intro k i hi hk
    obtain ⟨k, rfl⟩ : ∃ m, k = m + 1 := ⟨k - 1, by omega⟩
    simp only [spec_l1Has.l0]
    rw [if_pos (by omega), if_pos (by omega), rd_at l i (by omega), drop_cons l i (by omega)]
    by_cases h : l[i] = x
    · rw [if_pos h]
      simp [h]
    · rw [if_neg h, w64 (by omega) (by omega), show ((i : Int) + 1) = ((i + 1 : Nat) : Int) from by omega, ih k (i + 1) (by omega) (by omega)]
      have h2 : ¬ x = l[i] := fun e => h e.symm
      simp [-List.getElem_cons_drop, h2]
theorem l1Has_eq {k : Nat} {l : List Int} {x : Int} (hl : l.length ≤ 4000000) (hk : l.length < k) : spec_l1Has.f k l x = some (decide (x ∈ l)) := by
  unfold spec_l1Has.f
  have h := l1Has_l0 l x hl l.length k 0 (by omega) hk
  rw [List.drop_zero] at h
  exact h

/-- A value. -/
def valB (x : Int) : Bool := inB (-1000000000) 1000000000 x
theorem l1Value_eq (x : Int) : spec_l1Value.f x = some (valB x) := by
  unfold spec_l1Value.f valB
  rw [l1In_eq]
  rfl
theorem isValue_eq (x : Int) : impl_isValue.f x = some (valB x) := by
  unfold impl_isValue.f valB
  rw [in_eq]
  rfl
theorem areV_l0 (l : List Int) (hl : l.length ≤ 4000000) (d : Nat) : ∀ (k i : Nat), i + d = l.length → d < k → ∃ r, slices_IndexFunc_int_int_F56.l0 k l (l.length : Int) (i : Int) = some r ∧ decide (r ≥ 0) = !((l.drop i).all valB) := by
  induction d with
  | zero =>
    intro k i hi hk
    obtain ⟨k, rfl⟩ : ∃ m, k = m + 1 := ⟨k - 1, by omega⟩
    refine ⟨-1, ?_, ?_⟩
    · simp only [slices_IndexFunc_int_int_F56.l0]
      rw [if_neg (by omega)]
    · rw [List.drop_of_length_le (by omega)]
      simp
  | succ d ih =>
    intro k i hi hk
    obtain ⟨k, rfl⟩ : ∃ m, k = m + 1 := ⟨k - 1, by omega⟩
    simp only [slices_IndexFunc_int_int_F56.l0, impl_areValues_1.f, isValue_eq, Option.bind_some]
    rw [if_pos (by omega), if_pos (by omega), if_pos (by omega), rd_at l i (by omega), drop_cons l i (by omega), List.all_cons]
    cases h : valB l[i] with
    | false =>
      rw [if_pos (by rfl)]
      refine ⟨(i : Int), rfl, ?_⟩
      rw [decide_eq_true (by omega)]
      rfl
    | true =>
      rw [if_neg (by decide), w64 (by omega) (by omega), show ((i : Int) + 1) = ((i + 1 : Nat) : Int) from by omega]
      obtain ⟨r, h1, h2⟩ := ih k (i + 1) (by omega) (by omega)
      exact ⟨r, h1, by rw [h2]; rfl⟩
theorem areValues_eq {k : Nat} {l : List Int} (hl : l.length ≤ 4000000) (hk : l.length < k) : impl_areValues.f k l = some (l.all valB) := by
  unfold impl_areValues.f slices_ContainsFunc_int_int_F56.f slices_IndexFunc_int_int_F56.f
  obtain ⟨r, h1, h2⟩ := areV_l0 l hl l.length k 0 (by omega) hk
  rw [show ((0 : Nat) : Int) = 0 from rfl] at h1
  rw [h1, Option.bind_some, Option.bind_some, h2, List.drop_zero, Bool.not_not]


end Go.Proofs.Ytppidjpamaddhaa.T
namespace Go.Proofs.Ytppidjpamaddhaa.T
set_option linter.unusedVariables false
set_option linter.unusedSimpArgs false
open Go.RowKit Go.Proofs.YtppidjpamaddhaaW.PrintWords Go.Proofs.Ytppidjpamaddhaa.PbT

def cvBlock (x : S67) : S52 := ⟨x.f0, x.f1, ⟨x.f2.f0, x.f2.f1, x.f2.f2⟩⟩
theorem rdLB_at (l : List S67) (i : Nat) (h : i < l.length) : rd_T67 l (i : Int) = l[i] := by
  simp [rd_T67, List.getD_eq_getElem?_getD, List.getElem?_eq_getElem h]
theorem rdB_set (l : List S52) (i : Nat) (y : S52) (h : i < l.length) : rd_T52 (l.set i y) (i : Int) = y := by
  simp [rd_T52, List.getD_eq_getElem?_getD, h]
theorem rdB_mid (p q : List S52) (y : S52) : rd_T52 (p ++ y :: q) ((p.length : Nat) : Int) = y := by
  simp [rd_T52, List.getD_eq_getElem?_getD]
theorem w01 : wrap64 ((0 : Int) + 1) = 1 := w64 (by decide) (by decide)
theorem w12 : wrap64 ((1 : Int) + 1) = 2 := w64 (by decide) (by decide)
theorem w23 : wrap64 ((2 : Int) + 1) = 3 := w64 (by decide) (by decide)
theorem toIntA3_eq {k : Nat} {a b c : Int} (hk : 3 < k) : laws_toIntA3.f k a b c = some (a, b, c) := by
  obtain ⟨k, rfl⟩ : ∃ m, k = m + 4 := ⟨k - 4, by omega⟩
  unfold laws_toIntA3.f
  rw [laws_toIntA3.l0, if_pos (by decide), if_pos rfl, w01, laws_toIntA3.l0, if_pos (by decide), if_neg (by decide), if_pos rfl, w12, laws_toIntA3.l0, if_pos (by decide), if_neg (by decide), if_neg (by decide), if_pos rfl, w23, laws_toIntA3.l0, if_neg (by decide)]
theorem eqIntA3_refl {k : Nat} {a b c : Int} (hk : 3 < k) : laws_eqIntA3.f k a b c a b c = some true := by
  obtain ⟨k, rfl⟩ : ∃ m, k = m + 4 := ⟨k - 4, by omega⟩
  unfold laws_eqIntA3.f
  rw [laws_eqIntA3.l0, if_pos (by decide), if_pos rfl, if_pos rfl, w01, laws_eqIntA3.l0, if_pos (by decide), if_neg (by decide), if_pos rfl, if_pos rfl, w12, laws_eqIntA3.l0, if_pos (by decide), if_neg (by decide), if_neg (by decide), if_pos rfl, if_pos rfl, w23, laws_eqIntA3.l0, if_neg (by decide)]
theorem eqBlock_refl {k : Nat} {a : Int} {b : Bool} {c d e : Int} (hk : 3 < k) : laws_eqBlock.f k a b c d e a b c d e = some true := by
  unfold laws_eqBlock.f
  rw [if_pos rfl, if_neg (by simp), eqIntA3_refl hk, Option.bind_some, if_pos rfl]
theorem szBlockS_eq {l : List S67} {a : Int} (hl : l.length ≤ maxLen) (ha : 0 ≤ a ∧ a ≤ 1048576) : laws_szBlockS.f l a = some (if a - (l.length : Int) < 0 then -1 else a - (l.length : Int)) := by
  unfold laws_szBlockS.f
  have hm : l.length ≤ 9223372036854775807 := hl
  rw [w64 (by omega) (by omega)]
  by_cases h : a - (l.length : Int) < 0
  · rw [if_pos h, if_pos h]
  · rw [if_neg h, if_neg h]
theorem toBlockS_l0 (l : List S67) (hl : l.length ≤ 4000000) (d : Nat) : ∀ (k i : Nat) (x : List S52), i + d = l.length → d + 4 < k → x.length = l.length → laws_toBlockS.l0 k l x (i : Int) = some (x.take i ++ (l.drop i).map cvBlock) := by
  induction d with
  | zero =>
    intro k i x hi hk hx
    obtain ⟨k, rfl⟩ : ∃ m, k = m + 1 := ⟨k - 1, by omega⟩
    simp only [laws_toBlockS.l0]
    rw [if_neg (by omega), List.take_of_length_le (by omega), List.drop_of_length_le (by omega), List.map_nil, List.append_nil]
  | succ d ih =>
    intro k i x hi hk hx
    obtain ⟨k, rfl⟩ : ∃ m, k = m + 1 := ⟨k - 1, by omega⟩
    simp only [laws_toBlockS.l0]
    rw [if_pos (by omega), if_pos (by omega)]
    simp only [laws_toBlock.f, toIntA3_eq (show 3 < k by omega), Option.bind_some]
    rw [if_pos (by omega), w64 (by omega) (by omega), rdLB_at l i (by omega), Int.toNat_natCast,
      show ((i : Int) + 1) = ((i + 1 : Nat) : Int) from by omega, ih k (i + 1) _ (by omega) (by omega) (by simp [hx])]
    exact congrArg some (copy_step_map cvBlock x l i (by omega) (by omega))
theorem toBlockS_eq {k : Nat} {l : List S67} (hl : l.length ≤ 4000000) (hk : l.length + 4 < k) : laws_toBlockS.f k l = some (l.map cvBlock) := by
  unfold laws_toBlockS.f
  rw [if_pos (by omega), if_pos (by omega)]
  have h := toBlockS_l0 l hl l.length k 0 (List.replicate ((l.length : Int) : Int).toNat z52) (by omega) hk (by simp)
  rw [List.take_zero, List.drop_zero, List.nil_append] at h
  exact h
theorem eqBlockS_l0 (l : List S52) (hl : l.length ≤ 4000000) (d : Nat) : ∀ (k i : Nat), i + d = l.length → d + 4 < k → laws_eqBlockS.l0 k l l (i : Int) = some true := by
  induction d with
  | zero =>
    intro k i hi hk
    obtain ⟨k, rfl⟩ : ∃ m, k = m + 1 := ⟨k - 1, by omega⟩
    simp only [laws_eqBlockS.l0]
    rw [if_neg (by omega)]
  | succ d ih =>
    intro k i hi hk
    obtain ⟨k, rfl⟩ : ∃ m, k = m + 1 := ⟨k - 1, by omega⟩
    simp only [laws_eqBlockS.l0]
    rw [if_pos (by omega), if_pos (by omega), if_pos (by omega), eqBlock_refl (by omega), Option.bind_some, if_pos rfl, w64 (by omega) (by omega), show ((i : Int) + 1) = ((i + 1 : Nat) : Int) from by omega]
    exact ih k (i + 1) (by omega) (by omega)
theorem eqBlockS_refl {k : Nat} {l : List S52} (hl : l.length ≤ 4000000) (hk : l.length + 4 < k) : laws_eqBlockS.f k l l = some true := by
  unfold laws_eqBlockS.f
  rw [if_pos rfl]
  exact eqBlockS_l0 l hl l.length k 0 (by omega) hk


end Go.Proofs.Ytppidjpamaddhaa.T
namespace Go.Proofs.Ytppidjpamaddhaa.T
set_option linter.unusedVariables false
set_option linter.unusedSimpArgs false
open Go.RowKit Go.Proofs.YtppidjpamaddhaaW.PrintWords Go.Proofs.Ytppidjpamaddhaa.PbT

def okB (b : S52) : Bool := inB 0 5 b.f0 && (!(!b.f1 && b.f0 == 5) && (valB b.f2.f0 && (valB b.f2.f1 && valB b.f2.f2)))
def listedB (b : S52) : Bool := b.f1 && decide (b.f0 < 5)
theorem isListed_eq (b : S52) : impl_isListed.f b.f0 b.f1 b.f2.f0 b.f2.f1 b.f2.f2 = some (listedB b) := by
  unfold impl_isListed.f listedB
  cases b.f1 <;> simp
/-- The list from place j on. -/
def lsR (B : List S52) (L : List Int) (c : Int) : Nat → Nat → Bool
  | _, 0 => (L.length : Int) == c
  | j, d + 1 => inB 0 ((B.length : Int) - 1) (rd L j) && (listedB (rd_T52 B (rd L j)) && (!decide (rd L j ∈ L.take j) && lsR B L c (j + 1) d))
/-- The blocks from i on, then the list. -/
def arR (B : List S52) (L : List Int) : Nat → Nat → Int → Bool
  | _, 0, c => lsR B L c 0 L.length
  | i, d + 1, c => okB (rd_T52 B i) && arR B L (i + 1) d (if listedB (rd_T52 B i) = true then c + 1 else c)
def arOk (B : List S52) (L : List Int) : Bool := inB 1 24 (B.length : Int) && arR B L 0 B.length 0
theorem inB_iff {a b x : Int} : inB a b x = true ↔ a ≤ x ∧ x ≤ b := by
  unfold inB
  simp
theorem implArena_l1 (B : List S52) (L : List Int) (c : Int) (hB : B.length ≤ 4000000) (hL : L.length ≤ 4000000) (d : Nat) : ∀ (k j : Nat), j + d = L.length → d + L.length < k → impl_ArenaOk.l1 k c L (L.length : Int) (j : Int) B L = some (lsR B L c j d) := by
  induction d with
  | zero =>
    intro k j hj hk
    obtain ⟨k, rfl⟩ : ∃ m, k = m + 1 := ⟨k - 1, by omega⟩
    rw [impl_ArenaOk.l1, if_neg (by omega)]
    rfl
  | succ d ih =>
    intro k j hj hk
    obtain ⟨k, rfl⟩ : ∃ m, k = m + 1 := ⟨k - 1, by omega⟩
    have ih1 := ih k (j + 1) (by omega) (by omega)
    rw [impl_ArenaOk.l1, if_pos (by omega), if_pos (by omega), if_pos (by omega), w64 (x := (B.length : Int) - 1) (by omega) (by omega), in_eq, Option.bind_some]
    simp only [lsR]
    cases h : inB 0 ((B.length : Int) - 1) (rd L j) with
    | false => rw [if_neg Bool.false_ne_true, Bool.false_and]
    | true =>
      have h1 := inB_iff.1 h
      rw [if_pos rfl, Bool.true_and, if_pos (by omega), if_pos (by omega), isListed_eq, Option.bind_some]
      cases listedB (rd_T52 B (rd L j)) with
      | false => rw [if_neg Bool.false_ne_true, Bool.false_and]
      | true =>
        rw [if_pos rfl, Bool.true_and, if_pos (by omega), Int.toNat_natCast, contains_eq (by rw [List.length_take]; omega) (by rw [List.length_take]; omega), Option.bind_some]
        cases decide (rd L j ∈ L.take j) with
        | true => rw [if_pos rfl]; rfl
        | false => rw [if_neg Bool.false_ne_true, w64 (by omega) (by omega), show ((j : Int) + 1) = ((j + 1 : Nat) : Int) from by omega, ih1]; rfl
theorem specArena_l2 (B : List S52) (L : List Int) (c : Int) (hB : B.length ≤ 4000000) (hL : L.length ≤ 4000000) (hG : ∀ m : Nat, m < B.length → inB 0 5 (rd_T52 B m).f0 = true) (d : Nat) : ∀ (k j : Nat), j + d = L.length → d + L.length < k → spec_ArenaOk.l2 k c (j : Int) B L = some (lsR B L c j d) := by
  induction d with
  | zero =>
    intro k j hj hk
    obtain ⟨k, rfl⟩ : ∃ m, k = m + 1 := ⟨k - 1, by omega⟩
    rw [spec_ArenaOk.l2, if_neg (by omega)]
    rfl
  | succ d ih =>
    intro k j hj hk
    obtain ⟨k, rfl⟩ : ∃ m, k = m + 1 := ⟨k - 1, by omega⟩
    have ih1 := ih k (j + 1) (by omega) (by omega)
    rw [spec_ArenaOk.l2, if_pos (by omega), if_pos (by omega), w64 (x := (B.length : Int) - 1) (by omega) (by omega), l1In_eq, Option.bind_some]
    simp only [lsR]
    cases h : inB 0 ((B.length : Int) - 1) (rd L j) with
    | false => rw [if_neg Bool.false_ne_true, Bool.false_and]
    | true =>
      have h1 := inB_iff.1 h
      have h2 : inB 0 5 (rd_T52 B (rd L j)).f0 = true := by
        have h3 := hG (rd L j).toNat (by omega)
        rw [Int.toNat_of_nonneg h1.1] at h3
        exact h3
      have h3 := inB_iff.1 h2
      rw [if_pos rfl, Bool.true_and, if_pos (by omega), if_pos (by omega)]
      unfold listedB
      cases (rd_T52 B (rd L j)).f1 with
      | false => rw [if_neg Bool.false_ne_true, Bool.false_and, Bool.false_and]
      | true =>
        rw [if_pos rfl, Bool.true_and]
        by_cases h4 : (rd_T52 B (rd L j)).f0 = 5
        · rw [if_pos h4, decide_eq_false (by omega), Bool.false_and]
        · rw [if_neg h4, decide_eq_true (by omega), Bool.true_and, if_pos (by omega), Int.toNat_natCast, l1Has_eq (by rw [List.length_take]; omega) (by rw [List.length_take]; omega), Option.bind_some]
          cases decide (rd L j ∈ L.take j) with
          | true => rw [if_pos rfl]; rfl
          | false => rw [if_neg Bool.false_ne_true, w64 (by omega) (by omega), show ((j : Int) + 1) = ((j + 1 : Nat) : Int) from by omega, ih1]; rfl
theorem implArena_l0 (B : List S52) (L : List Int) (hB : B.length ≤ 4000000) (hL : L.length ≤ 4000000) (d : Nat) : ∀ (k i : Nat) (c : Int), i + d = B.length → 2 * d + 2 * L.length + 4 < k → 0 ≤ c → c ≤ i → impl_ArenaOk.l0 k c B (B.length : Int) (i : Int) B L = some (arR B L i d c) := by
  induction d with
  | zero =>
    intro k i c hi hk h0 h1
    obtain ⟨k, rfl⟩ : ∃ m, k = m + 1 := ⟨k - 1, by omega⟩
    have h := implArena_l1 B L c hB hL L.length k 0 (by omega) (by omega)
    rw [impl_ArenaOk.l0, if_neg (by omega)]
    exact h
  | succ d ih =>
    intro k i c hi hk h0 h1
    obtain ⟨k, rfl⟩ : ∃ m, k = m + 2 := ⟨k - 2, by omega⟩
    have ihA := ih k (i + 1) (c + 1) (by omega) (by omega) (by omega) (by omega)
    have ihB := ih k (i + 1) c (by omega) (by omega) (by omega) (by omega)
    have j1f : ∀ x : S52, impl_ArenaOk.j1 (k + 1) c B (B.length : Int) (i : Int) true B L x.f0 x.f1 x.f2.f0 x.f2.f1 x.f2.f2 = some false := by
      intro x
      rw [impl_ArenaOk.j1, if_pos rfl]
    have j1t : ∀ x : S52, impl_ArenaOk.j1 (k + 1) c B (B.length : Int) (i : Int) false B L x.f0 x.f1 x.f2.f0 x.f2.f1 x.f2.f2 = some (arR B L (i + 1) d (if listedB x = true then c + 1 else c)) := by
      intro x
      rw [impl_ArenaOk.j1, if_neg Bool.false_ne_true, isListed_eq, Option.bind_some, w64 (x := c + 1) (by omega) (by omega), w64 (x := (i : Int) + 1) (by omega) (by omega), show ((i : Int) + 1) = ((i + 1 : Nat) : Int) from by omega, ihA, ihB]
      split <;> rfl
    rw [impl_ArenaOk.l0, if_pos (by omega), if_pos (by omega), if_pos (by omega), in_eq, Option.bind_some]
    simp only [arR]
    generalize rd_T52 B (i : Int) = x
    rw [areValues_eq (by simp) (by simp; omega), Option.bind_some, j1f]
    have hv : ([x.f2.f0, x.f2.f1, x.f2.f2] : List Int).all valB = (valB x.f2.f0 && (valB x.f2.f1 && valB x.f2.f2)) := by simp [Bool.and_assoc]
    rw [hv]
    unfold okB
    cases inB 0 5 x.f0 with
    | false => rw [if_neg Bool.false_ne_true, Bool.false_and, Bool.false_and]
    | true =>
      rw [if_pos rfl, Bool.true_and]
      have hv2 : impl_ArenaOk.j1 (k + 1) c B (B.length : Int) (i : Int) (!(valB x.f2.f0 && (valB x.f2.f1 && valB x.f2.f2))) B L x.f0 x.f1 x.f2.f0 x.f2.f1 x.f2.f2 = some ((valB x.f2.f0 && (valB x.f2.f1 && valB x.f2.f2)) && arR B L (i + 1) d (if listedB x = true then c + 1 else c)) := by
        cases (valB x.f2.f0 && (valB x.f2.f1 && valB x.f2.f2)) with
        | false => rw [Bool.not_false, j1f, Bool.false_and]
        | true => rw [Bool.not_true, j1t, Bool.true_and]
      rw [hv2]
      cases h1 : x.f1 with
      | true => rw [if_pos rfl, Bool.not_true, Bool.false_and, Bool.not_false, Bool.true_and]
      | false =>
        rw [if_neg Bool.false_ne_true]
        by_cases h5 : x.f0 = 5
        · rw [if_pos h5, h5]
          rfl
        · rw [if_neg h5, Bool.not_false, Bool.true_and, show (x.f0 == 5) = false from by simpa using h5, Bool.not_false, Bool.true_and]
theorem implArena_eq {k : Nat} {B : List S52} {L : List Int} (hB : B.length ≤ 4000000) (hL : L.length ≤ 4000000) (hk : 2 * B.length + 2 * L.length + 4 < k) : impl_ArenaOk.f k B L = some (arOk B L) := by
  unfold impl_ArenaOk.f arOk
  rw [in_eq, Option.bind_some]
  have h := implArena_l0 B L hB hL B.length k 0 0 (by omega) hk (by omega) (by omega)
  rw [show ((0 : Nat) : Int) = 0 from rfl] at h
  cases inB 1 24 (B.length : Int) with
  | false => rw [if_neg Bool.false_ne_true, Bool.false_and]
  | true => rw [if_pos rfl, Bool.true_and, h]
theorem specArena_l1 (B : List S52) (L : List Int) (hB : B.length ≤ 4000000) (k i : Nat) (c : Int) (x : S52) (h0 : 0 ≤ c) (h1 : c ≤ i) (hi : i < B.length) : spec_ArenaOk.l1 (k + 4) c (i : Int) 0 B L x.f0 x.f1 x.f2.f0 x.f2.f1 x.f2.f2 = if (valB x.f2.f0 && (valB x.f2.f1 && valB x.f2.f2)) = true then spec_ArenaOk.l0 k (if listedB x = true then c + 1 else c) ((i + 1 : Nat) : Int) B L else some false := by
  rw [spec_ArenaOk.l1, if_pos (by decide), if_pos rfl, l1Value_eq, Option.bind_some]
  cases valB x.f2.f0 with
  | false => rw [if_neg Bool.false_ne_true, Bool.false_and, if_neg Bool.false_ne_true]
  | true =>
    rw [if_pos rfl, Bool.true_and, w01, spec_ArenaOk.l1, if_pos (by decide), if_neg (by decide), if_pos rfl, l1Value_eq, Option.bind_some]
    cases valB x.f2.f1 with
    | false => rw [if_neg Bool.false_ne_true, Bool.false_and, if_neg Bool.false_ne_true]
    | true =>
      rw [if_pos rfl, Bool.true_and, w12, spec_ArenaOk.l1, if_pos (by decide), if_neg (by decide), if_neg (by decide), if_pos rfl, l1Value_eq, Option.bind_some]
      cases valB x.f2.f2 with
      | false => rw [if_neg Bool.false_ne_true, if_neg Bool.false_ne_true]
      | true =>
        rw [if_pos rfl, if_pos rfl, w23, spec_ArenaOk.l1, if_neg (by decide), w64 (x := c + 1) (by omega) (by omega), w64 (x := (i : Int) + 1) (by omega) (by omega), show ((i : Int) + 1) = ((i + 1 : Nat) : Int) from by omega]
        unfold listedB
        cases x.f1 with
        | false => rw [if_neg Bool.false_ne_true, Bool.false_and, if_neg Bool.false_ne_true]
        | true =>
          rw [if_pos rfl, Bool.true_and]
          by_cases h5 : x.f0 < 5
          · rw [if_pos h5, decide_eq_true h5, if_pos rfl]
          · rw [if_neg h5, decide_eq_false h5, if_neg Bool.false_ne_true]
theorem specArena_l0 (B : List S52) (L : List Int) (hB : B.length ≤ 4000000) (hL : L.length ≤ 4000000) (d : Nat) : ∀ (k i : Nat) (c : Int), i + d = B.length → 6 * d + 2 * L.length + 6 < k → 0 ≤ c → c ≤ i → (∀ m : Nat, m < i → inB 0 5 (rd_T52 B m).f0 = true) → spec_ArenaOk.l0 k c (i : Int) B L = some (arR B L i d c) := by
  induction d with
  | zero =>
    intro k i c hi hk h0 h1 hG
    obtain ⟨k, rfl⟩ : ∃ m, k = m + 1 := ⟨k - 1, by omega⟩
    have h := specArena_l2 B L c hB hL (fun m hm => hG m (by omega)) L.length k 0 (by omega) (by omega)
    rw [spec_ArenaOk.l0, if_neg (by omega)]
    exact h
  | succ d ih =>
    intro k i c hi hk h0 h1 hG
    obtain ⟨k, rfl⟩ : ∃ m, k = m + 6 := ⟨k - 6, by omega⟩
    have ihC : inB 0 5 (rd_T52 B i).f0 = true → spec_ArenaOk.l0 k (if listedB (rd_T52 B i) = true then c + 1 else c) ((i + 1 : Nat) : Int) B L = some (arR B L (i + 1) d (if listedB (rd_T52 B i) = true then c + 1 else c)) := by
      intro hin
      have hG' : ∀ m : Nat, m < i + 1 → inB 0 5 (rd_T52 B m).f0 = true := by
        intro m hm
        by_cases e : m = i
        · rw [e]; exact hin
        · exact hG m (by omega)
      split
      · exact ih k (i + 1) (c + 1) (by omega) (by omega) (by omega) (by omega) hG'
      · exact ih k (i + 1) c (by omega) (by omega) (by omega) (by omega) hG'
    rw [spec_ArenaOk.l0, if_pos (by omega), if_pos (by omega), l1In_eq, Option.bind_some]
    simp only [arR]
    generalize rd_T52 B (i : Int) = x at *
    have j1f : spec_ArenaOk.j1 (k + 5) c (i : Int) true B L x.f0 x.f1 x.f2.f0 x.f2.f1 x.f2.f2 = some false := by
      rw [spec_ArenaOk.j1, if_pos rfl]
    have j1t : inB 0 5 x.f0 = true → spec_ArenaOk.j1 (k + 5) c (i : Int) false B L x.f0 x.f1 x.f2.f0 x.f2.f1 x.f2.f2 = some ((valB x.f2.f0 && (valB x.f2.f1 && valB x.f2.f2)) && arR B L (i + 1) d (if listedB x = true then c + 1 else c)) := by
      intro hin
      rw [spec_ArenaOk.j1, if_neg Bool.false_ne_true, specArena_l1 B L hB k i c x h0 h1 (by omega), ihC hin]
      cases (valB x.f2.f0 && (valB x.f2.f1 && valB x.f2.f2)) with
      | false => rw [if_neg Bool.false_ne_true, Bool.false_and]
      | true => rw [if_pos rfl, Bool.true_and]
    unfold okB
    cases hin : inB 0 5 x.f0 with
    | false => rw [if_neg Bool.false_ne_true, j1f, Bool.false_and, Bool.false_and]
    | true =>
      rw [if_pos rfl, Bool.true_and, j1t hin]
      cases h1 : x.f1 with
      | true => rw [if_pos rfl, Bool.not_true, Bool.false_and, Bool.not_false, Bool.true_and]
      | false =>
        rw [if_neg Bool.false_ne_true]
        have j1t' := j1t hin
        rw [h1] at j1f j1t'
        by_cases h5 : x.f0 = 5
        · rw [show (x.f0 == 5) = true from by simpa using h5, j1f]
          rfl
        · rw [show (x.f0 == 5) = false from by simpa using h5, j1t', Bool.not_false, Bool.true_and, Bool.not_false, Bool.true_and]
theorem specArena_eq {k : Nat} {B : List S52} {L : List Int} (hB : B.length ≤ 4000000) (hL : L.length ≤ 4000000) (hk : 6 * B.length + 2 * L.length + 6 < k) : spec_ArenaOk.f k B L = some (arOk B L) := by
  unfold spec_ArenaOk.f arOk
  rw [l1In_eq, Option.bind_some]
  have h := specArena_l0 B L hB hL B.length k 0 0 (by omega) hk (by omega) (by omega) (fun m hm => absurd hm (by omega))
  rw [show ((0 : Nat) : Int) = 0 from rfl] at h
  cases inB 1 24 (B.length : Int) with
  | false => rw [if_neg Bool.false_ne_true, Bool.false_and]
  | true => rw [if_pos rfl, Bool.true_and, h]

-- the laws' own: sizes, copies, comparisons
theorem szIntS_eq {l : List Int} {a : Int} (hl : l.length ≤ maxLen) (ha : 0 ≤ a ∧ a ≤ 1048576) : laws_szIntS.f l a = some (if a - (l.length : Int) < 0 then -1 else a - (l.length : Int)) := by
  unfold laws_szIntS.f
  have hm : l.length ≤ 9223372036854775807 := hl
  rw [w64 (by omega) (by omega)]
  by_cases h : a - (l.length : Int) < 0
  · rw [if_pos h, if_pos h]
  · rw [if_neg h, if_neg h]
theorem szArena_ok {B : List S67} {L : List Int} (hB : B.length ≤ maxLen) (hL : L.length ≤ maxLen) : laws_szArena.f B L 1048576 = some (if 1048576 < (B.length : Int) + (L.length : Int) then -1 else 1048576 - (B.length : Int) - (L.length : Int)) := by
  unfold laws_szArena.f
  rw [szBlockS_eq hB (by omega), Option.bind_some]
  by_cases h : (1048576 : Int) - (B.length : Int) < 0
  · rw [if_pos h, if_pos (by omega), if_pos (by omega)]
  · rw [if_neg h, if_neg h, szIntS_eq hL (by omega), Option.bind_some]
    by_cases h2 : (1048576 : Int) - (B.length : Int) - (L.length : Int) < 0
    · rw [if_pos h2, if_pos (by omega), if_pos (by omega)]
    · rw [if_neg h2, if_neg h2, if_neg (by omega)]
theorem toArena_eq {k : Nat} {B : List S67} {L : List Int} (hB : B.length ≤ 4000000) (hL : L.length ≤ 4000000) (hk : B.length + L.length + 4 < k) : laws_toArena.f k B L = some (B.map cvBlock, L) := by
  unfold laws_toArena.f
  rw [toBlockS_eq hB (by omega), Option.bind_some, toIntS_eq hL (by omega), Option.bind_some]
theorem eqArena_refl {k : Nat} {B : List S52} {L : List Int} (hB : B.length ≤ 4000000) (hL : L.length ≤ 4000000) (hk : B.length + L.length + 4 < k) : laws_eqArena.f k B L B L = some true := by
  unfold laws_eqArena.f
  rw [eqBlockS_refl hB (by omega), Option.bind_some, if_pos rfl, eqIntS_refl hL (by omega), Option.bind_some, if_pos rfl]


end Go.Proofs.Ytppidjpamaddhaa.T
namespace Go.Proofs.Ytppidjpamaddhaa.T
set_option linter.unusedVariables false
set_option linter.unusedSimpArgs false
open Go.RowKit Go.Proofs.YtppidjpamaddhaaW.PrintWords Go.Proofs.Ytppidjpamaddhaa.PbT

theorem own_eq {l : List Int} (hl : l.length ≤ 4000000) : impl_own.f l = some l := by
  unfold impl_own.f
  rw [Option.bind_some, if_pos (by simp only [List.length_nil]; omega), List.nil_append]
theorem l1Copy_eq {l : List Int} (hl : l.length ≤ 4000000) : spec_l1Copy.f l = some l := by
  unfold spec_l1Copy.f
  rw [Option.bind_some, if_pos (by simp only [List.length_nil]; omega), List.nil_append]
theorem ownArena_eq {B : List S52} {L : List Int} (hB : B.length ≤ 4000000) (hL : L.length ≤ 4000000) : impl_ownArena.f B L = some (B, L) := by
  unfold impl_ownArena.f
  rw [Option.bind_some, if_pos (by simp only [List.length_nil]; omega), own_eq hL, Option.bind_some, List.nil_append]
theorem l2Copy_eq {B : List S52} {L : List Int} (hB : B.length ≤ 4000000) (hL : L.length ≤ 4000000) : spec_l2Copy.f B L = some (B, L) := by
  unfold spec_l2Copy.f
  rw [Option.bind_some, if_pos (by simp only [List.length_nil]; omega), l1Copy_eq hL, Option.bind_some, List.nil_append]


end Go.Proofs.Ytppidjpamaddhaa.T
namespace Go.Proofs.Ytppidjpamaddhaa.T
set_option linter.unusedVariables false
set_option linter.unusedSimpArgs false
open Go.RowKit Go.Proofs.YtppidjpamaddhaaW.PrintWords Go.Proofs.Ytppidjpamaddhaa.PbT

/-- The listed places from i on. -/
def lpR (B : List S52) : Nat → Nat → List Int
  | _, 0 => []
  | i, d + 1 => if listedB (rd_T52 B i) = true then (i : Int) :: lpR B (i + 1) d else lpR B (i + 1) d
theorem arR_true (B : List S52) (L : List Int) (d : Nat) : ∀ (i : Nat) (c : Int), arR B L i d c = true → lsR B L (c + ((lpR B i d).length : Int)) 0 L.length = true ∧ ∀ m : Nat, i ≤ m → m < i + d → okB (rd_T52 B m) = true := by
  induction d with
  | zero =>
    intro i c h
    simp only [arR] at h
    refine ⟨?_, fun m h1 h2 => by omega⟩
    simpa [lpR] using h
  | succ d ih =>
    intro i c h
    simp only [arR, Bool.and_eq_true] at h
    have h1 := ih (i + 1) _ h.2
    refine ⟨?_, fun m hm1 hm2 => ?_⟩
    · have h2 := h1.1
      simp only [lpR]
      by_cases hl : listedB (rd_T52 B i) = true
      · rw [if_pos hl] at h2 ⊢
        rw [List.length_cons, show c + (((lpR B (i + 1) d).length + 1 : Nat) : Int) = c + 1 + ((lpR B (i + 1) d).length : Int) from by omega]
        exact h2
      · rw [if_neg hl] at h2 ⊢
        exact h2
    · by_cases e : m = i
      · rw [e]; exact h.1
      · exact h1.2 m (by omega) (by omega)
theorem lsR_true (B : List S52) (L : List Int) (c : Int) (d : Nat) : ∀ (j : Nat), j + d = L.length → lsR B L c j d = true → (L.length : Int) = c ∧ ∀ m : Nat, j ≤ m → m < L.length → inB 0 ((B.length : Int) - 1) (rd L m) = true ∧ listedB (rd_T52 B (rd L m)) = true ∧ ¬ rd L m ∈ L.take m := by
  induction d with
  | zero =>
    intro j hj h
    simp only [lsR] at h
    exact ⟨by simpa using h, fun m h1 h2 => by omega⟩
  | succ d ih =>
    intro j hj h
    simp only [lsR, Bool.and_eq_true] at h
    have h1 := ih (j + 1) (by omega) h.2.2.2
    refine ⟨h1.1, fun m hm1 hm2 => ?_⟩
    by_cases e : m = j
    · rw [e]
      exact ⟨h.1, h.2.1, by simpa using h.2.2.1⟩
    · exact h1.2 m (by omega) hm2
/-- What ArenaOk says. -/
theorem arOk_true {B : List S52} {L : List Int} (h : arOk B L = true) : (1 ≤ (B.length : Int) ∧ (B.length : Int) ≤ 24) ∧ (∀ m : Nat, m < B.length → okB (rd_T52 B m) = true) ∧ (∀ m : Nat, m < L.length → inB 0 ((B.length : Int) - 1) (rd L m) = true ∧ listedB (rd_T52 B (rd L m)) = true ∧ ¬ rd L m ∈ L.take m) ∧ L.length = (lpR B 0 B.length).length := by
  unfold arOk at h
  simp only [Bool.and_eq_true] at h
  have h1 := arR_true B L B.length 0 0 h.2
  have h2 := lsR_true B L _ L.length 0 (by omega) h1.1
  refine ⟨inB_iff.1 h.1, fun m hm => h1.2 m (by omega) (by omega), fun m hm => h2.2 m (by omega) hm, ?_⟩
  have h3 := h2.1
  omega
theorem gen_rng {B : List S52} {L : List Int} (h : arOk B L = true) {x : Int} (h0 : 0 ≤ x) (h1 : x < (B.length : Int)) : 0 ≤ (rd_T52 B x).f0 ∧ (rd_T52 B x).f0 ≤ 5 := by
  have h2 := (arOk_true h).2.1 x.toNat (by omega)
  rw [Int.toNat_of_nonneg h0] at h2
  unfold okB at h2
  simp only [Bool.and_eq_true] at h2
  exact inB_iff.1 h2.1


end Go.Proofs.Ytppidjpamaddhaa.T
namespace Go.Proofs.Ytppidjpamaddhaa.T
set_option linter.unusedVariables false
set_option linter.unusedSimpArgs false
open Go.RowKit Go.Proofs.YtppidjpamaddhaaW.PrintWords Go.Proofs.Ytppidjpamaddhaa.PbT

def takeR (B : List S52) (L : List Int) : List S52 × List Int × Int × Bool :=
  if arOk B L = true then (if (L.length : Int) = 0 then (B, L, -1, false) else (B.set (rd L 0).toNat ⟨(rd_T52 B (rd L 0)).f0, false, ⟨0, 0, 0⟩⟩, L.drop 1, 8 * rd L 0 + (rd_T52 B (rd L 0)).f0, true)) else (B, L, -1, false)
theorem takeR_len (B : List S52) (L : List Int) : (takeR B L).1.length = B.length ∧ (takeR B L).2.1.length ≤ L.length := by
  unfold takeR
  split
  · split
    · exact ⟨rfl, Nat.le_refl _⟩
    · exact ⟨by simp, by simp⟩
  · exact ⟨rfl, Nat.le_refl _⟩
theorem implTake_eq {k : Nat} {B : List S52} {L : List Int} (hB : B.length ≤ 4000000) (hL : L.length ≤ 4000000) (hk : 2 * B.length + 2 * L.length + 4 < k) : impl_Take.f k B L = some (takeR B L) := by
  unfold impl_Take.f takeR
  rw [ownArena_eq hB hL, Option.bind_some, implArena_eq hB hL hk, Option.bind_some]
  cases ha : arOk B L with
  | false => rw [if_neg Bool.false_ne_true, if_neg Bool.false_ne_true]
  | true =>
    rw [if_pos rfl, if_pos rfl]
    by_cases h0 : (L.length : Int) = 0
    · rw [if_pos h0, if_pos h0]
    · have h1 := inB_iff.1 ((arOk_true ha).2.2.1 0 (by omega)).1
      rw [show ((0 : Nat) : Int) = 0 from rfl] at h1
      have h2 := gen_rng ha h1.1 (show rd L 0 < (B.length : Int) by omega)
      rw [if_neg h0, if_neg h0, if_pos (by omega), if_pos (by simp only []; omega), if_pos h1.1, if_pos (by omega), if_pos (by simp only []; omega), w64 (x := 8 * rd L 0) (by omega) (by omega), w64 (by omega) (by omega)]
      rfl
theorem specTake_eq {k : Nat} {B : List S52} {L : List Int} (hB : B.length ≤ 4000000) (hL : L.length ≤ 4000000) (hk : 6 * B.length + 2 * L.length + 6 < k) : spec_Take.f k B L = some (takeR B L) := by
  unfold spec_Take.f takeR
  rw [l2Copy_eq hB hL, Option.bind_some, specArena_eq hB hL hk, Option.bind_some]
  cases ha : arOk B L with
  | false => rw [if_neg Bool.false_ne_true, if_neg Bool.false_ne_true]
  | true =>
    rw [if_pos rfl, if_pos rfl]
    by_cases h0 : (L.length : Int) = 0
    · rw [if_pos h0, if_pos h0]
    · have h1 := inB_iff.1 ((arOk_true ha).2.2.1 0 (by omega)).1
      rw [show ((0 : Nat) : Int) = 0 from rfl] at h1
      have h2 := gen_rng ha h1.1 (show rd L 0 < (B.length : Int) by omega)
      rw [if_neg h0, if_neg h0, if_pos (by omega), if_pos (by omega), l1Copy_eq (by rw [List.length_drop]; omega), Option.bind_some, if_pos h1.1, if_pos (by omega), if_pos (by simp only []; omega), w64 (x := 8 * rd L 0) (by omega) (by omega), w64 (by omega) (by omega)]


end Go.Proofs.Ytppidjpamaddhaa.T
namespace Go.Proofs.Ytppidjpamaddhaa.T
set_option linter.unusedSimpArgs false
open Go.RowKit Go.Proofs.YtppidjpamaddhaaW.PrintWords Go.Proofs.Ytppidjpamaddhaa.PbT

theorem rd_mid (p q : List Int) (y : Int) : rd (p ++ y :: q) ((p.length : Nat) : Int) = y := by
  simp [rd, List.getD_eq_getElem?_getD]
def mkLInt : Int → Nat → List Int
  | _, 0 => []
  | a, m + 1 => a :: mkLInt (a + 1) m
theorem mkLInt_len : ∀ (m : Nat) (a : Int), (mkLInt a m).length = m
  | 0, _ => rfl
  | m + 1, a => by simp [mkLInt, mkLInt_len m]
theorem markIntSQ_l0 (d : Nat) : ∀ (k i : Nat) (a : Int) (x : List Int), x.length ≤ 4000000 → i + d = x.length → d < k → 0 ≤ a → a + d ≤ 1099511627776 → laws_markIntS_Q.l0 k x a (i : Int) = some (a + d, x.take i ++ mkLInt a d) := by
  induction d with
  | zero =>
    intro k i a x hl hi hk h0 h1
    obtain ⟨k, rfl⟩ : ∃ m, k = m + 1 := ⟨k - 1, by omega⟩
    simp only [laws_markIntS_Q.l0]
    rw [if_neg (by omega), List.take_of_length_le (by omega)]
    simp [mkLInt]
  | succ d ih =>
    intro k i a x hl hi hk h0 h1
    obtain ⟨k, rfl⟩ : ∃ m, k = m + 1 := ⟨k - 1, by omega⟩
    simp only [laws_markIntS_Q.l0]
    have ei : wrap64 ((i : Int) + 1) = ((i + 1 : Nat) : Int) := by
      rw [w64 (by omega) (by omega)]
      omega
    have hx : i < x.length := by omega
    rw [if_pos (by omega), if_pos (by omega), w64 (x := a + 1) (by omega) (by omega), ei, Int.toNat_natCast,
      ih k (i + 1) (a + 1) _ (by simpa using hl) (by simp; omega) (by omega) (by omega) (by omega), set_take _ _ _ hx, List.append_assoc]
    refine congrArg some (Prod.ext ?_ rfl)
    show a + 1 + (d : Int) = a + ((d + 1 : Nat) : Int)
    omega
theorem markIntSQ_eq {k : Nat} {x : List Int} {a : Int} (hl : x.length ≤ 4000000) (hk : x.length < k) (h0 : 0 ≤ a) (h1 : a ≤ 549755813888) : laws_markIntS_Q.f k x a = some (a + x.length, mkLInt a x.length) := by
  unfold laws_markIntS_Q.f
  have h := markIntSQ_l0 x.length k 0 a x hl (by omega) hk h0 (by omega)
  rw [List.take_zero, List.nil_append] at h
  exact h
theorem heldIntS_l0 (d : Nat) : ∀ (k : Nat) (a : Int) (p : List Int), p.length + d ≤ 4000000 → d < k → 0 ≤ a → a + d ≤ 1099511627776 → laws_heldIntS.l0 k (p ++ mkLInt a d) a ((p.length : Nat) : Int) = some (a + d) := by
  induction d with
  | zero =>
    intro k a p hl hk h0 h1
    obtain ⟨k, rfl⟩ : ∃ m, k = m + 1 := ⟨k - 1, by omega⟩
    simp only [laws_heldIntS.l0]
    rw [if_neg (by simp [mkLInt])]
    simp
  | succ d ih =>
    intro k a p hl hk h0 h1
    obtain ⟨k, rfl⟩ : ∃ m, k = m + 1 := ⟨k - 1, by omega⟩
    simp only [laws_heldIntS.l0]
    have ei : wrap64 ((p.length : Int) + 1) = ((p.length + 1 : Nat) : Int) := by
      rw [w64 (by omega) (by omega)]
      omega
    have ea : wrap64 (a + 1) = a + 1 := w64 (by omega) (by omega)
    have hlen : ((p ++ mkLInt a (d + 1)).length : Int) = p.length + d + 1 := by
      simp [mkLInt_len]
      omega
    rw [if_pos (by omega), if_pos (by omega)]
    simp only [mkLInt, rd_mid, ea, ei, if_true]
    have h := ih k (a + 1) (p ++ [a]) (by simp; omega) (by omega) (by omega) (by omega)
    rw [List.append_assoc, List.length_append] at h
    simp only [List.singleton_append, List.length_singleton] at h
    rw [h]
    refine congrArg some ?_
    omega
theorem heldIntS_eq {k : Nat} {m : Nat} {a : Int} (hl : m ≤ 4000000) (hk : m < k) (h0 : 0 ≤ a) (h1 : a ≤ 549755813888) : laws_heldIntS.f k (mkLInt a m) a = some (a + m) := by
  unfold laws_heldIntS.f
  exact heldIntS_l0 m k a [] (by simpa using hl) hk h0 (by omega)


end Go.Proofs.Ytppidjpamaddhaa.T
namespace Go.Proofs.Ytppidjpamaddhaa.T
set_option linter.unusedVariables false
set_option linter.unusedSimpArgs false
open Go.RowKit Go.Proofs.YtppidjpamaddhaaW.PrintWords Go.Proofs.Ytppidjpamaddhaa.PbT

def mkBlock (a : Int) : S52 := ⟨a, ((Int.tmod (a + 1) 3) == 0), ⟨a + 1 + 1, a + 1 + 1 + 1, a + 1 + 1 + 1 + 1⟩⟩
def mkLBlock : Int → Nat → List S52
  | _, 0 => []
  | a, m + 1 => mkBlock a :: mkLBlock (a + 1 + 1 + 1 + 1 + 1) m
theorem mkLBlock_len : ∀ (m : Nat) (a : Int), (mkLBlock a m).length = m
  | 0, _ => rfl
  | m + 1, a => by simp [mkLBlock, mkLBlock_len m]
theorem markBlock_l1 (k i : Nat) (a : Int) (x : List S52) (hl : x.length ≤ 4000000) (hi : i < x.length) (h0 : 0 ≤ a) (h1 : a ≤ 1099511627776) :
    laws_markBlockS.l1 (k + 4) x a (i : Int) 0 = laws_markBlockS.l0 k (x.set i ⟨(rd_T52 x i).f0, (rd_T52 x i).f1, ⟨a, a + 1, a + 1 + 1⟩⟩) (a + 1 + 1 + 1) ((i + 1 : Nat) : Int) := by
  have hlt : ∀ y : S52, (i : Int) < ((x.set i y).length : Int) := fun y => by rw [List.length_set]; omega
  rw [laws_markBlockS.l1, if_pos (by decide), if_pos (by omega), if_pos (by omega), if_pos rfl, w01, Int.toNat_natCast, w64 (x := a + 1) (by omega) (by omega)]
  rw [laws_markBlockS.l1, if_pos (by decide), if_pos (by omega), if_pos (hlt _), if_neg (by decide), if_pos rfl, w12, Int.toNat_natCast, w64 (x := a + 1 + 1) (by omega) (by omega), List.set_set, rdB_set x i _ hi]
  rw [laws_markBlockS.l1, if_pos (by decide), if_pos (by omega), if_pos (hlt _), if_neg (by decide), if_neg (by decide), if_pos rfl, w23, Int.toNat_natCast, w64 (x := a + 1 + 1 + 1) (by omega) (by omega), List.set_set, rdB_set x i _ hi]
  rw [laws_markBlockS.l1, if_neg (by decide), w64 (by omega) (by omega), show ((i : Int) + 1) = ((i + 1 : Nat) : Int) from by omega]
theorem markBlockS_l0 (d : Nat) : ∀ (k i : Nat) (a : Int) (x : List S52), x.length ≤ 4000000 → i + d = x.length → 5 * d < k → 0 ≤ a → a + 5 * d ≤ 1099511627776 → laws_markBlockS.l0 k x a (i : Int) = some (a + 5 * d, x.take i ++ mkLBlock a d) := by
  induction d with
  | zero =>
    intro k i a x hl hi hk h0 h1
    obtain ⟨k, rfl⟩ : ∃ m, k = m + 1 := ⟨k - 1, by omega⟩
    rw [laws_markBlockS.l0, if_neg (by omega), List.take_of_length_le (by omega)]
    simp [mkLBlock]
  | succ d ih =>
    intro k i a x hl hi hk h0 h1
    obtain ⟨k, rfl⟩ : ∃ m, k = (m + 4) + 1 := ⟨k - 5, by omega⟩
    have hd : ((d + 1 : Nat) : Int) = (d : Int) + 1 := by omega
    have hx : i < x.length := by omega
    rw [laws_markBlockS.l0, if_pos (by omega), if_pos (by omega), Option.bind_some, w64 (x := a + 1) (by omega) (by omega), w64 (x := a + 1 + 1) (by omega) (by omega), Int.toNat_natCast, List.set_set, rdB_set x i _ hx]
    rw [markBlock_l1 k i (a + 1 + 1) _ (by simpa using hl) (by simpa using hx) (by omega) (by omega), List.set_set, rdB_set x i _ hx]
    refine Eq.trans (ih k (i + 1) (a + 1 + 1 + 1 + 1 + 1) (x.set i (mkBlock a)) (by simpa using hl) (by simp; omega) (by omega) (by omega) (by omega)) ?_
    rw [set_take _ _ _ hx, List.append_assoc]
    refine congrArg some (Prod.ext ?_ rfl)
    show a + 1 + 1 + 1 + 1 + 1 + 5 * (d : Int) = a + 5 * ((d + 1 : Nat) : Int)
    omega
theorem markBlockS_eq {k : Nat} {x : List S52} {a : Int} (hl : x.length ≤ 4000000) (hk : 5 * x.length < k) (h0 : 0 ≤ a) (h1 : a ≤ 549755813888) : laws_markBlockS.f k x a = some (a + 5 * x.length, mkLBlock a x.length) := by
  unfold laws_markBlockS.f
  have h := markBlockS_l0 x.length k 0 a x hl (by omega) hk h0 (by omega)
  rw [List.take_zero, List.nil_append] at h
  exact h
theorem heldBlock_l1 (k i : Nat) (a : Int) (x : List S52) (hl : x.length ≤ 4000000) (hi : i < x.length) (h0 : 0 ≤ a) (h1 : a ≤ 1099511627776) (hx : (rd_T52 x i).f2 = ⟨a, a + 1, a + 1 + 1⟩) :
    laws_heldBlockS.l1 (k + 4) x a (i : Int) 0 = laws_heldBlockS.l0 k x (a + 1 + 1 + 1) ((i + 1 : Nat) : Int) := by
  rw [laws_heldBlockS.l1, if_pos (by decide), if_pos (by omega), if_pos (by omega), if_pos rfl, if_pos (by rw [hx]), w01, w64 (x := a + 1) (by omega) (by omega)]
  rw [laws_heldBlockS.l1, if_pos (by decide), if_pos (by omega), if_pos (by omega), if_neg (by decide), if_pos rfl, if_pos (by rw [hx]), w12, w64 (x := a + 1 + 1) (by omega) (by omega)]
  rw [laws_heldBlockS.l1, if_pos (by decide), if_pos (by omega), if_pos (by omega), if_neg (by decide), if_neg (by decide), if_pos rfl, if_pos (by rw [hx]), w23, w64 (x := a + 1 + 1 + 1) (by omega) (by omega)]
  rw [laws_heldBlockS.l1, if_neg (by decide), w64 (by omega) (by omega), show ((i : Int) + 1) = ((i + 1 : Nat) : Int) from by omega]
theorem heldBlockS_l0 (d : Nat) : ∀ (k : Nat) (a : Int) (p : List S52), p.length + d ≤ 4000000 → 5 * d < k → 0 ≤ a → a + 5 * d ≤ 1099511627776 → laws_heldBlockS.l0 k (p ++ mkLBlock a d) a ((p.length : Nat) : Int) = some (a + 5 * d) := by
  induction d with
  | zero =>
    intro k a p hl hk h0 h1
    obtain ⟨k, rfl⟩ : ∃ m, k = m + 1 := ⟨k - 1, by omega⟩
    rw [laws_heldBlockS.l0, if_neg (by simp [mkLBlock])]
    simp
  | succ d ih =>
    intro k a p hl hk h0 h1
    obtain ⟨k, rfl⟩ : ∃ m, k = (m + 4) + 1 := ⟨k - 5, by omega⟩
    have hd : ((d + 1 : Nat) : Int) = (d : Int) + 1 := by omega
    have hlen : ((p ++ mkLBlock a (d + 1)).length : Int) = p.length + d + 1 := by
      simp [mkLBlock_len]
      omega
    have hr : rd_T52 (p ++ mkLBlock a (d + 1)) ((p.length : Nat) : Int) = mkBlock a := rdB_mid p _ _
    rw [laws_heldBlockS.l0, if_pos (by omega), if_pos (by omega), if_pos (by rw [hr]; rfl), w64 (x := a + 1) (by omega) (by omega), if_neg (by rw [hr]; simp [mkBlock]), w64 (x := a + 1 + 1) (by omega) (by omega)]
    rw [heldBlock_l1 k p.length (a + 1 + 1) _ (by omega) (by omega) (by omega) (by omega) (by rw [hr]; rfl)]
    have h := ih k (a + 1 + 1 + 1 + 1 + 1) (p ++ [mkBlock a]) (by simp; omega) (by omega) (by omega) (by omega)
    rw [List.append_assoc, List.length_append] at h
    simp only [List.singleton_append, List.length_singleton] at h
    refine Eq.trans h ?_
    refine congrArg some ?_
    omega
theorem heldBlockS_eq {k : Nat} {m : Nat} {a : Int} (hl : m ≤ 4000000) (hk : 5 * m < k) (h0 : 0 ≤ a) (h1 : a ≤ 549755813888) : laws_heldBlockS.f k (mkLBlock a m) a = some (a + 5 * m) := by
  unfold laws_heldBlockS.f
  exact heldBlockS_l0 m k a [] (by simpa using hl) hk h0 (by omega)


end Go.Proofs.Ytppidjpamaddhaa.T
namespace Go.Proofs.Ytppidjpamaddhaa.T
set_option linter.unusedVariables false
open Go.RowKit Go.Proofs.YtppidjpamaddhaaW.PrintWords Go.Proofs.Ytppidjpamaddhaa.PbT

theorem markArenaQ_eq {k : Nat} {B : List S52} {L : List Int} (hB : B.length ≤ 4000000) (hL : L.length ≤ 4000000) (hk : 5 * B.length + L.length < k) : laws_markArena_Q.f k B L 1 = some (1 + 5 * (B.length : Int) + (L.length : Int), mkLBlock 1 B.length, mkLInt (1 + 5 * (B.length : Int)) L.length) := by
  unfold laws_markArena_Q.f
  rw [markBlockS_eq hB (by omega) (by omega) (by omega), Option.bind_some, markIntSQ_eq hL (by omega) (by omega) (by omega), Option.bind_some]
theorem heldArena_eq {k m n : Nat} (hm : m ≤ 4000000) (hn : n ≤ 4000000) (hk : 5 * m + n < k) : laws_heldArena.f k (mkLBlock 1 m) (mkLInt (1 + 5 * (m : Int)) n) 1 = some (1 + 5 * (m : Int) + (n : Int)) := by
  unfold laws_heldArena.f
  rw [heldBlockS_eq hm (by omega) (by omega) (by omega), Option.bind_some, if_neg (by omega), heldIntS_eq hn (by omega) (by omega) (by omega), Option.bind_some, if_neg (by omega)]


end Go.Proofs.Ytppidjpamaddhaa.T
namespace Go.Proofs.Ytppidjpamaddhaa.Pure
set_option linter.unusedVariables false
set_option linter.unusedSimpArgs false
open Go.RowKit Go.Proofs.Ytppidjpamaddhaa.T Go.Proofs.YtppidjpamaddhaaW.PrintWords Go.Proofs.Ytppidjpamaddhaa.PbT


theorem FnExactTake : laws_FnExactTake.Pure := by
  intro B L hB hL
  obtain ⟨k, hk⟩ : ∃ k : Nat, 50000000 < k := ⟨50000001, by omega⟩
  refine ⟨k + 3, ?_⟩
  unfold laws_FnExactTake.f
  rw [szArena_ok hB.1 hL.1, Option.bind_some]
  by_cases h1 : 1048576 < (B.length : Int) + (L.length : Int)
  · rw [if_pos h1, if_pos (by omega)]
  · rw [if_neg h1, if_neg (by omega)]
    have hr := takeR_len (B.map cvBlock) L
    rw [List.length_map] at hr
    (repeat (first | rw [if_pos rfl] | rw [if_neg Bool.false_ne_true] | rw [ifneg_lt (by (first | omega | (simp only [List.length_map]; omega)))] | rw [toArena_eq (by (first | omega | (simp only [List.length_map]; omega))) (by (first | omega | (simp only [List.length_map]; omega))) (by (first | omega | (simp only [List.length_map]; omega)))] | rw [eqArena_refl (by (first | omega | (simp only [List.length_map]; omega))) (by (first | omega | (simp only [List.length_map]; omega))) (by (first | omega | (simp only [List.length_map]; omega)))] | rw [specTake_eq (by (first | omega | (simp only [List.length_map]; omega))) (by (first | omega | (simp only [List.length_map]; omega))) (by (first | omega | (simp only [List.length_map]; omega)))] | rw [implTake_eq (by (first | omega | (simp only [List.length_map]; omega))) (by (first | omega | (simp only [List.length_map]; omega))) (by (first | omega | (simp only [List.length_map]; omega)))] | rw [markArenaQ_eq (by (first | omega | (simp only [List.length_map]; omega))) (by (first | omega | (simp only [List.length_map]; omega))) (by (first | omega | (simp only [List.length_map]; omega)))] | rw [heldArena_eq (by (first | omega | (simp only [List.length_map]; omega))) (by (first | omega | (simp only [List.length_map]; omega))) (by (first | omega | (simp only [List.length_map]; omega)))] | (simp only [Option.bind_some, bne_self_eq_false, if_true, Bool.false_eq_true, if_false])))
    generalize hR : takeR (B.map cvBlock) L = R at hr
    obtain ⟨B2, L2, h2, ok⟩ := R
    simp only at hr
    (repeat (first | rw [if_pos rfl] | rw [if_neg Bool.false_ne_true] | rw [ifneg_lt (by (first | omega | (simp only [List.length_map]; omega)))] | rw [toArena_eq (by (first | omega | (simp only [List.length_map]; omega))) (by (first | omega | (simp only [List.length_map]; omega))) (by (first | omega | (simp only [List.length_map]; omega)))] | rw [eqArena_refl (by (first | omega | (simp only [List.length_map]; omega))) (by (first | omega | (simp only [List.length_map]; omega))) (by (first | omega | (simp only [List.length_map]; omega)))] | rw [specTake_eq (by (first | omega | (simp only [List.length_map]; omega))) (by (first | omega | (simp only [List.length_map]; omega))) (by (first | omega | (simp only [List.length_map]; omega)))] | rw [implTake_eq (by (first | omega | (simp only [List.length_map]; omega))) (by (first | omega | (simp only [List.length_map]; omega))) (by (first | omega | (simp only [List.length_map]; omega)))] | rw [markArenaQ_eq (by (first | omega | (simp only [List.length_map]; omega))) (by (first | omega | (simp only [List.length_map]; omega))) (by (first | omega | (simp only [List.length_map]; omega)))] | rw [heldArena_eq (by (first | omega | (simp only [List.length_map]; omega))) (by (first | omega | (simp only [List.length_map]; omega))) (by (first | omega | (simp only [List.length_map]; omega)))] | (simp only [Option.bind_some, bne_self_eq_false, if_true, Bool.false_eq_true, if_false])))
    rw [laws_FnExactTake.j0]
    (repeat (first | rw [if_pos rfl] | rw [if_neg Bool.false_ne_true] | rw [ifneg_lt (by (first | omega | (simp only [List.length_map]; omega)))] | rw [toArena_eq (by (first | omega | (simp only [List.length_map]; omega))) (by (first | omega | (simp only [List.length_map]; omega))) (by (first | omega | (simp only [List.length_map]; omega)))] | rw [eqArena_refl (by (first | omega | (simp only [List.length_map]; omega))) (by (first | omega | (simp only [List.length_map]; omega))) (by (first | omega | (simp only [List.length_map]; omega)))] | rw [specTake_eq (by (first | omega | (simp only [List.length_map]; omega))) (by (first | omega | (simp only [List.length_map]; omega))) (by (first | omega | (simp only [List.length_map]; omega)))] | rw [implTake_eq (by (first | omega | (simp only [List.length_map]; omega))) (by (first | omega | (simp only [List.length_map]; omega))) (by (first | omega | (simp only [List.length_map]; omega)))] | rw [markArenaQ_eq (by (first | omega | (simp only [List.length_map]; omega))) (by (first | omega | (simp only [List.length_map]; omega))) (by (first | omega | (simp only [List.length_map]; omega)))] | rw [heldArena_eq (by (first | omega | (simp only [List.length_map]; omega))) (by (first | omega | (simp only [List.length_map]; omega))) (by (first | omega | (simp only [List.length_map]; omega)))] | (simp only [Option.bind_some, bne_self_eq_false, if_true, Bool.false_eq_true, if_false])))
    rw [laws_FnExactTake.j1]
    (repeat (first | rw [if_pos rfl] | rw [if_neg Bool.false_ne_true] | rw [ifneg_lt (by (first | omega | (simp only [List.length_map]; omega)))] | rw [toArena_eq (by (first | omega | (simp only [List.length_map]; omega))) (by (first | omega | (simp only [List.length_map]; omega))) (by (first | omega | (simp only [List.length_map]; omega)))] | rw [eqArena_refl (by (first | omega | (simp only [List.length_map]; omega))) (by (first | omega | (simp only [List.length_map]; omega))) (by (first | omega | (simp only [List.length_map]; omega)))] | rw [specTake_eq (by (first | omega | (simp only [List.length_map]; omega))) (by (first | omega | (simp only [List.length_map]; omega))) (by (first | omega | (simp only [List.length_map]; omega)))] | rw [implTake_eq (by (first | omega | (simp only [List.length_map]; omega))) (by (first | omega | (simp only [List.length_map]; omega))) (by (first | omega | (simp only [List.length_map]; omega)))] | rw [markArenaQ_eq (by (first | omega | (simp only [List.length_map]; omega))) (by (first | omega | (simp only [List.length_map]; omega))) (by (first | omega | (simp only [List.length_map]; omega)))] | rw [heldArena_eq (by (first | omega | (simp only [List.length_map]; omega))) (by (first | omega | (simp only [List.length_map]; omega))) (by (first | omega | (simp only [List.length_map]; omega)))] | (simp only [Option.bind_some, bne_self_eq_false, if_true, Bool.false_eq_true, if_false])))
    rw [hR]
    (repeat (first | rw [if_pos rfl] | rw [if_neg Bool.false_ne_true] | rw [ifneg_lt (by (first | omega | (simp only [List.length_map]; omega)))] | rw [toArena_eq (by (first | omega | (simp only [List.length_map]; omega))) (by (first | omega | (simp only [List.length_map]; omega))) (by (first | omega | (simp only [List.length_map]; omega)))] | rw [eqArena_refl (by (first | omega | (simp only [List.length_map]; omega))) (by (first | omega | (simp only [List.length_map]; omega))) (by (first | omega | (simp only [List.length_map]; omega)))] | rw [specTake_eq (by (first | omega | (simp only [List.length_map]; omega))) (by (first | omega | (simp only [List.length_map]; omega))) (by (first | omega | (simp only [List.length_map]; omega)))] | rw [implTake_eq (by (first | omega | (simp only [List.length_map]; omega))) (by (first | omega | (simp only [List.length_map]; omega))) (by (first | omega | (simp only [List.length_map]; omega)))] | rw [markArenaQ_eq (by (first | omega | (simp only [List.length_map]; omega))) (by (first | omega | (simp only [List.length_map]; omega))) (by (first | omega | (simp only [List.length_map]; omega)))] | rw [heldArena_eq (by (first | omega | (simp only [List.length_map]; omega))) (by (first | omega | (simp only [List.length_map]; omega))) (by (first | omega | (simp only [List.length_map]; omega)))] | (simp only [Option.bind_some, bne_self_eq_false, if_true, Bool.false_eq_true, if_false])))
    rw [laws_FnExactTake.j2]
    (repeat (first | rw [if_pos rfl] | rw [if_neg Bool.false_ne_true] | rw [ifneg_lt (by (first | omega | (simp only [List.length_map]; omega)))] | rw [toArena_eq (by (first | omega | (simp only [List.length_map]; omega))) (by (first | omega | (simp only [List.length_map]; omega))) (by (first | omega | (simp only [List.length_map]; omega)))] | rw [eqArena_refl (by (first | omega | (simp only [List.length_map]; omega))) (by (first | omega | (simp only [List.length_map]; omega))) (by (first | omega | (simp only [List.length_map]; omega)))] | rw [specTake_eq (by (first | omega | (simp only [List.length_map]; omega))) (by (first | omega | (simp only [List.length_map]; omega))) (by (first | omega | (simp only [List.length_map]; omega)))] | rw [implTake_eq (by (first | omega | (simp only [List.length_map]; omega))) (by (first | omega | (simp only [List.length_map]; omega))) (by (first | omega | (simp only [List.length_map]; omega)))] | rw [markArenaQ_eq (by (first | omega | (simp only [List.length_map]; omega))) (by (first | omega | (simp only [List.length_map]; omega))) (by (first | omega | (simp only [List.length_map]; omega)))] | rw [heldArena_eq (by (first | omega | (simp only [List.length_map]; omega))) (by (first | omega | (simp only [List.length_map]; omega))) (by (first | omega | (simp only [List.length_map]; omega)))] | (simp only [Option.bind_some, bne_self_eq_false, if_true, Bool.false_eq_true, if_false])))


end Go.Proofs.Ytppidjpamaddhaa.Pure
