/- The pure statement of FnExactLeft5 and what it needs. Conditions: those that each theorem states. -/
import Derived.Test.YtjbfcdeddnnnmaaVFnExactLeft50
import Derived.RowKit
import Derived.Test.YtjbfcdeddnnnmaaWWords
namespace Go.Proofs.Ytjbfcdeddnnnmaa.Pb
open Go.RowKit Go.Proofs.YtjbfcdeddnnnmaaW.PrintWords

theorem w64 {x : Int} (h0 : -9223372036854775808 ≤ x) (h1 : x ≤ 9223372036854775807) : wrap64 x = x := by
  unfold wrap64
  omega

theorem rd_at (l : List Int) (i : Nat) (h : i < l.length) : rd l (i : Int) = l[i] := by
  simp [rd, List.getD_eq_getElem?_getD, List.getElem?_eq_getElem h]

theorem set_take {α : Type} (x : List α) (v : α) (i : Nat) (h : i < x.length) : (x.set i v).take (i + 1) = x.take i ++ [v] := by
  rw [List.take_succ_eq_append_getElem (by simpa using h)]
  rw [List.take_set_of_le (Nat.le_refl i)]
  simp

/-- One round of a loop that copies. -/
theorem copy_step {α : Type} (x l : List α) (i : Nat) (h : i < l.length) (hx : i < x.length) :
    (x.set i l[i]).take (i + 1) ++ l.drop (i + 1) = x.take i ++ l.drop i := by
  rw [set_take x l[i] i hx, List.drop_eq_getElem_cons h, List.append_assoc]
  rfl

theorem drop_cons {α : Type} (l : List α) (i : Nat) (h : i < l.length) : l.drop i = l[i] :: l.drop (i + 1) := List.drop_eq_getElem_cons h


end Go.Proofs.Ytjbfcdeddnnnmaa.Pb
namespace Go.Proofs.Ytjbfcdeddnnnmaa.M
set_option linter.unusedVariables false
set_option linter.unusedSimpArgs false
open Go.RowKit Go.Proofs.YtjbfcdeddnnnmaaW.PrintWords Go.Proofs.Ytjbfcdeddnnnmaa.Pb

theorem toIntS_l0 (l : List Int) (hl : l.length ≤ 4000000) (d : Nat) : ∀ (k i : Nat) (x : List Int), i + d = l.length → d < k → x.length = l.length → laws_toIntS.l0 k l x (i : Int) = some (x.take i ++ l.drop i) := by
  induction d with
  | zero =>
    intro k i x hi hk hx
    obtain ⟨k, rfl⟩ : ∃ m, k = m + 1 := ⟨k - 1, by omega⟩
    simp only [laws_toIntS.l0]
    rw [if_neg (by omega), List.take_of_length_le (by omega), List.drop_of_length_le (by omega), List.append_nil]
  | succ d ih =>
    intro k i x hi hk hx
    obtain ⟨k, rfl⟩ : ∃ m, k = m + 1 := ⟨k - 1, by omega⟩
    simp only [laws_toIntS.l0]
    rw [if_pos (by omega), if_pos (by omega), if_pos (by omega), w64 (by omega) (by omega), rd_at l i (by omega), Int.toNat_natCast,
      show ((i : Int) + 1) = ((i + 1 : Nat) : Int) from by omega, ih k (i + 1) _ (by omega) (by omega) (by simp [hx]), copy_step x l i (by omega) (by omega)]

theorem toIntS_eq {k : Nat} {l : List Int} (hl : l.length ≤ 4000000) (hk : l.length < k) : laws_toIntS.f k l = some l := by
  unfold laws_toIntS.f
  rw [if_pos (by omega), if_pos (by omega)]
  have h := toIntS_l0 l hl l.length k 0 (List.replicate ((l.length : Int) : Int).toNat 0) (by omega) hk (by simp)
  rw [List.take_zero, List.drop_zero, List.nil_append] at h
  exact h

theorem eqIntS_l0 (l : List Int) (hl : l.length ≤ 4000000) (d : Nat) : ∀ (k i : Nat), i + d = l.length → d < k → laws_eqIntS.l0 k l l (i : Int) = some true := by
  induction d with
  | zero =>
    intro k i hi hk
    obtain ⟨k, rfl⟩ : ∃ m, k = m + 1 := ⟨k - 1, by omega⟩
    simp only [laws_eqIntS.l0]
    rw [if_neg (by omega)]
  | succ d ih =>
    intro k i hi hk
    obtain ⟨k, rfl⟩ : ∃ m, k = m + 1 := ⟨k - 1, by omega⟩
    simp only [laws_eqIntS.l0]
    rw [if_pos (by omega), if_pos (by omega), if_pos (by omega), if_pos trivial, w64 (by omega) (by omega), show ((i : Int) + 1) = ((i + 1 : Nat) : Int) from by omega]
    exact ih k (i + 1) (by omega) (by omega)

theorem eqIntS_refl {k : Nat} {l : List Int} (hl : l.length ≤ 4000000) (hk : l.length < k) : laws_eqIntS.f k l l = some true := by
  unfold laws_eqIntS.f
  rw [if_pos rfl]
  exact eqIntS_l0 l hl l.length k 0 (by omega) hk

/-- All of a list within bounds. -/
def inB (a b x : Int) : Bool := decide (a ≤ x) && decide (x ≤ b)

theorem l1In_eq (x a b : Int) : spec_l1In.f x a b = some (inB a b x) := by
  unfold spec_l1In.f inB
  by_cases h : x ≥ a
  · rw [if_pos h, decide_eq_true (show a ≤ x from h), Bool.true_and]
  · rw [if_neg h, decide_eq_false (show ¬ a ≤ x from h), Bool.false_and]

theorem in_eq (x a b : Int) : impl_in.f x a b = some (inB a b x) := by
  unfold impl_in.f inB
  by_cases h : a ≤ x
  · rw [if_pos h, decide_eq_true h, Bool.true_and]
  · rw [if_neg h, decide_eq_false h, Bool.false_and]


end Go.Proofs.Ytjbfcdeddnnnmaa.M
namespace Go.Proofs.Ytjbfcdeddnnnmaa.M
set_option linter.unusedVariables false
set_option linter.unusedSimpArgs false
open Go.RowKit Go.Proofs.YtjbfcdeddnnnmaaW.PrintWords Go.Proofs.Ytjbfcdeddnnnmaa.Pb

def cntR (x : Int) : List Int → Int
  | [] => 0
  | y :: l => (if y = x then 1 else 0) + cntR x l
theorem specLeft5_l0 (l : List Int) (x : Int) (hl : l.length ≤ 4000000) (d : Nat) : ∀ (k i : Nat) (a : Int), i + d = l.length → d < k → 0 ≤ a → a ≤ (i : Int) → spec_Left5.l0 k l x a (i : Int) = some (a + cntR x (l.drop i)) := by
  induction d with
  | zero =>
    intro k i a hi hk h0 h1
    obtain ⟨k, rfl⟩ : ∃ m, k = m + 1 := ⟨k - 1, by omega⟩
    rw [spec_Left5.l0, if_neg (by omega), List.drop_of_length_le (by omega)]
    simp [cntR]
  | succ d ih =>
    intro k i a hi hk h0 h1
    obtain ⟨k, rfl⟩ : ∃ m, k = m + 1 := ⟨k - 1, by omega⟩
    rw [spec_Left5.l0, if_pos (by omega), if_pos (by omega), rd_at l i (by omega), drop_cons l i (by omega), w64 (x := (i : Int) + 1) (by omega) (by omega), w64 (x := a + 1) (by omega) (by omega), show ((i : Int) + 1) = ((i + 1 : Nat) : Int) from by omega]
    simp only [cntR]
    split
    · rw [ih k (i + 1) _ (by omega) (by omega) (by omega) (by omega)]; congr 1; omega
    · rw [ih k (i + 1) _ (by omega) (by omega) (by omega) (by omega)]; congr 1; omega
theorem implLeft5_l0 (l : List Int) (x : Int) (hl : l.length ≤ 4000000) (d : Nat) : ∀ (k i : Nat) (a : Int), i + d = l.length → d < k → 0 ≤ a → a ≤ (i : Int) → impl_Left5.l0 k x a l (l.length : Int) (i : Int) = some (a + cntR x (l.drop i)) := by
  induction d with
  | zero =>
    intro k i a hi hk h0 h1
    obtain ⟨k, rfl⟩ : ∃ m, k = m + 1 := ⟨k - 1, by omega⟩
    rw [impl_Left5.l0, if_neg (by omega), List.drop_of_length_le (by omega)]
    simp [cntR]
  | succ d ih =>
    intro k i a hi hk h0 h1
    obtain ⟨k, rfl⟩ : ∃ m, k = m + 1 := ⟨k - 1, by omega⟩
    rw [impl_Left5.l0, if_pos (by omega), if_pos (by omega), if_pos (by omega), rd_at l i (by omega), drop_cons l i (by omega), w64 (x := (i : Int) + 1) (by omega) (by omega), w64 (x := a + 1) (by omega) (by omega), show ((i : Int) + 1) = ((i + 1 : Nat) : Int) from by omega]
    simp only [cntR]
    split
    · rw [ih k (i + 1) _ (by omega) (by omega) (by omega) (by omega)]; congr 1; omega
    · rw [ih k (i + 1) _ (by omega) (by omega) (by omega) (by omega)]; congr 1; omega
def left5R (l : List Int) (x a : Int) : Int := if inB 0 (l.length : Int) a = true then cntR x (l.drop a.toNat) else -1
theorem specLeft5_eq {k : Nat} {l : List Int} {x a : Int} (hl : l.length ≤ 4000000) (hk : l.length < k) : spec_Left5.f k l x a = some (left5R l x a) := by
  unfold spec_Left5.f left5R
  rw [l1In_eq, Option.bind_some]
  cases h : inB 0 (l.length : Int) a with
  | false => simp
  | true =>
    simp only [inB, Bool.and_eq_true, decide_eq_true_eq] at h
    obtain ⟨n, rfl⟩ := Int.eq_ofNat_of_zero_le h.1
    rw [if_pos rfl, if_pos rfl, specLeft5_l0 l x hl (l.length - n) k n 0 (by omega) (by omega) (by omega) (by omega)]
    simp
theorem implLeft5_eq {k : Nat} {l : List Int} {x a : Int} (hl : l.length ≤ 4000000) (hk : l.length < k) : impl_Left5.f k l x a = some (left5R l x a) := by
  unfold impl_Left5.f left5R
  rw [in_eq, Option.bind_some]
  cases h : inB 0 (l.length : Int) a with
  | false => simp
  | true =>
    simp only [inB, Bool.and_eq_true, decide_eq_true_eq] at h
    obtain ⟨n, rfl⟩ := Int.eq_ofNat_of_zero_le h.1
    have hd : (l.drop n).length = l.length - n := by simp
    have h2 := implLeft5_l0 (l.drop n) x (by omega) (l.drop n).length k 0 0 (by omega) (by omega) (by omega) (by omega)
    rw [if_pos rfl, if_pos rfl, if_pos h.1, if_pos h.2, Option.bind_some, Int.toNat_natCast]
    rw [List.drop_zero, Int.zero_add] at h2
    exact h2


end Go.Proofs.Ytjbfcdeddnnnmaa.M
namespace Go.Proofs.Ytjbfcdeddnnnmaa.Pure
set_option linter.unusedVariables false
set_option linter.unusedSimpArgs false
open Go.RowKit Go.Proofs.Ytjbfcdeddnnnmaa.M Go.Proofs.YtjbfcdeddnnnmaaW.PrintWords Go.Proofs.Ytjbfcdeddnnnmaa.Pb


theorem FnExactLeft5 : laws_FnExactLeft5.Pure := by
  intro m a b _ _ _
  obtain ⟨k, hk⟩ : ∃ k : Nat, 30000000 < k := ⟨30000001, by omega⟩
  refine ⟨k + 3, ?_⟩
  unfold laws_FnExactLeft5.f
  by_cases h0 : (m.length : Int) > 1048576
  · rw [if_pos h0]
  · rw [if_neg h0]
    (repeat (first | rw [if_pos rfl] | rw [if_neg Bool.false_ne_true] | rw [toIntS_eq (by omega) (by omega)] | rw [eqIntS_refl (by omega) (by omega)] | rw [specLeft5_eq (by omega) (by omega)] | rw [implLeft5_eq (by omega) (by omega)] | (simp only [Option.bind_some, bne_self_eq_false, if_true, Bool.false_eq_true, if_false])))


end Go.Proofs.Ytjbfcdeddnnnmaa.Pure
