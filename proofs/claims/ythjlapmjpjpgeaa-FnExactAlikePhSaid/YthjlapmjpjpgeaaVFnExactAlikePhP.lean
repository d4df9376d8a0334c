/- The pure statement of FnExactAlikePh and what it needs. Conditions: those that each theorem states. -/
import Derived.Test.YthjlapmjpjpgeaaVFnExactAlikePh0
import Derived.RowKit
import Derived.Test.YthjlapmjpjpgeaaFl
import Derived.Test.YthjlapmjpjpgeaaWWords
namespace Go.Proofs.Ythjlapmjpjpgeaa.Pb
open Go.RowKit Go.Proofs.YthjlapmjpjpgeaaW.PrintWords

theorem w64 {x : Int} (h0 : -9223372036854775808 ≤ x) (h1 : x ≤ 9223372036854775807) : wrap64 x = x := by
  unfold wrap64
  omega

theorem set_take {α : Type} (x : List α) (v : α) (i : Nat) (h : i < x.length) : (x.set i v).take (i + 1) = x.take i ++ [v] := by
  rw [List.take_succ_eq_append_getElem (by simpa using h)]
  rw [List.take_set_of_le (Nat.le_refl i)]
  simp

/-- The same where each element is turned into another kind. -/
theorem copy_step_map {α β : Type} (f : α → β) (x : List β) (l : List α) (i : Nat) (h : i < l.length) (hx : i < x.length) :
    (x.set i (f l[i])).take (i + 1) ++ (l.drop (i + 1)).map f = x.take i ++ (l.drop i).map f := by
  rw [set_take x (f l[i]) i hx, List.drop_eq_getElem_cons h, List.append_assoc]
  rfl

theorem drop_cons {α : Type} (l : List α) (i : Nat) (h : i < l.length) : l.drop i = l[i] :: l.drop (i + 1) := List.drop_eq_getElem_cons h


end Go.Proofs.Ythjlapmjpjpgeaa.Pb
namespace Go.Proofs.Ythjlapmjpjpgeaa.M
set_option linter.unusedSimpArgs false
set_option linter.unusedVariables false
open Go.RowKit Go.Proofs.YthjlapmjpjpgeaaW.PrintWords Go.Proofs.Ythjlapmjpjpgeaa.Pb

theorem cmp_self (a : Int) : compare a a = Ordering.eq := by
  simp [compare, compareOfLessAndEq]
theorem cmp_selfN (a : Nat) : compare a a = Ordering.eq := by
  simp [compare, compareOfLessAndEq]
theorem ord_self (k : FloatKind) (x : Nat) : k.format.order x x = none ∨ k.format.order x x = some .eq := by
  unfold Ieee.Format.order
  cases k.format.read x with
  | number s m e => right; simp [Ieee.Datum.order, cmp_self]
  | infinity s => right; simp [Ieee.Datum.order, cmp_selfN]
  | nan s t => left; rfl
theorem one_read : ((FloatKind.f64.format.read 4607182418800017408).isNaN = false ∧ (FloatKind.f64.format.read 4607182418800017408).isInfinity = false) ∧ (FloatKind.f64.format.read 4607182418800017408).isZero = false := by decide +kernel
theorem inv_ok {a : Nat} (h : FloatKind.f64.format.order a a ≠ none) : (floatBits .quo .f64 4607182418800017408 a).isSome = true := by
  unfold floatBits Ieee.Format.div
  have h1 := one_read
  simp only [Option.isSome_map]
  unfold Ieee.Format.order at h
  generalize FloatKind.f64.format.read 4607182418800017408 = o at h1 ⊢
  generalize FloatKind.f64.format.read a = d at h ⊢
  cases o with
  | nan s t => exact absurd h1.1.1 (by simp [Ieee.Datum.isNaN])
  | infinity s => exact absurd h1.1.2 (by simp [Ieee.Datum.isInfinity])
  | number s m e =>
    have hm : m ≠ 0 := by
      rintro rfl
      exact absurd h1.2 (by simp [Ieee.Datum.isZero])
    cases d with
    | nan s t => exact absurd rfl h
    | infinity s => rfl
    | number t n j =>
      unfold Ieee.Datum.quotient
      simp only
      split
      · first | rfl | (rw [if_neg hm]; rfl)
      · rfl
/-- Two floats that pass for the same: both are no numbers, or their bits are the same and it is a number. -/
def Same (a b : Nat) : Prop := (FloatKind.f64.format.order a a = none ∧ FloatKind.f64.format.order b b = none) ∨ a = b
theorem Same.refl (a : Nat) : Same a a := Or.inr rfl
theorem sameFloat_eq {k a b : Nat} (hk : 0 < k) (h : Same a b) : laws_sameFloat.f k a b = some true := by
  obtain ⟨k, rfl⟩ : ∃ m, k = m + 1 := ⟨k - 1, by omega⟩
  unfold laws_sameFloat.f
  have nn : ∀ x y : Nat, FloatKind.f64.format.order x x = none → FloatKind.f64.format.order y y = none → (if (FloatKind.f64.format.order x x != some .eq) = true then (laws_sameFloat.j0 (k + 1) x y true) else (laws_sameFloat.j0 (k + 1) x y (FloatKind.f64.format.order y y != some .eq))) = some true := by
    intro x y h1 h2
    rw [h1, h2, if_pos (by rfl)]
    simp [laws_sameFloat.j0, h1, h2]
  rcases h with ⟨h1, h2⟩ | rfl
  · exact nn a b h1 h2
  · rcases ord_self .f64 a with h1 | h1
    · exact nn a a h1 h1
    · have hi := inv_ok (a := a) (by rw [h1]; simp)
      rw [h1, if_neg (by decide)]
      simp only [laws_sameFloat.j0, hi, if_true, beq_self_eq_true, h1]
      rw [if_neg (by decide)]
      split <;> rfl


end Go.Proofs.Ythjlapmjpjpgeaa.M
namespace Go.Proofs.Ythjlapmjpjpgeaa.M
set_option linter.unusedSimpArgs false
set_option linter.unusedVariables false
open Go.RowKit Go.Proofs.YthjlapmjpjpgeaaW.PrintWords Go.Proofs.Ythjlapmjpjpgeaa.Pb

def cvPh (x : S34) : S28 := ⟨x.f0, x.f1⟩
theorem rdT34_at (l : List S34) (i : Nat) (h : i < l.length) : rd_T34 l (i : Int) = l[i] := by
  simp [rd_T34, List.getD_eq_getElem?_getD, List.getElem?_eq_getElem h]
theorem rdT28_at (l : List S28) (i : Nat) (h : i < l.length) : rd_T28 l (i : Int) = l[i] := by
  simp [rd_T28, List.getD_eq_getElem?_getD, List.getElem?_eq_getElem h]
theorem szPhS_eq {l : List S34} {a : Int} (hl : l.length ≤ maxLen) (ha : 0 ≤ a ∧ a ≤ 1048576) : laws_szPhasorS.f l a = some (if a - (l.length : Int) < 0 then -1 else a - (l.length : Int)) := by
  unfold laws_szPhasorS.f
  have hm : l.length ≤ 9223372036854775807 := hl
  rw [w64 (by omega) (by omega)]
  by_cases h : a - (l.length : Int) < 0
  · rw [if_pos h, if_pos h]
  · rw [if_neg h, if_neg h]
theorem toPhS_l0 (l : List S34) (hl : l.length ≤ 4000000) (d : Nat) : ∀ (k i : Nat) (x : List S28), i + d = l.length → d < k → x.length = l.length → laws_toPhasorS.l0 k l x (i : Int) = some (x.take i ++ (l.drop i).map cvPh) := by
  induction d with
  | zero =>
    intro k i x hi hk hx
    obtain ⟨k, rfl⟩ : ∃ m, k = m + 1 := ⟨k - 1, by omega⟩
    simp only [laws_toPhasorS.l0]
    rw [if_neg (by omega), List.take_of_length_le (by omega), List.drop_of_length_le (by omega), List.map_nil, List.append_nil]
  | succ d ih =>
    intro k i x hi hk hx
    obtain ⟨k, rfl⟩ : ∃ m, k = m + 1 := ⟨k - 1, by omega⟩
    simp only [laws_toPhasorS.l0]
    rw [if_pos (by omega), if_pos (by omega)]
    simp only [laws_toPhasor.f, Option.bind_some]
    rw [if_pos (by omega), w64 (by omega) (by omega), rdT34_at l i (by omega), Int.toNat_natCast,
      show ((i : Int) + 1) = ((i + 1 : Nat) : Int) from by omega, ih k (i + 1) _ (by omega) (by omega) (by simp [hx])]
    exact congrArg some (copy_step_map cvPh x l i (by omega) (by omega))
theorem toPhS_eq {k : Nat} {l : List S34} (hl : l.length ≤ 4000000) (hk : l.length < k) : laws_toPhasorS.f k l = some (l.map cvPh) := by
  unfold laws_toPhasorS.f
  rw [if_pos (by omega), if_pos (by omega)]
  have h := toPhS_l0 l hl l.length k 0 (List.replicate ((l.length : Int) : Int).toNat z28) (by omega) hk (by simp)
  rw [List.take_zero, List.drop_zero, List.nil_append] at h
  exact h
theorem eqPh_eq {k a0 a1 b0 b1 : Nat} (hk : 0 < k) (h0 : Same a0 b0) (h1 : Same a1 b1) : laws_eqPhasor.f k a0 a1 b0 b1 = some true := by
  unfold laws_eqPhasor.f
  rw [sameFloat_eq hk h0, Option.bind_some, if_pos rfl, sameFloat_eq hk h1, Option.bind_some, if_pos rfl]
theorem eqPhS_l0 (l : List S28) (hl : l.length ≤ 4000000) (d : Nat) : ∀ (k i : Nat), i + d = l.length → d + 1 < k → laws_eqPhasorS.l0 k l l (i : Int) = some true := by
  induction d with
  | zero =>
    intro k i hi hk
    obtain ⟨k, rfl⟩ : ∃ m, k = m + 1 := ⟨k - 1, by omega⟩
    simp only [laws_eqPhasorS.l0]
    rw [if_neg (by omega)]
  | succ d ih =>
    intro k i hi hk
    obtain ⟨k, rfl⟩ : ∃ m, k = m + 1 := ⟨k - 1, by omega⟩
    simp only [laws_eqPhasorS.l0]
    rw [if_pos (by omega), if_pos (by omega), if_pos (by omega), eqPh_eq (by omega) (Same.refl _) (Same.refl _), Option.bind_some, if_pos rfl, w64 (by omega) (by omega), show ((i : Int) + 1) = ((i + 1 : Nat) : Int) from by omega]
    exact ih k (i + 1) (by omega) (by omega)
theorem eqPhS_refl {k : Nat} {l : List S28} (hl : l.length ≤ 4000000) (hk : l.length + 1 < k) : laws_eqPhasorS.f k l l = some true := by
  unfold laws_eqPhasorS.f
  rw [if_pos rfl]
  exact eqPhS_l0 l hl l.length k 0 (by omega) hk


end Go.Proofs.Ythjlapmjpjpgeaa.M
namespace Go.Proofs.Ythjlapmjpjpgeaa.M
set_option linter.unusedSimpArgs false
set_option linter.unusedVariables false
open Go.RowKit Go.Proofs.YthjlapmjpjpgeaaW.PrintWords Go.Proofs.Ythjlapmjpjpgeaa.Pb

def okP (p q : S28) : Bool := (FloatKind.f64.format.order p.f0 q.f0 == some .eq) && (FloatKind.f64.format.order p.f1 q.f1 == some .eq)
def alB : List S28 → List S28 → Bool
  | p :: a, q :: b => okP p q && alB a b
  | _, _ => true
theorem sp_ (u v : Option Ordering) (r : Bool) : (if (u != some .eq) = true then some false else (if (v != some .eq) = true then some false else some r)) = some ((u == some .eq) && (v == some .eq) && r) := by
  rcases u with _ | (_ | _ | _) <;> rcases v with _ | (_ | _ | _) <;> rfl
theorem sq_ (u v : Option Ordering) : (if (u == some .eq) = true then some (v == some .eq) else some false) = some ((u == some .eq) && (v == some .eq)) := by
  rcases u with _ | (_ | _ | _) <;> rcases v with _ | (_ | _ | _) <;> rfl
theorem specAl_l0 (x y : List S28) (hl : x.length ≤ 4000000) (he : y.length = x.length) (d : Nat) : ∀ (k i : Nat), i + d = x.length → d < k → spec_AlikePh.l0 k x y (i : Int) = some (alB (x.drop i) (y.drop i)) := by
  induction d with
  | zero =>
    intro k i hi hk
    obtain ⟨k, rfl⟩ : ∃ m, k = m + 1 := ⟨k - 1, by omega⟩
    simp only [spec_AlikePh.l0]
    rw [if_neg (by omega), List.drop_of_length_le (by omega)]
    rfl
  | succ d ih =>
    intro k i hi hk
    obtain ⟨k, rfl⟩ : ∃ m, k = m + 1 := ⟨k - 1, by omega⟩
    simp only [spec_AlikePh.l0]
    rw [if_pos (by omega), if_pos (by omega), if_pos (by omega), w64 (by omega) (by omega), show ((i : Int) + 1) = ((i + 1 : Nat) : Int) from by omega, ih k (i + 1) (by omega) (by omega),
      rdT28_at x i (by omega), rdT28_at y i (by omega), drop_cons x i (by omega), drop_cons y i (by omega)]
    simp only [alB, okP]
    exact sp_ _ _ _
theorem specAl_eq {k : Nat} {x y : List S28} (hl : x.length ≤ 4000000) (hk : x.length < k) : spec_AlikePh.f k x y = some (x.length == y.length && alB x y) := by
  unfold spec_AlikePh.f
  by_cases h : x.length = y.length
  · rw [if_pos (by omega)]
    have h0 := specAl_l0 x y hl h.symm x.length k 0 (by omega) hk
    rw [List.drop_zero, List.drop_zero] at h0
    rw [show ((0 : Int)) = ((0 : Nat) : Int) from rfl, h0, beq_iff_eq.2 h, Bool.true_and]
  · rw [if_neg (by omega), beq_eq_false_iff_ne.2 h, Bool.false_and]
theorem cl_eq (p q : S28) : impl_AlikePh_1.f p.f0 p.f1 q.f0 q.f1 = some (okP p q) := by
  unfold impl_AlikePh_1.f okP
  exact sq_ _ _
theorem implAl_l0 (x y : List S28) (hl : x.length ≤ 4000000) (he : y.length = x.length) (d : Nat) : ∀ (k i : Nat), i + d = x.length → d < k → impl_Phasor_F52.l0 k y x (x.length : Int) (i : Int) = some (alB (x.drop i) (y.drop i)) := by
  induction d with
  | zero =>
    intro k i hi hk
    obtain ⟨k, rfl⟩ : ∃ m, k = m + 1 := ⟨k - 1, by omega⟩
    simp only [impl_Phasor_F52.l0]
    rw [if_neg (by omega), List.drop_of_length_le (by omega)]
    rfl
  | succ d ih =>
    intro k i hi hk
    obtain ⟨k, rfl⟩ : ∃ m, k = m + 1 := ⟨k - 1, by omega⟩
    simp only [impl_Phasor_F52.l0]
    rw [if_pos (by omega), if_pos (by omega), if_pos (by omega), if_pos (by omega), w64 (by omega) (by omega), show ((i : Int) + 1) = ((i + 1 : Nat) : Int) from by omega, ih k (i + 1) (by omega) (by omega),
      rdT28_at x i (by omega), rdT28_at y i (by omega), drop_cons x i (by omega), drop_cons y i (by omega), cl_eq, Option.bind_some]
    simp only [alB]
    cases okP x[i] y[i] with
    | false => rfl
    | true => rfl
theorem implAl_eq {k : Nat} {x y : List S28} (hl : x.length ≤ 4000000) (hk : x.length < k) : impl_AlikePh.f k x y = some (x.length == y.length && alB x y) := by
  unfold impl_AlikePh.f impl_Phasor_F52.f
  by_cases h : x.length = y.length
  · rw [if_pos (by omega)]
    have h0 := implAl_l0 x y hl h.symm x.length k 0 (by omega) hk
    rw [List.drop_zero, List.drop_zero] at h0
    rw [show ((0 : Int)) = ((0 : Nat) : Int) from rfl, h0, Option.bind_some, beq_iff_eq.2 h, Bool.true_and]
  · rw [if_neg (by omega), Option.bind_some, beq_eq_false_iff_ne.2 h, Bool.false_and]


end Go.Proofs.Ythjlapmjpjpgeaa.M
namespace Go.Proofs.Ythjlapmjpjpgeaa.Pure
set_option linter.unusedVariables false
set_option linter.unusedSimpArgs false
open Go.RowKit Go.Proofs.Ythjlapmjpjpgeaa.M Go.Proofs.YthjlapmjpjpgeaaW.PrintWords Go.Proofs.Ythjlapmjpjpgeaa.Pb


theorem FnExactAlikePh : laws_FnExactAlikePh.Pure := by
  intro a b ha hb
  obtain ⟨k, hk⟩ : ∃ k : Nat, 30000000 < k := ⟨30000001, by omega⟩
  refine ⟨k + 3, ?_⟩
  unfold laws_FnExactAlikePh.f
  rw [szPhS_eq ha.1 (by omega), Option.bind_some]
  by_cases h1 : a.length ≤ 1048576
  · rw [if_neg (show ¬ ((1048576 : Int) - (a.length : Int) < 0) by omega), if_neg (by omega), szPhS_eq hb.1 (by omega), Option.bind_some]
    by_cases h2 : a.length + b.length ≤ 1048576
    · rw [if_neg (show ¬ ((1048576 : Int) - (a.length : Int) - (b.length : Int) < 0) by omega), if_neg (by omega)]
      (repeat (first | rw [if_pos rfl] | rw [if_neg Bool.false_ne_true] | rw [toPhS_eq (by (first | omega | (simp only [List.length_map]; omega))) (by (first | omega | (simp only [List.length_map]; omega)))] | rw [eqPhS_refl (by (first | omega | (simp only [List.length_map]; omega))) (by (first | omega | (simp only [List.length_map]; omega)))] | rw [specAl_eq (by (first | omega | (simp only [List.length_map]; omega))) (by (first | omega | (simp only [List.length_map]; omega)))] | rw [implAl_eq (by (first | omega | (simp only [List.length_map]; omega))) (by (first | omega | (simp only [List.length_map]; omega)))] | (simp only [Option.bind_some, bne_self_eq_false, if_true, Bool.false_eq_true, if_false])))
    · rw [if_pos (show ((1048576 : Int) - (a.length : Int) - (b.length : Int) < 0) by omega), if_pos (by omega)]
  · rw [if_pos (show ((1048576 : Int) - (a.length : Int) < 0) by omega), if_pos (by omega)]


end Go.Proofs.Ythjlapmjpjpgeaa.Pure
