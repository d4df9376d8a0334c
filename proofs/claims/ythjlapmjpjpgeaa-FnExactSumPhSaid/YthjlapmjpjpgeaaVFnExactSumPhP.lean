/- The pure statement of FnExactSumPh and what it needs. Conditions: those that each theorem states. -/
import Derived.Test.YthjlapmjpjpgeaaVFnExactSumPh0
import Derived.RowKit
namespace Go.Proofs.Ythjlapmjpjpgeaa.PbD
open Go.RowKit Go.Proofs.YthjlapmjpjpgeaaW.PrintWords

theorem w64 {x : Int} (h0 : -9223372036854775808 ≤ x) (h1 : x ≤ 9223372036854775807) : wrap64 x = x := by
  unfold wrap64
  omega

theorem set_take {α : Type} (x : List α) (v : α) (i : Nat) (h : i < x.length) : (x.set i v).take (i + 1) = x.take i ++ [v] := by
  rw [List.take_succ_eq_append_getElem (by simpa using h)]
  rw [List.take_set_of_le (Nat.le_refl i)]
  simp

/-- The same where each element is turned into another kind. -/
theorem copy_step_map {α β : Type} (f : α → β) (x : List β) (l : List α) (i : Nat) (h : i < l.length) (hx : i < x.length) :
    (x.set i (f l[i])).take (i + 1) ++ (l.drop (i + 1)).map f = x.take i ++ (l.drop i).map f := by
  rw [set_take x (f l[i]) i hx, List.drop_eq_getElem_cons h, List.append_assoc]
  rfl

theorem drop_cons {α : Type} (l : List α) (i : Nat) (h : i < l.length) : l.drop i = l[i] :: l.drop (i + 1) := List.drop_eq_getElem_cons h


end Go.Proofs.Ythjlapmjpjpgeaa.PbD
namespace Go.Proofs.Ythjlapmjpjpgeaa.D
set_option linter.unusedSimpArgs false
set_option linter.unusedVariables false
open Go.RowKit Go.Proofs.YthjlapmjpjpgeaaW.PrintWords

theorem cmp_self (a : Int) : compare a a = Ordering.eq := by
  simp [compare, compareOfLessAndEq]
theorem cmp_selfN (a : Nat) : compare a a = Ordering.eq := by
  simp [compare, compareOfLessAndEq]
theorem ord_self (k : FloatKind) (x : Nat) : k.format.order x x = none ∨ k.format.order x x = some .eq := by
  unfold Ieee.Format.order
  cases k.format.read x with
  | number s m e => right; simp [Ieee.Datum.order, cmp_self]
  | infinity s => right; simp [Ieee.Datum.order, cmp_selfN]
  | nan s t => left; rfl
theorem one_read : ((FloatKind.f64.format.read 4607182418800017408).isNaN = false ∧ (FloatKind.f64.format.read 4607182418800017408).isInfinity = false) ∧ (FloatKind.f64.format.read 4607182418800017408).isZero = false := by decide +kernel
theorem inv_ok {a : Nat} (h : FloatKind.f64.format.order a a ≠ none) : (floatBits .quo .f64 4607182418800017408 a).isSome = true := by
  unfold floatBits Ieee.Format.div
  have h1 := one_read
  simp only [Option.isSome_map]
  unfold Ieee.Format.order at h
  generalize FloatKind.f64.format.read 4607182418800017408 = o at h1 ⊢
  generalize FloatKind.f64.format.read a = d at h ⊢
  cases o with
  | nan s t => exact absurd h1.1.1 (by simp [Ieee.Datum.isNaN])
  | infinity s => exact absurd h1.1.2 (by simp [Ieee.Datum.isInfinity])
  | number s m e =>
    have hm : m ≠ 0 := by
      rintro rfl
      exact absurd h1.2 (by simp [Ieee.Datum.isZero])
    cases d with
    | nan s t => exact absurd rfl h
    | infinity s => rfl
    | number t n j =>
      unfold Ieee.Datum.quotient
      simp only
      split
      · first | rfl | (rw [if_neg hm]; rfl)
      · rfl
/-- Two floats that pass for the same: both are no numbers, or their bits are the same and it is a number. -/
def Same (a b : Nat) : Prop := (FloatKind.f64.format.order a a = none ∧ FloatKind.f64.format.order b b = none) ∨ a = b
theorem Same.refl (a : Nat) : Same a a := Or.inr rfl
theorem sameFloat_eq {k a b : Nat} (hk : 0 < k) (h : Same a b) : laws_sameFloat.f k a b = some true := by
  obtain ⟨k, rfl⟩ : ∃ m, k = m + 1 := ⟨k - 1, by omega⟩
  unfold laws_sameFloat.f
  have nn : ∀ x y : Nat, FloatKind.f64.format.order x x = none → FloatKind.f64.format.order y y = none → (if (FloatKind.f64.format.order x x != some .eq) = true then (laws_sameFloat.j0 (k + 1) x y true) else (laws_sameFloat.j0 (k + 1) x y (FloatKind.f64.format.order y y != some .eq))) = some true := by
    intro x y h1 h2
    rw [h1, h2, if_pos (by rfl)]
    simp [laws_sameFloat.j0, h1, h2]
  rcases h with ⟨h1, h2⟩ | rfl
  · exact nn a b h1 h2
  · rcases ord_self .f64 a with h1 | h1
    · exact nn a a h1 h1
    · have hi := inv_ok (a := a) (by rw [h1]; simp)
      rw [h1, if_neg (by decide)]
      simp only [laws_sameFloat.j0, hi, if_true, beq_self_eq_true, h1]
      rw [if_neg (by decide)]
      split <;> rfl
theorem eqPh_eq {k a0 a1 b0 b1 : Nat} (hk : 0 < k) (h0 : Same a0 b0) (h1 : Same a1 b1) : laws_eqPhasor.f k a0 a1 b0 b1 = some true := by
  unfold laws_eqPhasor.f
  rw [sameFloat_eq hk h0, Option.bind_some, if_pos rfl, sameFloat_eq hk h1, Option.bind_some, if_pos rfl]


end Go.Proofs.Ythjlapmjpjpgeaa.D
namespace Go.Proofs.Ythjlapmjpjpgeaa.D
set_option linter.unusedSimpArgs false
set_option linter.unusedVariables false
open Go.RowKit Go.Proofs.YthjlapmjpjpgeaaW.PrintWords Go.Proofs.Ythjlapmjpjpgeaa.PbD

def cvPh (x : S34) : S28 := ⟨x.f0, x.f1⟩
theorem rdT34_at (l : List S34) (i : Nat) (h : i < l.length) : rd_T34 l (i : Int) = l[i] := by
  simp [rd_T34, List.getD_eq_getElem?_getD, List.getElem?_eq_getElem h]
theorem rdT28_at (l : List S28) (i : Nat) (h : i < l.length) : rd_T28 l (i : Int) = l[i] := by
  simp [rd_T28, List.getD_eq_getElem?_getD, List.getElem?_eq_getElem h]
theorem szPhS_eq {l : List S34} {a : Int} (hl : l.length ≤ maxLen) (ha : 0 ≤ a ∧ a ≤ 1048576) : laws_szPhasorS.f l a = some (if a - (l.length : Int) < 0 then -1 else a - (l.length : Int)) := by
  unfold laws_szPhasorS.f
  have hm : l.length ≤ 9223372036854775807 := hl
  rw [w64 (by omega) (by omega)]
  by_cases h : a - (l.length : Int) < 0
  · rw [if_pos h, if_pos h]
  · rw [if_neg h, if_neg h]
theorem toPhS_l0 (l : List S34) (hl : l.length ≤ 4000000) (d : Nat) : ∀ (k i : Nat) (x : List S28), i + d = l.length → d < k → x.length = l.length → laws_toPhasorS.l0 k l x (i : Int) = some (x.take i ++ (l.drop i).map cvPh) := by
  induction d with
  | zero =>
    intro k i x hi hk hx
    obtain ⟨k, rfl⟩ : ∃ m, k = m + 1 := ⟨k - 1, by omega⟩
    simp only [laws_toPhasorS.l0]
    rw [if_neg (by omega), List.take_of_length_le (by omega), List.drop_of_length_le (by omega), List.map_nil, List.append_nil]
  | succ d ih =>
    intro k i x hi hk hx
    obtain ⟨k, rfl⟩ : ∃ m, k = m + 1 := ⟨k - 1, by omega⟩
    simp only [laws_toPhasorS.l0]
    rw [if_pos (by omega), if_pos (by omega)]
    simp only [laws_toPhasor.f, Option.bind_some]
    rw [if_pos (by omega), w64 (by omega) (by omega), rdT34_at l i (by omega), Int.toNat_natCast,
      show ((i : Int) + 1) = ((i + 1 : Nat) : Int) from by omega, ih k (i + 1) _ (by omega) (by omega) (by simp [hx])]
    exact congrArg some (copy_step_map cvPh x l i (by omega) (by omega))
theorem toPhS_eq {k : Nat} {l : List S34} (hl : l.length ≤ 4000000) (hk : l.length < k) : laws_toPhasorS.f k l = some (l.map cvPh) := by
  unfold laws_toPhasorS.f
  rw [if_pos (by omega), if_pos (by omega)]
  have h := toPhS_l0 l hl l.length k 0 (List.replicate ((l.length : Int) : Int).toNat z28) (by omega) hk (by simp)
  rw [List.take_zero, List.drop_zero, List.nil_append] at h
  exact h
theorem eqPhS_l0 (l : List S28) (hl : l.length ≤ 4000000) (d : Nat) : ∀ (k i : Nat), i + d = l.length → d + 1 < k → laws_eqPhasorS.l0 k l l (i : Int) = some true := by
  induction d with
  | zero =>
    intro k i hi hk
    obtain ⟨k, rfl⟩ : ∃ m, k = m + 1 := ⟨k - 1, by omega⟩
    simp only [laws_eqPhasorS.l0]
    rw [if_neg (by omega)]
  | succ d ih =>
    intro k i hi hk
    obtain ⟨k, rfl⟩ : ∃ m, k = m + 1 := ⟨k - 1, by omega⟩
    simp only [laws_eqPhasorS.l0]
    rw [if_pos (by omega), if_pos (by omega), if_pos (by omega), eqPh_eq (by omega) (Same.refl _) (Same.refl _), Option.bind_some, if_pos rfl, w64 (by omega) (by omega), show ((i : Int) + 1) = ((i + 1 : Nat) : Int) from by omega]
    exact ih k (i + 1) (by omega) (by omega)
theorem eqPhS_refl {k : Nat} {l : List S28} (hl : l.length ≤ 4000000) (hk : l.length + 1 < k) : laws_eqPhasorS.f k l l = some true := by
  unfold laws_eqPhasorS.f
  rw [if_pos rfl]
  exact eqPhS_l0 l hl l.length k 0 (by omega) hk


end Go.Proofs.Ythjlapmjpjpgeaa.D
namespace Go.Proofs.Ythjlapmjpjpgeaa.D
set_option linter.unusedSimpArgs false
set_option linter.unusedVariables false
open Go.RowKit Go.Proofs.YthjlapmjpjpgeaaW.PrintWords

theorem nan_left {op : BinOp} {x y : Nat} (h : FloatKind.f64.format.order x x = none) : floatBits op .f64 x y = none := by
  unfold Ieee.Format.order at h
  have hn : ∃ s t, FloatKind.f64.format.read x = .nan s t := by
    cases hx : FloatKind.f64.format.read x with
    | number s m e => rw [hx] at h; simp [Ieee.Datum.order] at h
    | infinity s => rw [hx] at h; simp [Ieee.Datum.order] at h
    | nan s t => exact ⟨s, t, rfl⟩
  obtain ⟨s, t, hx⟩ := hn
  unfold floatBits
  cases op <;> simp only [Ieee.Format.add, Ieee.Format.sub, Ieee.Format.mul, Ieee.Format.div, hx] <;> rfl
theorem nan_right {op : BinOp} {x y : Nat} (h : FloatKind.f64.format.order y y = none) : floatBits op .f64 x y = none := by
  unfold Ieee.Format.order at h
  have hn : ∃ s t, FloatKind.f64.format.read y = .nan s t := by
    cases hx : FloatKind.f64.format.read y with
    | number s m e => rw [hx] at h; simp [Ieee.Datum.order] at h
    | infinity s => rw [hx] at h; simp [Ieee.Datum.order] at h
    | nan s t => exact ⟨s, t, rfl⟩
  obtain ⟨s, t, hx⟩ := hn
  unfold floatBits
  cases op <;> simp only [Ieee.Format.add, Ieee.Format.sub, Ieee.Format.mul, Ieee.Format.div, hx] <;> (cases FloatKind.f64.format.read x <;> rfl)
theorem frk_same {op : BinOp} {x y r x' y' r' : Nat} (h : FRk .f64 op x y r) (h' : FRk .f64 op x' y' r') (hx : Same x x') (hy : Same y y') : Same r r' := by
  have nn : floatBits op .f64 x y = none → floatBits op .f64 x' y' = none → Same r r' := by
    intro a b
    rcases h with h | ⟨_, h⟩
    · rw [a] at h; cases h
    · rcases h' with h' | ⟨_, h'⟩
      · rw [b] at h'; cases h'
      · exact Or.inl ⟨h, h'⟩
  rcases hx with ⟨h1, h2⟩ | rfl
  · exact nn (nan_left h1) (nan_left h2)
  · rcases hy with ⟨h1, h2⟩ | rfl
    · exact nn (nan_right h1) (nan_right h2)
    · rcases h with h | ⟨h0, h⟩
      · rcases h' with h' | ⟨h0', h'⟩
        · exact Or.inr (Option.some.inj (h.symm.trans h'))
        · rw [h0'] at h; cases h
      · exact nn h0 h0

end Go.Proofs.Ythjlapmjpjpgeaa.D
namespace Go.Proofs.Ythjlapmjpjpgeaa.D
set_option linter.unusedSimpArgs false
set_option linter.unusedVariables false
open Go.RowKit Go.Proofs.YthjlapmjpjpgeaaW.PrintWords Go.Proofs.Ythjlapmjpjpgeaa.PbD

def SumR : List S28 → Nat → Nat → Nat → Nat → Prop
  | [], a, b, p, q => p = a ∧ q = b
  | x :: l, a, b, p, q => ∃ a' b', FRk .f64 .add a x.f0 a' ∧ FRk .f64 .add b x.f1 b' ∧ SumR l a' b' p q
theorem SumR.same : ∀ (l : List S28) (a b p q a' b' p' q' : Nat), SumR l a b p q → SumR l a' b' p' q' → Same a a' → Same b b' → Same p p' ∧ Same q q'
  | [], a, b, p, q, a', b', p', q', h, h', ha, hb => by
    obtain ⟨rfl, rfl⟩ := h
    obtain ⟨rfl, rfl⟩ := h'
    exact ⟨ha, hb⟩
  | x :: l, a, b, p, q, a', b', p', q', h, h', ha, hb => by
    obtain ⟨u, v, h1, h2, h3⟩ := h
    obtain ⟨u', v', g1, g2, g3⟩ := h'
    exact SumR.same l u v p q u' v' p' q' h3 g3 (frk_same h1 g1 ha (Same.refl _)) (frk_same h2 g2 hb (Same.refl _))
theorem specSum_l0 (l : List S28) (hl : l.length ≤ 4000000) (Q : Nat × Nat → Prop) (d : Nat) : ∀ (k i a b : Nat), i + d = l.length → d < k → (∀ p q, SumR (l.drop i) a b p q → Q (p, q)) → spec_SumPh.l0 k l (i : Int) a b Q := by
  induction d with
  | zero =>
    intro k i a b hi hk hQ
    obtain ⟨k, rfl⟩ : ∃ m, k = m + 1 := ⟨k - 1, by omega⟩
    simp only [spec_SumPh.l0]
    rw [if_neg (by omega)]
    exact hQ a b (by rw [List.drop_of_length_le (by omega)]; exact ⟨rfl, rfl⟩)
  | succ d ih =>
    intro k i a b hi hk hQ
    obtain ⟨k, rfl⟩ : ∃ m, k = m + 1 := ⟨k - 1, by omega⟩
    simp only [spec_SumPh.l0]
    rw [if_pos (by omega), if_pos (by omega), w64 (by omega) (by omega), show ((i : Int) + 1) = ((i + 1 : Nat) : Int) from by omega, rdT28_at l i (by omega)]
    intro u hu v hv
    exact ih k (i + 1) u v (by omega) (by omega) (fun p q h => hQ p q (by rw [drop_cons l i (by omega)]; exact ⟨u, v, hu, hv, h⟩))
theorem implSum_l0 (l : List S28) (hl : l.length ≤ 4000000) (Q : Nat × Nat → Prop) (d : Nat) : ∀ (k i a b : Nat), i + d = l.length → d < k → (∀ p q, SumR (l.drop i) a b p q → Q (p, q)) → impl_SumPh.l0 k l (l.length : Int) (i : Int) a b Q := by
  induction d with
  | zero =>
    intro k i a b hi hk hQ
    obtain ⟨k, rfl⟩ : ∃ m, k = m + 1 := ⟨k - 1, by omega⟩
    simp only [impl_SumPh.l0]
    rw [if_neg (by omega)]
    exact hQ a b (by rw [List.drop_of_length_le (by omega)]; exact ⟨rfl, rfl⟩)
  | succ d ih =>
    intro k i a b hi hk hQ
    obtain ⟨k, rfl⟩ : ∃ m, k = m + 1 := ⟨k - 1, by omega⟩
    simp only [impl_SumPh.l0]
    rw [if_pos (by omega), if_pos (by omega), if_pos (by omega), w64 (by omega) (by omega), show ((i : Int) + 1) = ((i + 1 : Nat) : Int) from by omega, rdT28_at l i (by omega)]
    intro u hu v hv
    exact ih k (i + 1) u v (by omega) (by omega) (fun p q h => hQ p q (by rw [drop_cons l i (by omega)]; exact ⟨u, v, hu, hv, h⟩))
theorem specSum_of {k : Nat} {l : List S28} {Q : Nat × Nat → Prop} (hl : l.length ≤ 4000000) (hk : l.length < k) (h : ∀ p q, SumR l 0 0 p q → Q (p, q)) : spec_SumPh.f k l Q :=
  specSum_l0 l hl Q l.length k 0 0 0 (by omega) hk (by rw [List.drop_zero]; exact h)
theorem implSum_of {k : Nat} {l : List S28} {Q : Nat × Nat → Prop} (hl : l.length ≤ 4000000) (hk : l.length < k) (h : ∀ p q, SumR l 0 0 p q → Q (p, q)) : impl_SumPh.f k l Q :=
  implSum_l0 l hl Q l.length k 0 0 0 (by omega) hk (by rw [List.drop_zero]; exact h)


end Go.Proofs.Ythjlapmjpjpgeaa.D
namespace Go.Proofs.Ythjlapmjpjpgeaa.Pure
set_option linter.unusedVariables false
set_option linter.unusedSimpArgs false
open Go.RowKit Go.Proofs.Ythjlapmjpjpgeaa.D Go.Proofs.YthjlapmjpjpgeaaW.PrintWords Go.Proofs.Ythjlapmjpjpgeaa.PbD

theorem FnExactSumPh : laws_FnExactSumPh.Pure := by
  intro a ha
  obtain ⟨k, hk⟩ : ∃ k : Nat, 30000000 < k := ⟨30000001, by omega⟩
  refine ⟨k + 3, ?_⟩
  unfold laws_FnExactSumPh.f
  refine ⟨_, szPhS_eq ha.1 (by omega), ?_⟩
  by_cases h1 : a.length ≤ 1048576
  · rw [if_neg (by rw [if_neg (by omega)]; omega)]
    have hm : (a.map cvPh).length = a.length := List.length_map _
    refine ⟨_, toPhS_eq (by omega) (by omega), specSum_of (by omega) (by omega) fun p q hp => ⟨_, toPhS_eq (by omega) (by omega), implSum_of (by omega) (by omega) fun p' q' hp' => ?_⟩⟩
    have hs := SumR.same _ _ _ _ _ _ _ _ _ hp' hp (Same.refl _) (Same.refl _)
    refine ⟨true, eqPh_eq (by omega) hs.1 hs.2, ?_⟩
    rw [if_pos rfl]
    refine ⟨_, toPhS_eq (by omega) (by omega), true, eqPhS_refl (by omega) (by omega), ?_⟩
    rw [if_pos rfl]
    trivial
  · rw [if_pos (by rw [if_pos (by omega)]; omega)]
    trivial


end Go.Proofs.Ythjlapmjpjpgeaa.Pure
