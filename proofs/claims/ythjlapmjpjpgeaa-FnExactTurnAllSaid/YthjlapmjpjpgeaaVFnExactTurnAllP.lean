/- The pure statement of FnExactTurnAll and what it needs. Conditions: those that each theorem states. -/
import Derived.Test.YthjlapmjpjpgeaaVFnExactTurnAll3
import Derived.RowKit
namespace Go.Proofs.Ythjlapmjpjpgeaa.PbD
open Go.RowKit Go.Proofs.YthjlapmjpjpgeaaW.PrintWords

theorem w64 {x : Int} (h0 : -9223372036854775808 ≤ x) (h1 : x ≤ 9223372036854775807) : wrap64 x = x := by
  unfold wrap64
  omega

theorem set_take {α : Type} (x : List α) (v : α) (i : Nat) (h : i < x.length) : (x.set i v).take (i + 1) = x.take i ++ [v] := by
  rw [List.take_succ_eq_append_getElem (by simpa using h)]
  rw [List.take_set_of_le (Nat.le_refl i)]
  simp

/-- The same where each element is turned into another kind. -/
theorem copy_step_map {α β : Type} (f : α → β) (x : List β) (l : List α) (i : Nat) (h : i < l.length) (hx : i < x.length) :
    (x.set i (f l[i])).take (i + 1) ++ (l.drop (i + 1)).map f = x.take i ++ (l.drop i).map f := by
  rw [set_take x (f l[i]) i hx, List.drop_eq_getElem_cons h, List.append_assoc]
  rfl

theorem drop_cons {α : Type} (l : List α) (i : Nat) (h : i < l.length) : l.drop i = l[i] :: l.drop (i + 1) := List.drop_eq_getElem_cons h


end Go.Proofs.Ythjlapmjpjpgeaa.PbD
namespace Go.Proofs.Ythjlapmjpjpgeaa.D
set_option linter.unusedSimpArgs false
set_option linter.unusedVariables false
open Go.RowKit Go.Proofs.YthjlapmjpjpgeaaW.PrintWords

theorem cmp_self (a : Int) : compare a a = Ordering.eq := by
  simp [compare, compareOfLessAndEq]
theorem cmp_selfN (a : Nat) : compare a a = Ordering.eq := by
  simp [compare, compareOfLessAndEq]
theorem ord_self (k : FloatKind) (x : Nat) : k.format.order x x = none ∨ k.format.order x x = some .eq := by
  unfold Ieee.Format.order
  cases k.format.read x with
  | number s m e => right; simp [Ieee.Datum.order, cmp_self]
  | infinity s => right; simp [Ieee.Datum.order, cmp_selfN]
  | nan s t => left; rfl
theorem one_read : ((FloatKind.f64.format.read 4607182418800017408).isNaN = false ∧ (FloatKind.f64.format.read 4607182418800017408).isInfinity = false) ∧ (FloatKind.f64.format.read 4607182418800017408).isZero = false := by decide +kernel
theorem inv_ok {a : Nat} (h : FloatKind.f64.format.order a a ≠ none) : (floatBits .quo .f64 4607182418800017408 a).isSome = true := by
  unfold floatBits Ieee.Format.div
  have h1 := one_read
  simp only [Option.isSome_map]
  unfold Ieee.Format.order at h
  generalize FloatKind.f64.format.read 4607182418800017408 = o at h1 ⊢
  generalize FloatKind.f64.format.read a = d at h ⊢
  cases o with
  | nan s t => exact absurd h1.1.1 (by simp [Ieee.Datum.isNaN])
  | infinity s => exact absurd h1.1.2 (by simp [Ieee.Datum.isInfinity])
  | number s m e =>
    have hm : m ≠ 0 := by
      rintro rfl
      exact absurd h1.2 (by simp [Ieee.Datum.isZero])
    cases d with
    | nan s t => exact absurd rfl h
    | infinity s => rfl
    | number t n j =>
      unfold Ieee.Datum.quotient
      simp only
      split
      · first | rfl | (rw [if_neg hm]; rfl)
      · rfl
/-- Two floats that pass for the same: both are no numbers, or their bits are the same and it is a number. -/
def Same (a b : Nat) : Prop := (FloatKind.f64.format.order a a = none ∧ FloatKind.f64.format.order b b = none) ∨ a = b
theorem Same.refl (a : Nat) : Same a a := Or.inr rfl
theorem sameFloat_eq {k a b : Nat} (hk : 0 < k) (h : Same a b) : laws_sameFloat.f k a b = some true := by
  obtain ⟨k, rfl⟩ : ∃ m, k = m + 1 := ⟨k - 1, by omega⟩
  unfold laws_sameFloat.f
  have nn : ∀ x y : Nat, FloatKind.f64.format.order x x = none → FloatKind.f64.format.order y y = none → (if (FloatKind.f64.format.order x x != some .eq) = true then (laws_sameFloat.j0 (k + 1) x y true) else (laws_sameFloat.j0 (k + 1) x y (FloatKind.f64.format.order y y != some .eq))) = some true := by
    intro x y h1 h2
    rw [h1, h2, if_pos (by rfl)]
    simp [laws_sameFloat.j0, h1, h2]
  rcases h with ⟨h1, h2⟩ | rfl
  · exact nn a b h1 h2
  · rcases ord_self .f64 a with h1 | h1
    · exact nn a a h1 h1
    · have hi := inv_ok (a := a) (by rw [h1]; simp)
      rw [h1, if_neg (by decide)]
      simp only [laws_sameFloat.j0, hi, if_true, beq_self_eq_true, h1]
      rw [if_neg (by decide)]
      split <;> rfl
theorem eqPh_eq {k a0 a1 b0 b1 : Nat} (hk : 0 < k) (h0 : Same a0 b0) (h1 : Same a1 b1) : laws_eqPhasor.f k a0 a1 b0 b1 = some true := by
  unfold laws_eqPhasor.f
  rw [sameFloat_eq hk h0, Option.bind_some, if_pos rfl, sameFloat_eq hk h1, Option.bind_some, if_pos rfl]


end Go.Proofs.Ythjlapmjpjpgeaa.D
namespace Go.Proofs.Ythjlapmjpjpgeaa.D
set_option linter.unusedSimpArgs false
set_option linter.unusedVariables false
open Go.RowKit Go.Proofs.YthjlapmjpjpgeaaW.PrintWords Go.Proofs.Ythjlapmjpjpgeaa.PbD

def cvPh (x : S34) : S28 := ⟨x.f0, x.f1⟩
theorem rdT34_at (l : List S34) (i : Nat) (h : i < l.length) : rd_T34 l (i : Int) = l[i] := by
  simp [rd_T34, List.getD_eq_getElem?_getD, List.getElem?_eq_getElem h]
theorem rdT28_at (l : List S28) (i : Nat) (h : i < l.length) : rd_T28 l (i : Int) = l[i] := by
  simp [rd_T28, List.getD_eq_getElem?_getD, List.getElem?_eq_getElem h]
theorem szPhS_eq {l : List S34} {a : Int} (hl : l.length ≤ maxLen) (ha : 0 ≤ a ∧ a ≤ 1048576) : laws_szPhasorS.f l a = some (if a - (l.length : Int) < 0 then -1 else a - (l.length : Int)) := by
  unfold laws_szPhasorS.f
  have hm : l.length ≤ 9223372036854775807 := hl
  rw [w64 (by omega) (by omega)]
  by_cases h : a - (l.length : Int) < 0
  · rw [if_pos h, if_pos h]
  · rw [if_neg h, if_neg h]
theorem toPhS_l0 (l : List S34) (hl : l.length ≤ 4000000) (d : Nat) : ∀ (k i : Nat) (x : List S28), i + d = l.length → d < k → x.length = l.length → laws_toPhasorS.l0 k l x (i : Int) = some (x.take i ++ (l.drop i).map cvPh) := by
  induction d with
  | zero =>
    intro k i x hi hk hx
    obtain ⟨k, rfl⟩ : ∃ m, k = m + 1 := ⟨k - 1, by omega⟩
    simp only [laws_toPhasorS.l0]
    rw [if_neg (by omega), List.take_of_length_le (by omega), List.drop_of_length_le (by omega), List.map_nil, List.append_nil]
  | succ d ih =>
    intro k i x hi hk hx
    obtain ⟨k, rfl⟩ : ∃ m, k = m + 1 := ⟨k - 1, by omega⟩
    simp only [laws_toPhasorS.l0]
    rw [if_pos (by omega), if_pos (by omega)]
    simp only [laws_toPhasor.f, Option.bind_some]
    rw [if_pos (by omega), w64 (by omega) (by omega), rdT34_at l i (by omega), Int.toNat_natCast,
      show ((i : Int) + 1) = ((i + 1 : Nat) : Int) from by omega, ih k (i + 1) _ (by omega) (by omega) (by simp [hx])]
    exact congrArg some (copy_step_map cvPh x l i (by omega) (by omega))
theorem toPhS_eq {k : Nat} {l : List S34} (hl : l.length ≤ 4000000) (hk : l.length < k) : laws_toPhasorS.f k l = some (l.map cvPh) := by
  unfold laws_toPhasorS.f
  rw [if_pos (by omega), if_pos (by omega)]
  have h := toPhS_l0 l hl l.length k 0 (List.replicate ((l.length : Int) : Int).toNat z28) (by omega) hk (by simp)
  rw [List.take_zero, List.drop_zero, List.nil_append] at h
  exact h
theorem eqPhS_l0 (l : List S28) (hl : l.length ≤ 4000000) (d : Nat) : ∀ (k i : Nat), i + d = l.length → d + 1 < k → laws_eqPhasorS.l0 k l l (i : Int) = some true := by
  induction d with
  | zero =>
    intro k i hi hk
    obtain ⟨k, rfl⟩ : ∃ m, k = m + 1 := ⟨k - 1, by omega⟩
    simp only [laws_eqPhasorS.l0]
    rw [if_neg (by omega)]
  | succ d ih =>
    intro k i hi hk
    obtain ⟨k, rfl⟩ : ∃ m, k = m + 1 := ⟨k - 1, by omega⟩
    simp only [laws_eqPhasorS.l0]
    rw [if_pos (by omega), if_pos (by omega), if_pos (by omega), eqPh_eq (by omega) (Same.refl _) (Same.refl _), Option.bind_some, if_pos rfl, w64 (by omega) (by omega), show ((i : Int) + 1) = ((i + 1 : Nat) : Int) from by omega]
    exact ih k (i + 1) (by omega) (by omega)
theorem eqPhS_refl {k : Nat} {l : List S28} (hl : l.length ≤ 4000000) (hk : l.length + 1 < k) : laws_eqPhasorS.f k l l = some true := by
  unfold laws_eqPhasorS.f
  rw [if_pos rfl]
  exact eqPhS_l0 l hl l.length k 0 (by omega) hk


end Go.Proofs.Ythjlapmjpjpgeaa.D
namespace Go.Proofs.Ythjlapmjpjpgeaa.D
set_option linter.unusedSimpArgs false
set_option linter.unusedVariables false
open Go.RowKit Go.Proofs.YthjlapmjpjpgeaaW.PrintWords

theorem nan_left {op : BinOp} {x y : Nat} (h : FloatKind.f64.format.order x x = none) : floatBits op .f64 x y = none := by
  unfold Ieee.Format.order at h
  have hn : ∃ s t, FloatKind.f64.format.read x = .nan s t := by
    cases hx : FloatKind.f64.format.read x with
    | number s m e => rw [hx] at h; simp [Ieee.Datum.order] at h
    | infinity s => rw [hx] at h; simp [Ieee.Datum.order] at h
    | nan s t => exact ⟨s, t, rfl⟩
  obtain ⟨s, t, hx⟩ := hn
  unfold floatBits
  cases op <;> simp only [Ieee.Format.add, Ieee.Format.sub, Ieee.Format.mul, Ieee.Format.div, hx] <;> rfl
theorem nan_right {op : BinOp} {x y : Nat} (h : FloatKind.f64.format.order y y = none) : floatBits op .f64 x y = none := by
  unfold Ieee.Format.order at h
  have hn : ∃ s t, FloatKind.f64.format.read y = .nan s t := by
    cases hx : FloatKind.f64.format.read y with
    | number s m e => rw [hx] at h; simp [Ieee.Datum.order] at h
    | infinity s => rw [hx] at h; simp [Ieee.Datum.order] at h
    | nan s t => exact ⟨s, t, rfl⟩
  obtain ⟨s, t, hx⟩ := hn
  unfold floatBits
  cases op <;> simp only [Ieee.Format.add, Ieee.Format.sub, Ieee.Format.mul, Ieee.Format.div, hx] <;> (cases FloatKind.f64.format.read x <;> rfl)
theorem frk_same {op : BinOp} {x y r x' y' r' : Nat} (h : FRk .f64 op x y r) (h' : FRk .f64 op x' y' r') (hx : Same x x') (hy : Same y y') : Same r r' := by
  have nn : floatBits op .f64 x y = none → floatBits op .f64 x' y' = none → Same r r' := by
    intro a b
    rcases h with h | ⟨_, h⟩
    · rw [a] at h; cases h
    · rcases h' with h' | ⟨_, h'⟩
      · rw [b] at h'; cases h'
      · exact Or.inl ⟨h, h'⟩
  rcases hx with ⟨h1, h2⟩ | rfl
  · exact nn (nan_left h1) (nan_left h2)
  · rcases hy with ⟨h1, h2⟩ | rfl
    · exact nn (nan_right h1) (nan_right h2)
    · rcases h with h | ⟨h0, h⟩
      · rcases h' with h' | ⟨h0', h'⟩
        · exact Or.inr (Option.some.inj (h.symm.trans h'))
        · rw [h0'] at h; cases h
      · exact nn h0 h0
theorem Same.symm {a b : Nat} (h : Same a b) : Same b a := by
  rcases h with ⟨h1, h2⟩ | rfl
  · exact Or.inl ⟨h2, h1⟩
  · exact Or.inr rfl
/-- The product of two phasors, each part to its bits or to no number. -/
def PT (a b c d p q : Nat) : Prop := ∃ w x y z, FRk .f64 .mul a c w ∧ FRk .f64 .mul b d x ∧ FRk .f64 .mul a d y ∧ FRk .f64 .mul b c z ∧ FRk .f64 .sub w x p ∧ FRk .f64 .add y z q
theorem PT.same {a b c d p q a' b' c' d' p' q' : Nat} (h : PT a b c d p q) (h' : PT a' b' c' d' p' q') (ha : Same a a') (hb : Same b b') (hc : Same c c') (hd : Same d d') : Same p p' ∧ Same q q' := by
  obtain ⟨w, x, y, z, h1, h2, h3, h4, h5, h6⟩ := h
  obtain ⟨w', x', y', z', g1, g2, g3, g4, g5, g6⟩ := h'
  exact ⟨frk_same h5 g5 (frk_same h1 g1 ha hc) (frk_same h2 g2 hb hd), frk_same h6 g6 (frk_same h3 g3 ha hd) (frk_same h4 g4 hb hc)⟩


end Go.Proofs.Ythjlapmjpjpgeaa.D
namespace Go.Proofs.Ythjlapmjpjpgeaa.D
set_option linter.unusedSimpArgs false
set_option linter.unusedVariables false
open Go.RowKit Go.Proofs.YthjlapmjpjpgeaaW.PrintWords

theorem sw64' : FloatKind.f64.format.signWeight = 9223372036854775808 := by decide +kernel
theorem bi64' : FloatKind.f64.format.binade = 4503599627370496 := by decide +kernel
theorem in64' : FloatKind.f64.format.infRung = 9218868437227405312 := by decide +kernel
theorem lp64' : FloatKind.f64.format.leastPlace = -1074 := by decide +kernel
/-- A word that is a number: how great it can be. -/
theorem read64 {x : Nat} {s : Bool} {m : Nat} {e : Int} (h : FloatKind.f64.format.read x = .number s m e) : m < 9007199254740992 ∧ -1074 ≤ e ∧ e ≤ 971 := by
  unfold Ieee.Format.read at h
  rw [sw64', bi64', in64', lp64'] at h
  simp only at h
  split at h
  · injection h with _ h1 h2
    subst h1 h2
    omega
  · split at h
    · injection h with _ h1 h2
      subst h1 h2
      omega
    · split at h <;> simp at h
theorem abs_eq (x : Nat) : (Go.bits .andNot .u64 (x : Int) 9223372036854775808).toNat = x % 9223372036854775808 := by
  have h1 : (BitVec.ofInt 64 (x : Int) &&& ~~~(BitVec.ofInt 64 9223372036854775808)).toNat = x % 9223372036854775808 := by
    have e1 : ~~~(BitVec.ofInt 64 9223372036854775808) = BitVec.ofNat 64 9223372036854775807 := by decide
    rw [e1, BitVec.toNat_and, BitVec.ofInt_natCast, BitVec.toNat_ofNat, BitVec.toNat_ofNat]
    have e2 : 9223372036854775807 % 2 ^ 64 = 2 ^ 63 - 1 := by decide
    rw [e2, Nat.and_two_pow_sub_one_eq_mod]
    omega
  unfold Go.bits
  simp only [IntKind.bits]
  show (IntKind.u64.wrap (((BitVec.ofInt 64 (x : Int) &&& ~~~(BitVec.ofInt 64 9223372036854775808)).toNat : Nat) : Int)).toNat = _
  rw [h1]
  have h2 : IntKind.u64.wrap ((x % 9223372036854775808 : Nat) : Int) = ((x % 9223372036854775808 : Nat) : Int) := by
    simp [IntKind.wrap, IntKind.bits]
    omega
  rw [h2, Int.toNat_natCast]
theorem read_abs (x : Nat) : FloatKind.f64.format.read (x % 9223372036854775808) = match FloatKind.f64.format.read x with
    | .number _ m e => .number false m e
    | .infinity _ => .infinity false
    | .nan _ t => .nan false t := by
  unfold Ieee.Format.read
  rw [sw64', bi64', in64', lp64']
  have h1 : x % 9223372036854775808 % 9223372036854775808 = x % 9223372036854775808 := Nat.mod_mod _ _
  have h2 : x % 9223372036854775808 / 9223372036854775808 = 0 := by omega
  rw [h1, h2]
  simp only
  split
  · rfl
  · split
    · rfl
    · split <;> rfl
theorem max_read : FloatKind.f64.format.read 9218868437227405311 = .number false 9007199254740991 971 := by decide +kernel
/-- Is a word a number? -/
theorem finB_iff (x : Nat) : finB x = (match FloatKind.f64.format.read x with | .number _ _ _ => true | _ => false) := by
  unfold finB floatBits
  simp only [Ieee.Format.sub, Option.isSome_map]
  cases hx : FloatKind.f64.format.read x with
  | nan s t => rfl
  | infinity s => cases s <;> rfl
  | number s m e => rfl
theorem isInf_eq (x : Nat) : math_IsInf.f x 0 = some (match FloatKind.f64.format.read x with | .infinity _ => true | _ => false) := by
  unfold math_IsInf.f math_Abs.f
  rw [if_pos rfl, Option.bind_some, abs_eq]
  congr 1
  unfold Ieee.Format.order
  rw [read_abs, max_read]
  cases hx : FloatKind.f64.format.read x with
  | nan s t => rfl
  | infinity s => rfl
  | number s m e =>
    obtain ⟨h1, h2, h3⟩ := read64 hx
    simp only [Ieee.Datum.order, Ieee.signed, Bool.false_eq_true, if_false]
    have e1 : min e 971 = e := by omega
    rw [e1, show (e - e).toNat = 0 from by omega, Nat.shiftLeft_zero]
    have h4 : m ≤ 9007199254740991 <<< (971 - e).toNat := by
      rw [Nat.shiftLeft_eq]
      exact Nat.le_trans (by omega : m ≤ 9007199254740991 * 1) (Nat.mul_le_mul_left _ (Nat.two_pow_pos _))
    generalize 9007199254740991 <<< (971 - e).toNat = b at h4 ⊢
    rcases Nat.lt_or_eq_of_le h4 with h5 | rfl
    · have : compare (m : Int) (b : Int) = .lt := by simp [compare, compareOfLessAndEq]; omega
      rw [this]
      rfl
    · have : compare (m : Int) (m : Int) = .eq := by simp [compare, compareOfLessAndEq]
      rw [this]
      rfl
theorem isNaN_eq (x : Nat) : math_IsNaN.f x = some (match FloatKind.f64.format.read x with | .nan _ _ => true | _ => false) := by
  unfold math_IsNaN.f
  congr 1
  unfold Ieee.Format.order
  cases hx : FloatKind.f64.format.read x with
  | nan s t => rfl
  | infinity s => cases s <;> rfl
  | number s m e =>
    simp only [Ieee.Datum.order]
    have : ∀ a : Int, (some (compare a a) != some Ordering.eq) = false := fun a => by
      have : compare a a = .eq := by simp [compare, compareOfLessAndEq]
      rw [this]
      rfl
    exact this _
theorem isFinite_eq (x y : Nat) : impl_isFinite.f x y = some (finB x && finB y) := by
  unfold impl_isFinite.f
  rw [isNaN_eq, isNaN_eq, isInf_eq, isInf_eq, finB_iff, finB_iff]
  cases FloatKind.f64.format.read x <;> cases FloatKind.f64.format.read y <;> rfl
/-- A word that is written of a number is no NaN. -/
theorem nearest_read (s : Bool) (m : Nat) (e : Int) : (∃ s' m' e', FloatKind.f64.format.read (FloatKind.f64.format.nearest s m e) = .number s' m' e' ∧ s' = s) ∨ FloatKind.f64.format.read (FloatKind.f64.format.nearest s m e) = .infinity s := by
  have key : ∀ rung, rung ≤ 9218868437227405312 → (∃ s' m' e', FloatKind.f64.format.read (FloatKind.f64.format.word s rung) = .number s' m' e' ∧ s' = s) ∨ FloatKind.f64.format.read (FloatKind.f64.format.word s rung) = .infinity s := by
    intro rung hr
    have h1 : FloatKind.f64.format.word s rung % 9223372036854775808 = rung := by
      unfold Ieee.Format.word
      rw [sw64']
      split <;> omega
    have h2 : (FloatKind.f64.format.word s rung / 9223372036854775808 % 2 == 1) = s := by
      unfold Ieee.Format.word
      rw [sw64']
      cases s
      · simp
        omega
      · simp
        omega
    unfold Ieee.Format.read
    rw [sw64', bi64', in64', lp64']
    simp only [h1, h2]
    by_cases c1 : rung < 4503599627370496
    · rw [if_pos c1]
      exact Or.inl ⟨_, _, _, rfl, rfl⟩
    · rw [if_neg c1]
      by_cases c2 : rung < 9218868437227405312
      · rw [if_pos c2]
        exact Or.inl ⟨_, _, _, rfl, rfl⟩
      · rw [if_neg c2, if_pos (by omega)]
        exact Or.inr rfl
  unfold Ieee.Format.nearest
  split
  · exact key 0 (by omega)
  · rw [in64']
    exact key _ (Nat.min_le_right _ _)
theorem inf_read (s : Bool) : FloatKind.f64.format.read (FloatKind.f64.format.word s FloatKind.f64.format.infRung) = .infinity s := by
  cases s <;> decide +kernel
/-- Of a number, its square is a number or the positive infinity. -/
theorem square_read {x r : Nat} (hx : finB x = true) (h : FRk .f64 .mul x x r) : (∃ m e, FloatKind.f64.format.read r = .number false m e) ∨ FloatKind.f64.format.read r = .infinity false := by
  rw [finB_iff] at hx
  cases hr : FloatKind.f64.format.read x with
  | nan s t => rw [hr] at hx; cases hx
  | infinity s => rw [hr] at hx; cases hx
  | number s m e =>
    have hb : floatBits .mul .f64 x x = some (FloatKind.f64.format.nearest false (m * m) (e + e)) := by
      unfold floatBits
      simp only [Ieee.Format.mul, hr, Ieee.Datum.product, Bool.xor_self, Option.map_some, Ieee.Format.write]
    rcases h with h | ⟨h, _⟩
    · obtain rfl := Option.some.inj (hb.symm.trans h)
      rcases nearest_read false (m * m) (e + e) with ⟨s', m', e', h1, rfl⟩ | h1
      · exact Or.inl ⟨_, _, h1⟩
      · exact Or.inr h1
    · rw [hb] at h
      cases h
/-- The sum of two squares is no NaN. -/
theorem squares_read {x y u v r : Nat} (hx : finB x = true) (hy : finB y = true) (hu : FRk .f64 .mul x x u) (hv : FRk .f64 .mul y y v) (h : FRk .f64 .add u v r) : (∃ s m e, FloatKind.f64.format.read r = .number s m e) ∨ ∃ s, FloatKind.f64.format.read r = .infinity s := by
  have key : ∀ d, floatBits .add .f64 u v = some d → ((∃ s m e, FloatKind.f64.format.read d = .number s m e) ∨ ∃ s, FloatKind.f64.format.read d = .infinity s) → (∃ s m e, FloatKind.f64.format.read r = .number s m e) ∨ ∃ s, FloatKind.f64.format.read r = .infinity s := by
    intro d hd hg
    rcases h with h | ⟨h, _⟩
    · obtain rfl := Option.some.inj (hd.symm.trans h)
      exact hg
    · rw [hd] at h
      cases h
  have wr : ∀ s m e, (∃ s' m' e', FloatKind.f64.format.read (FloatKind.f64.format.write (.number s m e)) = .number s' m' e') ∨ ∃ s', FloatKind.f64.format.read (FloatKind.f64.format.write (.number s m e)) = .infinity s' := by
    intro s m e
    rcases nearest_read s m e with ⟨s', m', e', h1, _⟩ | h1
    · exact Or.inl ⟨_, _, _, h1⟩
    · exact Or.inr ⟨_, h1⟩
  rcases square_read hx hu with ⟨m, e, h1⟩ | h1 <;> rcases square_read hy hv with ⟨n, f, h2⟩ | h2
  · exact key _ (by unfold floatBits; simp only [Ieee.Format.add, h1, h2, Ieee.Datum.sum, Option.map_some]; rfl) (wr _ _ _)
  · exact key _ (by unfold floatBits; simp only [Ieee.Format.add, h1, h2, Ieee.Datum.sum, Option.map_some]; rfl) (Or.inr ⟨_, inf_read _⟩)
  · exact key _ (by unfold floatBits; simp only [Ieee.Format.add, h1, h2, Ieee.Datum.sum, Option.map_some]; rfl) (Or.inr ⟨_, inf_read _⟩)
  · exact key _ (by unfold floatBits; simp only [Ieee.Format.add, h1, h2, Ieee.Datum.sum, if_true, Option.map_some]; rfl) (Or.inr ⟨_, inf_read _⟩)

/-- Is the quotient told? -/
def okO (a b c d s : Nat) : Bool := finB a && finB b && finB c && finB d && finB s && !(FloatKind.f64.format.order s 0 == some .eq)
/-- The quotient of two phasors, each part to its bits or to no number; or refused. -/
def PhO (a b c d u v : Nat) (o : Bool) : Prop := ∃ rr ii s, FRk .f64 .mul c c rr ∧ FRk .f64 .mul d d ii ∧ FRk .f64 .add rr ii s ∧ if okO a b c d s = true then ∃ p q, PT a b c (Go.Op.negFloat .f64 d) p q ∧ FRk .f64 .quo p s u ∧ FRk .f64 .quo q s v ∧ o = true else u = 0 ∧ v = 0 ∧ o = false
theorem specOver_of {a b c d : Nat} {Q : Nat × Nat × Bool → Prop} (h : ∀ u v o, PhO a b c d u v o → Q (u, v, o)) : spec_PhOver.f a b c d Q := by
  unfold spec_PhOver.f
  intro rr hrr ii hii s hs
  have no : okO a b c d s = false → Q (0, 0, false) := fun h0 => h 0 0 false ⟨rr, ii, s, hrr, hii, hs, by rw [if_neg (by rw [h0]; simp)]; exact ⟨rfl, rfl, rfl⟩⟩
  unfold spec_l4Finite.f
  refine ⟨_, rfl, ?_⟩
  cases ha : finB a with
  | false => rw [if_neg Bool.false_ne_true]; exact no (by simp [okO, ha])
  | true =>
    rw [if_pos rfl]
    refine ⟨_, rfl, ?_⟩
    cases hb : finB b with
    | false => rw [if_neg Bool.false_ne_true]; exact no (by simp [okO, hb])
    | true =>
      rw [if_pos rfl]
      refine ⟨_, rfl, ?_⟩
      cases hc : finB c with
      | false => rw [if_neg Bool.false_ne_true]; exact no (by simp [okO, hc])
      | true =>
        rw [if_pos rfl]
        refine ⟨_, rfl, ?_⟩
        cases hd : finB d with
        | false => rw [if_neg Bool.false_ne_true]; exact no (by simp [okO, hd])
        | true =>
          rw [if_pos rfl]
          refine ⟨_, rfl, ?_⟩
          cases hf : finB s with
          | false => rw [if_neg Bool.false_ne_true]; exact no (by simp [okO, hf])
          | true =>
            rw [if_pos rfl]
            cases h0 : (FloatKind.f64.format.order s 0 == some .eq) with
            | true => rw [if_pos rfl]; exact no (by simp [okO, h0])
            | false =>
              rw [if_neg Bool.false_ne_true]
              intro w hw x hx y hy z hz p hp q hq u hu v hv
              exact h u v true ⟨rr, ii, s, hrr, hii, hs, by rw [if_pos (by simp [okO, ha, hb, hc, hd, hf, h0])]; exact ⟨p, q, ⟨w, x, y, z, hw, hx, hy, hz, hp, hq⟩, hu, hv, rfl⟩⟩
theorem frk_ex (op : BinOp) (x y : Nat) : ∃ r, FRk .f64 op x y r := by
  cases h : floatBits op .f64 x y with
  | some r => exact ⟨r, Or.inl h⟩
  | none => exact ⟨9221120237041090560, Or.inr ⟨h, by decide +kernel⟩⟩
theorem implOver_of {k a b c d : Nat} {Q : Nat × Nat × Bool → Prop} (hk : 0 < k) (h : ∀ u v o, PhO a b c d u v o → Q (u, v, o)) : impl_PhOver.f k a b c d Q := by
  obtain ⟨k, rfl⟩ : ∃ m, k = m + 1 := ⟨k - 1, by omega⟩
  have no : ∀ rr ii s, FRk .f64 .mul c c rr → FRk .f64 .mul d d ii → FRk .f64 .add rr ii s → okO a b c d s = false → Q (0, 0, false) := fun rr ii s hrr hii hs h0 => h 0 0 false ⟨rr, ii, s, hrr, hii, hs, by rw [if_neg (by rw [h0]; simp)]; exact ⟨rfl, rfl, rfl⟩⟩
  have early : (finB a && finB b && finB c && finB d) = false → Q (0, 0, false) := by
    intro h0
    obtain ⟨rr, hrr⟩ := frk_ex .mul c c
    obtain ⟨ii, hii⟩ := frk_ex .mul d d
    obtain ⟨s, hs⟩ := frk_ex .add rr ii
    exact no rr ii s hrr hii hs (by unfold okO; rw [h0]; rfl)
  unfold impl_PhOver.f
  refine ⟨_, isFinite_eq a b, ?_⟩
  cases hab : (finB a && finB b) with
  | false =>
    rw [if_neg Bool.false_ne_true]
    simp only [impl_PhOver.j0]
    first | rw [if_pos rfl] | rw [if_pos trivial]
    exact early (by rw [hab]; rfl)
  | true =>
    rw [if_pos rfl]
    refine ⟨_, isFinite_eq c d, ?_⟩
    simp only [impl_PhOver.j0]
    cases hcd : (finB c && finB d) with
    | false =>
      rw [Bool.not_false, if_pos rfl]
      exact early (by rw [hab, Bool.true_and, hcd])
    | true =>
      rw [Bool.not_true, if_neg Bool.false_ne_true]
      intro rr hrr ii hii s hs
      have hc : finB c = true := (Bool.and_eq_true_iff.1 hcd).1
      have hd : finB d = true := (Bool.and_eq_true_iff.1 hcd).2
      have ha : finB a = true := (Bool.and_eq_true_iff.1 hab).1
      have hb : finB b = true := (Bool.and_eq_true_iff.1 hab).2
      cases h0 : (FloatKind.f64.format.order s 0 == some .eq) with
      | true => rw [if_pos rfl]; exact no rr ii s hrr hii hs (by simp [okO, h0])
      | false =>
        rw [if_neg Bool.false_ne_true]
        refine ⟨_, isInf_eq s, ?_⟩
        have hf := finB_iff s
        rcases squares_read hc hd hrr hii hs with ⟨t, m, e, hr⟩ | ⟨t, hr⟩
        · rw [hr] at hf ⊢
          rw [if_neg (by simp)]
          intro w hw x hx y hy z hz p hp q hq u hu v hv
          exact h u v true ⟨rr, ii, s, hrr, hii, hs, by rw [if_pos (by simp [okO, ha, hb, hc, hd, hf, h0])]; exact ⟨p, q, ⟨w, x, y, z, hw, hx, hy, hz, hp, hq⟩, hu, hv, rfl⟩⟩
        · rw [hr] at hf ⊢
          rw [if_pos rfl]
          exact no rr ii s hrr hii hs (by simp [okO, hf])
theorem finB_same {x y : Nat} (h : Same x y) : finB x = finB y := by
  rcases h with ⟨h1, h2⟩ | rfl
  · unfold finB
    rw [nan_left h1, nan_left h2]
  · rfl
theorem order0_same {x y : Nat} (h : Same x y) : FloatKind.f64.format.order x 0 = FloatKind.f64.format.order y 0 := by
  rcases h with ⟨h1, h2⟩ | rfl
  · have nn : ∀ z, FloatKind.f64.format.order z z = none → FloatKind.f64.format.order z 0 = none := by
      intro z hz
      unfold Ieee.Format.order at hz ⊢
      cases hx : FloatKind.f64.format.read z with
      | number s m e => rw [hx] at hz; simp [Ieee.Datum.order] at hz
      | infinity s => rw [hx] at hz; simp [Ieee.Datum.order] at hz
      | nan s t => rfl
    rw [nn x h1, nn y h2]
  · rfl
theorem neg_read (x : Nat) : FloatKind.f64.format.read (Go.Op.negFloat .f64 x) = (FloatKind.f64.format.read x).opposite := by
  have hx : Go.Op.negFloat .f64 x = x ^^^ 9223372036854775808 := by
    unfold Go.Op.negFloat
    have : 2 ^ (FloatKind.f64.format.exponentBits + FloatKind.f64.format.fractionBits) = 9223372036854775808 := by decide +kernel
    rw [this]
  have h1 : (x ^^^ 9223372036854775808) % 9223372036854775808 = x % 9223372036854775808 := by
    have := Nat.xor_mod_two_pow (a := x) (b := 9223372036854775808) (n := 63)
    have e1 : (2 : Nat) ^ 63 = 9223372036854775808 := by decide
    rw [e1] at this
    rw [this, Nat.mod_self, Nat.xor_zero]
  have h2 : (x ^^^ 9223372036854775808) / 9223372036854775808 = x / 9223372036854775808 ^^^ 1 := by
    have := Nat.xor_div_two_pow (a := x) (b := 9223372036854775808) (n := 63)
    have e1 : (2 : Nat) ^ 63 = 9223372036854775808 := by decide
    rw [e1] at this
    rw [this]
  have h3 : (x / 9223372036854775808 ^^^ 1) % 2 = 1 - x / 9223372036854775808 % 2 := by
    have := Nat.xor_mod_two_pow (a := x / 9223372036854775808) (b := 1) (n := 1)
    rw [show (2 : Nat) ^ 1 = 2 from rfl] at this
    rw [this]
    rcases Nat.mod_two_eq_zero_or_one (x / 9223372036854775808) with h | h <;> rw [h] <;> rfl
  rw [hx]
  unfold Ieee.Format.read
  rw [sw64', bi64', in64', lp64', h1, h2, h3]
  have hs : (1 - x / 9223372036854775808 % 2 == 1) = !(x / 9223372036854775808 % 2 == 1) := by
    rcases Nat.mod_two_eq_zero_or_one (x / 9223372036854775808) with h | h <;> rw [h] <;> rfl
  simp only [hs]
  split
  · rfl
  · split
    · rfl
    · split <;> rfl
theorem neg_same {x y : Nat} (h : Same x y) : Same (Go.Op.negFloat .f64 x) (Go.Op.negFloat .f64 y) := by
  have nn : ∀ z, FloatKind.f64.format.order z z = none → FloatKind.f64.format.order (Go.Op.negFloat .f64 z) (Go.Op.negFloat .f64 z) = none := by
    intro z hz
    unfold Ieee.Format.order at hz ⊢
    rw [neg_read]
    cases hx : FloatKind.f64.format.read z with
    | number s m e => rw [hx] at hz; simp [Ieee.Datum.order] at hz
    | infinity s => rw [hx] at hz; simp [Ieee.Datum.order] at hz
    | nan s t => rfl
  rcases h with ⟨h1, h2⟩ | rfl
  · exact Or.inl ⟨nn x h1, nn y h2⟩
  · exact Same.refl _
theorem PhO.same {a b c d u v a' b' c' d' u' v' : Nat} {o o' : Bool} (h : PhO a b c d u v o) (h' : PhO a' b' c' d' u' v' o') (ha : Same a a') (hb : Same b b') (hc : Same c c') (hd : Same d d') : Same u u' ∧ Same v v' ∧ o = o' := by
  obtain ⟨rr, ii, s, h1, h2, h3, h4⟩ := h
  obtain ⟨rr', ii', s', g1, g2, g3, g4⟩ := h'
  have hs : Same s s' := frk_same h3 g3 (frk_same h1 g1 hc hc) (frk_same h2 g2 hd hd)
  have ho : okO a b c d s = okO a' b' c' d' s' := by
    unfold okO
    rw [finB_same ha, finB_same hb, finB_same hc, finB_same hd, finB_same hs, order0_same hs]
  by_cases hk : okO a b c d s = true
  · rw [if_pos hk] at h4
    rw [if_pos (ho ▸ hk)] at g4
    obtain ⟨p, q, p1, p2, p3, rfl⟩ := h4
    obtain ⟨p', q', q1, q2, q3, rfl⟩ := g4
    have hp := PT.same p1 q1 ha hb hc (neg_same hd)
    exact ⟨frk_same p2 q2 hp.1 hs, frk_same p3 q3 hp.2 hs, rfl⟩
  · rw [if_neg hk] at h4
    rw [if_neg (ho ▸ hk)] at g4
    obtain ⟨rfl, rfl, rfl⟩ := h4
    obtain ⟨rfl, rfl, rfl⟩ := g4
    exact ⟨Same.refl _, Same.refl _, rfl⟩


end Go.Proofs.Ythjlapmjpjpgeaa.D
namespace Go.Proofs.Ythjlapmjpjpgeaa.D
set_option linter.unusedSimpArgs false
set_option linter.unusedVariables false
open Go.RowKit Go.Proofs.YthjlapmjpjpgeaaW.PrintWords Go.Proofs.Ythjlapmjpjpgeaa.PbD

theorem rdPh_set (l : List S28) (i : Nat) (v : S28) (h : i < l.length) : rd_T28 (l.set i v) (i : Int) = v := by
  rw [rdT28_at _ i (by simpa using h)]
  simp
theorem rdPh_mid (p q : List S28) (v : S28) : rd_T28 (p ++ v :: q) ((p.length : Nat) : Int) = v := by
  rw [rdT28_at _ p.length (by simp)]
  simp
theorem foi_ord (n : Int) : FloatKind.f64.format.order (floatOfInt .f64 n) (floatOfInt .f64 n) = some .eq := by
  rcases ord_self .f64 (floatOfInt .f64 n) with h | h
  · exfalso
    have e : floatOfInt .f64 n = FloatKind.f64.format.nearest (n < 0) n.natAbs 0 := rfl
    rw [e] at h
    unfold Ieee.Format.order at h
    rcases nearest_read (n < 0) n.natAbs 0 with ⟨s, m, e', h1, _⟩ | h1
    · rw [h1] at h; simp [Ieee.Datum.order] at h
    · rw [h1] at h; simp [Ieee.Datum.order] at h
  · exact h
def mkPh (a : Int) : S28 := ⟨floatOfInt .f64 a, floatOfInt .f64 (a + 1)⟩
def mkLPh : Int → Nat → List S28
  | _, 0 => []
  | a, m + 1 => mkPh a :: mkLPh (a + 1 + 1) m
theorem mkLPh_len : ∀ (m : Nat) (a : Int), (mkLPh a m).length = m
  | 0, _ => rfl
  | m + 1, a => by simp [mkLPh, mkLPh_len m]
theorem markPhS_l0 (d : Nat) : ∀ (k i : Nat) (a : Int) (x : List S28), x.length ≤ 4000000 → i + d = x.length → d < k → 0 ≤ a → a + 2 * d ≤ 1099511627776 → laws_markPhasorS.l0 k x a (i : Int) = some (a + 2 * d, x.take i ++ mkLPh a d) := by
  induction d with
  | zero =>
    intro k i a x hl hi hk h0 h1
    obtain ⟨k, rfl⟩ : ∃ m, k = m + 1 := ⟨k - 1, by omega⟩
    simp only [laws_markPhasorS.l0]
    rw [if_neg (by omega), List.take_of_length_le (by omega)]
    simp [mkLPh]
  | succ d ih =>
    intro k i a x hl hi hk h0 h1
    obtain ⟨k, rfl⟩ : ∃ m, k = m + 1 := ⟨k - 1, by omega⟩
    simp only [laws_markPhasorS.l0]
    have e0 : wrap64 (a + 1) = a + 1 := w64 (by omega) (by omega)
    have e1 : wrap64 (a + 1 + 1) = a + 1 + 1 := w64 (by omega) (by omega)
    have ei : wrap64 ((i : Int) + 1) = ((i + 1 : Nat) : Int) := by
      rw [w64 (by omega) (by omega)]
      omega
    have hx : i < x.length := by omega
    rw [if_pos (by omega), if_pos (by omega)]
    simp only [Option.bind_some, Int.toNat_natCast, List.set_set, rdPh_set, List.length_set, hx, e0, e1, ei]
    refine Eq.trans (ih k (i + 1) (a + 1 + 1) (x.set i (mkPh a)) (by simpa using hl) (by simp; omega) (by omega) (by omega) (by omega)) ?_
    rw [set_take _ _ _ hx, List.append_assoc]
    refine congrArg some (Prod.ext ?_ rfl)
    show a + 1 + 1 + 2 * (d : Int) = a + 2 * ((d + 1 : Nat) : Int)
    omega
theorem markPhS_eq {k : Nat} {x : List S28} {a : Int} (hl : x.length ≤ 4000000) (hk : x.length < k) (h0 : 0 ≤ a) (h1 : a ≤ 549755813888) : laws_markPhasorS.f k x a = some (a + 2 * x.length, mkLPh a x.length) := by
  unfold laws_markPhasorS.f
  have h := markPhS_l0 x.length k 0 a x hl (by omega) hk h0 (by omega)
  rw [List.take_zero, List.nil_append] at h
  exact h
theorem heldPhS_l0 (d : Nat) : ∀ (k : Nat) (a : Int) (p : List S28), p.length + d ≤ 4000000 → d < k → 0 ≤ a → a + 2 * d ≤ 1099511627776 → laws_heldPhasorS.l0 k (p ++ mkLPh a d) a ((p.length : Nat) : Int) = some (a + 2 * d) := by
  induction d with
  | zero =>
    intro k a p hl hk h0 h1
    obtain ⟨k, rfl⟩ : ∃ m, k = m + 1 := ⟨k - 1, by omega⟩
    simp only [laws_heldPhasorS.l0]
    rw [if_neg (by simp [mkLPh])]
    simp
  | succ d ih =>
    intro k a p hl hk h0 h1
    obtain ⟨k, rfl⟩ : ∃ m, k = m + 1 := ⟨k - 1, by omega⟩
    simp only [laws_heldPhasorS.l0]
    have e0 : wrap64 (a + 1) = a + 1 := w64 (by omega) (by omega)
    have e1 : wrap64 (a + 1 + 1) = a + 1 + 1 := w64 (by omega) (by omega)
    have ei : wrap64 ((p.length : Int) + 1) = ((p.length + 1 : Nat) : Int) := by
      rw [w64 (by omega) (by omega)]
      omega
    have hlen : ((p ++ mkLPh a (d + 1)).length : Int) = p.length + d + 1 := by
      simp [mkLPh_len]
      omega
    rw [if_pos (by omega), if_pos (by omega)]
    simp only [mkLPh, rdPh_mid, mkPh, e0, e1, ei, foi_ord, bne_self_eq_false, Bool.false_eq_true, if_false]
    have h := ih k (a + 1 + 1) (p ++ [mkPh a]) (by simp; omega) (by omega) (by omega) (by omega)
    rw [List.append_assoc, List.length_append] at h
    simp only [mkPh, List.singleton_append, List.length_singleton] at h
    rw [h]
    refine congrArg some ?_
    omega
theorem heldPhS_eq {k : Nat} {m : Nat} {a : Int} (hl : m ≤ 4000000) (hk : m < k) (h0 : 0 ≤ a) (h1 : a ≤ 549755813888) : laws_heldPhasorS.f k (mkLPh a m) a = some (a + 2 * m) := by
  unfold laws_heldPhasorS.f
  exact heldPhS_l0 m k a [] (by simpa using hl) hk h0 (by omega)
def SameL : List S28 → List S28 → Prop
  | [], [] => True
  | x :: a, y :: b => Same x.f0 y.f0 ∧ Same x.f1 y.f1 ∧ SameL a b
  | _, _ => False
theorem SameL.refl : ∀ l, SameL l l
  | [] => trivial
  | x :: l => ⟨Same.refl _, Same.refl _, SameL.refl l⟩
theorem SameL.len : ∀ {a b}, SameL a b → a.length = b.length
  | [], [], _ => rfl
  | x :: a, y :: b, h => by simp [SameL.len h.2.2]
theorem SameL.set : ∀ {a b} (i : Nat) {u v : S28}, SameL a b → Same u.f0 v.f0 → Same u.f1 v.f1 → SameL (a.set i u) (b.set i v)
  | [], [], _, _, _, _, _, _ => trivial
  | x :: a, y :: b, 0, _, _, h, h1, h2 => ⟨h1, h2, h.2.2⟩
  | x :: a, y :: b, i + 1, _, _, h, h1, h2 => ⟨h.1, h.2.1, SameL.set i h.2.2 h1 h2⟩
theorem SameL.getD : ∀ {a b} (i : Nat), SameL a b → Same (a.getD i z28).f0 (b.getD i z28).f0 ∧ Same (a.getD i z28).f1 (b.getD i z28).f1
  | [], [], _, _ => ⟨Same.refl _, Same.refl _⟩
  | x :: a, y :: b, 0, h => ⟨h.1, h.2.1⟩
  | x :: a, y :: b, i + 1, h => SameL.getD i h.2.2
theorem SameL.rd {a b} (h : SameL a b) (i : Int) : Same (rd_T28 a i).f0 (rd_T28 b i).f0 ∧ Same (rd_T28 a i).f1 (rd_T28 b i).f1 := SameL.getD i.toNat h
theorem SameL.drop : ∀ {a b} (i : Nat), SameL a b → SameL (a.drop i) (b.drop i)
  | a, b, 0, h => h
  | [], [], i + 1, _ => trivial
  | x :: a, y :: b, i + 1, h => SameL.drop i h.2.2
theorem eqPhSS_l0 (l m : List S28) (hs : SameL l m) (hl : l.length ≤ 4000000) (d : Nat) : ∀ (k i : Nat), i + d = l.length → d + 1 < k → laws_eqPhasorS.l0 k l m (i : Int) = some true := by
  have hlen := hs.len
  induction d with
  | zero =>
    intro k i hi hk
    obtain ⟨k, rfl⟩ : ∃ m, k = m + 1 := ⟨k - 1, by omega⟩
    simp only [laws_eqPhasorS.l0]
    rw [if_neg (by omega)]
  | succ d ih =>
    intro k i hi hk
    obtain ⟨k, rfl⟩ : ∃ m, k = m + 1 := ⟨k - 1, by omega⟩
    simp only [laws_eqPhasorS.l0]
    rw [if_pos (by omega), if_pos (by omega), if_pos (by omega), eqPh_eq (by omega) (hs.rd _).1 (hs.rd _).2, Option.bind_some, if_pos rfl, w64 (by omega) (by omega), show ((i : Int) + 1) = ((i + 1 : Nat) : Int) from by omega]
    exact ih k (i + 1) (by omega) (by omega)
theorem eqPhSS {k : Nat} {l m : List S28} (hs : SameL l m) (hl : l.length ≤ 4000000) (hk : l.length + 1 < k) : laws_eqPhasorS.f k l m = some true := by
  unfold laws_eqPhasorS.f
  rw [if_pos (by rw [hs.len])]
  exact eqPhSS_l0 l m hs hl l.length k 0 (by omega) hk


end Go.Proofs.Ythjlapmjpjpgeaa.D
namespace Go.Proofs.Ythjlapmjpjpgeaa.D
set_option linter.unusedSimpArgs false
set_option linter.unusedVariables false
open Go.RowKit Go.Proofs.YthjlapmjpjpgeaaW.PrintWords Go.Proofs.Ythjlapmjpjpgeaa.PbD

/-- What a turn of this kind makes of object a (with z, or with object b); o: is it told. -/
def NewV (kd : Int) (a : S28) (z0 z1 : Nat) (b : S28) (u v : Nat) (o : Bool) : Prop :=
  if kd = 1 then u = z0 ∧ v = z1 ∧ o = true
  else if kd = 2 then FRk .f64 .add a.f0 z0 u ∧ FRk .f64 .add a.f1 z1 v ∧ o = true
  else if kd = 3 then PT a.f0 a.f1 z0 z1 u v ∧ o = true
  else if kd = 4 then PhO a.f0 a.f1 z0 z1 u v o
  else if kd = 5 then u = a.f0 ∧ v = Go.Op.negFloat .f64 a.f1 ∧ o = true
  else PT a.f0 a.f1 b.f0 b.f1 u v ∧ o = true
theorem NewV.same {kd : Int} {a a' : S28} {z0 z1 : Nat} {b b' : S28} {u v u' v' : Nat} {o o' : Bool} (h : NewV kd a z0 z1 b u v o) (h' : NewV kd a' z0 z1 b' u' v' o') (ha0 : Same a.f0 a'.f0) (ha1 : Same a.f1 a'.f1) (hb0 : Same b.f0 b'.f0) (hb1 : Same b.f1 b'.f1) : Same u u' ∧ Same v v' ∧ o = o' := by
  have r := Same.refl
  unfold NewV at h h'
  split at h
  · rename_i c
    rw [if_pos c] at h'
    obtain ⟨rfl, rfl, rfl⟩ := h
    obtain ⟨rfl, rfl, rfl⟩ := h'
    exact ⟨r _, r _, rfl⟩
  · rename_i c1
    rw [if_neg c1] at h'
    split at h
    · rename_i c
      rw [if_pos c] at h'
      obtain ⟨h1, h2, rfl⟩ := h
      obtain ⟨g1, g2, rfl⟩ := h'
      exact ⟨frk_same h1 g1 ha0 (r _), frk_same h2 g2 ha1 (r _), rfl⟩
    · rename_i c2
      rw [if_neg c2] at h'
      split at h
      · rename_i c
        rw [if_pos c] at h'
        obtain ⟨h1, rfl⟩ := h
        obtain ⟨g1, rfl⟩ := h'
        have := PT.same h1 g1 ha0 ha1 (r _) (r _)
        exact ⟨this.1, this.2, rfl⟩
      · rename_i c3
        rw [if_neg c3] at h'
        split at h
        · rename_i c
          rw [if_pos c] at h'
          exact PhO.same h h' ha0 ha1 (r _) (r _)
        · rename_i c4
          rw [if_neg c4] at h'
          split at h
          · rename_i c
            rw [if_pos c] at h'
            obtain ⟨rfl, rfl, rfl⟩ := h
            obtain ⟨rfl, rfl, rfl⟩ := h'
            exact ⟨ha0, neg_same ha1, rfl⟩
          · rename_i c5
            rw [if_neg c5] at h'
            obtain ⟨h1, rfl⟩ := h
            obtain ⟨g1, rfl⟩ := h'
            have := PT.same h1 g1 ha0 ha1 hb0 hb1
            exact ⟨this.1, this.2, rfl⟩
def okT (n : Nat) (kd at_ fr : Int) : Prop := n ≤ 12 ∧ (1 ≤ kd ∧ kd ≤ 6) ∧ (0 ≤ at_ ∧ at_ < n) ∧ (kd = 6 → 0 ≤ fr ∧ fr < n)
/-- One turn: the objects behind it, and whether it was true. -/
def TR (l : List S28) (kd at_ fr : Int) (z0 z1 : Nat) (out : List S28) (ok : Bool) : Prop :=
  (okT l.length kd at_ fr ∧ ∃ u v, NewV kd (rd_T28 l at_) z0 z1 (rd_T28 l fr) u v ok ∧ out = if ok = true then l.set at_.toNat ⟨u, v⟩ else l) ∨ (¬ okT l.length kd at_ fr ∧ out = l ∧ ok = false)
theorem TR.len {l : List S28} {kd at_ fr : Int} {z0 z1 : Nat} {out : List S28} {ok : Bool} (h : TR l kd at_ fr z0 z1 out ok) : out.length = l.length := by
  rcases h with ⟨_, u, v, _, rfl⟩ | ⟨_, rfl, _⟩
  · split <;> simp
  · rfl
theorem TR.same {l l' : List S28} {kd at_ fr : Int} {z0 z1 : Nat} {out out' : List S28} {ok ok' : Bool} (hs : SameL l l') (h : TR l kd at_ fr z0 z1 out ok) (h' : TR l' kd at_ fr z0 z1 out' ok') : SameL out out' ∧ ok = ok' := by
  have hlen := hs.len
  rcases h with ⟨h1, u, v, h2, h3⟩ | ⟨h1, h2, h3⟩
  · rcases h' with ⟨g1, u', v', g2, g3⟩ | ⟨g1, g2, g3⟩
    · have e := NewV.same h2 g2 (hs.rd _).1 (hs.rd _).2 (hs.rd _).1 (hs.rd _).2
      obtain ⟨e1, e2, rfl⟩ := e
      subst h3 g3
      cases ok
      · exact ⟨hs, rfl⟩
      · exact ⟨hs.set _ e1 e2, rfl⟩
    · exact absurd (hlen ▸ h1) g1
  · rcases h' with ⟨g1, u', v', g2, g3⟩ | ⟨g1, g2, g3⟩
    · exact absurd (hlen ▸ g1) h1
    · subst h2 h3 g2 g3
      exact ⟨hs, rfl⟩
theorem sIn_eq (a b c : Int) : spec_l1In.f a b c = some (decide (b ≤ a ∧ a ≤ c)) := by
  unfold spec_l1In.f
  by_cases h : a ≥ b
  · rw [if_pos h]
    congr 1
    exact decide_eq_decide.2 ⟨fun x => ⟨h, x⟩, fun x => x.2⟩
  · rw [if_neg h]
    congr 1
    exact (decide_eq_false fun x => h x.1).symm
theorem iIn_eq (a b c : Int) : impl_in.f a b c = some (decide (b ≤ a ∧ a ≤ c)) := by
  unfold impl_in.f
  by_cases h : b ≤ a
  · rw [if_pos h]
    congr 1
    exact decide_eq_decide.2 ⟨fun x => ⟨h, x⟩, fun x => x.2⟩
  · rw [if_neg h]
    congr 1
    exact (decide_eq_false fun x => h x.1).symm
theorem sCopy_eq {l : List S28} (hl : l.length ≤ 4000000) : spec_l4Copy.f l = some l := by
  unfold spec_l4Copy.f
  rw [Option.bind_some, if_pos (by simp; omega), List.nil_append]
theorem iCopy_eq {l : List S28} (hl : l.length ≤ 4000000) : impl_ownPhasors.f l = some l := by
  unfold impl_ownPhasors.f
  rw [Option.bind_some, if_pos (by simp; omega), List.nil_append]
theorem sPT_of {a b c d : Nat} {Q : Nat × Nat → Prop} (h : ∀ p q, PT a b c d p q → Q (p, q)) : spec_PhTimes.f a b c d Q := by
  intro w hw x hx y hy z hz p hp q hq
  exact h p q ⟨w, x, y, z, hw, hx, hy, hz, hp, hq⟩
theorem iPT_of {a b c d : Nat} {Q : Nat × Nat → Prop} (h : ∀ p q, PT a b c d p q → Q (p, q)) : impl_PhTimes.f a b c d Q := by
  intro w hw x hx y hy z hz p hp q hq
  exact h p q ⟨w, x, y, z, hw, hx, hy, hz, hp, hq⟩
theorem sT_false {k : Nat} {l : List S28} {kd at_ fr : Int} {z0 z1 : Nat} {Q : List S28 × Bool → Prop} (hk : 0 < k) (hn : ¬ okT l.length kd at_ fr) (h : ∀ out ok, TR l kd at_ fr z0 z1 out ok → Q (out, ok)) : spec_Turned.j0 k l l true kd at_ fr z0 z1 Q := by
  obtain ⟨k, rfl⟩ : ∃ m, k = m + 1 := ⟨k - 1, by omega⟩
  simp only [spec_Turned.j0]
  first | rw [if_pos rfl] | rw [if_pos trivial]
  exact h l false (Or.inr ⟨hn, rfl, rfl⟩)
theorem iT_false {k : Nat} {l : List S28} {kd at_ fr : Int} {z0 z1 : Nat} {Q : List S28 × Bool → Prop} (hk : 0 < k) (hn : ¬ okT l.length kd at_ fr) (h : ∀ out ok, TR l kd at_ fr z0 z1 out ok → Q (out, ok)) : impl_Turned.j0 k l l true kd at_ fr z0 z1 Q := by
  obtain ⟨k, rfl⟩ : ∃ m, k = m + 1 := ⟨k - 1, by omega⟩
  simp only [impl_Turned.j0]
  first | rw [if_pos rfl] | rw [if_pos trivial]
  exact h l false (Or.inr ⟨hn, rfl, rfl⟩)
theorem sT_true {k : Nat} {l : List S28} {kd at_ fr : Int} {z0 z1 : Nat} {Q : List S28 × Bool → Prop} (hk : 0 < k) (ho : okT l.length kd at_ fr) (h : ∀ out ok, TR l kd at_ fr z0 z1 out ok → Q (out, ok)) : spec_Turned.j0 k l l false kd at_ fr z0 z1 Q := by
  obtain ⟨k, rfl⟩ : ∃ m, k = m + 1 := ⟨k - 1, by omega⟩
  have go : ∀ u v, NewV kd (rd_T28 l at_) z0 z1 (rd_T28 l fr) u v true → Q (l.set at_.toNat ⟨u, v⟩, true) := fun u v hv => h _ true (Or.inl ⟨ho, u, v, hv, by rw [if_pos rfl]⟩)
  obtain ⟨o1, o2, o3, o4⟩ := id ho
  simp only [spec_Turned.j0]
  first | rw [if_neg Bool.false_ne_true] | rw [if_neg not_false]
  rw [if_pos o3.1, if_pos o3.2]
  unfold NewV at go
  by_cases c1 : kd = 1
  · rw [if_pos c1, if_pos o3.2]
    exact go _ _ (by rw [if_pos c1]; exact ⟨rfl, rfl, rfl⟩)
  · rw [if_neg c1]
    by_cases c2 : kd = 2
    · rw [if_pos c2]
      intro u hu v hv
      rw [if_pos o3.2]
      exact go _ _ (by rw [if_neg c1, if_pos c2]; exact ⟨hu, hv, rfl⟩)
    · rw [if_neg c2]
      by_cases c3 : kd = 3
      · rw [if_pos c3]
        refine sPT_of fun p q hp => ?_
        rw [if_pos o3.2]
        exact go _ _ (by rw [if_neg c1, if_neg c2, if_pos c3]; exact ⟨hp, rfl⟩)
      · rw [if_neg c3]
        by_cases c4 : kd = 4
        · rw [if_pos c4]
          refine specOver_of fun u v o hp => ?_
          cases o with
          | true =>
            rw [if_pos rfl, if_pos o3.2]
            exact go _ _ (by rw [if_neg c1, if_neg c2, if_neg c3, if_pos c4]; exact hp)
          | false =>
            rw [if_neg Bool.false_ne_true]
            exact h l false (Or.inl ⟨ho, u, v, by unfold NewV; rw [if_neg c1, if_neg c2, if_neg c3, if_pos c4]; exact hp, by rw [if_neg Bool.false_ne_true]⟩)
        · rw [if_neg c4]
          by_cases c5 : kd = 5
          · rw [if_pos c5, if_pos o3.2]
            exact go _ _ (by rw [if_neg c1, if_neg c2, if_neg c3, if_neg c4, if_pos c5]; exact ⟨rfl, rfl, rfl⟩)
          · have c6 : kd = 6 := by omega
            have o5 := o4 c6
            rw [if_neg c5, if_pos o5.1, if_pos o5.2]
            refine sPT_of fun p q hp => ?_
            rw [if_pos o3.2]
            exact go _ _ (by rw [if_neg c1, if_neg c2, if_neg c3, if_neg c4, if_neg c5]; exact ⟨hp, rfl⟩)
theorem iT_true {k : Nat} {l : List S28} {kd at_ fr : Int} {z0 z1 : Nat} {Q : List S28 × Bool → Prop} (hk : 1 < k) (ho : okT l.length kd at_ fr) (h : ∀ out ok, TR l kd at_ fr z0 z1 out ok → Q (out, ok)) : impl_Turned.j0 k l l false kd at_ fr z0 z1 Q := by
  obtain ⟨k, rfl⟩ : ∃ m, k = m + 1 := ⟨k - 1, by omega⟩
  have go : ∀ u v, NewV kd (rd_T28 l at_) z0 z1 (rd_T28 l fr) u v true → Q (l.set at_.toNat ⟨u, v⟩, true) := fun u v hv => h _ true (Or.inl ⟨ho, u, v, hv, by rw [if_pos rfl]⟩)
  obtain ⟨o1, o2, o3, o4⟩ := id ho
  simp only [impl_Turned.j0]
  first | rw [if_neg Bool.false_ne_true] | rw [if_neg not_false]
  rw [if_pos o3.1, if_pos o3.2]
  unfold NewV at go
  by_cases c1 : kd = 1
  · rw [if_pos c1, if_pos o3.2]
    exact go _ _ (by rw [if_pos c1]; exact ⟨rfl, rfl, rfl⟩)
  · rw [if_neg c1]
    by_cases c2 : kd = 2
    · rw [if_pos c2]
      intro u hu v hv
      rw [if_pos o3.2]
      exact go _ _ (by rw [if_neg c1, if_pos c2]; exact ⟨hu, hv, rfl⟩)
    · rw [if_neg c2]
      by_cases c3 : kd = 3
      · rw [if_pos c3]
        refine iPT_of fun p q hp => ?_
        rw [if_pos o3.2]
        exact go _ _ (by rw [if_neg c1, if_neg c2, if_pos c3]; exact ⟨hp, rfl⟩)
      · rw [if_neg c3]
        by_cases c4 : kd = 4
        · rw [if_pos c4]
          refine implOver_of (by omega) fun u v o hp => ?_
          cases o with
          | true =>
            rw [if_pos rfl, if_pos o3.2]
            exact go _ _ (by rw [if_neg c1, if_neg c2, if_neg c3, if_pos c4]; exact hp)
          | false =>
            rw [if_neg Bool.false_ne_true]
            exact h l false (Or.inl ⟨ho, u, v, by unfold NewV; rw [if_neg c1, if_neg c2, if_neg c3, if_pos c4]; exact hp, by rw [if_neg Bool.false_ne_true]⟩)
        · rw [if_neg c4]
          by_cases c5 : kd = 5
          · rw [if_pos c5, if_pos o3.2]
            exact go _ _ (by rw [if_neg c1, if_neg c2, if_neg c3, if_neg c4, if_pos c5]; exact ⟨rfl, rfl, rfl⟩)
          · have c6 : kd = 6 := by omega
            have o5 := o4 c6
            rw [if_neg c5, if_pos c6, if_pos o5.1, if_pos o5.2]
            refine iPT_of fun p q hp => ?_
            rw [if_pos o3.2]
            exact go _ _ (by rw [if_neg c1, if_neg c2, if_neg c3, if_neg c4, if_neg c5]; exact ⟨hp, rfl⟩)
theorem specTurned_of {k : Nat} {l : List S28} {kd at_ fr : Int} {z0 z1 : Nat} {Q : List S28 × Bool → Prop} (hl : l.length ≤ 4000000) (hk : 1 < k) (h : ∀ out ok, TR l kd at_ fr z0 z1 out ok → Q (out, ok)) : spec_Turned.f k l kd at_ fr z0 z1 Q := by
  unfold spec_Turned.f
  refine ⟨l, sCopy_eq hl, ?_⟩
  rw [w64 (by omega) (by omega)]
  by_cases c0 : (l.length : Int) - 1 ≥ 12
  · rw [if_pos c0]
    exact sT_false (by omega) (fun o => by have := o.1; omega) h
  · rw [if_neg c0]
    refine ⟨_, sIn_eq _ _ _, ?_⟩
    by_cases c1 : 1 ≤ kd ∧ kd ≤ 6
    · rw [decide_eq_true c1, if_pos rfl]
      refine ⟨_, sIn_eq _ _ _, ?_⟩
      by_cases c2 : 0 ≤ at_ ∧ at_ ≤ (l.length : Int) - 1
      · rw [decide_eq_true c2, if_pos rfl]
        by_cases c3 : kd = 6
        · rw [if_pos c3]
          refine ⟨_, sIn_eq _ _ _, ?_⟩
          by_cases c4 : 0 ≤ fr ∧ fr ≤ (l.length : Int) - 1
          · rw [decide_eq_true c4]
            exact sT_true (by omega) ⟨by omega, c1, by omega, fun _ => by omega⟩ h
          · rw [decide_eq_false c4]
            exact sT_false (by omega) (fun o => c4 (by have := o.2.2.2 c3; omega)) h
        · rw [if_neg c3]
          exact sT_true (by omega) ⟨by omega, c1, by omega, fun x => absurd x c3⟩ h
      · rw [decide_eq_false c2, if_neg Bool.false_ne_true]
        exact sT_false (by omega) (fun o => c2 (by have := o.2.2.1; omega)) h
    · rw [decide_eq_false c1, if_neg Bool.false_ne_true]
      exact sT_false (by omega) (fun o => c1 o.2.1) h
theorem implTurned_of {k : Nat} {l : List S28} {kd at_ fr : Int} {z0 z1 : Nat} {Q : List S28 × Bool → Prop} (hl : l.length ≤ 4000000) (hk : 1 < k) (h : ∀ out ok, TR l kd at_ fr z0 z1 out ok → Q (out, ok)) : impl_Turned.f k l kd at_ fr z0 z1 Q := by
  unfold impl_Turned.f
  refine ⟨l, iCopy_eq hl, ?_⟩
  by_cases c0 : (l.length : Int) > 12
  · rw [if_pos c0]
    exact iT_false (by omega) (fun o => by have := o.1; omega) h
  · rw [if_neg c0]
    refine ⟨_, iIn_eq _ _ _, ?_⟩
    by_cases c1 : 1 ≤ kd ∧ kd ≤ 6
    · rw [decide_eq_true c1, if_pos rfl]
      refine ⟨_, iIn_eq _ _ _, ?_⟩
      rw [w64 (by omega) (by omega)]
      by_cases c2 : 0 ≤ at_ ∧ at_ ≤ (l.length : Int) - 1
      · rw [decide_eq_true c2, if_pos rfl]
        by_cases c3 : kd = 6
        · rw [if_pos c3]
          refine ⟨_, iIn_eq _ _ _, ?_⟩
          by_cases c4 : 0 ≤ fr ∧ fr ≤ (l.length : Int) - 1
          · rw [decide_eq_true c4]
            exact iT_true (by omega) ⟨by omega, c1, by omega, fun _ => by omega⟩ h
          · rw [decide_eq_false c4]
            exact iT_false (by omega) (fun o => c4 (by have := o.2.2.2 c3; omega)) h
        · rw [if_neg c3]
          exact iT_true (by omega) ⟨by omega, c1, by omega, fun x => absurd x c3⟩ h
      · rw [decide_eq_false c2, if_neg Bool.false_ne_true]
        exact iT_false (by omega) (fun o => c2 (by have := o.2.2.1; omega)) h
    · rw [decide_eq_false c1, if_neg Bool.false_ne_true]
      exact iT_false (by omega) (fun o => c1 o.2.1) h


end Go.Proofs.Ythjlapmjpjpgeaa.D
namespace Go.Proofs.Ythjlapmjpjpgeaa.D
set_option linter.unusedSimpArgs false
set_option linter.unusedVariables false
open Go.RowKit Go.Proofs.YthjlapmjpjpgeaaW.PrintWords Go.Proofs.Ythjlapmjpjpgeaa.PbD

def cvT4 (x : S52) : S56 := ⟨x.f0, x.f1, x.f2, ⟨x.f3.f0, x.f3.f1⟩⟩
theorem rdT52_at (l : List S52) (i : Nat) (h : i < l.length) : rd_T52 l (i : Int) = l[i] := by
  simp [rd_T52, List.getD_eq_getElem?_getD, List.getElem?_eq_getElem h]
theorem rdT56_at (l : List S56) (i : Nat) (h : i < l.length) : rd_T56 l (i : Int) = l[i] := by
  simp [rd_T56, List.getD_eq_getElem?_getD, List.getElem?_eq_getElem h]
theorem szT4S_eq {l : List S52} {a : Int} (hl : l.length ≤ maxLen) (ha : 0 ≤ a ∧ a ≤ 1048576) : laws_szTurn4S.f l a = some (if a - (l.length : Int) < 0 then -1 else a - (l.length : Int)) := by
  unfold laws_szTurn4S.f
  have hm : l.length ≤ 9223372036854775807 := hl
  rw [w64 (by omega) (by omega)]
  by_cases h : a - (l.length : Int) < 0
  · rw [if_pos h, if_pos h]
  · rw [if_neg h, if_neg h]
theorem toT4S_l0 (l : List S52) (hl : l.length ≤ 4000000) (d : Nat) : ∀ (k i : Nat) (x : List S56), i + d = l.length → d < k → x.length = l.length → laws_toTurn4S.l0 k l x (i : Int) = some (x.take i ++ (l.drop i).map cvT4) := by
  induction d with
  | zero =>
    intro k i x hi hk hx
    obtain ⟨k, rfl⟩ : ∃ m, k = m + 1 := ⟨k - 1, by omega⟩
    simp only [laws_toTurn4S.l0]
    rw [if_neg (by omega), List.take_of_length_le (by omega), List.drop_of_length_le (by omega), List.map_nil, List.append_nil]
  | succ d ih =>
    intro k i x hi hk hx
    obtain ⟨k, rfl⟩ : ∃ m, k = m + 1 := ⟨k - 1, by omega⟩
    simp only [laws_toTurn4S.l0]
    rw [if_pos (by omega), if_pos (by omega)]
    simp only [laws_toTurn4.f, laws_toPhasor.f, Option.bind_some]
    rw [if_pos (by omega), w64 (by omega) (by omega), rdT52_at l i (by omega), Int.toNat_natCast,
      show ((i : Int) + 1) = ((i + 1 : Nat) : Int) from by omega, ih k (i + 1) _ (by omega) (by omega) (by simp [hx])]
    exact congrArg some (copy_step_map cvT4 x l i (by omega) (by omega))
theorem toT4S_eq {k : Nat} {l : List S52} (hl : l.length ≤ 4000000) (hk : l.length < k) : laws_toTurn4S.f k l = some (l.map cvT4) := by
  unfold laws_toTurn4S.f
  rw [if_pos (by omega), if_pos (by omega)]
  have h := toT4S_l0 l hl l.length k 0 (List.replicate ((l.length : Int) : Int).toNat z56) (by omega) hk (by simp)
  rw [List.take_zero, List.drop_zero, List.nil_append] at h
  exact h
theorem eqT4_refl {k : Nat} {a b c : Int} {d e : Nat} (hk : 0 < k) : laws_eqTurn4.f k a b c d e a b c d e = some true := by
  unfold laws_eqTurn4.f
  rw [if_pos rfl, if_pos rfl, if_pos rfl, eqPh_eq hk (Same.refl _) (Same.refl _), Option.bind_some, if_pos rfl]
theorem eqT4S_l0 (l : List S56) (hl : l.length ≤ 4000000) (d : Nat) : ∀ (k i : Nat), i + d = l.length → d + 1 < k → laws_eqTurn4S.l0 k l l (i : Int) = some true := by
  induction d with
  | zero =>
    intro k i hi hk
    obtain ⟨k, rfl⟩ : ∃ m, k = m + 1 := ⟨k - 1, by omega⟩
    simp only [laws_eqTurn4S.l0]
    rw [if_neg (by omega)]
  | succ d ih =>
    intro k i hi hk
    obtain ⟨k, rfl⟩ : ∃ m, k = m + 1 := ⟨k - 1, by omega⟩
    simp only [laws_eqTurn4S.l0]
    rw [if_pos (by omega), if_pos (by omega), if_pos (by omega), eqT4_refl (by omega), Option.bind_some, if_pos rfl, w64 (by omega) (by omega), show ((i : Int) + 1) = ((i + 1 : Nat) : Int) from by omega]
    exact ih k (i + 1) (by omega) (by omega)
theorem eqT4S_refl {k : Nat} {l : List S56} (hl : l.length ≤ 4000000) (hk : l.length + 1 < k) : laws_eqTurn4S.f k l l = some true := by
  unfold laws_eqTurn4S.f
  rw [if_pos rfl]
  exact eqT4S_l0 l hl l.length k 0 (by omega) hk

theorem markT4S_l0 (d : Nat) : ∀ (k i : Nat) (a : Int) (x : List S56), x.length ≤ 4000000 → i + d = x.length → d < k → 0 ≤ a → a + 5 * d ≤ 1099511627776 → ∃ y, laws_markTurn4S.l0 k x a (i : Int) = some (a + 5 * d, y) := by
  induction d with
  | zero =>
    intro k i a x hl hi hk h0 h1
    obtain ⟨k, rfl⟩ : ∃ m, k = m + 1 := ⟨k - 1, by omega⟩
    refine ⟨x, ?_⟩
    simp only [laws_markTurn4S.l0]
    rw [if_neg (by omega)]
    simp
  | succ d ih =>
    intro k i a x hl hi hk h0 h1
    obtain ⟨k, rfl⟩ : ∃ m, k = m + 1 := ⟨k - 1, by omega⟩
    have c1 : (i : Int) < (x.length : Int) := by omega
    have c2 : (0 : Int) ≤ (i : Int) := by omega
    have em : a + 1 + 1 + 1 + 1 + 1 + 5 * (d : Int) = a + 5 * ((d + 1 : Nat) : Int) := by omega
    have key : ∀ z : List S56, z.length = x.length → ∃ y, laws_markTurn4S.l0 k z (a + 1 + 1 + 1 + 1 + 1) ((i + 1 : Nat) : Int) = some (a + 1 + 1 + 1 + 1 + 1 + 5 * (d : Int), y) := fun z hz => ih k (i + 1) (a + 1 + 1 + 1 + 1 + 1) z (by omega) (by omega) (by omega) (by omega) (by omega)
    have b0 : -9223372036854775808 ≤ a ∧ a + 5 ≤ 9223372036854775807 := by omega
    have ei : wrap64 ((i : Int) + 1) = ((i + 1 : Nat) : Int) := w64 (by omega) (by omega)
    clear ih
    have e0 : wrap64 (a + 1) = a + 1 := w64 (by omega) (by omega)
    rw [← em]
    clear em
    simp only [laws_markTurn4S.l0]
    rw [if_pos c1, if_pos c2]
    simp only [Option.bind_some, e0, ei]
    clear e0 ei
    rw [w64 (x := a + 1 + 1) (by omega) (by omega), w64 (x := a + 1 + 1 + 1) (by omega) (by omega), w64 (x := a + 1 + 1 + 1 + 1) (by omega) (by omega), w64 (x := a + 1 + 1 + 1 + 1 + 1) (by omega) (by omega)]
    refine key _ ?_
    simp only [List.length_set]
theorem markT4S_ex {k : Nat} {x : List S56} {a : Int} (hl : x.length ≤ 4000000) (hk : x.length < k) (h0 : 0 ≤ a) (h1 : a ≤ 549755813888) : ∃ y, laws_markTurn4S.f k x a = some (a + 5 * x.length, y) := by
  unfold laws_markTurn4S.f
  exact markT4S_l0 x.length k 0 a x hl (by omega) hk h0 (by omega)


end Go.Proofs.Ythjlapmjpjpgeaa.D
namespace Go.Proofs.Ythjlapmjpjpgeaa.D
set_option linter.unusedSimpArgs false
set_option linter.unusedVariables false
open Go.RowKit Go.Proofs.YthjlapmjpjpgeaaW.PrintWords Go.Proofs.Ythjlapmjpjpgeaa.PbD

def TA (l : List S28) : List S28 → List S56 → List S28 → Bool → Prop
  | cur, [], out, ok => out = cur ∧ ok = true
  | cur, t :: ts, out, ok => ∃ nx o, TR cur t.f0 t.f1 t.f2 t.f3.f0 t.f3.f1 nx o ∧ if o = true then TA l nx ts out ok else out = l ∧ ok = false
theorem TA.len (l : List S28) : ∀ (ts : List S56) (cur out : List S28) (ok : Bool), TA l cur ts out ok → cur.length = l.length → out.length = l.length
  | [], cur, out, ok, h, hc => by
    obtain ⟨rfl, _⟩ := h
    exact hc
  | t :: ts, cur, out, ok, h, hc => by
    obtain ⟨nx, o, h1, h2⟩ := h
    cases o with
    | true => rw [if_pos rfl] at h2; exact TA.len l ts nx out ok h2 (h1.len.trans hc)
    | false => rw [if_neg Bool.false_ne_true] at h2; rw [h2.1]
theorem TA.same (l : List S28) : ∀ (ts : List S56) (cur cur' out out' : List S28) (ok ok' : Bool), SameL cur cur' → TA l cur ts out ok → TA l cur' ts out' ok' → SameL out out' ∧ ok = ok'
  | [], cur, cur', out, out', ok, ok', hs, h, h' => by
    obtain ⟨rfl, rfl⟩ := h
    obtain ⟨rfl, rfl⟩ := h'
    exact ⟨hs, rfl⟩
  | t :: ts, cur, cur', out, out', ok, ok', hs, h, h' => by
    obtain ⟨nx, o, h1, h2⟩ := h
    obtain ⟨nx', o', g1, g2⟩ := h'
    obtain ⟨e1, rfl⟩ := TR.same hs h1 g1
    cases o with
    | true =>
      rw [if_pos rfl] at h2 g2
      exact TA.same l ts nx nx' out out' ok ok' e1 h2 g2
    | false =>
      rw [if_neg Bool.false_ne_true] at h2 g2
      obtain ⟨rfl, rfl⟩ := h2
      obtain ⟨rfl, rfl⟩ := g2
      exact ⟨SameL.refl _, rfl⟩
theorem specTA_l0 (l : List S28) (ts : List S56) (hl : l.length ≤ 4000000) (ht : ts.length ≤ 4000000) (Q : List S28 × Bool → Prop) (d : Nat) : ∀ (k i : Nat) (cur : List S28), i + d = ts.length → d + 2 < k → cur.length ≤ 4000000 → (∀ out ok, TA l cur (ts.drop i) out ok → Q (out, ok)) → spec_TurnAll.l0 k l ts cur (i : Int) Q := by
  induction d with
  | zero =>
    intro k i cur hi hk hc hQ
    obtain ⟨k, rfl⟩ : ∃ m, k = m + 1 := ⟨k - 1, by omega⟩
    simp only [spec_TurnAll.l0]
    rw [if_neg (by omega)]
    exact hQ cur true (by rw [List.drop_of_length_le (by omega)]; exact ⟨rfl, rfl⟩)
  | succ d ih =>
    intro k i cur hi hk hc hQ
    obtain ⟨k, rfl⟩ : ∃ m, k = m + 1 := ⟨k - 1, by omega⟩
    simp only [spec_TurnAll.l0]
    rw [if_pos (by omega), if_pos (by omega), w64 (by omega) (by omega), show ((i : Int) + 1) = ((i + 1 : Nat) : Int) from by omega, rdT56_at ts i (by omega)]
    refine specTurned_of hc (by omega) fun nx o hx => ?_
    simp only at hx ⊢
    cases o with
    | true =>
      rw [if_pos rfl]
      exact ih k (i + 1) nx (by omega) (by omega) (by rw [hx.len]; exact hc) fun out ok h => hQ out ok (by rw [drop_cons ts i (by omega)]; exact ⟨nx, true, hx, by rw [if_pos rfl]; exact h⟩)
    | false =>
      rw [if_neg Bool.false_ne_true]
      exact ⟨l, sCopy_eq hl, hQ l false (by rw [drop_cons ts i (by omega)]; exact ⟨nx, false, hx, by rw [if_neg Bool.false_ne_true]; exact ⟨rfl, rfl⟩⟩)⟩
theorem implTA_l0 (l : List S28) (ts : List S56) (hl : l.length ≤ 4000000) (ht : ts.length ≤ 4000000) (Q : List S28 × Bool → Prop) (d : Nat) : ∀ (k i : Nat) (cur : List S28), i + d = ts.length → d + 2 < k → cur.length ≤ 4000000 → (∀ out ok, TA l cur (ts.drop i) out ok → Q (out, ok)) → impl_TurnAll.l0 k l cur ts (ts.length : Int) (i : Int) Q := by
  induction d with
  | zero =>
    intro k i cur hi hk hc hQ
    obtain ⟨k, rfl⟩ : ∃ m, k = m + 1 := ⟨k - 1, by omega⟩
    simp only [impl_TurnAll.l0]
    rw [if_neg (by omega)]
    exact hQ cur true (by rw [List.drop_of_length_le (by omega)]; exact ⟨rfl, rfl⟩)
  | succ d ih =>
    intro k i cur hi hk hc hQ
    obtain ⟨k, rfl⟩ : ∃ m, k = m + 1 := ⟨k - 1, by omega⟩
    simp only [impl_TurnAll.l0]
    rw [if_pos (by omega), if_pos (by omega), if_pos (by omega), w64 (by omega) (by omega), show ((i : Int) + 1) = ((i + 1 : Nat) : Int) from by omega, rdT56_at ts i (by omega)]
    refine implTurned_of hc (by omega) fun nx o hx => ?_
    simp only at hx ⊢
    cases o with
    | true =>
      rw [if_pos rfl]
      exact ih k (i + 1) nx (by omega) (by omega) (by rw [hx.len]; exact hc) fun out ok h => hQ out ok (by rw [drop_cons ts i (by omega)]; exact ⟨nx, true, hx, by rw [if_pos rfl]; exact h⟩)
    | false =>
      rw [if_neg Bool.false_ne_true]
      exact ⟨l, iCopy_eq hl, hQ l false (by rw [drop_cons ts i (by omega)]; exact ⟨nx, false, hx, by rw [if_neg Bool.false_ne_true]; exact ⟨rfl, rfl⟩⟩)⟩
/-- All turns: those behind them, or as they were. -/
def TAll (l : List S28) (ts : List S56) (out : List S28) (ok : Bool) : Prop := if ts.length ≤ 60 then TA l l ts out ok else out = l ∧ ok = false
theorem TAll.len {l ts out ok} (h : TAll l ts out ok) : out.length = l.length := by
  unfold TAll at h
  split at h
  · exact TA.len l ts l out ok h rfl
  · rw [h.1]
theorem TAll.same {l ts out out' ok ok'} (h : TAll l ts out ok) (h' : TAll l ts out' ok') : SameL out out' ∧ ok = ok' := by
  unfold TAll at h h'
  split at h
  · rename_i c
    rw [if_pos c] at h'
    exact TA.same l ts l l out out' ok ok' (SameL.refl _) h h'
  · rename_i c
    rw [if_neg c] at h'
    obtain ⟨rfl, rfl⟩ := h
    obtain ⟨rfl, rfl⟩ := h'
    exact ⟨SameL.refl _, rfl⟩
theorem specTAll_of {k : Nat} {l : List S28} {ts : List S56} {Q : List S28 × Bool → Prop} (hl : l.length ≤ 4000000) (ht : ts.length ≤ 4000000) (hk : ts.length + 2 < k) (h : ∀ out ok, TAll l ts out ok → Q (out, ok)) : spec_TurnAll.f k l ts Q := by
  unfold spec_TurnAll.f
  refine ⟨l, sCopy_eq hl, ?_⟩
  by_cases c : (ts.length : Int) > 60
  · rw [if_pos c]
    exact h l false (by unfold TAll; rw [if_neg (by omega)]; exact ⟨rfl, rfl⟩)
  · rw [if_neg c]
    exact specTA_l0 l ts hl ht Q ts.length k 0 l (by omega) hk hl fun out ok h1 => h out ok (by unfold TAll; rw [if_pos (by omega)]; rwa [List.drop_zero] at h1)
theorem implTAll_of {k : Nat} {l : List S28} {ts : List S56} {Q : List S28 × Bool → Prop} (hl : l.length ≤ 4000000) (ht : ts.length ≤ 4000000) (hk : ts.length + 2 < k) (h : ∀ out ok, TAll l ts out ok → Q (out, ok)) : impl_TurnAll.f k l ts Q := by
  unfold impl_TurnAll.f
  by_cases c : (ts.length : Int) > 60
  · rw [if_pos c]
    exact ⟨l, iCopy_eq hl, h l false (by unfold TAll; rw [if_neg (by omega)]; exact ⟨rfl, rfl⟩)⟩
  · rw [if_neg c]
    exact ⟨l, iCopy_eq hl, implTA_l0 l ts hl ht Q ts.length k 0 l (by omega) hk hl fun out ok h1 => h out ok (by unfold TAll; rw [if_pos (by omega)]; rwa [List.drop_zero] at h1)⟩


end Go.Proofs.Ythjlapmjpjpgeaa.D
namespace Go.Proofs.Ythjlapmjpjpgeaa.Pure
set_option linter.unusedVariables false
set_option linter.unusedSimpArgs false
open Go.RowKit Go.Proofs.Ythjlapmjpjpgeaa.D Go.Proofs.YthjlapmjpjpgeaaW.PrintWords Go.Proofs.Ythjlapmjpjpgeaa.PbD

theorem FnExactTurnAll : laws_FnExactTurnAll.Pure := by
  intro a b ha hb
  obtain ⟨k, hk⟩ : ∃ k : Nat, 30000000 < k := ⟨30000001, by omega⟩
  refine ⟨k + 3, ?_⟩
  unfold laws_FnExactTurnAll.f
  refine ⟨_, szPhS_eq ha.1 (by omega), ?_⟩
  by_cases h1 : a.length ≤ 1048576
  · rw [if_neg (show ¬ ((1048576 : Int) - (a.length : Int) < 0) by omega), if_neg (by omega)]
    refine ⟨_, szT4S_eq hb.1 (by omega), ?_⟩
    by_cases h2 : a.length + b.length ≤ 1048576
    · rw [if_neg (show ¬ ((1048576 : Int) - (a.length : Int) - (b.length : Int) < 0) by omega), if_neg (by omega)]
      have hm : (a.map cvPh).length = a.length := List.length_map _
      have hn : (b.map cvT4).length = b.length := List.length_map _
      generalize hx : a.map cvPh = x at hm
      generalize hy : b.map cvT4 = y at hn
      have toP : ∀ q, k ≤ q → laws_toPhasorS.f q a = some x := fun q hq => by rw [toPhS_eq (by omega) (by omega), hx]
      have toT : ∀ q, k ≤ q → laws_toTurn4S.f q b = some y := fun q hq => by rw [toT4S_eq (by omega) (by omega), hy]
      refine ⟨_, toP _ (by omega), _, toT _ (by omega), specTAll_of (by omega) (by omega) (by omega) fun w0 w1 hw => ⟨_, toP _ (by omega), _, toT _ (by omega), implTAll_of (by omega) (by omega) (by omega) fun g0 g1 hg => ?_⟩⟩
      simp only at hw hg ⊢
      have hs := TAll.same hg hw
      have lw := hw.len
      have lg := hg.len
      refine ⟨true, eqPhSS hs.1 (by omega) (by omega), ?_⟩
      obtain ⟨hs, rfl⟩ := hs
      rw [if_pos rfl]
      simp only [laws_FnExactTurnAll.j0]
      rw [bne_self_eq_false, if_neg Bool.false_ne_true]
      refine ⟨_, toP _ (by omega), true, eqPhS_refl (by omega) (by omega), ?_⟩
      rw [if_pos rfl]
      refine ⟨_, toT _ (by omega), true, eqT4S_refl (by omega) (by omega), ?_⟩
      rw [if_pos rfl]
      obtain ⟨m, hmk⟩ := markT4S_ex (k := k + 2) (x := y) (a := 1 + 2 * (x.length : Int)) (by omega) (by omega) (by omega) (by omega)
      refine ⟨_, markPhS_eq (by omega) (by omega) (by omega) (by omega), _, hmk, ?_⟩
      rw [if_neg (by simp only; omega)]
      refine ⟨true, eqPhSS hs (by omega) (by omega), ?_⟩
      rw [if_pos rfl]
      simp only [laws_FnExactTurnAll.j1]
      first | rw [if_neg Bool.false_ne_true] | rw [if_neg not_false] | skip
      refine ⟨_, markPhS_eq (by omega) (by omega) (by omega) (by omega), _, heldPhS_eq (by omega) (by omega) (by omega) (by omega), ?_⟩
      rw [if_neg (by omega), if_pos (by simp only)]
      refine ⟨_, toP _ (by omega), _, toT _ (by omega), implTAll_of (by omega) (by omega) (by omega) fun h0 h1' hh => ?_⟩
      simp only at hh ⊢
      have hs2 := TAll.same hh hw
      have lh := hh.len
      refine ⟨true, eqPhSS hs2.1 (by omega) (by omega), ?_⟩
      obtain ⟨hs2, rfl⟩ := hs2
      rw [if_pos rfl]
      simp only [laws_FnExactTurnAll.j2]
      rw [bne_self_eq_false, if_neg Bool.false_ne_true]
      refine ⟨_, heldPhS_eq (by omega) (by omega) (by omega) (by omega), ?_⟩
      rw [if_neg (by omega), if_pos (by simp only)]
      trivial
    · rw [if_pos (show ((1048576 : Int) - (a.length : Int) - (b.length : Int) < 0) by omega), if_pos (by omega)]
      trivial
  · rw [if_pos (show ((1048576 : Int) - (a.length : Int) < 0) by omega), if_pos (by omega)]
    trivial


end Go.Proofs.Ythjlapmjpjpgeaa.Pure
