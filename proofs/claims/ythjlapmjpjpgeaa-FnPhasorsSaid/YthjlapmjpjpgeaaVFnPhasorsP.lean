/- The pure statement of FnPhasors and what it needs. Conditions: those that each theorem states. -/
import Derived.Test.YthjlapmjpjpgeaaVFnPhasors3
import Derived.Laws.BitsLemmas
import Derived.RowKit
namespace Go.Proofs.Ythjlapmjpjpgeaa.PbDX
open Go.RowKit Go.Proofs.YthjlapmjpjpgeaaW.PrintWords

theorem w64 {x : Int} (h0 : -9223372036854775808 ≤ x) (h1 : x ≤ 9223372036854775807) : wrap64 x = x := by
  unfold wrap64
  omega

theorem rd_at (l : List Int) (i : Nat) (h : i < l.length) : rd l (i : Int) = l[i] := by
  simp [rd, List.getD_eq_getElem?_getD, List.getElem?_eq_getElem h]

theorem drop_cons {α : Type} (l : List α) (i : Nat) (h : i < l.length) : l.drop i = l[i] :: l.drop (i + 1) := List.drop_eq_getElem_cons h


end Go.Proofs.Ythjlapmjpjpgeaa.PbDX
namespace Go.Proofs.Ythjlapmjpjpgeaa.DX
set_option linter.unusedSimpArgs false
set_option linter.unusedVariables false
open Go.RowKit Go.Proofs.YthjlapmjpjpgeaaW.PrintWords

/-- Two floats that pass for the same: both are no numbers, or their bits are the same and it is a number. -/
def Same (a b : Nat) : Prop := (FloatKind.f64.format.order a a = none ∧ FloatKind.f64.format.order b b = none) ∨ a = b
theorem Same.refl (a : Nat) : Same a a := Or.inr rfl

end Go.Proofs.Ythjlapmjpjpgeaa.DX
namespace Go.Proofs.Ythjlapmjpjpgeaa.DX
set_option linter.unusedSimpArgs false
set_option linter.unusedVariables false
open Go.RowKit Go.Proofs.YthjlapmjpjpgeaaW.PrintWords Go.Proofs.Ythjlapmjpjpgeaa.PbDX

theorem rdT28_at (l : List S28) (i : Nat) (h : i < l.length) : rd_T28 l (i : Int) = l[i] := by
  simp [rd_T28, List.getD_eq_getElem?_getD, List.getElem?_eq_getElem h]

end Go.Proofs.Ythjlapmjpjpgeaa.DX
namespace Go.Proofs.Ythjlapmjpjpgeaa.DX
set_option linter.unusedSimpArgs false
set_option linter.unusedVariables false
open Go.RowKit Go.Proofs.YthjlapmjpjpgeaaW.PrintWords

theorem nan_left {op : BinOp} {x y : Nat} (h : FloatKind.f64.format.order x x = none) : floatBits op .f64 x y = none := by
  unfold Ieee.Format.order at h
  have hn : ∃ s t, FloatKind.f64.format.read x = .nan s t := by
    cases hx : FloatKind.f64.format.read x with
    | number s m e => rw [hx] at h; simp [Ieee.Datum.order] at h
    | infinity s => rw [hx] at h; simp [Ieee.Datum.order] at h
    | nan s t => exact ⟨s, t, rfl⟩
  obtain ⟨s, t, hx⟩ := hn
  unfold floatBits
  cases op <;> simp only [Ieee.Format.add, Ieee.Format.sub, Ieee.Format.mul, Ieee.Format.div, hx] <;> rfl
theorem nan_right {op : BinOp} {x y : Nat} (h : FloatKind.f64.format.order y y = none) : floatBits op .f64 x y = none := by
  unfold Ieee.Format.order at h
  have hn : ∃ s t, FloatKind.f64.format.read y = .nan s t := by
    cases hx : FloatKind.f64.format.read y with
    | number s m e => rw [hx] at h; simp [Ieee.Datum.order] at h
    | infinity s => rw [hx] at h; simp [Ieee.Datum.order] at h
    | nan s t => exact ⟨s, t, rfl⟩
  obtain ⟨s, t, hx⟩ := hn
  unfold floatBits
  cases op <;> simp only [Ieee.Format.add, Ieee.Format.sub, Ieee.Format.mul, Ieee.Format.div, hx] <;> (cases FloatKind.f64.format.read x <;> rfl)
theorem frk_same {op : BinOp} {x y r x' y' r' : Nat} (h : FRk .f64 op x y r) (h' : FRk .f64 op x' y' r') (hx : Same x x') (hy : Same y y') : Same r r' := by
  have nn : floatBits op .f64 x y = none → floatBits op .f64 x' y' = none → Same r r' := by
    intro a b
    rcases h with h | ⟨_, h⟩
    · rw [a] at h; cases h
    · rcases h' with h' | ⟨_, h'⟩
      · rw [b] at h'; cases h'
      · exact Or.inl ⟨h, h'⟩
  rcases hx with ⟨h1, h2⟩ | rfl
  · exact nn (nan_left h1) (nan_left h2)
  · rcases hy with ⟨h1, h2⟩ | rfl
    · exact nn (nan_right h1) (nan_right h2)
    · rcases h with h | ⟨h0, h⟩
      · rcases h' with h' | ⟨h0', h'⟩
        · exact Or.inr (Option.some.inj (h.symm.trans h'))
        · rw [h0'] at h; cases h
      · exact nn h0 h0
theorem Same.symm {a b : Nat} (h : Same a b) : Same b a := by
  rcases h with ⟨h1, h2⟩ | rfl
  · exact Or.inl ⟨h2, h1⟩
  · exact Or.inr rfl
/-- The product of two phasors, each part to its bits or to no number. -/
def PT (a b c d p q : Nat) : Prop := ∃ w x y z, FRk .f64 .mul a c w ∧ FRk .f64 .mul b d x ∧ FRk .f64 .mul a d y ∧ FRk .f64 .mul b c z ∧ FRk .f64 .sub w x p ∧ FRk .f64 .add y z q
theorem PT.same {a b c d p q a' b' c' d' p' q' : Nat} (h : PT a b c d p q) (h' : PT a' b' c' d' p' q') (ha : Same a a') (hb : Same b b') (hc : Same c c') (hd : Same d d') : Same p p' ∧ Same q q' := by
  obtain ⟨w, x, y, z, h1, h2, h3, h4, h5, h6⟩ := h
  obtain ⟨w', x', y', z', g1, g2, g3, g4, g5, g6⟩ := h'
  exact ⟨frk_same h5 g5 (frk_same h1 g1 ha hc) (frk_same h2 g2 hb hd), frk_same h6 g6 (frk_same h3 g3 ha hd) (frk_same h4 g4 hb hc)⟩


end Go.Proofs.Ythjlapmjpjpgeaa.DX
namespace Go.Proofs.Ythjlapmjpjpgeaa.DX
set_option linter.unusedSimpArgs false
set_option linter.unusedVariables false
open Go.RowKit Go.Proofs.YthjlapmjpjpgeaaW.PrintWords

/-- Is a float's word a number (neither infinite nor none)? -/
def finB (x : Nat) : Bool := (floatBits .sub .f64 x x).isSome
theorem sw64' : FloatKind.f64.format.signWeight = 9223372036854775808 := by decide +kernel
theorem bi64' : FloatKind.f64.format.binade = 4503599627370496 := by decide +kernel
theorem in64' : FloatKind.f64.format.infRung = 9218868437227405312 := by decide +kernel
theorem lp64' : FloatKind.f64.format.leastPlace = -1074 := by decide +kernel
/-- A word that is a number: how great it can be. -/
theorem read64 {x : Nat} {s : Bool} {m : Nat} {e : Int} (h : FloatKind.f64.format.read x = .number s m e) : m < 9007199254740992 ∧ -1074 ≤ e ∧ e ≤ 971 := by
  unfold Ieee.Format.read at h
  rw [sw64', bi64', in64', lp64'] at h
  simp only at h
  split at h
  · injection h with _ h1 h2
    subst h1 h2
    omega
  · split at h
    · injection h with _ h1 h2
      subst h1 h2
      omega
    · split at h <;> simp at h
theorem abs_eq (x : Nat) : (Go.bits .andNot .u64 (x : Int) 9223372036854775808).toNat = x % 9223372036854775808 := by
  have h1 : (BitVec.ofInt 64 (x : Int) &&& ~~~(BitVec.ofInt 64 9223372036854775808)).toNat = x % 9223372036854775808 := by
    have e1 : ~~~(BitVec.ofInt 64 9223372036854775808) = BitVec.ofNat 64 9223372036854775807 := by decide
    rw [e1, BitVec.toNat_and, BitVec.ofInt_natCast, BitVec.toNat_ofNat, BitVec.toNat_ofNat]
    have e2 : 9223372036854775807 % 2 ^ 64 = 2 ^ 63 - 1 := by decide
    rw [e2, Nat.and_two_pow_sub_one_eq_mod]
    omega
  unfold Go.bits
  simp only [IntKind.bits]
  show (IntKind.u64.wrap (((BitVec.ofInt 64 (x : Int) &&& ~~~(BitVec.ofInt 64 9223372036854775808)).toNat : Nat) : Int)).toNat = _
  rw [h1]
  have h2 : IntKind.u64.wrap ((x % 9223372036854775808 : Nat) : Int) = ((x % 9223372036854775808 : Nat) : Int) := by
    simp [IntKind.wrap, IntKind.bits]
    omega
  rw [h2, Int.toNat_natCast]
theorem read_abs (x : Nat) : FloatKind.f64.format.read (x % 9223372036854775808) = match FloatKind.f64.format.read x with
    | .number _ m e => .number false m e
    | .infinity _ => .infinity false
    | .nan _ t => .nan false t := by
  unfold Ieee.Format.read
  rw [sw64', bi64', in64', lp64']
  have h1 : x % 9223372036854775808 % 9223372036854775808 = x % 9223372036854775808 := Nat.mod_mod _ _
  have h2 : x % 9223372036854775808 / 9223372036854775808 = 0 := by omega
  rw [h1, h2]
  simp only
  split
  · rfl
  · split
    · rfl
    · split <;> rfl
theorem max_read : FloatKind.f64.format.read 9218868437227405311 = .number false 9007199254740991 971 := by decide +kernel
/-- Is a word a number? -/
theorem finB_iff (x : Nat) : finB x = (match FloatKind.f64.format.read x with | .number _ _ _ => true | _ => false) := by
  unfold finB floatBits
  simp only [Ieee.Format.sub, Option.isSome_map]
  cases hx : FloatKind.f64.format.read x with
  | nan s t => rfl
  | infinity s => cases s <;> rfl
  | number s m e => rfl
theorem isInf_eq (x : Nat) : math_IsInf.f x 0 = some (match FloatKind.f64.format.read x with | .infinity _ => true | _ => false) := by
  unfold math_IsInf.f math_Abs.f
  rw [if_pos rfl, Option.bind_some, abs_eq]
  congr 1
  unfold Ieee.Format.order
  rw [read_abs, max_read]
  cases hx : FloatKind.f64.format.read x with
  | nan s t => rfl
  | infinity s => rfl
  | number s m e =>
    obtain ⟨h1, h2, h3⟩ := read64 hx
    simp only [Ieee.Datum.order, Ieee.signed, Bool.false_eq_true, if_false]
    have e1 : min e 971 = e := by omega
    rw [e1, show (e - e).toNat = 0 from by omega, Nat.shiftLeft_zero]
    have h4 : m ≤ 9007199254740991 <<< (971 - e).toNat := by
      rw [Nat.shiftLeft_eq]
      exact Nat.le_trans (by omega : m ≤ 9007199254740991 * 1) (Nat.mul_le_mul_left _ (Nat.two_pow_pos _))
    generalize 9007199254740991 <<< (971 - e).toNat = b at h4 ⊢
    rcases Nat.lt_or_eq_of_le h4 with h5 | rfl
    · have : compare (m : Int) (b : Int) = .lt := by simp [compare, compareOfLessAndEq]; omega
      rw [this]
      rfl
    · have : compare (m : Int) (m : Int) = .eq := by simp [compare, compareOfLessAndEq]
      rw [this]
      rfl
theorem isNaN_eq (x : Nat) : math_IsNaN.f x = some (match FloatKind.f64.format.read x with | .nan _ _ => true | _ => false) := by
  unfold math_IsNaN.f
  congr 1
  unfold Ieee.Format.order
  cases hx : FloatKind.f64.format.read x with
  | nan s t => rfl
  | infinity s => cases s <;> rfl
  | number s m e =>
    simp only [Ieee.Datum.order]
    have : ∀ a : Int, (some (compare a a) != some Ordering.eq) = false := fun a => by
      have : compare a a = .eq := by simp [compare, compareOfLessAndEq]
      rw [this]
      rfl
    exact this _
theorem isFinite_eq (x y : Nat) : impl_isFinite.f x y = some (finB x && finB y) := by
  unfold impl_isFinite.f
  rw [isNaN_eq, isNaN_eq, isInf_eq, isInf_eq, finB_iff, finB_iff]
  cases FloatKind.f64.format.read x <;> cases FloatKind.f64.format.read y <;> rfl
/-- A word that is written of a number is no NaN. -/
theorem nearest_read (s : Bool) (m : Nat) (e : Int) : (∃ s' m' e', FloatKind.f64.format.read (FloatKind.f64.format.nearest s m e) = .number s' m' e' ∧ s' = s) ∨ FloatKind.f64.format.read (FloatKind.f64.format.nearest s m e) = .infinity s := by
  have key : ∀ rung, rung ≤ 9218868437227405312 → (∃ s' m' e', FloatKind.f64.format.read (FloatKind.f64.format.word s rung) = .number s' m' e' ∧ s' = s) ∨ FloatKind.f64.format.read (FloatKind.f64.format.word s rung) = .infinity s := by
    intro rung hr
    have h1 : FloatKind.f64.format.word s rung % 9223372036854775808 = rung := by
      unfold Ieee.Format.word
      rw [sw64']
      split <;> omega
    have h2 : (FloatKind.f64.format.word s rung / 9223372036854775808 % 2 == 1) = s := by
      unfold Ieee.Format.word
      rw [sw64']
      cases s
      · simp
        omega
      · simp
        omega
    unfold Ieee.Format.read
    rw [sw64', bi64', in64', lp64']
    simp only [h1, h2]
    by_cases c1 : rung < 4503599627370496
    · rw [if_pos c1]
      exact Or.inl ⟨_, _, _, rfl, rfl⟩
    · rw [if_neg c1]
      by_cases c2 : rung < 9218868437227405312
      · rw [if_pos c2]
        exact Or.inl ⟨_, _, _, rfl, rfl⟩
      · rw [if_neg c2, if_pos (by omega)]
        exact Or.inr rfl
  unfold Ieee.Format.nearest
  split
  · exact key 0 (by omega)
  · rw [in64']
    exact key _ (Nat.min_le_right _ _)
theorem inf_read (s : Bool) : FloatKind.f64.format.read (FloatKind.f64.format.word s FloatKind.f64.format.infRung) = .infinity s := by
  cases s <;> decide +kernel
/-- Of a number, its square is a number or the positive infinity. -/
theorem square_read {x r : Nat} (hx : finB x = true) (h : FRk .f64 .mul x x r) : (∃ m e, FloatKind.f64.format.read r = .number false m e) ∨ FloatKind.f64.format.read r = .infinity false := by
  rw [finB_iff] at hx
  cases hr : FloatKind.f64.format.read x with
  | nan s t => rw [hr] at hx; cases hx
  | infinity s => rw [hr] at hx; cases hx
  | number s m e =>
    have hb : floatBits .mul .f64 x x = some (FloatKind.f64.format.nearest false (m * m) (e + e)) := by
      unfold floatBits
      simp only [Ieee.Format.mul, hr, Ieee.Datum.product, Bool.xor_self, Option.map_some, Ieee.Format.write]
    rcases h with h | ⟨h, _⟩
    · obtain rfl := Option.some.inj (hb.symm.trans h)
      rcases nearest_read false (m * m) (e + e) with ⟨s', m', e', h1, rfl⟩ | h1
      · exact Or.inl ⟨_, _, h1⟩
      · exact Or.inr h1
    · rw [hb] at h
      cases h
/-- The sum of two squares is no NaN. -/
theorem squares_read {x y u v r : Nat} (hx : finB x = true) (hy : finB y = true) (hu : FRk .f64 .mul x x u) (hv : FRk .f64 .mul y y v) (h : FRk .f64 .add u v r) : (∃ s m e, FloatKind.f64.format.read r = .number s m e) ∨ ∃ s, FloatKind.f64.format.read r = .infinity s := by
  have key : ∀ d, floatBits .add .f64 u v = some d → ((∃ s m e, FloatKind.f64.format.read d = .number s m e) ∨ ∃ s, FloatKind.f64.format.read d = .infinity s) → (∃ s m e, FloatKind.f64.format.read r = .number s m e) ∨ ∃ s, FloatKind.f64.format.read r = .infinity s := by
    intro d hd hg
    rcases h with h | ⟨h, _⟩
    · obtain rfl := Option.some.inj (hd.symm.trans h)
      exact hg
    · rw [hd] at h
      cases h
  have wr : ∀ s m e, (∃ s' m' e', FloatKind.f64.format.read (FloatKind.f64.format.write (.number s m e)) = .number s' m' e') ∨ ∃ s', FloatKind.f64.format.read (FloatKind.f64.format.write (.number s m e)) = .infinity s' := by
    intro s m e
    rcases nearest_read s m e with ⟨s', m', e', h1, _⟩ | h1
    · exact Or.inl ⟨_, _, _, h1⟩
    · exact Or.inr ⟨_, h1⟩
  rcases square_read hx hu with ⟨m, e, h1⟩ | h1 <;> rcases square_read hy hv with ⟨n, f, h2⟩ | h2
  · exact key _ (by unfold floatBits; simp only [Ieee.Format.add, h1, h2, Ieee.Datum.sum, Option.map_some]; rfl) (wr _ _ _)
  · exact key _ (by unfold floatBits; simp only [Ieee.Format.add, h1, h2, Ieee.Datum.sum, Option.map_some]; rfl) (Or.inr ⟨_, inf_read _⟩)
  · exact key _ (by unfold floatBits; simp only [Ieee.Format.add, h1, h2, Ieee.Datum.sum, Option.map_some]; rfl) (Or.inr ⟨_, inf_read _⟩)
  · exact key _ (by unfold floatBits; simp only [Ieee.Format.add, h1, h2, Ieee.Datum.sum, if_true, Option.map_some]; rfl) (Or.inr ⟨_, inf_read _⟩)

/-- Is the quotient told? -/
def okO (a b c d s : Nat) : Bool := finB a && finB b && finB c && finB d && finB s && !(FloatKind.f64.format.order s 0 == some .eq)
/-- The quotient of two phasors, each part to its bits or to no number; or refused. -/
def PhO (a b c d u v : Nat) (o : Bool) : Prop := ∃ rr ii s, FRk .f64 .mul c c rr ∧ FRk .f64 .mul d d ii ∧ FRk .f64 .add rr ii s ∧ if okO a b c d s = true then ∃ p q, PT a b c (Go.Op.negFloat .f64 d) p q ∧ FRk .f64 .quo p s u ∧ FRk .f64 .quo q s v ∧ o = true else u = 0 ∧ v = 0 ∧ o = false
theorem frk_ex (op : BinOp) (x y : Nat) : ∃ r, FRk .f64 op x y r := by
  cases h : floatBits op .f64 x y with
  | some r => exact ⟨r, Or.inl h⟩
  | none => exact ⟨9221120237041090560, Or.inr ⟨h, by decide +kernel⟩⟩
theorem implOver_of {k a b c d : Nat} {Q : Nat × Nat × Bool → Prop} (hk : 0 < k) (h : ∀ u v o, PhO a b c d u v o → Q (u, v, o)) : impl_PhOver.f k a b c d Q := by
  obtain ⟨k, rfl⟩ : ∃ m, k = m + 1 := ⟨k - 1, by omega⟩
  have no : ∀ rr ii s, FRk .f64 .mul c c rr → FRk .f64 .mul d d ii → FRk .f64 .add rr ii s → okO a b c d s = false → Q (0, 0, false) := fun rr ii s hrr hii hs h0 => h 0 0 false ⟨rr, ii, s, hrr, hii, hs, by rw [if_neg (by rw [h0]; simp)]; exact ⟨rfl, rfl, rfl⟩⟩
  have early : (finB a && finB b && finB c && finB d) = false → Q (0, 0, false) := by
    intro h0
    obtain ⟨rr, hrr⟩ := frk_ex .mul c c
    obtain ⟨ii, hii⟩ := frk_ex .mul d d
    obtain ⟨s, hs⟩ := frk_ex .add rr ii
    exact no rr ii s hrr hii hs (by unfold okO; rw [h0]; rfl)
  unfold impl_PhOver.f
  refine ⟨_, isFinite_eq a b, ?_⟩
  cases hab : (finB a && finB b) with
  | false =>
    rw [if_neg Bool.false_ne_true]
    simp only [impl_PhOver.j0]
    first | rw [if_pos rfl] | rw [if_pos trivial]
    exact early (by rw [hab]; rfl)
  | true =>
    rw [if_pos rfl]
    refine ⟨_, isFinite_eq c d, ?_⟩
    simp only [impl_PhOver.j0]
    cases hcd : (finB c && finB d) with
    | false =>
      rw [Bool.not_false, if_pos rfl]
      exact early (by rw [hab, Bool.true_and, hcd])
    | true =>
      rw [Bool.not_true, if_neg Bool.false_ne_true]
      intro rr hrr ii hii s hs
      have hc : finB c = true := (Bool.and_eq_true_iff.1 hcd).1
      have hd : finB d = true := (Bool.and_eq_true_iff.1 hcd).2
      have ha : finB a = true := (Bool.and_eq_true_iff.1 hab).1
      have hb : finB b = true := (Bool.and_eq_true_iff.1 hab).2
      cases h0 : (FloatKind.f64.format.order s 0 == some .eq) with
      | true => rw [if_pos rfl]; exact no rr ii s hrr hii hs (by simp [okO, h0])
      | false =>
        rw [if_neg Bool.false_ne_true]
        refine ⟨_, isInf_eq s, ?_⟩
        have hf := finB_iff s
        rcases squares_read hc hd hrr hii hs with ⟨t, m, e, hr⟩ | ⟨t, hr⟩
        · rw [hr] at hf ⊢
          rw [if_neg (by simp)]
          intro w hw x hx y hy z hz p hp q hq u hu v hv
          exact h u v true ⟨rr, ii, s, hrr, hii, hs, by rw [if_pos (by simp [okO, ha, hb, hc, hd, hf, h0])]; exact ⟨p, q, ⟨w, x, y, z, hw, hx, hy, hz, hp, hq⟩, hu, hv, rfl⟩⟩
        · rw [hr] at hf ⊢
          rw [if_pos rfl]
          exact no rr ii s hrr hii hs (by simp [okO, hf])
theorem finB_same {x y : Nat} (h : Same x y) : finB x = finB y := by
  rcases h with ⟨h1, h2⟩ | rfl
  · unfold finB
    rw [nan_left h1, nan_left h2]
  · rfl
theorem order0_same {x y : Nat} (h : Same x y) : FloatKind.f64.format.order x 0 = FloatKind.f64.format.order y 0 := by
  rcases h with ⟨h1, h2⟩ | rfl
  · have nn : ∀ z, FloatKind.f64.format.order z z = none → FloatKind.f64.format.order z 0 = none := by
      intro z hz
      unfold Ieee.Format.order at hz ⊢
      cases hx : FloatKind.f64.format.read z with
      | number s m e => rw [hx] at hz; simp [Ieee.Datum.order] at hz
      | infinity s => rw [hx] at hz; simp [Ieee.Datum.order] at hz
      | nan s t => rfl
    rw [nn x h1, nn y h2]
  · rfl
theorem neg_read (x : Nat) : FloatKind.f64.format.read (Go.Op.negFloat .f64 x) = (FloatKind.f64.format.read x).opposite := by
  have hx : Go.Op.negFloat .f64 x = x ^^^ 9223372036854775808 := by
    unfold Go.Op.negFloat
    have : 2 ^ (FloatKind.f64.format.exponentBits + FloatKind.f64.format.fractionBits) = 9223372036854775808 := by decide +kernel
    rw [this]
  have h1 : (x ^^^ 9223372036854775808) % 9223372036854775808 = x % 9223372036854775808 := by
    have := Nat.xor_mod_two_pow (a := x) (b := 9223372036854775808) (n := 63)
    have e1 : (2 : Nat) ^ 63 = 9223372036854775808 := by decide
    rw [e1] at this
    rw [this, Nat.mod_self, Nat.xor_zero]
  have h2 : (x ^^^ 9223372036854775808) / 9223372036854775808 = x / 9223372036854775808 ^^^ 1 := by
    have := Nat.xor_div_two_pow (a := x) (b := 9223372036854775808) (n := 63)
    have e1 : (2 : Nat) ^ 63 = 9223372036854775808 := by decide
    rw [e1] at this
    rw [this]
  have h3 : (x / 9223372036854775808 ^^^ 1) % 2 = 1 - x / 9223372036854775808 % 2 := by
    have := Nat.xor_mod_two_pow (a := x / 9223372036854775808) (b := 1) (n := 1)
    rw [show (2 : Nat) ^ 1 = 2 from rfl] at this
    rw [this]
    rcases Nat.mod_two_eq_zero_or_one (x / 9223372036854775808) with h | h <;> rw [h] <;> rfl
  rw [hx]
  unfold Ieee.Format.read
  rw [sw64', bi64', in64', lp64', h1, h2, h3]
  have hs : (1 - x / 9223372036854775808 % 2 == 1) = !(x / 9223372036854775808 % 2 == 1) := by
    rcases Nat.mod_two_eq_zero_or_one (x / 9223372036854775808) with h | h <;> rw [h] <;> rfl
  simp only [hs]
  split
  · rfl
  · split
    · rfl
    · split <;> rfl
theorem neg_same {x y : Nat} (h : Same x y) : Same (Go.Op.negFloat .f64 x) (Go.Op.negFloat .f64 y) := by
  have nn : ∀ z, FloatKind.f64.format.order z z = none → FloatKind.f64.format.order (Go.Op.negFloat .f64 z) (Go.Op.negFloat .f64 z) = none := by
    intro z hz
    unfold Ieee.Format.order at hz ⊢
    rw [neg_read]
    cases hx : FloatKind.f64.format.read z with
    | number s m e => rw [hx] at hz; simp [Ieee.Datum.order] at hz
    | infinity s => rw [hx] at hz; simp [Ieee.Datum.order] at hz
    | nan s t => rfl
  rcases h with ⟨h1, h2⟩ | rfl
  · exact Or.inl ⟨nn x h1, nn y h2⟩
  · exact Same.refl _
theorem PhO.same {a b c d u v a' b' c' d' u' v' : Nat} {o o' : Bool} (h : PhO a b c d u v o) (h' : PhO a' b' c' d' u' v' o') (ha : Same a a') (hb : Same b b') (hc : Same c c') (hd : Same d d') : Same u u' ∧ Same v v' ∧ o = o' := by
  obtain ⟨rr, ii, s, h1, h2, h3, h4⟩ := h
  obtain ⟨rr', ii', s', g1, g2, g3, g4⟩ := h'
  have hs : Same s s' := frk_same h3 g3 (frk_same h1 g1 hc hc) (frk_same h2 g2 hd hd)
  have ho : okO a b c d s = okO a' b' c' d' s' := by
    unfold okO
    rw [finB_same ha, finB_same hb, finB_same hc, finB_same hd, finB_same hs, order0_same hs]
  by_cases hk : okO a b c d s = true
  · rw [if_pos hk] at h4
    rw [if_pos (ho ▸ hk)] at g4
    obtain ⟨p, q, p1, p2, p3, rfl⟩ := h4
    obtain ⟨p', q', q1, q2, q3, rfl⟩ := g4
    have hp := PT.same p1 q1 ha hb hc (neg_same hd)
    exact ⟨frk_same p2 q2 hp.1 hs, frk_same p3 q3 hp.2 hs, rfl⟩
  · rw [if_neg hk] at h4
    rw [if_neg (ho ▸ hk)] at g4
    obtain ⟨rfl, rfl, rfl⟩ := h4
    obtain ⟨rfl, rfl, rfl⟩ := g4
    exact ⟨Same.refl _, Same.refl _, rfl⟩


end Go.Proofs.Ythjlapmjpjpgeaa.DX
namespace Go.Proofs.Ythjlapmjpjpgeaa.DX
set_option linter.unusedSimpArgs false
set_option linter.unusedVariables false
open Go.RowKit Go.Proofs.YthjlapmjpjpgeaaW.PrintWords Go.Proofs.Ythjlapmjpjpgeaa.PbDX

def SameL : List S28 → List S28 → Prop
  | [], [] => True
  | x :: a, y :: b => Same x.f0 y.f0 ∧ Same x.f1 y.f1 ∧ SameL a b
  | _, _ => False
theorem SameL.refl : ∀ l, SameL l l
  | [] => trivial
  | x :: l => ⟨Same.refl _, Same.refl _, SameL.refl l⟩
theorem SameL.len : ∀ {a b}, SameL a b → a.length = b.length
  | [], [], _ => rfl
  | x :: a, y :: b, h => by simp [SameL.len h.2.2]
theorem SameL.set : ∀ {a b} (i : Nat) {u v : S28}, SameL a b → Same u.f0 v.f0 → Same u.f1 v.f1 → SameL (a.set i u) (b.set i v)
  | [], [], _, _, _, _, _, _ => trivial
  | x :: a, y :: b, 0, _, _, h, h1, h2 => ⟨h1, h2, h.2.2⟩
  | x :: a, y :: b, i + 1, _, _, h, h1, h2 => ⟨h.1, h.2.1, SameL.set i h.2.2 h1 h2⟩
theorem SameL.getD : ∀ {a b} (i : Nat), SameL a b → Same (a.getD i z28).f0 (b.getD i z28).f0 ∧ Same (a.getD i z28).f1 (b.getD i z28).f1
  | [], [], _, _ => ⟨Same.refl _, Same.refl _⟩
  | x :: a, y :: b, 0, h => ⟨h.1, h.2.1⟩
  | x :: a, y :: b, i + 1, h => SameL.getD i h.2.2
theorem SameL.rd {a b} (h : SameL a b) (i : Int) : Same (rd_T28 a i).f0 (rd_T28 b i).f0 ∧ Same (rd_T28 a i).f1 (rd_T28 b i).f1 := SameL.getD i.toNat h
theorem SameL.drop : ∀ {a b} (i : Nat), SameL a b → SameL (a.drop i) (b.drop i)
  | a, b, 0, h => h
  | [], [], i + 1, _ => trivial
  | x :: a, y :: b, i + 1, h => SameL.drop i h.2.2

end Go.Proofs.Ythjlapmjpjpgeaa.DX
namespace Go.Proofs.Ythjlapmjpjpgeaa.DX
set_option linter.unusedSimpArgs false
set_option linter.unusedVariables false
open Go.RowKit Go.Proofs.YthjlapmjpjpgeaaW.PrintWords Go.Proofs.Ythjlapmjpjpgeaa.PbDX

theorem cut_exact (s : Bool) (a d : Nat) : Ieee.Toward.even.cut s (a * 2 ^ d) d = a := by
  unfold Ieee.Toward.cut
  rcases Nat.eq_zero_or_pos a with rfl | ha
  · simp
  · have hl : min d ((a * 2 ^ d).log2 + 2) = d := by
      have h1 : d ≤ (a * 2 ^ d).log2 := by
        rw [Nat.le_log2 (Nat.mul_ne_zero (by omega) (Nat.ne_of_gt (Nat.two_pow_pos d)))]
        exact Nat.le_mul_of_pos_left _ ha
      omega
    rw [hl]
    have hg : 1 <<< d = 2 ^ d := by rw [Nat.shiftLeft_eq, Nat.one_mul]
    simp only [hg]
    have h2 : a * 2 ^ d / 2 ^ d = a := Nat.mul_div_cancel _ (Nat.two_pow_pos d)
    have h3 : a * 2 ^ d % 2 ^ d = 0 := Nat.mul_mod_left _ _
    rw [h2, h3]
    have h4 : ¬ (2 ^ d < 2 * 0) := by omega
    have h5 : ¬ (2 ^ d = 2 * 0) := by have := Nat.two_pow_pos d; omega
    simp [h4, h5]
theorem log2_mul_pow (m k : Nat) (hm : m ≠ 0) : (m * 2 ^ k).log2 = m.log2 + k := by
  have hp := Nat.two_pow_pos k
  have h0 : m * 2 ^ k ≠ 0 := Nat.mul_ne_zero hm (Nat.ne_of_gt hp)
  rw [Nat.log2_eq_iff h0]
  constructor
  · rw [Nat.pow_add]
    exact Nat.mul_le_mul_right _ (Nat.log2_self_le hm)
  · rw [show m.log2 + k + 1 = (m.log2 + 1) + k from by omega, Nat.pow_add]
    exact Nat.mul_lt_mul_of_pos_right Nat.lt_log2_self hp
theorem fb64' : FloatKind.f64.format.fractionBits = 52 := rfl
theorem min_of {a K : Nat} (ha : a ≤ 1974) (hK : K < 9007199254740992) : min (a * 4503599627370496 + K) 9218868437227405312 = a * 4503599627370496 + K := Nat.min_eq_left (by omega)
theorem word_mod (s : Bool) {n : Nat} (h : n < 9223372036854775808) : FloatKind.f64.format.word s n % 9223372036854775808 = n := by
  unfold Ieee.Format.word
  rw [sw64']
  split <;> omega
theorem word_sign (s : Bool) {n : Nat} (h : n < 9223372036854775808) : (FloatKind.f64.format.word s n / 9223372036854775808 % 2 == 1) = s := by
  unfold Ieee.Format.word
  rw [sw64']
  cases s
  · rw [if_neg Bool.false_ne_true, show n / 9223372036854775808 % 2 = 0 from by omega]
    rfl
  · rw [if_pos rfl, show (9223372036854775808 + n) / 9223372036854775808 % 2 = 1 from by omega]
    rfl
theorem read_rung (s : Bool) {a K : Nat} (ha : a ≤ 1974) (hK : K < 9007199254740992) (h : a ≠ 0 → 4503599627370496 ≤ K) : FloatKind.f64.format.read (FloatKind.f64.format.word s (a * 4503599627370496 + K)) = .number s K ((a : Int) - 1074) := by
  have hn : a * 4503599627370496 + K < 9218868437227405312 := by omega
  unfold Ieee.Format.read
  rw [sw64', bi64', in64', lp64']
  simp only [word_mod s (show a * 4503599627370496 + K < 9223372036854775808 by omega), word_sign s (show a * 4503599627370496 + K < 9223372036854775808 by omega)]
  by_cases c1 : a * 4503599627370496 + K < 4503599627370496
  · have h0 : a = 0 := by omega
    subst h0
    rw [if_pos c1]
    simp
  · rw [if_neg c1, if_pos hn]
    by_cases c2 : a = 0
    · subst c2
      have e1 : (0 * 4503599627370496 + K) % 4503599627370496 = K - 4503599627370496 := by omega
      have e2 : (0 * 4503599627370496 + K) / 4503599627370496 - 1 = 0 := by omega
      rw [e1, e2]
      exact congr (congrArg (Ieee.Datum.number s) (by omega)) (by omega)
    · have h1 := h c2
      have e1 : (a * 4503599627370496 + K) % 4503599627370496 = K - 4503599627370496 := by omega
      have e2 : (a * 4503599627370496 + K) / 4503599627370496 - 1 = a := by omega
      rw [e1, e2]
      exact congr (congrArg (Ieee.Datum.number s) (by omega)) (by omega)
/-- What is written of m * 2 ^ e, told to more places: it reads as that number, if it needs no rounding and isn't too great. -/
theorem read_nearest (s : Bool) (m k : Nat) (e : Int) (hm : m < 9007199254740992) (h0 : -1074 ≤ e) (h1 : e ≤ 900) : ∃ q : Nat, -1074 ≤ e - q ∧ FloatKind.f64.format.read (FloatKind.f64.format.nearest s (m * 2 ^ k) (e - k)) = .number s (m * 2 ^ q) (e - q) ∧ (m ≠ 0 → m * 2 ^ q < 9007199254740992 ∧ (e - q = -1074 ∨ 4503599627370496 ≤ m * 2 ^ q)) := by
  by_cases hz : m = 0
  · subst hz
    refine ⟨(e + 1074).toNat, by omega, ?_, fun h => absurd rfl h⟩
    unfold Ieee.Format.nearest
    rw [Nat.zero_mul, if_pos rfl, Nat.zero_mul, show e - ((e + 1074).toNat : Int) = -1074 from by omega]
    cases s <;> decide +kernel
  · have hp := Nat.two_pow_pos k
    have hne : m * 2 ^ k ≠ 0 := Nat.mul_ne_zero hz (Nat.ne_of_gt hp)
    have hl : m.log2 < 53 := (Nat.log2_lt hz).2 (by omega)
    have hlo : 2 ^ m.log2 ≤ m := Nat.log2_self_le hz
    have hhi : m < 2 ^ (m.log2 + 1) := Nat.lt_log2_self
    unfold Ieee.Format.nearest
    rw [if_neg hne, log2_mul_pow m k hz, fb64', lp64', bi64', in64']
    generalize m.log2 = l at hl hlo hhi ⊢
    obtain ⟨last, hlast⟩ : ∃ last : Int, last = max (e + l - 52) (-1074) := ⟨_, rfl⟩
    have hla : max (e - (k : Int) + ((l + k : Nat) : Int) - ((52 : Nat) : Int)) (-1074) = last := by omega
    rw [hla]
    have hle : last ≤ e := by omega
    obtain ⟨q, hq⟩ : ∃ q : Nat, e - last = (q : Int) := ⟨(e - last).toNat, by omega⟩
    have hkept : Ieee.Toward.even.cut s ((m * 2 ^ k) <<< (e - (k : Int) - last).toNat) (last - (e - (k : Int))).toNat = m * 2 ^ q := by
      by_cases hk : k ≤ q
      · have e1 : (e - (k : Int) - last).toNat = q - k := by omega
        have e2 : (last - (e - (k : Int))).toNat = 0 := by omega
        have e3 : (m * 2 ^ k) <<< (q - k) = m * 2 ^ q * 2 ^ 0 := by
          rw [Nat.shiftLeft_eq, Nat.mul_assoc, ← Nat.pow_add, show k + (q - k) = q from by omega]
          simp
        rw [e1, e2, e3]
        exact cut_exact s _ 0
      · have e1 : (e - (k : Int) - last).toNat = 0 := by omega
        have e2 : (last - (e - (k : Int))).toNat = k - q := by omega
        have e3 : (m * 2 ^ k) <<< 0 = m * 2 ^ q * 2 ^ (k - q) := by
          rw [Nat.shiftLeft_zero, Nat.mul_assoc, ← Nat.pow_add, show q + (k - q) = k from by omega]
        rw [e1, e2, e3]
        exact cut_exact s _ _
    dsimp only
    rw [hkept]
    have hlt : m * 2 ^ q < 9007199254740992 := by
      have h2 : 2 ^ (l + 1) * 2 ^ q ≤ 9007199254740992 := by
        rw [← Nat.pow_add]
        exact Nat.le_trans (Nat.pow_le_pow_right (by omega) (show l + 1 + q ≤ 53 by omega)) (by decide)
      exact Nat.lt_of_lt_of_le (Nat.mul_lt_mul_of_pos_right hhi (Nat.two_pow_pos q)) h2
    have hge : last ≠ -1074 → 4503599627370496 ≤ m * 2 ^ q := by
      intro h
      have h2 : 4503599627370496 ≤ 2 ^ l * 2 ^ q := by
        rw [← Nat.pow_add, show l + q = 52 from by omega]
        decide
      exact Nat.le_trans h2 (Nat.mul_le_mul_right _ hlo)
    refine ⟨q, by omega, ?_, fun _ => ⟨hlt, ?_⟩⟩
    · rw [show e - (q : Int) = last from by omega]
      generalize m * 2 ^ q = K at hlt hge
      obtain ⟨a, ha⟩ : ∃ a : Nat, last - -1074 = (a : Int) := ⟨(last - -1074).toNat, by omega⟩
      have haT : (last - -1074).toNat = a := by omega
      rw [haT]
      have ha2 : a ≤ 1974 := by
        clear hkept hlo hhi hge hlt
        omega
      rw [min_of ha2 hlt, read_rung s ha2 hlt (fun h => hge (by omega)), show (a : Int) - 1074 = last from by omega]
    · by_cases c : last = -1074
      · left
        omega
      · right
        exact hge c
/-- A float that stands for the whole number n. -/
def Vi (x : Nat) (n : Int) : Prop := ∃ (s : Bool) (m q : Nat), FloatKind.f64.format.read x = .number s m (-(q : Int)) ∧ Ieee.signed s m 0 = n * 2 ^ q ∧ (n ≠ 0 → m < 9007199254740992 ∧ 4503599627370496 ≤ m)
theorem signed_eq (s : Bool) (m k : Nat) : Ieee.signed s m k = Ieee.signed s m 0 * 2 ^ k := by
  unfold Ieee.signed
  rw [Nat.shiftLeft_eq, Nat.shiftLeft_zero]
  cases s <;> simp [Int.neg_mul]
theorem signed_abs (s : Bool) (m : Nat) : (Ieee.signed s m 0).natAbs = m := by
  unfold Ieee.signed
  cases s <;> simp
/-- What is written of the whole number n, told to more places, stands for n. -/
theorem Vi_write (s : Bool) (n : Int) (m k : Nat) (hm : m = n.natAbs * 2 ^ k) (hn : n.natAbs < 9007199254740992) (hs : n ≠ 0 → s = decide (n < 0)) : Vi (FloatKind.f64.format.nearest s m (-(k : Int))) n := by
  subst hm
  obtain ⟨q, h1, h2, h3⟩ := read_nearest s n.natAbs k 0 hn (by omega) (by omega)
  rw [show (0 : Int) - (k : Int) = -(k : Int) from by omega, show (0 : Int) - (q : Int) = -(q : Int) from by omega] at h2
  refine ⟨s, n.natAbs * 2 ^ q, q, h2, ?_, ?_⟩
  · by_cases h0 : n = 0
    · subst h0
      cases s <;> simp [Ieee.signed]
    · have := hs h0
      subst this
      have hp : ((n.natAbs * 2 ^ q : Nat) : Int) = (n.natAbs : Int) * 2 ^ q := by
        rw [Int.natCast_mul, Int.natCast_pow]
        rfl
      unfold Ieee.signed
      rw [Nat.shiftLeft_zero]
      by_cases hn0 : n < 0
      · rw [decide_eq_true hn0, if_pos rfl, hp, ← Int.neg_mul]
        congr 1
        omega
      · rw [decide_eq_false hn0, if_neg Bool.false_ne_true, hp]
        congr 1
        omega
  · intro h0
    have h4 := h3 (by omega)
    refine ⟨h4.1, ?_⟩
    rcases h4.2 with h5 | h5
    · exfalso
      have hq : 60 ≤ q := by omega
      have h6 : 1152921504606846976 ≤ 2 ^ q := Nat.le_trans (by decide : 1152921504606846976 ≤ 2 ^ 60) (Nat.pow_le_pow_right (by omega) hq)
      have h7 : 1 * 1152921504606846976 ≤ n.natAbs * 2 ^ q := Nat.mul_le_mul (by omega) h6
      have h8 := h4.1
      generalize n.natAbs * 2 ^ q = Z at h7 h8
      clear h1 h2 h3 h4 h5 hs hn h6
      omega
    · exact h5
theorem Vi_int (n : Int) (hn : n.natAbs < 9007199254740992) : Vi (floatOfInt .f64 n) n := by
  have e : floatOfInt .f64 n = FloatKind.f64.format.nearest (n < 0) n.natAbs (-((0 : Nat) : Int)) := rfl
  rw [e]
  exact Vi_write _ n _ 0 (by simp) hn (fun _ => rfl)
theorem FRk_some {op : BinOp} {x y r d : Nat} (h : FRk .f64 op x y r) (hd : floatBits op .f64 x y = some d) : r = d := by
  rcases h with h | ⟨h, _⟩
  · exact Option.some.inj (h.symm.trans hd)
  · rw [hd] at h
    cases h
theorem Vi_sum {x y r : Nat} {a b : Int} {s t : Bool} {m n p q : Nat} (hx : FloatKind.f64.format.read x = .number s m (-(p : Int))) (ha : Ieee.signed s m 0 = a * 2 ^ p) (hb : Ieee.signed t n 0 = b * 2 ^ q) (hab : (a + b).natAbs < 9007199254740992) :
    ∃ d, (Ieee.Datum.sum (.number s m (-(p : Int))) (.number t n (-(q : Int)))).map FloatKind.f64.format.write = some d ∧ Vi d (a + b) := by
  simp only [Ieee.Datum.sum, Option.map_some, Ieee.Format.write]
  refine ⟨_, rfl, ?_⟩
  obtain ⟨k, hk⟩ : ∃ k : Nat, min (-(p : Int)) (-(q : Int)) = -(k : Int) := ⟨max p q, by omega⟩
  rw [hk]
  have e1 : (-(p : Int) - -(k : Int)).toNat = k - p := by omega
  have e2 : (-(q : Int) - -(k : Int)).toNat = k - q := by omega
  have hkp : p + (k - p) = k := by omega
  have hkq : q + (k - q) = k := by omega
  rw [e1, e2]
  have ht : Ieee.signed s m (k - p) + Ieee.signed t n (k - q) = (a + b) * 2 ^ k := by
    rw [signed_eq s m, signed_eq t n, ha, hb, Int.mul_assoc, Int.mul_assoc, ← Int.pow_add, ← Int.pow_add, hkp, hkq, Int.add_mul]
  rw [ht]
  have hpk : (0 : Int) < 2 ^ k := Int.pow_pos (by omega)
  refine Vi_write _ (a + b) _ k ?_ hab ?_
  · rw [Int.natAbs_mul, Int.natAbs_pow]
    rfl
  · intro h0
    rw [if_neg (Int.mul_ne_zero h0 (by omega))]
    exact decide_eq_decide.2 ⟨fun h => by
      rcases Int.lt_or_le (a + b) 0 with h1 | h1
      · exact h1
      · exact absurd h (by have := Int.mul_nonneg h1 (by omega : (0 : Int) ≤ 2 ^ k); omega), fun h => Int.mul_neg_of_neg_of_pos h hpk⟩
theorem Vi_add {x y r : Nat} {a b : Int} (hx : Vi x a) (hy : Vi y b) (hab : (a + b).natAbs < 9007199254740992) (h : FRk .f64 .add x y r) : Vi r (a + b) := by
  obtain ⟨s, m, p, h1, h2, _⟩ := hx
  obtain ⟨t, n, q, g1, g2, _⟩ := hy
  obtain ⟨d, hd, hv⟩ := Vi_sum (r := r) (y := y) h1 h2 g2 hab
  have : floatBits .add .f64 x y = some d := by
    unfold floatBits
    simp only [Ieee.Format.add, h1, g1]
    exact hd
  rw [FRk_some h this]
  exact hv
theorem Vi_sub {x y r : Nat} {a b : Int} (hx : Vi x a) (hy : Vi y b) (hab : (a - b).natAbs < 9007199254740992) (h : FRk .f64 .sub x y r) : Vi r (a - b) := by
  obtain ⟨s, m, p, h1, h2, _⟩ := hx
  obtain ⟨t, n, q, g1, g2, _⟩ := hy
  have g3 : Ieee.signed (!t) n 0 = (-b) * 2 ^ q := by
    rw [Int.neg_mul, ← g2]
    unfold Ieee.signed
    cases t <;> simp
  obtain ⟨d, hd, hv⟩ := Vi_sum (r := r) (y := y) h1 h2 g3 (b := -b) (by rw [← Int.sub_eq_add_neg]; exact hab)
  have : floatBits .sub .f64 x y = some d := by
    unfold floatBits
    simp only [Ieee.Format.sub, h1, g1, Ieee.Datum.opposite]
    exact hd
  rw [FRk_some h this, Int.sub_eq_add_neg]
  exact hv
theorem signed_xor (s t : Bool) (m n : Nat) : Ieee.signed (s ^^ t) (m * n) 0 = Ieee.signed s m 0 * Ieee.signed t n 0 := by
  unfold Ieee.signed
  cases s <;> cases t <;> simp [Int.neg_mul, Int.mul_neg]
theorem Vi_mul {x y r : Nat} {a b : Int} (hx : Vi x a) (hy : Vi y b) (hab : (a * b).natAbs < 9007199254740992) (h : FRk .f64 .mul x y r) : Vi r (a * b) := by
  obtain ⟨s, m, p, h1, h2, _⟩ := hx
  obtain ⟨t, n, q, g1, g2, _⟩ := hy
  have hd : floatBits .mul .f64 x y = some (FloatKind.f64.format.nearest (s ^^ t) (m * n) (-(p : Int) + -(q : Int))) := by
    unfold floatBits
    simp only [Ieee.Format.mul, h1, g1, Ieee.Datum.product, Option.map_some, Ieee.Format.write]
  rw [FRk_some h hd, show -(p : Int) + -(q : Int) = -((p + q : Nat) : Int) from by omega]
  have hv : Ieee.signed (s ^^ t) (m * n) 0 = a * b * 2 ^ (p + q) := by
    rw [signed_xor, h2, g2, Int.pow_add]
    simp only [Int.mul_assoc, Int.mul_left_comm, Int.mul_comm]
  have hpk : (0 : Int) < 2 ^ (p + q) := Int.pow_pos (by omega)
  refine Vi_write _ (a * b) _ (p + q) ?_ hab ?_
  · have := congrArg Int.natAbs hv
    rw [signed_abs, Int.natAbs_mul, Int.natAbs_pow] at this
    rw [this]
    rfl
  · intro h0
    by_cases hn : a * b < 0
    · rw [decide_eq_true hn]
      have : a * b * 2 ^ (p + q) < 0 := Int.mul_neg_of_neg_of_pos hn hpk
      rw [← hv] at this
      unfold Ieee.signed at this
      cases hst : (s ^^ t) with
      | true => rfl
      | false => rw [hst, if_neg Bool.false_ne_true] at this; omega
    · rw [decide_eq_false hn]
      have : 0 < a * b * 2 ^ (p + q) := Int.mul_pos (by omega) hpk
      rw [← hv] at this
      unfold Ieee.signed at this
      cases hst : (s ^^ t) with
      | false => rfl
      | true => rw [hst, if_pos rfl] at this; omega
theorem Vi_neg {x : Nat} {a : Int} (hx : Vi x a) : Vi (Go.Op.negFloat .f64 x) (-a) := by
  obtain ⟨s, m, p, h1, h2, h3⟩ := hx
  refine ⟨!s, m, p, by rw [neg_read, h1]; rfl, ?_, fun h => h3 (by omega)⟩
  rw [Int.neg_mul, ← h2]
  unfold Ieee.signed
  cases s <;> simp
theorem Vi_fin {x : Nat} {a : Int} (hx : Vi x a) : finB x = true := by
  obtain ⟨s, m, p, h1, _⟩ := hx
  rw [finB_iff, h1]
theorem Vi_ord {x y : Nat} {a b : Int} (hx : Vi x a) (hy : Vi y b) : (FloatKind.f64.format.order x y == some .eq) = decide (a = b) := by
  obtain ⟨s, m, p, h1, h2, _⟩ := hx
  obtain ⟨t, n, q, g1, g2, _⟩ := hy
  unfold Ieee.Format.order
  rw [h1, g1]
  simp only [Ieee.Datum.order]
  obtain ⟨k, hk⟩ : ∃ k : Nat, min (-(p : Int)) (-(q : Int)) = -(k : Int) := ⟨max p q, by omega⟩
  rw [hk]
  have e1 : (-(p : Int) - -(k : Int)).toNat = k - p := by omega
  have e2 : (-(q : Int) - -(k : Int)).toNat = k - q := by omega
  have hkp : p + (k - p) = k := by omega
  have hkq : q + (k - q) = k := by omega
  rw [e1, e2, signed_eq s m, signed_eq t n, h2, g2, Int.mul_assoc, Int.mul_assoc, ← Int.pow_add, ← Int.pow_add, hkp, hkq]
  have hpk : (2 : Int) ^ k ≠ 0 := by have : (0 : Int) < 2 ^ k := Int.pow_pos (by omega); omega
  by_cases hab : a = b
  · subst hab
    rw [decide_eq_true rfl]
    have : compare (a * 2 ^ k) (a * 2 ^ k) = .eq := by simp [compare, compareOfLessAndEq]
    rw [this]
    rfl
  · rw [decide_eq_false hab]
    have hne : a * 2 ^ k ≠ b * 2 ^ k := fun h => hab (Int.eq_of_mul_eq_mul_right hpk h)
    have : compare (a * 2 ^ k) (b * 2 ^ k) ≠ .eq := by
      simp only [compare, compareOfLessAndEq]
      split
      · simp
      · first | simp | (rw [if_neg hne]; simp)
    simpa using this


end Go.Proofs.Ythjlapmjpjpgeaa.DX
namespace Go.Proofs.Ythjlapmjpjpgeaa.DX
set_option linter.unusedSimpArgs false
set_option linter.unusedVariables false
open Go.RowKit Go.Proofs.YthjlapmjpjpgeaaW.PrintWords Go.Proofs.Ythjlapmjpjpgeaa.PbDX

theorem Vi_nul : Vi 0 0 := ⟨false, 0, 1074, by decide +kernel, by rw [Int.zero_mul]; rfl, fun h => absurd rfl h⟩
theorem prod_comm (a b : Ieee.Datum) : a.product b = b.product a := by
  cases a <;> cases b <;> simp only [Ieee.Datum.product] <;> first
    | rfl
    | (rename_i s t; cases s <;> cases t <;> rfl)
    | (rename_i s m e t n f; rw [Nat.mul_comm m n, Int.add_comm e f, Bool.xor_comm s t])
    | (rename_i s t n f; rw [Bool.xor_comm s t])
    | (rename_i s n f t; rw [Bool.xor_comm s t])
    | (split <;> rfl)
theorem sum_comm (a b : Ieee.Datum) : a.sum b = b.sum a := by
  cases a <;> cases b <;> simp only [Ieee.Datum.sum] <;> first
    | rfl
    | (rename_i s t; cases s <;> cases t <;> rfl)
    | (rename_i s m e t n f; rw [Int.min_comm e f, Int.add_comm (Ieee.signed s m _) _, Bool.and_comm s t])
    | (split <;> rfl)
theorem frk_mul_comm {x y r : Nat} (h : FRk .f64 .mul x y r) : FRk .f64 .mul y x r := by
  have e : floatBits .mul .f64 x y = floatBits .mul .f64 y x := by
    unfold floatBits
    simp only [Ieee.Format.mul]
    rw [prod_comm]
  unfold FRk at h ⊢
  rwa [e] at h
theorem frk_add_comm {x y r : Nat} (h : FRk .f64 .add x y r) : FRk .f64 .add y x r := by
  have e : floatBits .add .f64 x y = floatBits .add .f64 y x := by
    unfold floatBits
    simp only [Ieee.Format.add]
    rw [sum_comm]
  unfold FRk at h ⊢
  rwa [e] at h
theorem PT.turned {a b c d p q p' q' : Nat} (h : PT a b c d p q) (h' : PT c d a b p' q') : Same p p' ∧ Same q q' := by
  obtain ⟨w, x, y, z, h1, h2, h3, h4, h5, h6⟩ := h
  obtain ⟨w', x', y', z', g1, g2, g3, g4, g5, g6⟩ := h'
  have r := Same.refl
  exact ⟨frk_same h5 g5 (frk_same h1 (frk_mul_comm g1) (r _) (r _)) (frk_same h2 (frk_mul_comm g2) (r _) (r _)), frk_same h6 (frk_add_comm g6) (frk_same h3 (frk_mul_comm g4) (r _) (r _)) (frk_same h4 (frk_mul_comm g3) (r _) (r _))⟩
/-- The quotient of a * d by d is a. -/
theorem Vi_quo {x y r : Nat} {a : Int} {d : Nat} (hx : Vi x (a * d)) (hy : Vi y d) (h0 : 0 < d) (ha : a.natAbs < 9007199254740992) (h : FRk .f64 .quo x y r) : Vi r a := by
  obtain ⟨s, m, p, h1, h2, h3⟩ := hx
  obtain ⟨t, n, q, g1, g2, g3⟩ := hy
  have g4 := g3 (by omega)
  have hn : n = d * 2 ^ q := by
    have := congrArg Int.natAbs g2
    rw [signed_abs, Int.natAbs_mul, Int.natAbs_pow] at this
    rw [this]
    rfl
  have hm : m = a.natAbs * d * 2 ^ p := by
    have := congrArg Int.natAbs h2
    rw [signed_abs, Int.natAbs_mul, Int.natAbs_mul, Int.natAbs_pow] at this
    rw [this]
    rfl
  have ht : t = false := by
    cases t with
    | false => rfl
    | true =>
      exfalso
      have hp : (0 : Int) < (d : Int) * 2 ^ q := Int.mul_pos (by omega) (Int.pow_pos (by omega))
      rw [← g2] at hp
      unfold Ieee.signed at hp
      rw [if_pos rfl] at hp
      omega
  subst ht
  have hd : floatBits .quo .f64 x y = some (FloatKind.f64.format.nearest (s ^^ false) (2 * ((m <<< (54 + n.log2 - m.log2)) / n) + ((m <<< (54 + n.log2 - m.log2)) % n != 0).toNat) (-(p : Int) - -(q : Int) - ((54 + n.log2 - m.log2 : Nat) : Int) - 1)) := by
    unfold floatBits
    simp only [Ieee.Format.div, h1, g1, Ieee.Datum.quotient]
    rw [if_neg (by omega)]
    rfl
  rw [FRk_some h hd, Bool.xor_false]
  by_cases hz : a = 0
  · subst hz
    have hm0 : m = 0 := by rw [hm]; simp
    subst hm0
    rw [Nat.zero_shiftLeft, Nat.zero_div, Nat.zero_mod]
    have e : ∀ pl : Int, FloatKind.f64.format.nearest s (2 * 0 + ((0 : Nat) != 0).toNat) pl = FloatKind.f64.format.nearest s 0 (-((0 : Nat) : Int)) := by
      intro pl
      have z : 2 * 0 + ((0 : Nat) != 0).toNat = 0 := rfl
      rw [z]
      unfold Ieee.Format.nearest
      rw [if_pos rfl, if_pos rfl]
    rw [e]
    exact Vi_write s 0 0 0 (by simp) (by decide) (fun h => absurd rfl h)
  · have h4 := h3 (Int.mul_ne_zero hz (by omega))
    have lm : m.log2 = 52 := (Nat.log2_eq_iff (by omega)).2 ⟨by omega, by omega⟩
    have ln : n.log2 = 52 := (Nat.log2_eq_iff (by omega)).2 ⟨by omega, by omega⟩
    rw [lm, ln, show 54 + 52 - 52 = 54 from rfl]
    have hqp : q ≤ p + 54 := by
      rcases Nat.lt_or_ge (p + 54) q with hc | hc
      · exfalso
        have e1 : 2 ^ (p + 55) ≤ 2 ^ q := Nat.pow_le_pow_right (by omega) (by omega)
        have e2 : d * 2 ^ (p + 55) ≤ d * 2 ^ q := Nat.mul_le_mul_left _ e1
        have e3 : a.natAbs * (d * 2 ^ p) < 9007199254740992 * (d * 2 ^ p) := Nat.mul_lt_mul_of_pos_right ha (Nat.mul_pos h0 (Nat.two_pow_pos _))
        rw [← Nat.mul_assoc, ← hm] at e3
        rw [← hn, Nat.pow_add, ← Nat.mul_assoc] at e2
        generalize d * 2 ^ p = Z at e2 e3
        have e4 : (2 : Nat) ^ 55 = 36028797018963968 := by decide
        rw [e4] at e2
        omega
      · exact hc
    obtain ⟨w, hw⟩ : ∃ w, p + 54 = q + w := ⟨p + 54 - q, by omega⟩
    have hdv : m <<< 54 = a.natAbs * 2 ^ w * n := by
      rw [Nat.shiftLeft_eq, hm, Nat.mul_assoc, ← Nat.pow_add, hw, Nat.pow_add, hn]
      simp only [Nat.mul_assoc, Nat.mul_left_comm, Nat.mul_comm]
    have hn0 : 0 < n := by omega
    rw [hdv, Nat.mul_div_cancel _ hn0, Nat.mul_mod_left]
    have hmag : 2 * (a.natAbs * 2 ^ w) + ((0 : Nat) != 0).toNat = a.natAbs * 2 ^ (w + 1) := by
      rw [Nat.pow_succ]
      simp only [bne_self_eq_false, Bool.toNat_false, Nat.add_zero, Nat.mul_assoc, Nat.mul_left_comm, Nat.mul_comm]
    rw [hmag, show -(p : Int) - -(q : Int) - ((54 : Nat) : Int) - 1 = -((w + 1 : Nat) : Int) from by omega]
    refine Vi_write s a _ (w + 1) rfl ha fun _ => ?_
    have hpp : (0 : Int) < (d : Int) * 2 ^ p := Int.mul_pos (by omega) (Int.pow_pos (by omega))
    rw [Int.mul_assoc] at h2
    unfold Ieee.signed at h2
    rw [Nat.shiftLeft_zero] at h2
    by_cases hn : a < 0
    · rw [decide_eq_true hn]
      have : a * (d * 2 ^ p) < 0 := Int.mul_neg_of_neg_of_pos hn hpp
      rw [← h2] at this
      cases s with
      | true => rfl
      | false => rw [if_neg Bool.false_ne_true] at this; omega
    · rw [decide_eq_false hn]
      have : 0 < a * (d * 2 ^ p) := Int.mul_pos (by omega) hpp
      rw [← h2] at this
      cases s with
      | false => rfl
      | true => rw [if_pos rfl] at this; omega
/-- A whole object times another, divided by that again. -/
theorem over_back {a b c d p q u v : Nat} {w0 w1 z0 z1 : Int} {o : Bool} {D : Nat} (ha : Vi a w0) (hb : Vi b w1) (hc : Vi c z0) (hd : Vi d z1) (b0 : w0.natAbs ≤ 1000) (b1 : w1.natAbs ≤ 1000) (c0 : z0.natAbs ≤ 10) (c1 : z1.natAbs ≤ 10) (hD : z0 * z0 + z1 * z1 = (D : Int)) (hD0 : 0 < D) (h : PT a b c d p q) (h' : PhO p q c d u v o) : o = true ∧ Vi u w0 ∧ Vi v w1 := by
  have bd : ∀ x y : Int, x.natAbs ≤ 200000 → y.natAbs ≤ 10 → (x * y).natAbs ≤ 2000000 := fun x y hx hy => by
    rw [Int.natAbs_mul]
    exact Nat.le_trans (Nat.mul_le_mul hx hy) (by decide)
  have bs : ∀ x y : Int, x.natAbs ≤ 1000 → y.natAbs ≤ 10 → (x * y).natAbs ≤ 10000 := fun x y hx hy => by
    rw [Int.natAbs_mul]
    exact Nat.le_trans (Nat.mul_le_mul hx hy) (by decide)
  obtain ⟨w, x, y, z, h1, h2, h3, h4, h5, h6⟩ := h
  have m1 := bs w0 z0 b0 c0
  have m2 := bs w1 z1 b1 c1
  have m3 := bs w0 z1 b0 c1
  have m4 := bs w1 z0 b1 c0
  have vw := Vi_mul ha hc (by omega) h1
  have vx := Vi_mul hb hd (by omega) h2
  have vy := Vi_mul ha hd (by omega) h3
  have vz := Vi_mul hb hc (by omega) h4
  have vp := Vi_sub vw vx (by omega) h5
  have vq := Vi_add vy vz (by omega) h6
  obtain ⟨rr, ii, s, g1, g2, g3, g4⟩ := h'
  have n1 := bs z0 z0 (by omega) c0
  have n2 := bs z1 z1 (by omega) c1
  have vr := Vi_mul hc hc (by omega) g1
  have vi := Vi_mul hd hd (by omega) g2
  have vs := Vi_add vr vi (by omega) g3
  rw [hD] at vs
  have hok : okO p q c d s = true := by
    unfold okO
    rw [Vi_fin vp, Vi_fin vq, Vi_fin hc, Vi_fin hd, Vi_fin vs, Vi_ord vs Vi_nul, decide_eq_false (by omega)]
    rfl
  rw [if_pos hok] at g4
  obtain ⟨p', q', ⟨w', x', y', z', k1, k2, k3, k4, k5, k6⟩, f1, f2, ho⟩ := g4
  have hn := Vi_neg hd
  have e1 := bd (w0 * z0 - w1 * z1) z0 (by omega) c0
  have e2 := bd (w0 * z1 + w1 * z0) (-z1) (by omega) (by omega)
  have e3 := bd (w0 * z0 - w1 * z1) (-z1) (by omega) (by omega)
  have e4 := bd (w0 * z1 + w1 * z0) z0 (by omega) c0
  have r1 := Vi_mul vp hc (by omega) k1
  have r2 := Vi_mul vq hn (by omega) k2
  have r3 := Vi_mul vp hn (by omega) k3
  have r4 := Vi_mul vq hc (by omega) k4
  have r5 := Vi_sub r1 r2 (by omega) k5
  have r6 := Vi_add r3 r4 (by omega) k6
  have x1 : (w0 * z0 - w1 * z1) * z0 - (w0 * z1 + w1 * z0) * -z1 = w0 * (D : Int) := by
    rw [← hD]
    simp only [Int.sub_mul, Int.add_mul, Int.mul_add, Int.mul_neg]
    simp only [Int.mul_assoc, Int.mul_comm z1 z0]
    omega
  have x2 : (w0 * z0 - w1 * z1) * -z1 + (w0 * z1 + w1 * z0) * z0 = w1 * (D : Int) := by
    rw [← hD]
    simp only [Int.sub_mul, Int.add_mul, Int.mul_add, Int.mul_neg]
    simp only [Int.mul_assoc, Int.mul_comm z1 z0]
    omega
  rw [x1] at r5
  rw [x2] at r6
  exact ⟨ho, Vi_quo r5 vs hD0 (by omega) f1, Vi_quo r6 vs hD0 (by omega) f2⟩
theorem over_zero {a b u v : Nat} {o : Bool} (h : PhO a b 0 0 u v o) : o = false := by
  obtain ⟨rr, ii, s, g1, g2, g3, g4⟩ := h
  have vr := Vi_mul Vi_nul Vi_nul (by decide) g1
  have vi := Vi_mul Vi_nul Vi_nul (by decide) g2
  have vs := Vi_add vr vi (by decide) g3
  rw [if_neg] at g4
  · exact g4.2.2
  · unfold okO
    rw [Vi_ord vs Vi_nul, decide_eq_true (by decide)]
    simp
theorem sw32' : FloatKind.f32.format.signWeight = 2147483648 := by decide +kernel
theorem bi32' : FloatKind.f32.format.binade = 8388608 := by decide +kernel
theorem in32' : FloatKind.f32.format.infRung = 2139095040 := by decide +kernel
theorem lp32' : FloatKind.f32.format.leastPlace = -149 := by decide +kernel
theorem fb32' : FloatKind.f32.format.fractionBits = 23 := rfl
theorem read32' {x : Nat} {s : Bool} {m : Nat} {e : Int} (h : FloatKind.f32.format.read x = .number s m e) : m < 16777216 ∧ -149 ≤ e ∧ e ≤ 104 := by
  unfold Ieee.Format.read at h
  rw [sw32', bi32', in32', lp32'] at h
  simp only at h
  split at h
  · injection h with _ h1 h2
    subst h1 h2
    omega
  · split at h
    · injection h with _ h1 h2
      subst h1 h2
      omega
    · split at h <;> simp at h
theorem word_mod32 (s : Bool) {n : Nat} (h : n < 2147483648) : FloatKind.f32.format.word s n % 2147483648 = n := by
  unfold Ieee.Format.word
  rw [sw32']
  split <;> omega
theorem word_sign32 (s : Bool) {n : Nat} (h : n < 2147483648) : (FloatKind.f32.format.word s n / 2147483648 % 2 == 1) = s := by
  unfold Ieee.Format.word
  rw [sw32']
  cases s
  · rw [if_neg Bool.false_ne_true, show n / 2147483648 % 2 = 0 from by omega]
    rfl
  · rw [if_pos rfl, show (2147483648 + n) / 2147483648 % 2 = 1 from by omega]
    rfl
theorem read_rung32 (s : Bool) {a K : Nat} (ha : a ≤ 253) (hK : K < 16777216) (h : a ≠ 0 → 8388608 ≤ K) : FloatKind.f32.format.read (FloatKind.f32.format.word s (a * 8388608 + K)) = .number s K ((a : Int) - 149) := by
  have hn : a * 8388608 + K < 2139095040 := by omega
  unfold Ieee.Format.read
  rw [sw32', bi32', in32', lp32']
  simp only [word_mod32 s (show a * 8388608 + K < 2147483648 by omega), word_sign32 s (show a * 8388608 + K < 2147483648 by omega)]
  by_cases c1 : a * 8388608 + K < 8388608
  · have h0 : a = 0 := by omega
    subst h0
    rw [if_pos c1]
    simp
  · rw [if_neg c1, if_pos hn]
    by_cases c2 : a = 0
    · subst c2
      have e1 : (0 * 8388608 + K) % 8388608 = K - 8388608 := by omega
      have e2 : (0 * 8388608 + K) / 8388608 - 1 = 0 := by omega
      rw [e1, e2]
      exact congr (congrArg (Ieee.Datum.number s) (by omega)) (by omega)
    · have h1 := h c2
      have e1 : (a * 8388608 + K) % 8388608 = K - 8388608 := by omega
      have e2 : (a * 8388608 + K) / 8388608 - 1 = a := by omega
      rw [e1, e2]
      exact congr (congrArg (Ieee.Datum.number s) (by omega)) (by omega)
theorem read_nearest32 (s : Bool) (m k : Nat) (e : Int) (hm : m < 16777216) (h0 : -149 ≤ e) (h1 : e ≤ 104) : ∃ q : Nat, FloatKind.f32.format.read (FloatKind.f32.format.nearest s (m * 2 ^ k) (e - k)) = .number s (m * 2 ^ q) (e - q) := by
  by_cases hz : m = 0
  · subst hz
    refine ⟨(e + 149).toNat, ?_⟩
    unfold Ieee.Format.nearest
    rw [Nat.zero_mul, if_pos rfl, Nat.zero_mul, show e - ((e + 149).toNat : Int) = -149 from by omega]
    cases s <;> decide +kernel
  · have hp := Nat.two_pow_pos k
    have hne : m * 2 ^ k ≠ 0 := Nat.mul_ne_zero hz (Nat.ne_of_gt hp)
    have hl : m.log2 < 24 := (Nat.log2_lt hz).2 (by omega)
    have hlo : 2 ^ m.log2 ≤ m := Nat.log2_self_le hz
    have hhi : m < 2 ^ (m.log2 + 1) := Nat.lt_log2_self
    unfold Ieee.Format.nearest
    rw [if_neg hne, log2_mul_pow m k hz, fb32', lp32', bi32', in32']
    generalize m.log2 = l at hl hlo hhi ⊢
    obtain ⟨last, hlast⟩ : ∃ last : Int, last = max (e + l - 23) (-149) := ⟨_, rfl⟩
    have hla : max (e - (k : Int) + ((l + k : Nat) : Int) - ((23 : Nat) : Int)) (-149) = last := by omega
    rw [hla]
    have hle : last ≤ e := by omega
    obtain ⟨q, hq⟩ : ∃ q : Nat, e - last = (q : Int) := ⟨(e - last).toNat, by omega⟩
    have hkept : Ieee.Toward.even.cut s ((m * 2 ^ k) <<< (e - (k : Int) - last).toNat) (last - (e - (k : Int))).toNat = m * 2 ^ q := by
      by_cases hk : k ≤ q
      · have e1 : (e - (k : Int) - last).toNat = q - k := by omega
        have e2 : (last - (e - (k : Int))).toNat = 0 := by omega
        have e3 : (m * 2 ^ k) <<< (q - k) = m * 2 ^ q * 2 ^ 0 := by
          rw [Nat.shiftLeft_eq, Nat.mul_assoc, ← Nat.pow_add, show k + (q - k) = q from by omega]
          simp
        rw [e1, e2, e3]
        exact cut_exact s _ 0
      · have e1 : (e - (k : Int) - last).toNat = 0 := by omega
        have e2 : (last - (e - (k : Int))).toNat = k - q := by omega
        have e3 : (m * 2 ^ k) <<< 0 = m * 2 ^ q * 2 ^ (k - q) := by
          rw [Nat.shiftLeft_zero, Nat.mul_assoc, ← Nat.pow_add, show q + (k - q) = k from by omega]
        rw [e1, e2, e3]
        exact cut_exact s _ _
    dsimp only
    rw [hkept]
    have hlt : m * 2 ^ q < 16777216 := by
      have h2 : 2 ^ (l + 1) * 2 ^ q ≤ 16777216 := by
        rw [← Nat.pow_add]
        exact Nat.le_trans (Nat.pow_le_pow_right (by omega) (show l + 1 + q ≤ 24 by omega)) (by decide)
      exact Nat.lt_of_lt_of_le (Nat.mul_lt_mul_of_pos_right hhi (Nat.two_pow_pos q)) h2
    have hge : last ≠ -149 → 8388608 ≤ m * 2 ^ q := by
      intro h
      have h2 : 8388608 ≤ 2 ^ l * 2 ^ q := by
        rw [← Nat.pow_add, show l + q = 23 from by omega]
        decide
      exact Nat.le_trans h2 (Nat.mul_le_mul_right _ hlo)
    refine ⟨q, ?_⟩
    rw [show e - (q : Int) = last from by omega]
    generalize m * 2 ^ q = K at hlt hge
    obtain ⟨a, ha⟩ : ∃ a : Nat, last - -149 = (a : Int) := ⟨(last - -149).toNat, by omega⟩
    have haT : (last - -149).toNat = a := by omega
    rw [haT]
    have ha2 : a ≤ 253 := by
      clear hkept hlo hhi hge hlt
      omega
    rw [Nat.min_eq_left (by omega : a * 8388608 + K ≤ 2139095040), read_rung32 s ha2 hlt (fun h => hge (by omega)), show (a : Int) - 149 = last from by omega]
theorem inf_read32 (s : Bool) : FloatKind.f32.format.read (FloatKind.f32.format.word s FloatKind.f32.format.infRung) = .infinity s := by
  cases s <;> decide +kernel
/-- From 32 bits to 64 and back: the same number, unless it was none. -/
theorem there_back {x a t : Nat} (h : CVk .f32 .f64 x a) (g : CVk .f64 .f32 a t) : FloatKind.f32.format.order x x = none ∨ FloatKind.f32.format.order t x = some .eq := by
  cases hx : FloatKind.f32.format.read x with
  | nan s f =>
    left
    unfold Ieee.Format.order
    rw [hx]
    rfl
  | infinity s =>
    right
    have e1 : floatToFloatBits .f32 x .f64 = some (FloatKind.f64.format.word s FloatKind.f64.format.infRung) := by
      unfold floatToFloatBits FloatKind.decode
      rw [if_neg (by decide), hx]
      rfl
    have ea : a = FloatKind.f64.format.word s FloatKind.f64.format.infRung := by
      rcases h with h | ⟨h, _⟩
      · exact Option.some.inj (h.symm.trans e1)
      · rw [e1] at h; cases h
    have e2 : floatToFloatBits .f64 a .f32 = some (FloatKind.f32.format.word s FloatKind.f32.format.infRung) := by
      unfold floatToFloatBits FloatKind.decode
      rw [if_neg (by decide), ea, inf_read]
      rfl
    have et : t = FloatKind.f32.format.word s FloatKind.f32.format.infRung := by
      rcases g with g | ⟨g, _⟩
      · exact Option.some.inj (g.symm.trans e2)
      · rw [e2] at g; cases g
    unfold Ieee.Format.order
    rw [hx, et, inf_read32]
    cases s <;> rfl
  | number s m e =>
    right
    obtain ⟨hm, he0, he1⟩ := read32' hx
    obtain ⟨q, _, hq, _⟩ := read_nearest s m 0 e (by omega) (by omega) (by omega)
    rw [Nat.pow_zero, Nat.mul_one, show e - ((0 : Nat) : Int) = e from by omega] at hq
    have e1 : floatToFloatBits .f32 x .f64 = some (FloatKind.f64.format.nearest s m e) := by
      unfold floatToFloatBits FloatKind.decode FloatKind.encode
      rw [if_neg (by decide), hx]
      simp only [Ieee.Format.write, hq]
      rfl
    have ea : a = FloatKind.f64.format.nearest s m e := by
      rcases h with h | ⟨h, _⟩
      · exact Option.some.inj (h.symm.trans e1)
      · rw [e1] at h; cases h
    obtain ⟨r, hr⟩ := read_nearest32 s m q e hm he0 he1
    have e2 : floatToFloatBits .f64 a .f32 = some (FloatKind.f32.format.nearest s (m * 2 ^ q) (e - q)) := by
      unfold floatToFloatBits FloatKind.decode FloatKind.encode
      rw [if_neg (by decide), ea, hq]
      simp only [Ieee.Format.write, hr]
      rfl
    have et : t = FloatKind.f32.format.nearest s (m * 2 ^ q) (e - q) := by
      rcases g with g | ⟨g, _⟩
      · exact Option.some.inj (g.symm.trans e2)
      · rw [e2] at g; cases g
    unfold Ieee.Format.order
    rw [et, hr, hx]
    simp only [Ieee.Datum.order]
    have b1 : min (e - (r : Int)) e = e - r := by omega
    rw [b1, show (e - (r : Int) - (e - (r : Int))).toNat = 0 from by omega, show (e - (e - (r : Int))).toNat = r from by omega]
    have hs : Ieee.signed s (m * 2 ^ r) 0 = Ieee.signed s m r := by
      unfold Ieee.signed
      rw [Nat.shiftLeft_eq, Nat.shiftLeft_eq, Nat.pow_zero, Nat.mul_one]
    rw [hs]
    simp [compare, compareOfLessAndEq]


end Go.Proofs.Ythjlapmjpjpgeaa.DX
namespace Go.Proofs.Ythjlapmjpjpgeaa.DX
set_option linter.unusedVariables false
set_option linter.unusedSimpArgs false
open Go.RowKit Go.Proofs.YthjlapmjpjpgeaaW.PrintWords Go.Proofs.Ythjlapmjpjpgeaa.PbDX

theorem and255 (n : Int) : bits .and .i64 n 255 = n % 256 := by
  have h255 : (BitVec.ofInt 64 255).toNat = 2 ^ 8 - 1 := by decide
  have key : (BitVec.ofInt 64 n &&& BitVec.ofInt 64 255).toNat = (n % ((2 ^ 64 : Nat) : Int)).toNat % 2 ^ 8 := by
    rw [BitVec.toNat_and, BitVec.toNat_ofInt, h255, Nat.and_two_pow_sub_one_eq_mod]
  show IntKind.i64.wrap ((BitVec.ofInt 64 n &&& BitVec.ofInt 64 255).toNat : Nat) = n % 256
  rw [key, IntKind.wrap_i64]
  omega

theorem l1New_l0 (s : List Int) (hs : s.length ≤ 1048576) (d : Nat) : ∀ (k i : Nat) (x : Int), i + d = s.length → d < k → ∃ x', spec_l1New.l0 k s x (i : Int) = some (s, 0, x') := by
  induction d with
  | zero =>
    intro k i x hi hk
    obtain ⟨k, rfl⟩ : ∃ q, k = q + 1 := ⟨k - 1, by omega⟩
    rw [spec_l1New.l0, if_neg (by omega)]
    exact ⟨_, rfl⟩
  | succ d ih =>
    intro k i x hi hk
    obtain ⟨k, rfl⟩ : ∃ q, k = q + 1 := ⟨k - 1, by omega⟩
    rw [spec_l1New.l0, if_pos (by omega)]
    split
    · rw [if_pos (by omega), w64 (x := (i : Int) + 1) (by omega) (by omega), show ((i : Int) + 1) = ((i + 1 : Nat) : Int) from by omega]
      exact ih k (i + 1) _ (by omega) (by omega)
    · exact ⟨_, rfl⟩
theorem l1New_ok {k : Nat} {s : List Int} (hs : s.length ≤ 1048576) (hk : s.length < k) : ∃ x', spec_l1New.f k s = some (s, 0, x') := by
  unfold spec_l1New.f
  exact l1New_l0 s hs s.length k 0 _ (by omega) hk

/-- A place within the bytes. -/
def Pl (s : List Int) (p : Int) : Prop := 0 ≤ p ∧ p ≤ (s.length : Int)
theorem byte_ok {s : List Int} {p x : Int} (hs : s.length ≤ 1048576) (hp : Pl s p) : ∃ b p' x', spec_l1Byte.f s p x = some (b, p', x') ∧ 0 ≤ b ∧ b ≤ 255 ∧ Pl s p' := by
  obtain ⟨h0, h1⟩ := hp
  unfold spec_l1Byte.f
  by_cases h : p < (s.length : Int)
  · rw [if_pos h, if_pos h0]
    refine ⟨_, _, _, rfl, ?_, ?_, ?_, ?_⟩
    · rw [and255 (wrap64 _)]; omega
    · rw [and255 (wrap64 _)]; omega
    · rw [w64 (by omega) (by omega)]; omega
    · rw [w64 (by omega) (by omega)]; omega
  · rw [if_neg h]
    refine ⟨_, _, _, rfl, ?_, ?_, h0, h1⟩
    · rw [and255]; omega
    · rw [and255]; omega
theorem below_ok {s : List Int} {p x n : Int} (hs : s.length ≤ 1048576) (hp : Pl s p) (h0 : 0 < n) (h1 : n ≤ 256) : ∃ r p' x', spec_l1Below.f s p x n = some (r, p', x') ∧ 0 ≤ r ∧ r < n ∧ Pl s p' := by
  obtain ⟨b, p', x', e, hb0, hb1, hp'⟩ := byte_ok (x := x) hs hp
  unfold spec_l1Below.f
  rw [if_neg (by omega), if_pos h1, e, Option.bind_some, if_neg (by omega)]
  refine ⟨_, _, _, rfl, ?_, ?_, hp'⟩
  · exact Int.tmod_nonneg _ hb0
  · exact Int.tmod_lt_of_pos _ h0
theorem once_ok {s : List Int} {p x n : Int} (hs : s.length ≤ 1048576) (hp : Pl s p) (h0 : 0 < n) (h1 : n ≤ 256) : ∃ r p' x', spec_l1Once.f s p x n = some (r, p', x') ∧ Pl s p' := by
  obtain ⟨r, p', x', e, hr0, hr1, hp'⟩ := below_ok (x := x) hs hp h0 h1
  unfold spec_l1Once.f
  rw [e, Option.bind_some]
  exact ⟨_, _, _, rfl, hp'⟩


end Go.Proofs.Ythjlapmjpjpgeaa.DX
namespace Go.Proofs.Ythjlapmjpjpgeaa.DX
set_option linter.unusedVariables false
set_option linter.unusedSimpArgs false
open Go.RowKit Go.Proofs.YthjlapmjpjpgeaaW.PrintWords Go.Proofs.Ythjlapmjpjpgeaa.PbDX

theorem below_any {s : List Int} {p x n : Int} (hs : s.length ≤ 1048576) (hp : Pl s p) (h0 : 0 < n) : ∃ r p' x', spec_l1Below.f s p x n = some (r, p', x') ∧ 0 ≤ r ∧ r < n ∧ Pl s p' := by
  by_cases h1 : n ≤ 256
  · exact below_ok hs hp h0 h1
  · obtain ⟨b1, p1, x1, e1, h11, h12, hp1⟩ := byte_ok (x := x) hs hp
    obtain ⟨b2, p2, x2, e2, h21, h22, hp2⟩ := byte_ok (x := x1) hs hp1
    obtain ⟨b3, p3, x3, e3, h31, h32, hp3⟩ := byte_ok (x := x2) hs hp2
    obtain ⟨b4, p4, x4, e4, h41, h42, hp4⟩ := byte_ok (x := x3) hs hp3
    unfold spec_l1Below.f
    rw [if_neg (by omega), if_neg h1, e1, Option.bind_some, e2, Option.bind_some, e3, Option.bind_some, e4, Option.bind_some, if_neg (by omega)]
    have hw : wrap64 (wrap64 (wrap64 (wrap64 (b1 * 16777216) + wrap64 (b2 * 65536)) + wrap64 (b3 * 256)) + b4) = b1 * 16777216 + b2 * 65536 + b3 * 256 + b4 := by
      rw [w64 (x := b1 * 16777216) (by omega) (by omega), w64 (x := b2 * 65536) (by omega) (by omega), w64 (x := b3 * 256) (by omega) (by omega), w64 (x := b1 * 16777216 + b2 * 65536) (by omega) (by omega), w64 (x := b1 * 16777216 + b2 * 65536 + b3 * 256) (by omega) (by omega), w64 (by omega) (by omega)]
    refine ⟨_, _, _, rfl, ?_, ?_, hp4⟩
    · dsimp only
      rw [hw]
      exact Int.tmod_nonneg _ (by omega)
    · exact Int.tmod_lt_of_pos _ h0
theorem odd_of {a : Int} {x : Nat} {Q : Nat → Prop} (h : ∀ r, Q r) : spec_l4Odd.f a x Q := by
  unfold spec_l4Odd.f
  split
  · exact h _
  · split
    · exact fun r _ => h r
    · split
      · exact fun r _ => h r
      · exact fun r _ => h r
theorem drawF_l0 {s : List Int} {Q : Nat × Int × Int → Prop} {p x : Int} (h : ∀ r, Q (r, p, x)) (d : Nat) : ∀ (k a : Nat) (i : Int), i = (d : Int) → d ≤ 1000 → d < k → spec_l4DrawFloat.l0 k a i s p x Q := by
  induction d with
  | zero =>
    intro k a i hi hd hk
    obtain ⟨k, rfl⟩ : ∃ q, k = q + 1 := ⟨k - 1, by omega⟩
    rw [spec_l4DrawFloat.l0, if_neg (by omega)]
    exact h _
  | succ d ih =>
    intro k a i hi hd hk
    obtain ⟨k, rfl⟩ : ∃ q, k = q + 1 := ⟨k - 1, by omega⟩
    rw [spec_l4DrawFloat.l0, if_pos (by omega)]
    intro fr _
    exact ih k fr _ (by rw [w64 (by omega) (by omega)]; omega) (by omega) (by omega)
theorem drawF_l1 {s : List Int} {Q : Nat × Int × Int → Prop} {p x : Int} (h : ∀ r, Q (r, p, x)) (d : Nat) : ∀ (k a : Nat) (i : Int), i = (d : Int) → d ≤ 1000 → d < k → spec_l4DrawFloat.l1 k a i s p x Q := by
  induction d with
  | zero =>
    intro k a i hi hd hk
    obtain ⟨k, rfl⟩ : ∃ q, k = q + 1 := ⟨k - 1, by omega⟩
    rw [spec_l4DrawFloat.l1, if_neg (by omega)]
    exact h _
  | succ d ih =>
    intro k a i hi hd hk
    obtain ⟨k, rfl⟩ : ∃ q, k = q + 1 := ⟨k - 1, by omega⟩
    rw [spec_l4DrawFloat.l1, if_pos (by omega)]
    intro fr _
    exact ih k fr _ (by rw [w64 (by omega) (by omega)]; omega) (by omega) (by omega)
theorem drawF_j2 {s : List Int} {Q : Nat × Int × Int → Prop} {k : Nat} {b : Bool} {p x : Int} (hs : s.length ≤ 1048576) (hp : Pl s p) (hk : 0 < k) (h : ∀ r p' x', Pl s p' → Q (r, p', x')) : spec_l4DrawFloat.j2 k b s p x Q := by
  obtain ⟨k, rfl⟩ : ∃ q, k = q + 1 := ⟨k - 1, by omega⟩
  rw [spec_l4DrawFloat.j2]
  split
  · obtain ⟨r, p', x', e, _, _, hp'⟩ := below_any (x := x) hs hp (n := 81) (by omega)
    exact ⟨_, e, fun fr _ => h _ _ _ hp'⟩
  · obtain ⟨r, p', x', e, _, _, hp'⟩ := below_any (x := x) hs hp (n := 21) (by omega)
    exact ⟨_, e, h _ _ _ hp'⟩
theorem drawF_of {s : List Int} {Q : Nat × Int × Int → Prop} {k : Nat} {p x : Int} (hs : s.length ≤ 1048576) (hp : Pl s p) (hk : 90 < k) (h : ∀ r p' x', Pl s p' → Q (r, p', x')) : spec_l4DrawFloat.f k s p x Q := by
  unfold spec_l4DrawFloat.f
  obtain ⟨r, p1, x1, e, _, _, hp1⟩ := below_any (x := x) hs hp (n := 9) (by omega)
  refine ⟨_, e, ?_⟩
  dsimp only
  split
  · obtain ⟨r2, p2, x2, e2, _, _, hp2⟩ := below_any (x := x1) hs hp1 (n := 2001) (by omega)
    exact ⟨_, e2, fun fr _ => h _ _ _ hp2⟩
  · split
    · obtain ⟨r2, p2, x2, e2, _, _, hp2⟩ := below_any (x := x1) hs hp1 (n := 2001) (by omega)
      refine ⟨_, e2, fun fr _ => ?_⟩
      obtain ⟨r3, p3, x3, e3, h30, h31, hp3⟩ := below_any (x := x2) hs hp2 (n := 60) (by omega)
      exact ⟨_, e3, drawF_l0 (fun r => h r _ _ hp3) r3.toNat k fr r3 (by omega) (by omega) (by omega)⟩
    · split
      · obtain ⟨r2, p2, x2, e2, _, _, hp2⟩ := below_any (x := x1) hs hp1 (n := 2001) (by omega)
        refine ⟨_, e2, fun fr _ => ?_⟩
        obtain ⟨r3, p3, x3, e3, h30, h31, hp3⟩ := below_any (x := x2) hs hp2 (n := 80) (by omega)
        exact ⟨_, e3, drawF_l1 (fun r => h r _ _ hp3) r3.toNat k fr r3 (by omega) (by omega) (by omega)⟩
      · split
        · obtain ⟨r2, p2, x2, e2, hp2⟩ := once_ok (x := x1) hs hp1 (n := 5) (by omega) (by omega)
          refine ⟨_, e2, ?_⟩
          dsimp only
          split
          · obtain ⟨r3, p3, x3, e3, _, _, hp3⟩ := below_any (x := x2) hs hp2 (n := 4) (by omega)
            exact ⟨_, e3, odd_of (fun r => h r _ _ hp3)⟩
          · obtain ⟨r3, p3, x3, e3, _, _, hp3⟩ := below_any (x := x2) hs hp2 (n := 21) (by omega)
            exact ⟨_, e3, h _ _ _ hp3⟩
        · first
          | exact drawF_j2 hs hp1 (by omega) h
          | (split <;> exact drawF_j2 hs hp1 (by omega) h)
theorem full_of {a b : Nat} {Q : Nat × Nat → Prop} (h : ∀ u v, Q (u, v)) : spec_Full.f a b Q := by
  unfold spec_Full.f
  exact fun _ _ _ _ => h _ _
theorem times_of {a b c d : Nat} {Q : Nat × Nat → Prop} (h : ∀ u v, Q (u, v)) : spec_PhTimes.f a b c d Q := by
  unfold spec_PhTimes.f
  exact fun _ _ _ _ _ _ _ _ _ _ _ _ => h _ _
theorem draw_of {s : List Int} {Q : Nat × Nat × Int × Int → Prop} {k : Nat} {p x : Int} (hs : s.length ≤ 1048576) (hp : Pl s p) (hk : 90 < k) (h : ∀ u v p' x', Pl s p' → Q (u, v, p', x')) : spec_l4Draw.f k s p x Q := by
  unfold spec_l4Draw.f
  refine drawF_of hs hp hk fun r1 p1 x1 hp1 => drawF_of hs hp1 hk fun r2 p2 x2 hp2 => full_of fun u v => ?_
  obtain ⟨b, p3, x3, e3, hp3⟩ := once_ok (x := x2) hs hp2 (n := 3) (by omega) (by omega)
  refine ⟨_, e3, ?_⟩
  dsimp only
  split
  · exact drawF_of hs hp3 hk fun r4 p4 x4 hp4 => drawF_of hs hp4 hk fun r5 p5 x5 hp5 => full_of fun u' v' => times_of fun u2 v2 => h _ _ _ _ hp5
  · exact h _ _ _ _ hp3

end Go.Proofs.Ythjlapmjpjpgeaa.DX
namespace Go.Proofs.Ythjlapmjpjpgeaa.DX
set_option linter.unusedSimpArgs false
set_option linter.unusedVariables false
open Go.RowKit Go.Proofs.YthjlapmjpjpgeaaW.PrintWords Go.Proofs.Ythjlapmjpjpgeaa.PbDX

/-- What a turn of this kind makes of object a (with z, or with object b); o: is it told. -/
def NewV (kd : Int) (a : S28) (z0 z1 : Nat) (b : S28) (u v : Nat) (o : Bool) : Prop :=
  if kd = 1 then u = z0 ∧ v = z1 ∧ o = true
  else if kd = 2 then FRk .f64 .add a.f0 z0 u ∧ FRk .f64 .add a.f1 z1 v ∧ o = true
  else if kd = 3 then PT a.f0 a.f1 z0 z1 u v ∧ o = true
  else if kd = 4 then PhO a.f0 a.f1 z0 z1 u v o
  else if kd = 5 then u = a.f0 ∧ v = Go.Op.negFloat .f64 a.f1 ∧ o = true
  else PT a.f0 a.f1 b.f0 b.f1 u v ∧ o = true
theorem NewV.same {kd : Int} {a a' : S28} {z0 z1 : Nat} {b b' : S28} {u v u' v' : Nat} {o o' : Bool} (h : NewV kd a z0 z1 b u v o) (h' : NewV kd a' z0 z1 b' u' v' o') (ha0 : Same a.f0 a'.f0) (ha1 : Same a.f1 a'.f1) (hb0 : Same b.f0 b'.f0) (hb1 : Same b.f1 b'.f1) : Same u u' ∧ Same v v' ∧ o = o' := by
  have r := Same.refl
  unfold NewV at h h'
  split at h
  · rename_i c
    rw [if_pos c] at h'
    obtain ⟨rfl, rfl, rfl⟩ := h
    obtain ⟨rfl, rfl, rfl⟩ := h'
    exact ⟨r _, r _, rfl⟩
  · rename_i c1
    rw [if_neg c1] at h'
    split at h
    · rename_i c
      rw [if_pos c] at h'
      obtain ⟨h1, h2, rfl⟩ := h
      obtain ⟨g1, g2, rfl⟩ := h'
      exact ⟨frk_same h1 g1 ha0 (r _), frk_same h2 g2 ha1 (r _), rfl⟩
    · rename_i c2
      rw [if_neg c2] at h'
      split at h
      · rename_i c
        rw [if_pos c] at h'
        obtain ⟨h1, rfl⟩ := h
        obtain ⟨g1, rfl⟩ := h'
        have := PT.same h1 g1 ha0 ha1 (r _) (r _)
        exact ⟨this.1, this.2, rfl⟩
      · rename_i c3
        rw [if_neg c3] at h'
        split at h
        · rename_i c
          rw [if_pos c] at h'
          exact PhO.same h h' ha0 ha1 (r _) (r _)
        · rename_i c4
          rw [if_neg c4] at h'
          split at h
          · rename_i c
            rw [if_pos c] at h'
            obtain ⟨rfl, rfl, rfl⟩ := h
            obtain ⟨rfl, rfl, rfl⟩ := h'
            exact ⟨ha0, neg_same ha1, rfl⟩
          · rename_i c5
            rw [if_neg c5] at h'
            obtain ⟨h1, rfl⟩ := h
            obtain ⟨g1, rfl⟩ := h'
            have := PT.same h1 g1 ha0 ha1 hb0 hb1
            exact ⟨this.1, this.2, rfl⟩
def okT (n : Nat) (kd at_ fr : Int) : Prop := n ≤ 12 ∧ (1 ≤ kd ∧ kd ≤ 6) ∧ (0 ≤ at_ ∧ at_ < n) ∧ (kd = 6 → 0 ≤ fr ∧ fr < n)
/-- One turn: the objects behind it, and whether it was true. -/
def TR (l : List S28) (kd at_ fr : Int) (z0 z1 : Nat) (out : List S28) (ok : Bool) : Prop :=
  (okT l.length kd at_ fr ∧ ∃ u v, NewV kd (rd_T28 l at_) z0 z1 (rd_T28 l fr) u v ok ∧ out = if ok = true then l.set at_.toNat ⟨u, v⟩ else l) ∨ (¬ okT l.length kd at_ fr ∧ out = l ∧ ok = false)
theorem TR.len {l : List S28} {kd at_ fr : Int} {z0 z1 : Nat} {out : List S28} {ok : Bool} (h : TR l kd at_ fr z0 z1 out ok) : out.length = l.length := by
  rcases h with ⟨_, u, v, _, rfl⟩ | ⟨_, rfl, _⟩
  · split <;> simp
  · rfl
theorem TR.same {l l' : List S28} {kd at_ fr : Int} {z0 z1 : Nat} {out out' : List S28} {ok ok' : Bool} (hs : SameL l l') (h : TR l kd at_ fr z0 z1 out ok) (h' : TR l' kd at_ fr z0 z1 out' ok') : SameL out out' ∧ ok = ok' := by
  have hlen := hs.len
  rcases h with ⟨h1, u, v, h2, h3⟩ | ⟨h1, h2, h3⟩
  · rcases h' with ⟨g1, u', v', g2, g3⟩ | ⟨g1, g2, g3⟩
    · have e := NewV.same h2 g2 (hs.rd _).1 (hs.rd _).2 (hs.rd _).1 (hs.rd _).2
      obtain ⟨e1, e2, rfl⟩ := e
      subst h3 g3
      cases ok
      · exact ⟨hs, rfl⟩
      · exact ⟨hs.set _ e1 e2, rfl⟩
    · exact absurd (hlen ▸ h1) g1
  · rcases h' with ⟨g1, u', v', g2, g3⟩ | ⟨g1, g2, g3⟩
    · exact absurd (hlen ▸ g1) h1
    · subst h2 h3 g2 g3
      exact ⟨hs, rfl⟩
theorem iIn_eq (a b c : Int) : impl_in.f a b c = some (decide (b ≤ a ∧ a ≤ c)) := by
  unfold impl_in.f
  by_cases h : b ≤ a
  · rw [if_pos h]
    congr 1
    exact decide_eq_decide.2 ⟨fun x => ⟨h, x⟩, fun x => x.2⟩
  · rw [if_neg h]
    congr 1
    exact (decide_eq_false fun x => h x.1).symm
theorem iCopy_eq {l : List S28} (hl : l.length ≤ 4000000) : impl_ownPhasors.f l = some l := by
  unfold impl_ownPhasors.f
  rw [Option.bind_some, if_pos (by simp; omega), List.nil_append]
theorem iPT_of {a b c d : Nat} {Q : Nat × Nat → Prop} (h : ∀ p q, PT a b c d p q → Q (p, q)) : impl_PhTimes.f a b c d Q := by
  intro w hw x hx y hy z hz p hp q hq
  exact h p q ⟨w, x, y, z, hw, hx, hy, hz, hp, hq⟩
theorem iT_false {k : Nat} {l : List S28} {kd at_ fr : Int} {z0 z1 : Nat} {Q : List S28 × Bool → Prop} (hk : 0 < k) (hn : ¬ okT l.length kd at_ fr) (h : ∀ out ok, TR l kd at_ fr z0 z1 out ok → Q (out, ok)) : impl_Turned.j0 k l l true kd at_ fr z0 z1 Q := by
  obtain ⟨k, rfl⟩ : ∃ m, k = m + 1 := ⟨k - 1, by omega⟩
  simp only [impl_Turned.j0]
  first | rw [if_pos rfl] | rw [if_pos trivial]
  exact h l false (Or.inr ⟨hn, rfl, rfl⟩)
theorem iT_true {k : Nat} {l : List S28} {kd at_ fr : Int} {z0 z1 : Nat} {Q : List S28 × Bool → Prop} (hk : 1 < k) (ho : okT l.length kd at_ fr) (h : ∀ out ok, TR l kd at_ fr z0 z1 out ok → Q (out, ok)) : impl_Turned.j0 k l l false kd at_ fr z0 z1 Q := by
  obtain ⟨k, rfl⟩ : ∃ m, k = m + 1 := ⟨k - 1, by omega⟩
  have go : ∀ u v, NewV kd (rd_T28 l at_) z0 z1 (rd_T28 l fr) u v true → Q (l.set at_.toNat ⟨u, v⟩, true) := fun u v hv => h _ true (Or.inl ⟨ho, u, v, hv, by rw [if_pos rfl]⟩)
  obtain ⟨o1, o2, o3, o4⟩ := id ho
  simp only [impl_Turned.j0]
  first | rw [if_neg Bool.false_ne_true] | rw [if_neg not_false]
  rw [if_pos o3.1, if_pos o3.2]
  unfold NewV at go
  by_cases c1 : kd = 1
  · rw [if_pos c1, if_pos o3.2]
    exact go _ _ (by rw [if_pos c1]; exact ⟨rfl, rfl, rfl⟩)
  · rw [if_neg c1]
    by_cases c2 : kd = 2
    · rw [if_pos c2]
      intro u hu v hv
      rw [if_pos o3.2]
      exact go _ _ (by rw [if_neg c1, if_pos c2]; exact ⟨hu, hv, rfl⟩)
    · rw [if_neg c2]
      by_cases c3 : kd = 3
      · rw [if_pos c3]
        refine iPT_of fun p q hp => ?_
        rw [if_pos o3.2]
        exact go _ _ (by rw [if_neg c1, if_neg c2, if_pos c3]; exact ⟨hp, rfl⟩)
      · rw [if_neg c3]
        by_cases c4 : kd = 4
        · rw [if_pos c4]
          refine implOver_of (by omega) fun u v o hp => ?_
          cases o with
          | true =>
            rw [if_pos rfl, if_pos o3.2]
            exact go _ _ (by rw [if_neg c1, if_neg c2, if_neg c3, if_pos c4]; exact hp)
          | false =>
            rw [if_neg Bool.false_ne_true]
            exact h l false (Or.inl ⟨ho, u, v, by unfold NewV; rw [if_neg c1, if_neg c2, if_neg c3, if_pos c4]; exact hp, by rw [if_neg Bool.false_ne_true]⟩)
        · rw [if_neg c4]
          by_cases c5 : kd = 5
          · rw [if_pos c5, if_pos o3.2]
            exact go _ _ (by rw [if_neg c1, if_neg c2, if_neg c3, if_neg c4, if_pos c5]; exact ⟨rfl, rfl, rfl⟩)
          · have c6 : kd = 6 := by omega
            have o5 := o4 c6
            rw [if_neg c5, if_pos c6, if_pos o5.1, if_pos o5.2]
            refine iPT_of fun p q hp => ?_
            rw [if_pos o3.2]
            exact go _ _ (by rw [if_neg c1, if_neg c2, if_neg c3, if_neg c4, if_neg c5]; exact ⟨hp, rfl⟩)
theorem implTurned_of {k : Nat} {l : List S28} {kd at_ fr : Int} {z0 z1 : Nat} {Q : List S28 × Bool → Prop} (hl : l.length ≤ 4000000) (hk : 1 < k) (h : ∀ out ok, TR l kd at_ fr z0 z1 out ok → Q (out, ok)) : impl_Turned.f k l kd at_ fr z0 z1 Q := by
  unfold impl_Turned.f
  refine ⟨l, iCopy_eq hl, ?_⟩
  by_cases c0 : (l.length : Int) > 12
  · rw [if_pos c0]
    exact iT_false (by omega) (fun o => by have := o.1; omega) h
  · rw [if_neg c0]
    refine ⟨_, iIn_eq _ _ _, ?_⟩
    by_cases c1 : 1 ≤ kd ∧ kd ≤ 6
    · rw [decide_eq_true c1, if_pos rfl]
      refine ⟨_, iIn_eq _ _ _, ?_⟩
      rw [w64 (by omega) (by omega)]
      by_cases c2 : 0 ≤ at_ ∧ at_ ≤ (l.length : Int) - 1
      · rw [decide_eq_true c2, if_pos rfl]
        by_cases c3 : kd = 6
        · rw [if_pos c3]
          refine ⟨_, iIn_eq _ _ _, ?_⟩
          by_cases c4 : 0 ≤ fr ∧ fr ≤ (l.length : Int) - 1
          · rw [decide_eq_true c4]
            exact iT_true (by omega) ⟨by omega, c1, by omega, fun _ => by omega⟩ h
          · rw [decide_eq_false c4]
            exact iT_false (by omega) (fun o => c4 (by have := o.2.2.2 c3; omega)) h
        · rw [if_neg c3]
          exact iT_true (by omega) ⟨by omega, c1, by omega, fun x => absurd x c3⟩ h
      · rw [decide_eq_false c2, if_neg Bool.false_ne_true]
        exact iT_false (by omega) (fun o => c2 (by have := o.2.2.1; omega)) h
    · rw [decide_eq_false c1, if_neg Bool.false_ne_true]
      exact iT_false (by omega) (fun o => c1 o.2.1) h


end Go.Proofs.Ythjlapmjpjpgeaa.DX
namespace Go.Proofs.Ythjlapmjpjpgeaa.DX
set_option linter.unusedSimpArgs false
set_option linter.unusedVariables false
open Go.RowKit Go.Proofs.YthjlapmjpjpgeaaW.PrintWords Go.Proofs.Ythjlapmjpjpgeaa.PbDX

theorem rdT56_at (l : List S56) (i : Nat) (h : i < l.length) : rd_T56 l (i : Int) = l[i] := by
  simp [rd_T56, List.getD_eq_getElem?_getD, List.getElem?_eq_getElem h]

end Go.Proofs.Ythjlapmjpjpgeaa.DX
namespace Go.Proofs.Ythjlapmjpjpgeaa.DX
set_option linter.unusedSimpArgs false
set_option linter.unusedVariables false
open Go.RowKit Go.Proofs.YthjlapmjpjpgeaaW.PrintWords Go.Proofs.Ythjlapmjpjpgeaa.PbDX

def TA (l : List S28) : List S28 → List S56 → List S28 → Bool → Prop
  | cur, [], out, ok => out = cur ∧ ok = true
  | cur, t :: ts, out, ok => ∃ nx o, TR cur t.f0 t.f1 t.f2 t.f3.f0 t.f3.f1 nx o ∧ if o = true then TA l nx ts out ok else out = l ∧ ok = false
theorem TA.len (l : List S28) : ∀ (ts : List S56) (cur out : List S28) (ok : Bool), TA l cur ts out ok → cur.length = l.length → out.length = l.length
  | [], cur, out, ok, h, hc => by
    obtain ⟨rfl, _⟩ := h
    exact hc
  | t :: ts, cur, out, ok, h, hc => by
    obtain ⟨nx, o, h1, h2⟩ := h
    cases o with
    | true => rw [if_pos rfl] at h2; exact TA.len l ts nx out ok h2 (h1.len.trans hc)
    | false => rw [if_neg Bool.false_ne_true] at h2; rw [h2.1]
theorem TA.same (l : List S28) : ∀ (ts : List S56) (cur cur' out out' : List S28) (ok ok' : Bool), SameL cur cur' → TA l cur ts out ok → TA l cur' ts out' ok' → SameL out out' ∧ ok = ok'
  | [], cur, cur', out, out', ok, ok', hs, h, h' => by
    obtain ⟨rfl, rfl⟩ := h
    obtain ⟨rfl, rfl⟩ := h'
    exact ⟨hs, rfl⟩
  | t :: ts, cur, cur', out, out', ok, ok', hs, h, h' => by
    obtain ⟨nx, o, h1, h2⟩ := h
    obtain ⟨nx', o', g1, g2⟩ := h'
    obtain ⟨e1, rfl⟩ := TR.same hs h1 g1
    cases o with
    | true =>
      rw [if_pos rfl] at h2 g2
      exact TA.same l ts nx nx' out out' ok ok' e1 h2 g2
    | false =>
      rw [if_neg Bool.false_ne_true] at h2 g2
      obtain ⟨rfl, rfl⟩ := h2
      obtain ⟨rfl, rfl⟩ := g2
      exact ⟨SameL.refl _, rfl⟩
theorem implTA_l0 (l : List S28) (ts : List S56) (hl : l.length ≤ 4000000) (ht : ts.length ≤ 4000000) (Q : List S28 × Bool → Prop) (d : Nat) : ∀ (k i : Nat) (cur : List S28), i + d = ts.length → d + 2 < k → cur.length ≤ 4000000 → (∀ out ok, TA l cur (ts.drop i) out ok → Q (out, ok)) → impl_TurnAll.l0 k l cur ts (ts.length : Int) (i : Int) Q := by
  induction d with
  | zero =>
    intro k i cur hi hk hc hQ
    obtain ⟨k, rfl⟩ : ∃ m, k = m + 1 := ⟨k - 1, by omega⟩
    simp only [impl_TurnAll.l0]
    rw [if_neg (by omega)]
    exact hQ cur true (by rw [List.drop_of_length_le (by omega)]; exact ⟨rfl, rfl⟩)
  | succ d ih =>
    intro k i cur hi hk hc hQ
    obtain ⟨k, rfl⟩ : ∃ m, k = m + 1 := ⟨k - 1, by omega⟩
    simp only [impl_TurnAll.l0]
    rw [if_pos (by omega), if_pos (by omega), if_pos (by omega), w64 (by omega) (by omega), show ((i : Int) + 1) = ((i + 1 : Nat) : Int) from by omega, rdT56_at ts i (by omega)]
    refine implTurned_of hc (by omega) fun nx o hx => ?_
    simp only at hx ⊢
    cases o with
    | true =>
      rw [if_pos rfl]
      exact ih k (i + 1) nx (by omega) (by omega) (by rw [hx.len]; exact hc) fun out ok h => hQ out ok (by rw [drop_cons ts i (by omega)]; exact ⟨nx, true, hx, by rw [if_pos rfl]; exact h⟩)
    | false =>
      rw [if_neg Bool.false_ne_true]
      exact ⟨l, iCopy_eq hl, hQ l false (by rw [drop_cons ts i (by omega)]; exact ⟨nx, false, hx, by rw [if_neg Bool.false_ne_true]; exact ⟨rfl, rfl⟩⟩)⟩
/-- All turns: those behind them, or as they were. -/
def TAll (l : List S28) (ts : List S56) (out : List S28) (ok : Bool) : Prop := if ts.length ≤ 60 then TA l l ts out ok else out = l ∧ ok = false
theorem TAll.len {l ts out ok} (h : TAll l ts out ok) : out.length = l.length := by
  unfold TAll at h
  split at h
  · exact TA.len l ts l out ok h rfl
  · rw [h.1]
theorem TAll.same {l ts out out' ok ok'} (h : TAll l ts out ok) (h' : TAll l ts out' ok') : SameL out out' ∧ ok = ok' := by
  unfold TAll at h h'
  split at h
  · rename_i c
    rw [if_pos c] at h'
    exact TA.same l ts l l out out' ok ok' (SameL.refl _) h h'
  · rename_i c
    rw [if_neg c] at h'
    obtain ⟨rfl, rfl⟩ := h
    obtain ⟨rfl, rfl⟩ := h'
    exact ⟨SameL.refl _, rfl⟩
theorem implTAll_of {k : Nat} {l : List S28} {ts : List S56} {Q : List S28 × Bool → Prop} (hl : l.length ≤ 4000000) (ht : ts.length ≤ 4000000) (hk : ts.length + 2 < k) (h : ∀ out ok, TAll l ts out ok → Q (out, ok)) : impl_TurnAll.f k l ts Q := by
  unfold impl_TurnAll.f
  by_cases c : (ts.length : Int) > 60
  · rw [if_pos c]
    exact ⟨l, iCopy_eq hl, h l false (by unfold TAll; rw [if_neg (by omega)]; exact ⟨rfl, rfl⟩)⟩
  · rw [if_neg c]
    exact ⟨l, iCopy_eq hl, implTA_l0 l ts hl ht Q ts.length k 0 l (by omega) hk hl fun out ok h1 => h out ok (by unfold TAll; rw [if_pos (by omega)]; rwa [List.drop_zero] at h1)⟩


end Go.Proofs.Ythjlapmjpjpgeaa.DX
namespace Go.Proofs.Ythjlapmjpjpgeaa.DX
set_option linter.unusedSimpArgs false
set_option linter.unusedVariables false
open Go.RowKit Go.Proofs.YthjlapmjpjpgeaaW.PrintWords Go.Proofs.Ythjlapmjpjpgeaa.PbDX

def okP (p q : S28) : Bool := (FloatKind.f64.format.order p.f0 q.f0 == some .eq) && (FloatKind.f64.format.order p.f1 q.f1 == some .eq)
def alB : List S28 → List S28 → Bool
  | p :: a, q :: b => okP p q && alB a b
  | _, _ => true
theorem sq_ (u v : Option Ordering) : (if (u == some .eq) = true then some (v == some .eq) else some false) = some ((u == some .eq) && (v == some .eq)) := by
  rcases u with _ | (_ | _ | _) <;> rcases v with _ | (_ | _ | _) <;> rfl
theorem cl_eq (p q : S28) : impl_AlikePh_1.f p.f0 p.f1 q.f0 q.f1 = some (okP p q) := by
  unfold impl_AlikePh_1.f okP
  exact sq_ _ _
theorem implAl_l0 (x y : List S28) (hl : x.length ≤ 4000000) (he : y.length = x.length) (d : Nat) : ∀ (k i : Nat), i + d = x.length → d < k → impl_Phasor_F52.l0 k y x (x.length : Int) (i : Int) = some (alB (x.drop i) (y.drop i)) := by
  induction d with
  | zero =>
    intro k i hi hk
    obtain ⟨k, rfl⟩ : ∃ m, k = m + 1 := ⟨k - 1, by omega⟩
    simp only [impl_Phasor_F52.l0]
    rw [if_neg (by omega), List.drop_of_length_le (by omega)]
    rfl
  | succ d ih =>
    intro k i hi hk
    obtain ⟨k, rfl⟩ : ∃ m, k = m + 1 := ⟨k - 1, by omega⟩
    simp only [impl_Phasor_F52.l0]
    rw [if_pos (by omega), if_pos (by omega), if_pos (by omega), if_pos (by omega), w64 (by omega) (by omega), show ((i : Int) + 1) = ((i + 1 : Nat) : Int) from by omega, ih k (i + 1) (by omega) (by omega),
      rdT28_at x i (by omega), rdT28_at y i (by omega), drop_cons x i (by omega), drop_cons y i (by omega), cl_eq, Option.bind_some]
    simp only [alB]
    cases okP x[i] y[i] with
    | false => rfl
    | true => rfl
theorem implAl_eq {k : Nat} {x y : List S28} (hl : x.length ≤ 4000000) (hk : x.length < k) : impl_AlikePh.f k x y = some (x.length == y.length && alB x y) := by
  unfold impl_AlikePh.f impl_Phasor_F52.f
  by_cases h : x.length = y.length
  · rw [if_pos (by omega)]
    have h0 := implAl_l0 x y hl h.symm x.length k 0 (by omega) hk
    rw [List.drop_zero, List.drop_zero] at h0
    rw [show ((0 : Int)) = ((0 : Nat) : Int) from rfl, h0, Option.bind_some, beq_iff_eq.2 h, Bool.true_and]
  · rw [if_neg (by omega), Option.bind_some, beq_eq_false_iff_ne.2 h, Bool.false_and]


end Go.Proofs.Ythjlapmjpjpgeaa.DX
namespace Go.Proofs.Ythjlapmjpjpgeaa.Pure
set_option linter.unusedVariables false
set_option linter.unusedSimpArgs false
open Go.RowKit Go.Proofs.Ythjlapmjpjpgeaa.DX Go.Proofs.YthjlapmjpjpgeaaW.PrintWords Go.Proofs.Ythjlapmjpjpgeaa.PbDX

theorem u8_rng {z : Int} (h : (Lit.int .u8 z).wf = true) : 0 ≤ z ∧ z ≤ 255 := by
  have h1 := of_decide_eq_true (show decide (IntKind.u8.min ≤ z) = true from by simp [Lit.wf] at h; simpa using h.1)
  have h2 := of_decide_eq_true (show decide (z ≤ IntKind.u8.max) = true from by simp [Lit.wf] at h; simpa using h.2)
  exact ⟨h1, h2⟩
theorem at_ok {l : List Int} (hl : l.length ≤ 1048576) (hu : ∀ z ∈ l, (Lit.int .u8 z).wf = true) {a : Int} (h0 : 0 ≤ a) (h1 : a ≤ 100) : ∃ v, laws_at.f l a = some v ∧ 0 ≤ v ∧ v ≤ 255 := by
  unfold laws_at.f
  by_cases h : a < (l.length : Int)
  · rw [if_pos h, if_pos h0]
    obtain ⟨n, rfl⟩ := Int.eq_ofNat_of_zero_le h0
    have hn : n < l.length := by omega
    have := u8_rng (hu _ (List.getElem_mem hn))
    rw [rd_at l n hn, w64 (by omega) (by omega)]
    exact ⟨_, rfl, this.1, this.2⟩
  · rw [if_neg h, w64 (x := a * 7) (by omega) (by omega), w64 (by omega) (by omega)]
    refine ⟨_, rfl, Int.tmod_nonneg _ (by omega), ?_⟩
    have := Int.tmod_lt_of_pos (a * 7 + (l.length : Int)) (show (0 : Int) < 256 by omega)
    omega
theorem same_bits {a b : Nat} (h : Same a b) : laws_sameBits.f a b = some true := by
  unfold laws_sameBits.f
  by_cases c : (FloatKind.f64.format.order a b == some .eq) = true
  · rw [if_pos c]
  · rw [if_neg c]
    rcases h with h | h
    · rw [h.1, h.2]
      rfl
    · subst h
      have c2 : (FloatKind.f64.format.order a a != some .eq) = true := by
        cases hc : (FloatKind.f64.format.order a a == some .eq) with
        | true => exact absurd hc c
        | false => simp [bne, hc]
      rw [if_pos c2, c2]
theorem Vi_one : Vi 4607182418800017408 1 := by
  have := Vi_int 1 (by decide)
  rwa [show floatOfInt .f64 1 = 4607182418800017408 from by decide +kernel] at this
theorem Vi_two : Vi 4611686018427387904 2 := by
  have := Vi_int 2 (by decide)
  rwa [show floatOfInt .f64 2 = 4611686018427387904 from by decide +kernel] at this
theorem Vi_less2 : Vi 13835058055282163712 (-2) := by
  have := Vi_int (-2) (by decide)
  rwa [show floatOfInt .f64 (-2) = 13835058055282163712 from by decide +kernel] at this
theorem Vi_less4 : Vi 13839561654909534208 (-4) := by
  have := Vi_int (-4) (by decide)
  rwa [show floatOfInt .f64 (-4) = 13839561654909534208 from by decide +kernel] at this
def U : List S28 := [⟨4607182418800017408, 0⟩, ⟨4611686018427387904, 0⟩, ⟨0, 4607182418800017408⟩, ⟨13839561654909534208, 0⟩, ⟨0, 13835058055282163712⟩, ⟨4607182418800017408, 4607182418800017408⟩]
theorem unit_ok {j : Int} (h0 : 0 ≤ j) (h1 : j < 6) : ∃ (z0 z1 : Int) (D : Nat), Vi (rd_T28 U j).f0 z0 ∧ Vi (rd_T28 U j).f1 z1 ∧ z0.natAbs ≤ 10 ∧ z1.natAbs ≤ 10 ∧ z0 * z0 + z1 * z1 = (D : Int) ∧ 0 < D := by
  have hj : j = 0 ∨ j = 1 ∨ j = 2 ∨ j = 3 ∨ j = 4 ∨ j = 5 := by omega
  rcases hj with rfl | rfl | rfl | rfl | rfl | rfl
  · exact ⟨1, 0, 1, Vi_one, Vi_nul, by decide, by decide, by decide, by decide⟩
  · exact ⟨2, 0, 4, Vi_two, Vi_nul, by decide, by decide, by decide, by decide⟩
  · exact ⟨0, 1, 1, Vi_nul, Vi_one, by decide, by decide, by decide, by decide⟩
  · exact ⟨-4, 0, 16, Vi_less4, Vi_nul, by decide, by decide, by decide, by decide⟩
  · exact ⟨0, -2, 4, Vi_nul, Vi_less2, by decide, by decide, by decide, by decide⟩
  · exact ⟨1, 1, 2, Vi_one, Vi_one, by decide, by decide, by decide, by decide⟩
theorem drawPT_of {s : List Int} {Q : Nat × Nat × Nat × Nat → Prop} {k : Nat} (hs : s.length ≤ 1048576) (hk : s.length + 200 < k) (h : ∀ a b c d, Q (a, b, c, d)) : spec_DrawPhTimes.f k s Q := by
  unfold spec_DrawPhTimes.f
  obtain ⟨x, e⟩ := l1New_ok (k := k) hs (by omega)
  refine ⟨_, e, ?_⟩
  have hp : Pl s 0 := ⟨by omega, by omega⟩
  exact draw_of hs hp (by omega) fun a b p1 x1 hp1 => draw_of hs hp1 (by omega) fun c d p2 x2 hp2 => h a b c d
theorem drawFu_of {s : List Int} {Q : Nat × Nat → Prop} {k : Nat} (hs : s.length ≤ 1048576) (hk : s.length + 200 < k) (h : ∀ a b, Q (a, b)) : spec_DrawFull.f k s Q := by
  unfold spec_DrawFull.f
  obtain ⟨x, e⟩ := l1New_ok (k := k) hs (by omega)
  refine ⟨_, e, ?_⟩
  have hp : Pl s 0 := ⟨by omega, by omega⟩
  refine draw_of hs hp (by omega) fun a b p1 x1 hp1 => ?_
  unfold spec_Slimmed.f
  exact fun u _ v _ => h u v
theorem bar1 {a b : Nat} {out : List S28} {ok : Bool} (h : TR [⟨a, b⟩] 5 0 0 0 0 out ok) : out = [⟨a, Go.Op.negFloat .f64 b⟩] ∧ ok = true := by
  rcases h with ⟨_, u, v, hN, hnx⟩ | ⟨hno, _⟩
  · unfold NewV at hN
    rw [if_neg (by decide), if_neg (by decide), if_neg (by decide), if_neg (by decide), if_pos rfl] at hN
    obtain ⟨hu, hv, ho⟩ := hN
    subst ho
    rw [if_pos rfl] at hnx
    rw [hnx, hu, hv]
    exact ⟨rfl, rfl⟩
  · exact absurd (show okT _ 5 0 0 from ⟨by simp, by decide, by simp, fun h => absurd h (by decide)⟩) hno
theorem bar_ok {a b : Nat} {out : List S28} {ok : Bool} (h : TAll [⟨a, b⟩] [⟨5, 0, 0, ⟨0, 0⟩⟩, ⟨5, 0, 0, ⟨0, 0⟩⟩] out ok) : out = [⟨a, Go.Op.negFloat .f64 (Go.Op.negFloat .f64 b)⟩] ∧ ok = true := by
  unfold TAll at h
  rw [if_pos (by decide)] at h
  obtain ⟨n1, o1, h1, g1⟩ := h
  obtain ⟨rfl, rfl⟩ := bar1 h1
  rw [if_pos rfl] at g1
  obtain ⟨n2, o2, h2, g2⟩ := g1
  obtain ⟨rfl, rfl⟩ := bar1 h2
  rw [if_pos rfl] at g2
  exact g2
theorem alike_ok {k a b c d : Nat} {x y : Int} (ha : Vi a x) (hb : Vi b y) (hc : Vi c x) (hd : Vi d y) (hk : 5 < k) : impl_AlikePh.f k [⟨a, b⟩] [⟨c, d⟩] = some true := by
  rw [implAl_eq (by simp) (by simp; omega)]
  simp only [alB, okP, Vi_ord ha hc, Vi_ord hb hd]
  simp
theorem j1_ok {s : List Int} (hl : s.length ≤ 1048576) (hu : ∀ z ∈ s, (Lit.int .u8 z).wf = true) (k : Nat) (hk : 40 < k) : laws_FnPhasors.j1 k s false := by
  obtain ⟨k, rfl⟩ : ∃ q, k = q + 1 := ⟨k - 1, by omega⟩
  obtain ⟨v, hv, v0, v1⟩ := at_ok hl hu (a := 0) (by omega) (by omega)
  obtain ⟨u, hu', u0, u1⟩ := at_ok hl hu (a := 1) (by omega) (by omega)
  obtain ⟨t, ht, t0, t1⟩ := at_ok hl hu (a := 2) (by omega) (by omega)
  rw [laws_FnPhasors.j1, if_neg Bool.false_ne_true]
  refine ⟨v, hv, u, hu', U, rfl, t, ht, ?_⟩
  have hU : (U.length : Int) = 6 := rfl
  rw [hU, if_neg (by decide), if_pos (Int.tmod_nonneg _ t0), if_pos (Int.tmod_lt_of_pos _ (by decide)), w64 (x := v - 128) (by omega) (by omega), w64 (x := u - 128) (by omega) (by omega)]
  obtain ⟨z0, z1, D, hz0, hz1, c0, c1, hD, hD0⟩ := unit_ok (Int.tmod_nonneg 6 t0) (Int.tmod_lt_of_pos t (show (0 : Int) < 6 by decide))
  have Vv := Vi_int (v - 128) (by omega)
  have Vu := Vi_int (u - 128) (by omega)
  refine iPT_of fun p q hp => ?_
  dsimp only
  refine implOver_of (by omega) fun q0 q1 o hq => ?_
  dsimp only
  obtain ⟨rfl, V0, V1⟩ := over_back Vv Vu hz0 hz1 (by omega) (by omega) c0 c1 hD hD0 hp hq
  refine implOver_of (by omega) fun n0 n1 no hn => ?_
  dsimp only
  obtain rfl := over_zero hn
  refine implTAll_of (by simp) (by simp) (by simp; omega) fun out ok hT => ?_
  dsimp only
  obtain ⟨rfl, rfl⟩ := bar_ok hT
  rw [if_pos rfl, if_neg Bool.false_ne_true]
  refine ⟨true, alike_ok V0 V1 Vv Vu (by omega), ?_⟩
  rw [if_pos rfl, if_pos rfl]
  have hb := Vi_neg (Vi_neg Vu)
  rw [Int.neg_neg] at hb
  exact ⟨true, alike_ok Vv hb Vv Vu (by omega), rfl⟩
theorem j0_ok {s : List Int} (hl : s.length ≤ 1048576) (hu : ∀ z ∈ s, (Lit.int .u8 z).wf = true) (k : Nat) (hk : s.length + 300 < k) : laws_FnPhasors.j0 k s false := by
  obtain ⟨k, rfl⟩ : ∃ q, k = q + 1 := ⟨k - 1, by omega⟩
  rw [laws_FnPhasors.j0, if_neg Bool.false_ne_true]
  refine drawFu_of hl (by omega) fun a b => ?_
  unfold impl_Full.f impl_Slimmed.f
  intro a' ha b' hb a2 ha2 b2 hb2
  dsimp only at ha hb ha2 hb2 ⊢
  have ea := there_back ha ha2
  have eb := there_back hb hb2
  have e := j1_ok hl hu k (by omega)
  have nb : (FloatKind.f32.format.order b2 b != some .eq) = true → laws_FnPhasors.j1 k s (FloatKind.f32.format.order b b == some .eq) := by
    intro hc
    rcases eb with h | h
    · rw [h]
      exact e
    · rw [h] at hc
      cases hc
  have na : (FloatKind.f32.format.order a2 a != some .eq) = true → (FloatKind.f32.format.order a a == some .eq) = true → False := by
    intro hc hd
    rcases ea with h | h
    · rw [h] at hd
      cases hd
    · rw [h] at hc
      cases hc
  split
  · rename_i c1
    split
    · rename_i c2
      exact (na c1 c2).elim
    · split
      · rename_i c3
        exact nb c3
      · exact e
  · split
    · rename_i c3
      exact nb c3
    · exact e
theorem FnPhasors : laws_FnPhasors.Pure := by
  intro l hl
  refine ⟨l.length + 1000, ?_⟩
  unfold laws_FnPhasors.f laws_big.f
  refine ⟨_, rfl, ?_⟩
  by_cases hb : (l.length : Int) > 1048576
  · rw [if_pos (decide_eq_true hb)]; trivial
  · rw [if_neg (by simpa using hb)]
    have hlen : l.length ≤ 1048576 := by omega
    refine drawPT_of hlen (by omega) fun a b c d => ?_
    dsimp only
    refine iPT_of fun p q hp => ?_
    dsimp only
    refine iPT_of fun p' q' hp' => ?_
    dsimp only
    have hs := PT.turned hp hp'
    refine ⟨true, same_bits hs.1, ?_⟩
    rw [if_pos rfl]
    refine ⟨true, same_bits hs.2, ?_⟩
    exact j0_ok hlen hl.2 _ (by omega)

end Go.Proofs.Ythjlapmjpjpgeaa.Pure
