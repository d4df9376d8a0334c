/- The pure statement of FnExactWaysOf and what it needs. Conditions: those that each theorem states. -/
import Derived.Test.YtjbfcdeddnnnmaaVFnExactWaysOf0
import Derived.RowKit
import Derived.Test.YtjbfcdeddnnnmaaWWords
namespace Go.Proofs.Ytjbfcdeddnnnmaa.Pb
open Go.RowKit Go.Proofs.YtjbfcdeddnnnmaaW.PrintWords

theorem w64 {x : Int} (h0 : -9223372036854775808 ≤ x) (h1 : x ≤ 9223372036854775807) : wrap64 x = x := by
  unfold wrap64
  omega

theorem rd_at (l : List Int) (i : Nat) (h : i < l.length) : rd l (i : Int) = l[i] := by
  simp [rd, List.getD_eq_getElem?_getD, List.getElem?_eq_getElem h]

theorem set_take {α : Type} (x : List α) (v : α) (i : Nat) (h : i < x.length) : (x.set i v).take (i + 1) = x.take i ++ [v] := by
  rw [List.take_succ_eq_append_getElem (by simpa using h)]
  rw [List.take_set_of_le (Nat.le_refl i)]
  simp

/-- One round of a loop that copies. -/
theorem copy_step {α : Type} (x l : List α) (i : Nat) (h : i < l.length) (hx : i < x.length) :
    (x.set i l[i]).take (i + 1) ++ l.drop (i + 1) = x.take i ++ l.drop i := by
  rw [set_take x l[i] i hx, List.drop_eq_getElem_cons h, List.append_assoc]
  rfl

theorem drop_cons {α : Type} (l : List α) (i : Nat) (h : i < l.length) : l.drop i = l[i] :: l.drop (i + 1) := List.drop_eq_getElem_cons h


end Go.Proofs.Ytjbfcdeddnnnmaa.Pb
namespace Go.Proofs.Ytjbfcdeddnnnmaa.M
set_option linter.unusedVariables false
set_option linter.unusedSimpArgs false
open Go.RowKit Go.Proofs.YtjbfcdeddnnnmaaW.PrintWords Go.Proofs.Ytjbfcdeddnnnmaa.Pb

theorem toIntS_l0 (l : List Int) (hl : l.length ≤ 4000000) (d : Nat) : ∀ (k i : Nat) (x : List Int), i + d = l.length → d < k → x.length = l.length → laws_toIntS.l0 k l x (i : Int) = some (x.take i ++ l.drop i) := by
  induction d with
  | zero =>
    intro k i x hi hk hx
    obtain ⟨k, rfl⟩ : ∃ m, k = m + 1 := ⟨k - 1, by omega⟩
    simp only [laws_toIntS.l0]
    rw [if_neg (by omega), List.take_of_length_le (by omega), List.drop_of_length_le (by omega), List.append_nil]
  | succ d ih =>
    intro k i x hi hk hx
    obtain ⟨k, rfl⟩ : ∃ m, k = m + 1 := ⟨k - 1, by omega⟩
    simp only [laws_toIntS.l0]
    rw [if_pos (by omega), if_pos (by omega), if_pos (by omega), w64 (by omega) (by omega), rd_at l i (by omega), Int.toNat_natCast,
      show ((i : Int) + 1) = ((i + 1 : Nat) : Int) from by omega, ih k (i + 1) _ (by omega) (by omega) (by simp [hx]), copy_step x l i (by omega) (by omega)]

theorem toIntS_eq {k : Nat} {l : List Int} (hl : l.length ≤ 4000000) (hk : l.length < k) : laws_toIntS.f k l = some l := by
  unfold laws_toIntS.f
  rw [if_pos (by omega), if_pos (by omega)]
  have h := toIntS_l0 l hl l.length k 0 (List.replicate ((l.length : Int) : Int).toNat 0) (by omega) hk (by simp)
  rw [List.take_zero, List.drop_zero, List.nil_append] at h
  exact h

theorem eqIntS_l0 (l : List Int) (hl : l.length ≤ 4000000) (d : Nat) : ∀ (k i : Nat), i + d = l.length → d < k → laws_eqIntS.l0 k l l (i : Int) = some true := by
  induction d with
  | zero =>
    intro k i hi hk
    obtain ⟨k, rfl⟩ : ∃ m, k = m + 1 := ⟨k - 1, by omega⟩
    simp only [laws_eqIntS.l0]
    rw [if_neg (by omega)]
  | succ d ih =>
    intro k i hi hk
    obtain ⟨k, rfl⟩ : ∃ m, k = m + 1 := ⟨k - 1, by omega⟩
    simp only [laws_eqIntS.l0]
    rw [if_pos (by omega), if_pos (by omega), if_pos (by omega), if_pos trivial, w64 (by omega) (by omega), show ((i : Int) + 1) = ((i + 1 : Nat) : Int) from by omega]
    exact ih k (i + 1) (by omega) (by omega)

theorem eqIntS_refl {k : Nat} {l : List Int} (hl : l.length ≤ 4000000) (hk : l.length < k) : laws_eqIntS.f k l l = some true := by
  unfold laws_eqIntS.f
  rw [if_pos rfl]
  exact eqIntS_l0 l hl l.length k 0 (by omega) hk

/-- All of a list within bounds. -/
def inB (a b x : Int) : Bool := decide (a ≤ x) && decide (x ≤ b)

theorem l1In_eq (x a b : Int) : spec_l1In.f x a b = some (inB a b x) := by
  unfold spec_l1In.f inB
  by_cases h : x ≥ a
  · rw [if_pos h, decide_eq_true (show a ≤ x from h), Bool.true_and]
  · rw [if_neg h, decide_eq_false (show ¬ a ≤ x from h), Bool.false_and]

theorem in_eq (x a b : Int) : impl_in.f x a b = some (inB a b x) := by
  unfold impl_in.f inB
  by_cases h : a ≤ x
  · rw [if_pos h, decide_eq_true h, Bool.true_and]
  · rw [if_neg h, decide_eq_false h, Bool.false_and]

theorem l1All_l0 (l : List Int) (a b : Int) (hl : l.length ≤ 4000000) (d : Nat) : ∀ (k i : Nat), i + d = l.length → d < k → spec_l1All.l0 k l a b (i : Int) = some ((l.drop i).all (inB a b)) := by
  induction d with
  | zero =>
    intro k i hi hk
    obtain ⟨k, rfl⟩ : ∃ m, k = m + 1 := ⟨k - 1, by omega⟩
    simp only [spec_l1All.l0]
    rw [if_neg (by omega), List.drop_of_length_le (by omega)]
    rfl
  | succ d ih =>
    intro k i hi hk
    obtain ⟨k, rfl⟩ : ∃ m, k = m + 1 := ⟨k - 1, by omega⟩
    simp only [spec_l1All.l0]
    rw [if_pos (by omega), if_pos (by omega), rd_at l i (by omega), l1In_eq, Option.bind_some, drop_cons l i (by omega), List.all_cons]
    cases h : inB a b l[i] with
    | true =>
      rw [if_pos rfl, w64 (by omega) (by omega), show ((i : Int) + 1) = ((i + 1 : Nat) : Int) from by omega, ih k (i + 1) (by omega) (by omega), Bool.true_and]
    | false => simp

theorem l1All_eq {k : Nat} {l : List Int} {a b : Int} (hl : l.length ≤ 4000000) (hk : l.length < k) : spec_l1All.f k l a b = some (l.all (inB a b)) := by
  unfold spec_l1All.f
  exact l1All_l0 l a b hl l.length k 0 (by omega) hk


end Go.Proofs.Ytjbfcdeddnnnmaa.M
namespace Go.Proofs.Ytjbfcdeddnnnmaa.M
set_option linter.unusedVariables false
set_option linter.unusedSimpArgs false
open Go.RowKit Go.Proofs.YtjbfcdeddnnnmaaW.PrintWords Go.Proofs.Ytjbfcdeddnnnmaa.Pb

theorem notCount_eq (x : Int) : impl_WaysOf_1.f x = some (!inB 0 60 x) := by
  unfold impl_WaysOf_1.f
  rw [in_eq, Option.bind_some]

theorem indexNotCount_l0 (l : List Int) (hl : l.length ≤ 4000000) (d : Nat) : ∀ (k i : Nat), i + d = l.length → d < k →
    ∃ r, slices_IndexFunc_int_int_F48.l0 k l (l.length : Int) (i : Int) = some r ∧ (decide (r ≥ 0)) = !((l.drop i).all (inB 0 60)) := by
  induction d with
  | zero =>
    intro k i hi hk
    obtain ⟨k, rfl⟩ : ∃ m, k = m + 1 := ⟨k - 1, by omega⟩
    refine ⟨-1, ?_, ?_⟩
    · simp only [slices_IndexFunc_int_int_F48.l0]
      rw [if_neg (by omega)]
    · rw [List.drop_of_length_le (by omega)]
      rfl
  | succ d ih =>
    intro k i hi hk
    obtain ⟨k, rfl⟩ : ∃ m, k = m + 1 := ⟨k - 1, by omega⟩
    simp only [slices_IndexFunc_int_int_F48.l0]
    rw [if_pos (by omega), if_pos (by omega), if_pos (by omega), rd_at l i (by omega), notCount_eq, Option.bind_some, drop_cons l i (by omega), List.all_cons]
    cases h : inB 0 60 l[i] with
    | true =>
      rw [w64 (by omega) (by omega), show ((i : Int) + 1) = ((i + 1 : Nat) : Int) from by omega, Bool.true_and]
      simp only [Bool.not_true, Bool.false_eq_true, if_false]
      exact ih k (i + 1) (by omega) (by omega)
    | false => exact ⟨(i : Int), by simp, by simp⟩

theorem anyNotCount_eq {k : Nat} {l : List Int} (hl : l.length ≤ 4000000) (hk : l.length < k) : slices_ContainsFunc_int_int_F48.f k l = some (!l.all (inB 0 60)) := by
  unfold slices_ContainsFunc_int_int_F48.f slices_IndexFunc_int_int_F48.f
  obtain ⟨r, hr, h⟩ := indexNotCount_l0 l hl l.length k 0 (by omega) hk
  rw [show ((0 : Nat) : Int) = 0 from rfl] at hr
  rw [hr, Option.bind_some, h, List.drop_zero]

/-- p + j over j. -/
def binR : Nat → Nat → Nat
  | _, 0 => 1
  | 0, _ + 1 => 1
  | p + 1, j + 1 => binR p (j + 1) + binR (p + 1) j
theorem binR_zero : ∀ j : Nat, binR 0 j = 1
  | 0 => by rw [binR]
  | j + 1 => by rw [binR]
theorem binR_zero_right (p : Nat) : binR p 0 = 1 := by cases p <;> rw [binR]
theorem binR_step : ∀ (p j : Nat), (j + 1) * binR p (j + 1) = (p + j + 1) * binR p j ∧ (p + 1) * binR (p + 1) j = (p + j + 1) * binR p j
  | 0, 0 => by simp [binR_zero, binR_zero_right]
  | 0, j + 1 => by
    have h := (binR_step 0 j).2
    have e : binR (0 + 1) (j + 1) = binR 0 (j + 1) + binR (0 + 1) j := binR.eq_3 0 j
    simp only [binR_zero, Nat.mul_one, Nat.zero_add, Nat.one_mul] at h e ⊢
    constructor <;> first | trivial | omega
  | p + 1, 0 => by
    have h := (binR_step p 0).1
    have e : binR (p + 1) (0 + 1) = binR p (0 + 1) + binR (p + 1) 0 := binR.eq_3 p 0
    simp only [binR_zero_right, Nat.mul_one, Nat.zero_add, Nat.one_mul, Nat.add_zero] at h e ⊢
    constructor <;> first | trivial | omega
  | p + 1, j + 1 => by
    have h1 := binR_step p (j + 1)
    have h2 := binR_step (p + 1) j
    have e1 : binR (p + 1) (j + 1 + 1) = binR p (j + 1 + 1) + binR (p + 1) (j + 1) := binR.eq_3 p (j + 1)
    have e2 : binR (p + 1 + 1) (j + 1) = binR (p + 1) (j + 1) + binR (p + 1 + 1) j := binR.eq_3 (p + 1) j
    constructor
    · rw [e1, Nat.mul_add, h1.1, ← h1.2, ← Nat.add_mul]
      congr 1 <;> omega
    · rw [e2, Nat.mul_add, h2.2, ← h2.1, ← Nat.add_mul]
      congr 1 <;> omega
theorem binR_pos : ∀ (p j : Nat), 1 ≤ binR p j
  | p, 0 => by rw [binR_zero_right]; omega
  | 0, j + 1 => by rw [binR]; omega
  | p + 1, j + 1 => by
    have := binR_pos (p + 1) j
    rw [binR]
    omega
theorem binR_mono1 (p j : Nat) : binR p j ≤ binR p (j + 1) := by
  cases p with
  | zero => rw [binR_zero, binR_zero]; omega
  | succ p => rw [binR]; omega
theorem binR_mono (p : Nat) (e : Nat) : ∀ j : Nat, binR p j ≤ binR p (j + e) := by
  induction e with
  | zero => intro j; exact Nat.le_refl _
  | succ e ih =>
    intro j
    have h1 := ih j
    have h2 := binR_mono1 p (j + e)
    rw [show j + (e + 1) = j + e + 1 from by omega]
    omega

theorem tdivN (a b : Nat) : Int.tdiv (a : Int) (b : Int) = ((a / b : Nat) : Int) := rfl
theorem div_lt' {a d m : Nat} (hd : 0 < d) : a / d < m ↔ a < m * d := Nat.div_lt_iff_lt_mul hd

/-- The ways of the threads that are left, w ways and p steps so far. -/
def waysR : Nat → Nat → List Int → Int × Bool
  | w, _, [] => ((w : Int), true)
  | w, p, c :: l => if w * binR p c.toNat > 1000000000000000 then (0, false) else waysR (w * binR p c.toNat) (p + c.toNat) l
def waysOfR (l : List Int) : Int × Bool := if (decide (l.length ≤ 4) && l.all (inB 0 60)) = true then waysR 1 0 l else (0, false)

theorem specWays_l1 (l : List Int) (i w p c : Nat) (hi : i < l.length) (hl : l.length ≤ 4) (hc : l[i] = (c : Int)) (hc60 : c ≤ 60) (hp : p ≤ 180) (hw : w ≤ 1000000000000000) (e : Nat) : ∀ (k j : Nat), j + e = c →
    spec_WaysOf.l1 (k + e + 1) l ((w * binR p j : Nat) : Int) ((p + j : Nat) : Int) (i : Int) ((j + 1 : Nat) : Int) = if w * binR p c > 1000000000000000 then some (0, false) else spec_WaysOf.l0 k l ((w * binR p c : Nat) : Int) ((p + c : Nat) : Int) ((i + 1 : Nat) : Int) := by
  induction e with
  | zero =>
    intro k j hj
    have hj' : j = c := by omega
    subst hj'
    rw [spec_WaysOf.l1, if_pos (by omega), if_pos (by omega), rd_at l i hi, hc, if_neg (by omega), w64 (x := (i : Int) + 1) (by omega) (by omega)]
    generalize w * binR p j = X
    by_cases h : X > 1000000000000000
    · rw [if_pos (by omega), if_pos h]
    · rw [if_neg (by omega), if_neg h]; rfl
  | succ e ih =>
    intro k j hj
    have ih1 := ih k (j + 1) (by omega)
    have hm : w * binR p j ≤ w * binR p c := Nat.mul_le_mul_left w (by rw [← hj]; exact binR_mono p (e + 1) j)
    have hs : w * binR p j * (p + j + 1) = (j + 1) * (w * binR p (j + 1)) := by
      have h1 := (binR_step p j).1
      calc w * binR p j * (p + j + 1) = w * ((p + j + 1) * binR p j) := by rw [Nat.mul_assoc, Nat.mul_comm (binR p j)]
        _ = w * ((j + 1) * binR p (j + 1)) := by rw [h1]
        _ = (j + 1) * (w * binR p (j + 1)) := by rw [← Nat.mul_assoc, Nat.mul_comm w (j + 1), Nat.mul_assoc]
    rw [show k + (e + 1) + 1 = (k + e + 1) + 1 from by omega, spec_WaysOf.l1, if_pos (by omega), if_pos (by omega), rd_at l i hi, hc, if_pos (by omega),
      w64 (x := ((p + j : Nat) : Int) + 1) (by omega) (by omega), if_neg (by omega), show (((p + j : Nat) : Int) + 1) = ((p + j + 1 : Nat) : Int) from by omega,
      show (9000000000000000000 : Int) = ((9000000000000000000 : Nat) : Int) from rfl, tdivN]
    have hdl : 9000000000000000000 / (p + j + 1) ≤ 9000000000000000000 := Nat.div_le_self _ _
    have hdq : ∀ m, 9000000000000000000 / (p + j + 1) < m ↔ 9000000000000000000 < m * (p + j + 1) := fun m => div_lt' (by omega)
    generalize 9000000000000000000 / (p + j + 1) = Q at hdl hdq ⊢
    rw [w64 (x := ((Q : Nat) : Int)) (by omega) (by omega)]
    by_cases h : Q < w * binR p j
    · rw [if_pos (by omega)]
      have h2 := (hdq _).1 h
      have h3 : w * binR p j > 1000000000000000 := by
        apply Nat.lt_of_not_le
        intro h4
        have h5 : w * binR p j * (p + j + 1) ≤ 1000000000000000 * 241 := Nat.mul_le_mul h4 (by omega)
        omega
      rw [if_pos (by omega)]
    · rw [if_neg (by omega), if_neg (by omega)]
      have h2 : w * binR p j * (p + j + 1) ≤ 9000000000000000000 := by
        apply Nat.le_of_not_lt
        intro h3
        exact h ((hdq _).2 h3)
      rw [show (((w * binR p j : Nat) : Int) * ((p + j + 1 : Nat) : Int)) = ((w * binR p j * (p + j + 1) : Nat) : Int) from by push_cast; rfl, w64 (x := ((w * binR p j * (p + j + 1) : Nat) : Int)) (by omega) (by omega), tdivN, hs, Nat.mul_div_cancel_left _ (by omega)]
      have h6 : w * binR p (j + 1) ≤ 9000000000000000000 := by
        have : w * binR p (j + 1) ≤ (j + 1) * (w * binR p (j + 1)) := Nat.le_mul_of_pos_left _ (by omega)
        omega
      rw [w64 (x := ((w * binR p (j + 1) : Nat) : Int)) (by omega) (by omega), w64 (x := ((j + 1 : Nat) : Int) + 1) (by omega) (by omega)]
      exact ih1
theorem specWays_l0 (l : List Int) (hl : l.length ≤ 4) (hall : l.all (inB 0 60) = true) (d : Nat) : ∀ (k i w p : Nat), i + d = l.length → 62 * d < k → p ≤ 60 * i → w ≤ 1000000000000000 →
    spec_WaysOf.l0 k l (w : Int) (p : Int) (i : Int) = some (waysR w p (l.drop i)) := by
  induction d with
  | zero =>
    intro k i w p hi hk hp hw
    obtain ⟨k, rfl⟩ : ∃ q, k = q + 1 := ⟨k - 1, by omega⟩
    rw [spec_WaysOf.l0, if_neg (by omega), List.drop_of_length_le (by omega)]
    rfl
  | succ d ih =>
    intro k i w p hi hk hp hw
    have hb : 0 ≤ l[i] ∧ l[i] ≤ 60 := by
      have := List.all_eq_true.1 hall l[i] (List.getElem_mem _)
      simpa [inB] using this
    obtain ⟨c, hc⟩ := Int.eq_ofNat_of_zero_le hb.1
    obtain ⟨k, rfl⟩ : ∃ q, k = (q + c + 1) + 1 := ⟨k - c - 2, by omega⟩
    have h1 := specWays_l1 l i w p c (by omega) hl hc (by omega) (by omega) hw c k 0 (by omega)
    simp only [binR_zero_right, Nat.mul_one, Nat.add_zero, Nat.zero_add] at h1
    rw [show ((1 : Nat) : Int) = 1 from rfl] at h1
    rw [spec_WaysOf.l0, if_pos (by omega)]
    rw [h1, drop_cons l i (by omega)]
    simp only [waysR, hc, Int.toNat_natCast]
    by_cases h : w * binR p c > 1000000000000000
    · rw [if_pos h, if_pos h]
    · rw [if_neg h, if_neg h, ih k (i + 1) _ _ (by omega) (by omega) (by omega) (by omega)]
theorem specWays_eq {k : Nat} {l : List Int} (hl : l.length ≤ 4000000) (hk : l.length + 1000 < k) : spec_WaysOf.f k l = some (waysOfR l) := by
  obtain ⟨k, rfl⟩ : ∃ q, k = q + 1 := ⟨k - 1, by omega⟩
  have hj : spec_WaysOf.j0 (k + 1) l true = some (0, false) := by simp [spec_WaysOf.j0]
  unfold spec_WaysOf.f waysOfR
  by_cases h0 : l.length ≤ 4
  · rw [if_neg (by omega), l1All_eq hl (by omega), Option.bind_some, decide_eq_true h0, Bool.true_and]
    cases h1 : l.all (inB 0 60) with
    | false => simp [hj]
    | true =>
      have h2 := specWays_l0 l h0 h1 l.length k 0 1 0 (by omega) (by omega) (by omega) (by omega)
      rw [if_pos rfl, spec_WaysOf.j0, if_neg (by simp)]
      exact h2
  · rw [if_pos (by omega), hj, decide_eq_false h0]
    simp

theorem choices_l0 (p c : Nat) (hc : c ≤ 60) (hp : p ≤ 180) (e : Nat) : ∀ (k j : Nat), j + e = c → binR p j ≤ 1000000000000000 →
    impl_choices.l0 (k + e + 1) ((p + c : Nat) : Int) (c : Int) ((binR p j : Nat) : Int) ((j + 1 : Nat) : Int) = some (if binR p c > 1000000000000000 then 0 else ((binR p c : Nat) : Int)) := by
  induction e with
  | zero =>
    intro k j hj hb
    have hj' : j = c := by omega
    subst hj'
    rw [impl_choices.l0, if_neg (by omega), if_neg (by omega)]
  | succ e ih =>
    intro k j hj hb
    have hm : binR p (j + 1) ≤ binR p c := by
      have := binR_mono p e (j + 1)
      rw [show j + 1 + e = c from by omega] at this
      exact this
    have hs : binR p j * (p + j + 1) = (j + 1) * binR p (j + 1) := by rw [(binR_step p j).1, Nat.mul_comm]
    have h2 : binR p j * (p + j + 1) ≤ 1000000000000000 * 241 := Nat.mul_le_mul hb (by omega)
    have h6 : binR p (j + 1) ≤ 1000000000000000 * 241 := by
      have : binR p (j + 1) ≤ (j + 1) * binR p (j + 1) := Nat.le_mul_of_pos_left _ (by omega)
      omega
    rw [show k + (e + 1) + 1 = (k + e + 1) + 1 from by omega, impl_choices.l0, if_pos (by omega), if_neg (by omega), w64 (x := ((p + c : Nat) : Int) - (c : Int)) (by omega) (by omega), w64 (x := ((p + c : Nat) : Int) - (c : Int) + ((j + 1 : Nat) : Int)) (by omega) (by omega),
      show (((p + c : Nat) : Int) - (c : Int) + ((j + 1 : Nat) : Int)) = ((p + j + 1 : Nat) : Int) from by omega,
      show (((binR p j : Nat) : Int) * ((p + j + 1 : Nat) : Int)) = ((binR p j * (p + j + 1) : Nat) : Int) from by push_cast; rfl, w64 (x := ((binR p j * (p + j + 1) : Nat) : Int)) (by omega) (by omega), tdivN, hs, Nat.mul_div_cancel_left _ (by omega), w64 (x := ((binR p (j + 1) : Nat) : Int)) (by omega) (by omega), w64 (x := ((j + 1 : Nat) : Int) + 1) (by omega) (by omega)]
    by_cases h : binR p (j + 1) > 1000000000000000
    · rw [if_pos (by omega), if_pos (by omega)]
    · rw [if_neg (by omega)]
      exact ih k (j + 1) (by omega) (by omega)
theorem choices_eq {k : Nat} (p c : Nat) (hc : c ≤ 60) (hp : p ≤ 180) (hk : 61 < k) : impl_choices.f k ((p + c : Nat) : Int) (c : Int) = some (if binR p c > 1000000000000000 then 0 else ((binR p c : Nat) : Int)) := by
  obtain ⟨k, rfl⟩ : ∃ q, k = q + c + 1 := ⟨k - c - 1, by omega⟩
  unfold impl_choices.f
  have h := choices_l0 p c hc hp c k 0 (by omega) (by rw [binR_zero_right]; omega)
  rw [binR_zero_right] at h
  exact h
theorem implWays_l0 (l : List Int) (hl : l.length ≤ 4) (hall : l.all (inB 0 60) = true) (d : Nat) : ∀ (k i w p : Nat), i + d = l.length → 62 + d < k → p ≤ 60 * i → 1 ≤ w → w ≤ 1000000000000000 →
    impl_WaysOf.l0 k (w : Int) (p : Int) l (l.length : Int) (i : Int) = some (waysR w p (l.drop i)) := by
  induction d with
  | zero =>
    intro k i w p hi hk hp hw1 hw
    obtain ⟨k, rfl⟩ : ∃ q, k = q + 1 := ⟨k - 1, by omega⟩
    rw [impl_WaysOf.l0, if_neg (by omega), List.drop_of_length_le (by omega)]
    rfl
  | succ d ih =>
    intro k i w p hi hk hp hw1 hw
    have hb : 0 ≤ l[i] ∧ l[i] ≤ 60 := by
      have := List.all_eq_true.1 hall l[i] (List.getElem_mem _)
      simpa [inB] using this
    obtain ⟨c, hc⟩ := Int.eq_ofNat_of_zero_le hb.1
    obtain ⟨k, rfl⟩ : ∃ q, k = q + 1 := ⟨k - 1, by omega⟩
    have hpos := binR_pos p c
    rw [impl_WaysOf.l0, if_pos (by omega), if_pos (by omega), if_pos (by omega), rd_at l i (by omega), hc, w64 (x := (p : Int) + (c : Int)) (by omega) (by omega), show ((p : Int) + (c : Int)) = ((p + c : Nat) : Int) from by omega, choices_eq p c (by omega) (by omega) (by omega), Option.bind_some, drop_cons l i (by omega)]
    simp only [waysR, hc, Int.toNat_natCast]
    by_cases h : binR p c > 1000000000000000
    · have h2 : w * binR p c > 1000000000000000 := Nat.lt_of_lt_of_le h (Nat.le_mul_of_pos_left _ (by omega))
      rw [if_pos h, if_pos h2, if_pos rfl]
    · rw [if_neg h, if_neg (by omega), show (1000000000000000 : Int) = ((1000000000000000 : Nat) : Int) from rfl, tdivN]
      have hdl : 1000000000000000 / binR p c ≤ 1000000000000000 := Nat.div_le_self _ _
      have hdq : ∀ m, 1000000000000000 / binR p c < m ↔ 1000000000000000 < m * binR p c := fun m => div_lt' hpos
      generalize 1000000000000000 / binR p c = Q at hdl hdq ⊢
      rw [w64 (x := ((Q : Nat) : Int)) (by omega) (by omega)]
      by_cases h3 : w * binR p c > 1000000000000000
      · rw [if_pos h3, if_pos (by have := (hdq w).2 h3; omega)]
      · have h4 : ¬ Q < w := fun h5 => h3 ((hdq w).1 h5)
        rw [if_neg h3, if_neg (by omega), show ((w : Int) * ((binR p c : Nat) : Int)) = ((w * binR p c : Nat) : Int) from by push_cast; rfl, w64 (x := ((w * binR p c : Nat) : Int)) (by omega) (by omega), w64 (x := (i : Int) + 1) (by omega) (by omega), show ((i : Int) + 1) = ((i + 1 : Nat) : Int) from by omega]
        exact ih k (i + 1) _ _ (by omega) (by omega) (by omega) (Nat.mul_pos hw1 hpos) (by omega)
theorem implWays_eq {k : Nat} {l : List Int} (hl : l.length ≤ 4000000) (hk : l.length + 1000 < k) : impl_WaysOf.f k l = some (waysOfR l) := by
  obtain ⟨k, rfl⟩ : ∃ q, k = q + 1 := ⟨k - 1, by omega⟩
  have hj : impl_WaysOf.j0 (k + 1) l true = some (0, false) := by simp [impl_WaysOf.j0]
  unfold impl_WaysOf.f waysOfR
  by_cases h0 : l.length ≤ 4
  · rw [if_neg (by omega), anyNotCount_eq hl (by omega), Option.bind_some, decide_eq_true h0, Bool.true_and]
    cases h1 : l.all (inB 0 60) with
    | false => simp [hj]
    | true =>
      have h2 := implWays_l0 l h0 h1 l.length k 0 1 0 (by omega) (by omega) (by omega) (by omega) (by omega)
      rw [if_pos rfl, impl_WaysOf.j0, if_neg (by simp)]
      exact h2
  · rw [if_pos (by omega), hj, decide_eq_false h0]
    simp


end Go.Proofs.Ytjbfcdeddnnnmaa.M
namespace Go.Proofs.Ytjbfcdeddnnnmaa.Pure
set_option linter.unusedVariables false
set_option linter.unusedSimpArgs false
open Go.RowKit Go.Proofs.Ytjbfcdeddnnnmaa.M Go.Proofs.YtjbfcdeddnnnmaaW.PrintWords Go.Proofs.Ytjbfcdeddnnnmaa.Pb


theorem FnExactWaysOf : laws_FnExactWaysOf.Pure := by
  intro m _
  obtain ⟨k, hk⟩ : ∃ k : Nat, 30000000 < k := ⟨30000001, by omega⟩
  refine ⟨k + 3, ?_⟩
  unfold laws_FnExactWaysOf.f
  by_cases h0 : (m.length : Int) > 1048576
  · rw [if_pos h0]
  · rw [if_neg h0]
    (repeat (first | rw [if_pos rfl] | rw [if_neg Bool.false_ne_true] | rw [toIntS_eq (by omega) (by omega)] | rw [eqIntS_refl (by omega) (by omega)] | rw [specWays_eq (by omega) (by omega)] | rw [implWays_eq (by omega) (by omega)] | (simp only [Option.bind_some, bne_self_eq_false, if_true, Bool.false_eq_true, if_false])))
    rw [laws_FnExactWaysOf.j0]
    (repeat (first | rw [if_pos rfl] | rw [if_neg Bool.false_ne_true] | rw [toIntS_eq (by omega) (by omega)] | rw [eqIntS_refl (by omega) (by omega)] | rw [specWays_eq (by omega) (by omega)] | rw [implWays_eq (by omega) (by omega)] | (simp only [Option.bind_some, bne_self_eq_false, if_true, Bool.false_eq_true, if_false])))


end Go.Proofs.Ytjbfcdeddnnnmaa.Pure
