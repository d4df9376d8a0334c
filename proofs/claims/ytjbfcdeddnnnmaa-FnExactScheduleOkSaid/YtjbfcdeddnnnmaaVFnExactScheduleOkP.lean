/- The pure statement of FnExactScheduleOk and what it needs. Conditions: those that each theorem states. -/
import Derived.Test.YtjbfcdeddnnnmaaVFnExactScheduleOk0
import Derived.RowKit
import Derived.Test.YtjbfcdeddnnnmaaWWords
namespace Go.Proofs.Ytjbfcdeddnnnmaa.Pb
open Go.RowKit Go.Proofs.YtjbfcdeddnnnmaaW.PrintWords

theorem w64 {x : Int} (h0 : -9223372036854775808 ≤ x) (h1 : x ≤ 9223372036854775807) : wrap64 x = x := by
  unfold wrap64
  omega

theorem set_take {α : Type} (x : List α) (v : α) (i : Nat) (h : i < x.length) : (x.set i v).take (i + 1) = x.take i ++ [v] := by
  rw [List.take_succ_eq_append_getElem (by simpa using h)]
  rw [List.take_set_of_le (Nat.le_refl i)]
  simp

/-- The same where each element is turned into another kind. -/
theorem copy_step_map {α β : Type} (f : α → β) (x : List β) (l : List α) (i : Nat) (h : i < l.length) (hx : i < x.length) :
    (x.set i (f l[i])).take (i + 1) ++ (l.drop (i + 1)).map f = x.take i ++ (l.drop i).map f := by
  rw [set_take x (f l[i]) i hx, List.drop_eq_getElem_cons h, List.append_assoc]
  rfl

theorem drop_cons {α : Type} (l : List α) (i : Nat) (h : i < l.length) : l.drop i = l[i] :: l.drop (i + 1) := List.drop_eq_getElem_cons h


end Go.Proofs.Ytjbfcdeddnnnmaa.Pb
namespace Go.Proofs.Ytjbfcdeddnnnmaa.M
set_option linter.unusedVariables false
set_option linter.unusedSimpArgs false
open Go.RowKit Go.Proofs.YtjbfcdeddnnnmaaW.PrintWords Go.Proofs.Ytjbfcdeddnnnmaa.Pb

/-- All of a list within bounds. -/
def inB (a b x : Int) : Bool := decide (a ≤ x) && decide (x ≤ b)

theorem l1In_eq (x a b : Int) : spec_l1In.f x a b = some (inB a b x) := by
  unfold spec_l1In.f inB
  by_cases h : x ≥ a
  · rw [if_pos h, decide_eq_true (show a ≤ x from h), Bool.true_and]
  · rw [if_neg h, decide_eq_false (show ¬ a ≤ x from h), Bool.false_and]

theorem in_eq (x a b : Int) : impl_in.f x a b = some (inB a b x) := by
  unfold impl_in.f inB
  by_cases h : a ≤ x
  · rw [if_pos h, decide_eq_true h, Bool.true_and]
  · rw [if_neg h, decide_eq_false h, Bool.false_and]


end Go.Proofs.Ytjbfcdeddnnnmaa.M
namespace Go.Proofs.Ytjbfcdeddnnnmaa.M
set_option linter.unusedSimpArgs false
open Go.RowKit Go.Proofs.YtjbfcdeddnnnmaaW.PrintWords Go.Proofs.Ytjbfcdeddnnnmaa.Pb

def cvRun (x : S60) : S58 := ⟨x.f0, x.f1⟩
theorem rdT60_at (l : List S60) (i : Nat) (h : i < l.length) : rd_T60 l (i : Int) = l[i] := by
  simp [rd_T60, List.getD_eq_getElem?_getD, List.getElem?_eq_getElem h]
theorem rdT58_at (l : List S58) (i : Nat) (h : i < l.length) : rd_T58 l (i : Int) = l[i] := by
  simp [rd_T58, List.getD_eq_getElem?_getD, List.getElem?_eq_getElem h]
theorem szRunS_eq {l : List S60} {a : Int} (hl : l.length ≤ maxLen) (ha : 0 ≤ a ∧ a ≤ 1048576) : laws_szRunS.f l a = some (if a - (l.length : Int) < 0 then -1 else a - (l.length : Int)) := by
  unfold laws_szRunS.f
  have hm : l.length ≤ 9223372036854775807 := hl
  rw [w64 (by omega) (by omega)]
  by_cases h : a - (l.length : Int) < 0
  · rw [if_pos h, if_pos h]
  · rw [if_neg h, if_neg h]
theorem toRunS_l0 (l : List S60) (hl : l.length ≤ 4000000) (d : Nat) : ∀ (k i : Nat) (x : List S58), i + d = l.length → d < k → x.length = l.length → laws_toRunS.l0 k l x (i : Int) = some (x.take i ++ (l.drop i).map cvRun) := by
  induction d with
  | zero =>
    intro k i x hi hk hx
    obtain ⟨k, rfl⟩ : ∃ m, k = m + 1 := ⟨k - 1, by omega⟩
    simp only [laws_toRunS.l0]
    rw [if_neg (by omega), List.take_of_length_le (by omega), List.drop_of_length_le (by omega), List.map_nil, List.append_nil]
  | succ d ih =>
    intro k i x hi hk hx
    obtain ⟨k, rfl⟩ : ∃ m, k = m + 1 := ⟨k - 1, by omega⟩
    simp only [laws_toRunS.l0]
    rw [if_pos (by omega), if_pos (by omega)]
    simp only [laws_toRun.f, Option.bind_some]
    rw [if_pos (by omega), w64 (by omega) (by omega), rdT60_at l i (by omega), Int.toNat_natCast,
      show ((i : Int) + 1) = ((i + 1 : Nat) : Int) from by omega, ih k (i + 1) _ (by omega) (by omega) (by simp [hx])]
    exact congrArg some (copy_step_map cvRun x l i (by omega) (by omega))
theorem toRunS_eq {k : Nat} {l : List S60} (hl : l.length ≤ 4000000) (hk : l.length < k) : laws_toRunS.f k l = some (l.map cvRun) := by
  unfold laws_toRunS.f
  rw [if_pos (by omega), if_pos (by omega)]
  have h := toRunS_l0 l hl l.length k 0 (List.replicate ((l.length : Int) : Int).toNat z58) (by omega) hk (by simp)
  rw [List.take_zero, List.drop_zero, List.nil_append] at h
  exact h
theorem eqRun_refl (a0 : Int) (a1 : Int) : laws_eqRun.f a0 a1 a0 a1 = some true := by
  simp [laws_eqRun.f]
theorem eqRunS_l0 (l : List S58) (hl : l.length ≤ 4000000) (d : Nat) : ∀ (k i : Nat), i + d = l.length → d < k → laws_eqRunS.l0 k l l (i : Int) = some true := by
  induction d with
  | zero =>
    intro k i hi hk
    obtain ⟨k, rfl⟩ : ∃ m, k = m + 1 := ⟨k - 1, by omega⟩
    simp only [laws_eqRunS.l0]
    rw [if_neg (by omega)]
  | succ d ih =>
    intro k i hi hk
    obtain ⟨k, rfl⟩ : ∃ m, k = m + 1 := ⟨k - 1, by omega⟩
    simp only [laws_eqRunS.l0]
    rw [if_pos (by omega), if_pos (by omega), if_pos (by omega), eqRun_refl, Option.bind_some, if_pos rfl, w64 (by omega) (by omega), show ((i : Int) + 1) = ((i + 1 : Nat) : Int) from by omega]
    exact ih k (i + 1) (by omega) (by omega)
theorem eqRunS_refl {k : Nat} {l : List S58} (hl : l.length ≤ 4000000) (hk : l.length < k) : laws_eqRunS.f k l l = some true := by
  unfold laws_eqRunS.f
  rw [if_pos rfl]
  exact eqRunS_l0 l hl l.length k 0 (by omega) hk

end Go.Proofs.Ytjbfcdeddnnnmaa.M
namespace Go.Proofs.Ytjbfcdeddnnnmaa.M
set_option linter.unusedVariables false
set_option linter.unusedSimpArgs false
open Go.RowKit Go.Proofs.YtjbfcdeddnnnmaaW.PrintWords Go.Proofs.Ytjbfcdeddnnnmaa.Pb

theorem isThread_eq (x : Int) : impl_isThread.f x = some (inB 0 3 x) := by
  unfold impl_isThread.f
  rw [in_eq, Option.bind_some]

/-- The loop of ScheduleOk: what is left, and the sum so far. The answer of the specification's side may be no sooner than the other's. -/
def runsR : Int → List S58 → Bool
  | a, [] => decide (a ≤ 1500)
  | a, r :: l => inB 0 3 r.f0 && (inB 1 500 r.f1 && runsR (a + r.f1) l)
theorem runsR_big : ∀ (l : List S58) (a : Int), 1500 < a → runsR a l = false
  | [], a, h => by simp [runsR]; omega
  | r :: l, a, h => by
    simp only [runsR]
    cases h1 : inB 1 500 r.f1 with
    | false => simp
    | true =>
      simp only [inB, Bool.and_eq_true, decide_eq_true_eq] at h1
      rw [runsR_big l (a + r.f1) (by omega)]
      simp
def schedR (l : List S58) : Bool := decide (l.length ≤ 60) && runsR 0 l
theorem specSched_l0 (l : List S58) (hl : l.length ≤ 4000000) (d : Nat) : ∀ (k i : Nat) (a : Int), i + d = l.length → d < k → 0 ≤ a → a ≤ 2000 → spec_ScheduleOk.l0 k l a (i : Int) = some (decide (l.length ≤ 60) && runsR a (l.drop i)) := by
  induction d with
  | zero =>
    intro k i a hi hk h0 h1
    obtain ⟨k, rfl⟩ : ∃ m, k = m + 1 := ⟨k - 1, by omega⟩
    rw [spec_ScheduleOk.l0, if_neg (by omega), List.drop_of_length_le (by omega)]
    by_cases h : l.length ≤ 60
    · rw [if_pos (by omega), decide_eq_true h, Bool.true_and]; rfl
    · rw [if_neg (by omega), decide_eq_false h, Bool.false_and]
  | succ d ih =>
    intro k i a hi hk h0 h1
    obtain ⟨k, rfl⟩ : ∃ m, k = m + 1 := ⟨k - 1, by omega⟩
    rw [spec_ScheduleOk.l0, if_pos (by omega), if_pos (by omega), rdT58_at l i (by omega), drop_cons l i (by omega), l1In_eq, Option.bind_some]
    simp only [runsR]
    cases h2 : inB 0 3 l[i].f0 with
    | false => simp
    | true =>
      rw [if_pos rfl, l1In_eq, Option.bind_some]
      cases h3 : inB 1 500 l[i].f1 with
      | false => simp
      | true =>
        simp only [inB, Bool.and_eq_true, decide_eq_true_eq] at h3
        rw [if_pos rfl, Bool.true_and, Bool.true_and]
        by_cases h4 : a > 1500
        · rw [if_pos h4, runsR_big _ _ (by omega), Bool.and_false]
        · rw [if_neg h4, w64 (x := (i : Int) + 1) (by omega) (by omega), w64 (x := a + l[i].f1) (by omega) (by omega), show ((i : Int) + 1) = ((i + 1 : Nat) : Int) from by omega, ih k (i + 1) _ (by omega) (by omega) (by omega) (by omega)]
theorem implSched_l0 (l : List S58) (hl : l.length ≤ 4000000) (d : Nat) : ∀ (k i : Nat) (a : Int), i + d = l.length → d < k → 0 ≤ a → a ≤ 500 * (i : Int) → impl_ScheduleOk.l0 k l a l (l.length : Int) (i : Int) = some (decide (l.length ≤ 60) && runsR a (l.drop i)) := by
  induction d with
  | zero =>
    intro k i a hi hk h0 h1
    obtain ⟨k, rfl⟩ : ∃ m, k = m + 1 := ⟨k - 1, by omega⟩
    rw [impl_ScheduleOk.l0, if_neg (by omega), List.drop_of_length_le (by omega)]
    by_cases h : l.length ≤ 60
    · rw [if_pos (by omega), decide_eq_true h, Bool.true_and]; rfl
    · rw [if_neg (by omega), decide_eq_false h, Bool.false_and]
  | succ d ih =>
    intro k i a hi hk h0 h1
    obtain ⟨k, rfl⟩ : ∃ m, k = m + 1 := ⟨k - 1, by omega⟩
    rw [impl_ScheduleOk.l0, if_pos (by omega), if_pos (by omega), if_pos (by omega), rdT58_at l i (by omega), drop_cons l i (by omega), isThread_eq, Option.bind_some]
    simp only [runsR]
    cases h2 : inB 0 3 l[i].f0 with
    | false => simp
    | true =>
      rw [if_pos rfl, in_eq, Option.bind_some]
      cases h3 : inB 1 500 l[i].f1 with
      | false => simp
      | true =>
        simp only [inB, Bool.and_eq_true, decide_eq_true_eq] at h3
        rw [if_pos rfl, Bool.true_and, Bool.true_and, w64 (x := (i : Int) + 1) (by omega) (by omega), w64 (x := a + l[i].f1) (by omega) (by omega), show ((i : Int) + 1) = ((i + 1 : Nat) : Int) from by omega, ih k (i + 1) _ (by omega) (by omega) (by omega) (by omega)]
theorem specSched_eq {k : Nat} {l : List S58} (hl : l.length ≤ 4000000) (hk : l.length < k) : spec_ScheduleOk.f k l = some (schedR l) := by
  unfold spec_ScheduleOk.f schedR
  have h := specSched_l0 l hl l.length k 0 0 (by omega) hk (by omega) (by omega)
  rw [List.drop_zero] at h
  exact h
theorem implSched_eq {k : Nat} {l : List S58} (hl : l.length ≤ 4000000) (hk : l.length < k) : impl_ScheduleOk.f k l = some (schedR l) := by
  unfold impl_ScheduleOk.f schedR
  have h := implSched_l0 l hl l.length k 0 0 (by omega) hk (by omega) (by omega)
  rw [List.drop_zero] at h
  exact h


end Go.Proofs.Ytjbfcdeddnnnmaa.M
namespace Go.Proofs.Ytjbfcdeddnnnmaa.Pure
set_option linter.unusedVariables false
set_option linter.unusedSimpArgs false
open Go.RowKit Go.Proofs.Ytjbfcdeddnnnmaa.M Go.Proofs.YtjbfcdeddnnnmaaW.PrintWords Go.Proofs.Ytjbfcdeddnnnmaa.Pb


theorem FnExactScheduleOk : laws_FnExactScheduleOk.Pure := by
  intro a ha
  obtain ⟨k, hk⟩ : ∃ k : Nat, 30000000 < k := ⟨30000001, by omega⟩
  refine ⟨k + 3, ?_⟩
  unfold laws_FnExactScheduleOk.f
  rw [szRunS_eq ha.1 (by omega), Option.bind_some]
  by_cases h1 : a.length ≤ 1048576
  · rw [if_neg (show ¬ ((1048576 : Int) - (a.length : Int) < 0) by omega), if_neg (by omega)]
    (repeat (first | rw [if_pos rfl] | rw [if_neg Bool.false_ne_true] | rw [toRunS_eq (by (first | omega | (simp only [List.length_map]; omega))) (by (first | omega | (simp only [List.length_map]; omega)))] | rw [eqRunS_refl (by (first | omega | (simp only [List.length_map]; omega))) (by (first | omega | (simp only [List.length_map]; omega)))] | rw [specSched_eq (by (first | omega | (simp only [List.length_map]; omega))) (by (first | omega | (simp only [List.length_map]; omega)))] | rw [implSched_eq (by (first | omega | (simp only [List.length_map]; omega))) (by (first | omega | (simp only [List.length_map]; omega)))] | (simp only [Option.bind_some, bne_self_eq_false, if_true, Bool.false_eq_true, if_false])))
  · rw [if_pos (show ((1048576 : Int) - (a.length : Int) < 0) by omega), if_pos (by omega)]


end Go.Proofs.Ytjbfcdeddnnnmaa.Pure
