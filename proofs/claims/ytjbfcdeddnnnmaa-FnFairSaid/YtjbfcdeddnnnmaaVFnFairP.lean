/- The pure statement of FnFair and what it needs. Conditions: those that each theorem states. -/
import Derived.Test.YtjbfcdeddnnnmaaVFnFair1
import Derived.Laws.BitsLemmas
import Derived.RowKit
import Derived.Test.YtjbfcdeddnnnmaaWWords
namespace Go.Proofs.Ytjbfcdeddnnnmaa.Pb
open Go.RowKit Go.Proofs.YtjbfcdeddnnnmaaW.PrintWords

theorem w64 {x : Int} (h0 : -9223372036854775808 ≤ x) (h1 : x ≤ 9223372036854775807) : wrap64 x = x := by
  unfold wrap64
  omega

theorem rd_at (l : List Int) (i : Nat) (h : i < l.length) : rd l (i : Int) = l[i] := by
  simp [rd, List.getD_eq_getElem?_getD, List.getElem?_eq_getElem h]

theorem drop_cons {α : Type} (l : List α) (i : Nat) (h : i < l.length) : l.drop i = l[i] :: l.drop (i + 1) := List.drop_eq_getElem_cons h


end Go.Proofs.Ytjbfcdeddnnnmaa.Pb
namespace Go.Proofs.Ytjbfcdeddnnnmaa.M
set_option linter.unusedVariables false
set_option linter.unusedSimpArgs false
open Go.RowKit Go.Proofs.YtjbfcdeddnnnmaaW.PrintWords Go.Proofs.Ytjbfcdeddnnnmaa.Pb

/-- All of a list within bounds. -/
def inB (a b x : Int) : Bool := decide (a ≤ x) && decide (x ≤ b)

theorem l1In_eq (x a b : Int) : spec_l1In.f x a b = some (inB a b x) := by
  unfold spec_l1In.f inB
  by_cases h : x ≥ a
  · rw [if_pos h, decide_eq_true (show a ≤ x from h), Bool.true_and]
  · rw [if_neg h, decide_eq_false (show ¬ a ≤ x from h), Bool.false_and]

theorem in_eq (x a b : Int) : impl_in.f x a b = some (inB a b x) := by
  unfold impl_in.f inB
  by_cases h : a ≤ x
  · rw [if_pos h, decide_eq_true h, Bool.true_and]
  · rw [if_neg h, decide_eq_false h, Bool.false_and]

theorem l1All_l0 (l : List Int) (a b : Int) (hl : l.length ≤ 4000000) (d : Nat) : ∀ (k i : Nat), i + d = l.length → d < k → spec_l1All.l0 k l a b (i : Int) = some ((l.drop i).all (inB a b)) := by
  induction d with
  | zero =>
    intro k i hi hk
    obtain ⟨k, rfl⟩ : ∃ m, k = m + 1 := ⟨k - 1, by omega⟩
    simp only [spec_l1All.l0]
    rw [if_neg (by omega), List.drop_of_length_le (by omega)]
    rfl
  | succ d ih =>
    intro k i hi hk
    obtain ⟨k, rfl⟩ : ∃ m, k = m + 1 := ⟨k - 1, by omega⟩
    simp only [spec_l1All.l0]
    rw [if_pos (by omega), if_pos (by omega), rd_at l i (by omega), l1In_eq, Option.bind_some, drop_cons l i (by omega), List.all_cons]
    cases h : inB a b l[i] with
    | true =>
      rw [if_pos rfl, w64 (by omega) (by omega), show ((i : Int) + 1) = ((i + 1 : Nat) : Int) from by omega, ih k (i + 1) (by omega) (by omega), Bool.true_and]
    | false => simp

theorem l1All_eq {k : Nat} {l : List Int} {a b : Int} (hl : l.length ≤ 4000000) (hk : l.length < k) : spec_l1All.f k l a b = some (l.all (inB a b)) := by
  unfold spec_l1All.f
  exact l1All_l0 l a b hl l.length k 0 (by omega) hk

theorem index_l0 (l : List Int) (x : Int) (hl : l.length ≤ 4000000) (d : Nat) : ∀ (k i : Nat), i + d = l.length → d < k → ∃ r, slices_Index_int_int.l0 k l x (l.length : Int) (i : Int) = some r ∧ decide (r ≥ 0) = decide (x ∈ l.drop i) := by
  induction d with
  | zero =>
    intro k i hi hk
    obtain ⟨k, rfl⟩ : ∃ m, k = m + 1 := ⟨k - 1, by omega⟩
    refine ⟨-1, ?_, ?_⟩
    · simp only [slices_Index_int_int.l0]
      rw [if_neg (by omega)]
    · rw [List.drop_of_length_le (by omega)]
      simp
  | succ d ih =>
    intro k i hi hk
    obtain ⟨k, rfl⟩ : ∃ m, k = m + 1 := ⟨k - 1, by omega⟩
    simp only [slices_Index_int_int.l0]
    rw [if_pos (by omega), if_pos (by omega), if_pos (by omega), rd_at l i (by omega), drop_cons l i (by omega)]
    by_cases h : x = l[i]
    · rw [if_pos h]
      exact ⟨(i : Int), rfl, by simp [← h]⟩
    · rw [if_neg h, w64 (by omega) (by omega), show ((i : Int) + 1) = ((i + 1 : Nat) : Int) from by omega]
      obtain ⟨r, h1, h2⟩ := ih k (i + 1) (by omega) (by omega)
      exact ⟨r, h1, by rw [h2]; simp [-List.getElem_cons_drop, h]⟩
theorem contains_eq {k : Nat} {l : List Int} {x : Int} (hl : l.length ≤ 4000000) (hk : l.length < k) : slices_Contains_int_int.f k l x = some (decide (x ∈ l)) := by
  unfold slices_Contains_int_int.f slices_Index_int_int.f
  obtain ⟨r, h1, h2⟩ := index_l0 l x hl l.length k 0 (by omega) hk
  rw [show ((0 : Nat) : Int) = 0 from rfl] at h1
  rw [h1, Option.bind_some, h2, List.drop_zero]


end Go.Proofs.Ytjbfcdeddnnnmaa.M
namespace Go.Proofs.Ytjbfcdeddnnnmaa.M
set_option linter.unusedSimpArgs false
open Go.RowKit Go.Proofs.YtjbfcdeddnnnmaaW.PrintWords Go.Proofs.Ytjbfcdeddnnnmaa.Pb

theorem rdT58_at (l : List S58) (i : Nat) (h : i < l.length) : rd_T58 l (i : Int) = l[i] := by
  simp [rd_T58, List.getD_eq_getElem?_getD, List.getElem?_eq_getElem h]

end Go.Proofs.Ytjbfcdeddnnnmaa.M
namespace Go.Proofs.Ytjbfcdeddnnnmaa.M
set_option linter.unusedVariables false
set_option linter.unusedSimpArgs false
open Go.RowKit Go.Proofs.YtjbfcdeddnnnmaaW.PrintWords Go.Proofs.Ytjbfcdeddnnnmaa.Pb

theorem isThread_eq (x : Int) : impl_isThread.f x = some (inB 0 3 x) := by
  unfold impl_isThread.f
  rw [in_eq, Option.bind_some]

/-- The loop of ScheduleOk: what is left, and the sum so far. The answer of the specification's side may be no sooner than the other's. -/
def runsR : Int → List S58 → Bool
  | a, [] => decide (a ≤ 1500)
  | a, r :: l => inB 0 3 r.f0 && (inB 1 500 r.f1 && runsR (a + r.f1) l)
theorem runsR_big : ∀ (l : List S58) (a : Int), 1500 < a → runsR a l = false
  | [], a, h => by simp [runsR]; omega
  | r :: l, a, h => by
    simp only [runsR]
    cases h1 : inB 1 500 r.f1 with
    | false => simp
    | true =>
      simp only [inB, Bool.and_eq_true, decide_eq_true_eq] at h1
      rw [runsR_big l (a + r.f1) (by omega)]
      simp
def schedR (l : List S58) : Bool := decide (l.length ≤ 60) && runsR 0 l
theorem specSched_l0 (l : List S58) (hl : l.length ≤ 4000000) (d : Nat) : ∀ (k i : Nat) (a : Int), i + d = l.length → d < k → 0 ≤ a → a ≤ 2000 → spec_ScheduleOk.l0 k l a (i : Int) = some (decide (l.length ≤ 60) && runsR a (l.drop i)) := by
  induction d with
  | zero =>
    intro k i a hi hk h0 h1
    obtain ⟨k, rfl⟩ : ∃ m, k = m + 1 := ⟨k - 1, by omega⟩
    rw [spec_ScheduleOk.l0, if_neg (by omega), List.drop_of_length_le (by omega)]
    by_cases h : l.length ≤ 60
    · rw [if_pos (by omega), decide_eq_true h, Bool.true_and]; rfl
    · rw [if_neg (by omega), decide_eq_false h, Bool.false_and]
  | succ d ih =>
    intro k i a hi hk h0 h1
    obtain ⟨k, rfl⟩ : ∃ m, k = m + 1 := ⟨k - 1, by omega⟩
    rw [spec_ScheduleOk.l0, if_pos (by omega), if_pos (by omega), rdT58_at l i (by omega), drop_cons l i (by omega), l1In_eq, Option.bind_some]
    simp only [runsR]
    cases h2 : inB 0 3 l[i].f0 with
    | false => simp
    | true =>
      rw [if_pos rfl, l1In_eq, Option.bind_some]
      cases h3 : inB 1 500 l[i].f1 with
      | false => simp
      | true =>
        simp only [inB, Bool.and_eq_true, decide_eq_true_eq] at h3
        rw [if_pos rfl, Bool.true_and, Bool.true_and]
        by_cases h4 : a > 1500
        · rw [if_pos h4, runsR_big _ _ (by omega), Bool.and_false]
        · rw [if_neg h4, w64 (x := (i : Int) + 1) (by omega) (by omega), w64 (x := a + l[i].f1) (by omega) (by omega), show ((i : Int) + 1) = ((i + 1 : Nat) : Int) from by omega, ih k (i + 1) _ (by omega) (by omega) (by omega) (by omega)]
theorem specSched_eq {k : Nat} {l : List S58} (hl : l.length ≤ 4000000) (hk : l.length < k) : spec_ScheduleOk.f k l = some (schedR l) := by
  unfold spec_ScheduleOk.f schedR
  have h := specSched_l0 l hl l.length k 0 0 (by omega) hk (by omega) (by omega)
  rw [List.drop_zero] at h
  exact h

end Go.Proofs.Ytjbfcdeddnnnmaa.M
namespace Go.Proofs.Ytjbfcdeddnnnmaa.M
set_option linter.unusedVariables false
set_option linter.unusedSimpArgs false
open Go.RowKit Go.Proofs.YtjbfcdeddnnnmaaW.PrintWords Go.Proofs.Ytjbfcdeddnnnmaa.Pb

theorem notThread_eq (x : Int) : impl_Fair_1.f x = some (!inB 0 3 x) := by
  unfold impl_Fair_1.f
  rw [isThread_eq, Option.bind_some]

theorem indexNotThread_l0 (l : List Int) (hl : l.length ≤ 4000000) (d : Nat) : ∀ (k i : Nat), i + d = l.length → d < k →
    ∃ r, slices_IndexFunc_int_int_F46.l0 k l (l.length : Int) (i : Int) = some r ∧ (decide (r ≥ 0)) = !((l.drop i).all (inB 0 3)) := by
  induction d with
  | zero =>
    intro k i hi hk
    obtain ⟨k, rfl⟩ : ∃ m, k = m + 1 := ⟨k - 1, by omega⟩
    refine ⟨-1, ?_, ?_⟩
    · simp only [slices_IndexFunc_int_int_F46.l0]
      rw [if_neg (by omega)]
    · rw [List.drop_of_length_le (by omega)]
      rfl
  | succ d ih =>
    intro k i hi hk
    obtain ⟨k, rfl⟩ : ∃ m, k = m + 1 := ⟨k - 1, by omega⟩
    simp only [slices_IndexFunc_int_int_F46.l0]
    rw [if_pos (by omega), if_pos (by omega), if_pos (by omega), rd_at l i (by omega), notThread_eq, Option.bind_some, drop_cons l i (by omega), List.all_cons]
    cases h : inB 0 3 l[i] with
    | true =>
      rw [w64 (by omega) (by omega), show ((i : Int) + 1) = ((i + 1 : Nat) : Int) from by omega, Bool.true_and]
      simp only [Bool.not_true, Bool.false_eq_true, if_false]
      exact ih k (i + 1) (by omega) (by omega)
    | false => exact ⟨(i : Int), by simp, by simp⟩

theorem anyNotThread_eq {k : Nat} {l : List Int} (hl : l.length ≤ 4000000) (hk : l.length < k) : slices_ContainsFunc_int_int_F46.f k l = some (!l.all (inB 0 3)) := by
  unfold slices_ContainsFunc_int_int_F46.f slices_IndexFunc_int_int_F46.f
  obtain ⟨r, hr, h⟩ := indexNotThread_l0 l hl l.length k 0 (by omega) hk
  rw [show ((0 : Nat) : Int) = 0 from rfl] at hr
  rw [hr, Option.bind_some, h, List.drop_zero]

/-- Some thread from t on, of d, doesn't run in the window at a. -/
def missR (l : List Int) (w a : Nat) : Nat → Nat → Bool
  | _, 0 => false
  | t, d + 1 => !decide ((t : Int) ∈ (l.take (a + w)).drop a) || missR l w a (t + 1) d
/-- The first window from a on, of d, in which some thread doesn't run. -/
def frR (l : List Int) (n w : Nat) : Nat → Nat → Int × Bool
  | _, 0 => (-1, true)
  | a, d + 1 => if missR l w a 0 n = true then ((a : Int), true) else frR l n w (a + 1) d
def fairR (l : List Int) (n w : Int) : Int × Bool :=
  if (decide (l.length ≤ 1500) && (inB 1 4 n && (inB 1 1500 w && l.all (inB 0 3)))) = true then frR l n.toNat w.toNat 0 (l.length + 1 - w.toNat) else (-2, false)

theorem implFair_l1 (l : List Int) (n w a : Nat) (hl : l.length ≤ 1500) (hn : n ≤ 4) (hw : w ≤ 1500) (ha : a + w ≤ l.length) (d : Nat) : ∀ (k t : Nat), t + d = n → 1500 < k →
    impl_Fair.l1 (k + d + 1) l (n : Int) (w : Int) (a : Int) (n : Int) (t : Int) = if missR l w a t d = true then some ((a : Int), true) else impl_Fair.l0 k l (n : Int) (w : Int) ((a + 1 : Nat) : Int) := by
  induction d with
  | zero =>
    intro k t ht hk
    rw [impl_Fair.l1, if_neg (by omega), w64 (by omega) (by omega)]
    simp [missR]
  | succ d ih =>
    intro k t ht hk
    have hlen : ((l.take (a + w)).drop a).length ≤ 1500 := by simp; omega
    have hw2 : wrap64 ((a : Int) + (w : Int)) = ((a + w : Nat) : Int) := w64 (by omega) (by omega)
    rw [show k + (d + 1) + 1 = (k + d + 1) + 1 from by omega, impl_Fair.l1, if_pos (by omega), if_pos (by omega), hw2, if_pos (by omega), if_pos (by omega), Int.toNat_natCast, Int.toNat_natCast, contains_eq (by omega) (by omega), Option.bind_some]
    rw [w64 (x := (t : Int) + 1) (by omega) (by omega), show ((t : Int) + 1) = ((t + 1 : Nat) : Int) from by omega, ih k (t + 1) (by omega) hk]
    simp only [missR]
    by_cases h : (t : Int) ∈ (l.take (a + w)).drop a
    · simp [h]
    · simp [h]
theorem implFair_l0 (l : List Int) (n w : Nat) (hl : l.length ≤ 1500) (hn : n ≤ 4) (hw : w ≤ 1500) (d : Nat) : ∀ (k a : Nat), d = l.length + 1 - w - a → 1500 + 10 * (d + 1) < k → a ≤ l.length + 1 →
    impl_Fair.l0 k l (n : Int) (w : Int) (a : Int) = some (frR l n w a d) := by
  induction d with
  | zero =>
    intro k a hd hk ha
    obtain ⟨k, rfl⟩ : ∃ m, k = m + 1 := ⟨k - 1, by omega⟩
    have hw2 : wrap64 ((a : Int) + (w : Int)) = ((a + w : Nat) : Int) := w64 (by omega) (by omega)
    rw [impl_Fair.l0, hw2, if_neg (by omega)]
    rfl
  | succ d ih =>
    intro k a hd hk ha
    obtain ⟨k, rfl⟩ : ∃ m, k = (m + n + 1) + 1 := ⟨k - n - 2, by omega⟩
    have hw2 : wrap64 ((a : Int) + (w : Int)) = ((a + w : Nat) : Int) := w64 (by omega) (by omega)
    have h1 := implFair_l1 l n w a hl hn hw (by omega) n k 0 (by omega) (by omega)
    rw [show ((0 : Nat) : Int) = 0 from rfl] at h1
    rw [impl_Fair.l0, hw2, if_pos (by omega), h1, ih k (a + 1) (by omega) (by omega) (by omega)]
    simp only [frR]
    split <;> rfl
theorem implFair_eq {k : Nat} {l : List Int} {n w : Int} (hl : l.length ≤ 4000000) (hk : l.length + 30000 < k) : impl_Fair.f k l n w = some (fairR l n w) := by
  obtain ⟨k, rfl⟩ : ∃ q, k = q + 1 := ⟨k - 1, by omega⟩
  have hj : impl_Fair.j0 (k + 1) l n w true = some (-2, false) := by simp [impl_Fair.j0]
  unfold impl_Fair.f fairR
  by_cases h0 : l.length ≤ 1500
  · rw [if_neg (by omega), in_eq, Option.bind_some, decide_eq_true h0, Bool.true_and]
    cases h1 : inB 1 4 n with
    | false => simp [hj]
    | true =>
      rw [if_pos rfl, in_eq, Option.bind_some, Bool.true_and]
      cases h2 : inB 1 1500 w with
      | false => simp [hj]
      | true =>
        rw [if_pos rfl, anyNotThread_eq hl (by omega), Option.bind_some, Bool.true_and]
        cases h3 : l.all (inB 0 3) with
        | false => simp [hj]
        | true =>
          simp only [inB, Bool.and_eq_true, decide_eq_true_eq] at h1 h2
          obtain ⟨n, rfl⟩ := Int.eq_ofNat_of_zero_le (show 0 ≤ n by omega)
          obtain ⟨w, rfl⟩ := Int.eq_ofNat_of_zero_le (show 0 ≤ w by omega)
          have h4 := implFair_l0 l n w h0 (by omega) (by omega) (l.length + 1 - w) k 0 (by omega) (by omega) (by omega)
          rw [impl_Fair.j0, if_neg (by simp), if_pos rfl, Int.toNat_natCast, Int.toNat_natCast]
          exact h4
  · rw [if_pos (by omega), hj, decide_eq_false h0]
    simp

/-- The last place below i at which t runs, or -1. -/
def lastR (l : List Int) (t : Int) : Nat → Int
  | 0 => -1
  | i + 1 => if rd l i = t then (i : Int) else lastR l t i
theorem lastR_rng (l : List Int) (t : Int) : ∀ i : Nat, -1 ≤ lastR l t i ∧ lastR l t i < (i : Int)
  | 0 => by simp [lastR]
  | i + 1 => by
    have h := lastR_rng l t i
    simp only [lastR]
    split <;> omega
theorem lastR_lt (l : List Int) (t : Int) (a : Nat) : ∀ m : Nat, lastR l t m < (a : Int) ↔ ∀ j : Nat, a ≤ j → j < m → rd l j ≠ t
  | 0 => by simp [lastR]; omega
  | m + 1 => by
    have h := lastR_lt l t a m
    simp only [lastR]
    by_cases e : rd l m = t
    · rw [if_pos e]
      constructor
      · intro h1 j h2 h3; omega
      · intro h1
        apply Int.not_le.1
        intro h2
        exact h1 m (by omega) (by omega) e
    · rw [if_neg e, h]
      constructor
      · intro h1 j h2 h3
        by_cases hj : j = m
        · subst hj; exact e
        · exact h1 j h2 (by omega)
      · intro h1 j h2 h3; exact h1 j h2 (by omega)
theorem mem_win (l : List Int) (a w : Nat) (t : Int) (h : a + w ≤ l.length) : t ∈ (l.take (a + w)).drop a ↔ ∃ j : Nat, a ≤ j ∧ j < a + w ∧ rd l j = t := by
  rw [List.mem_iff_getElem]
  constructor
  · rintro ⟨i, hi, e⟩
    simp only [List.length_drop, List.length_take] at hi
    refine ⟨a + i, by omega, by omega, ?_⟩
    rw [rd_at l (a + i) (by omega), ← e]
    simp
  · rintro ⟨j, h1, h2, e⟩
    refine ⟨j - a, by simp; omega, ?_⟩
    rw [rd_at l j (by omega)] at e
    rw [← e]
    simp only [List.getElem_drop, List.getElem_take]
    congr 1
    omega

/-- Some thread from t on, of d, hasn't run for w steps at i. -/
def hitR (l : List Int) (w i : Nat) : Nat → Nat → Bool
  | _, 0 => false
  | t, d + 1 => decide ((i : Int) - lastR l t (i + 1) ≥ (w : Int)) || hitR l w i (t + 1) d
theorem hitR_eq (l : List Int) (w i : Nat) (hi : i < l.length) (hw : 1 ≤ w) (d : Nat) : ∀ t : Nat, hitR l w i t d = if w ≤ i + 1 then missR l w (i + 1 - w) t d else false := by
  induction d with
  | zero => intro t; simp [hitR, missR]
  | succ d ih =>
    intro t
    simp only [hitR, missR]
    rw [ih]
    by_cases h : w ≤ i + 1
    · rw [if_pos h, if_pos h]
      congr 1
      rw [← decide_not]
      apply decide_eq_decide.2
      rw [mem_win l (i + 1 - w) w t (by omega)]
      have h1 := lastR_lt l t (i + 1 - w) (i + 1)
      constructor
      · intro h2 ⟨j, h3, h4, e⟩
        exact (h1.1 (by omega)) j h3 (by omega) e
      · intro h2
        have := h1.2 (fun j h3 h4 e => h2 ⟨j, h3, by omega, e⟩)
        omega
    · rw [if_neg h, if_neg h, Bool.or_false]
      have := lastR_rng l t (i + 1)
      apply decide_eq_false
      omega

def lastsR (l : List Int) (n i : Nat) : List Int := (List.range n).map (fun t : Nat => lastR l (t : Int) i)
theorem lastsR_len (l : List Int) (n i : Nat) : (lastsR l n i).length = n := by simp [lastsR]
theorem rd_lastsR (l : List Int) (n i t : Nat) (h : t < n) : rd (lastsR l n i) (t : Int) = lastR l t i := by
  rw [rd_at _ t (by rw [lastsR_len]; exact h)]
  simp [lastsR]
theorem lastsR_set (l : List Int) (n i q : Nat) (hq : rd l i = (q : Int)) : (lastsR l n i).set q (i : Int) = lastsR l n (i + 1) := by
  apply List.ext_getElem
  · simp [lastsR_len]
  · intro j h1 h2
    rw [lastsR_len] at h2
    simp only [List.getElem_set, lastsR, List.getElem_map, List.getElem_range, lastR]
    by_cases e : q = j
    · subst e; simp [hq]
    · rw [if_neg e, if_neg (by rw [hq]; omega)]
theorem lastsR_not (l : List Int) (n i : Nat) (hq : ¬ rd l i < (n : Int)) : lastsR l n i = lastsR l n (i + 1) := by
  apply List.ext_getElem
  · simp [lastsR_len]
  · intro j h1 h2
    rw [lastsR_len] at h1 h2
    simp only [lastsR, List.getElem_map, List.getElem_range, lastR]
    rw [if_neg (by omega)]

theorem specFair_l2 (l : List Int) (n w i : Nat) (hl : l.length ≤ 1500) (hn : n ≤ 4) (hw : w ≤ 1500) (hi : i < l.length) (d : Nat) : ∀ (k t : Nat), t + d = n →
    spec_Fair.l2 (k + d + 1) l (n : Int) (w : Int) (lastsR l n (i + 1)) (i : Int) (t : Int) = if hitR l w i t d = true then some ((i : Int) - (w : Int) + 1, true) else spec_Fair.l1 k l (n : Int) (w : Int) (lastsR l n (i + 1)) ((i + 1 : Nat) : Int) := by
  induction d with
  | zero =>
    intro k t ht
    rw [spec_Fair.l2, if_neg (by omega), w64 (by omega) (by omega)]
    simp [hitR]
  | succ d ih =>
    intro k t ht
    have hr := lastR_rng l t (i + 1)
    rw [show k + (d + 1) + 1 = (k + d + 1) + 1 from by omega, spec_Fair.l2, if_pos (by omega), if_pos (by omega), lastsR_len, if_pos (by omega), rd_lastsR l n (i + 1) t (by omega), w64 (x := (i : Int) - lastR l t (i + 1)) (by omega) (by omega), w64 (x := (t : Int) + 1) (by omega) (by omega), w64 (x := (i : Int) - (w : Int)) (by omega) (by omega), w64 (x := (i : Int) - (w : Int) + 1) (by omega) (by omega), show ((t : Int) + 1) = ((t + 1 : Nat) : Int) from by omega, ih k (t + 1) (by omega)]
    by_cases h : (i : Int) - lastR l t (i + 1) ≥ (w : Int)
    · have e : hitR l w i t (d + 1) = true := by simp only [hitR, decide_eq_true h, Bool.true_or]
      rw [if_pos h, e, if_pos rfl]
    · have e : hitR l w i t (d + 1) = hitR l w i (t + 1) d := by simp only [hitR, decide_eq_false h, Bool.false_or]
      rw [if_neg h, e]
theorem specFair_l1 (l : List Int) (n w : Nat) (hl : l.length ≤ 1500) (hn : n ≤ 4) (hw : w ≤ 1500) (hw1 : 1 ≤ w) (hall : l.all (inB 0 3) = true) (d : Nat) : ∀ (k i : Nat), i + d = l.length → 10 * (d + 1) < k →
    spec_Fair.l1 k l (n : Int) (w : Int) (lastsR l n i) (i : Int) = some (frR l n w (i + 1 - w) (l.length + 1 - w - (i + 1 - w))) := by
  induction d with
  | zero =>
    intro k i hi hk
    obtain ⟨k, rfl⟩ : ∃ m, k = m + 1 := ⟨k - 1, by omega⟩
    rw [spec_Fair.l1, if_neg (by omega)]
    rw [show l.length + 1 - w - (i + 1 - w) = 0 from by omega]
    rfl
  | succ d ih =>
    intro k i hi hk
    obtain ⟨k, rfl⟩ : ∃ m, k = (m + n + 1) + 1 + 1 := ⟨k - n - 3, by omega⟩
    have hb : 0 ≤ rd l i ∧ rd l i ≤ 3 := by
      rw [rd_at l i (by omega)]
      have := List.all_eq_true.1 hall l[i] (List.getElem_mem _)
      simpa [inB] using this
    have hj3 : spec_Fair.j3 ((k + n + 1) + 1) l (n : Int) (w : Int) (lastsR l n (i + 1)) (i : Int) = some (frR l n w (i + 1 - w) (l.length + 1 - w - (i + 1 - w))) := by
      have h2 := specFair_l2 l n w i hl hn hw (by omega) n k 0 (by omega)
      rw [show ((0 : Nat) : Int) = 0 from rfl] at h2
      rw [spec_Fair.j3, h2, hitR_eq l w i (by omega) hw1, ih k (i + 1) (by omega) (by omega)]
      by_cases h : w ≤ i + 1
      · rw [if_pos h]
        rw [show l.length + 1 - w - (i + 1 - w) = (l.length + 1 - w - (i + 1 + 1 - w)) + 1 from by omega, show i + 1 + 1 - w = (i + 1 - w) + 1 from by omega]
        simp only [frR]
        split
        · congr 2
          omega
        · rfl
      · rw [if_neg h, if_neg (by simp), show i + 1 + 1 - w = i + 1 - w from by omega]
    rw [spec_Fair.l1, if_pos (by omega), if_pos (by omega)]
    by_cases h : rd l i < (n : Int)
    · obtain ⟨q, hq⟩ := Int.eq_ofNat_of_zero_le hb.1
      rw [if_pos h, if_pos hb.1, lastsR_len, if_pos h]
      have e : (rd l i).toNat = q := by rw [hq]; rfl
      rw [e, lastsR_set l n i q hq]
      exact hj3
    · rw [if_neg h, lastsR_not l n i h]
      exact hj3
theorem specFair_l0 (l : List Int) (n w : Int) (d : Nat) : ∀ (k i : Nat), ((i + d : Nat) : Int) = n → n ≤ 4 → spec_Fair.l0 (k + d + 1) l n w (List.replicate i (-1) ++ List.replicate d 0) (i : Int) = spec_Fair.l1 k l n w (List.replicate (i + d) (-1)) 0 := by
  induction d with
  | zero =>
    intro k i hi hn
    rw [spec_Fair.l0, if_neg (by omega)]
    simp
  | succ d ih =>
    intro k i hi hn
    rw [show k + (d + 1) + 1 = (k + d + 1) + 1 from by omega, spec_Fair.l0, if_pos (by omega), if_pos (by omega), if_pos (by simp; omega), w64 (by omega) (by omega), show ((i : Int) + 1) = ((i + 1 : Nat) : Int) from by omega, Int.toNat_natCast]
    have e : (List.replicate i (-1 : Int) ++ List.replicate (d + 1) 0).set i (-1) = List.replicate (i + 1) (-1) ++ List.replicate d 0 := by
      apply List.ext_getElem
      · simp; omega
      · intro j h1 h2
        simp only [List.getElem_set, List.getElem_append, List.length_replicate, List.getElem_replicate]
        repeat' split
        all_goals first | rfl | omega
    rw [e, ih k (i + 1) (by omega) hn]
    congr 1
    congr 1
    omega
theorem specFair_eq {k : Nat} {l : List Int} {n w : Int} (hl : l.length ≤ 4000000) (hk : l.length + 30000 < k) : spec_Fair.f k l n w = some (fairR l n w) := by
  obtain ⟨k, rfl⟩ : ∃ q, k = q + 1 := ⟨k - 1, by omega⟩
  have hj : spec_Fair.j0 (k + 1) l n w true = some (-2, false) := by simp [spec_Fair.j0]
  unfold spec_Fair.f fairR
  by_cases h0 : l.length ≤ 1500
  · rw [if_neg (by omega), l1All_eq hl (by omega), Option.bind_some, decide_eq_true h0, Bool.true_and]
    cases h3 : l.all (inB 0 3) with
    | false => simp [hj]
    | true =>
      rw [if_pos rfl, l1In_eq, Option.bind_some]
      cases h1 : inB 1 4 n with
      | false => simp [hj]
      | true =>
        rw [if_pos rfl, l1In_eq, Option.bind_some, Bool.true_and]
        cases h2 : inB 1 1500 w with
        | false => simp [hj]
        | true =>
          simp only [inB, Bool.and_eq_true, decide_eq_true_eq] at h1 h2
          obtain ⟨n, rfl⟩ := Int.eq_ofNat_of_zero_le (show 0 ≤ n by omega)
          obtain ⟨w, rfl⟩ := Int.eq_ofNat_of_zero_le (show 0 ≤ w by omega)
          obtain ⟨k, rfl⟩ : ∃ q, k = q + n + 1 := ⟨k - n - 1, by omega⟩
          rw [spec_Fair.j0, if_neg (by simp), if_pos (by omega), Int.toNat_natCast, if_pos (by omega), Bool.and_self, if_pos rfl, Int.toNat_natCast]
          have h4 := specFair_l0 l n w n k 0 (by omega) (by omega)
          rw [List.replicate_zero, List.nil_append, Nat.zero_add] at h4
          have h5 := specFair_l1 l n w h0 (by omega) (by omega) (by omega) h3 l.length k 0 (by omega) (by omega)
          have h6 : lastsR l n 0 = List.replicate n (-1) := by
            apply List.ext_getElem
            · simp [lastsR_len]
            · intro j a b; simp [lastsR, lastR]
          rw [h6] at h5
          rw [show ((0 : Nat) : Int) = 0 from rfl] at h4 h5
          rw [h4, h5, show 0 + 1 - w = 0 from by omega]
          rfl
  · rw [if_pos (by omega), hj, decide_eq_false h0]
    simp


end Go.Proofs.Ytjbfcdeddnnnmaa.M
namespace Go.Proofs.Ytjbfcdeddnnnmaa.M
set_option linter.unusedVariables false
set_option linter.unusedSimpArgs false
open Go.RowKit Go.Proofs.YtjbfcdeddnnnmaaW.PrintWords Go.Proofs.Ytjbfcdeddnnnmaa.Pb

theorem notCount_eq (x : Int) : impl_WaysOf_1.f x = some (!inB 0 60 x) := by
  unfold impl_WaysOf_1.f
  rw [in_eq, Option.bind_some]

theorem indexNotCount_l0 (l : List Int) (hl : l.length ≤ 4000000) (d : Nat) : ∀ (k i : Nat), i + d = l.length → d < k →
    ∃ r, slices_IndexFunc_int_int_F48.l0 k l (l.length : Int) (i : Int) = some r ∧ (decide (r ≥ 0)) = !((l.drop i).all (inB 0 60)) := by
  induction d with
  | zero =>
    intro k i hi hk
    obtain ⟨k, rfl⟩ : ∃ m, k = m + 1 := ⟨k - 1, by omega⟩
    refine ⟨-1, ?_, ?_⟩
    · simp only [slices_IndexFunc_int_int_F48.l0]
      rw [if_neg (by omega)]
    · rw [List.drop_of_length_le (by omega)]
      rfl
  | succ d ih =>
    intro k i hi hk
    obtain ⟨k, rfl⟩ : ∃ m, k = m + 1 := ⟨k - 1, by omega⟩
    simp only [slices_IndexFunc_int_int_F48.l0]
    rw [if_pos (by omega), if_pos (by omega), if_pos (by omega), rd_at l i (by omega), notCount_eq, Option.bind_some, drop_cons l i (by omega), List.all_cons]
    cases h : inB 0 60 l[i] with
    | true =>
      rw [w64 (by omega) (by omega), show ((i : Int) + 1) = ((i + 1 : Nat) : Int) from by omega, Bool.true_and]
      simp only [Bool.not_true, Bool.false_eq_true, if_false]
      exact ih k (i + 1) (by omega) (by omega)
    | false => exact ⟨(i : Int), by simp, by simp⟩

theorem anyNotCount_eq {k : Nat} {l : List Int} (hl : l.length ≤ 4000000) (hk : l.length < k) : slices_ContainsFunc_int_int_F48.f k l = some (!l.all (inB 0 60)) := by
  unfold slices_ContainsFunc_int_int_F48.f slices_IndexFunc_int_int_F48.f
  obtain ⟨r, hr, h⟩ := indexNotCount_l0 l hl l.length k 0 (by omega) hk
  rw [show ((0 : Nat) : Int) = 0 from rfl] at hr
  rw [hr, Option.bind_some, h, List.drop_zero]

/-- p + j over j. -/
def binR : Nat → Nat → Nat
  | _, 0 => 1
  | 0, _ + 1 => 1
  | p + 1, j + 1 => binR p (j + 1) + binR (p + 1) j
theorem binR_zero : ∀ j : Nat, binR 0 j = 1
  | 0 => by rw [binR]
  | j + 1 => by rw [binR]
theorem binR_zero_right (p : Nat) : binR p 0 = 1 := by cases p <;> rw [binR]
theorem binR_step : ∀ (p j : Nat), (j + 1) * binR p (j + 1) = (p + j + 1) * binR p j ∧ (p + 1) * binR (p + 1) j = (p + j + 1) * binR p j
  | 0, 0 => by simp [binR_zero, binR_zero_right]
  | 0, j + 1 => by
    have h := (binR_step 0 j).2
    have e : binR (0 + 1) (j + 1) = binR 0 (j + 1) + binR (0 + 1) j := binR.eq_3 0 j
    simp only [binR_zero, Nat.mul_one, Nat.zero_add, Nat.one_mul] at h e ⊢
    constructor <;> first | trivial | omega
  | p + 1, 0 => by
    have h := (binR_step p 0).1
    have e : binR (p + 1) (0 + 1) = binR p (0 + 1) + binR (p + 1) 0 := binR.eq_3 p 0
    simp only [binR_zero_right, Nat.mul_one, Nat.zero_add, Nat.one_mul, Nat.add_zero] at h e ⊢
    constructor <;> first | trivial | omega
  | p + 1, j + 1 => by
    have h1 := binR_step p (j + 1)
    have h2 := binR_step (p + 1) j
    have e1 : binR (p + 1) (j + 1 + 1) = binR p (j + 1 + 1) + binR (p + 1) (j + 1) := binR.eq_3 p (j + 1)
    have e2 : binR (p + 1 + 1) (j + 1) = binR (p + 1) (j + 1) + binR (p + 1 + 1) j := binR.eq_3 (p + 1) j
    constructor
    · rw [e1, Nat.mul_add, h1.1, ← h1.2, ← Nat.add_mul]
      congr 1 <;> omega
    · rw [e2, Nat.mul_add, h2.2, ← h2.1, ← Nat.add_mul]
      congr 1 <;> omega
theorem binR_pos : ∀ (p j : Nat), 1 ≤ binR p j
  | p, 0 => by rw [binR_zero_right]; omega
  | 0, j + 1 => by rw [binR]; omega
  | p + 1, j + 1 => by
    have := binR_pos (p + 1) j
    rw [binR]
    omega
theorem binR_mono1 (p j : Nat) : binR p j ≤ binR p (j + 1) := by
  cases p with
  | zero => rw [binR_zero, binR_zero]; omega
  | succ p => rw [binR]; omega
theorem binR_mono (p : Nat) (e : Nat) : ∀ j : Nat, binR p j ≤ binR p (j + e) := by
  induction e with
  | zero => intro j; exact Nat.le_refl _
  | succ e ih =>
    intro j
    have h1 := ih j
    have h2 := binR_mono1 p (j + e)
    rw [show j + (e + 1) = j + e + 1 from by omega]
    omega

theorem tdivN (a b : Nat) : Int.tdiv (a : Int) (b : Int) = ((a / b : Nat) : Int) := rfl
theorem div_lt' {a d m : Nat} (hd : 0 < d) : a / d < m ↔ a < m * d := Nat.div_lt_iff_lt_mul hd

/-- The ways of the threads that are left, w ways and p steps so far. -/
def waysR : Nat → Nat → List Int → Int × Bool
  | w, _, [] => ((w : Int), true)
  | w, p, c :: l => if w * binR p c.toNat > 1000000000000000 then (0, false) else waysR (w * binR p c.toNat) (p + c.toNat) l
def waysOfR (l : List Int) : Int × Bool := if (decide (l.length ≤ 4) && l.all (inB 0 60)) = true then waysR 1 0 l else (0, false)

theorem choices_l0 (p c : Nat) (hc : c ≤ 60) (hp : p ≤ 180) (e : Nat) : ∀ (k j : Nat), j + e = c → binR p j ≤ 1000000000000000 →
    impl_choices.l0 (k + e + 1) ((p + c : Nat) : Int) (c : Int) ((binR p j : Nat) : Int) ((j + 1 : Nat) : Int) = some (if binR p c > 1000000000000000 then 0 else ((binR p c : Nat) : Int)) := by
  induction e with
  | zero =>
    intro k j hj hb
    have hj' : j = c := by omega
    subst hj'
    rw [impl_choices.l0, if_neg (by omega), if_neg (by omega)]
  | succ e ih =>
    intro k j hj hb
    have hm : binR p (j + 1) ≤ binR p c := by
      have := binR_mono p e (j + 1)
      rw [show j + 1 + e = c from by omega] at this
      exact this
    have hs : binR p j * (p + j + 1) = (j + 1) * binR p (j + 1) := by rw [(binR_step p j).1, Nat.mul_comm]
    have h2 : binR p j * (p + j + 1) ≤ 1000000000000000 * 241 := Nat.mul_le_mul hb (by omega)
    have h6 : binR p (j + 1) ≤ 1000000000000000 * 241 := by
      have : binR p (j + 1) ≤ (j + 1) * binR p (j + 1) := Nat.le_mul_of_pos_left _ (by omega)
      omega
    rw [show k + (e + 1) + 1 = (k + e + 1) + 1 from by omega, impl_choices.l0, if_pos (by omega), if_neg (by omega), w64 (x := ((p + c : Nat) : Int) - (c : Int)) (by omega) (by omega), w64 (x := ((p + c : Nat) : Int) - (c : Int) + ((j + 1 : Nat) : Int)) (by omega) (by omega),
      show (((p + c : Nat) : Int) - (c : Int) + ((j + 1 : Nat) : Int)) = ((p + j + 1 : Nat) : Int) from by omega,
      show (((binR p j : Nat) : Int) * ((p + j + 1 : Nat) : Int)) = ((binR p j * (p + j + 1) : Nat) : Int) from by push_cast; rfl, w64 (x := ((binR p j * (p + j + 1) : Nat) : Int)) (by omega) (by omega), tdivN, hs, Nat.mul_div_cancel_left _ (by omega), w64 (x := ((binR p (j + 1) : Nat) : Int)) (by omega) (by omega), w64 (x := ((j + 1 : Nat) : Int) + 1) (by omega) (by omega)]
    by_cases h : binR p (j + 1) > 1000000000000000
    · rw [if_pos (by omega), if_pos (by omega)]
    · rw [if_neg (by omega)]
      exact ih k (j + 1) (by omega) (by omega)
theorem choices_eq {k : Nat} (p c : Nat) (hc : c ≤ 60) (hp : p ≤ 180) (hk : 61 < k) : impl_choices.f k ((p + c : Nat) : Int) (c : Int) = some (if binR p c > 1000000000000000 then 0 else ((binR p c : Nat) : Int)) := by
  obtain ⟨k, rfl⟩ : ∃ q, k = q + c + 1 := ⟨k - c - 1, by omega⟩
  unfold impl_choices.f
  have h := choices_l0 p c hc hp c k 0 (by omega) (by rw [binR_zero_right]; omega)
  rw [binR_zero_right] at h
  exact h
theorem implWays_l0 (l : List Int) (hl : l.length ≤ 4) (hall : l.all (inB 0 60) = true) (d : Nat) : ∀ (k i w p : Nat), i + d = l.length → 62 + d < k → p ≤ 60 * i → 1 ≤ w → w ≤ 1000000000000000 →
    impl_WaysOf.l0 k (w : Int) (p : Int) l (l.length : Int) (i : Int) = some (waysR w p (l.drop i)) := by
  induction d with
  | zero =>
    intro k i w p hi hk hp hw1 hw
    obtain ⟨k, rfl⟩ : ∃ q, k = q + 1 := ⟨k - 1, by omega⟩
    rw [impl_WaysOf.l0, if_neg (by omega), List.drop_of_length_le (by omega)]
    rfl
  | succ d ih =>
    intro k i w p hi hk hp hw1 hw
    have hb : 0 ≤ l[i] ∧ l[i] ≤ 60 := by
      have := List.all_eq_true.1 hall l[i] (List.getElem_mem _)
      simpa [inB] using this
    obtain ⟨c, hc⟩ := Int.eq_ofNat_of_zero_le hb.1
    obtain ⟨k, rfl⟩ : ∃ q, k = q + 1 := ⟨k - 1, by omega⟩
    have hpos := binR_pos p c
    rw [impl_WaysOf.l0, if_pos (by omega), if_pos (by omega), if_pos (by omega), rd_at l i (by omega), hc, w64 (x := (p : Int) + (c : Int)) (by omega) (by omega), show ((p : Int) + (c : Int)) = ((p + c : Nat) : Int) from by omega, choices_eq p c (by omega) (by omega) (by omega), Option.bind_some, drop_cons l i (by omega)]
    simp only [waysR, hc, Int.toNat_natCast]
    by_cases h : binR p c > 1000000000000000
    · have h2 : w * binR p c > 1000000000000000 := Nat.lt_of_lt_of_le h (Nat.le_mul_of_pos_left _ (by omega))
      rw [if_pos h, if_pos h2, if_pos rfl]
    · rw [if_neg h, if_neg (by omega), show (1000000000000000 : Int) = ((1000000000000000 : Nat) : Int) from rfl, tdivN]
      have hdl : 1000000000000000 / binR p c ≤ 1000000000000000 := Nat.div_le_self _ _
      have hdq : ∀ m, 1000000000000000 / binR p c < m ↔ 1000000000000000 < m * binR p c := fun m => div_lt' hpos
      generalize 1000000000000000 / binR p c = Q at hdl hdq ⊢
      rw [w64 (x := ((Q : Nat) : Int)) (by omega) (by omega)]
      by_cases h3 : w * binR p c > 1000000000000000
      · rw [if_pos h3, if_pos (by have := (hdq w).2 h3; omega)]
      · have h4 : ¬ Q < w := fun h5 => h3 ((hdq w).1 h5)
        rw [if_neg h3, if_neg (by omega), show ((w : Int) * ((binR p c : Nat) : Int)) = ((w * binR p c : Nat) : Int) from by push_cast; rfl, w64 (x := ((w * binR p c : Nat) : Int)) (by omega) (by omega), w64 (x := (i : Int) + 1) (by omega) (by omega), show ((i : Int) + 1) = ((i + 1 : Nat) : Int) from by omega]
        exact ih k (i + 1) _ _ (by omega) (by omega) (by omega) (Nat.mul_pos hw1 hpos) (by omega)
theorem implWays_eq {k : Nat} {l : List Int} (hl : l.length ≤ 4000000) (hk : l.length + 1000 < k) : impl_WaysOf.f k l = some (waysOfR l) := by
  obtain ⟨k, rfl⟩ : ∃ q, k = q + 1 := ⟨k - 1, by omega⟩
  have hj : impl_WaysOf.j0 (k + 1) l true = some (0, false) := by simp [impl_WaysOf.j0]
  unfold impl_WaysOf.f waysOfR
  by_cases h0 : l.length ≤ 4
  · rw [if_neg (by omega), anyNotCount_eq hl (by omega), Option.bind_some, decide_eq_true h0, Bool.true_and]
    cases h1 : l.all (inB 0 60) with
    | false => simp [hj]
    | true =>
      have h2 := implWays_l0 l h0 h1 l.length k 0 1 0 (by omega) (by omega) (by omega) (by omega) (by omega)
      rw [if_pos rfl, impl_WaysOf.j0, if_neg (by simp)]
      exact h2
  · rw [if_pos (by omega), hj, decide_eq_false h0]
    simp


end Go.Proofs.Ytjbfcdeddnnnmaa.M
namespace Go.Proofs.Ytjbfcdeddnnnmaa.M
set_option linter.unusedVariables false
set_option linter.unusedSimpArgs false
open Go.RowKit Go.Proofs.YtjbfcdeddnnnmaaW.PrintWords Go.Proofs.Ytjbfcdeddnnnmaa.Pb

def cntR (x : Int) : List Int → Int
  | [] => 0
  | y :: l => (if y = x then 1 else 0) + cntR x l
theorem cntR_rng (x : Int) : ∀ l : List Int, 0 ≤ cntR x l ∧ cntR x l ≤ (l.length : Int)
  | [] => by simp [cntR]
  | y :: l => by
    have h := cntR_rng x l
    simp only [cntR, List.length_cons]
    split <;> omega
theorem implLeft5_l0 (l : List Int) (x : Int) (hl : l.length ≤ 4000000) (d : Nat) : ∀ (k i : Nat) (a : Int), i + d = l.length → d < k → 0 ≤ a → a ≤ (i : Int) → impl_Left5.l0 k x a l (l.length : Int) (i : Int) = some (a + cntR x (l.drop i)) := by
  induction d with
  | zero =>
    intro k i a hi hk h0 h1
    obtain ⟨k, rfl⟩ : ∃ m, k = m + 1 := ⟨k - 1, by omega⟩
    rw [impl_Left5.l0, if_neg (by omega), List.drop_of_length_le (by omega)]
    simp [cntR]
  | succ d ih =>
    intro k i a hi hk h0 h1
    obtain ⟨k, rfl⟩ : ∃ m, k = m + 1 := ⟨k - 1, by omega⟩
    rw [impl_Left5.l0, if_pos (by omega), if_pos (by omega), if_pos (by omega), rd_at l i (by omega), drop_cons l i (by omega), w64 (x := (i : Int) + 1) (by omega) (by omega), w64 (x := a + 1) (by omega) (by omega), show ((i : Int) + 1) = ((i + 1 : Nat) : Int) from by omega]
    simp only [cntR]
    split
    · rw [ih k (i + 1) _ (by omega) (by omega) (by omega) (by omega)]; congr 1; omega
    · rw [ih k (i + 1) _ (by omega) (by omega) (by omega) (by omega)]; congr 1; omega
def left5R (l : List Int) (x a : Int) : Int := if inB 0 (l.length : Int) a = true then cntR x (l.drop a.toNat) else -1
theorem implLeft5_eq {k : Nat} {l : List Int} {x a : Int} (hl : l.length ≤ 4000000) (hk : l.length < k) : impl_Left5.f k l x a = some (left5R l x a) := by
  unfold impl_Left5.f left5R
  rw [in_eq, Option.bind_some]
  cases h : inB 0 (l.length : Int) a with
  | false => simp
  | true =>
    simp only [inB, Bool.and_eq_true, decide_eq_true_eq] at h
    obtain ⟨n, rfl⟩ := Int.eq_ofNat_of_zero_le h.1
    have hd : (l.drop n).length = l.length - n := by simp
    have h2 := implLeft5_l0 (l.drop n) x (by omega) (l.drop n).length k 0 0 (by omega) (by omega) (by omega) (by omega)
    rw [if_pos rfl, if_pos rfl, if_pos h.1, if_pos h.2, Option.bind_some, Int.toNat_natCast]
    rw [List.drop_zero, Int.zero_add] at h2
    exact h2


end Go.Proofs.Ytjbfcdeddnnnmaa.M
namespace Go.Proofs.Ytjbfcdeddnnnmaa.M
set_option linter.unusedVariables false
set_option linter.unusedSimpArgs false
open Go.RowKit Go.Proofs.YtjbfcdeddnnnmaaW.PrintWords Go.Proofs.Ytjbfcdeddnnnmaa.Pb

def flatR : List S58 → List Int
  | [] => []
  | r :: l => List.replicate r.f1.toNat r.f0 ++ flatR l
def stepsR (l : List S58) : List Int × Bool := if schedR l = true then (flatR l, true) else ([], false)
theorem sched_runs : ∀ (l : List S58) (a : Int), runsR a l = true → ∀ r ∈ l, 1 ≤ r.f1 ∧ r.f1 ≤ 500
  | [], _, _ => by simp
  | r :: l, a, h => by
    simp only [runsR, Bool.and_eq_true, inB, decide_eq_true_eq] at h
    intro q hq
    rcases List.mem_cons.1 hq with rfl | hq
    · exact h.2.1
    · exact sched_runs l _ h.2.2 q hq
theorem flatR_len : ∀ (l : List S58), (∀ r ∈ l, 1 ≤ r.f1 ∧ r.f1 ≤ 500) → (flatR l).length ≤ 500 * l.length
  | [], _ => by simp [flatR]
  | r :: l, h => by
    have h1 := flatR_len l (fun q hq => h q (List.mem_cons_of_mem _ hq))
    have h2 := h r (List.mem_cons_self ..)
    simp only [flatR, List.length_append, List.length_replicate, List.length_cons]
    omega
theorem stepsR_len (l : List S58) : (stepsR l).1.length ≤ 30000 := by
  unfold stepsR
  split
  · rename_i h
    simp only [schedR, Bool.and_eq_true, decide_eq_true_eq] at h
    have := flatR_len l (sched_runs l 0 h.2)
    simp only
    omega
  · simp

theorem specSteps_l1 (l : List S58) (i : Nat) (hi : i < l.length) (hl : l.length ≤ 60) (e : Nat) : ∀ (k j : Nat) (acc : List Int), (j : Int) + e = l[i].f1 → l[i].f1 ≤ 500 → acc.length + e ≤ 60000 →
    spec_Steps.l1 (k + e + 1) l acc (i : Int) (j : Int) = spec_Steps.l0 k l (acc ++ List.replicate e l[i].f0) ((i + 1 : Nat) : Int) := by
  induction e with
  | zero =>
    intro k j acc hj h5 ha
    rw [spec_Steps.l1, if_pos (by omega), if_pos (by omega), rdT58_at l i hi, if_neg (by omega), w64 (by omega) (by omega)]
    simp
  | succ e ih =>
    intro k j acc hj h5 ha
    rw [show k + (e + 1) + 1 = (k + e + 1) + 1 from by omega, spec_Steps.l1, if_pos (by omega), if_pos (by omega), rdT58_at l i hi, if_pos (by omega), if_pos (by omega), w64 (by omega) (by omega), show ((j : Int) + 1) = ((j + 1 : Nat) : Int) from by omega,
      ih k (j + 1) _ (by omega) h5 (by simp; omega), List.append_assoc]
    rfl
theorem specSteps_l0 (l : List S58) (hl : l.length ≤ 60) (hr : ∀ r ∈ l, 1 ≤ r.f1 ∧ r.f1 ≤ 500) (d : Nat) : ∀ (k i : Nat) (acc : List Int), i + d = l.length → 503 * d < k → acc.length ≤ 500 * i →
    spec_Steps.l0 k l acc (i : Int) = some (acc ++ flatR (l.drop i), true) := by
  induction d with
  | zero =>
    intro k i acc hi hk ha
    obtain ⟨k, rfl⟩ : ∃ m, k = m + 1 := ⟨k - 1, by omega⟩
    rw [spec_Steps.l0, if_neg (by omega), List.drop_of_length_le (by omega)]
    simp [flatR]
  | succ d ih =>
    intro k i acc hi hk ha
    have hri := hr l[i] (List.getElem_mem _)
    obtain ⟨n, hn⟩ := Int.eq_ofNat_of_zero_le (show 0 ≤ l[i].f1 by omega)
    obtain ⟨k, rfl⟩ : ∃ m, k = (m + n + 1) + 1 := ⟨k - n - 2, by omega⟩
    have h1 := specSteps_l1 l i (by omega) hl n k 0 acc (by omega) hri.2 (by omega)
    rw [spec_Steps.l0, if_pos (by omega)]
    rw [show ((0 : Nat) : Int) = 0 from rfl] at h1
    rw [h1, ih k (i + 1) _ (by omega) (by omega) (by simp; omega), drop_cons l i (by omega)]
    simp only [flatR, hn, Int.toNat_natCast, List.append_assoc]
theorem specSteps_eq {k : Nat} {l : List S58} (hl : l.length ≤ 4000000) (hk : l.length + 31000 < k) : spec_Steps.f k l = some (stepsR l) := by
  unfold spec_Steps.f stepsR
  rw [Option.bind_some, specSched_eq hl (by omega), Option.bind_some]
  cases h : schedR l with
  | false => simp
  | true =>
    simp only [schedR, Bool.and_eq_true, decide_eq_true_eq] at h
    have h1 := specSteps_l0 l h.1 (sched_runs l 0 h.2) l.length k 0 [] (by omega) (by omega) (by simp)
    rw [List.drop_zero, List.nil_append] at h1
    rw [if_pos rfl, if_pos rfl]
    exact h1

end Go.Proofs.Ytjbfcdeddnnnmaa.M
namespace Go.Proofs.Ytjbfcdeddnnnmaa.M
set_option linter.unusedVariables false
set_option linter.unusedSimpArgs false
open Go.RowKit Go.Proofs.YtjbfcdeddnnnmaaW.PrintWords Go.Proofs.Ytjbfcdeddnnnmaa.Pb

theorem and255 (n : Int) : bits .and .i64 n 255 = n % 256 := by
  have h255 : (BitVec.ofInt 64 255).toNat = 2 ^ 8 - 1 := by decide
  have key : (BitVec.ofInt 64 n &&& BitVec.ofInt 64 255).toNat = (n % ((2 ^ 64 : Nat) : Int)).toNat % 2 ^ 8 := by
    rw [BitVec.toNat_and, BitVec.toNat_ofInt, h255, Nat.and_two_pow_sub_one_eq_mod]
  show IntKind.i64.wrap ((BitVec.ofInt 64 n &&& BitVec.ofInt 64 255).toNat : Nat) = n % 256
  rw [key, IntKind.wrap_i64]
  omega

theorem l1New_l0 (s : List Int) (hs : s.length ≤ 1048576) (d : Nat) : ∀ (k i : Nat) (x : Int), i + d = s.length → d < k → ∃ x', spec_l1New.l0 k s x (i : Int) = some (s, 0, x') := by
  induction d with
  | zero =>
    intro k i x hi hk
    obtain ⟨k, rfl⟩ : ∃ q, k = q + 1 := ⟨k - 1, by omega⟩
    rw [spec_l1New.l0, if_neg (by omega)]
    exact ⟨_, rfl⟩
  | succ d ih =>
    intro k i x hi hk
    obtain ⟨k, rfl⟩ : ∃ q, k = q + 1 := ⟨k - 1, by omega⟩
    rw [spec_l1New.l0, if_pos (by omega)]
    split
    · rw [if_pos (by omega), w64 (x := (i : Int) + 1) (by omega) (by omega), show ((i : Int) + 1) = ((i + 1 : Nat) : Int) from by omega]
      exact ih k (i + 1) _ (by omega) (by omega)
    · exact ⟨_, rfl⟩
theorem l1New_ok {k : Nat} {s : List Int} (hs : s.length ≤ 1048576) (hk : s.length < k) : ∃ x', spec_l1New.f k s = some (s, 0, x') := by
  unfold spec_l1New.f
  exact l1New_l0 s hs s.length k 0 _ (by omega) hk

/-- A place within the bytes. -/
def Pl (s : List Int) (p : Int) : Prop := 0 ≤ p ∧ p ≤ (s.length : Int)
theorem byte_ok {s : List Int} {p x : Int} (hs : s.length ≤ 1048576) (hp : Pl s p) : ∃ b p' x', spec_l1Byte.f s p x = some (b, p', x') ∧ 0 ≤ b ∧ b ≤ 255 ∧ Pl s p' := by
  obtain ⟨h0, h1⟩ := hp
  unfold spec_l1Byte.f
  by_cases h : p < (s.length : Int)
  · rw [if_pos h, if_pos h0]
    refine ⟨_, _, _, rfl, ?_, ?_, ?_, ?_⟩
    · rw [and255 (wrap64 _)]; omega
    · rw [and255 (wrap64 _)]; omega
    · rw [w64 (by omega) (by omega)]; omega
    · rw [w64 (by omega) (by omega)]; omega
  · rw [if_neg h]
    refine ⟨_, _, _, rfl, ?_, ?_, h0, h1⟩
    · rw [and255]; omega
    · rw [and255]; omega
theorem below_ok {s : List Int} {p x n : Int} (hs : s.length ≤ 1048576) (hp : Pl s p) (h0 : 0 < n) (h1 : n ≤ 256) : ∃ r p' x', spec_l1Below.f s p x n = some (r, p', x') ∧ 0 ≤ r ∧ r < n ∧ Pl s p' := by
  obtain ⟨b, p', x', e, hb0, hb1, hp'⟩ := byte_ok (x := x) hs hp
  unfold spec_l1Below.f
  rw [if_neg (by omega), if_pos h1, e, Option.bind_some, if_neg (by omega)]
  refine ⟨_, _, _, rfl, ?_, ?_, hp'⟩
  · exact Int.tmod_nonneg _ hb0
  · exact Int.tmod_lt_of_pos _ h0
theorem pick_ok {s : List Int} {p x : Int} {l : List Int} (hs : s.length ≤ 1048576) (hp : Pl s p) (h0 : 0 < l.length) (h1 : l.length ≤ 256) : ∃ v p' x', spec_l1PickInt.f s p x l = some (v, p', x') ∧ Pl s p' := by
  obtain ⟨r, p', x', e, hr0, hr1, hp'⟩ := below_ok (x := x) hs hp (n := (l.length : Int)) (by omega) (by omega)
  unfold spec_l1PickInt.f
  rw [e, Option.bind_some, if_pos hr0, if_pos hr1]
  exact ⟨_, _, _, rfl, hp'⟩
theorem once_ok {s : List Int} {p x n : Int} (hs : s.length ≤ 1048576) (hp : Pl s p) (h0 : 0 < n) (h1 : n ≤ 256) : ∃ r p' x', spec_l1Once.f s p x n = some (r, p', x') ∧ Pl s p' := by
  obtain ⟨r, p', x', e, hr0, hr1, hp'⟩ := below_ok (x := x) hs hp h0 h1
  unfold spec_l1Once.f
  rw [e, Option.bind_some]
  exact ⟨_, _, _, rfl, hp'⟩


end Go.Proofs.Ytjbfcdeddnnnmaa.M
namespace Go.Proofs.Ytjbfcdeddnnnmaa.M
set_option linter.unusedVariables false
set_option linter.unusedSimpArgs false
open Go.RowKit Go.Proofs.YtjbfcdeddnnnmaaW.PrintWords Go.Proofs.Ytjbfcdeddnnnmaa.Pb

theorem l5Draw_l0 (s : List Int) (hs : s.length ≤ 1048576) (d : Nat) : ∀ (k : Nat) (l : List S58) (p x : Int), d < k → Pl s p → l.length + d ≤ 100 →
    ∃ r p' x', spec_l5Draw.l0 k l (d : Int) s p x = some (r, p', x') ∧ r.length ≤ 100 ∧ Pl s p' := by
  induction d with
  | zero =>
    intro k l p x hk hp hl
    obtain ⟨k, rfl⟩ : ∃ q, k = q + 1 := ⟨k - 1, by omega⟩
    rw [spec_l5Draw.l0, if_neg (by omega)]
    exact ⟨_, _, _, rfl, by omega, hp⟩
  | succ d ih =>
    intro k l p x hk hp hl
    obtain ⟨k, rfl⟩ : ∃ q, k = q + 1 := ⟨k - 1, by omega⟩
    obtain ⟨r1, p1, x1, e1, _, _, hp1⟩ := below_ok (x := x) hs hp (n := 3) (by omega) (by omega)
    obtain ⟨b, p2, x2, e2, hp2⟩ := once_ok (x := x1) hs hp1 (n := 2) (by omega) (by omega)
    rw [spec_l5Draw.l0, if_pos (by omega), e1, Option.bind_some]
    simp only
    rw [e2, Option.bind_some, w64 (x := ((d + 1 : Nat) : Int) - 1) (by omega) (by omega), show (((d + 1 : Nat) : Int) - 1) = ((d : Nat) : Int) from by omega]
    simp only
    cases b with
    | true =>
      obtain ⟨r3, p3, x3, e3, _, _, hp3⟩ := below_ok (x := x2) hs hp2 (n := 30) (by omega) (by omega)
      rw [if_pos rfl, e3, Option.bind_some, if_pos (by omega)]
      exact ih k _ _ _ (by omega) hp3 (by simp; omega)
    | false =>
      rw [if_neg Bool.false_ne_true, if_pos (by omega)]
      exact ih k _ _ _ (by omega) hp2 (by simp; omega)
theorem l5Draw_ok {k : Nat} {s : List Int} {p x : Int} (hs : s.length ≤ 1048576) (hp : Pl s p) (hk : 100 < k) : ∃ r p' x', spec_l5Draw.f k s p x = some (r, p', x') ∧ r.length ≤ 100 ∧ Pl s p' := by
  obtain ⟨r, p2, x2, e2, hr0, hr1, hp2⟩ := below_ok (x := x) hs hp (n := 12) (by omega) (by omega)
  unfold spec_l5Draw.f
  rw [e2, Option.bind_some]
  obtain ⟨n, rfl⟩ := Int.eq_ofNat_of_zero_le hr0
  exact l5Draw_l0 s hs n k [] _ _ (by omega) hp2 (by simp; omega)
theorem drawFair_ok {k : Nat} {s : List Int} (hs : s.length ≤ 1048576) (hk : s.length + 40000 < k) : ∃ l n w, spec_DrawFair.f k s = some (l, n, w) ∧ l.length ≤ 30001 := by
  obtain ⟨x, e1⟩ := l1New_ok (k := k) hs (by omega)
  obtain ⟨r, p2, x2, e2, hr, hp2⟩ := l5Draw_ok (k := k) (x := x) hs (⟨by omega, by omega⟩ : Pl s 0) (by omega)
  obtain ⟨b, p3, x3, e3, hp3⟩ := once_ok (x := x2) hs hp2 (n := 30) (by omega) (by omega)
  have hl := stepsR_len r
  unfold spec_DrawFair.f
  rw [e1, Option.bind_some]
  simp only
  rw [e2, Option.bind_some]
  simp only
  rw [specSteps_eq (by omega) (by omega), Option.bind_some, e3, Option.bind_some]
  simp only
  cases b with
  | true =>
    obtain ⟨v4, p4, x4, e4, hp4⟩ := pick_ok (x := x3) (l := [(-1), 3, 4]) hs hp3 (by simp) (by simp)
    obtain ⟨v5, p5, x5, e5, hp5⟩ := pick_ok (x := x4) (l := [1, 2, 3, 4, 2, 3, 0, 5]) hs hp4 (by simp) (by simp)
    obtain ⟨v6, p6, x6, e6, hp6⟩ := pick_ok (x := x5) (l := [1, 5, 10, 20, 40, 1500, 1501, 0]) hs hp5 (by simp) (by simp)
    rw [if_pos rfl, e4, Option.bind_some, if_pos (by omega)]
    simp only
    rw [e5, Option.bind_some]
    simp only
    rw [e6, Option.bind_some]
    exact ⟨_, _, _, rfl, by simp; omega⟩
  | false =>
    obtain ⟨v5, p5, x5, e5, hp5⟩ := pick_ok (x := x3) (l := [1, 2, 3, 4, 2, 3, 0, 5]) hs hp3 (by simp) (by simp)
    obtain ⟨v6, p6, x6, e6, hp6⟩ := pick_ok (x := x5) (l := [1, 5, 10, 20, 40, 1500, 1501, 0]) hs hp5 (by simp) (by simp)
    rw [if_neg Bool.false_ne_true, e5, Option.bind_some]
    simp only
    rw [e6, Option.bind_some]
    exact ⟨_, _, _, rfl, by omega⟩

theorem at_ok {s : List Int} (i : Int) (hs : s.length ≤ 1048576) (hw : ∀ z ∈ s, 0 ≤ z ∧ z ≤ 255) (h0 : 0 ≤ i) (h1 : i ≤ 10) : ∃ v, laws_at.f s i = some v ∧ 0 ≤ v := by
  unfold laws_at.f
  by_cases h : i < (s.length : Int)
  · obtain ⟨n, rfl⟩ := Int.eq_ofNat_of_zero_le h0
    have hz := hw s[n] (List.getElem_mem _)
    rw [if_pos h, if_pos h0, rd_at s n (by omega), w64 (by omega) (by omega)]
    exact ⟨_, rfl, hz.1⟩
  · rw [if_neg h, w64 (x := i * 7) (by omega) (by omega), w64 (x := i * 7 + (s.length : Int)) (by omega) (by omega)]
    exact ⟨_, rfl, Int.tmod_nonneg _ (by omega)⟩

theorem binR_symm : ∀ p q : Nat, binR p q = binR q p
  | 0, q => by rw [binR_zero, binR_zero_right]
  | p + 1, 0 => by rw [binR_zero, binR_zero_right]
  | p + 1, q + 1 => by
    rw [binR.eq_3, binR.eq_3, binR_symm p (q + 1), binR_symm (p + 1) q]
    omega
theorem binR_le : ∀ p q : Nat, binR p q ≤ 2 ^ (p + q)
  | 0, q => by rw [binR_zero]; exact Nat.one_le_two_pow
  | p + 1, 0 => by rw [binR_zero_right]; exact Nat.one_le_two_pow
  | p + 1, q + 1 => by
    have h1 := binR_le p (q + 1)
    have h2 := binR_le (p + 1) q
    have e1 : p + 1 + (q + 1) = (p + (q + 1)) + 1 := by omega
    have e2 : p + 1 + q = p + (q + 1) := by omega
    rw [binR.eq_3, e1, Nat.pow_succ]
    rw [e2] at h2
    omega
theorem ways_two (p q : Nat) (hp : p ≤ 8) (hq : q ≤ 8) : waysOfR [(p : Int), (q : Int)] = (((binR p q : Nat) : Int), true) := by
  have h1 := binR_le p q
  have h2 : 2 ^ (p + q) ≤ 2 ^ 16 := Nat.pow_le_pow_right (by omega) (by omega)
  have hb : binR p q ≤ 65536 := Nat.le_trans h1 h2
  have e1 : inB 0 60 (p : Int) = true := by simp [inB]; omega
  have e2 : inB 0 60 (q : Int) = true := by simp [inB]; omega
  unfold waysOfR
  rw [if_pos (by simp [e1, e2])]
  simp only [waysR, Int.toNat_natCast, binR_zero, Nat.mul_one, Nat.zero_add, Nat.one_mul]
  rw [if_neg (by omega), if_neg (by omega)]

/-- The law's last part. -/
theorem fnFair_fin {k : Nat} {s l : List Int} {n w x6 x10 a : Int} (hs : s.length ≤ 1048576) (hw : ∀ z ∈ s, 0 ≤ z ∧ z ≤ 255) (hk : 2000 < k) (h : x6 = x10 ∨ (x10 < 0 ∧ x6 ≥ 200)) : laws_FnFair.j2 (k + 1) s l n w x6 x10 a false = some true := by
  obtain ⟨u, eu, hu⟩ := at_ok (s := s) 0 hs hw (by omega) (by omega)
  obtain ⟨v, ev, hv⟩ := at_ok (s := s) 1 hs hw (by omega) (by omega)
  have hu1 : 0 ≤ Int.tmod u 9 := Int.tmod_nonneg _ hu
  have hu2 : Int.tmod u 9 < 9 := Int.tmod_lt_of_pos _ (by omega)
  have hv1 : 0 ≤ Int.tmod v 9 := Int.tmod_nonneg _ hv
  have hv2 : Int.tmod v 9 < 9 := Int.tmod_lt_of_pos _ (by omega)
  obtain ⟨p, hp⟩ := Int.eq_ofNat_of_zero_le hu1
  obtain ⟨q, hq⟩ := Int.eq_ofNat_of_zero_le hv1
  have h22 : waysOfR [2, 2] = (6, true) := by
    have := ways_two 2 2 (by omega) (by omega)
    have e : binR 2 2 = 6 := by
      rw [binR.eq_3, binR.eq_3 0 1, binR.eq_3 1 0, binR.eq_3 0 0]
      simp only [binR_zero, binR_zero_right]
    rw [e] at this
    exact this
  rw [laws_FnFair.j2, if_neg Bool.false_ne_true, eu, Option.bind_some, ev, Option.bind_some, hp, hq, implWays_eq (by simp) (by simp; omega), Option.bind_some, Option.bind_some, Option.bind_some, hp, hq, implWays_eq (by simp) (by simp; omega), Option.bind_some, implWays_eq (by simp) (by simp; omega), Option.bind_some, ways_two p q (by omega) (by omega), ways_two q p (by omega) (by omega), h22, binR_symm q p]
  simp only [if_true]
  by_cases h1 : x6 = x10
  · rw [if_pos h1]
  · have h2 := h.resolve_left h1
    rw [if_neg h1, if_pos h2.1, decide_eq_true h2.2]

theorem cntR_append (x : Int) : ∀ a b : List Int, cntR x (a ++ b) = cntR x a + cntR x b
  | [], b => by simp [cntR]
  | y :: a, b => by
    simp only [List.cons_append, cntR]
    rw [cntR_append x a b]
    omega
theorem cntR_zero (x : Int) : ∀ l : List Int, cntR x l = 0 ↔ x ∉ l
  | [] => by simp [cntR]
  | y :: l => by
    have h1 := cntR_rng x l
    have h2 := cntR_zero x l
    simp only [cntR, List.mem_cons, not_or]
    by_cases e : y = x
    · rw [if_pos e]
      constructor
      · intro h; omega
      · intro h; exact absurd e.symm h.1
    · rw [if_neg e, Int.zero_add, h2]
      exact ⟨fun h => ⟨fun q => e q.symm, h⟩, fun h => h.2⟩
theorem left_same (l : List Int) (t : Int) (a w : Nat) (h : a + w ≤ l.length) : left5R l t (a : Int) = left5R l t ((a + w : Nat) : Int) ↔ t ∉ (l.take (a + w)).drop a := by
  unfold left5R
  have e1 : inB 0 (l.length : Int) (a : Int) = true := by simp [inB]; omega
  have e2 : inB 0 (l.length : Int) ((a + w : Nat) : Int) = true := by simp [inB]; omega
  rw [if_pos e1, if_pos e2, Int.toNat_natCast, Int.toNat_natCast, ← cntR_zero]
  have e : l.drop a = (l.take (a + w)).drop a ++ l.drop (a + w) := by
    have := List.take_append_drop (a + w) l
    calc l.drop a = (l.take (a + w) ++ l.drop (a + w)).drop a := by rw [this]
      _ = (l.take (a + w)).drop a ++ l.drop (a + w) := by rw [List.drop_append_of_le_length (by simp; omega)]
  rw [e, cntR_append]
  omega

theorem fnFair_l1 {s l : List Int} {x6 : Int} (n w a : Nat) (hl : l.length ≤ 4000) (hn : n ≤ 4) (hw : w ≤ 1500) (ha : a + w ≤ l.length) (d : Nat) : ∀ (k t : Nat) (x10 : Int), t + d = n → 5000 < k →
    laws_FnFair.l1 (k + d + 1) s l (n : Int) (w : Int) x6 x10 (a : Int) (t : Int) = laws_FnFair.l0 k s l (n : Int) (w : Int) x6 (if missR l w a t d = true then (a : Int) else x10) ((a + 1 : Nat) : Int) := by
  induction d with
  | zero =>
    intro k t x10 ht hk
    rw [laws_FnFair.l1, if_neg (by omega), w64 (by omega) (by omega)]
    simp [missR]
  | succ d ih =>
    intro k t x10 ht hk
    have hw2 : wrap64 ((a : Int) + (w : Int)) = ((a + w : Nat) : Int) := w64 (by omega) (by omega)
    have hls := left_same l t a w ha
    rw [show k + (d + 1) + 1 = (k + d + 1) + 1 from by omega, laws_FnFair.l1, if_pos (by omega), implLeft5_eq (by omega) (by omega), Option.bind_some, hw2, implLeft5_eq (by omega) (by omega), Option.bind_some, w64 (x := (t : Int) + 1) (by omega) (by omega), show ((t : Int) + 1) = ((t + 1 : Nat) : Int) from by omega, ih k (t + 1) _ (by omega) hk, ih k (t + 1) _ (by omega) hk]
    by_cases h : (t : Int) ∈ (l.take (a + w)).drop a
    · have e : missR l w a t (d + 1) = missR l w a (t + 1) d := by simp only [missR, decide_eq_true h, Bool.not_true, Bool.false_or]
      rw [if_neg (fun q => hls.1 q h), e]
    · have e : missR l w a t (d + 1) = true := by simp only [missR, decide_eq_false h, Bool.not_false, Bool.true_or]
      rw [if_pos (hls.2 h), e, if_pos rfl]
      split <;> rfl

theorem frR_ge (l : List Int) (n w : Nat) (d : Nat) : ∀ a : Nat, (frR l n w a d).1 = -1 ∨ (frR l n w a d).1 ≥ (a : Int) := by
  induction d with
  | zero => intro a; exact Or.inl rfl
  | succ d ih =>
    intro a
    simp only [frR]
    split
    · exact Or.inr (Int.le_refl _)
    · rcases ih (a + 1) with h | h
      · exact Or.inl h
      · exact Or.inr (by omega)
theorem frR_yes (l : List Int) (n w : Nat) (d : Nat) : ∀ a : Nat, (frR l n w a d).2 = true := by
  induction d with
  | zero => intro a; rfl
  | succ d ih =>
    intro a
    simp only [frR]
    split
    · rfl
    · exact ih (a + 1)

theorem fnFair_l0 {s l : List Int} {x6 : Int} (n w : Nat) (hs : s.length ≤ 1048576) (hsw : ∀ z ∈ s, 0 ≤ z ∧ z ≤ 255) (hl : l.length ≤ 4000) (hn : n ≤ 4) (hw : w ≤ 1500) (d : Nat) : ∀ (k a : Nat), a + d = 200 → 10000 + 10 * d < k → x6 = (frR l n w a (l.length + 1 - w - a)).1 →
    laws_FnFair.l0 k s l (n : Int) (w : Int) x6 (-1) (a : Int) = some true := by
  induction d with
  | zero =>
    intro k a ha hk hx
    obtain ⟨k, rfl⟩ : ∃ q, k = q + 2 := ⟨k - 2, by omega⟩
    have hg := frR_ge l n w (l.length + 1 - w - a) a
    have hfin : laws_FnFair.j2 (k + 1) s l (n : Int) (w : Int) x6 (-1) (a : Int) false = some true := fnFair_fin hs hsw (by omega) (by
      rcases hg with h | h
      · exact Or.inl (by omega)
      · exact Or.inr ⟨by omega, by omega⟩)
    rw [laws_FnFair.l0]
    split
    · rw [if_pos (by omega), decide_eq_false (by omega), hfin]
    · exact hfin
  | succ d ih =>
    intro k a ha hk hx
    obtain ⟨k, rfl⟩ : ∃ q, k = (q + n + 1) + 1 + 1 := ⟨k - n - 3, by omega⟩
    have hw2 : wrap64 ((a : Int) + (w : Int)) = ((a + w : Nat) : Int) := w64 (by omega) (by omega)
    rw [laws_FnFair.l0, hw2]
    by_cases h : a + w ≤ l.length
    · rw [if_pos (by omega), if_pos (by omega), decide_eq_true (by omega), laws_FnFair.j2, if_pos rfl]
      have h1 := fnFair_l1 (s := s) (x6 := x6) n w a hl hn hw h n k 0 (-1) (by omega) (by omega)
      rw [show ((0 : Nat) : Int) = 0 from rfl] at h1
      rw [h1]
      rw [show l.length + 1 - w - a = (l.length + 1 - w - (a + 1)) + 1 from by omega] at hx
      simp only [frR] at hx
      by_cases hm : missR l w a 0 n = true
      · rw [if_pos hm] at hx ⊢
        obtain ⟨k, rfl⟩ : ∃ q, k = q + 2 := ⟨k - 2, by omega⟩
        have hfin : laws_FnFair.j2 (k + 1) s l (n : Int) (w : Int) x6 (a : Int) ((a + 1 : Nat) : Int) false = some true := fnFair_fin hs hsw (by omega) (Or.inl hx)
        rw [laws_FnFair.l0]
        split
        · rw [if_neg (by omega), hfin]
        · exact hfin
      · rw [if_neg hm] at hx ⊢
        exact ih k (a + 1) (by omega) (by omega) hx
    · rw [if_neg (by omega)]
      rw [show l.length + 1 - w - a = 0 from by omega] at hx
      exact fnFair_fin hs hsw (by omega) (Or.inl hx)


end Go.Proofs.Ytjbfcdeddnnnmaa.M
namespace Go.Proofs.Ytjbfcdeddnnnmaa.Pure
set_option linter.unusedVariables false
set_option linter.unusedSimpArgs false
open Go.RowKit Go.Proofs.Ytjbfcdeddnnnmaa.M Go.Proofs.YtjbfcdeddnnnmaaW.PrintWords Go.Proofs.Ytjbfcdeddnnnmaa.Pb

theorem wf_u8 {x : Int} (h : (Lit.int .u8 x).wf = true) : 0 ≤ x ∧ x ≤ 255 := by
  have h1 := of_decide_eq_true (show decide (IntKind.u8.min ≤ x) = true from by simp [Lit.wf] at h; simpa using h.1)
  have h2 := of_decide_eq_true (show decide (x ≤ IntKind.u8.max) = true from by simp [Lit.wf] at h; simpa using h.2)
  exact ⟨h1, h2⟩

theorem FnFair : laws_FnFair.Pure := by
  intro s hs
  obtain ⟨k, hk⟩ : ∃ k : Nat, 30000000 < k := ⟨30000001, by omega⟩
  refine ⟨k + 3, ?_⟩
  have hsw : ∀ z ∈ s, 0 ≤ z ∧ z ≤ 255 := fun z hz => wf_u8 (hs.2 z hz)
  unfold laws_FnFair.f laws_big.f
  rw [Option.bind_some]
  by_cases h0 : (s.length : Int) > 1048576
  · rw [decide_eq_true h0, if_pos rfl]
  · rw [decide_eq_false h0, if_neg Bool.false_ne_true]
    obtain ⟨l, n, w, e, hl⟩ := drawFair_ok (k := k + 3) (s := s) (by omega) (by omega)
    rw [e, Option.bind_some]
    simp only
    rw [implFair_eq (by omega) (by omega), specFair_eq (by omega) (by omega), Option.bind_some, Option.bind_some]
    simp only [bne_self_eq_false, Bool.false_eq_true, if_false]
    unfold fairR
    by_cases hc : (decide (l.length ≤ 1500) && (inB 1 4 n && (inB 1 1500 w && l.all (inB 0 3)))) = true
    · rw [if_pos hc]
      simp only [Bool.and_eq_true, inB, decide_eq_true_eq] at hc
      obtain ⟨n, rfl⟩ := Int.eq_ofNat_of_zero_le (show 0 ≤ n by omega)
      obtain ⟨w, rfl⟩ := Int.eq_ofNat_of_zero_le (show 0 ≤ w by omega)
      simp only [Int.toNat_natCast]
      rw [frR_yes, Bool.not_true, laws_FnFair.j0, if_neg Bool.false_ne_true]
      exact fnFair_l0 n w (by omega) hsw (by omega) (by omega) (by omega) 200 _ 0 (by omega) (by omega) rfl
    · rw [if_neg hc]
      simp only [Bool.not_false]
      rw [laws_FnFair.j0, if_pos rfl]
      rfl


end Go.Proofs.Ytjbfcdeddnnnmaa.Pure
