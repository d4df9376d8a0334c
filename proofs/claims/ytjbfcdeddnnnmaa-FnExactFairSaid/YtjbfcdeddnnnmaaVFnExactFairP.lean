/- The pure statement of FnExactFair and what it needs. Conditions: those that each theorem states. -/
import Derived.Test.YtjbfcdeddnnnmaaVFnExactFair0
import Derived.RowKit
import Derived.Test.YtjbfcdeddnnnmaaWWords
namespace Go.Proofs.Ytjbfcdeddnnnmaa.Pb
open Go.RowKit Go.Proofs.YtjbfcdeddnnnmaaW.PrintWords

theorem w64 {x : Int} (h0 : -9223372036854775808 ≤ x) (h1 : x ≤ 9223372036854775807) : wrap64 x = x := by
  unfold wrap64
  omega

theorem rd_at (l : List Int) (i : Nat) (h : i < l.length) : rd l (i : Int) = l[i] := by
  simp [rd, List.getD_eq_getElem?_getD, List.getElem?_eq_getElem h]

theorem set_take {α : Type} (x : List α) (v : α) (i : Nat) (h : i < x.length) : (x.set i v).take (i + 1) = x.take i ++ [v] := by
  rw [List.take_succ_eq_append_getElem (by simpa using h)]
  rw [List.take_set_of_le (Nat.le_refl i)]
  simp

/-- One round of a loop that copies. -/
theorem copy_step {α : Type} (x l : List α) (i : Nat) (h : i < l.length) (hx : i < x.length) :
    (x.set i l[i]).take (i + 1) ++ l.drop (i + 1) = x.take i ++ l.drop i := by
  rw [set_take x l[i] i hx, List.drop_eq_getElem_cons h, List.append_assoc]
  rfl

theorem drop_cons {α : Type} (l : List α) (i : Nat) (h : i < l.length) : l.drop i = l[i] :: l.drop (i + 1) := List.drop_eq_getElem_cons h


end Go.Proofs.Ytjbfcdeddnnnmaa.Pb
namespace Go.Proofs.Ytjbfcdeddnnnmaa.M
set_option linter.unusedVariables false
set_option linter.unusedSimpArgs false
open Go.RowKit Go.Proofs.YtjbfcdeddnnnmaaW.PrintWords Go.Proofs.Ytjbfcdeddnnnmaa.Pb

theorem toIntS_l0 (l : List Int) (hl : l.length ≤ 4000000) (d : Nat) : ∀ (k i : Nat) (x : List Int), i + d = l.length → d < k → x.length = l.length → laws_toIntS.l0 k l x (i : Int) = some (x.take i ++ l.drop i) := by
  induction d with
  | zero =>
    intro k i x hi hk hx
    obtain ⟨k, rfl⟩ : ∃ m, k = m + 1 := ⟨k - 1, by omega⟩
    simp only [laws_toIntS.l0]
    rw [if_neg (by omega), List.take_of_length_le (by omega), List.drop_of_length_le (by omega), List.append_nil]
  | succ d ih =>
    intro k i x hi hk hx
    obtain ⟨k, rfl⟩ : ∃ m, k = m + 1 := ⟨k - 1, by omega⟩
    simp only [laws_toIntS.l0]
    rw [if_pos (by omega), if_pos (by omega), if_pos (by omega), w64 (by omega) (by omega), rd_at l i (by omega), Int.toNat_natCast,
      show ((i : Int) + 1) = ((i + 1 : Nat) : Int) from by omega, ih k (i + 1) _ (by omega) (by omega) (by simp [hx]), copy_step x l i (by omega) (by omega)]

theorem toIntS_eq {k : Nat} {l : List Int} (hl : l.length ≤ 4000000) (hk : l.length < k) : laws_toIntS.f k l = some l := by
  unfold laws_toIntS.f
  rw [if_pos (by omega), if_pos (by omega)]
  have h := toIntS_l0 l hl l.length k 0 (List.replicate ((l.length : Int) : Int).toNat 0) (by omega) hk (by simp)
  rw [List.take_zero, List.drop_zero, List.nil_append] at h
  exact h

theorem eqIntS_l0 (l : List Int) (hl : l.length ≤ 4000000) (d : Nat) : ∀ (k i : Nat), i + d = l.length → d < k → laws_eqIntS.l0 k l l (i : Int) = some true := by
  induction d with
  | zero =>
    intro k i hi hk
    obtain ⟨k, rfl⟩ : ∃ m, k = m + 1 := ⟨k - 1, by omega⟩
    simp only [laws_eqIntS.l0]
    rw [if_neg (by omega)]
  | succ d ih =>
    intro k i hi hk
    obtain ⟨k, rfl⟩ : ∃ m, k = m + 1 := ⟨k - 1, by omega⟩
    simp only [laws_eqIntS.l0]
    rw [if_pos (by omega), if_pos (by omega), if_pos (by omega), if_pos trivial, w64 (by omega) (by omega), show ((i : Int) + 1) = ((i + 1 : Nat) : Int) from by omega]
    exact ih k (i + 1) (by omega) (by omega)

theorem eqIntS_refl {k : Nat} {l : List Int} (hl : l.length ≤ 4000000) (hk : l.length < k) : laws_eqIntS.f k l l = some true := by
  unfold laws_eqIntS.f
  rw [if_pos rfl]
  exact eqIntS_l0 l hl l.length k 0 (by omega) hk

/-- All of a list within bounds. -/
def inB (a b x : Int) : Bool := decide (a ≤ x) && decide (x ≤ b)

theorem l1In_eq (x a b : Int) : spec_l1In.f x a b = some (inB a b x) := by
  unfold spec_l1In.f inB
  by_cases h : x ≥ a
  · rw [if_pos h, decide_eq_true (show a ≤ x from h), Bool.true_and]
  · rw [if_neg h, decide_eq_false (show ¬ a ≤ x from h), Bool.false_and]

theorem in_eq (x a b : Int) : impl_in.f x a b = some (inB a b x) := by
  unfold impl_in.f inB
  by_cases h : a ≤ x
  · rw [if_pos h, decide_eq_true h, Bool.true_and]
  · rw [if_neg h, decide_eq_false h, Bool.false_and]

theorem l1All_l0 (l : List Int) (a b : Int) (hl : l.length ≤ 4000000) (d : Nat) : ∀ (k i : Nat), i + d = l.length → d < k → spec_l1All.l0 k l a b (i : Int) = some ((l.drop i).all (inB a b)) := by
  induction d with
  | zero =>
    intro k i hi hk
    obtain ⟨k, rfl⟩ : ∃ m, k = m + 1 := ⟨k - 1, by omega⟩
    simp only [spec_l1All.l0]
    rw [if_neg (by omega), List.drop_of_length_le (by omega)]
    rfl
  | succ d ih =>
    intro k i hi hk
    obtain ⟨k, rfl⟩ : ∃ m, k = m + 1 := ⟨k - 1, by omega⟩
    simp only [spec_l1All.l0]
    rw [if_pos (by omega), if_pos (by omega), rd_at l i (by omega), l1In_eq, Option.bind_some, drop_cons l i (by omega), List.all_cons]
    cases h : inB a b l[i] with
    | true =>
      rw [if_pos rfl, w64 (by omega) (by omega), show ((i : Int) + 1) = ((i + 1 : Nat) : Int) from by omega, ih k (i + 1) (by omega) (by omega), Bool.true_and]
    | false => simp

theorem l1All_eq {k : Nat} {l : List Int} {a b : Int} (hl : l.length ≤ 4000000) (hk : l.length < k) : spec_l1All.f k l a b = some (l.all (inB a b)) := by
  unfold spec_l1All.f
  exact l1All_l0 l a b hl l.length k 0 (by omega) hk

theorem index_l0 (l : List Int) (x : Int) (hl : l.length ≤ 4000000) (d : Nat) : ∀ (k i : Nat), i + d = l.length → d < k → ∃ r, slices_Index_int_int.l0 k l x (l.length : Int) (i : Int) = some r ∧ decide (r ≥ 0) = decide (x ∈ l.drop i) := by
  induction d with
  | zero =>
    intro k i hi hk
    obtain ⟨k, rfl⟩ : ∃ m, k = m + 1 := ⟨k - 1, by omega⟩
    refine ⟨-1, ?_, ?_⟩
    · simp only [slices_Index_int_int.l0]
      rw [if_neg (by omega)]
    · rw [List.drop_of_length_le (by omega)]
      simp
  | succ d ih =>
    intro k i hi hk
    obtain ⟨k, rfl⟩ : ∃ m, k = m + 1 := ⟨k - 1, by omega⟩
    simp only [slices_Index_int_int.l0]
    rw [if_pos (by omega), if_pos (by omega), if_pos (by omega), rd_at l i (by omega), drop_cons l i (by omega)]
    by_cases h : x = l[i]
    · rw [if_pos h]
      exact ⟨(i : Int), rfl, by simp [← h]⟩
    · rw [if_neg h, w64 (by omega) (by omega), show ((i : Int) + 1) = ((i + 1 : Nat) : Int) from by omega]
      obtain ⟨r, h1, h2⟩ := ih k (i + 1) (by omega) (by omega)
      exact ⟨r, h1, by rw [h2]; simp [-List.getElem_cons_drop, h]⟩
theorem contains_eq {k : Nat} {l : List Int} {x : Int} (hl : l.length ≤ 4000000) (hk : l.length < k) : slices_Contains_int_int.f k l x = some (decide (x ∈ l)) := by
  unfold slices_Contains_int_int.f slices_Index_int_int.f
  obtain ⟨r, h1, h2⟩ := index_l0 l x hl l.length k 0 (by omega) hk
  rw [show ((0 : Nat) : Int) = 0 from rfl] at h1
  rw [h1, Option.bind_some, h2, List.drop_zero]


end Go.Proofs.Ytjbfcdeddnnnmaa.M
namespace Go.Proofs.Ytjbfcdeddnnnmaa.M
set_option linter.unusedVariables false
set_option linter.unusedSimpArgs false
open Go.RowKit Go.Proofs.YtjbfcdeddnnnmaaW.PrintWords Go.Proofs.Ytjbfcdeddnnnmaa.Pb

theorem isThread_eq (x : Int) : impl_isThread.f x = some (inB 0 3 x) := by
  unfold impl_isThread.f
  rw [in_eq, Option.bind_some]


end Go.Proofs.Ytjbfcdeddnnnmaa.M
namespace Go.Proofs.Ytjbfcdeddnnnmaa.M
set_option linter.unusedVariables false
set_option linter.unusedSimpArgs false
open Go.RowKit Go.Proofs.YtjbfcdeddnnnmaaW.PrintWords Go.Proofs.Ytjbfcdeddnnnmaa.Pb

theorem notThread_eq (x : Int) : impl_Fair_1.f x = some (!inB 0 3 x) := by
  unfold impl_Fair_1.f
  rw [isThread_eq, Option.bind_some]

theorem indexNotThread_l0 (l : List Int) (hl : l.length ≤ 4000000) (d : Nat) : ∀ (k i : Nat), i + d = l.length → d < k →
    ∃ r, slices_IndexFunc_int_int_F46.l0 k l (l.length : Int) (i : Int) = some r ∧ (decide (r ≥ 0)) = !((l.drop i).all (inB 0 3)) := by
  induction d with
  | zero =>
    intro k i hi hk
    obtain ⟨k, rfl⟩ : ∃ m, k = m + 1 := ⟨k - 1, by omega⟩
    refine ⟨-1, ?_, ?_⟩
    · simp only [slices_IndexFunc_int_int_F46.l0]
      rw [if_neg (by omega)]
    · rw [List.drop_of_length_le (by omega)]
      rfl
  | succ d ih =>
    intro k i hi hk
    obtain ⟨k, rfl⟩ : ∃ m, k = m + 1 := ⟨k - 1, by omega⟩
    simp only [slices_IndexFunc_int_int_F46.l0]
    rw [if_pos (by omega), if_pos (by omega), if_pos (by omega), rd_at l i (by omega), notThread_eq, Option.bind_some, drop_cons l i (by omega), List.all_cons]
    cases h : inB 0 3 l[i] with
    | true =>
      rw [w64 (by omega) (by omega), show ((i : Int) + 1) = ((i + 1 : Nat) : Int) from by omega, Bool.true_and]
      simp only [Bool.not_true, Bool.false_eq_true, if_false]
      exact ih k (i + 1) (by omega) (by omega)
    | false => exact ⟨(i : Int), by simp, by simp⟩

theorem anyNotThread_eq {k : Nat} {l : List Int} (hl : l.length ≤ 4000000) (hk : l.length < k) : slices_ContainsFunc_int_int_F46.f k l = some (!l.all (inB 0 3)) := by
  unfold slices_ContainsFunc_int_int_F46.f slices_IndexFunc_int_int_F46.f
  obtain ⟨r, hr, h⟩ := indexNotThread_l0 l hl l.length k 0 (by omega) hk
  rw [show ((0 : Nat) : Int) = 0 from rfl] at hr
  rw [hr, Option.bind_some, h, List.drop_zero]

/-- Some thread from t on, of d, doesn't run in the window at a. -/
def missR (l : List Int) (w a : Nat) : Nat → Nat → Bool
  | _, 0 => false
  | t, d + 1 => !decide ((t : Int) ∈ (l.take (a + w)).drop a) || missR l w a (t + 1) d
/-- The first window from a on, of d, in which some thread doesn't run. -/
def frR (l : List Int) (n w : Nat) : Nat → Nat → Int × Bool
  | _, 0 => (-1, true)
  | a, d + 1 => if missR l w a 0 n = true then ((a : Int), true) else frR l n w (a + 1) d
def fairR (l : List Int) (n w : Int) : Int × Bool :=
  if (decide (l.length ≤ 1500) && (inB 1 4 n && (inB 1 1500 w && l.all (inB 0 3)))) = true then frR l n.toNat w.toNat 0 (l.length + 1 - w.toNat) else (-2, false)

theorem implFair_l1 (l : List Int) (n w a : Nat) (hl : l.length ≤ 1500) (hn : n ≤ 4) (hw : w ≤ 1500) (ha : a + w ≤ l.length) (d : Nat) : ∀ (k t : Nat), t + d = n → 1500 < k →
    impl_Fair.l1 (k + d + 1) l (n : Int) (w : Int) (a : Int) (n : Int) (t : Int) = if missR l w a t d = true then some ((a : Int), true) else impl_Fair.l0 k l (n : Int) (w : Int) ((a + 1 : Nat) : Int) := by
  induction d with
  | zero =>
    intro k t ht hk
    rw [impl_Fair.l1, if_neg (by omega), w64 (by omega) (by omega)]
    simp [missR]
  | succ d ih =>
    intro k t ht hk
    have hlen : ((l.take (a + w)).drop a).length ≤ 1500 := by simp; omega
    have hw2 : wrap64 ((a : Int) + (w : Int)) = ((a + w : Nat) : Int) := w64 (by omega) (by omega)
    rw [show k + (d + 1) + 1 = (k + d + 1) + 1 from by omega, impl_Fair.l1, if_pos (by omega), if_pos (by omega), hw2, if_pos (by omega), if_pos (by omega), Int.toNat_natCast, Int.toNat_natCast, contains_eq (by omega) (by omega), Option.bind_some]
    rw [w64 (x := (t : Int) + 1) (by omega) (by omega), show ((t : Int) + 1) = ((t + 1 : Nat) : Int) from by omega, ih k (t + 1) (by omega) hk]
    simp only [missR]
    by_cases h : (t : Int) ∈ (l.take (a + w)).drop a
    · simp [h]
    · simp [h]
theorem implFair_l0 (l : List Int) (n w : Nat) (hl : l.length ≤ 1500) (hn : n ≤ 4) (hw : w ≤ 1500) (d : Nat) : ∀ (k a : Nat), d = l.length + 1 - w - a → 1500 + 10 * (d + 1) < k → a ≤ l.length + 1 →
    impl_Fair.l0 k l (n : Int) (w : Int) (a : Int) = some (frR l n w a d) := by
  induction d with
  | zero =>
    intro k a hd hk ha
    obtain ⟨k, rfl⟩ : ∃ m, k = m + 1 := ⟨k - 1, by omega⟩
    have hw2 : wrap64 ((a : Int) + (w : Int)) = ((a + w : Nat) : Int) := w64 (by omega) (by omega)
    rw [impl_Fair.l0, hw2, if_neg (by omega)]
    rfl
  | succ d ih =>
    intro k a hd hk ha
    obtain ⟨k, rfl⟩ : ∃ m, k = (m + n + 1) + 1 := ⟨k - n - 2, by omega⟩
    have hw2 : wrap64 ((a : Int) + (w : Int)) = ((a + w : Nat) : Int) := w64 (by omega) (by omega)
    have h1 := implFair_l1 l n w a hl hn hw (by omega) n k 0 (by omega) (by omega)
    rw [show ((0 : Nat) : Int) = 0 from rfl] at h1
    rw [impl_Fair.l0, hw2, if_pos (by omega), h1, ih k (a + 1) (by omega) (by omega) (by omega)]
    simp only [frR]
    split <;> rfl
theorem implFair_eq {k : Nat} {l : List Int} {n w : Int} (hl : l.length ≤ 4000000) (hk : l.length + 30000 < k) : impl_Fair.f k l n w = some (fairR l n w) := by
  obtain ⟨k, rfl⟩ : ∃ q, k = q + 1 := ⟨k - 1, by omega⟩
  have hj : impl_Fair.j0 (k + 1) l n w true = some (-2, false) := by simp [impl_Fair.j0]
  unfold impl_Fair.f fairR
  by_cases h0 : l.length ≤ 1500
  · rw [if_neg (by omega), in_eq, Option.bind_some, decide_eq_true h0, Bool.true_and]
    cases h1 : inB 1 4 n with
    | false => simp [hj]
    | true =>
      rw [if_pos rfl, in_eq, Option.bind_some, Bool.true_and]
      cases h2 : inB 1 1500 w with
      | false => simp [hj]
      | true =>
        rw [if_pos rfl, anyNotThread_eq hl (by omega), Option.bind_some, Bool.true_and]
        cases h3 : l.all (inB 0 3) with
        | false => simp [hj]
        | true =>
          simp only [inB, Bool.and_eq_true, decide_eq_true_eq] at h1 h2
          obtain ⟨n, rfl⟩ := Int.eq_ofNat_of_zero_le (show 0 ≤ n by omega)
          obtain ⟨w, rfl⟩ := Int.eq_ofNat_of_zero_le (show 0 ≤ w by omega)
          have h4 := implFair_l0 l n w h0 (by omega) (by omega) (l.length + 1 - w) k 0 (by omega) (by omega) (by omega)
          rw [impl_Fair.j0, if_neg (by simp), if_pos rfl, Int.toNat_natCast, Int.toNat_natCast]
          exact h4
  · rw [if_pos (by omega), hj, decide_eq_false h0]
    simp

/-- The last place below i at which t runs, or -1. -/
def lastR (l : List Int) (t : Int) : Nat → Int
  | 0 => -1
  | i + 1 => if rd l i = t then (i : Int) else lastR l t i
theorem lastR_rng (l : List Int) (t : Int) : ∀ i : Nat, -1 ≤ lastR l t i ∧ lastR l t i < (i : Int)
  | 0 => by simp [lastR]
  | i + 1 => by
    have h := lastR_rng l t i
    simp only [lastR]
    split <;> omega
theorem lastR_lt (l : List Int) (t : Int) (a : Nat) : ∀ m : Nat, lastR l t m < (a : Int) ↔ ∀ j : Nat, a ≤ j → j < m → rd l j ≠ t
  | 0 => by simp [lastR]; omega
  | m + 1 => by
    have h := lastR_lt l t a m
    simp only [lastR]
    by_cases e : rd l m = t
    · rw [if_pos e]
      constructor
      · intro h1 j h2 h3; omega
      · intro h1
        apply Int.not_le.1
        intro h2
        exact h1 m (by omega) (by omega) e
    · rw [if_neg e, h]
      constructor
      · intro h1 j h2 h3
        by_cases hj : j = m
        · subst hj; exact e
        · exact h1 j h2 (by omega)
      · intro h1 j h2 h3; exact h1 j h2 (by omega)
theorem mem_win (l : List Int) (a w : Nat) (t : Int) (h : a + w ≤ l.length) : t ∈ (l.take (a + w)).drop a ↔ ∃ j : Nat, a ≤ j ∧ j < a + w ∧ rd l j = t := by
  rw [List.mem_iff_getElem]
  constructor
  · rintro ⟨i, hi, e⟩
    simp only [List.length_drop, List.length_take] at hi
    refine ⟨a + i, by omega, by omega, ?_⟩
    rw [rd_at l (a + i) (by omega), ← e]
    simp
  · rintro ⟨j, h1, h2, e⟩
    refine ⟨j - a, by simp; omega, ?_⟩
    rw [rd_at l j (by omega)] at e
    rw [← e]
    simp only [List.getElem_drop, List.getElem_take]
    congr 1
    omega

/-- Some thread from t on, of d, hasn't run for w steps at i. -/
def hitR (l : List Int) (w i : Nat) : Nat → Nat → Bool
  | _, 0 => false
  | t, d + 1 => decide ((i : Int) - lastR l t (i + 1) ≥ (w : Int)) || hitR l w i (t + 1) d
theorem hitR_eq (l : List Int) (w i : Nat) (hi : i < l.length) (hw : 1 ≤ w) (d : Nat) : ∀ t : Nat, hitR l w i t d = if w ≤ i + 1 then missR l w (i + 1 - w) t d else false := by
  induction d with
  | zero => intro t; simp [hitR, missR]
  | succ d ih =>
    intro t
    simp only [hitR, missR]
    rw [ih]
    by_cases h : w ≤ i + 1
    · rw [if_pos h, if_pos h]
      congr 1
      rw [← decide_not]
      apply decide_eq_decide.2
      rw [mem_win l (i + 1 - w) w t (by omega)]
      have h1 := lastR_lt l t (i + 1 - w) (i + 1)
      constructor
      · intro h2 ⟨j, h3, h4, e⟩
        exact (h1.1 (by omega)) j h3 (by omega) e
      · intro h2
        have := h1.2 (fun j h3 h4 e => h2 ⟨j, h3, by omega, e⟩)
        omega
    · rw [if_neg h, if_neg h, Bool.or_false]
      have := lastR_rng l t (i + 1)
      apply decide_eq_false
      omega

def lastsR (l : List Int) (n i : Nat) : List Int := (List.range n).map (fun t : Nat => lastR l (t : Int) i)
theorem lastsR_len (l : List Int) (n i : Nat) : (lastsR l n i).length = n := by simp [lastsR]
theorem rd_lastsR (l : List Int) (n i t : Nat) (h : t < n) : rd (lastsR l n i) (t : Int) = lastR l t i := by
  rw [rd_at _ t (by rw [lastsR_len]; exact h)]
  simp [lastsR]
theorem lastsR_set (l : List Int) (n i q : Nat) (hq : rd l i = (q : Int)) : (lastsR l n i).set q (i : Int) = lastsR l n (i + 1) := by
  apply List.ext_getElem
  · simp [lastsR_len]
  · intro j h1 h2
    rw [lastsR_len] at h2
    simp only [List.getElem_set, lastsR, List.getElem_map, List.getElem_range, lastR]
    by_cases e : q = j
    · subst e; simp [hq]
    · rw [if_neg e, if_neg (by rw [hq]; omega)]
theorem lastsR_not (l : List Int) (n i : Nat) (hq : ¬ rd l i < (n : Int)) : lastsR l n i = lastsR l n (i + 1) := by
  apply List.ext_getElem
  · simp [lastsR_len]
  · intro j h1 h2
    rw [lastsR_len] at h1 h2
    simp only [lastsR, List.getElem_map, List.getElem_range, lastR]
    rw [if_neg (by omega)]

theorem specFair_l2 (l : List Int) (n w i : Nat) (hl : l.length ≤ 1500) (hn : n ≤ 4) (hw : w ≤ 1500) (hi : i < l.length) (d : Nat) : ∀ (k t : Nat), t + d = n →
    spec_Fair.l2 (k + d + 1) l (n : Int) (w : Int) (lastsR l n (i + 1)) (i : Int) (t : Int) = if hitR l w i t d = true then some ((i : Int) - (w : Int) + 1, true) else spec_Fair.l1 k l (n : Int) (w : Int) (lastsR l n (i + 1)) ((i + 1 : Nat) : Int) := by
  induction d with
  | zero =>
    intro k t ht
    rw [spec_Fair.l2, if_neg (by omega), w64 (by omega) (by omega)]
    simp [hitR]
  | succ d ih =>
    intro k t ht
    have hr := lastR_rng l t (i + 1)
    rw [show k + (d + 1) + 1 = (k + d + 1) + 1 from by omega, spec_Fair.l2, if_pos (by omega), if_pos (by omega), lastsR_len, if_pos (by omega), rd_lastsR l n (i + 1) t (by omega), w64 (x := (i : Int) - lastR l t (i + 1)) (by omega) (by omega), w64 (x := (t : Int) + 1) (by omega) (by omega), w64 (x := (i : Int) - (w : Int)) (by omega) (by omega), w64 (x := (i : Int) - (w : Int) + 1) (by omega) (by omega), show ((t : Int) + 1) = ((t + 1 : Nat) : Int) from by omega, ih k (t + 1) (by omega)]
    by_cases h : (i : Int) - lastR l t (i + 1) ≥ (w : Int)
    · have e : hitR l w i t (d + 1) = true := by simp only [hitR, decide_eq_true h, Bool.true_or]
      rw [if_pos h, e, if_pos rfl]
    · have e : hitR l w i t (d + 1) = hitR l w i (t + 1) d := by simp only [hitR, decide_eq_false h, Bool.false_or]
      rw [if_neg h, e]
theorem specFair_l1 (l : List Int) (n w : Nat) (hl : l.length ≤ 1500) (hn : n ≤ 4) (hw : w ≤ 1500) (hw1 : 1 ≤ w) (hall : l.all (inB 0 3) = true) (d : Nat) : ∀ (k i : Nat), i + d = l.length → 10 * (d + 1) < k →
    spec_Fair.l1 k l (n : Int) (w : Int) (lastsR l n i) (i : Int) = some (frR l n w (i + 1 - w) (l.length + 1 - w - (i + 1 - w))) := by
  induction d with
  | zero =>
    intro k i hi hk
    obtain ⟨k, rfl⟩ : ∃ m, k = m + 1 := ⟨k - 1, by omega⟩
    rw [spec_Fair.l1, if_neg (by omega)]
    rw [show l.length + 1 - w - (i + 1 - w) = 0 from by omega]
    rfl
  | succ d ih =>
    intro k i hi hk
    obtain ⟨k, rfl⟩ : ∃ m, k = (m + n + 1) + 1 + 1 := ⟨k - n - 3, by omega⟩
    have hb : 0 ≤ rd l i ∧ rd l i ≤ 3 := by
      rw [rd_at l i (by omega)]
      have := List.all_eq_true.1 hall l[i] (List.getElem_mem _)
      simpa [inB] using this
    have hj3 : spec_Fair.j3 ((k + n + 1) + 1) l (n : Int) (w : Int) (lastsR l n (i + 1)) (i : Int) = some (frR l n w (i + 1 - w) (l.length + 1 - w - (i + 1 - w))) := by
      have h2 := specFair_l2 l n w i hl hn hw (by omega) n k 0 (by omega)
      rw [show ((0 : Nat) : Int) = 0 from rfl] at h2
      rw [spec_Fair.j3, h2, hitR_eq l w i (by omega) hw1, ih k (i + 1) (by omega) (by omega)]
      by_cases h : w ≤ i + 1
      · rw [if_pos h]
        rw [show l.length + 1 - w - (i + 1 - w) = (l.length + 1 - w - (i + 1 + 1 - w)) + 1 from by omega, show i + 1 + 1 - w = (i + 1 - w) + 1 from by omega]
        simp only [frR]
        split
        · congr 2
          omega
        · rfl
      · rw [if_neg h, if_neg (by simp), show i + 1 + 1 - w = i + 1 - w from by omega]
    rw [spec_Fair.l1, if_pos (by omega), if_pos (by omega)]
    by_cases h : rd l i < (n : Int)
    · obtain ⟨q, hq⟩ := Int.eq_ofNat_of_zero_le hb.1
      rw [if_pos h, if_pos hb.1, lastsR_len, if_pos h]
      have e : (rd l i).toNat = q := by rw [hq]; rfl
      rw [e, lastsR_set l n i q hq]
      exact hj3
    · rw [if_neg h, lastsR_not l n i h]
      exact hj3
theorem specFair_l0 (l : List Int) (n w : Int) (d : Nat) : ∀ (k i : Nat), ((i + d : Nat) : Int) = n → n ≤ 4 → spec_Fair.l0 (k + d + 1) l n w (List.replicate i (-1) ++ List.replicate d 0) (i : Int) = spec_Fair.l1 k l n w (List.replicate (i + d) (-1)) 0 := by
  induction d with
  | zero =>
    intro k i hi hn
    rw [spec_Fair.l0, if_neg (by omega)]
    simp
  | succ d ih =>
    intro k i hi hn
    rw [show k + (d + 1) + 1 = (k + d + 1) + 1 from by omega, spec_Fair.l0, if_pos (by omega), if_pos (by omega), if_pos (by simp; omega), w64 (by omega) (by omega), show ((i : Int) + 1) = ((i + 1 : Nat) : Int) from by omega, Int.toNat_natCast]
    have e : (List.replicate i (-1 : Int) ++ List.replicate (d + 1) 0).set i (-1) = List.replicate (i + 1) (-1) ++ List.replicate d 0 := by
      apply List.ext_getElem
      · simp; omega
      · intro j h1 h2
        simp only [List.getElem_set, List.getElem_append, List.length_replicate, List.getElem_replicate]
        repeat' split
        all_goals first | rfl | omega
    rw [e, ih k (i + 1) (by omega) hn]
    congr 1
    congr 1
    omega
theorem specFair_eq {k : Nat} {l : List Int} {n w : Int} (hl : l.length ≤ 4000000) (hk : l.length + 30000 < k) : spec_Fair.f k l n w = some (fairR l n w) := by
  obtain ⟨k, rfl⟩ : ∃ q, k = q + 1 := ⟨k - 1, by omega⟩
  have hj : spec_Fair.j0 (k + 1) l n w true = some (-2, false) := by simp [spec_Fair.j0]
  unfold spec_Fair.f fairR
  by_cases h0 : l.length ≤ 1500
  · rw [if_neg (by omega), l1All_eq hl (by omega), Option.bind_some, decide_eq_true h0, Bool.true_and]
    cases h3 : l.all (inB 0 3) with
    | false => simp [hj]
    | true =>
      rw [if_pos rfl, l1In_eq, Option.bind_some]
      cases h1 : inB 1 4 n with
      | false => simp [hj]
      | true =>
        rw [if_pos rfl, l1In_eq, Option.bind_some, Bool.true_and]
        cases h2 : inB 1 1500 w with
        | false => simp [hj]
        | true =>
          simp only [inB, Bool.and_eq_true, decide_eq_true_eq] at h1 h2
          obtain ⟨n, rfl⟩ := Int.eq_ofNat_of_zero_le (show 0 ≤ n by omega)
          obtain ⟨w, rfl⟩ := Int.eq_ofNat_of_zero_le (show 0 ≤ w by omega)
          obtain ⟨k, rfl⟩ : ∃ q, k = q + n + 1 := ⟨k - n - 1, by omega⟩
          rw [spec_Fair.j0, if_neg (by simp), if_pos (by omega), Int.toNat_natCast, if_pos (by omega), Bool.and_self, if_pos rfl, Int.toNat_natCast]
          have h4 := specFair_l0 l n w n k 0 (by omega) (by omega)
          rw [List.replicate_zero, List.nil_append, Nat.zero_add] at h4
          have h5 := specFair_l1 l n w h0 (by omega) (by omega) (by omega) h3 l.length k 0 (by omega) (by omega)
          have h6 : lastsR l n 0 = List.replicate n (-1) := by
            apply List.ext_getElem
            · simp [lastsR_len]
            · intro j a b; simp [lastsR, lastR]
          rw [h6] at h5
          rw [show ((0 : Nat) : Int) = 0 from rfl] at h4 h5
          rw [h4, h5, show 0 + 1 - w = 0 from by omega]
          rfl
  · rw [if_pos (by omega), hj, decide_eq_false h0]
    simp


end Go.Proofs.Ytjbfcdeddnnnmaa.M
namespace Go.Proofs.Ytjbfcdeddnnnmaa.Pure
set_option linter.unusedVariables false
set_option linter.unusedSimpArgs false
open Go.RowKit Go.Proofs.Ytjbfcdeddnnnmaa.M Go.Proofs.YtjbfcdeddnnnmaaW.PrintWords Go.Proofs.Ytjbfcdeddnnnmaa.Pb


theorem FnExactFair : laws_FnExactFair.Pure := by
  intro m a b _ _ _
  obtain ⟨k, hk⟩ : ∃ k : Nat, 30000000 < k := ⟨30000001, by omega⟩
  refine ⟨k + 3, ?_⟩
  unfold laws_FnExactFair.f
  by_cases h0 : (m.length : Int) > 1048576
  · rw [if_pos h0]
  · rw [if_neg h0]
    (repeat (first | rw [if_pos rfl] | rw [if_neg Bool.false_ne_true] | rw [toIntS_eq (by omega) (by omega)] | rw [eqIntS_refl (by omega) (by omega)] | rw [specFair_eq (by omega) (by omega)] | rw [implFair_eq (by omega) (by omega)] | (simp only [Option.bind_some, bne_self_eq_false, if_true, Bool.false_eq_true, if_false])))
    rw [laws_FnExactFair.j0]
    (repeat (first | rw [if_pos rfl] | rw [if_neg Bool.false_ne_true] | rw [toIntS_eq (by omega) (by omega)] | rw [eqIntS_refl (by omega) (by omega)] | rw [specFair_eq (by omega) (by omega)] | rw [implFair_eq (by omega) (by omega)] | (simp only [Option.bind_some, bne_self_eq_false, if_true, Bool.false_eq_true, if_false])))


end Go.Proofs.Ytjbfcdeddnnnmaa.Pure
