/- The pure statement of FnExactSteps and what it needs. Conditions: those that each theorem states. -/
import Derived.Test.YtjbfcdeddnnnmaaVFnExactSteps0
import Derived.RowKit
import Derived.Test.YtjbfcdeddnnnmaaWWords
namespace Go.Proofs.Ytjbfcdeddnnnmaa.Pb
open Go.RowKit Go.Proofs.YtjbfcdeddnnnmaaW.PrintWords

theorem w64 {x : Int} (h0 : -9223372036854775808 ≤ x) (h1 : x ≤ 9223372036854775807) : wrap64 x = x := by
  unfold wrap64
  omega

theorem set_take {α : Type} (x : List α) (v : α) (i : Nat) (h : i < x.length) : (x.set i v).take (i + 1) = x.take i ++ [v] := by
  rw [List.take_succ_eq_append_getElem (by simpa using h)]
  rw [List.take_set_of_le (Nat.le_refl i)]
  simp

/-- The same where each element is turned into another kind. -/
theorem copy_step_map {α β : Type} (f : α → β) (x : List β) (l : List α) (i : Nat) (h : i < l.length) (hx : i < x.length) :
    (x.set i (f l[i])).take (i + 1) ++ (l.drop (i + 1)).map f = x.take i ++ (l.drop i).map f := by
  rw [set_take x (f l[i]) i hx, List.drop_eq_getElem_cons h, List.append_assoc]
  rfl

theorem drop_cons {α : Type} (l : List α) (i : Nat) (h : i < l.length) : l.drop i = l[i] :: l.drop (i + 1) := List.drop_eq_getElem_cons h


end Go.Proofs.Ytjbfcdeddnnnmaa.Pb
namespace Go.Proofs.Ytjbfcdeddnnnmaa.M
set_option linter.unusedVariables false
set_option linter.unusedSimpArgs false
open Go.RowKit Go.Proofs.YtjbfcdeddnnnmaaW.PrintWords Go.Proofs.Ytjbfcdeddnnnmaa.Pb

theorem eqIntS_l0 (l : List Int) (hl : l.length ≤ 4000000) (d : Nat) : ∀ (k i : Nat), i + d = l.length → d < k → laws_eqIntS.l0 k l l (i : Int) = some true := by
  induction d with
  | zero =>
    intro k i hi hk
    obtain ⟨k, rfl⟩ : ∃ m, k = m + 1 := ⟨k - 1, by omega⟩
    simp only [laws_eqIntS.l0]
    rw [if_neg (by omega)]
  | succ d ih =>
    intro k i hi hk
    obtain ⟨k, rfl⟩ : ∃ m, k = m + 1 := ⟨k - 1, by omega⟩
    simp only [laws_eqIntS.l0]
    rw [if_pos (by omega), if_pos (by omega), if_pos (by omega), if_pos trivial, w64 (by omega) (by omega), show ((i : Int) + 1) = ((i + 1 : Nat) : Int) from by omega]
    exact ih k (i + 1) (by omega) (by omega)

theorem eqIntS_refl {k : Nat} {l : List Int} (hl : l.length ≤ 4000000) (hk : l.length < k) : laws_eqIntS.f k l l = some true := by
  unfold laws_eqIntS.f
  rw [if_pos rfl]
  exact eqIntS_l0 l hl l.length k 0 (by omega) hk

/-- All of a list within bounds. -/
def inB (a b x : Int) : Bool := decide (a ≤ x) && decide (x ≤ b)

theorem l1In_eq (x a b : Int) : spec_l1In.f x a b = some (inB a b x) := by
  unfold spec_l1In.f inB
  by_cases h : x ≥ a
  · rw [if_pos h, decide_eq_true (show a ≤ x from h), Bool.true_and]
  · rw [if_neg h, decide_eq_false (show ¬ a ≤ x from h), Bool.false_and]

theorem in_eq (x a b : Int) : impl_in.f x a b = some (inB a b x) := by
  unfold impl_in.f inB
  by_cases h : a ≤ x
  · rw [if_pos h, decide_eq_true h, Bool.true_and]
  · rw [if_neg h, decide_eq_false h, Bool.false_and]


end Go.Proofs.Ytjbfcdeddnnnmaa.M
namespace Go.Proofs.Ytjbfcdeddnnnmaa.M
set_option linter.unusedSimpArgs false
open Go.RowKit Go.Proofs.YtjbfcdeddnnnmaaW.PrintWords Go.Proofs.Ytjbfcdeddnnnmaa.Pb

theorem rd_mid (p q : List Int) (y : Int) : rd (p ++ y :: q) ((p.length : Nat) : Int) = y := by
  simp [rd, List.getD_eq_getElem?_getD]
def mkLInt : Int → Nat → List Int
  | _, 0 => []
  | a, m + 1 => a :: mkLInt (a + 1) m
theorem mkLInt_len : ∀ (m : Nat) (a : Int), (mkLInt a m).length = m
  | 0, _ => rfl
  | m + 1, a => by simp [mkLInt, mkLInt_len m]
theorem markIntS_l0 (d : Nat) : ∀ (k i : Nat) (a : Int) (x : List Int), x.length ≤ 4000000 → i + d = x.length → d < k → 0 ≤ a → a + d ≤ 1099511627776 → laws_markIntS.l0 k x a (i : Int) = some (a + d, x.take i ++ mkLInt a d) := by
  induction d with
  | zero =>
    intro k i a x hl hi hk h0 h1
    obtain ⟨k, rfl⟩ : ∃ m, k = m + 1 := ⟨k - 1, by omega⟩
    simp only [laws_markIntS.l0]
    rw [if_neg (by omega), List.take_of_length_le (by omega)]
    simp [mkLInt]
  | succ d ih =>
    intro k i a x hl hi hk h0 h1
    obtain ⟨k, rfl⟩ : ∃ m, k = m + 1 := ⟨k - 1, by omega⟩
    simp only [laws_markIntS.l0]
    have ei : wrap64 ((i : Int) + 1) = ((i + 1 : Nat) : Int) := by
      rw [w64 (by omega) (by omega)]
      omega
    have hx : i < x.length := by omega
    rw [if_pos (by omega), if_pos (by omega), w64 (x := a + 1) (by omega) (by omega), ei, Int.toNat_natCast,
      ih k (i + 1) (a + 1) _ (by simpa using hl) (by simp; omega) (by omega) (by omega) (by omega), set_take _ _ _ hx, List.append_assoc]
    refine congrArg some (Prod.ext ?_ rfl)
    show a + 1 + (d : Int) = a + ((d + 1 : Nat) : Int)
    omega
theorem markIntS_eq {k : Nat} {x : List Int} {a : Int} (hl : x.length ≤ 4000000) (hk : x.length < k) (h0 : 0 ≤ a) (h1 : a ≤ 549755813888) : laws_markIntS.f k x a = some (a + x.length, mkLInt a x.length) := by
  unfold laws_markIntS.f
  have h := markIntS_l0 x.length k 0 a x hl (by omega) hk h0 (by omega)
  rw [List.take_zero, List.nil_append] at h
  exact h
theorem heldIntS_l0 (d : Nat) : ∀ (k : Nat) (a : Int) (p : List Int), p.length + d ≤ 4000000 → d < k → 0 ≤ a → a + d ≤ 1099511627776 → laws_heldIntS.l0 k (p ++ mkLInt a d) a ((p.length : Nat) : Int) = some (a + d) := by
  induction d with
  | zero =>
    intro k a p hl hk h0 h1
    obtain ⟨k, rfl⟩ : ∃ m, k = m + 1 := ⟨k - 1, by omega⟩
    simp only [laws_heldIntS.l0]
    rw [if_neg (by simp [mkLInt])]
    simp
  | succ d ih =>
    intro k a p hl hk h0 h1
    obtain ⟨k, rfl⟩ : ∃ m, k = m + 1 := ⟨k - 1, by omega⟩
    simp only [laws_heldIntS.l0]
    have ei : wrap64 ((p.length : Int) + 1) = ((p.length + 1 : Nat) : Int) := by
      rw [w64 (by omega) (by omega)]
      omega
    have ea : wrap64 (a + 1) = a + 1 := w64 (by omega) (by omega)
    have hlen : ((p ++ mkLInt a (d + 1)).length : Int) = p.length + d + 1 := by
      simp [mkLInt_len]
      omega
    rw [if_pos (by omega), if_pos (by omega)]
    simp only [mkLInt, rd_mid, ea, ei, if_true]
    have h := ih k (a + 1) (p ++ [a]) (by simp; omega) (by omega) (by omega) (by omega)
    rw [List.append_assoc, List.length_append] at h
    simp only [List.singleton_append, List.length_singleton] at h
    rw [h]
    refine congrArg some ?_
    omega
theorem heldIntS_eq {k : Nat} {m : Nat} {a : Int} (hl : m ≤ 4000000) (hk : m < k) (h0 : 0 ≤ a) (h1 : a ≤ 549755813888) : laws_heldIntS.f k (mkLInt a m) a = some (a + m) := by
  unfold laws_heldIntS.f
  exact heldIntS_l0 m k a [] (by simpa using hl) hk h0 (by omega)


end Go.Proofs.Ytjbfcdeddnnnmaa.M
namespace Go.Proofs.Ytjbfcdeddnnnmaa.M
set_option linter.unusedSimpArgs false
open Go.RowKit Go.Proofs.YtjbfcdeddnnnmaaW.PrintWords Go.Proofs.Ytjbfcdeddnnnmaa.Pb

def cvRun (x : S60) : S58 := ⟨x.f0, x.f1⟩
theorem rdT60_at (l : List S60) (i : Nat) (h : i < l.length) : rd_T60 l (i : Int) = l[i] := by
  simp [rd_T60, List.getD_eq_getElem?_getD, List.getElem?_eq_getElem h]
theorem rdT58_at (l : List S58) (i : Nat) (h : i < l.length) : rd_T58 l (i : Int) = l[i] := by
  simp [rd_T58, List.getD_eq_getElem?_getD, List.getElem?_eq_getElem h]
theorem rdT58_set (l : List S58) (i : Nat) (y : S58) (h : i < l.length) : rd_T58 (l.set i y) (i : Int) = y := by
  simp [rd_T58, List.getD_eq_getElem?_getD, h]
theorem szRunS_eq {l : List S60} {a : Int} (hl : l.length ≤ maxLen) (ha : 0 ≤ a ∧ a ≤ 1048576) : laws_szRunS.f l a = some (if a - (l.length : Int) < 0 then -1 else a - (l.length : Int)) := by
  unfold laws_szRunS.f
  have hm : l.length ≤ 9223372036854775807 := hl
  rw [w64 (by omega) (by omega)]
  by_cases h : a - (l.length : Int) < 0
  · rw [if_pos h, if_pos h]
  · rw [if_neg h, if_neg h]
theorem toRunS_l0 (l : List S60) (hl : l.length ≤ 4000000) (d : Nat) : ∀ (k i : Nat) (x : List S58), i + d = l.length → d < k → x.length = l.length → laws_toRunS.l0 k l x (i : Int) = some (x.take i ++ (l.drop i).map cvRun) := by
  induction d with
  | zero =>
    intro k i x hi hk hx
    obtain ⟨k, rfl⟩ : ∃ m, k = m + 1 := ⟨k - 1, by omega⟩
    simp only [laws_toRunS.l0]
    rw [if_neg (by omega), List.take_of_length_le (by omega), List.drop_of_length_le (by omega), List.map_nil, List.append_nil]
  | succ d ih =>
    intro k i x hi hk hx
    obtain ⟨k, rfl⟩ : ∃ m, k = m + 1 := ⟨k - 1, by omega⟩
    simp only [laws_toRunS.l0]
    rw [if_pos (by omega), if_pos (by omega)]
    simp only [laws_toRun.f, Option.bind_some]
    rw [if_pos (by omega), w64 (by omega) (by omega), rdT60_at l i (by omega), Int.toNat_natCast,
      show ((i : Int) + 1) = ((i + 1 : Nat) : Int) from by omega, ih k (i + 1) _ (by omega) (by omega) (by simp [hx])]
    exact congrArg some (copy_step_map cvRun x l i (by omega) (by omega))
theorem toRunS_eq {k : Nat} {l : List S60} (hl : l.length ≤ 4000000) (hk : l.length < k) : laws_toRunS.f k l = some (l.map cvRun) := by
  unfold laws_toRunS.f
  rw [if_pos (by omega), if_pos (by omega)]
  have h := toRunS_l0 l hl l.length k 0 (List.replicate ((l.length : Int) : Int).toNat z58) (by omega) hk (by simp)
  rw [List.take_zero, List.drop_zero, List.nil_append] at h
  exact h
theorem eqRun_refl (a0 : Int) (a1 : Int) : laws_eqRun.f a0 a1 a0 a1 = some true := by
  simp [laws_eqRun.f]
theorem eqRunS_l0 (l : List S58) (hl : l.length ≤ 4000000) (d : Nat) : ∀ (k i : Nat), i + d = l.length → d < k → laws_eqRunS.l0 k l l (i : Int) = some true := by
  induction d with
  | zero =>
    intro k i hi hk
    obtain ⟨k, rfl⟩ : ∃ m, k = m + 1 := ⟨k - 1, by omega⟩
    simp only [laws_eqRunS.l0]
    rw [if_neg (by omega)]
  | succ d ih =>
    intro k i hi hk
    obtain ⟨k, rfl⟩ : ∃ m, k = m + 1 := ⟨k - 1, by omega⟩
    simp only [laws_eqRunS.l0]
    rw [if_pos (by omega), if_pos (by omega), if_pos (by omega), eqRun_refl, Option.bind_some, if_pos rfl, w64 (by omega) (by omega), show ((i : Int) + 1) = ((i + 1 : Nat) : Int) from by omega]
    exact ih k (i + 1) (by omega) (by omega)
theorem eqRunS_refl {k : Nat} {l : List S58} (hl : l.length ≤ 4000000) (hk : l.length < k) : laws_eqRunS.f k l l = some true := by
  unfold laws_eqRunS.f
  rw [if_pos rfl]
  exact eqRunS_l0 l hl l.length k 0 (by omega) hk
def mkRun (a : Int) : S58 := ⟨(a), (a + 1)⟩
def mkLRun : Int → Nat → List S58
  | _, 0 => []
  | a, m + 1 => mkRun a :: mkLRun (a + 1 + 1) m
theorem markRunS_l0 (d : Nat) : ∀ (k i : Nat) (a : Int) (x : List S58), x.length ≤ 4000000 → i + d = x.length → d < k → 0 ≤ a → a + 2 * d ≤ 1099511627776 → laws_markRunS.l0 k x a (i : Int) = some (a + 2 * d, x.take i ++ mkLRun a d) := by
  induction d with
  | zero =>
    intro k i a x hl hi hk h0 h1
    obtain ⟨k, rfl⟩ : ∃ m, k = m + 1 := ⟨k - 1, by omega⟩
    simp only [laws_markRunS.l0]
    rw [if_neg (by omega), List.take_of_length_le (by omega)]
    simp [mkLRun]
  | succ d ih =>
    intro k i a x hl hi hk h0 h1
    obtain ⟨k, rfl⟩ : ∃ m, k = m + 1 := ⟨k - 1, by omega⟩
    simp only [laws_markRunS.l0]
    have e0 : wrap64 (a + 1) = a + 1 := w64 (by omega) (by omega)
    have e1 : wrap64 (a + 1 + 1) = a + 1 + 1 := w64 (by omega) (by omega)
    have ei : wrap64 ((i : Int) + 1) = ((i + 1 : Nat) : Int) := by
      rw [w64 (by omega) (by omega)]
      omega
    have hx : i < x.length := by omega
    rw [if_pos (by omega), if_pos (by omega)]
    simp only [Option.bind_some, Int.toNat_natCast, List.set_set, rdT58_set, List.length_set, hx, e0, e1, ei]
    have hd : ((d + 1 : Nat) : Int) = (d : Int) + 1 := by omega
    refine Eq.trans (ih k (i + 1) (a + 1 + 1) (x.set i (mkRun a)) (by simpa using hl) (by simp; omega) (by omega) (by omega) (by omega)) ?_
    rw [set_take _ _ _ hx, List.append_assoc]
    refine congrArg some (Prod.ext ?_ rfl)
    show a + 1 + 1 + 2 * (d : Int) = a + 2 * ((d + 1 : Nat) : Int)
    omega
theorem markRunS_eq {k : Nat} {x : List S58} {a : Int} (hl : x.length ≤ 4000000) (hk : x.length < k) (h0 : 0 ≤ a) (h1 : a ≤ 549755813888) : laws_markRunS.f k x a = some (a + 2 * x.length, mkLRun a x.length) := by
  unfold laws_markRunS.f
  have h := markRunS_l0 x.length k 0 a x hl (by omega) hk h0 (by omega)
  rw [List.take_zero, List.nil_append] at h
  exact h


end Go.Proofs.Ytjbfcdeddnnnmaa.M
namespace Go.Proofs.Ytjbfcdeddnnnmaa.M
set_option linter.unusedVariables false
set_option linter.unusedSimpArgs false
open Go.RowKit Go.Proofs.YtjbfcdeddnnnmaaW.PrintWords Go.Proofs.Ytjbfcdeddnnnmaa.Pb

theorem isThread_eq (x : Int) : impl_isThread.f x = some (inB 0 3 x) := by
  unfold impl_isThread.f
  rw [in_eq, Option.bind_some]

/-- The loop of ScheduleOk: what is left, and the sum so far. The answer of the specification's side may be no sooner than the other's. -/
def runsR : Int → List S58 → Bool
  | a, [] => decide (a ≤ 1500)
  | a, r :: l => inB 0 3 r.f0 && (inB 1 500 r.f1 && runsR (a + r.f1) l)
theorem runsR_big : ∀ (l : List S58) (a : Int), 1500 < a → runsR a l = false
  | [], a, h => by simp [runsR]; omega
  | r :: l, a, h => by
    simp only [runsR]
    cases h1 : inB 1 500 r.f1 with
    | false => simp
    | true =>
      simp only [inB, Bool.and_eq_true, decide_eq_true_eq] at h1
      rw [runsR_big l (a + r.f1) (by omega)]
      simp
def schedR (l : List S58) : Bool := decide (l.length ≤ 60) && runsR 0 l
theorem specSched_l0 (l : List S58) (hl : l.length ≤ 4000000) (d : Nat) : ∀ (k i : Nat) (a : Int), i + d = l.length → d < k → 0 ≤ a → a ≤ 2000 → spec_ScheduleOk.l0 k l a (i : Int) = some (decide (l.length ≤ 60) && runsR a (l.drop i)) := by
  induction d with
  | zero =>
    intro k i a hi hk h0 h1
    obtain ⟨k, rfl⟩ : ∃ m, k = m + 1 := ⟨k - 1, by omega⟩
    rw [spec_ScheduleOk.l0, if_neg (by omega), List.drop_of_length_le (by omega)]
    by_cases h : l.length ≤ 60
    · rw [if_pos (by omega), decide_eq_true h, Bool.true_and]; rfl
    · rw [if_neg (by omega), decide_eq_false h, Bool.false_and]
  | succ d ih =>
    intro k i a hi hk h0 h1
    obtain ⟨k, rfl⟩ : ∃ m, k = m + 1 := ⟨k - 1, by omega⟩
    rw [spec_ScheduleOk.l0, if_pos (by omega), if_pos (by omega), rdT58_at l i (by omega), drop_cons l i (by omega), l1In_eq, Option.bind_some]
    simp only [runsR]
    cases h2 : inB 0 3 l[i].f0 with
    | false => simp
    | true =>
      rw [if_pos rfl, l1In_eq, Option.bind_some]
      cases h3 : inB 1 500 l[i].f1 with
      | false => simp
      | true =>
        simp only [inB, Bool.and_eq_true, decide_eq_true_eq] at h3
        rw [if_pos rfl, Bool.true_and, Bool.true_and]
        by_cases h4 : a > 1500
        · rw [if_pos h4, runsR_big _ _ (by omega), Bool.and_false]
        · rw [if_neg h4, w64 (x := (i : Int) + 1) (by omega) (by omega), w64 (x := a + l[i].f1) (by omega) (by omega), show ((i : Int) + 1) = ((i + 1 : Nat) : Int) from by omega, ih k (i + 1) _ (by omega) (by omega) (by omega) (by omega)]
theorem implSched_l0 (l : List S58) (hl : l.length ≤ 4000000) (d : Nat) : ∀ (k i : Nat) (a : Int), i + d = l.length → d < k → 0 ≤ a → a ≤ 500 * (i : Int) → impl_ScheduleOk.l0 k l a l (l.length : Int) (i : Int) = some (decide (l.length ≤ 60) && runsR a (l.drop i)) := by
  induction d with
  | zero =>
    intro k i a hi hk h0 h1
    obtain ⟨k, rfl⟩ : ∃ m, k = m + 1 := ⟨k - 1, by omega⟩
    rw [impl_ScheduleOk.l0, if_neg (by omega), List.drop_of_length_le (by omega)]
    by_cases h : l.length ≤ 60
    · rw [if_pos (by omega), decide_eq_true h, Bool.true_and]; rfl
    · rw [if_neg (by omega), decide_eq_false h, Bool.false_and]
  | succ d ih =>
    intro k i a hi hk h0 h1
    obtain ⟨k, rfl⟩ : ∃ m, k = m + 1 := ⟨k - 1, by omega⟩
    rw [impl_ScheduleOk.l0, if_pos (by omega), if_pos (by omega), if_pos (by omega), rdT58_at l i (by omega), drop_cons l i (by omega), isThread_eq, Option.bind_some]
    simp only [runsR]
    cases h2 : inB 0 3 l[i].f0 with
    | false => simp
    | true =>
      rw [if_pos rfl, in_eq, Option.bind_some]
      cases h3 : inB 1 500 l[i].f1 with
      | false => simp
      | true =>
        simp only [inB, Bool.and_eq_true, decide_eq_true_eq] at h3
        rw [if_pos rfl, Bool.true_and, Bool.true_and, w64 (x := (i : Int) + 1) (by omega) (by omega), w64 (x := a + l[i].f1) (by omega) (by omega), show ((i : Int) + 1) = ((i + 1 : Nat) : Int) from by omega, ih k (i + 1) _ (by omega) (by omega) (by omega) (by omega)]
theorem specSched_eq {k : Nat} {l : List S58} (hl : l.length ≤ 4000000) (hk : l.length < k) : spec_ScheduleOk.f k l = some (schedR l) := by
  unfold spec_ScheduleOk.f schedR
  have h := specSched_l0 l hl l.length k 0 0 (by omega) hk (by omega) (by omega)
  rw [List.drop_zero] at h
  exact h
theorem implSched_eq {k : Nat} {l : List S58} (hl : l.length ≤ 4000000) (hk : l.length < k) : impl_ScheduleOk.f k l = some (schedR l) := by
  unfold impl_ScheduleOk.f schedR
  have h := implSched_l0 l hl l.length k 0 0 (by omega) hk (by omega) (by omega)
  rw [List.drop_zero] at h
  exact h


end Go.Proofs.Ytjbfcdeddnnnmaa.M
namespace Go.Proofs.Ytjbfcdeddnnnmaa.M
set_option linter.unusedVariables false
set_option linter.unusedSimpArgs false
open Go.RowKit Go.Proofs.YtjbfcdeddnnnmaaW.PrintWords Go.Proofs.Ytjbfcdeddnnnmaa.Pb

def flatR : List S58 → List Int
  | [] => []
  | r :: l => List.replicate r.f1.toNat r.f0 ++ flatR l
def stepsR (l : List S58) : List Int × Bool := if schedR l = true then (flatR l, true) else ([], false)
theorem sched_runs : ∀ (l : List S58) (a : Int), runsR a l = true → ∀ r ∈ l, 1 ≤ r.f1 ∧ r.f1 ≤ 500
  | [], _, _ => by simp
  | r :: l, a, h => by
    simp only [runsR, Bool.and_eq_true, inB, decide_eq_true_eq] at h
    intro q hq
    rcases List.mem_cons.1 hq with rfl | hq
    · exact h.2.1
    · exact sched_runs l _ h.2.2 q hq
theorem flatR_len : ∀ (l : List S58), (∀ r ∈ l, 1 ≤ r.f1 ∧ r.f1 ≤ 500) → (flatR l).length ≤ 500 * l.length
  | [], _ => by simp [flatR]
  | r :: l, h => by
    have h1 := flatR_len l (fun q hq => h q (List.mem_cons_of_mem _ hq))
    have h2 := h r (List.mem_cons_self ..)
    simp only [flatR, List.length_append, List.length_replicate, List.length_cons]
    omega
theorem stepsR_len (l : List S58) : (stepsR l).1.length ≤ 30000 := by
  unfold stepsR
  split
  · rename_i h
    simp only [schedR, Bool.and_eq_true, decide_eq_true_eq] at h
    have := flatR_len l (sched_runs l 0 h.2)
    simp only
    omega
  · simp

theorem specSteps_l1 (l : List S58) (i : Nat) (hi : i < l.length) (hl : l.length ≤ 60) (e : Nat) : ∀ (k j : Nat) (acc : List Int), (j : Int) + e = l[i].f1 → l[i].f1 ≤ 500 → acc.length + e ≤ 60000 →
    spec_Steps.l1 (k + e + 1) l acc (i : Int) (j : Int) = spec_Steps.l0 k l (acc ++ List.replicate e l[i].f0) ((i + 1 : Nat) : Int) := by
  induction e with
  | zero =>
    intro k j acc hj h5 ha
    rw [spec_Steps.l1, if_pos (by omega), if_pos (by omega), rdT58_at l i hi, if_neg (by omega), w64 (by omega) (by omega)]
    simp
  | succ e ih =>
    intro k j acc hj h5 ha
    rw [show k + (e + 1) + 1 = (k + e + 1) + 1 from by omega, spec_Steps.l1, if_pos (by omega), if_pos (by omega), rdT58_at l i hi, if_pos (by omega), if_pos (by omega), w64 (by omega) (by omega), show ((j : Int) + 1) = ((j + 1 : Nat) : Int) from by omega,
      ih k (j + 1) _ (by omega) h5 (by simp; omega), List.append_assoc]
    rfl
theorem specSteps_l0 (l : List S58) (hl : l.length ≤ 60) (hr : ∀ r ∈ l, 1 ≤ r.f1 ∧ r.f1 ≤ 500) (d : Nat) : ∀ (k i : Nat) (acc : List Int), i + d = l.length → 503 * d < k → acc.length ≤ 500 * i →
    spec_Steps.l0 k l acc (i : Int) = some (acc ++ flatR (l.drop i), true) := by
  induction d with
  | zero =>
    intro k i acc hi hk ha
    obtain ⟨k, rfl⟩ : ∃ m, k = m + 1 := ⟨k - 1, by omega⟩
    rw [spec_Steps.l0, if_neg (by omega), List.drop_of_length_le (by omega)]
    simp [flatR]
  | succ d ih =>
    intro k i acc hi hk ha
    have hri := hr l[i] (List.getElem_mem _)
    obtain ⟨n, hn⟩ := Int.eq_ofNat_of_zero_le (show 0 ≤ l[i].f1 by omega)
    obtain ⟨k, rfl⟩ : ∃ m, k = (m + n + 1) + 1 := ⟨k - n - 2, by omega⟩
    have h1 := specSteps_l1 l i (by omega) hl n k 0 acc (by omega) hri.2 (by omega)
    rw [spec_Steps.l0, if_pos (by omega)]
    rw [show ((0 : Nat) : Int) = 0 from rfl] at h1
    rw [h1, ih k (i + 1) _ (by omega) (by omega) (by simp; omega), drop_cons l i (by omega)]
    simp only [flatR, hn, Int.toNat_natCast, List.append_assoc]
theorem implSteps_l1 (l : List S58) (i : Nat) (b f1 f0 : Int) (hi : i < l.length) (hl : l.length ≤ 60) (e : Nat) : ∀ (k j : Nat) (acc : List Int), (j : Int) + e = b → b ≤ 500 → acc.length + e ≤ 60000 →
    impl_Steps.l1 (k + e + 1) acc l (l.length : Int) (i : Int) b (j : Int) f0 f1 = impl_Steps.l0 k (acc ++ List.replicate e f0) l (l.length : Int) ((i + 1 : Nat) : Int) := by
  induction e with
  | zero =>
    intro k j acc hj h5 ha
    rw [impl_Steps.l1, if_neg (by omega), w64 (by omega) (by omega)]
    simp
  | succ e ih =>
    intro k j acc hj h5 ha
    rw [show k + (e + 1) + 1 = (k + e + 1) + 1 from by omega, impl_Steps.l1, if_pos (by omega), if_pos (by omega), w64 (by omega) (by omega), show ((j : Int) + 1) = ((j + 1 : Nat) : Int) from by omega,
      ih k (j + 1) _ (by omega) h5 (by simp; omega), List.append_assoc]
    rfl
theorem implSteps_l0 (l : List S58) (hl : l.length ≤ 60) (hr : ∀ r ∈ l, 1 ≤ r.f1 ∧ r.f1 ≤ 500) (d : Nat) : ∀ (k i : Nat) (acc : List Int), i + d = l.length → 503 * d < k → acc.length ≤ 500 * i →
    impl_Steps.l0 k acc l (l.length : Int) (i : Int) = some (acc ++ flatR (l.drop i), true) := by
  induction d with
  | zero =>
    intro k i acc hi hk ha
    obtain ⟨k, rfl⟩ : ∃ m, k = m + 1 := ⟨k - 1, by omega⟩
    rw [impl_Steps.l0, if_neg (by omega), List.drop_of_length_le (by omega)]
    simp [flatR]
  | succ d ih =>
    intro k i acc hi hk ha
    have hri := hr l[i] (List.getElem_mem _)
    obtain ⟨n, hn⟩ := Int.eq_ofNat_of_zero_le (show 0 ≤ l[i].f1 by omega)
    obtain ⟨k, rfl⟩ : ∃ m, k = (m + n + 1) + 1 := ⟨k - n - 2, by omega⟩
    have h1 := implSteps_l1 l i l[i].f1 l[i].f1 l[i].f0 (by omega) hl n k 0 acc (by omega) hri.2 (by omega)
    rw [impl_Steps.l0, if_pos (by omega), if_pos (by omega), if_pos (by omega), rdT58_at l i (by omega)]
    rw [show ((0 : Nat) : Int) = 0 from rfl] at h1
    rw [h1, ih k (i + 1) _ (by omega) (by omega) (by simp; omega), drop_cons l i (by omega)]
    simp only [flatR, hn, Int.toNat_natCast, List.append_assoc]
theorem specSteps_eq {k : Nat} {l : List S58} (hl : l.length ≤ 4000000) (hk : l.length + 31000 < k) : spec_Steps.f k l = some (stepsR l) := by
  unfold spec_Steps.f stepsR
  rw [Option.bind_some, specSched_eq hl (by omega), Option.bind_some]
  cases h : schedR l with
  | false => simp
  | true =>
    simp only [schedR, Bool.and_eq_true, decide_eq_true_eq] at h
    have h1 := specSteps_l0 l h.1 (sched_runs l 0 h.2) l.length k 0 [] (by omega) (by omega) (by simp)
    rw [List.drop_zero, List.nil_append] at h1
    rw [if_pos rfl, if_pos rfl]
    exact h1
theorem implSteps_eq {k : Nat} {l : List S58} (hl : l.length ≤ 4000000) (hk : l.length + 31000 < k) : impl_Steps.f k l = some (stepsR l) := by
  unfold impl_Steps.f stepsR
  rw [implSched_eq hl (by omega), Option.bind_some]
  cases h : schedR l with
  | false => simp
  | true =>
    simp only [schedR, Bool.and_eq_true, decide_eq_true_eq] at h
    have h1 := implSteps_l0 l h.1 (sched_runs l 0 h.2) l.length k 0 [] (by omega) (by omega) (by simp)
    rw [List.drop_zero, List.nil_append] at h1
    rw [if_pos rfl, if_pos rfl]
    exact h1


end Go.Proofs.Ytjbfcdeddnnnmaa.M
namespace Go.Proofs.Ytjbfcdeddnnnmaa.Pb
theorem ifneg_lt {α : Type} {c : Int} {a b : α} (h : ¬ c < 0) : (if c < 0 then a else b) = b := if_neg h


end Go.Proofs.Ytjbfcdeddnnnmaa.Pb
namespace Go.Proofs.Ytjbfcdeddnnnmaa.Pure
set_option linter.unusedVariables false
set_option linter.unusedSimpArgs false
open Go.RowKit Go.Proofs.Ytjbfcdeddnnnmaa.M Go.Proofs.YtjbfcdeddnnnmaaW.PrintWords Go.Proofs.Ytjbfcdeddnnnmaa.Pb


theorem FnExactSteps : laws_FnExactSteps.Pure := by
  intro a ha
  obtain ⟨k, hk⟩ : ∃ k : Nat, 30000000 < k := ⟨30000001, by omega⟩
  refine ⟨k + 3, ?_⟩
  unfold laws_FnExactSteps.f
  rw [szRunS_eq ha.1 (by omega), Option.bind_some]
  by_cases h1 : a.length ≤ 1048576
  · rw [if_neg (show ¬ ((1048576 : Int) - (a.length : Int) < 0) by omega), if_neg (by omega)]
    have hr := stepsR_len (a.map cvRun)
    (repeat (first | rw [if_pos rfl] | rw [if_neg Bool.false_ne_true] | rw [ifneg_lt (by (first | omega | (simp only [List.length_map]; omega)))] | rw [toRunS_eq (by (first | omega | (simp only [List.length_map]; omega))) (by (first | omega | (simp only [List.length_map]; omega)))] | rw [eqRunS_refl (by (first | omega | (simp only [List.length_map]; omega))) (by (first | omega | (simp only [List.length_map]; omega)))] | rw [eqIntS_refl (by (first | omega | (simp only [List.length_map]; omega))) (by (first | omega | (simp only [List.length_map]; omega)))] | rw [markRunS_eq (by (first | omega | (simp only [List.length_map]; omega))) (by (first | omega | (simp only [List.length_map]; omega))) (by (first | omega | (simp only [List.length_map]; omega))) (by (first | omega | (simp only [List.length_map]; omega)))] | rw [markIntS_eq (by (first | omega | (simp only [List.length_map]; omega))) (by (first | omega | (simp only [List.length_map]; omega))) (by (first | omega | (simp only [List.length_map]; omega))) (by (first | omega | (simp only [List.length_map]; omega)))] | rw [heldIntS_eq (by (first | omega | (simp only [List.length_map]; omega))) (by (first | omega | (simp only [List.length_map]; omega))) (by (first | omega | (simp only [List.length_map]; omega))) (by (first | omega | (simp only [List.length_map]; omega)))] | rw [specSteps_eq (by (first | omega | (simp only [List.length_map]; omega))) (by (first | omega | (simp only [List.length_map]; omega)))] | rw [implSteps_eq (by (first | omega | (simp only [List.length_map]; omega))) (by (first | omega | (simp only [List.length_map]; omega)))] | (simp only [Option.bind_some, bne_self_eq_false, if_true, Bool.false_eq_true, if_false])))
    generalize hR : stepsR (a.map cvRun) = R at hr
    obtain ⟨out, ok⟩ := R
    simp only at hr
    (repeat (first | rw [if_pos rfl] | rw [if_neg Bool.false_ne_true] | rw [ifneg_lt (by (first | omega | (simp only [List.length_map]; omega)))] | rw [toRunS_eq (by (first | omega | (simp only [List.length_map]; omega))) (by (first | omega | (simp only [List.length_map]; omega)))] | rw [eqRunS_refl (by (first | omega | (simp only [List.length_map]; omega))) (by (first | omega | (simp only [List.length_map]; omega)))] | rw [eqIntS_refl (by (first | omega | (simp only [List.length_map]; omega))) (by (first | omega | (simp only [List.length_map]; omega)))] | rw [markRunS_eq (by (first | omega | (simp only [List.length_map]; omega))) (by (first | omega | (simp only [List.length_map]; omega))) (by (first | omega | (simp only [List.length_map]; omega))) (by (first | omega | (simp only [List.length_map]; omega)))] | rw [markIntS_eq (by (first | omega | (simp only [List.length_map]; omega))) (by (first | omega | (simp only [List.length_map]; omega))) (by (first | omega | (simp only [List.length_map]; omega))) (by (first | omega | (simp only [List.length_map]; omega)))] | rw [heldIntS_eq (by (first | omega | (simp only [List.length_map]; omega))) (by (first | omega | (simp only [List.length_map]; omega))) (by (first | omega | (simp only [List.length_map]; omega))) (by (first | omega | (simp only [List.length_map]; omega)))] | rw [specSteps_eq (by (first | omega | (simp only [List.length_map]; omega))) (by (first | omega | (simp only [List.length_map]; omega)))] | rw [implSteps_eq (by (first | omega | (simp only [List.length_map]; omega))) (by (first | omega | (simp only [List.length_map]; omega)))] | (simp only [Option.bind_some, bne_self_eq_false, if_true, Bool.false_eq_true, if_false])))
    rw [laws_FnExactSteps.j0]
    (repeat (first | rw [if_pos rfl] | rw [if_neg Bool.false_ne_true] | rw [ifneg_lt (by (first | omega | (simp only [List.length_map]; omega)))] | rw [toRunS_eq (by (first | omega | (simp only [List.length_map]; omega))) (by (first | omega | (simp only [List.length_map]; omega)))] | rw [eqRunS_refl (by (first | omega | (simp only [List.length_map]; omega))) (by (first | omega | (simp only [List.length_map]; omega)))] | rw [eqIntS_refl (by (first | omega | (simp only [List.length_map]; omega))) (by (first | omega | (simp only [List.length_map]; omega)))] | rw [markRunS_eq (by (first | omega | (simp only [List.length_map]; omega))) (by (first | omega | (simp only [List.length_map]; omega))) (by (first | omega | (simp only [List.length_map]; omega))) (by (first | omega | (simp only [List.length_map]; omega)))] | rw [markIntS_eq (by (first | omega | (simp only [List.length_map]; omega))) (by (first | omega | (simp only [List.length_map]; omega))) (by (first | omega | (simp only [List.length_map]; omega))) (by (first | omega | (simp only [List.length_map]; omega)))] | rw [heldIntS_eq (by (first | omega | (simp only [List.length_map]; omega))) (by (first | omega | (simp only [List.length_map]; omega))) (by (first | omega | (simp only [List.length_map]; omega))) (by (first | omega | (simp only [List.length_map]; omega)))] | rw [specSteps_eq (by (first | omega | (simp only [List.length_map]; omega))) (by (first | omega | (simp only [List.length_map]; omega)))] | rw [implSteps_eq (by (first | omega | (simp only [List.length_map]; omega))) (by (first | omega | (simp only [List.length_map]; omega)))] | (simp only [Option.bind_some, bne_self_eq_false, if_true, Bool.false_eq_true, if_false])))
    rw [laws_FnExactSteps.j1]
    (repeat (first | rw [if_pos rfl] | rw [if_neg Bool.false_ne_true] | rw [ifneg_lt (by (first | omega | (simp only [List.length_map]; omega)))] | rw [toRunS_eq (by (first | omega | (simp only [List.length_map]; omega))) (by (first | omega | (simp only [List.length_map]; omega)))] | rw [eqRunS_refl (by (first | omega | (simp only [List.length_map]; omega))) (by (first | omega | (simp only [List.length_map]; omega)))] | rw [eqIntS_refl (by (first | omega | (simp only [List.length_map]; omega))) (by (first | omega | (simp only [List.length_map]; omega)))] | rw [markRunS_eq (by (first | omega | (simp only [List.length_map]; omega))) (by (first | omega | (simp only [List.length_map]; omega))) (by (first | omega | (simp only [List.length_map]; omega))) (by (first | omega | (simp only [List.length_map]; omega)))] | rw [markIntS_eq (by (first | omega | (simp only [List.length_map]; omega))) (by (first | omega | (simp only [List.length_map]; omega))) (by (first | omega | (simp only [List.length_map]; omega))) (by (first | omega | (simp only [List.length_map]; omega)))] | rw [heldIntS_eq (by (first | omega | (simp only [List.length_map]; omega))) (by (first | omega | (simp only [List.length_map]; omega))) (by (first | omega | (simp only [List.length_map]; omega))) (by (first | omega | (simp only [List.length_map]; omega)))] | rw [specSteps_eq (by (first | omega | (simp only [List.length_map]; omega))) (by (first | omega | (simp only [List.length_map]; omega)))] | rw [implSteps_eq (by (first | omega | (simp only [List.length_map]; omega))) (by (first | omega | (simp only [List.length_map]; omega)))] | (simp only [Option.bind_some, bne_self_eq_false, if_true, Bool.false_eq_true, if_false])))
    rw [hR]
    (repeat (first | rw [if_pos rfl] | rw [if_neg Bool.false_ne_true] | rw [ifneg_lt (by (first | omega | (simp only [List.length_map]; omega)))] | rw [toRunS_eq (by (first | omega | (simp only [List.length_map]; omega))) (by (first | omega | (simp only [List.length_map]; omega)))] | rw [eqRunS_refl (by (first | omega | (simp only [List.length_map]; omega))) (by (first | omega | (simp only [List.length_map]; omega)))] | rw [eqIntS_refl (by (first | omega | (simp only [List.length_map]; omega))) (by (first | omega | (simp only [List.length_map]; omega)))] | rw [markRunS_eq (by (first | omega | (simp only [List.length_map]; omega))) (by (first | omega | (simp only [List.length_map]; omega))) (by (first | omega | (simp only [List.length_map]; omega))) (by (first | omega | (simp only [List.length_map]; omega)))] | rw [markIntS_eq (by (first | omega | (simp only [List.length_map]; omega))) (by (first | omega | (simp only [List.length_map]; omega))) (by (first | omega | (simp only [List.length_map]; omega))) (by (first | omega | (simp only [List.length_map]; omega)))] | rw [heldIntS_eq (by (first | omega | (simp only [List.length_map]; omega))) (by (first | omega | (simp only [List.length_map]; omega))) (by (first | omega | (simp only [List.length_map]; omega))) (by (first | omega | (simp only [List.length_map]; omega)))] | rw [specSteps_eq (by (first | omega | (simp only [List.length_map]; omega))) (by (first | omega | (simp only [List.length_map]; omega)))] | rw [implSteps_eq (by (first | omega | (simp only [List.length_map]; omega))) (by (first | omega | (simp only [List.length_map]; omega)))] | (simp only [Option.bind_some, bne_self_eq_false, if_true, Bool.false_eq_true, if_false])))
    rw [laws_FnExactSteps.j2]
    (repeat (first | rw [if_pos rfl] | rw [if_neg Bool.false_ne_true] | rw [ifneg_lt (by (first | omega | (simp only [List.length_map]; omega)))] | rw [toRunS_eq (by (first | omega | (simp only [List.length_map]; omega))) (by (first | omega | (simp only [List.length_map]; omega)))] | rw [eqRunS_refl (by (first | omega | (simp only [List.length_map]; omega))) (by (first | omega | (simp only [List.length_map]; omega)))] | rw [eqIntS_refl (by (first | omega | (simp only [List.length_map]; omega))) (by (first | omega | (simp only [List.length_map]; omega)))] | rw [markRunS_eq (by (first | omega | (simp only [List.length_map]; omega))) (by (first | omega | (simp only [List.length_map]; omega))) (by (first | omega | (simp only [List.length_map]; omega))) (by (first | omega | (simp only [List.length_map]; omega)))] | rw [markIntS_eq (by (first | omega | (simp only [List.length_map]; omega))) (by (first | omega | (simp only [List.length_map]; omega))) (by (first | omega | (simp only [List.length_map]; omega))) (by (first | omega | (simp only [List.length_map]; omega)))] | rw [heldIntS_eq (by (first | omega | (simp only [List.length_map]; omega))) (by (first | omega | (simp only [List.length_map]; omega))) (by (first | omega | (simp only [List.length_map]; omega))) (by (first | omega | (simp only [List.length_map]; omega)))] | rw [specSteps_eq (by (first | omega | (simp only [List.length_map]; omega))) (by (first | omega | (simp only [List.length_map]; omega)))] | rw [implSteps_eq (by (first | omega | (simp only [List.length_map]; omega))) (by (first | omega | (simp only [List.length_map]; omega)))] | (simp only [Option.bind_some, bne_self_eq_false, if_true, Bool.false_eq_true, if_false])))
  · rw [if_pos (show ((1048576 : Int) - (a.length : Int) < 0) by omega), if_pos (by omega)]


end Go.Proofs.Ytjbfcdeddnnnmaa.Pure
