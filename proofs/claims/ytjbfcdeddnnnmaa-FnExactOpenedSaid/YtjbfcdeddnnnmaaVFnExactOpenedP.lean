/- The pure statement of FnExactOpened and what it needs. Conditions: those that each theorem states. -/
import Derived.Test.YtjbfcdeddnnnmaaVFnExactOpened0
import Derived.RowKit
import Derived.Test.YtjbfcdeddnnnmaaWWords
namespace Go.Proofs.Ytjbfcdeddnnnmaa.PbK
open Go.RowKit Go.Proofs.YtjbfcdeddnnnmaaW.PrintWords

theorem w64 {x : Int} (h0 : -9223372036854775808 ≤ x) (h1 : x ≤ 9223372036854775807) : wrap64 x = x := by
  unfold wrap64
  omega

theorem set_take {α : Type} (x : List α) (v : α) (i : Nat) (h : i < x.length) : (x.set i v).take (i + 1) = x.take i ++ [v] := by
  rw [List.take_succ_eq_append_getElem (by simpa using h)]
  rw [List.take_set_of_le (Nat.le_refl i)]
  simp

/-- The same where each element is turned into another kind. -/
theorem copy_step_map {α β : Type} (f : α → β) (x : List β) (l : List α) (i : Nat) (h : i < l.length) (hx : i < x.length) :
    (x.set i (f l[i])).take (i + 1) ++ (l.drop (i + 1)).map f = x.take i ++ (l.drop i).map f := by
  rw [set_take x (f l[i]) i hx, List.drop_eq_getElem_cons h, List.append_assoc]
  rfl


end Go.Proofs.Ytjbfcdeddnnnmaa.PbK
namespace Go.Proofs.Ytjbfcdeddnnnmaa.K
set_option linter.unusedSimpArgs false
open Go.RowKit Go.Proofs.YtjbfcdeddnnnmaaW.PrintWords Go.Proofs.Ytjbfcdeddnnnmaa.PbK

def cvEntry (x : S70) : S68 := ⟨x.f0, x.f1, x.f2, x.f3, x.f4⟩
theorem rdT70_at (l : List S70) (i : Nat) (h : i < l.length) : rd_T70 l (i : Int) = l[i] := by
  simp [rd_T70, List.getD_eq_getElem?_getD, List.getElem?_eq_getElem h]
theorem rdT68_at (l : List S68) (i : Nat) (h : i < l.length) : rd_T68 l (i : Int) = l[i] := by
  simp [rd_T68, List.getD_eq_getElem?_getD, List.getElem?_eq_getElem h]
theorem szEntryS_eq {l : List S70} {a : Int} (hl : l.length ≤ maxLen) (ha : 0 ≤ a ∧ a ≤ 1048576) : laws_szEntryS.f l a = some (if a - (l.length : Int) < 0 then -1 else a - (l.length : Int)) := by
  unfold laws_szEntryS.f
  have hm : l.length ≤ 9223372036854775807 := hl
  rw [w64 (by omega) (by omega)]
  by_cases h : a - (l.length : Int) < 0
  · rw [if_pos h, if_pos h]
  · rw [if_neg h, if_neg h]
theorem toEntryS_l0 (l : List S70) (hl : l.length ≤ 4000000) (d : Nat) : ∀ (k i : Nat) (x : List S68), i + d = l.length → d < k → x.length = l.length → laws_toEntryS.l0 k l x (i : Int) = some (x.take i ++ (l.drop i).map cvEntry) := by
  induction d with
  | zero =>
    intro k i x hi hk hx
    obtain ⟨k, rfl⟩ : ∃ m, k = m + 1 := ⟨k - 1, by omega⟩
    simp only [laws_toEntryS.l0]
    rw [if_neg (by omega), List.take_of_length_le (by omega), List.drop_of_length_le (by omega), List.map_nil, List.append_nil]
  | succ d ih =>
    intro k i x hi hk hx
    obtain ⟨k, rfl⟩ : ∃ m, k = m + 1 := ⟨k - 1, by omega⟩
    simp only [laws_toEntryS.l0]
    rw [if_pos (by omega), if_pos (by omega)]
    simp only [laws_toEntry.f, Option.bind_some]
    rw [if_pos (by omega), w64 (by omega) (by omega), rdT70_at l i (by omega), Int.toNat_natCast,
      show ((i : Int) + 1) = ((i + 1 : Nat) : Int) from by omega, ih k (i + 1) _ (by omega) (by omega) (by simp [hx])]
    exact congrArg some (copy_step_map cvEntry x l i (by omega) (by omega))
theorem toEntryS_eq {k : Nat} {l : List S70} (hl : l.length ≤ 4000000) (hk : l.length < k) : laws_toEntryS.f k l = some (l.map cvEntry) := by
  unfold laws_toEntryS.f
  rw [if_pos (by omega), if_pos (by omega)]
  have h := toEntryS_l0 l hl l.length k 0 (List.replicate ((l.length : Int) : Int).toNat z68) (by omega) hk (by simp)
  rw [List.take_zero, List.drop_zero, List.nil_append] at h
  exact h
theorem eqEntry_refl (a0 : Int) (a1 : Int) (a2 : Int) (a3 : Int) (a4 : Bool) : laws_eqEntry.f a0 a1 a2 a3 a4 a0 a1 a2 a3 a4 = some true := by
  simp [laws_eqEntry.f]
theorem eqEntryS_l0 (l : List S68) (hl : l.length ≤ 4000000) (d : Nat) : ∀ (k i : Nat), i + d = l.length → d < k → laws_eqEntryS.l0 k l l (i : Int) = some true := by
  induction d with
  | zero =>
    intro k i hi hk
    obtain ⟨k, rfl⟩ : ∃ m, k = m + 1 := ⟨k - 1, by omega⟩
    simp only [laws_eqEntryS.l0]
    rw [if_neg (by omega)]
  | succ d ih =>
    intro k i hi hk
    obtain ⟨k, rfl⟩ : ∃ m, k = m + 1 := ⟨k - 1, by omega⟩
    simp only [laws_eqEntryS.l0]
    rw [if_pos (by omega), if_pos (by omega), if_pos (by omega), eqEntry_refl, Option.bind_some, if_pos rfl, w64 (by omega) (by omega), show ((i : Int) + 1) = ((i + 1 : Nat) : Int) from by omega]
    exact ih k (i + 1) (by omega) (by omega)
theorem eqEntryS_refl {k : Nat} {l : List S68} (hl : l.length ≤ 4000000) (hk : l.length < k) : laws_eqEntryS.f k l l = some true := by
  unfold laws_eqEntryS.f
  rw [if_pos rfl]
  exact eqEntryS_l0 l hl l.length k 0 (by omega) hk


end Go.Proofs.Ytjbfcdeddnnnmaa.K
namespace Go.Proofs.Ytjbfcdeddnnnmaa.K
set_option linter.unusedVariables false
set_option linter.unusedSimpArgs false
open Go.RowKit Go.Proofs.YtjbfcdeddnnnmaaW.PrintWords Go.Proofs.Ytjbfcdeddnnnmaa.PbK

def inE (a b x : Int) : Bool := decide (a ≤ x) && decide (x ≤ b)
theorem l1InE_eq (x a b : Int) : spec_l1In.f x a b = some (inE a b x) := by
  unfold spec_l1In.f inE
  by_cases h : x ≥ a
  · rw [if_pos h, decide_eq_true (show a ≤ x from h), Bool.true_and]
  · rw [if_neg h, decide_eq_false (show ¬ a ≤ x from h), Bool.false_and]
theorem inE_eq (x a b : Int) : impl_in.f x a b = some (inE a b x) := by
  unfold impl_in.f inE
  by_cases h : a ≤ x
  · rw [if_pos h, decide_eq_true h, Bool.true_and]
  · rw [if_neg h, decide_eq_false h, Bool.false_and]
def entB (e : S68) : Bool := inE 0 7 e.f0 && (inE 0 1000000 e.f1 && (inE (-1000000000) 1000000000 e.f2 && (inE (-1000000000) 1000000000 e.f3 && (e.f4 || e.f3 == e.f2))))
theorem specEntry_eq (e : S68) : spec_l6Entry.f e.f0 e.f1 e.f2 e.f3 e.f4 = some (entB e) := by
  unfold spec_l6Entry.f spec_l1Value.f entB
  rw [l1InE_eq, l1InE_eq, l1InE_eq, l1InE_eq]
  simp only [Option.bind_some]
  cases inE 0 7 e.f0 <;> cases inE 0 1000000 e.f1 <;> cases inE (-1000000000) 1000000000 e.f2 <;> cases inE (-1000000000) 1000000000 e.f3 <;> cases e.f4 <;> simp
theorem implEntry_eq (e : S68) : impl_isEntry.f e.f0 e.f1 e.f2 e.f3 e.f4 = some (entB e) := by
  unfold impl_isEntry.f impl_isObject.f impl_isVersion.f impl_isValue.f entB
  rw [inE_eq, inE_eq, inE_eq, inE_eq]
  simp only [Option.bind_some]
  cases inE 0 7 e.f0 <;> cases inE 0 1000000 e.f1 <;> cases inE (-1000000000) 1000000000 e.f2 <;> cases inE (-1000000000) 1000000000 e.f3 <;> cases e.f4 <;> simp

/-- The first place from j on, of e, whose object is x. -/
def firstR (l : List S68) (x : Int) : Nat → Nat → Int
  | _, 0 => -1
  | j, e + 1 => if (rd_T68 l j).f0 = x then (j : Int) else firstR l x (j + 1) e
theorem firstR_take (l : List S68) (x : Int) (i : Nat) (hi : i ≤ l.length) (e : Nat) : ∀ j : Nat, j + e ≤ i → firstR (l.take i) x j e = firstR l x j e := by
  induction e with
  | zero => intro j _; rfl
  | succ e ih =>
    intro j hj
    have h : rd_T68 (l.take i) (j : Int) = rd_T68 l (j : Int) := by
      rw [rdT68_at _ j (by simp; omega), rdT68_at l j (by omega)]
      simp
    simp only [firstR]
    rw [h, ih (j + 1) (by omega)]
theorem entryAt_l0 (l : List S68) (x : Int) (hl : l.length ≤ 4000000) (e : Nat) : ∀ (k j : Nat), j + e = l.length → e < k → impl_Entry_F66c900000.l0 k l (l.length : Int) (j : Int) x = some (firstR l x j e) := by
  induction e with
  | zero =>
    intro k j hj hk
    obtain ⟨k, rfl⟩ : ∃ q, k = q + 1 := ⟨k - 1, by omega⟩
    rw [impl_Entry_F66c900000.l0, if_neg (by omega)]
    rfl
  | succ e ih =>
    intro k j hj hk
    obtain ⟨k, rfl⟩ : ∃ q, k = q + 1 := ⟨k - 1, by omega⟩
    have ih1 := ih k (j + 1) (by omega) (by omega)
    rw [impl_Entry_F66c900000.l0, if_pos (by omega), if_pos (by omega), if_pos (by omega), impl_entryAt_1_c2.f, Option.bind_some, w64 (by omega) (by omega), show ((j : Int) + 1) = ((j + 1 : Nat) : Int) from by omega, ih1]
    simp only [firstR]
    by_cases h : (rd_T68 l j).f0 = x
    · rw [if_pos h, if_pos (by simpa using h)]
    · rw [if_neg h, if_neg (by simpa using h)]
theorem entryAt_eq {k : Nat} {l : List S68} {x : Int} (hl : l.length ≤ 4000000) (hk : l.length < k) : impl_entryAt.f k l x = some (firstR l x 0 l.length) := by
  unfold impl_entryAt.f impl_Entry_F66c900000.f
  have h := entryAt_l0 l x hl l.length k 0 (by omega) hk
  rw [show ((0 : Nat) : Int) = 0 from rfl] at h
  rw [h, Option.bind_some]

/-- The entries from i on, of d. -/
def openR (l : List S68) : Nat → Nat → Bool
  | _, 0 => decide (l.length ≤ 6)
  | i, d + 1 => entB (rd_T68 l i) && (decide (firstR l (rd_T68 l i).f0 0 i < 0) && openR l (i + 1) d)
theorem specOpen_l1 (l : List S68) (i : Nat) (hl : l.length ≤ 4000000) (hi : i < l.length) (e : Nat) : ∀ (k j : Nat), j + e = i → spec_OpenOk.l1 (k + e + 1) l (i : Int) (j : Int) = if firstR l (rd_T68 l i).f0 j e < 0 then spec_OpenOk.l0 k l ((i + 1 : Nat) : Int) else some false := by
  induction e with
  | zero =>
    intro k j hj
    rw [spec_OpenOk.l1, if_neg (by omega), w64 (by omega) (by omega)]
    simp [firstR]
  | succ e ih =>
    intro k j hj
    have ih1 := ih k (j + 1) (by omega)
    rw [show k + (e + 1) + 1 = (k + e + 1) + 1 from by omega, spec_OpenOk.l1, if_pos (by omega), if_pos (by omega), if_pos (by omega), if_pos (by omega), if_pos (by omega), w64 (by omega) (by omega), show ((j : Int) + 1) = ((j + 1 : Nat) : Int) from by omega, ih1]
    by_cases h : (rd_T68 l j).f0 = (rd_T68 l i).f0
    · have e1 : firstR l (rd_T68 l i).f0 j (e + 1) = (j : Int) := by simp only [firstR]; rw [if_pos h]
      rw [if_pos h, e1, if_neg (by omega)]
    · have e1 : firstR l (rd_T68 l i).f0 j (e + 1) = firstR l (rd_T68 l i).f0 (j + 1) e := by simp only [firstR]; rw [if_neg h]
      rw [if_neg h, e1]
theorem specOpen_l0 (l : List S68) (hl : l.length ≤ 4000000) (N : Nat) (hN : l.length + 2 ≤ N) (d : Nat) : ∀ (k i : Nat), i + d = l.length → d * N < k → spec_OpenOk.l0 k l (i : Int) = some (openR l i d) := by
  induction d with
  | zero =>
    intro k i hi hk
    obtain ⟨k, rfl⟩ : ∃ q, k = q + 1 := ⟨k - 1, by omega⟩
    rw [spec_OpenOk.l0, if_neg (by omega)]
    simp only [openR]
    congr 1
    apply decide_eq_decide.2
    omega
  | succ d ih =>
    intro k i hi hk
    rw [Nat.succ_mul] at hk
    obtain ⟨k, rfl⟩ : ∃ q, k = (q + i + 1) + 1 := ⟨k - i - 2, by omega⟩
    have h1 := specOpen_l1 l i hl (by omega) i k 0 (by omega)
    rw [show ((0 : Nat) : Int) = 0 from rfl] at h1
    rw [spec_OpenOk.l0, if_pos (by omega), if_pos (by omega), specEntry_eq, Option.bind_some, h1, ih k (i + 1) (by omega) (by omega)]
    simp only [openR]
    cases entB (rd_T68 l i) with
    | false => simp
    | true =>
      rw [if_pos rfl, Bool.true_and]
      by_cases h : firstR l (rd_T68 l i).f0 0 i < 0
      · rw [if_pos h, decide_eq_true h, Bool.true_and]
      · rw [if_neg h, decide_eq_false h, Bool.false_and]
theorem specOpen_eq {k : Nat} {l : List S68} (hl : l.length ≤ 4000000) (hk : l.length * (l.length + 2) < k) : spec_OpenOk.f k l = some (openR l 0 l.length) := specOpen_l0 l hl (l.length + 2) (Nat.le_refl _) l.length k 0 (by omega) hk
theorem implOpen_l0 (l : List S68) (hl : l.length ≤ 4000000) (d : Nat) : ∀ (k i : Nat), i + d = l.length → d + l.length < k → impl_OpenOk.l0 k l l (l.length : Int) (i : Int) = some (openR l i d) := by
  induction d with
  | zero =>
    intro k i hi hk
    obtain ⟨k, rfl⟩ : ∃ q, k = q + 1 := ⟨k - 1, by omega⟩
    rw [impl_OpenOk.l0, if_neg (by omega)]
    simp only [openR]
    congr 1
    apply decide_eq_decide.2
    omega
  | succ d ih =>
    intro k i hi hk
    obtain ⟨k, rfl⟩ : ∃ q, k = q + 1 := ⟨k - 1, by omega⟩
    have ih1 := ih k (i + 1) (by omega) (by omega)
    have ht : (l.take i).length = i := by simp; omega
    have hat : impl_entryAt.f k (l.take i) (rd_T68 l i).f0 = some (firstR l (rd_T68 l i).f0 0 i) := by
      rw [entryAt_eq (by omega) (by omega), ht, firstR_take l _ i (by omega) i 0 (by omega)]
    rw [impl_OpenOk.l0, if_pos (by omega), if_pos (by omega), if_pos (by omega), implEntry_eq, Option.bind_some, Int.toNat_natCast, hat, Option.bind_some, w64 (by omega) (by omega), show ((i : Int) + 1) = ((i + 1 : Nat) : Int) from by omega, ih1]
    simp only [openR]
    cases entB (rd_T68 l i) with
    | false => rw [if_neg Bool.false_ne_true, Bool.false_and]
    | true =>
      rw [if_pos rfl, Bool.true_and, if_pos (by omega)]
      by_cases h : firstR l (rd_T68 l i).f0 0 i < 0
      · rw [if_neg (by omega), decide_eq_true h, Bool.true_and]
      · rw [if_pos (by omega), decide_eq_false h, Bool.false_and]
theorem implOpen_eq {k : Nat} {l : List S68} (hl : l.length ≤ 4000000) (hk : 2 * l.length < k) : impl_OpenOk.f k l = some (openR l 0 l.length) := implOpen_l0 l hl l.length k 0 (by omega) (by omega)

def openedR (l : List S68) (x : Int) : Int := if openR l 0 l.length = true then firstR l x 0 l.length else -1
theorem implOpened_eq {k : Nat} {l : List S68} {x : Int} (hl : l.length ≤ 4000000) (hk : 2 * l.length < k) : impl_Opened.f k l x = some (openedR l x) := by
  unfold impl_Opened.f openedR
  rw [implOpen_eq hl hk, Option.bind_some, entryAt_eq hl (by omega), Option.bind_some]
  split <;> rfl
theorem specOpened_l0 (l : List S68) (x : Int) (hl : l.length ≤ 4000000) (d : Nat) : ∀ (k i : Nat), i + d = l.length → l.length * (l.length + 2) + 2 * d + 2 < k →
    spec_Opened.l0 k l x (i : Int) = some (if openR l 0 l.length = true then firstR l x i d else -1) := by
  induction d with
  | zero =>
    intro k i hi hk
    obtain ⟨k, rfl⟩ : ∃ q, k = q + 2 := ⟨k - 2, by omega⟩
    rw [spec_Opened.l0, if_neg (by omega), spec_Opened.j1, if_neg Bool.false_ne_true]
    split <;> rfl
  | succ d ih =>
    intro k i hi hk
    obtain ⟨k, rfl⟩ : ∃ q, k = q + 2 := ⟨k - 2, by omega⟩
    have ih1 := ih k (i + 1) (by omega) (by omega)
    rw [spec_Opened.l0, if_pos (by omega), specOpen_eq hl (by omega), Option.bind_some, spec_Opened.j1]
    by_cases h : openR l 0 l.length = true
    · rw [if_pos h] at ih1
      rw [if_pos h, if_pos h, if_pos (by omega), if_pos (by omega), w64 (by omega) (by omega), show ((i : Int) + 1) = ((i + 1 : Nat) : Int) from by omega, ih1]
      simp only [firstR]
      by_cases h2 : (rd_T68 l i).f0 = x
      · rw [if_pos h2, if_pos h2]
      · rw [if_neg h2, if_neg h2]
    · rw [if_neg h, if_neg h]
theorem specOpened_eq {k : Nat} {l : List S68} {x : Int} (hl : l.length ≤ 4000000) (hk : l.length * (l.length + 2) + 2 * l.length + 2 < k) : spec_Opened.f k l x = some (openedR l x) := specOpened_l0 l x hl l.length k 0 (by omega) hk


end Go.Proofs.Ytjbfcdeddnnnmaa.K
namespace Go.Proofs.Ytjbfcdeddnnnmaa.Pure
set_option linter.unusedVariables false
set_option linter.unusedSimpArgs false
open Go.RowKit Go.Proofs.Ytjbfcdeddnnnmaa.K Go.Proofs.YtjbfcdeddnnnmaaW.PrintWords Go.Proofs.Ytjbfcdeddnnnmaa.PbK


theorem FnExactOpened : laws_FnExactOpened.Pure := by
  intro a x ha _
  obtain ⟨k, hk⟩ : ∃ k : Nat, 30000000 + a.length * (a.length + 2) + 2 * a.length < k := ⟨_, Nat.lt_succ_self _⟩
  refine ⟨k, ?_⟩
  unfold laws_FnExactOpened.f
  rw [szEntryS_eq ha.1 (by omega), Option.bind_some]
  by_cases h1 : a.length ≤ 1048576
  · rw [if_neg (show ¬ ((1048576 : Int) - (a.length : Int) < 0) by omega), if_neg (by omega)]
    (repeat (first | rw [if_pos rfl] | rw [if_neg Bool.false_ne_true] | rw [toEntryS_eq (by (first | omega | (simp only [List.length_map]; omega))) (by (first | omega | (simp only [List.length_map]; omega)))] | rw [eqEntryS_refl (by (first | omega | (simp only [List.length_map]; omega))) (by (first | omega | (simp only [List.length_map]; omega)))] | rw [specOpened_eq (by (first | omega | (simp only [List.length_map]; omega))) (by (first | omega | (simp only [List.length_map]; omega)))] | rw [implOpened_eq (by (first | omega | (simp only [List.length_map]; omega))) (by (first | omega | (simp only [List.length_map]; omega)))] | (simp only [Option.bind_some, bne_self_eq_false, if_true, Bool.false_eq_true, if_false])))
  · rw [if_pos (show ((1048576 : Int) - (a.length : Int) < 0) by omega), if_pos (by omega)]


end Go.Proofs.Ytjbfcdeddnnnmaa.Pure
