/- The pure statement of FnAllOrNone and what it needs. Conditions: those that each theorem states. -/
import Derived.Test.YtbhlmgljflggeaaVFnAllOrNone3
import Derived.Laws.BitsLemmas
import Derived.RowKit
import Derived.Test.YtbhlmgljflggeaaWWords
namespace Go.Proofs.Ytbhlmgljflggeaa.Pb
open Go.RowKit Go.Proofs.YtbhlmgljflggeaaW.PrintWords

theorem w64 {x : Int} (h0 : -9223372036854775808 ≤ x) (h1 : x ≤ 9223372036854775807) : wrap64 x = x := by
  unfold wrap64
  omega

theorem rd_at (l : List Int) (i : Nat) (h : i < l.length) : rd l (i : Int) = l[i] := by
  simp [rd, List.getD_eq_getElem?_getD, List.getElem?_eq_getElem h]

theorem drop_cons {α : Type} (l : List α) (i : Nat) (h : i < l.length) : l.drop i = l[i] :: l.drop (i + 1) := List.drop_eq_getElem_cons h


end Go.Proofs.Ytbhlmgljflggeaa.Pb
namespace Go.Proofs.Ytbhlmgljflggeaa.M
open Go.RowKit Go.Proofs.YtbhlmgljflggeaaW.PrintWords Go.Proofs.Ytbhlmgljflggeaa.Pb

/-- All of a list within bounds. -/
def inB (a b x : Int) : Bool := decide (a ≤ x) && decide (x ≤ b)

theorem l1In_eq (x a b : Int) : spec_l1In.f x a b = some (inB a b x) := by
  unfold spec_l1In.f inB
  by_cases h : x ≥ a
  · rw [if_pos h, decide_eq_true (show a ≤ x from h), Bool.true_and]
  · rw [if_neg h, decide_eq_false (show ¬ a ≤ x from h), Bool.false_and]

theorem in_eq (x a b : Int) : impl_in.f x a b = some (inB a b x) := by
  unfold impl_in.f inB
  by_cases h : a ≤ x
  · rw [if_pos h, decide_eq_true h, Bool.true_and]
  · rw [if_neg h, decide_eq_false h, Bool.false_and]

theorem l1All_l0 (l : List Int) (a b : Int) (hl : l.length ≤ 4000000) (d : Nat) : ∀ (k i : Nat), i + d = l.length → d < k → spec_l1All.l0 k l a b (i : Int) = some ((l.drop i).all (inB a b)) := by
  induction d with
  | zero =>
    intro k i hi hk
    obtain ⟨k, rfl⟩ : ∃ m, k = m + 1 := ⟨k - 1, by omega⟩
    simp only [spec_l1All.l0]
    rw [if_neg (by omega), List.drop_of_length_le (by omega)]
    rfl
  | succ d ih =>
    intro k i hi hk
    obtain ⟨k, rfl⟩ : ∃ m, k = m + 1 := ⟨k - 1, by omega⟩
    simp only [spec_l1All.l0]
    rw [if_pos (by omega), if_pos (by omega), rd_at l i (by omega), l1In_eq, Option.bind_some, drop_cons l i (by omega), List.all_cons]
    cases h : inB a b l[i] with
    | true =>
      rw [if_pos rfl, w64 (by omega) (by omega), show ((i : Int) + 1) = ((i + 1 : Nat) : Int) from by omega, ih k (i + 1) (by omega) (by omega), Bool.true_and]
    | false => simp

theorem l1All_eq {k : Nat} {l : List Int} {a b : Int} (hl : l.length ≤ 4000000) (hk : l.length < k) : spec_l1All.f k l a b = some (l.all (inB a b)) := by
  unfold spec_l1All.f
  exact l1All_l0 l a b hl l.length k 0 (by omega) hk


theorem isValue_eq (x : Int) : impl_isValue.f x = some (inB (-1000000000) 1000000000 x) := by
  unfold impl_isValue.f
  rw [in_eq, Option.bind_some]

theorem notValue_eq (x : Int) : impl_areValues_1.f x = some (!inB (-1000000000) 1000000000 x) := by
  unfold impl_areValues_1.f
  rw [isValue_eq, Option.bind_some]

theorem indexNot_l0 (l : List Int) (hl : l.length ≤ 4000000) (d : Nat) : ∀ (k i : Nat), i + d = l.length → d < k →
    ∃ r, slices_IndexFunc_int_int_F64.l0 k l (l.length : Int) (i : Int) = some r ∧ (decide (r ≥ 0)) = !((l.drop i).all (inB (-1000000000) 1000000000)) := by
  induction d with
  | zero =>
    intro k i hi hk
    obtain ⟨k, rfl⟩ : ∃ m, k = m + 1 := ⟨k - 1, by omega⟩
    refine ⟨-1, ?_, ?_⟩
    · simp only [slices_IndexFunc_int_int_F64.l0]
      rw [if_neg (by omega)]
    · rw [List.drop_of_length_le (by omega)]
      rfl
  | succ d ih =>
    intro k i hi hk
    obtain ⟨k, rfl⟩ : ∃ m, k = m + 1 := ⟨k - 1, by omega⟩
    simp only [slices_IndexFunc_int_int_F64.l0]
    rw [if_pos (by omega), if_pos (by omega), if_pos (by omega), rd_at l i (by omega), notValue_eq, Option.bind_some, drop_cons l i (by omega), List.all_cons]
    cases h : inB (-1000000000) 1000000000 l[i] with
    | true =>
      rw [w64 (by omega) (by omega), show ((i : Int) + 1) = ((i + 1 : Nat) : Int) from by omega, Bool.true_and]
      simp only [Bool.not_true, Bool.false_eq_true, if_false]
      exact ih k (i + 1) (by omega) (by omega)
    | false => exact ⟨(i : Int), by simp, by simp⟩

theorem areValues_eq {k : Nat} {l : List Int} (hl : l.length ≤ 4000000) (hk : l.length < k) : impl_areValues.f k l = some (l.all (inB (-1000000000) 1000000000)) := by
  unfold impl_areValues.f slices_ContainsFunc_int_int_F64.f slices_IndexFunc_int_int_F64.f
  obtain ⟨r, hr, h⟩ := indexNot_l0 l hl l.length k 0 (by omega) hk
  rw [show ((0 : Nat) : Int) = 0 from rfl] at hr
  rw [hr, Option.bind_some, Option.bind_some, h, List.drop_zero, Bool.not_not]

/-- A memory is right. -/
def memB (l : List Int) : Bool := decide (l.length ≤ 40) && l.all (inB (-1000000000) 1000000000)

theorem specMemoryOk_eq {k : Nat} {l : List Int} (hl : l.length ≤ 4000000) (hk : l.length < k) : spec_MemoryOk.f k l = some (memB l) := by
  unfold spec_MemoryOk.f memB
  by_cases h : l.length ≤ 40
  · rw [if_pos (by omega), l1All_eq hl hk, Option.bind_some, decide_eq_true h, Bool.true_and]
  · rw [if_neg (by omega), decide_eq_false h, Bool.false_and]

theorem implMemoryOk_eq {k : Nat} {l : List Int} (hl : l.length ≤ 4000000) (hk : l.length < k) : impl_MemoryOk.f k l = some (memB l) := by
  unfold impl_MemoryOk.f memB
  by_cases h : l.length ≤ 40
  · rw [if_pos (by omega), areValues_eq hl hk, Option.bind_some, decide_eq_true h, Bool.true_and]
  · rw [if_neg (by omega), decide_eq_false h, Bool.false_and]


end Go.Proofs.Ytbhlmgljflggeaa.M
namespace Go.Proofs.Ytbhlmgljflggeaa.M
set_option linter.unusedVariables false
set_option linter.unusedSimpArgs false
open Go.RowKit Go.Proofs.YtbhlmgljflggeaaW.PrintWords Go.Proofs.Ytbhlmgljflggeaa.Pb

theorem l1Copy_eq {l : List Int} (hl : l.length ≤ 4000000) : spec_l1Copy.f l = some l := by
  unfold spec_l1Copy.f
  rw [Option.bind_some, if_pos (by simp; omega), List.nil_append]
theorem own_eq {l : List Int} (hl : l.length ≤ 4000000) : impl_own.f l = some l := by
  unfold impl_own.f
  rw [Option.bind_some, if_pos (by simp; omega), List.nil_append]
theorem inB_iff {a b x : Int} : inB a b x = true ↔ a ≤ x ∧ x ≤ b := by simp [inB]

theorem mem_rd {m : List Int} (h : memB m = true) (b : Int) (h0 : 0 ≤ b) (h1 : b < (m.length : Int)) : -1000000000 ≤ rd m b ∧ rd m b ≤ 1000000000 := by
  obtain ⟨n, rfl⟩ := Int.eq_ofNat_of_zero_le h0
  rw [rd_at m n (by omega)]
  simp only [memB, Bool.and_eq_true, List.all_eq_true] at h
  exact inB_iff.1 (h.2 _ (List.getElem_mem _))

/-- Is the op right? -/
def okOp (m : List Int) (a b c d : Int) : Bool := memB m && (inB 1 5 a && (inB 0 ((m.length : Int) - 1) b && ((decide (a = 1) || inB (-1000000000) 1000000000 d) && (!decide (a = 4) || inB (-1000000000) 1000000000 c))))
def wordR (m : List Int) (a b c d : Int) : List Int × Int × Bool :=
  if okOp m a b c d = true then
    if a = 2 then (m.set b.toNat d, d, true)
    else if a = 3 then (m.set b.toNat d, rd m b, true)
    else if a = 4 then (if rd m b = c then (m.set b.toNat d, rd m b, true) else (m, rd m b, true))
    else if a = 5 then (if inB (-1000000000) 1000000000 (rd m b + d) = true then (m.set b.toNat (rd m b + d), rd m b + d, true) else (m, 0, false))
    else (m, rd m b, true)
  else (m, 0, false)

theorem wordR_len (m : List Int) (a b c d : Int) : (wordR m a b c d).1.length = m.length := by
  unfold wordR
  repeat' split
  all_goals simp

theorem implWord_j0 {k : Nat} {m : List Int} {a b c d : Int} (hl : m.length ≤ 4000000) (h : okOp m a b c d = true) : impl_Word.j0 (k + 1) m m false a b c d = some (wordR m a b c d) := by
  have h' := h
  simp only [okOp, Bool.and_eq_true, Bool.or_eq_true, decide_eq_true_eq, Bool.not_eq_true', decide_eq_false_iff_not] at h'
  obtain ⟨h1, h2, h3, h4, h5⟩ := h'
  have hb := inB_iff.1 h3
  have hr := mem_rd h1 b hb.1 (by omega)
  simp only [impl_Word.j0, wordR, h, if_true, Bool.false_eq_true, if_false]
  rw [if_pos hb.1, if_pos (by omega)]
  have hb2 : b < (m.length : Int) := by omega
  simp only [hb2, if_true]
  by_cases e5 : a = 5
  · subst e5
    have hd := inB_iff.1 (h4.resolve_left (by decide))
    rw [w64 (x := rd m b + d) (by omega) (by omega), isValue_eq, Option.bind_some]
    cases h6 : inB (-1000000000) 1000000000 (rd m b + d) <;> simp
  · simp only [e5, if_false]
    repeat' split
    all_goals rfl

theorem implWord_eq {k : Nat} {m : List Int} {a b c d : Int} (hl : m.length ≤ 4000000) (hk : m.length + 2 < k) : impl_Word.f k m a b c d = some (wordR m a b c d) := by
  obtain ⟨k, rfl⟩ : ∃ q, k = q + 1 := ⟨k - 1, by omega⟩
  have hno : okOp m a b c d = false → wordR m a b c d = (m, 0, false) := fun h => by simp [wordR, h]
  have hj : impl_Word.j0 (k + 1) m m true a b c d = some (m, 0, false) := by simp [impl_Word.j0]
  unfold impl_Word.f
  rw [own_eq hl, Option.bind_some, implMemoryOk_eq hl (by omega), Option.bind_some]
  simp only [in_eq, isValue_eq, Option.bind_some, hj]
  have ew : wrap64 ((m.length : Int) - 1) = (m.length : Int) - 1 := w64 (by omega) (by omega)
  rw [ew]
  cases ho : okOp m a b c d with
  | true =>
    have h' := ho
    simp only [okOp, Bool.and_eq_true, Bool.or_eq_true, decide_eq_true_eq, Bool.not_eq_true', decide_eq_false_iff_not] at h'
    obtain ⟨h1, h2, h3, h4, h5⟩ := h'
    have hg := implWord_j0 (k := k) hl ho
    simp only [h1, h2, h3, if_true]
    by_cases e4 : a = 4
    · have h5' := h5.resolve_left (by simpa using e4)
      have e1 : ¬ a = 1 := by omega
      have h4' := h4.resolve_left e1
      simp only [e4, if_true, h5', h4', Bool.not_true]
      rw [← e4]
      simpa [e1] using hg
    · simp only [e4, if_false]
      by_cases e1 : a = 1
      · subst e1
        simpa using hg
      · have h4' := h4.resolve_left e1
        simp only [e1, if_false, h4', Bool.not_true]
        exact hg
  | false =>
    rw [hno ho]
    simp only [okOp] at ho
    cases h1 : memB m with
    | false => simp
    | true =>
      cases h2 : inB 1 5 a with
      | false => simp
      | true =>
        cases h3 : inB 0 ((m.length : Int) - 1) b with
        | false => simp
        | true =>
          simp only [h1, h2, h3, Bool.true_and, Bool.and_eq_false_iff, Bool.or_eq_false_iff] at ho
          simp only [if_true]
          by_cases e1 : a = 1
          · exfalso
            subst e1
            simp at ho
          · simp only [e1, if_false]
            cases h4 : inB (-1000000000) 1000000000 d with
            | false =>
              simp only [Bool.not_false]
              rw [hj]
              repeat' split
              all_goals rfl
            | true =>
              rw [h4] at ho
              by_cases e4 : a = 4
              · have h5 : inB (-1000000000) 1000000000 c = false := by simpa [e4] using ho
                simp [e4, h5]
              · simp [e4] at ho


end Go.Proofs.Ytbhlmgljflggeaa.M
namespace Go.Proofs.Ytbhlmgljflggeaa.M
set_option linter.unusedVariables false
set_option linter.unusedSimpArgs false
open Go.RowKit Go.Proofs.YtbhlmgljflggeaaW.PrintWords Go.Proofs.Ytbhlmgljflggeaa.Pb

theorem l1Has_l0 (l : List Int) (x : Int) (hl : l.length ≤ 4000000) (d : Nat) : ∀ (k i : Nat), i + d = l.length → d < k → spec_l1Has.l0 k l x (i : Int) = some (decide (x ∈ l.drop i)) := by
  induction d with
  | zero =>
    intro k i hi hk
    obtain ⟨k, rfl⟩ : ∃ m, k = m + 1 := ⟨k - 1, by omega⟩
    simp only [spec_l1Has.l0]
    rw [if_neg (by omega), List.drop_of_length_le (by omega)]
    simp
  | succ d ih =>
    intro k i hi hk
    obtain ⟨k, rfl⟩ : ∃ m, k = m + 1 := ⟨k - 1, by omega⟩
    simp only [spec_l1Has.l0]
    rw [if_pos (by omega), if_pos (by omega), rd_at l i (by omega), drop_cons l i (by omega)]
    by_cases h : l[i] = x
    · rw [if_pos h]
      simp [h]
    · rw [if_neg h, w64 (by omega) (by omega), show ((i : Int) + 1) = ((i + 1 : Nat) : Int) from by omega, ih k (i + 1) (by omega) (by omega)]
      have h2 : ¬ x = l[i] := fun e => h e.symm
      simp [-List.getElem_cons_drop, h2]
theorem l1Has_eq {k : Nat} {l : List Int} {x : Int} (hl : l.length ≤ 4000000) (hk : l.length < k) : spec_l1Has.f k l x = some (decide (x ∈ l)) := by
  unfold spec_l1Has.f
  have h := l1Has_l0 l x hl l.length k 0 (by omega) hk
  rw [List.drop_zero] at h
  exact h

theorem index_l0 (l : List Int) (x : Int) (hl : l.length ≤ 4000000) (d : Nat) : ∀ (k i : Nat), i + d = l.length → d < k → ∃ r, slices_Index_int_int.l0 k l x (l.length : Int) (i : Int) = some r ∧ decide (r ≥ 0) = decide (x ∈ l.drop i) := by
  induction d with
  | zero =>
    intro k i hi hk
    obtain ⟨k, rfl⟩ : ∃ m, k = m + 1 := ⟨k - 1, by omega⟩
    refine ⟨-1, ?_, ?_⟩
    · simp only [slices_Index_int_int.l0]
      rw [if_neg (by omega)]
    · rw [List.drop_of_length_le (by omega)]
      simp
  | succ d ih =>
    intro k i hi hk
    obtain ⟨k, rfl⟩ : ∃ m, k = m + 1 := ⟨k - 1, by omega⟩
    simp only [slices_Index_int_int.l0]
    rw [if_pos (by omega), if_pos (by omega), if_pos (by omega), rd_at l i (by omega), drop_cons l i (by omega)]
    by_cases h : x = l[i]
    · rw [if_pos h]
      exact ⟨(i : Int), rfl, by simp [← h]⟩
    · rw [if_neg h, w64 (by omega) (by omega), show ((i : Int) + 1) = ((i + 1 : Nat) : Int) from by omega]
      obtain ⟨r, h1, h2⟩ := ih k (i + 1) (by omega) (by omega)
      exact ⟨r, h1, by rw [h2]; simp [-List.getElem_cons_drop, h]⟩
theorem contains_eq {k : Nat} {l : List Int} {x : Int} (hl : l.length ≤ 4000000) (hk : l.length < k) : slices_Contains_int_int.f k l x = some (decide (x ∈ l)) := by
  unfold slices_Contains_int_int.f slices_Index_int_int.f
  obtain ⟨r, h1, h2⟩ := index_l0 l x hl l.length k 0 (by omega) hk
  rw [show ((0 : Nat) : Int) = 0 from rfl] at h1
  rw [h1, Option.bind_some, h2, List.drop_zero]

/-- The loop of SwapAll from place i on: d places are left; out: what is swapped so far. -/
def swapR (m at_ old new : List Int) : Nat → Nat → List Int → List Int × Bool
  | _, 0, out => (out, true)
  | i, d + 1, out =>
    if (inB 0 ((m.length : Int) - 1) (rd at_ i) && (!decide (rd at_ i ∈ at_.take i) && decide (rd m (rd at_ i) = rd old i))) = true then swapR m at_ old new (i + 1) d (out.set (rd at_ i).toNat (rd new i))
    else (m, false)
theorem specSwap_l0 (m at_ old new : List Int) (hm : m.length ≤ 40) (ha : at_.length ≤ 4000000) (ho : old.length = at_.length) (hn : new.length = at_.length) (d : Nat) :
    ∀ (k i : Nat) (out : List Int), i + d = at_.length → d + at_.length < k → out.length = m.length → spec_SwapAll.l0 k m at_ old new out (i : Int) = some (swapR m at_ old new i d out) := by
  induction d with
  | zero =>
    intro k i out hi hk hx
    obtain ⟨k, rfl⟩ : ∃ q, k = q + 1 := ⟨k - 1, by omega⟩
    simp only [spec_SwapAll.l0, swapR]
    rw [if_neg (by omega)]
  | succ d ih =>
    intro k i out hi hk hx
    obtain ⟨k, rfl⟩ : ∃ q, k = q + 1 := ⟨k - 1, by omega⟩
    simp only [spec_SwapAll.l0, swapR]
    have ew : wrap64 ((m.length : Int) - 1) = (m.length : Int) - 1 := w64 (by omega) (by omega)
    rw [if_pos (by omega), if_pos (by omega), l1In_eq, Option.bind_some, ew, Int.toNat_natCast, l1Copy_eq (by omega), Option.bind_some]
    cases h1 : inB 0 ((m.length : Int) - 1) (rd at_ (i : Int)) with
    | false => simp
    | true =>
      have hb := inB_iff.1 h1
      rw [if_pos rfl, if_pos (by omega), l1Has_eq (by rw [List.length_take]; omega) (by rw [List.length_take]; omega), Option.bind_some]
      cases h2 : decide (rd at_ (i : Int) ∈ at_.take i) with
      | true => simp
      | false =>
        simp only [Bool.false_eq_true, if_false]
        rw [if_pos hb.1, if_pos (by omega), if_pos (by omega)]
        by_cases h3 : rd m (rd at_ (i : Int)) = rd old (i : Int)
        · rw [if_pos h3, if_pos (by omega), if_pos (by omega), w64 (by omega) (by omega), show ((i : Int) + 1) = ((i + 1 : Nat) : Int) from by omega, ih k (i + 1) _ (by omega) (by omega) (by simpa using hx)]
          simp [h3]
        · rw [if_neg h3]
          simp [h3]

theorem implSwap_l0 (m at_ old new : List Int) (hm : m.length ≤ 40) (ha : at_.length ≤ 4000000) (ho : old.length = at_.length) (hn : new.length = at_.length) (d : Nat) :
    ∀ (k i : Nat) (out : List Int), i + d = at_.length → d + at_.length < k → out.length = m.length → impl_SwapAll.l0 k m at_ old new out at_ (at_.length : Int) (i : Int) = some (swapR m at_ old new i d out) := by
  induction d with
  | zero =>
    intro k i out hi hk hx
    obtain ⟨k, rfl⟩ : ∃ q, k = q + 1 := ⟨k - 1, by omega⟩
    simp only [impl_SwapAll.l0, swapR]
    rw [if_neg (by omega)]
  | succ d ih =>
    intro k i out hi hk hx
    obtain ⟨k, rfl⟩ : ∃ q, k = q + 1 := ⟨k - 1, by omega⟩
    simp only [impl_SwapAll.l0, swapR]
    have ew : wrap64 ((m.length : Int) - 1) = (m.length : Int) - 1 := w64 (by omega) (by omega)
    rw [if_pos (by omega), if_pos (by omega), if_pos (by omega), in_eq, Option.bind_some, ew, Int.toNat_natCast, own_eq (by omega), Option.bind_some]
    cases h1 : inB 0 ((m.length : Int) - 1) (rd at_ (i : Int)) with
    | false => simp
    | true =>
      have hb := inB_iff.1 h1
      rw [if_pos rfl, if_pos (by omega), contains_eq (by rw [List.length_take]; omega) (by rw [List.length_take]; omega), Option.bind_some]
      cases h2 : decide (rd at_ (i : Int) ∈ at_.take i) with
      | true => simp
      | false =>
        simp only [Bool.false_eq_true, if_false]
        rw [if_pos hb.1, if_pos (by omega), if_pos (by omega)]
        by_cases h3 : rd m (rd at_ (i : Int)) = rd old (i : Int)
        · rw [if_pos h3, if_pos (by omega), if_pos (by omega), w64 (by omega) (by omega), show ((i : Int) + 1) = ((i + 1 : Nat) : Int) from by omega, ih k (i + 1) _ (by omega) (by omega) (by simpa using hx)]
          simp [h3]
        · rw [if_neg h3]
          simp [h3]

/-- Are old and new right? The reference's own length bound on them follows from the memory's where the loop is come to. -/
def swapAllR (m at_ old new : List Int) : List Int × Bool :=
  if (memB m && (decide (at_.length = old.length) && (decide (at_.length = new.length) && (old.all (inB (-1000000000) 1000000000) && new.all (inB (-1000000000) 1000000000))))) = true then swapR m at_ old new 0 at_.length m
  else (m, false)

theorem nodup_short : ∀ (n : Nat) (l : List Int), l.Nodup → (∀ x ∈ l, 0 ≤ x ∧ x < (n : Int)) → l.length ≤ n
  | 0, l, _, hr => by
    cases l with
    | nil => simp
    | cons x l => have := hr x (by simp); omega
  | n + 1, l, hd, hr => by
    by_cases h : (n : Int) ∈ l
    · have h1 : (l.erase (n : Int)).length = l.length - 1 := List.length_erase_of_mem h
      have h2 := nodup_short n (l.erase (n : Int)) (hd.erase _) (fun x hx => by
        have hx1 := (List.Nodup.mem_erase_iff hd).1 hx
        have := hr x hx1.2
        have := hx1.1
        omega)
      omega
    · have h2 := nodup_short n l hd (fun x hx => by
        have := hr x hx
        have : x ≠ (n : Int) := fun e => h (e ▸ hx)
        omega)
      omega

theorem swapR_true (m at_ old new : List Int) (d : Nat) : ∀ (i : Nat) (out : List Int), i + d = at_.length → (at_.take i).Nodup → (∀ x ∈ at_.take i, 0 ≤ x ∧ x < (m.length : Int)) →
    (swapR m at_ old new i d out).2 = true → at_.Nodup ∧ ∀ x ∈ at_, 0 ≤ x ∧ x < (m.length : Int) := by
  induction d with
  | zero =>
    intro i out hi h1 h2 _
    rw [List.take_of_length_le (by omega)] at h1 h2
    exact ⟨h1, h2⟩
  | succ d ih =>
    intro i out hi h1 h2 h
    unfold swapR at h
    split at h
    · rename_i hc
      simp only [Bool.and_eq_true, Bool.not_eq_true', decide_eq_false_iff_not, decide_eq_true_eq] at hc
      obtain ⟨c1, c2, _⟩ := hc
      have hb := inB_iff.1 c1
      have hlt : i < at_.length := by omega
      rw [rd_at at_ i hlt] at c2 hb
      have et := List.take_succ_eq_append_getElem hlt
      refine ih (i + 1) _ (by omega) ?_ ?_ h
      · rw [et, List.nodup_append]
        refine ⟨h1, by simp, fun a ha b hb e => ?_⟩
        simp only [List.mem_singleton] at hb
        subst hb
        subst e
        exact c2 ha
      · intro x hx
        rw [et] at hx
        rcases List.mem_append.1 hx with hx | hx
        · exact h2 x hx
        · simp only [List.mem_singleton] at hx
          subst hx
          omega
    · simp at h

theorem swapR_snd (m at_ old new : List Int) (d : Nat) : ∀ (i : Nat) (out : List Int), (swapR m at_ old new i d out).2 = false → swapR m at_ old new i d out = (m, false) := by
  induction d with
  | zero => intro i out h; simp [swapR] at h
  | succ d ih =>
    intro i out h
    unfold swapR at h ⊢
    split
    · rename_i hc
      rw [if_pos hc] at h
      exact ih _ _ h
    · rfl

theorem swapR_long (m at_ old new : List Int) (h : m.length < at_.length) (out : List Int) : swapR m at_ old new 0 at_.length out = (m, false) := by
  refine swapR_snd m at_ old new at_.length 0 out ?_
  cases hs : (swapR m at_ old new 0 at_.length out).2 with
  | false => rfl
  | true =>
    obtain ⟨h1, h2⟩ := swapR_true m at_ old new at_.length 0 out (by omega) (by simp) (by simp) hs
    have := nodup_short m.length at_ h1 h2
    omega

theorem implSwapAll_eq {k : Nat} {m at_ old new : List Int} (hm : m.length ≤ 4000000) (ha : at_.length ≤ 4000000) (ho : old.length ≤ 4000000) (hn : new.length ≤ 4000000)
    (hk : m.length + 2 * at_.length + old.length + new.length + 5 < k) : impl_SwapAll.f k m at_ old new = some (swapAllR m at_ old new) := by
  obtain ⟨k, rfl⟩ : ∃ q, k = q + 1 := ⟨k - 1, by omega⟩
  have hj : impl_SwapAll.j0 (k + 1) m at_ old new m true = some (m, false) := by simp [impl_SwapAll.j0]
  unfold impl_SwapAll.f swapAllR
  rw [own_eq hm, Option.bind_some, implMemoryOk_eq hm (by omega), Option.bind_some]
  cases h1 : memB m with
  | false => simp [hj]
  | true =>
    have hm40 : m.length ≤ 40 := by
      simp only [memB, Bool.and_eq_true, decide_eq_true_eq] at h1
      exact h1.1
    rw [if_pos rfl]
    by_cases h2 : at_.length = old.length
    · rw [if_pos (by omega)]
      by_cases h3 : at_.length = new.length
      · rw [if_pos (by omega), areValues_eq ho (by omega), Option.bind_some, areValues_eq hn (by omega), Option.bind_some]
        cases h4 : old.all (inB (-1000000000) 1000000000) with
        | false => simp [hj]
        | true =>
          cases h5 : new.all (inB (-1000000000) 1000000000) with
          | false => simp [hj]
          | true =>
            have hg := implSwap_l0 m at_ old new hm40 ha (by omega) (by omega) at_.length k 0 m (by omega) (by omega) rfl
            have h6 : old.length = new.length := by omega
            simp only [h2, h6, if_true, Bool.not_true, impl_SwapAll.j0, Bool.false_eq_true, if_false, decide_true, Bool.and_self] at hg ⊢
            exact hg
      · rw [if_neg (by omega), hj]
        simp [h3]
    · rw [if_neg (by omega), hj]
      simp [h2]

theorem specSwapAll_eq {k : Nat} {m at_ old new : List Int} (hm : m.length ≤ 4000000) (ha : at_.length ≤ 4000000) (ho : old.length ≤ 4000000) (hn : new.length ≤ 4000000)
    (hk : m.length + 2 * at_.length + old.length + new.length + 5 < k) : spec_SwapAll.f k m at_ old new = some (swapAllR m at_ old new) := by
  obtain ⟨k, rfl⟩ : ∃ q, k = q + 1 := ⟨k - 1, by omega⟩
  have hj : spec_SwapAll.j0 (k + 1) m at_ old new m true = some (m, false) := by simp [spec_SwapAll.j0]
  unfold spec_SwapAll.f swapAllR
  rw [l1Copy_eq hm, Option.bind_some, specMemoryOk_eq hm (by omega), Option.bind_some]
  cases h1 : memB m with
  | false => simp [hj]
  | true =>
    have hm40 : m.length ≤ 40 := by
      simp only [memB, Bool.and_eq_true, decide_eq_true_eq] at h1
      exact h1.1
    rw [if_pos rfl]
    by_cases h2 : at_.length = old.length
    · rw [if_pos (by omega)]
      by_cases h3 : at_.length = new.length
      · rw [if_pos (by omega), specMemoryOk_eq ho (by omega), Option.bind_some, specMemoryOk_eq hn (by omega), Option.bind_some]
        by_cases h40 : at_.length ≤ 40
        · have e1 : memB old = old.all (inB (-1000000000) 1000000000) := by simp [memB, show old.length ≤ 40 by omega]
          have e2 : memB new = new.all (inB (-1000000000) 1000000000) := by simp [memB, show new.length ≤ 40 by omega]
          rw [e1, e2]
          cases h4 : old.all (inB (-1000000000) 1000000000) with
          | false => simp [hj]
          | true =>
            cases h5 : new.all (inB (-1000000000) 1000000000) with
            | false => simp [hj]
            | true =>
              have hg := specSwap_l0 m at_ old new hm40 ha (by omega) (by omega) at_.length k 0 m (by omega) (by omega) rfl
              have h6 : old.length = new.length := by omega
              simp only [h2, h6, if_true, Bool.not_true, spec_SwapAll.j0, Bool.false_eq_true, if_false, decide_true, Bool.and_self] at hg ⊢
              exact hg
        · have e1 : memB old = false := by simp [memB, show ¬ old.length ≤ 40 by omega]
          rw [e1]
          simp only [Bool.false_eq_true, if_false]
          rw [hj, swapR_long m at_ old new (by omega) m]
          split <;> rfl
      · rw [if_neg (by omega), hj]
        simp [h3]
    · rw [if_neg (by omega), hj]
      simp [h2]


end Go.Proofs.Ytbhlmgljflggeaa.M
namespace Go.Proofs.Ytbhlmgljflggeaa.M
set_option linter.unusedVariables false
set_option linter.unusedSimpArgs false
open Go.RowKit Go.Proofs.YtbhlmgljflggeaaW.PrintWords Go.Proofs.Ytbhlmgljflggeaa.Pb

def okAt (m at_ old : List Int) (p : Nat) : Bool := inB 0 ((m.length : Int) - 1) (rd at_ p) && (!decide (rd at_ p ∈ at_.take p) && decide (rd m (rd at_ p) = rd old p))
def writeR (at_ new : List Int) : Nat → Nat → List Int → List Int
  | _, 0, out => out
  | i, d + 1, out => writeR at_ new (i + 1) d (out.set (rd at_ i).toNat (rd new i))
theorem writeR_len (at_ new : List Int) (d : Nat) : ∀ (i : Nat) (out : List Int), (writeR at_ new i d out).length = out.length := by
  induction d with
  | zero => intro i out; rfl
  | succ d ih => intro i out; rw [writeR, ih]; simp
theorem rd_set (l : List Int) (n q v : Int) (h0 : 0 ≤ q) (h1 : q < (l.length : Int)) (h2 : 0 ≤ n) : rd (l.set n.toNat v) q = if q = n then v else rd l q := by
  obtain ⟨a, rfl⟩ := Int.eq_ofNat_of_zero_le h0
  obtain ⟨b, rfl⟩ := Int.eq_ofNat_of_zero_le h2
  rw [rd_at _ a (by simp; omega), rd_at l a (by omega)]
  simp only [Int.toNat_natCast, List.getElem_set, Int.natCast_inj]
  by_cases e : a = b
  · subst e; simp
  · rw [if_neg e, if_neg (fun h => e h.symm)]
theorem writeR_other (at_ new : List Int) (q : Int) (h0 : 0 ≤ q) (d : Nat) : ∀ (i : Nat) (out : List Int), q < (out.length : Int) → (∀ p : Nat, i ≤ p → p < i + d → rd at_ p ≠ q ∧ 0 ≤ rd at_ p) → rd (writeR at_ new i d out) q = rd out q := by
  induction d with
  | zero => intro i out _ _; rfl
  | succ d ih =>
    intro i out hq h
    have h1 := h i (by omega) (by omega)
    rw [writeR, ih (i + 1) _ (by simpa using hq) (fun p a b => h p (by omega) (by omega)), rd_set out _ q _ h0 hq h1.2, if_neg (fun e => h1.1 e.symm)]
theorem writeR_at (at_ new : List Int) (p : Nat) (d : Nat) : ∀ (i : Nat) (out : List Int), i ≤ p → p < i + d → (∀ p' : Nat, i ≤ p' → p' < i + d → 0 ≤ rd at_ p' ∧ rd at_ p' < (out.length : Int)) → (∀ p' : Nat, p < p' → p' < i + d → rd at_ p' ≠ rd at_ p) →
    rd (writeR at_ new i d out) (rd at_ p) = rd new p := by
  induction d with
  | zero => intro i out h1 h2; omega
  | succ d ih =>
    intro i out h1 h2 hr hd
    rw [writeR]
    by_cases e : i = p
    · subst e
      have hi := hr i (by omega) (by omega)
      rw [writeR_other at_ new _ hi.1 d (i + 1) _ (by simpa using hi.2) (fun p' a b => ⟨hd p' (by omega) (by omega), (hr p' (by omega) (by omega)).1⟩), rd_set out _ _ _ hi.1 hi.2 hi.1, if_pos rfl]
    · exact ih (i + 1) _ (by omega) (by omega) (fun p' a b => by simpa using hr p' (by omega) (by omega)) (fun p' a b => hd p' a (by omega))

theorem swapR_eq (m at_ old new : List Int) (d : Nat) : ∀ (i : Nat) (out : List Int), ((∀ p : Nat, i ≤ p → p < i + d → okAt m at_ old p = true) → swapR m at_ old new i d out = (writeR at_ new i d out, true)) ∧ ((swapR m at_ old new i d out).2 = true → ∀ p : Nat, i ≤ p → p < i + d → okAt m at_ old p = true) := by
  induction d with
  | zero => intro i out; exact ⟨fun _ => rfl, fun _ p a b => by omega⟩
  | succ d ih =>
    intro i out
    have e : swapR m at_ old new i (d + 1) out = if okAt m at_ old i = true then swapR m at_ old new (i + 1) d (out.set (rd at_ i).toNat (rd new i)) else (m, false) := rfl
    rw [e]
    obtain ⟨i1, i2⟩ := ih (i + 1) (out.set (rd at_ i).toNat (rd new i))
    constructor
    · intro h
      rw [if_pos (h i (by omega) (by omega)), i1 (fun p a b => h p (by omega) (by omega))]
      rfl
    · intro h
      by_cases hi : okAt m at_ old i = true
      · rw [if_pos hi] at h
        intro p a b
        by_cases e : p = i
        · subst e; exact hi
        · exact i2 h p (by omega) (by omega)
      · rw [if_neg hi] at h
        simp at h

/-- What SwapAll's yes says. -/
structure Said (m at_ old new out : List Int) : Prop where
  mem : memB m = true
  lo : at_.length = old.length
  ln : at_.length = new.length
  ro : old.all (inB (-1000000000) 1000000000) = true
  rn : new.all (inB (-1000000000) 1000000000) = true
  len : out.length = m.length
  rng : ∀ p : Nat, p < at_.length → 0 ≤ rd at_ p ∧ rd at_ p < (m.length : Int)
  dis : ∀ p p' : Nat, p < p' → p' < at_.length → rd at_ p' ≠ rd at_ p
  was : ∀ p : Nat, p < at_.length → rd m (rd at_ p) = rd old p
  now : ∀ p : Nat, p < at_.length → rd out (rd at_ p) = rd new p
  els : ∀ q : Int, 0 ≤ q → q < (m.length : Int) → q ∉ at_ → rd out q = rd m q

theorem mem_rd_of (l : List Int) (p : Nat) (h : p < l.length) : rd l p ∈ l := by
  rw [rd_at l p h]; exact List.getElem_mem _
theorem of_mem_rd (l : List Int) (q : Int) (h : q ∈ l) : ∃ p : Nat, p < l.length ∧ rd l p = q := by
  obtain ⟨p, hp, e⟩ := List.getElem_of_mem h
  exact ⟨p, hp, by rw [rd_at l p hp, e]⟩

theorem said_of {m at_ old new out : List Int} (h : swapAllR m at_ old new = (out, true)) : Said m at_ old new out := by
  unfold swapAllR at h
  split at h
  · rename_i hc
    simp only [Bool.and_eq_true, decide_eq_true_eq] at hc
    obtain ⟨h1, h2, h3, h4, h5⟩ := hc
    have hk := (swapR_eq m at_ old new at_.length 0 m).2 (by rw [h])
    have he := (swapR_eq m at_ old new at_.length 0 m).1 hk
    rw [h] at he
    have ho : out = writeR at_ new 0 at_.length m := (Prod.mk.inj he).1
    have hok : ∀ p : Nat, p < at_.length → (0 ≤ rd at_ p ∧ rd at_ p < (m.length : Int)) ∧ rd at_ p ∉ at_.take p ∧ rd m (rd at_ p) = rd old p := by
      intro p hp
      have := hk p (by omega) (by omega)
      simp only [okAt, Bool.and_eq_true, inB, decide_eq_true_eq, Bool.not_eq_true', decide_eq_false_iff_not] at this
      exact ⟨⟨this.1.1, by omega⟩, this.2.1, this.2.2⟩
    have hdis : ∀ p p' : Nat, p < p' → p' < at_.length → rd at_ p' ≠ rd at_ p := by
      intro p p' a b e
      apply (hok p' b).2.1
      rw [e, rd_at at_ p (by omega)]
      have : at_[p]'(by omega) = (at_.take p')[p]'(by simp; omega) := by simp
      rw [this]
      exact List.getElem_mem _
    refine ⟨h1, h2, h3, h4, h5, by rw [ho, writeR_len], fun p hp => (hok p hp).1, hdis, fun p hp => (hok p hp).2.2, ?_, ?_⟩
    · intro p hp
      rw [ho]
      exact writeR_at at_ new p at_.length 0 m (by omega) (by omega) (fun p' _ b => (hok p' (by omega)).1) (fun p' a b => hdis p p' a (by omega))
    · intro q h0 hq hn
      rw [ho]
      exact writeR_other at_ new q h0 at_.length 0 m hq (fun p _ b => ⟨fun e => hn (e ▸ mem_rd_of at_ p (by omega)), (hok p (by omega)).1.1⟩)
  · simp at h

theorem no_of {m at_ old new out : List Int} (h : swapAllR m at_ old new = (out, false)) : out = m := by
  unfold swapAllR at h
  split at h
  · have := swapR_snd m at_ old new at_.length 0 m (by rw [h])
    rw [h] at this
    exact (Prod.mk.inj this).1
  · exact (Prod.mk.inj h).1.symm

theorem back_of {m at_ old new out : List Int} (h : Said m at_ old new out) : swapAllR out at_ new old = (m, true) := by
  have hall : out.all (inB (-1000000000) 1000000000) = true := by
    rw [List.all_eq_true]
    intro x hx
    obtain ⟨q, hq, e⟩ := of_mem_rd out x hx
    by_cases hm : (q : Int) ∈ at_
    · obtain ⟨p, hp, e2⟩ := of_mem_rd at_ _ hm
      have h1 := h.now p hp
      rw [e2, e] at h1
      rw [h1]
      exact List.all_eq_true.1 h.rn _ (mem_rd_of new p (by have := h.ln; omega))
    · have h1 := h.els q (by omega) (by have := h.len; omega) hm
      rw [e] at h1
      rw [h1]
      have h2 := h.mem
      simp only [memB, Bool.and_eq_true] at h2
      exact List.all_eq_true.1 h2.2 _ (mem_rd_of m q (by have := h.len; omega))
  have hmem : memB out = true := by
    have h2 := h.mem
    simp only [memB, Bool.and_eq_true, decide_eq_true_eq] at h2 ⊢
    exact ⟨by rw [h.len]; exact h2.1, hall⟩
  unfold swapAllR
  rw [if_pos (by simp only [hmem, h.lo.symm, h.ln.symm, h.ro, h.rn, decide_true, Bool.and_self])]
  have hok : ∀ p : Nat, 0 ≤ p → p < 0 + at_.length → okAt out at_ new p = true := by
    intro p _ hp
    have hr := h.rng p (by omega)
    simp only [okAt, Bool.and_eq_true, inB, decide_eq_true_eq, Bool.not_eq_true', decide_eq_false_iff_not]
    refine ⟨⟨hr.1, by have := h.len; omega⟩, ?_, h.now p (by omega)⟩
    intro hm
    obtain ⟨p', hp', e⟩ := List.getElem_of_mem hm
    have hl : p' < p := by simp at hp'; omega
    apply h.dis p' p hl (by omega)
    rw [← e, rd_at at_ p' (by omega)]
    simp
  rw [(swapR_eq out at_ new old at_.length 0 out).1 hok]
  congr 1
  apply List.ext_getElem
  · rw [writeR_len, h.len]
  · intro q hq hq2
    rw [← rd_at _ q hq, ← rd_at m q hq2]
    by_cases hm : (q : Int) ∈ at_
    · obtain ⟨p, hp, e2⟩ := of_mem_rd at_ _ hm
      rw [← e2, writeR_at at_ old p at_.length 0 out (by omega) (by omega) (fun p' _ b => by rw [h.len]; exact h.rng p' (by omega)) (fun p' a b => h.dis p p' a (by omega)), h.was p hp]
    · rw [writeR_other at_ old q (by omega) at_.length 0 out (by rw [h.len]; omega) (fun p _ b => ⟨fun e => hm (e ▸ mem_rd_of at_ p (by omega)), (h.rng p (by omega)).1⟩), h.els q (by omega) (by omega) hm]


end Go.Proofs.Ytbhlmgljflggeaa.M
namespace Go.Proofs.Ytbhlmgljflggeaa.M
set_option linter.unusedVariables false
set_option linter.unusedSimpArgs false
open Go.RowKit Go.Proofs.YtbhlmgljflggeaaW.PrintWords Go.Proofs.Ytbhlmgljflggeaa.Pb

theorem and255 (n : Int) : bits .and .i64 n 255 = n % 256 := by
  have h255 : (BitVec.ofInt 64 255).toNat = 2 ^ 8 - 1 := by decide
  have key : (BitVec.ofInt 64 n &&& BitVec.ofInt 64 255).toNat = (n % ((2 ^ 64 : Nat) : Int)).toNat % 2 ^ 8 := by
    rw [BitVec.toNat_and, BitVec.toNat_ofInt, h255, Nat.and_two_pow_sub_one_eq_mod]
  show IntKind.i64.wrap ((BitVec.ofInt 64 n &&& BitVec.ofInt 64 255).toNat : Nat) = n % 256
  rw [key, IntKind.wrap_i64]
  omega

theorem l1New_l0 (s : List Int) (hs : s.length ≤ 1048576) (d : Nat) : ∀ (k i : Nat) (x : Int), i + d = s.length → d < k → ∃ x', spec_l1New.l0 k s x (i : Int) = some (s, 0, x') := by
  induction d with
  | zero =>
    intro k i x hi hk
    obtain ⟨k, rfl⟩ : ∃ q, k = q + 1 := ⟨k - 1, by omega⟩
    rw [spec_l1New.l0, if_neg (by omega)]
    exact ⟨_, rfl⟩
  | succ d ih =>
    intro k i x hi hk
    obtain ⟨k, rfl⟩ : ∃ q, k = q + 1 := ⟨k - 1, by omega⟩
    rw [spec_l1New.l0, if_pos (by omega)]
    split
    · rw [if_pos (by omega), w64 (x := (i : Int) + 1) (by omega) (by omega), show ((i : Int) + 1) = ((i + 1 : Nat) : Int) from by omega]
      exact ih k (i + 1) _ (by omega) (by omega)
    · exact ⟨_, rfl⟩
theorem l1New_ok {k : Nat} {s : List Int} (hs : s.length ≤ 1048576) (hk : s.length < k) : ∃ x', spec_l1New.f k s = some (s, 0, x') := by
  unfold spec_l1New.f
  exact l1New_l0 s hs s.length k 0 _ (by omega) hk

/-- A place within the bytes. -/
def Pl (s : List Int) (p : Int) : Prop := 0 ≤ p ∧ p ≤ (s.length : Int)
theorem byte_ok {s : List Int} {p x : Int} (hs : s.length ≤ 1048576) (hp : Pl s p) : ∃ b p' x', spec_l1Byte.f s p x = some (b, p', x') ∧ 0 ≤ b ∧ b ≤ 255 ∧ Pl s p' := by
  obtain ⟨h0, h1⟩ := hp
  unfold spec_l1Byte.f
  by_cases h : p < (s.length : Int)
  · rw [if_pos h, if_pos h0]
    refine ⟨_, _, _, rfl, ?_, ?_, ?_, ?_⟩
    · rw [and255 (wrap64 _)]; omega
    · rw [and255 (wrap64 _)]; omega
    · rw [w64 (by omega) (by omega)]; omega
    · rw [w64 (by omega) (by omega)]; omega
  · rw [if_neg h]
    refine ⟨_, _, _, rfl, ?_, ?_, h0, h1⟩
    · rw [and255]; omega
    · rw [and255]; omega
theorem below_ok {s : List Int} {p x n : Int} (hs : s.length ≤ 1048576) (hp : Pl s p) (h0 : 0 < n) (h1 : n ≤ 256) : ∃ r p' x', spec_l1Below.f s p x n = some (r, p', x') ∧ 0 ≤ r ∧ r < n ∧ Pl s p' := by
  obtain ⟨b, p', x', e, hb0, hb1, hp'⟩ := byte_ok (x := x) hs hp
  unfold spec_l1Below.f
  rw [if_neg (by omega), if_pos h1, e, Option.bind_some, if_neg (by omega)]
  refine ⟨_, _, _, rfl, ?_, ?_, hp'⟩
  · exact Int.tmod_nonneg _ hb0
  · exact Int.tmod_lt_of_pos _ h0
theorem pick_ok {s : List Int} {p x : Int} {l : List Int} (hs : s.length ≤ 1048576) (hp : Pl s p) (h0 : 0 < l.length) (h1 : l.length ≤ 256) : ∃ v p' x', spec_l1PickInt.f s p x l = some (v, p', x') ∧ Pl s p' := by
  obtain ⟨r, p', x', e, hr0, hr1, hp'⟩ := below_ok (x := x) hs hp (n := (l.length : Int)) (by omega) (by omega)
  unfold spec_l1PickInt.f
  rw [e, Option.bind_some, if_pos hr0, if_pos hr1]
  exact ⟨_, _, _, rfl, hp'⟩
theorem once_ok {s : List Int} {p x n : Int} (hs : s.length ≤ 1048576) (hp : Pl s p) (h0 : 0 < n) (h1 : n ≤ 256) : ∃ r p' x', spec_l1Once.f s p x n = some (r, p', x') ∧ Pl s p' := by
  obtain ⟨r, p', x', e, hr0, hr1, hp'⟩ := below_ok (x := x) hs hp h0 h1
  unfold spec_l1Once.f
  rw [e, Option.bind_some]
  exact ⟨_, _, _, rfl, hp'⟩

theorem drawMemory_l0 (s : List Int) (hs : s.length ≤ 1048576) (d : Nat) : ∀ (k : Nat) (m : List Int) (p x : Int), d < k → Pl s p → 0 < m.length + d → m.length + d ≤ 20 →
    ∃ m' p' x', spec_l1DrawMemory.l0 k m (d : Int) s p x = some (m', p', x') ∧ m'.length ≤ 41 ∧ Pl s p' := by
  induction d with
  | zero =>
    intro k m p x hk hp h0 h1
    obtain ⟨k, rfl⟩ : ∃ q, k = q + 1 := ⟨k - 1, by omega⟩
    obtain ⟨r, p2, x2, e2, hr0, hr1, hp2⟩ := below_ok (x := x) hs hp (n := 40) (by omega) (by omega)
    rw [spec_l1DrawMemory.l0, if_neg (by omega), e2, Option.bind_some]
    simp only
    split
    · obtain ⟨v, p3, x3, e3, hp3⟩ := pick_ok (x := x2) (l := [(-1000000001), (-1000000000), 1000000000, 1000000001]) hs hp2 (by simp) (by simp)
      rw [e3, Option.bind_some, if_pos (by omega)]
      exact ⟨_, _, _, rfl, by simp; omega, hp3⟩
    · split
      · obtain ⟨q, p3, x3, e3, hq0, hq1, hp3⟩ := below_ok (x := x2) hs hp2 (n := 2) (by omega) (by omega)
        rw [e3, Option.bind_some]
        simp only
        rw [w64 (x := 40 + q) (by omega) (by omega), if_pos (by omega), if_pos (by omega)]
        exact ⟨_, _, _, rfl, by simp; omega, hp3⟩
      · split
        · exact ⟨_, _, _, rfl, by simp, hp2⟩
        · exact ⟨_, _, _, rfl, by omega, hp2⟩
  | succ d ih =>
    intro k m p x hk hp h0 h1
    obtain ⟨k, rfl⟩ : ∃ q, k = q + 1 := ⟨k - 1, by omega⟩
    obtain ⟨r, p2, x2, e2, hr0, hr1, hp2⟩ := below_ok (x := x) hs hp (n := 7) (by omega) (by omega)
    rw [spec_l1DrawMemory.l0, if_pos (by omega), e2, Option.bind_some, if_pos (by omega), w64 (x := ((d + 1 : Nat) : Int) - 1) (by omega) (by omega), show (((d + 1 : Nat) : Int) - 1) = ((d : Nat) : Int) from by omega]
    exact ih k _ _ _ (by omega) hp2 (by simp; omega) (by simp; omega)
theorem drawMemory_ok {k : Nat} {s : List Int} {p x : Int} (hs : s.length ≤ 1048576) (hp : Pl s p) (hk : 6 < k) : ∃ m' p' x', spec_l1DrawMemory.f k s p x = some (m', p', x') ∧ m'.length ≤ 41 ∧ Pl s p' := by
  obtain ⟨r, p2, x2, e2, hr0, hr1, hp2⟩ := below_ok (x := x) hs hp (n := 5) (by omega) (by omega)
  unfold spec_l1DrawMemory.f
  rw [e2, Option.bind_some, w64 (x := 1 + r) (by omega) (by omega)]
  obtain ⟨n, rfl⟩ := Int.eq_ofNat_of_zero_le hr0
  rw [show (1 + (n : Int)) = ((n + 1 : Nat) : Int) from by omega]
  exact drawMemory_l0 s hs (n + 1) k [] _ _ (by omega) hp2 (by simp) (by simp; omega)


end Go.Proofs.Ytbhlmgljflggeaa.M
namespace Go.Proofs.Ytbhlmgljflggeaa.M
set_option linter.unusedSimpArgs false
open Go.RowKit Go.Proofs.YtbhlmgljflggeaaW.PrintWords Go.Proofs.Ytbhlmgljflggeaa.Pb

theorem rdT34_at (l : List S34) (i : Nat) (h : i < l.length) : rd_T34 l (i : Int) = l[i] := by
  simp [rd_T34, List.getD_eq_getElem?_getD, List.getElem?_eq_getElem h]

end Go.Proofs.Ytbhlmgljflggeaa.M
namespace Go.Proofs.Ytbhlmgljflggeaa.M
set_option linter.unusedVariables false
set_option linter.unusedSimpArgs false
open Go.RowKit Go.Proofs.YtbhlmgljflggeaaW.PrintWords Go.Proofs.Ytbhlmgljflggeaa.Pb

/-- A row of words, one after another. -/
def wordsR : List Int → List S34 → List Int × List Int × Bool
  | m, [] => (m, [], true)
  | m, o :: os => ((wordsR (wordR m o.f0 o.f1 o.f2 o.f3).1 os).1, (wordR m o.f0 o.f1 o.f2 o.f3).2.1 :: (wordsR (wordR m o.f0 o.f1 o.f2 o.f3).1 os).2.1, (wordR m o.f0 o.f1 o.f2 o.f3).2.2 && (wordsR (wordR m o.f0 o.f1 o.f2 o.f3).1 os).2.2)
theorem wordsR_len : ∀ (os : List S34) (m : List Int), (wordsR m os).1.length = m.length ∧ (wordsR m os).2.1.length = os.length
  | [], m => ⟨rfl, rfl⟩
  | o :: os, m => by
    have h := wordsR_len os (wordR m o.f0 o.f1 o.f2 o.f3).1
    simp only [wordsR, List.length_cons]
    exact ⟨by rw [h.1, wordR_len], by rw [h.2]⟩
def wordsAllR (m : List Int) (os : List S34) : List Int × List Int × Bool := if os.length ≤ 200 then wordsR m os else (m, [], false)
theorem implWords_l0 (xs : List S34) (hx : xs.length ≤ 200) (d : Nat) : ∀ (k i : Nat) (m acc : List Int) (ok : Bool), i + d = xs.length → m.length + d + 3 < k → m.length ≤ 4000000 → acc.length ≤ i →
    impl_Words.l0 k m acc ok xs (xs.length : Int) (i : Int) = some ((wordsR m (xs.drop i)).1, acc ++ (wordsR m (xs.drop i)).2.1, ok && (wordsR m (xs.drop i)).2.2) := by
  induction d with
  | zero =>
    intro k i m acc ok hi hk hm ha
    obtain ⟨k, rfl⟩ : ∃ q, k = q + 1 := ⟨k - 1, by omega⟩
    simp only [impl_Words.l0]
    rw [if_neg (by omega), List.drop_of_length_le (by omega)]
    simp [wordsR]
  | succ d ih =>
    intro k i m acc ok hi hk hm ha
    obtain ⟨k, rfl⟩ : ∃ q, k = q + 1 := ⟨k - 1, by omega⟩
    simp only [impl_Words.l0]
    rw [if_pos (by omega), if_pos (by omega), if_pos (by omega), rdT34_at xs i (by omega), implWord_eq hm (by omega), Option.bind_some, if_pos (by omega), Option.bind_some, drop_cons xs i (by omega), w64 (by omega) (by omega), show ((i : Int) + 1) = ((i + 1 : Nat) : Int) from by omega]
    have hl := wordR_len m xs[i].f0 xs[i].f1 xs[i].f2 xs[i].f3
    rw [ih k (i + 1) _ _ _ (by omega) (by omega) (by omega) (by simp; omega), ih k (i + 1) _ _ _ (by omega) (by omega) (by omega) (by simp; omega)]
    cases ok <;> simp [wordsR, -List.getElem_cons_drop]

theorem implWords_eq {k : Nat} {m : List Int} {xs : List S34} (hm : m.length ≤ 4000000) (hk : m.length + 203 < k) : impl_Words.f k m xs = some (wordsAllR m xs) := by
  unfold impl_Words.f wordsAllR
  rw [own_eq hm, Option.bind_some, Option.bind_some]
  by_cases h : xs.length ≤ 200
  · rw [if_neg (by omega), if_pos h]
    have h2 := implWords_l0 xs h xs.length k 0 m [] true (by omega) (by omega) hm (by simp)
    rw [List.drop_zero, List.nil_append, Bool.true_and] at h2
    exact h2
  · rw [if_pos (by omega), if_neg h]


end Go.Proofs.Ytbhlmgljflggeaa.M
namespace Go.Proofs.Ytbhlmgljflggeaa.M
set_option linter.unusedVariables false
set_option linter.unusedSimpArgs false
open Go.RowKit Go.Proofs.YtbhlmgljflggeaaW.PrintWords Go.Proofs.Ytbhlmgljflggeaa.Pb

/-- AllAlike. -/
def alikeR (m : List Int) (a b : List S34) : Bool × Bool :=
  if memB m = true ∧ a.length + b.length ≤ 200 then (decide ((wordsR m (a ++ b)).1 = (wordsR m (b ++ a)).1), true) else (false, false)

theorem slicesEqual_l0 (x y : List Int) (hx : x.length ≤ 4000000) (hxy : x.length = y.length) (d : Nat) : ∀ (k i : Nat), i + d = x.length → d < k → slices_Equal_int_int.l0 k x y (x.length : Int) (i : Int) = some (decide (x.drop i = y.drop i)) := by
  induction d with
  | zero =>
    intro k i hi hk
    obtain ⟨k, rfl⟩ : ∃ q, k = q + 1 := ⟨k - 1, by omega⟩
    simp only [slices_Equal_int_int.l0]
    rw [if_neg (by omega), List.drop_of_length_le (by omega), List.drop_of_length_le (by omega)]
    simp
  | succ d ih =>
    intro k i hi hk
    obtain ⟨k, rfl⟩ : ∃ q, k = q + 1 := ⟨k - 1, by omega⟩
    simp only [slices_Equal_int_int.l0]
    rw [if_pos (by omega), if_pos (by omega), if_pos (by omega), if_pos (by omega), rd_at x i (by omega), rd_at y i (by omega), drop_cons x i (by omega), drop_cons y i (by omega)]
    by_cases h : x[i] = y[i]
    · rw [if_pos h, w64 (by omega) (by omega), show ((i : Int) + 1) = ((i + 1 : Nat) : Int) from by omega, ih k (i + 1) (by omega) (by omega)]
      simp [-List.getElem_cons_drop, h]
    · rw [if_neg h]
      simp [-List.getElem_cons_drop, h]
theorem slicesEqual_eq {k : Nat} {x y : List Int} (hx : x.length ≤ 4000000) (hxy : x.length = y.length) (hk : x.length < k) : slices_Equal_int_int.f k x y = some (decide (x = y)) := by
  unfold slices_Equal_int_int.f
  rw [if_pos (by omega)]
  have h := slicesEqual_l0 x y hx hxy x.length k 0 (by omega) hk
  rw [List.drop_zero, List.drop_zero] at h
  exact h

theorem growNil_eq {n : Int} (h0 : 0 ≤ n) (h1 : n ≤ 8000000) : impl_WordOp_nil.f n = some [] := by
  unfold impl_WordOp_nil.f
  rw [if_neg (by omega), w64 (by omega) (by omega)]
  by_cases h : n > 0
  · rw [if_pos h, if_pos (by omega), if_pos (by simp; omega), Option.bind_some, if_pos (by omega)]
    rfl
  · rw [if_neg h]

theorem concat_eq {k : Nat} {a b : List S34} (ha : a.length ≤ 4000000) (hb : b.length ≤ 4000000) (hk : 6 < k) : impl_WordOp_58.f k [a, b] = some (a ++ b) := by
  obtain ⟨k, rfl⟩ : ∃ q, k = q + 6 := ⟨k - 6, by omega⟩
  have e0 : rd_L5 [a, b] 0 = a := rfl
  have e1 : rd_L5 [a, b] 1 = b := rfl
  have w1 : wrap64 (0 + 1) = 1 := w64 (by omega) (by omega)
  have w2 : wrap64 (1 + 1) = 2 := w64 (by omega) (by omega)
  unfold impl_WordOp_58.f
  simp only [List.length_cons, List.length_nil]
  rw [impl_WordOp_58.l0, if_pos (by decide), if_pos (by decide), if_pos (by simp), e0, w64 (by omega) (by omega), if_neg (by omega), w1]
  rw [impl_WordOp_58.l0, if_pos (by decide), if_pos (by decide), if_pos (by simp), e1, w64 (by omega) (by omega), if_neg (by omega), w2]
  rw [impl_WordOp_58.l0, if_neg (by decide), growNil_eq (by omega) (by omega), Option.bind_some]
  simp only [List.length_cons, List.length_nil]
  rw [impl_WordOp_58.l1, if_pos (by decide), if_pos (by decide), if_pos (by simp), e0, if_pos (by simp; omega), w1, List.nil_append]
  rw [impl_WordOp_58.l1, if_pos (by decide), if_pos (by decide), if_pos (by simp), e1, if_pos (by omega), w2]
  rw [impl_WordOp_58.l1, if_neg (by decide)]

theorem implAlike_eq {k : Nat} {m : List Int} {a b : List S34} (hm : m.length ≤ 4000000) (ha : a.length ≤ 4000000) (hb : b.length ≤ 4000000) (hk : m.length + 210 < k) : impl_AllAlike.f k m a b = some (alikeR m a b) := by
  obtain ⟨k, rfl⟩ : ∃ q, k = q + 1 := ⟨k - 1, by omega⟩
  have hj : impl_AllAlike.j0 (k + 1) m a b true = some (false, false) := by simp [impl_AllAlike.j0]
  unfold impl_AllAlike.f alikeR
  rw [implMemoryOk_eq hm (by omega), Option.bind_some, w64 (by omega) (by omega)]
  cases h1 : memB m with
  | false => simp [hj]
  | true =>
    rw [if_pos rfl]
    by_cases h2 : a.length + b.length ≤ 200
    · rw [decide_eq_false (by omega), if_pos ⟨rfl, h2⟩]
      have e : ∀ c d : List S34, c.length + d.length ≤ 200 → wordsAllR m (c ++ d) = wordsR m (c ++ d) := fun c d h => by simp [wordsAllR, h]
      have la := (wordsR_len (a ++ b) m).1
      have lb := (wordsR_len (b ++ a) m).1
      rw [impl_AllAlike.j0, if_neg Bool.false_ne_true, concat_eq ha hb (by omega), Option.bind_some, implWords_eq hm (by omega), Option.bind_some, e a b h2, concat_eq hb ha (by omega), Option.bind_some, implWords_eq hm (by omega), Option.bind_some, e b a (by omega)]
      rw [slicesEqual_eq (by omega) (by omega) (by omega), Option.bind_some]
    · rw [decide_eq_true (by omega), if_neg (fun h => h2 h.2), hj]


end Go.Proofs.Ytbhlmgljflggeaa.M
namespace Go.Proofs.Ytbhlmgljflggeaa.M
set_option linter.unusedVariables false
set_option linter.unusedSimpArgs false
open Go.RowKit Go.Proofs.YtbhlmgljflggeaaW.PrintWords Go.Proofs.Ytbhlmgljflggeaa.Pb

theorem sameInts_l0 (l : List Int) (hl : l.length ≤ 4000000) (d : Nat) : ∀ (k i : Nat), i + d = l.length → d < k → laws_sameInts.l0 k l l (i : Int) = some true := by
  induction d with
  | zero =>
    intro k i hi hk
    obtain ⟨k, rfl⟩ : ∃ m, k = m + 1 := ⟨k - 1, by omega⟩
    simp only [laws_sameInts.l0]
    rw [if_neg (by omega)]
  | succ d ih =>
    intro k i hi hk
    obtain ⟨k, rfl⟩ : ∃ m, k = m + 1 := ⟨k - 1, by omega⟩
    simp only [laws_sameInts.l0]
    rw [if_pos (by omega), if_pos (by omega), if_pos (by omega), if_pos trivial, w64 (by omega) (by omega), show ((i : Int) + 1) = ((i + 1 : Nat) : Int) from by omega]
    exact ih k (i + 1) (by omega) (by omega)

theorem sameInts_refl {k : Nat} {l : List Int} (hl : l.length ≤ 4000000) (hk : l.length < k) : laws_sameInts.f k l l = some true := by
  unfold laws_sameInts.f
  rw [if_pos rfl]
  exact sameInts_l0 l hl l.length k 0 (by omega) hk


end Go.Proofs.Ytbhlmgljflggeaa.M
namespace Go.Proofs.Ytbhlmgljflggeaa.M
set_option linter.unusedVariables false
set_option linter.unusedSimpArgs false
open Go.RowKit Go.Proofs.YtbhlmgljflggeaaW.PrintWords Go.Proofs.Ytbhlmgljflggeaa.Pb

theorem within_l0 (l : List Int) (x : Int) (hl : l.length ≤ 4000000) (d : Nat) : ∀ (k i : Nat), i + d = l.length → d < k → laws_within.l0 k l x (i : Int) = some (decide (x ∈ l.drop i)) := by
  induction d with
  | zero =>
    intro k i hi hk
    obtain ⟨k, rfl⟩ : ∃ m, k = m + 1 := ⟨k - 1, by omega⟩
    simp only [laws_within.l0]
    rw [if_neg (by omega), List.drop_of_length_le (by omega)]
    simp
  | succ d ih =>
    intro k i hi hk
    obtain ⟨k, rfl⟩ : ∃ m, k = m + 1 := ⟨k - 1, by omega⟩
    simp only [laws_within.l0]
    rw [if_pos (by omega), if_pos (by omega), rd_at l i (by omega), drop_cons l i (by omega)]
    by_cases h : l[i] = x
    · rw [if_pos h]
      simp [h]
    · rw [if_neg h, w64 (by omega) (by omega), show ((i : Int) + 1) = ((i + 1 : Nat) : Int) from by omega, ih k (i + 1) (by omega) (by omega)]
      have h2 : ¬ x = l[i] := fun e => h e.symm
      simp [-List.getElem_cons_drop, h2]
theorem within_eq {k : Nat} {l : List Int} {x : Int} (hl : l.length ≤ 4000000) (hk : l.length < k) : laws_within.f k l x = some (decide (x ∈ l)) := by
  unfold laws_within.f
  have h := within_l0 l x hl l.length k 0 (by omega) hk
  rw [List.drop_zero] at h
  exact h


/-- All four lists are short. -/
def Short4 (r : List Int × List Int × List Int × List Int) : Prop := r.1.length ≤ 100 ∧ r.2.1.length ≤ 100 ∧ r.2.2.1.length ≤ 100 ∧ r.2.2.2.length ≤ 100

theorem drawSwap_end (s m a o n : List Int) (p x i : Int) (k : Nat) (hs : s.length ≤ 1048576) (hm : m.length ≤ 41) (hp : Pl s p) (h1 : a.length = o.length) (h2 : a.length = n.length) (h3 : a.length ≤ 41) :
    ∃ r, spec_DrawSwapAll.j1 (k + 1) m a o n i false s p x = some r ∧ Short4 r := by
  rw [spec_DrawSwapAll.j1, if_neg Bool.false_ne_true]
  by_cases h : (a.length : Int) > 0
  · obtain ⟨r, p2, x2, e2, hr0, hr1, hp2⟩ := below_ok (x := x) hs hp (n := 12) (by omega) (by omega)
    rw [if_pos h, e2, Option.bind_some]
    simp only
    by_cases r0 : r = 0
    · rw [if_pos r0, if_pos (by omega)]
      exact ⟨_, rfl, by simp [Short4]; omega⟩
    · rw [if_neg r0]
      by_cases r1 : r = 1
      · rw [if_pos r1, w64 (x := (a.length : Int) - 1) (by omega) (by omega), if_pos (by omega), if_pos (by omega)]
        obtain ⟨v, p3, x3, e3, hp3⟩ := pick_ok (x := x2) (l := [(-1), (m.length : Int), rd a ((a.length : Int) - 1)]) hs hp2 (by simp) (by simp)
        rw [e3, Option.bind_some, if_pos (by omega)]
        exact ⟨_, rfl, by simp [Short4]; omega⟩
      · rw [if_neg r1]
        by_cases r2 : r = 2
        · rw [if_pos r2, if_pos (by omega)]
          exact ⟨_, rfl, by simp [Short4]; omega⟩
        · rw [if_neg r2]
          by_cases r3 : r = 3
          · rw [if_pos r3, if_pos (by omega)]
            exact ⟨_, rfl, by simp [Short4]; omega⟩
          · rw [if_neg r3]
            exact ⟨_, rfl, by simp [Short4]; omega⟩
  · rw [if_neg h]
    exact ⟨_, rfl, by simp [Short4]; omega⟩

theorem drawSwap_l0 (s m : List Int) (hs : s.length ≤ 1048576) (hm : m.length ≤ 41) (d : Nat) : ∀ (k i : Nat) (a o n : List Int) (p x : Int), i + d = m.length → 2 * d + 1 < k → Pl s p → a.length = o.length → a.length = n.length → a.length ≤ i →
    ∃ r, spec_DrawSwapAll.l0 k m a o n (i : Int) s p x = some r ∧ Short4 r := by
  induction d with
  | zero =>
    intro k i a o n p x hi hk hp h1 h2 h3
    obtain ⟨k, rfl⟩ : ∃ q, k = q + 2 := ⟨k - 2, by omega⟩
    rw [spec_DrawSwapAll.l0, if_neg (by omega)]
    exact drawSwap_end s m a o n p x i k hs hm hp h1 h2 (by omega)
  | succ d ih =>
    intro k i a o n p x hi hk hp h1 h2 h3
    obtain ⟨k, rfl⟩ : ∃ q, k = q + 2 := ⟨k - 2, by omega⟩
    rw [spec_DrawSwapAll.l0, if_pos (by omega)]
    by_cases h : (m.length : Int) < 20
    · rw [decide_eq_true h, spec_DrawSwapAll.j1, if_pos rfl]
      obtain ⟨b, p2, x2, e2, hp2⟩ := once_ok (x := x) hs hp (n := 2) (by omega) (by omega)
      rw [e2, Option.bind_some]
      simp only
      have hw : wrap64 ((i : Int) + 1) = ((i + 1 : Nat) : Int) := w64 (by omega) (by omega)
      cases b with
      | true =>
        obtain ⟨r, p3, x3, e3, hr0, hr1, hp3⟩ := below_ok (x := x2) hs hp2 (n := 9) (by omega) (by omega)
        rw [if_pos rfl, if_pos (by omega), w64 (x := (m.length : Int) - 1) (by omega) (by omega), w64 (x := (m.length : Int) - 1 - (i : Int)) (by omega) (by omega), if_pos (by omega), if_pos (by omega), if_pos (by omega), e3, Option.bind_some]
        simp only
        rw [if_pos (by omega), hw]
        exact ih k (i + 1) _ _ _ _ _ (by omega) (by omega) hp3 (by simp; omega) (by simp; omega) (by simp; omega)
      | false =>
        rw [if_neg Bool.false_ne_true, hw]
        exact ih k (i + 1) _ _ _ _ _ (by omega) (by omega) hp2 h1 h2 (by omega)
    · rw [decide_eq_false h]
      exact drawSwap_end s m a o n p x i k hs hm hp h1 h2 (by omega)

theorem drawSwap_ok {k : Nat} {s : List Int} (hs : s.length ≤ 1048576) (hk : s.length + 100 < k) : ∃ r, spec_DrawSwapAll.f k s = some r ∧ Short4 r := by
  obtain ⟨x, e1⟩ := l1New_ok (k := k) hs (by omega)
  have hp0 : Pl s 0 := ⟨by omega, by omega⟩
  obtain ⟨m, p2, x2, e2, hm, hp2⟩ := drawMemory_ok (k := k) (x := x) hs hp0 (by omega)
  unfold spec_DrawSwapAll.f
  rw [e1, Option.bind_some]
  simp only
  rw [e2, Option.bind_some]
  simp only
  exact drawSwap_l0 s m hs hm m.length k 0 [] [] [] p2 x2 (by omega) (by omega) hp2 rfl rfl (by simp)

theorem alikeConst : alikeR [1, 2] [⟨5, 0, 0, 3⟩] [⟨5, 0, 0, 4⟩] = (true, true) := by decide

theorem allOrNone_l1 {m a o n out : List Int} (S : Said m a o n out) (hm : m.length ≤ 100) (ha : a.length ≤ 100) (ho : o.length ≤ 100) (hn : n.length ≤ 100) (d : Nat) : ∀ (k i : Nat), i + d = m.length → d + 1000 < k →
    laws_FnAllOrNone.l1 k m a o n out (i : Int) = some true := by
  have hout := S.len
  induction d with
  | zero =>
    intro k i hi hk
    obtain ⟨k, rfl⟩ : ∃ q, k = q + 1 := ⟨k - 1, by omega⟩
    rw [laws_FnAllOrNone.l1, if_neg (by omega), implSwapAll_eq (by omega) (by omega) (by omega) (by omega) (by omega), back_of S, Option.bind_some, implAlike_eq (by simp) (by simp) (by simp) (by simp; omega), alikeConst, Option.bind_some]
    simp only [if_true]
    rw [sameInts_refl (by omega) (by omega), Option.bind_some, if_pos rfl]
  | succ d ih =>
    intro k i hi hk
    obtain ⟨k, rfl⟩ : ∃ q, k = q + 1 := ⟨k - 1, by omega⟩
    rw [laws_FnAllOrNone.l1, if_pos (by omega), within_eq (by omega) (by omega), Option.bind_some, w64 (by omega) (by omega), show ((i : Int) + 1) = ((i + 1 : Nat) : Int) from by omega, ih k (i + 1) (by omega) (by omega)]
    by_cases h : (i : Int) ∈ a
    · rw [decide_eq_true h, if_pos rfl]
    · rw [decide_eq_false h, if_neg Bool.false_ne_true, if_pos (by omega), if_pos (by omega), if_pos (S.els i (by omega) (by omega) h)]
theorem allOrNone_l0 {m a o n out : List Int} (S : Said m a o n out) (hm : m.length ≤ 100) (ha : a.length ≤ 100) (ho : o.length ≤ 100) (hn : n.length ≤ 100) (d : Nat) : ∀ (k i : Nat), i + d = a.length → d + 1200 < k →
    laws_FnAllOrNone.l0 k m a o n out (i : Int) = some true := by
  have hout := S.len
  have hlo := S.lo
  have hln := S.ln
  induction d with
  | zero =>
    intro k i hi hk
    obtain ⟨k, rfl⟩ : ∃ q, k = q + 1 := ⟨k - 1, by omega⟩
    rw [laws_FnAllOrNone.l0, if_neg (by omega)]
    exact allOrNone_l1 S hm ha ho hn m.length k 0 (by omega) (by omega)
  | succ d ih =>
    intro k i hi hk
    obtain ⟨k, rfl⟩ : ∃ q, k = q + 1 := ⟨k - 1, by omega⟩
    have hr := S.rng i (by omega)
    rw [laws_FnAllOrNone.l0, if_pos (by omega), if_pos (by omega), if_pos hr.1, if_pos hr.2, if_pos (by omega), if_pos (S.was i (by omega)), if_pos (by omega), if_pos (by omega), if_pos (S.now i (by omega)), w64 (by omega) (by omega), show ((i : Int) + 1) = ((i + 1 : Nat) : Int) from by omega]
    exact ih k (i + 1) (by omega) (by omega)


end Go.Proofs.Ytbhlmgljflggeaa.M
namespace Go.Proofs.Ytbhlmgljflggeaa.Pure
set_option linter.unusedVariables false
set_option linter.unusedSimpArgs false
open Go.RowKit Go.Proofs.Ytbhlmgljflggeaa.M Go.Proofs.YtbhlmgljflggeaaW.PrintWords Go.Proofs.Ytbhlmgljflggeaa.Pb

theorem FnAllOrNone : laws_FnAllOrNone.Pure := by
  intro s _
  obtain ⟨k, hk⟩ : ∃ k : Nat, 30000000 < k := ⟨30000001, by omega⟩
  refine ⟨k + 3, ?_⟩
  unfold laws_FnAllOrNone.f laws_big.f
  rw [Option.bind_some]
  by_cases h0 : (s.length : Int) > 1048576
  · rw [decide_eq_true h0, if_pos rfl]
  · rw [decide_eq_false h0, if_neg Bool.false_ne_true]
    obtain ⟨r, e, hr⟩ := drawSwap_ok (k := k + 3) (s := s) (by omega) (by omega)
    obtain ⟨m, a, o, n⟩ := r
    obtain ⟨hm, ha, ho, hn⟩ := hr
    simp only at hm ha ho hn
    rw [e, Option.bind_some]
    simp only
    rw [implSwapAll_eq (by omega) (by omega) (by omega) (by omega) (by omega), specSwapAll_eq (by omega) (by omega) (by omega) (by omega) (by omega), Option.bind_some, Option.bind_some]
    generalize hR : swapAllR m a o n = R
    obtain ⟨out, ok⟩ := R
    simp only [bne_self_eq_false, Bool.false_eq_true, if_false]
    cases ok with
    | true =>
      rw [if_pos rfl]
      exact allOrNone_l0 (said_of hR) hm ha ho hn a.length _ 0 (by omega) (by omega)
    | false =>
      have e2 := no_of hR
      subst e2
      rw [if_neg Bool.false_ne_true, sameInts_refl (by omega) (by omega), Option.bind_some]


end Go.Proofs.Ytbhlmgljflggeaa.Pure
