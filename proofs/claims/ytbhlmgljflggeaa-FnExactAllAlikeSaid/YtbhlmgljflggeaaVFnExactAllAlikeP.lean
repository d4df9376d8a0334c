/- The pure statement of FnExactAllAlike and what it needs. Conditions: those that each theorem states. -/
import Derived.Test.YtbhlmgljflggeaaVFnExactAllAlike2
import Derived.RowKit
import Derived.Test.YtbhlmgljflggeaaWWords
namespace Go.Proofs.Ytbhlmgljflggeaa.Pb
open Go.RowKit Go.Proofs.YtbhlmgljflggeaaW.PrintWords

theorem w64 {x : Int} (h0 : -9223372036854775808 ≤ x) (h1 : x ≤ 9223372036854775807) : wrap64 x = x := by
  unfold wrap64
  omega

theorem rd_at (l : List Int) (i : Nat) (h : i < l.length) : rd l (i : Int) = l[i] := by
  simp [rd, List.getD_eq_getElem?_getD, List.getElem?_eq_getElem h]

theorem set_take {α : Type} (x : List α) (v : α) (i : Nat) (h : i < x.length) : (x.set i v).take (i + 1) = x.take i ++ [v] := by
  rw [List.take_succ_eq_append_getElem (by simpa using h)]
  rw [List.take_set_of_le (Nat.le_refl i)]
  simp

/-- One round of a loop that copies. -/
theorem copy_step {α : Type} (x l : List α) (i : Nat) (h : i < l.length) (hx : i < x.length) :
    (x.set i l[i]).take (i + 1) ++ l.drop (i + 1) = x.take i ++ l.drop i := by
  rw [set_take x l[i] i hx, List.drop_eq_getElem_cons h, List.append_assoc]
  rfl

/-- The same where each element is turned into another kind. -/
theorem copy_step_map {α β : Type} (f : α → β) (x : List β) (l : List α) (i : Nat) (h : i < l.length) (hx : i < x.length) :
    (x.set i (f l[i])).take (i + 1) ++ (l.drop (i + 1)).map f = x.take i ++ (l.drop i).map f := by
  rw [set_take x (f l[i]) i hx, List.drop_eq_getElem_cons h, List.append_assoc]
  rfl

theorem drop_cons {α : Type} (l : List α) (i : Nat) (h : i < l.length) : l.drop i = l[i] :: l.drop (i + 1) := List.drop_eq_getElem_cons h


end Go.Proofs.Ytbhlmgljflggeaa.Pb
namespace Go.Proofs.Ytbhlmgljflggeaa.M
open Go.RowKit Go.Proofs.YtbhlmgljflggeaaW.PrintWords Go.Proofs.Ytbhlmgljflggeaa.Pb

theorem toIntS_l0 (l : List Int) (hl : l.length ≤ 4000000) (d : Nat) : ∀ (k i : Nat) (x : List Int), i + d = l.length → d < k → x.length = l.length → laws_toIntS.l0 k l x (i : Int) = some (x.take i ++ l.drop i) := by
  induction d with
  | zero =>
    intro k i x hi hk hx
    obtain ⟨k, rfl⟩ : ∃ m, k = m + 1 := ⟨k - 1, by omega⟩
    simp only [laws_toIntS.l0]
    rw [if_neg (by omega), List.take_of_length_le (by omega), List.drop_of_length_le (by omega), List.append_nil]
  | succ d ih =>
    intro k i x hi hk hx
    obtain ⟨k, rfl⟩ : ∃ m, k = m + 1 := ⟨k - 1, by omega⟩
    simp only [laws_toIntS.l0]
    rw [if_pos (by omega), if_pos (by omega), if_pos (by omega), w64 (by omega) (by omega), rd_at l i (by omega), Int.toNat_natCast,
      show ((i : Int) + 1) = ((i + 1 : Nat) : Int) from by omega, ih k (i + 1) _ (by omega) (by omega) (by simp [hx]), copy_step x l i (by omega) (by omega)]

theorem toIntS_eq {k : Nat} {l : List Int} (hl : l.length ≤ 4000000) (hk : l.length < k) : laws_toIntS.f k l = some l := by
  unfold laws_toIntS.f
  rw [if_pos (by omega), if_pos (by omega)]
  have h := toIntS_l0 l hl l.length k 0 (List.replicate ((l.length : Int) : Int).toNat 0) (by omega) hk (by simp)
  rw [List.take_zero, List.drop_zero, List.nil_append] at h
  exact h

theorem eqIntS_l0 (l : List Int) (hl : l.length ≤ 4000000) (d : Nat) : ∀ (k i : Nat), i + d = l.length → d < k → laws_eqIntS.l0 k l l (i : Int) = some true := by
  induction d with
  | zero =>
    intro k i hi hk
    obtain ⟨k, rfl⟩ : ∃ m, k = m + 1 := ⟨k - 1, by omega⟩
    simp only [laws_eqIntS.l0]
    rw [if_neg (by omega)]
  | succ d ih =>
    intro k i hi hk
    obtain ⟨k, rfl⟩ : ∃ m, k = m + 1 := ⟨k - 1, by omega⟩
    simp only [laws_eqIntS.l0]
    rw [if_pos (by omega), if_pos (by omega), if_pos (by omega), if_pos trivial, w64 (by omega) (by omega), show ((i : Int) + 1) = ((i + 1 : Nat) : Int) from by omega]
    exact ih k (i + 1) (by omega) (by omega)

theorem eqIntS_refl {k : Nat} {l : List Int} (hl : l.length ≤ 4000000) (hk : l.length < k) : laws_eqIntS.f k l l = some true := by
  unfold laws_eqIntS.f
  rw [if_pos rfl]
  exact eqIntS_l0 l hl l.length k 0 (by omega) hk

/-- All of a list within bounds. -/
def inB (a b x : Int) : Bool := decide (a ≤ x) && decide (x ≤ b)

theorem l1In_eq (x a b : Int) : spec_l1In.f x a b = some (inB a b x) := by
  unfold spec_l1In.f inB
  by_cases h : x ≥ a
  · rw [if_pos h, decide_eq_true (show a ≤ x from h), Bool.true_and]
  · rw [if_neg h, decide_eq_false (show ¬ a ≤ x from h), Bool.false_and]

theorem in_eq (x a b : Int) : impl_in.f x a b = some (inB a b x) := by
  unfold impl_in.f inB
  by_cases h : a ≤ x
  · rw [if_pos h, decide_eq_true h, Bool.true_and]
  · rw [if_neg h, decide_eq_false h, Bool.false_and]

theorem l1All_l0 (l : List Int) (a b : Int) (hl : l.length ≤ 4000000) (d : Nat) : ∀ (k i : Nat), i + d = l.length → d < k → spec_l1All.l0 k l a b (i : Int) = some ((l.drop i).all (inB a b)) := by
  induction d with
  | zero =>
    intro k i hi hk
    obtain ⟨k, rfl⟩ : ∃ m, k = m + 1 := ⟨k - 1, by omega⟩
    simp only [spec_l1All.l0]
    rw [if_neg (by omega), List.drop_of_length_le (by omega)]
    rfl
  | succ d ih =>
    intro k i hi hk
    obtain ⟨k, rfl⟩ : ∃ m, k = m + 1 := ⟨k - 1, by omega⟩
    simp only [spec_l1All.l0]
    rw [if_pos (by omega), if_pos (by omega), rd_at l i (by omega), l1In_eq, Option.bind_some, drop_cons l i (by omega), List.all_cons]
    cases h : inB a b l[i] with
    | true =>
      rw [if_pos rfl, w64 (by omega) (by omega), show ((i : Int) + 1) = ((i + 1 : Nat) : Int) from by omega, ih k (i + 1) (by omega) (by omega), Bool.true_and]
    | false => simp

theorem l1All_eq {k : Nat} {l : List Int} {a b : Int} (hl : l.length ≤ 4000000) (hk : l.length < k) : spec_l1All.f k l a b = some (l.all (inB a b)) := by
  unfold spec_l1All.f
  exact l1All_l0 l a b hl l.length k 0 (by omega) hk


theorem isValue_eq (x : Int) : impl_isValue.f x = some (inB (-1000000000) 1000000000 x) := by
  unfold impl_isValue.f
  rw [in_eq, Option.bind_some]

theorem notValue_eq (x : Int) : impl_areValues_1.f x = some (!inB (-1000000000) 1000000000 x) := by
  unfold impl_areValues_1.f
  rw [isValue_eq, Option.bind_some]

theorem indexNot_l0 (l : List Int) (hl : l.length ≤ 4000000) (d : Nat) : ∀ (k i : Nat), i + d = l.length → d < k →
    ∃ r, slices_IndexFunc_int_int_F64.l0 k l (l.length : Int) (i : Int) = some r ∧ (decide (r ≥ 0)) = !((l.drop i).all (inB (-1000000000) 1000000000)) := by
  induction d with
  | zero =>
    intro k i hi hk
    obtain ⟨k, rfl⟩ : ∃ m, k = m + 1 := ⟨k - 1, by omega⟩
    refine ⟨-1, ?_, ?_⟩
    · simp only [slices_IndexFunc_int_int_F64.l0]
      rw [if_neg (by omega)]
    · rw [List.drop_of_length_le (by omega)]
      rfl
  | succ d ih =>
    intro k i hi hk
    obtain ⟨k, rfl⟩ : ∃ m, k = m + 1 := ⟨k - 1, by omega⟩
    simp only [slices_IndexFunc_int_int_F64.l0]
    rw [if_pos (by omega), if_pos (by omega), if_pos (by omega), rd_at l i (by omega), notValue_eq, Option.bind_some, drop_cons l i (by omega), List.all_cons]
    cases h : inB (-1000000000) 1000000000 l[i] with
    | true =>
      rw [w64 (by omega) (by omega), show ((i : Int) + 1) = ((i + 1 : Nat) : Int) from by omega, Bool.true_and]
      simp only [Bool.not_true, Bool.false_eq_true, if_false]
      exact ih k (i + 1) (by omega) (by omega)
    | false => exact ⟨(i : Int), by simp, by simp⟩

theorem areValues_eq {k : Nat} {l : List Int} (hl : l.length ≤ 4000000) (hk : l.length < k) : impl_areValues.f k l = some (l.all (inB (-1000000000) 1000000000)) := by
  unfold impl_areValues.f slices_ContainsFunc_int_int_F64.f slices_IndexFunc_int_int_F64.f
  obtain ⟨r, hr, h⟩ := indexNot_l0 l hl l.length k 0 (by omega) hk
  rw [show ((0 : Nat) : Int) = 0 from rfl] at hr
  rw [hr, Option.bind_some, Option.bind_some, h, List.drop_zero, Bool.not_not]

/-- A memory is right. -/
def memB (l : List Int) : Bool := decide (l.length ≤ 40) && l.all (inB (-1000000000) 1000000000)

theorem specMemoryOk_eq {k : Nat} {l : List Int} (hl : l.length ≤ 4000000) (hk : l.length < k) : spec_MemoryOk.f k l = some (memB l) := by
  unfold spec_MemoryOk.f memB
  by_cases h : l.length ≤ 40
  · rw [if_pos (by omega), l1All_eq hl hk, Option.bind_some, decide_eq_true h, Bool.true_and]
  · rw [if_neg (by omega), decide_eq_false h, Bool.false_and]

theorem implMemoryOk_eq {k : Nat} {l : List Int} (hl : l.length ≤ 4000000) (hk : l.length < k) : impl_MemoryOk.f k l = some (memB l) := by
  unfold impl_MemoryOk.f memB
  by_cases h : l.length ≤ 40
  · rw [if_pos (by omega), areValues_eq hl hk, Option.bind_some, decide_eq_true h, Bool.true_and]
  · rw [if_neg (by omega), decide_eq_false h, Bool.false_and]


end Go.Proofs.Ytbhlmgljflggeaa.M
namespace Go.Proofs.Ytbhlmgljflggeaa.M
set_option linter.unusedVariables false
set_option linter.unusedSimpArgs false
open Go.RowKit Go.Proofs.YtbhlmgljflggeaaW.PrintWords Go.Proofs.Ytbhlmgljflggeaa.Pb

theorem l1Copy_eq {l : List Int} (hl : l.length ≤ 4000000) : spec_l1Copy.f l = some l := by
  unfold spec_l1Copy.f
  rw [Option.bind_some, if_pos (by simp; omega), List.nil_append]
theorem own_eq {l : List Int} (hl : l.length ≤ 4000000) : impl_own.f l = some l := by
  unfold impl_own.f
  rw [Option.bind_some, if_pos (by simp; omega), List.nil_append]
theorem l1Value_eq (x : Int) : spec_l1Value.f x = some (inB (-1000000000) 1000000000 x) := by
  unfold spec_l1Value.f
  rw [l1In_eq, Option.bind_some]

theorem inB_iff {a b x : Int} : inB a b x = true ↔ a ≤ x ∧ x ≤ b := by simp [inB]

theorem mem_rd {m : List Int} (h : memB m = true) (b : Int) (h0 : 0 ≤ b) (h1 : b < (m.length : Int)) : -1000000000 ≤ rd m b ∧ rd m b ≤ 1000000000 := by
  obtain ⟨n, rfl⟩ := Int.eq_ofNat_of_zero_le h0
  rw [rd_at m n (by omega)]
  simp only [memB, Bool.and_eq_true, List.all_eq_true] at h
  exact inB_iff.1 (h.2 _ (List.getElem_mem _))

/-- Is the op right? -/
def okOp (m : List Int) (a b c d : Int) : Bool := memB m && (inB 1 5 a && (inB 0 ((m.length : Int) - 1) b && ((decide (a = 1) || inB (-1000000000) 1000000000 d) && (!decide (a = 4) || inB (-1000000000) 1000000000 c))))
def wordR (m : List Int) (a b c d : Int) : List Int × Int × Bool :=
  if okOp m a b c d = true then
    if a = 2 then (m.set b.toNat d, d, true)
    else if a = 3 then (m.set b.toNat d, rd m b, true)
    else if a = 4 then (if rd m b = c then (m.set b.toNat d, rd m b, true) else (m, rd m b, true))
    else if a = 5 then (if inB (-1000000000) 1000000000 (rd m b + d) = true then (m.set b.toNat (rd m b + d), rd m b + d, true) else (m, 0, false))
    else (m, rd m b, true)
  else (m, 0, false)

theorem wordR_len (m : List Int) (a b c d : Int) : (wordR m a b c d).1.length = m.length := by
  unfold wordR
  repeat' split
  all_goals simp

theorem specWord_j0 {k : Nat} {m : List Int} {a b c d : Int} (hl : m.length ≤ 4000000) (h : okOp m a b c d = true) : spec_Word.j0 (k + 1) m m false a b c d = some (wordR m a b c d) := by
  have h' := h
  simp only [okOp, Bool.and_eq_true, Bool.or_eq_true, decide_eq_true_eq, Bool.not_eq_true', decide_eq_false_iff_not] at h'
  obtain ⟨h1, h2, h3, h4, h5⟩ := h'
  have hb := inB_iff.1 h3
  have hr := mem_rd h1 b hb.1 (by omega)
  simp only [spec_Word.j0, wordR, h, if_true, Bool.false_eq_true, if_false]
  rw [if_pos hb.1, if_pos (by omega)]
  have hb2 : b < (m.length : Int) := by omega
  simp only [hb2, if_true]
  by_cases e5 : a = 5
  · subst e5
    have hd := inB_iff.1 (h4.resolve_left (by decide))
    rw [w64 (x := rd m b + d) (by omega) (by omega), l1Value_eq, Option.bind_some]
    cases h6 : inB (-1000000000) 1000000000 (rd m b + d) <;> simp
  · simp only [e5, if_false]
    repeat' split
    all_goals rfl

theorem specWord_eq {k : Nat} {m : List Int} {a b c d : Int} (hl : m.length ≤ 4000000) (hk : m.length + 2 < k) : spec_Word.f k m a b c d = some (wordR m a b c d) := by
  obtain ⟨k, rfl⟩ : ∃ q, k = q + 1 := ⟨k - 1, by omega⟩
  have hno : okOp m a b c d = false → wordR m a b c d = (m, 0, false) := fun h => by simp [wordR, h]
  have hj : spec_Word.j0 (k + 1) m m true a b c d = some (m, 0, false) := by simp [spec_Word.j0]
  unfold spec_Word.f
  rw [l1Copy_eq hl, Option.bind_some, specMemoryOk_eq hl (by omega), Option.bind_some]
  simp only [l1In_eq, l1Value_eq, Option.bind_some, hj]
  have ew : wrap64 ((m.length : Int) - 1) = (m.length : Int) - 1 := w64 (by omega) (by omega)
  rw [ew]
  cases ho : okOp m a b c d with
  | true =>
    have h' := ho
    simp only [okOp, Bool.and_eq_true, Bool.or_eq_true, decide_eq_true_eq, Bool.not_eq_true', decide_eq_false_iff_not] at h'
    obtain ⟨h1, h2, h3, h4, h5⟩ := h'
    have hg := specWord_j0 (k := k) hl ho
    simp only [h1, h2, h3, if_true]
    by_cases e1 : a = 1
    · subst e1
      simpa using hg
    · have h4' := h4.resolve_left e1
      simp only [e1, if_false, h4', if_true]
      by_cases e4 : a = 4
      · have h5' := h5.resolve_left (by simpa using e4)
        simp only [e4, if_true, h5', Bool.not_true]
        rw [← e4]
        exact hg
      · simp only [e4, if_false]
        exact hg
  | false =>
    rw [hno ho]
    simp only [okOp] at ho
    cases h1 : memB m with
    | false => simp
    | true =>
      cases h2 : inB 1 5 a with
      | false => simp
      | true =>
        cases h3 : inB 0 ((m.length : Int) - 1) b with
        | false => simp
        | true =>
          simp only [h1, h2, h3, Bool.true_and, Bool.and_eq_false_iff, Bool.or_eq_false_iff] at ho
          simp only [if_true]
          by_cases e1 : a = 1
          · exfalso
            subst e1
            simp at ho
          · simp only [e1, if_false]
            cases h4 : inB (-1000000000) 1000000000 d with
            | false => simp
            | true =>
              rw [h4] at ho
              by_cases e4 : a = 4
              · have h5 : inB (-1000000000) 1000000000 c = false := by simpa [e4] using ho
                simp only [e4, if_true, h5, Bool.not_false]
                rw [← e4]
                exact hj
              · simp [e4] at ho

theorem implWord_j0 {k : Nat} {m : List Int} {a b c d : Int} (hl : m.length ≤ 4000000) (h : okOp m a b c d = true) : impl_Word.j0 (k + 1) m m false a b c d = some (wordR m a b c d) := by
  have h' := h
  simp only [okOp, Bool.and_eq_true, Bool.or_eq_true, decide_eq_true_eq, Bool.not_eq_true', decide_eq_false_iff_not] at h'
  obtain ⟨h1, h2, h3, h4, h5⟩ := h'
  have hb := inB_iff.1 h3
  have hr := mem_rd h1 b hb.1 (by omega)
  simp only [impl_Word.j0, wordR, h, if_true, Bool.false_eq_true, if_false]
  rw [if_pos hb.1, if_pos (by omega)]
  have hb2 : b < (m.length : Int) := by omega
  simp only [hb2, if_true]
  by_cases e5 : a = 5
  · subst e5
    have hd := inB_iff.1 (h4.resolve_left (by decide))
    rw [w64 (x := rd m b + d) (by omega) (by omega), isValue_eq, Option.bind_some]
    cases h6 : inB (-1000000000) 1000000000 (rd m b + d) <;> simp
  · simp only [e5, if_false]
    repeat' split
    all_goals rfl

theorem implWord_eq {k : Nat} {m : List Int} {a b c d : Int} (hl : m.length ≤ 4000000) (hk : m.length + 2 < k) : impl_Word.f k m a b c d = some (wordR m a b c d) := by
  obtain ⟨k, rfl⟩ : ∃ q, k = q + 1 := ⟨k - 1, by omega⟩
  have hno : okOp m a b c d = false → wordR m a b c d = (m, 0, false) := fun h => by simp [wordR, h]
  have hj : impl_Word.j0 (k + 1) m m true a b c d = some (m, 0, false) := by simp [impl_Word.j0]
  unfold impl_Word.f
  rw [own_eq hl, Option.bind_some, implMemoryOk_eq hl (by omega), Option.bind_some]
  simp only [in_eq, isValue_eq, Option.bind_some, hj]
  have ew : wrap64 ((m.length : Int) - 1) = (m.length : Int) - 1 := w64 (by omega) (by omega)
  rw [ew]
  cases ho : okOp m a b c d with
  | true =>
    have h' := ho
    simp only [okOp, Bool.and_eq_true, Bool.or_eq_true, decide_eq_true_eq, Bool.not_eq_true', decide_eq_false_iff_not] at h'
    obtain ⟨h1, h2, h3, h4, h5⟩ := h'
    have hg := implWord_j0 (k := k) hl ho
    simp only [h1, h2, h3, if_true]
    by_cases e4 : a = 4
    · have h5' := h5.resolve_left (by simpa using e4)
      have e1 : ¬ a = 1 := by omega
      have h4' := h4.resolve_left e1
      simp only [e4, if_true, h5', h4', Bool.not_true]
      rw [← e4]
      simpa [e1] using hg
    · simp only [e4, if_false]
      by_cases e1 : a = 1
      · subst e1
        simpa using hg
      · have h4' := h4.resolve_left e1
        simp only [e1, if_false, h4', Bool.not_true]
        exact hg
  | false =>
    rw [hno ho]
    simp only [okOp] at ho
    cases h1 : memB m with
    | false => simp
    | true =>
      cases h2 : inB 1 5 a with
      | false => simp
      | true =>
        cases h3 : inB 0 ((m.length : Int) - 1) b with
        | false => simp
        | true =>
          simp only [h1, h2, h3, Bool.true_and, Bool.and_eq_false_iff, Bool.or_eq_false_iff] at ho
          simp only [if_true]
          by_cases e1 : a = 1
          · exfalso
            subst e1
            simp at ho
          · simp only [e1, if_false]
            cases h4 : inB (-1000000000) 1000000000 d with
            | false =>
              simp only [Bool.not_false]
              rw [hj]
              repeat' split
              all_goals rfl
            | true =>
              rw [h4] at ho
              by_cases e4 : a = 4
              · have h5 : inB (-1000000000) 1000000000 c = false := by simpa [e4] using ho
                simp [e4, h5]
              · simp [e4] at ho


end Go.Proofs.Ytbhlmgljflggeaa.M
namespace Go.Proofs.Ytbhlmgljflggeaa.M
set_option linter.unusedSimpArgs false
open Go.RowKit Go.Proofs.YtbhlmgljflggeaaW.PrintWords Go.Proofs.Ytbhlmgljflggeaa.Pb

def cvWordOp (x : S31) : S34 := ⟨x.f0, x.f1, x.f2, x.f3⟩
theorem rdT31_at (l : List S31) (i : Nat) (h : i < l.length) : rd_T31 l (i : Int) = l[i] := by
  simp [rd_T31, List.getD_eq_getElem?_getD, List.getElem?_eq_getElem h]
theorem rdT34_at (l : List S34) (i : Nat) (h : i < l.length) : rd_T34 l (i : Int) = l[i] := by
  simp [rd_T34, List.getD_eq_getElem?_getD, List.getElem?_eq_getElem h]
theorem szWordOpS_eq {l : List S31} {a : Int} (hl : l.length ≤ maxLen) (ha : 0 ≤ a ∧ a ≤ 1048576) : laws_szWordOpS.f l a = some (if a - (l.length : Int) < 0 then -1 else a - (l.length : Int)) := by
  unfold laws_szWordOpS.f
  have hm : l.length ≤ 9223372036854775807 := hl
  rw [w64 (by omega) (by omega)]
  by_cases h : a - (l.length : Int) < 0
  · rw [if_pos h, if_pos h]
  · rw [if_neg h, if_neg h]
theorem toWordOpS_l0 (l : List S31) (hl : l.length ≤ 4000000) (d : Nat) : ∀ (k i : Nat) (x : List S34), i + d = l.length → d < k → x.length = l.length → laws_toWordOpS.l0 k l x (i : Int) = some (x.take i ++ (l.drop i).map cvWordOp) := by
  induction d with
  | zero =>
    intro k i x hi hk hx
    obtain ⟨k, rfl⟩ : ∃ m, k = m + 1 := ⟨k - 1, by omega⟩
    simp only [laws_toWordOpS.l0]
    rw [if_neg (by omega), List.take_of_length_le (by omega), List.drop_of_length_le (by omega), List.map_nil, List.append_nil]
  | succ d ih =>
    intro k i x hi hk hx
    obtain ⟨k, rfl⟩ : ∃ m, k = m + 1 := ⟨k - 1, by omega⟩
    simp only [laws_toWordOpS.l0]
    rw [if_pos (by omega), if_pos (by omega)]
    simp only [laws_toWordOp.f, Option.bind_some]
    rw [if_pos (by omega), w64 (by omega) (by omega), rdT31_at l i (by omega), Int.toNat_natCast,
      show ((i : Int) + 1) = ((i + 1 : Nat) : Int) from by omega, ih k (i + 1) _ (by omega) (by omega) (by simp [hx])]
    exact congrArg some (copy_step_map cvWordOp x l i (by omega) (by omega))
theorem toWordOpS_eq {k : Nat} {l : List S31} (hl : l.length ≤ 4000000) (hk : l.length < k) : laws_toWordOpS.f k l = some (l.map cvWordOp) := by
  unfold laws_toWordOpS.f
  rw [if_pos (by omega), if_pos (by omega)]
  have h := toWordOpS_l0 l hl l.length k 0 (List.replicate ((l.length : Int) : Int).toNat z34) (by omega) hk (by simp)
  rw [List.take_zero, List.drop_zero, List.nil_append] at h
  exact h
theorem eqWordOp_refl (a0 : Int) (a1 : Int) (a2 : Int) (a3 : Int) : laws_eqWordOp.f a0 a1 a2 a3 a0 a1 a2 a3 = some true := by
  simp [laws_eqWordOp.f]
theorem eqWordOpS_l0 (l : List S34) (hl : l.length ≤ 4000000) (d : Nat) : ∀ (k i : Nat), i + d = l.length → d < k → laws_eqWordOpS.l0 k l l (i : Int) = some true := by
  induction d with
  | zero =>
    intro k i hi hk
    obtain ⟨k, rfl⟩ : ∃ m, k = m + 1 := ⟨k - 1, by omega⟩
    simp only [laws_eqWordOpS.l0]
    rw [if_neg (by omega)]
  | succ d ih =>
    intro k i hi hk
    obtain ⟨k, rfl⟩ : ∃ m, k = m + 1 := ⟨k - 1, by omega⟩
    simp only [laws_eqWordOpS.l0]
    rw [if_pos (by omega), if_pos (by omega), if_pos (by omega), eqWordOp_refl, Option.bind_some, if_pos rfl, w64 (by omega) (by omega), show ((i : Int) + 1) = ((i + 1 : Nat) : Int) from by omega]
    exact ih k (i + 1) (by omega) (by omega)
theorem eqWordOpS_refl {k : Nat} {l : List S34} (hl : l.length ≤ 4000000) (hk : l.length < k) : laws_eqWordOpS.f k l l = some true := by
  unfold laws_eqWordOpS.f
  rw [if_pos rfl]
  exact eqWordOpS_l0 l hl l.length k 0 (by omega) hk

end Go.Proofs.Ytbhlmgljflggeaa.M
namespace Go.Proofs.Ytbhlmgljflggeaa.M
set_option linter.unusedVariables false
set_option linter.unusedSimpArgs false
open Go.RowKit Go.Proofs.YtbhlmgljflggeaaW.PrintWords Go.Proofs.Ytbhlmgljflggeaa.Pb

/-- A row of words, one after another. -/
def wordsR : List Int → List S34 → List Int × List Int × Bool
  | m, [] => (m, [], true)
  | m, o :: os => ((wordsR (wordR m o.f0 o.f1 o.f2 o.f3).1 os).1, (wordR m o.f0 o.f1 o.f2 o.f3).2.1 :: (wordsR (wordR m o.f0 o.f1 o.f2 o.f3).1 os).2.1, (wordR m o.f0 o.f1 o.f2 o.f3).2.2 && (wordsR (wordR m o.f0 o.f1 o.f2 o.f3).1 os).2.2)
theorem wordsR_len : ∀ (os : List S34) (m : List Int), (wordsR m os).1.length = m.length ∧ (wordsR m os).2.1.length = os.length
  | [], m => ⟨rfl, rfl⟩
  | o :: os, m => by
    have h := wordsR_len os (wordR m o.f0 o.f1 o.f2 o.f3).1
    simp only [wordsR, List.length_cons]
    exact ⟨by rw [h.1, wordR_len], by rw [h.2]⟩
def wordsAllR (m : List Int) (os : List S34) : List Int × List Int × Bool := if os.length ≤ 200 then wordsR m os else (m, [], false)
theorem specWords_l0 (xs : List S34) (hx : xs.length ≤ 200) (d : Nat) : ∀ (k i : Nat) (m acc : List Int) (ok : Bool), i + d = xs.length → m.length + d + 3 < k → m.length ≤ 4000000 → acc.length ≤ i →
    spec_Words.l0 k xs m acc ok (i : Int) = some ((wordsR m (xs.drop i)).1, acc ++ (wordsR m (xs.drop i)).2.1, ok && (wordsR m (xs.drop i)).2.2) := by
  induction d with
  | zero =>
    intro k i m acc ok hi hk hm ha
    obtain ⟨k, rfl⟩ : ∃ q, k = q + 1 := ⟨k - 1, by omega⟩
    simp only [spec_Words.l0]
    rw [if_neg (by omega), List.drop_of_length_le (by omega)]
    simp [wordsR]
  | succ d ih =>
    intro k i m acc ok hi hk hm ha
    obtain ⟨k, rfl⟩ : ∃ q, k = q + 1 := ⟨k - 1, by omega⟩
    simp only [spec_Words.l0]
    rw [if_pos (by omega), if_pos (by omega), rdT34_at xs i (by omega), specWord_eq hm (by omega), Option.bind_some, if_pos (by omega), Option.bind_some, drop_cons xs i (by omega), w64 (by omega) (by omega), show ((i : Int) + 1) = ((i + 1 : Nat) : Int) from by omega]
    have hl := wordR_len m xs[i].f0 xs[i].f1 xs[i].f2 xs[i].f3
    rw [ih k (i + 1) _ _ _ (by omega) (by omega) (by omega) (by simp; omega), ih k (i + 1) _ _ _ (by omega) (by omega) (by omega) (by simp; omega)]
    cases ok <;> simp [wordsR, -List.getElem_cons_drop]

theorem implWords_l0 (xs : List S34) (hx : xs.length ≤ 200) (d : Nat) : ∀ (k i : Nat) (m acc : List Int) (ok : Bool), i + d = xs.length → m.length + d + 3 < k → m.length ≤ 4000000 → acc.length ≤ i →
    impl_Words.l0 k m acc ok xs (xs.length : Int) (i : Int) = some ((wordsR m (xs.drop i)).1, acc ++ (wordsR m (xs.drop i)).2.1, ok && (wordsR m (xs.drop i)).2.2) := by
  induction d with
  | zero =>
    intro k i m acc ok hi hk hm ha
    obtain ⟨k, rfl⟩ : ∃ q, k = q + 1 := ⟨k - 1, by omega⟩
    simp only [impl_Words.l0]
    rw [if_neg (by omega), List.drop_of_length_le (by omega)]
    simp [wordsR]
  | succ d ih =>
    intro k i m acc ok hi hk hm ha
    obtain ⟨k, rfl⟩ : ∃ q, k = q + 1 := ⟨k - 1, by omega⟩
    simp only [impl_Words.l0]
    rw [if_pos (by omega), if_pos (by omega), if_pos (by omega), rdT34_at xs i (by omega), implWord_eq hm (by omega), Option.bind_some, if_pos (by omega), Option.bind_some, drop_cons xs i (by omega), w64 (by omega) (by omega), show ((i : Int) + 1) = ((i + 1 : Nat) : Int) from by omega]
    have hl := wordR_len m xs[i].f0 xs[i].f1 xs[i].f2 xs[i].f3
    rw [ih k (i + 1) _ _ _ (by omega) (by omega) (by omega) (by simp; omega), ih k (i + 1) _ _ _ (by omega) (by omega) (by omega) (by simp; omega)]
    cases ok <;> simp [wordsR, -List.getElem_cons_drop]

theorem specWords_eq {k : Nat} {m : List Int} {xs : List S34} (hm : m.length ≤ 4000000) (hk : m.length + 203 < k) : spec_Words.f k m xs = some (wordsAllR m xs) := by
  unfold spec_Words.f wordsAllR
  rw [l1Copy_eq hm, Option.bind_some, Option.bind_some]
  by_cases h : xs.length ≤ 200
  · rw [if_neg (by omega), if_pos h]
    have h2 := specWords_l0 xs h xs.length k 0 m [] true (by omega) (by omega) hm (by simp)
    rw [List.drop_zero, List.nil_append, Bool.true_and] at h2
    exact h2
  · rw [if_pos (by omega), if_neg h]
theorem implWords_eq {k : Nat} {m : List Int} {xs : List S34} (hm : m.length ≤ 4000000) (hk : m.length + 203 < k) : impl_Words.f k m xs = some (wordsAllR m xs) := by
  unfold impl_Words.f wordsAllR
  rw [own_eq hm, Option.bind_some, Option.bind_some]
  by_cases h : xs.length ≤ 200
  · rw [if_neg (by omega), if_pos h]
    have h2 := implWords_l0 xs h xs.length k 0 m [] true (by omega) (by omega) hm (by simp)
    rw [List.drop_zero, List.nil_append, Bool.true_and] at h2
    exact h2
  · rw [if_pos (by omega), if_neg h]


end Go.Proofs.Ytbhlmgljflggeaa.M
namespace Go.Proofs.Ytbhlmgljflggeaa.M
set_option linter.unusedVariables false
set_option linter.unusedSimpArgs false
open Go.RowKit Go.Proofs.YtbhlmgljflggeaaW.PrintWords Go.Proofs.Ytbhlmgljflggeaa.Pb

theorem wordsR_append : ∀ (a b : List S34) (m : List Int), (wordsR m (a ++ b)).1 = (wordsR (wordsR m a).1 b).1
  | [], b, m => rfl
  | o :: a, b, m => by
    have h := wordsR_append a b (wordR m o.f0 o.f1 o.f2 o.f3).1
    simp only [List.cons_append, wordsR]
    exact h

/-- AllAlike. -/
def alikeR (m : List Int) (a b : List S34) : Bool × Bool :=
  if memB m = true ∧ a.length + b.length ≤ 200 then (decide ((wordsR m (a ++ b)).1 = (wordsR m (b ++ a)).1), true) else (false, false)

theorem specAlike_l0 (x y : List Int) (hx : x.length ≤ 4000000) (hxy : x.length = y.length) (d : Nat) : ∀ (k i : Nat), i + d = x.length → d < k → spec_AllAlike.l0 k x y (i : Int) = some (decide (x.drop i = y.drop i), true) := by
  induction d with
  | zero =>
    intro k i hi hk
    obtain ⟨k, rfl⟩ : ∃ q, k = q + 1 := ⟨k - 1, by omega⟩
    simp only [spec_AllAlike.l0]
    rw [if_neg (by omega), List.drop_of_length_le (by omega), List.drop_of_length_le (by omega)]
    simp
  | succ d ih =>
    intro k i hi hk
    obtain ⟨k, rfl⟩ : ∃ q, k = q + 1 := ⟨k - 1, by omega⟩
    simp only [spec_AllAlike.l0]
    rw [if_pos (by omega), if_pos (by omega), if_pos (by omega), rd_at x i (by omega), rd_at y i (by omega), drop_cons x i (by omega), drop_cons y i (by omega)]
    by_cases h : x[i] = y[i]
    · rw [if_pos h, w64 (by omega) (by omega), show ((i : Int) + 1) = ((i + 1 : Nat) : Int) from by omega, ih k (i + 1) (by omega) (by omega)]
      simp [-List.getElem_cons_drop, h]
    · rw [if_neg h]
      simp [-List.getElem_cons_drop, h]
theorem slicesEqual_l0 (x y : List Int) (hx : x.length ≤ 4000000) (hxy : x.length = y.length) (d : Nat) : ∀ (k i : Nat), i + d = x.length → d < k → slices_Equal_int_int.l0 k x y (x.length : Int) (i : Int) = some (decide (x.drop i = y.drop i)) := by
  induction d with
  | zero =>
    intro k i hi hk
    obtain ⟨k, rfl⟩ : ∃ q, k = q + 1 := ⟨k - 1, by omega⟩
    simp only [slices_Equal_int_int.l0]
    rw [if_neg (by omega), List.drop_of_length_le (by omega), List.drop_of_length_le (by omega)]
    simp
  | succ d ih =>
    intro k i hi hk
    obtain ⟨k, rfl⟩ : ∃ q, k = q + 1 := ⟨k - 1, by omega⟩
    simp only [slices_Equal_int_int.l0]
    rw [if_pos (by omega), if_pos (by omega), if_pos (by omega), if_pos (by omega), rd_at x i (by omega), rd_at y i (by omega), drop_cons x i (by omega), drop_cons y i (by omega)]
    by_cases h : x[i] = y[i]
    · rw [if_pos h, w64 (by omega) (by omega), show ((i : Int) + 1) = ((i + 1 : Nat) : Int) from by omega, ih k (i + 1) (by omega) (by omega)]
      simp [-List.getElem_cons_drop, h]
    · rw [if_neg h]
      simp [-List.getElem_cons_drop, h]
theorem slicesEqual_eq {k : Nat} {x y : List Int} (hx : x.length ≤ 4000000) (hxy : x.length = y.length) (hk : x.length < k) : slices_Equal_int_int.f k x y = some (decide (x = y)) := by
  unfold slices_Equal_int_int.f
  rw [if_pos (by omega)]
  have h := slicesEqual_l0 x y hx hxy x.length k 0 (by omega) hk
  rw [List.drop_zero, List.drop_zero] at h
  exact h

theorem growNil_eq {n : Int} (h0 : 0 ≤ n) (h1 : n ≤ 8000000) : impl_WordOp_nil.f n = some [] := by
  unfold impl_WordOp_nil.f
  rw [if_neg (by omega), w64 (by omega) (by omega)]
  by_cases h : n > 0
  · rw [if_pos h, if_pos (by omega), if_pos (by simp; omega), Option.bind_some, if_pos (by omega)]
    rfl
  · rw [if_neg h]

theorem concat_eq {k : Nat} {a b : List S34} (ha : a.length ≤ 4000000) (hb : b.length ≤ 4000000) (hk : 6 < k) : impl_WordOp_58.f k [a, b] = some (a ++ b) := by
  obtain ⟨k, rfl⟩ : ∃ q, k = q + 6 := ⟨k - 6, by omega⟩
  have e0 : rd_L5 [a, b] 0 = a := rfl
  have e1 : rd_L5 [a, b] 1 = b := rfl
  have w1 : wrap64 (0 + 1) = 1 := w64 (by omega) (by omega)
  have w2 : wrap64 (1 + 1) = 2 := w64 (by omega) (by omega)
  unfold impl_WordOp_58.f
  simp only [List.length_cons, List.length_nil]
  rw [impl_WordOp_58.l0, if_pos (by decide), if_pos (by decide), if_pos (by simp), e0, w64 (by omega) (by omega), if_neg (by omega), w1]
  rw [impl_WordOp_58.l0, if_pos (by decide), if_pos (by decide), if_pos (by simp), e1, w64 (by omega) (by omega), if_neg (by omega), w2]
  rw [impl_WordOp_58.l0, if_neg (by decide), growNil_eq (by omega) (by omega), Option.bind_some]
  simp only [List.length_cons, List.length_nil]
  rw [impl_WordOp_58.l1, if_pos (by decide), if_pos (by decide), if_pos (by simp), e0, if_pos (by simp; omega), w1, List.nil_append]
  rw [impl_WordOp_58.l1, if_pos (by decide), if_pos (by decide), if_pos (by simp), e1, if_pos (by omega), w2]
  rw [impl_WordOp_58.l1, if_neg (by decide)]

theorem specAlike_eq {k : Nat} {m : List Int} {a b : List S34} (hm : m.length ≤ 4000000) (ha : a.length ≤ 4000000) (hb : b.length ≤ 4000000) (hk : m.length + 210 < k) : spec_AllAlike.f k m a b = some (alikeR m a b) := by
  obtain ⟨k, rfl⟩ : ∃ q, k = q + 1 := ⟨k - 1, by omega⟩
  have hj : spec_AllAlike.j0 (k + 1) m a b true = some (false, false) := by simp [spec_AllAlike.j0]
  unfold spec_AllAlike.f alikeR
  rw [specMemoryOk_eq hm (by omega), Option.bind_some, w64 (by omega) (by omega)]
  cases h1 : memB m with
  | false => simp [hj]
  | true =>
    rw [if_pos rfl]
    by_cases h2 : a.length + b.length ≤ 200
    · rw [decide_eq_false (by omega), if_pos ⟨rfl, h2⟩]
      have ea : ∀ m' : List Int, wordsAllR m' a = wordsR m' a := fun m' => by simp [wordsAllR, show a.length ≤ 200 by omega]
      have eb : ∀ m' : List Int, wordsAllR m' b = wordsR m' b := fun m' => by simp [wordsAllR, show b.length ≤ 200 by omega]
      have la := (wordsR_len a m).1
      have lb := (wordsR_len b m).1
      have lab := (wordsR_len b (wordsR m a).1).1
      have lba := (wordsR_len a (wordsR m b).1).1
      rw [spec_AllAlike.j0, if_neg Bool.false_ne_true, specWords_eq hm (by omega), Option.bind_some, ea, specWords_eq (by omega) (by omega), Option.bind_some, eb, specWords_eq hm (by omega), Option.bind_some, eb, specWords_eq (by omega) (by omega), Option.bind_some, ea]
      have h3 := specAlike_l0 (wordsR (wordsR m a).1 b).1 (wordsR (wordsR m b).1 a).1 (by omega) (by omega) (wordsR (wordsR m a).1 b).1.length k 0 (by omega) (by omega)
      rw [List.drop_zero, List.drop_zero] at h3
      rw [wordsR_append, wordsR_append]
      exact h3
    · rw [decide_eq_true (by omega), if_neg (fun h => h2 h.2), hj]

theorem implAlike_eq {k : Nat} {m : List Int} {a b : List S34} (hm : m.length ≤ 4000000) (ha : a.length ≤ 4000000) (hb : b.length ≤ 4000000) (hk : m.length + 210 < k) : impl_AllAlike.f k m a b = some (alikeR m a b) := by
  obtain ⟨k, rfl⟩ : ∃ q, k = q + 1 := ⟨k - 1, by omega⟩
  have hj : impl_AllAlike.j0 (k + 1) m a b true = some (false, false) := by simp [impl_AllAlike.j0]
  unfold impl_AllAlike.f alikeR
  rw [implMemoryOk_eq hm (by omega), Option.bind_some, w64 (by omega) (by omega)]
  cases h1 : memB m with
  | false => simp [hj]
  | true =>
    rw [if_pos rfl]
    by_cases h2 : a.length + b.length ≤ 200
    · rw [decide_eq_false (by omega), if_pos ⟨rfl, h2⟩]
      have e : ∀ c d : List S34, c.length + d.length ≤ 200 → wordsAllR m (c ++ d) = wordsR m (c ++ d) := fun c d h => by simp [wordsAllR, h]
      have la := (wordsR_len (a ++ b) m).1
      have lb := (wordsR_len (b ++ a) m).1
      rw [impl_AllAlike.j0, if_neg Bool.false_ne_true, concat_eq ha hb (by omega), Option.bind_some, implWords_eq hm (by omega), Option.bind_some, e a b h2, concat_eq hb ha (by omega), Option.bind_some, implWords_eq hm (by omega), Option.bind_some, e b a (by omega)]
      rw [slicesEqual_eq (by omega) (by omega) (by omega), Option.bind_some]
    · rw [decide_eq_true (by omega), if_neg (fun h => h2 h.2), hj]


end Go.Proofs.Ytbhlmgljflggeaa.M
namespace Go.Proofs.Ytbhlmgljflggeaa.Pb
theorem ifneg_lt {α : Type} {c : Int} {a b : α} (h : ¬ c < 0) : (if c < 0 then a else b) = b := if_neg h


end Go.Proofs.Ytbhlmgljflggeaa.Pb
namespace Go.Proofs.Ytbhlmgljflggeaa.Pure
set_option linter.unusedVariables false
set_option linter.unusedSimpArgs false
open Go.RowKit Go.Proofs.Ytbhlmgljflggeaa.M Go.Proofs.YtbhlmgljflggeaaW.PrintWords Go.Proofs.Ytbhlmgljflggeaa.Pb


theorem FnExactAllAlike : laws_FnExactAllAlike.Pure := by
  intro m a b _ ha hb
  obtain ⟨k, hk⟩ : ∃ k : Nat, 30000000 < k := ⟨30000001, by omega⟩
  refine ⟨k + 3, ?_⟩
  unfold laws_FnExactAllAlike.f
  by_cases h0 : (m.length : Int) > 1048576
  · rw [if_pos h0]
  · rw [if_neg h0, szWordOpS_eq ha.1 (by omega), Option.bind_some]
    by_cases h1 : a.length ≤ 1048576
    · rw [if_neg (show ¬ ((1048576 : Int) - (a.length : Int) < 0) by omega), if_neg (by omega), szWordOpS_eq hb.1 (by omega), Option.bind_some]
      by_cases h2 : (1048576 : Int) - (a.length : Int) - (b.length : Int) < 0
      · rw [if_pos h2, if_pos (by omega)]
      · rw [if_neg h2, if_neg h2]
        (repeat (first | rw [if_pos rfl] | rw [if_neg Bool.false_ne_true] | rw [ifneg_lt (by (first | omega | (simp only [List.length_map]; omega)))] | rw [toIntS_eq (by (first | omega | (simp only [List.length_map]; omega))) (by (first | omega | (simp only [List.length_map]; omega)))] | rw [eqIntS_refl (by (first | omega | (simp only [List.length_map]; omega))) (by (first | omega | (simp only [List.length_map]; omega)))] | rw [toWordOpS_eq (by (first | omega | (simp only [List.length_map]; omega))) (by (first | omega | (simp only [List.length_map]; omega)))] | rw [eqWordOpS_refl (by (first | omega | (simp only [List.length_map]; omega))) (by (first | omega | (simp only [List.length_map]; omega)))] | rw [specAlike_eq (by (first | omega | (simp only [List.length_map]; omega))) (by (first | omega | (simp only [List.length_map]; omega))) (by (first | omega | (simp only [List.length_map]; omega))) (by (first | omega | (simp only [List.length_map]; omega)))] | rw [implAlike_eq (by (first | omega | (simp only [List.length_map]; omega))) (by (first | omega | (simp only [List.length_map]; omega))) (by (first | omega | (simp only [List.length_map]; omega))) (by (first | omega | (simp only [List.length_map]; omega)))] | (simp only [Option.bind_some, bne_self_eq_false, if_true, Bool.false_eq_true, if_false])))
        rw [laws_FnExactAllAlike.j0]
        (repeat (first | rw [if_pos rfl] | rw [if_neg Bool.false_ne_true] | rw [ifneg_lt (by (first | omega | (simp only [List.length_map]; omega)))] | rw [toIntS_eq (by (first | omega | (simp only [List.length_map]; omega))) (by (first | omega | (simp only [List.length_map]; omega)))] | rw [eqIntS_refl (by (first | omega | (simp only [List.length_map]; omega))) (by (first | omega | (simp only [List.length_map]; omega)))] | rw [toWordOpS_eq (by (first | omega | (simp only [List.length_map]; omega))) (by (first | omega | (simp only [List.length_map]; omega)))] | rw [eqWordOpS_refl (by (first | omega | (simp only [List.length_map]; omega))) (by (first | omega | (simp only [List.length_map]; omega)))] | rw [specAlike_eq (by (first | omega | (simp only [List.length_map]; omega))) (by (first | omega | (simp only [List.length_map]; omega))) (by (first | omega | (simp only [List.length_map]; omega))) (by (first | omega | (simp only [List.length_map]; omega)))] | rw [implAlike_eq (by (first | omega | (simp only [List.length_map]; omega))) (by (first | omega | (simp only [List.length_map]; omega))) (by (first | omega | (simp only [List.length_map]; omega))) (by (first | omega | (simp only [List.length_map]; omega)))] | (simp only [Option.bind_some, bne_self_eq_false, if_true, Bool.false_eq_true, if_false])))
    · rw [if_pos (show ((1048576 : Int) - (a.length : Int) < 0) by omega), if_pos (by omega)]


end Go.Proofs.Ytbhlmgljflggeaa.Pure
