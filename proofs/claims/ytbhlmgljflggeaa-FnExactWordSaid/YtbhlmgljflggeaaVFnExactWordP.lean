/- The pure statement of FnExactWord and what it needs. Conditions: those that each theorem states. -/
import Derived.Test.YtbhlmgljflggeaaVFnExactWord1
import Derived.RowKit
import Derived.Test.YtbhlmgljflggeaaWWords
namespace Go.Proofs.Ytbhlmgljflggeaa.Pb
open Go.RowKit Go.Proofs.YtbhlmgljflggeaaW.PrintWords

theorem w64 {x : Int} (h0 : -9223372036854775808 ≤ x) (h1 : x ≤ 9223372036854775807) : wrap64 x = x := by
  unfold wrap64
  omega

theorem rd_at (l : List Int) (i : Nat) (h : i < l.length) : rd l (i : Int) = l[i] := by
  simp [rd, List.getD_eq_getElem?_getD, List.getElem?_eq_getElem h]

theorem set_take {α : Type} (x : List α) (v : α) (i : Nat) (h : i < x.length) : (x.set i v).take (i + 1) = x.take i ++ [v] := by
  rw [List.take_succ_eq_append_getElem (by simpa using h)]
  rw [List.take_set_of_le (Nat.le_refl i)]
  simp

/-- One round of a loop that copies. -/
theorem copy_step {α : Type} (x l : List α) (i : Nat) (h : i < l.length) (hx : i < x.length) :
    (x.set i l[i]).take (i + 1) ++ l.drop (i + 1) = x.take i ++ l.drop i := by
  rw [set_take x l[i] i hx, List.drop_eq_getElem_cons h, List.append_assoc]
  rfl

theorem drop_cons {α : Type} (l : List α) (i : Nat) (h : i < l.length) : l.drop i = l[i] :: l.drop (i + 1) := List.drop_eq_getElem_cons h


end Go.Proofs.Ytbhlmgljflggeaa.Pb
namespace Go.Proofs.Ytbhlmgljflggeaa.M
open Go.RowKit Go.Proofs.YtbhlmgljflggeaaW.PrintWords Go.Proofs.Ytbhlmgljflggeaa.Pb

theorem toIntS_l0 (l : List Int) (hl : l.length ≤ 4000000) (d : Nat) : ∀ (k i : Nat) (x : List Int), i + d = l.length → d < k → x.length = l.length → laws_toIntS.l0 k l x (i : Int) = some (x.take i ++ l.drop i) := by
  induction d with
  | zero =>
    intro k i x hi hk hx
    obtain ⟨k, rfl⟩ : ∃ m, k = m + 1 := ⟨k - 1, by omega⟩
    simp only [laws_toIntS.l0]
    rw [if_neg (by omega), List.take_of_length_le (by omega), List.drop_of_length_le (by omega), List.append_nil]
  | succ d ih =>
    intro k i x hi hk hx
    obtain ⟨k, rfl⟩ : ∃ m, k = m + 1 := ⟨k - 1, by omega⟩
    simp only [laws_toIntS.l0]
    rw [if_pos (by omega), if_pos (by omega), if_pos (by omega), w64 (by omega) (by omega), rd_at l i (by omega), Int.toNat_natCast,
      show ((i : Int) + 1) = ((i + 1 : Nat) : Int) from by omega, ih k (i + 1) _ (by omega) (by omega) (by simp [hx]), copy_step x l i (by omega) (by omega)]

theorem toIntS_eq {k : Nat} {l : List Int} (hl : l.length ≤ 4000000) (hk : l.length < k) : laws_toIntS.f k l = some l := by
  unfold laws_toIntS.f
  rw [if_pos (by omega), if_pos (by omega)]
  have h := toIntS_l0 l hl l.length k 0 (List.replicate ((l.length : Int) : Int).toNat 0) (by omega) hk (by simp)
  rw [List.take_zero, List.drop_zero, List.nil_append] at h
  exact h

theorem eqIntS_l0 (l : List Int) (hl : l.length ≤ 4000000) (d : Nat) : ∀ (k i : Nat), i + d = l.length → d < k → laws_eqIntS.l0 k l l (i : Int) = some true := by
  induction d with
  | zero =>
    intro k i hi hk
    obtain ⟨k, rfl⟩ : ∃ m, k = m + 1 := ⟨k - 1, by omega⟩
    simp only [laws_eqIntS.l0]
    rw [if_neg (by omega)]
  | succ d ih =>
    intro k i hi hk
    obtain ⟨k, rfl⟩ : ∃ m, k = m + 1 := ⟨k - 1, by omega⟩
    simp only [laws_eqIntS.l0]
    rw [if_pos (by omega), if_pos (by omega), if_pos (by omega), if_pos trivial, w64 (by omega) (by omega), show ((i : Int) + 1) = ((i + 1 : Nat) : Int) from by omega]
    exact ih k (i + 1) (by omega) (by omega)

theorem eqIntS_refl {k : Nat} {l : List Int} (hl : l.length ≤ 4000000) (hk : l.length < k) : laws_eqIntS.f k l l = some true := by
  unfold laws_eqIntS.f
  rw [if_pos rfl]
  exact eqIntS_l0 l hl l.length k 0 (by omega) hk

/-- All of a list within bounds. -/
def inB (a b x : Int) : Bool := decide (a ≤ x) && decide (x ≤ b)

theorem l1In_eq (x a b : Int) : spec_l1In.f x a b = some (inB a b x) := by
  unfold spec_l1In.f inB
  by_cases h : x ≥ a
  · rw [if_pos h, decide_eq_true (show a ≤ x from h), Bool.true_and]
  · rw [if_neg h, decide_eq_false (show ¬ a ≤ x from h), Bool.false_and]

theorem in_eq (x a b : Int) : impl_in.f x a b = some (inB a b x) := by
  unfold impl_in.f inB
  by_cases h : a ≤ x
  · rw [if_pos h, decide_eq_true h, Bool.true_and]
  · rw [if_neg h, decide_eq_false h, Bool.false_and]

theorem l1All_l0 (l : List Int) (a b : Int) (hl : l.length ≤ 4000000) (d : Nat) : ∀ (k i : Nat), i + d = l.length → d < k → spec_l1All.l0 k l a b (i : Int) = some ((l.drop i).all (inB a b)) := by
  induction d with
  | zero =>
    intro k i hi hk
    obtain ⟨k, rfl⟩ : ∃ m, k = m + 1 := ⟨k - 1, by omega⟩
    simp only [spec_l1All.l0]
    rw [if_neg (by omega), List.drop_of_length_le (by omega)]
    rfl
  | succ d ih =>
    intro k i hi hk
    obtain ⟨k, rfl⟩ : ∃ m, k = m + 1 := ⟨k - 1, by omega⟩
    simp only [spec_l1All.l0]
    rw [if_pos (by omega), if_pos (by omega), rd_at l i (by omega), l1In_eq, Option.bind_some, drop_cons l i (by omega), List.all_cons]
    cases h : inB a b l[i] with
    | true =>
      rw [if_pos rfl, w64 (by omega) (by omega), show ((i : Int) + 1) = ((i + 1 : Nat) : Int) from by omega, ih k (i + 1) (by omega) (by omega), Bool.true_and]
    | false => simp

theorem l1All_eq {k : Nat} {l : List Int} {a b : Int} (hl : l.length ≤ 4000000) (hk : l.length < k) : spec_l1All.f k l a b = some (l.all (inB a b)) := by
  unfold spec_l1All.f
  exact l1All_l0 l a b hl l.length k 0 (by omega) hk


theorem isValue_eq (x : Int) : impl_isValue.f x = some (inB (-1000000000) 1000000000 x) := by
  unfold impl_isValue.f
  rw [in_eq, Option.bind_some]

theorem notValue_eq (x : Int) : impl_areValues_1.f x = some (!inB (-1000000000) 1000000000 x) := by
  unfold impl_areValues_1.f
  rw [isValue_eq, Option.bind_some]

theorem indexNot_l0 (l : List Int) (hl : l.length ≤ 4000000) (d : Nat) : ∀ (k i : Nat), i + d = l.length → d < k →
    ∃ r, slices_IndexFunc_int_int_F64.l0 k l (l.length : Int) (i : Int) = some r ∧ (decide (r ≥ 0)) = !((l.drop i).all (inB (-1000000000) 1000000000)) := by
  induction d with
  | zero =>
    intro k i hi hk
    obtain ⟨k, rfl⟩ : ∃ m, k = m + 1 := ⟨k - 1, by omega⟩
    refine ⟨-1, ?_, ?_⟩
    · simp only [slices_IndexFunc_int_int_F64.l0]
      rw [if_neg (by omega)]
    · rw [List.drop_of_length_le (by omega)]
      rfl
  | succ d ih =>
    intro k i hi hk
    obtain ⟨k, rfl⟩ : ∃ m, k = m + 1 := ⟨k - 1, by omega⟩
    simp only [slices_IndexFunc_int_int_F64.l0]
    rw [if_pos (by omega), if_pos (by omega), if_pos (by omega), rd_at l i (by omega), notValue_eq, Option.bind_some, drop_cons l i (by omega), List.all_cons]
    cases h : inB (-1000000000) 1000000000 l[i] with
    | true =>
      rw [w64 (by omega) (by omega), show ((i : Int) + 1) = ((i + 1 : Nat) : Int) from by omega, Bool.true_and]
      simp only [Bool.not_true, Bool.false_eq_true, if_false]
      exact ih k (i + 1) (by omega) (by omega)
    | false => exact ⟨(i : Int), by simp, by simp⟩

theorem areValues_eq {k : Nat} {l : List Int} (hl : l.length ≤ 4000000) (hk : l.length < k) : impl_areValues.f k l = some (l.all (inB (-1000000000) 1000000000)) := by
  unfold impl_areValues.f slices_ContainsFunc_int_int_F64.f slices_IndexFunc_int_int_F64.f
  obtain ⟨r, hr, h⟩ := indexNot_l0 l hl l.length k 0 (by omega) hk
  rw [show ((0 : Nat) : Int) = 0 from rfl] at hr
  rw [hr, Option.bind_some, Option.bind_some, h, List.drop_zero, Bool.not_not]

/-- A memory is right. -/
def memB (l : List Int) : Bool := decide (l.length ≤ 40) && l.all (inB (-1000000000) 1000000000)

theorem specMemoryOk_eq {k : Nat} {l : List Int} (hl : l.length ≤ 4000000) (hk : l.length < k) : spec_MemoryOk.f k l = some (memB l) := by
  unfold spec_MemoryOk.f memB
  by_cases h : l.length ≤ 40
  · rw [if_pos (by omega), l1All_eq hl hk, Option.bind_some, decide_eq_true h, Bool.true_and]
  · rw [if_neg (by omega), decide_eq_false h, Bool.false_and]

theorem implMemoryOk_eq {k : Nat} {l : List Int} (hl : l.length ≤ 4000000) (hk : l.length < k) : impl_MemoryOk.f k l = some (memB l) := by
  unfold impl_MemoryOk.f memB
  by_cases h : l.length ≤ 40
  · rw [if_pos (by omega), areValues_eq hl hk, Option.bind_some, decide_eq_true h, Bool.true_and]
  · rw [if_neg (by omega), decide_eq_false h, Bool.false_and]


end Go.Proofs.Ytbhlmgljflggeaa.M
namespace Go.Proofs.Ytbhlmgljflggeaa.M
set_option linter.unusedVariables false
set_option linter.unusedSimpArgs false
open Go.RowKit Go.Proofs.YtbhlmgljflggeaaW.PrintWords Go.Proofs.Ytbhlmgljflggeaa.Pb

theorem l1Copy_eq {l : List Int} (hl : l.length ≤ 4000000) : spec_l1Copy.f l = some l := by
  unfold spec_l1Copy.f
  rw [Option.bind_some, if_pos (by simp; omega), List.nil_append]
theorem own_eq {l : List Int} (hl : l.length ≤ 4000000) : impl_own.f l = some l := by
  unfold impl_own.f
  rw [Option.bind_some, if_pos (by simp; omega), List.nil_append]
theorem l1Value_eq (x : Int) : spec_l1Value.f x = some (inB (-1000000000) 1000000000 x) := by
  unfold spec_l1Value.f
  rw [l1In_eq, Option.bind_some]

theorem inB_iff {a b x : Int} : inB a b x = true ↔ a ≤ x ∧ x ≤ b := by simp [inB]

theorem mem_rd {m : List Int} (h : memB m = true) (b : Int) (h0 : 0 ≤ b) (h1 : b < (m.length : Int)) : -1000000000 ≤ rd m b ∧ rd m b ≤ 1000000000 := by
  obtain ⟨n, rfl⟩ := Int.eq_ofNat_of_zero_le h0
  rw [rd_at m n (by omega)]
  simp only [memB, Bool.and_eq_true, List.all_eq_true] at h
  exact inB_iff.1 (h.2 _ (List.getElem_mem _))

/-- Is the op right? -/
def okOp (m : List Int) (a b c d : Int) : Bool := memB m && (inB 1 5 a && (inB 0 ((m.length : Int) - 1) b && ((decide (a = 1) || inB (-1000000000) 1000000000 d) && (!decide (a = 4) || inB (-1000000000) 1000000000 c))))
def wordR (m : List Int) (a b c d : Int) : List Int × Int × Bool :=
  if okOp m a b c d = true then
    if a = 2 then (m.set b.toNat d, d, true)
    else if a = 3 then (m.set b.toNat d, rd m b, true)
    else if a = 4 then (if rd m b = c then (m.set b.toNat d, rd m b, true) else (m, rd m b, true))
    else if a = 5 then (if inB (-1000000000) 1000000000 (rd m b + d) = true then (m.set b.toNat (rd m b + d), rd m b + d, true) else (m, 0, false))
    else (m, rd m b, true)
  else (m, 0, false)

theorem wordR_len (m : List Int) (a b c d : Int) : (wordR m a b c d).1.length = m.length := by
  unfold wordR
  repeat' split
  all_goals simp

theorem specWord_j0 {k : Nat} {m : List Int} {a b c d : Int} (hl : m.length ≤ 4000000) (h : okOp m a b c d = true) : spec_Word.j0 (k + 1) m m false a b c d = some (wordR m a b c d) := by
  have h' := h
  simp only [okOp, Bool.and_eq_true, Bool.or_eq_true, decide_eq_true_eq, Bool.not_eq_true', decide_eq_false_iff_not] at h'
  obtain ⟨h1, h2, h3, h4, h5⟩ := h'
  have hb := inB_iff.1 h3
  have hr := mem_rd h1 b hb.1 (by omega)
  simp only [spec_Word.j0, wordR, h, if_true, Bool.false_eq_true, if_false]
  rw [if_pos hb.1, if_pos (by omega)]
  have hb2 : b < (m.length : Int) := by omega
  simp only [hb2, if_true]
  by_cases e5 : a = 5
  · subst e5
    have hd := inB_iff.1 (h4.resolve_left (by decide))
    rw [w64 (x := rd m b + d) (by omega) (by omega), l1Value_eq, Option.bind_some]
    cases h6 : inB (-1000000000) 1000000000 (rd m b + d) <;> simp
  · simp only [e5, if_false]
    repeat' split
    all_goals rfl

theorem specWord_eq {k : Nat} {m : List Int} {a b c d : Int} (hl : m.length ≤ 4000000) (hk : m.length + 2 < k) : spec_Word.f k m a b c d = some (wordR m a b c d) := by
  obtain ⟨k, rfl⟩ : ∃ q, k = q + 1 := ⟨k - 1, by omega⟩
  have hno : okOp m a b c d = false → wordR m a b c d = (m, 0, false) := fun h => by simp [wordR, h]
  have hj : spec_Word.j0 (k + 1) m m true a b c d = some (m, 0, false) := by simp [spec_Word.j0]
  unfold spec_Word.f
  rw [l1Copy_eq hl, Option.bind_some, specMemoryOk_eq hl (by omega), Option.bind_some]
  simp only [l1In_eq, l1Value_eq, Option.bind_some, hj]
  have ew : wrap64 ((m.length : Int) - 1) = (m.length : Int) - 1 := w64 (by omega) (by omega)
  rw [ew]
  cases ho : okOp m a b c d with
  | true =>
    have h' := ho
    simp only [okOp, Bool.and_eq_true, Bool.or_eq_true, decide_eq_true_eq, Bool.not_eq_true', decide_eq_false_iff_not] at h'
    obtain ⟨h1, h2, h3, h4, h5⟩ := h'
    have hg := specWord_j0 (k := k) hl ho
    simp only [h1, h2, h3, if_true]
    by_cases e1 : a = 1
    · subst e1
      simpa using hg
    · have h4' := h4.resolve_left e1
      simp only [e1, if_false, h4', if_true]
      by_cases e4 : a = 4
      · have h5' := h5.resolve_left (by simpa using e4)
        simp only [e4, if_true, h5', Bool.not_true]
        rw [← e4]
        exact hg
      · simp only [e4, if_false]
        exact hg
  | false =>
    rw [hno ho]
    simp only [okOp] at ho
    cases h1 : memB m with
    | false => simp
    | true =>
      cases h2 : inB 1 5 a with
      | false => simp
      | true =>
        cases h3 : inB 0 ((m.length : Int) - 1) b with
        | false => simp
        | true =>
          simp only [h1, h2, h3, Bool.true_and, Bool.and_eq_false_iff, Bool.or_eq_false_iff] at ho
          simp only [if_true]
          by_cases e1 : a = 1
          · exfalso
            subst e1
            simp at ho
          · simp only [e1, if_false]
            cases h4 : inB (-1000000000) 1000000000 d with
            | false => simp
            | true =>
              rw [h4] at ho
              by_cases e4 : a = 4
              · have h5 : inB (-1000000000) 1000000000 c = false := by simpa [e4] using ho
                simp only [e4, if_true, h5, Bool.not_false]
                rw [← e4]
                exact hj
              · simp [e4] at ho

theorem implWord_j0 {k : Nat} {m : List Int} {a b c d : Int} (hl : m.length ≤ 4000000) (h : okOp m a b c d = true) : impl_Word.j0 (k + 1) m m false a b c d = some (wordR m a b c d) := by
  have h' := h
  simp only [okOp, Bool.and_eq_true, Bool.or_eq_true, decide_eq_true_eq, Bool.not_eq_true', decide_eq_false_iff_not] at h'
  obtain ⟨h1, h2, h3, h4, h5⟩ := h'
  have hb := inB_iff.1 h3
  have hr := mem_rd h1 b hb.1 (by omega)
  simp only [impl_Word.j0, wordR, h, if_true, Bool.false_eq_true, if_false]
  rw [if_pos hb.1, if_pos (by omega)]
  have hb2 : b < (m.length : Int) := by omega
  simp only [hb2, if_true]
  by_cases e5 : a = 5
  · subst e5
    have hd := inB_iff.1 (h4.resolve_left (by decide))
    rw [w64 (x := rd m b + d) (by omega) (by omega), isValue_eq, Option.bind_some]
    cases h6 : inB (-1000000000) 1000000000 (rd m b + d) <;> simp
  · simp only [e5, if_false]
    repeat' split
    all_goals rfl

theorem implWord_eq {k : Nat} {m : List Int} {a b c d : Int} (hl : m.length ≤ 4000000) (hk : m.length + 2 < k) : impl_Word.f k m a b c d = some (wordR m a b c d) := by
  obtain ⟨k, rfl⟩ : ∃ q, k = q + 1 := ⟨k - 1, by omega⟩
  have hno : okOp m a b c d = false → wordR m a b c d = (m, 0, false) := fun h => by simp [wordR, h]
  have hj : impl_Word.j0 (k + 1) m m true a b c d = some (m, 0, false) := by simp [impl_Word.j0]
  unfold impl_Word.f
  rw [own_eq hl, Option.bind_some, implMemoryOk_eq hl (by omega), Option.bind_some]
  simp only [in_eq, isValue_eq, Option.bind_some, hj]
  have ew : wrap64 ((m.length : Int) - 1) = (m.length : Int) - 1 := w64 (by omega) (by omega)
  rw [ew]
  cases ho : okOp m a b c d with
  | true =>
    have h' := ho
    simp only [okOp, Bool.and_eq_true, Bool.or_eq_true, decide_eq_true_eq, Bool.not_eq_true', decide_eq_false_iff_not] at h'
    obtain ⟨h1, h2, h3, h4, h5⟩ := h'
    have hg := implWord_j0 (k := k) hl ho
    simp only [h1, h2, h3, if_true]
    by_cases e4 : a = 4
    · have h5' := h5.resolve_left (by simpa using e4)
      have e1 : ¬ a = 1 := by omega
      have h4' := h4.resolve_left e1
      simp only [e4, if_true, h5', h4', Bool.not_true]
      rw [← e4]
      simpa [e1] using hg
    · simp only [e4, if_false]
      by_cases e1 : a = 1
      · subst e1
        simpa using hg
      · have h4' := h4.resolve_left e1
        simp only [e1, if_false, h4', Bool.not_true]
        exact hg
  | false =>
    rw [hno ho]
    simp only [okOp] at ho
    cases h1 : memB m with
    | false => simp
    | true =>
      cases h2 : inB 1 5 a with
      | false => simp
      | true =>
        cases h3 : inB 0 ((m.length : Int) - 1) b with
        | false => simp
        | true =>
          simp only [h1, h2, h3, Bool.true_and, Bool.and_eq_false_iff, Bool.or_eq_false_iff] at ho
          simp only [if_true]
          by_cases e1 : a = 1
          · exfalso
            subst e1
            simp at ho
          · simp only [e1, if_false]
            cases h4 : inB (-1000000000) 1000000000 d with
            | false =>
              simp only [Bool.not_false]
              rw [hj]
              repeat' split
              all_goals rfl
            | true =>
              rw [h4] at ho
              by_cases e4 : a = 4
              · have h5 : inB (-1000000000) 1000000000 c = false := by simpa [e4] using ho
                simp [e4, h5]
              · simp [e4] at ho


end Go.Proofs.Ytbhlmgljflggeaa.M
namespace Go.Proofs.Ytbhlmgljflggeaa.M
set_option linter.unusedSimpArgs false
open Go.RowKit Go.Proofs.YtbhlmgljflggeaaW.PrintWords Go.Proofs.Ytbhlmgljflggeaa.Pb

theorem rd_mid (p q : List Int) (y : Int) : rd (p ++ y :: q) ((p.length : Nat) : Int) = y := by
  simp [rd, List.getD_eq_getElem?_getD]
def mkLInt : Int → Nat → List Int
  | _, 0 => []
  | a, m + 1 => a :: mkLInt (a + 1) m
theorem mkLInt_len : ∀ (m : Nat) (a : Int), (mkLInt a m).length = m
  | 0, _ => rfl
  | m + 1, a => by simp [mkLInt, mkLInt_len m]
theorem markIntS_l0 (d : Nat) : ∀ (k i : Nat) (a : Int) (x : List Int), x.length ≤ 4000000 → i + d = x.length → d < k → 0 ≤ a → a + d ≤ 1099511627776 → laws_markIntS.l0 k x a (i : Int) = some (a + d, x.take i ++ mkLInt a d) := by
  induction d with
  | zero =>
    intro k i a x hl hi hk h0 h1
    obtain ⟨k, rfl⟩ : ∃ m, k = m + 1 := ⟨k - 1, by omega⟩
    simp only [laws_markIntS.l0]
    rw [if_neg (by omega), List.take_of_length_le (by omega)]
    simp [mkLInt]
  | succ d ih =>
    intro k i a x hl hi hk h0 h1
    obtain ⟨k, rfl⟩ : ∃ m, k = m + 1 := ⟨k - 1, by omega⟩
    simp only [laws_markIntS.l0]
    have ei : wrap64 ((i : Int) + 1) = ((i + 1 : Nat) : Int) := by
      rw [w64 (by omega) (by omega)]
      omega
    have hx : i < x.length := by omega
    rw [if_pos (by omega), if_pos (by omega), w64 (x := a + 1) (by omega) (by omega), ei, Int.toNat_natCast,
      ih k (i + 1) (a + 1) _ (by simpa using hl) (by simp; omega) (by omega) (by omega) (by omega), set_take _ _ _ hx, List.append_assoc]
    refine congrArg some (Prod.ext ?_ rfl)
    show a + 1 + (d : Int) = a + ((d + 1 : Nat) : Int)
    omega
theorem markIntS_eq {k : Nat} {x : List Int} {a : Int} (hl : x.length ≤ 4000000) (hk : x.length < k) (h0 : 0 ≤ a) (h1 : a ≤ 549755813888) : laws_markIntS.f k x a = some (a + x.length, mkLInt a x.length) := by
  unfold laws_markIntS.f
  have h := markIntS_l0 x.length k 0 a x hl (by omega) hk h0 (by omega)
  rw [List.take_zero, List.nil_append] at h
  exact h
theorem heldIntS_l0 (d : Nat) : ∀ (k : Nat) (a : Int) (p : List Int), p.length + d ≤ 4000000 → d < k → 0 ≤ a → a + d ≤ 1099511627776 → laws_heldIntS.l0 k (p ++ mkLInt a d) a ((p.length : Nat) : Int) = some (a + d) := by
  induction d with
  | zero =>
    intro k a p hl hk h0 h1
    obtain ⟨k, rfl⟩ : ∃ m, k = m + 1 := ⟨k - 1, by omega⟩
    simp only [laws_heldIntS.l0]
    rw [if_neg (by simp [mkLInt])]
    simp
  | succ d ih =>
    intro k a p hl hk h0 h1
    obtain ⟨k, rfl⟩ : ∃ m, k = m + 1 := ⟨k - 1, by omega⟩
    simp only [laws_heldIntS.l0]
    have ei : wrap64 ((p.length : Int) + 1) = ((p.length + 1 : Nat) : Int) := by
      rw [w64 (by omega) (by omega)]
      omega
    have ea : wrap64 (a + 1) = a + 1 := w64 (by omega) (by omega)
    have hlen : ((p ++ mkLInt a (d + 1)).length : Int) = p.length + d + 1 := by
      simp [mkLInt_len]
      omega
    rw [if_pos (by omega), if_pos (by omega)]
    simp only [mkLInt, rd_mid, ea, ei, if_true]
    have h := ih k (a + 1) (p ++ [a]) (by simp; omega) (by omega) (by omega) (by omega)
    rw [List.append_assoc, List.length_append] at h
    simp only [List.singleton_append, List.length_singleton] at h
    rw [h]
    refine congrArg some ?_
    omega
theorem heldIntS_eq {k : Nat} {m : Nat} {a : Int} (hl : m ≤ 4000000) (hk : m < k) (h0 : 0 ≤ a) (h1 : a ≤ 549755813888) : laws_heldIntS.f k (mkLInt a m) a = some (a + m) := by
  unfold laws_heldIntS.f
  exact heldIntS_l0 m k a [] (by simpa using hl) hk h0 (by omega)


end Go.Proofs.Ytbhlmgljflggeaa.M
namespace Go.Proofs.Ytbhlmgljflggeaa.Pb
theorem ifneg_lt {α : Type} {c : Int} {a b : α} (h : ¬ c < 0) : (if c < 0 then a else b) = b := if_neg h


end Go.Proofs.Ytbhlmgljflggeaa.Pb
namespace Go.Proofs.Ytbhlmgljflggeaa.Pure
set_option linter.unusedVariables false
set_option linter.unusedSimpArgs false
open Go.RowKit Go.Proofs.Ytbhlmgljflggeaa.M Go.Proofs.YtbhlmgljflggeaaW.PrintWords Go.Proofs.Ytbhlmgljflggeaa.Pb


theorem FnExactWord : laws_FnExactWord.Pure := by
  intro l a b c d _ _ _ _ _
  obtain ⟨k, hk⟩ : ∃ k : Nat, 5000000 < k := ⟨5000001, by omega⟩
  refine ⟨k + 3, ?_⟩
  unfold laws_FnExactWord.f
  by_cases h : (l.length : Int) > 1048576
  · rw [if_pos h]
  · rw [if_neg h]
    have hr := wordR_len l a b c d
    (repeat (first | rw [if_pos rfl] | rw [if_neg Bool.false_ne_true] | rw [ifneg_lt (by omega)] | rw [toIntS_eq (by omega) (by omega)] | rw [eqIntS_refl (by omega) (by omega)] | rw [markIntS_eq (by omega) (by omega) (by omega) (by omega)] | rw [heldIntS_eq (by omega) (by omega) (by omega) (by omega)] | rw [laws_toWordOp.f] | rw [specWord_eq (by omega) (by omega)] | rw [implWord_eq (by omega) (by omega)] | (simp only [Option.bind_some, bne_self_eq_false, if_true, Bool.false_eq_true, if_false])))
    generalize hR : wordR l a b c d = R at hr
    obtain ⟨out, x, ok⟩ := R
    simp only at hr
    simp only [bne_self_eq_false]
    (repeat (first | rw [if_pos rfl] | rw [if_neg Bool.false_ne_true] | rw [ifneg_lt (by omega)] | rw [toIntS_eq (by omega) (by omega)] | rw [eqIntS_refl (by omega) (by omega)] | rw [markIntS_eq (by omega) (by omega) (by omega) (by omega)] | rw [heldIntS_eq (by omega) (by omega) (by omega) (by omega)] | rw [laws_toWordOp.f] | rw [specWord_eq (by omega) (by omega)] | rw [implWord_eq (by omega) (by omega)] | (simp only [Option.bind_some, bne_self_eq_false, if_true, Bool.false_eq_true, if_false])))
    rw [laws_FnExactWord.j0]
    (repeat (first | rw [if_pos rfl] | rw [if_neg Bool.false_ne_true] | rw [ifneg_lt (by omega)] | rw [toIntS_eq (by omega) (by omega)] | rw [eqIntS_refl (by omega) (by omega)] | rw [markIntS_eq (by omega) (by omega) (by omega) (by omega)] | rw [heldIntS_eq (by omega) (by omega) (by omega) (by omega)] | rw [laws_toWordOp.f] | rw [specWord_eq (by omega) (by omega)] | rw [implWord_eq (by omega) (by omega)] | (simp only [Option.bind_some, bne_self_eq_false, if_true, Bool.false_eq_true, if_false])))
    rw [laws_FnExactWord.j1]
    (repeat (first | rw [if_pos rfl] | rw [if_neg Bool.false_ne_true] | rw [ifneg_lt (by omega)] | rw [toIntS_eq (by omega) (by omega)] | rw [eqIntS_refl (by omega) (by omega)] | rw [markIntS_eq (by omega) (by omega) (by omega) (by omega)] | rw [heldIntS_eq (by omega) (by omega) (by omega) (by omega)] | rw [laws_toWordOp.f] | rw [specWord_eq (by omega) (by omega)] | rw [implWord_eq (by omega) (by omega)] | (simp only [Option.bind_some, bne_self_eq_false, if_true, Bool.false_eq_true, if_false])))
    rw [hR]
    (repeat (first | rw [if_pos rfl] | rw [if_neg Bool.false_ne_true] | rw [ifneg_lt (by omega)] | rw [toIntS_eq (by omega) (by omega)] | rw [eqIntS_refl (by omega) (by omega)] | rw [markIntS_eq (by omega) (by omega) (by omega) (by omega)] | rw [heldIntS_eq (by omega) (by omega) (by omega) (by omega)] | rw [laws_toWordOp.f] | rw [specWord_eq (by omega) (by omega)] | rw [implWord_eq (by omega) (by omega)] | (simp only [Option.bind_some, bne_self_eq_false, if_true, Bool.false_eq_true, if_false])))
    rw [laws_FnExactWord.j2]
    (repeat (first | rw [if_pos rfl] | rw [if_neg Bool.false_ne_true] | rw [ifneg_lt (by omega)] | rw [toIntS_eq (by omega) (by omega)] | rw [eqIntS_refl (by omega) (by omega)] | rw [markIntS_eq (by omega) (by omega) (by omega) (by omega)] | rw [heldIntS_eq (by omega) (by omega) (by omega) (by omega)] | rw [laws_toWordOp.f] | rw [specWord_eq (by omega) (by omega)] | rw [implWord_eq (by omega) (by omega)] | (simp only [Option.bind_some, bne_self_eq_false, if_true, Bool.false_eq_true, if_false])))


end Go.Proofs.Ytbhlmgljflggeaa.Pure
