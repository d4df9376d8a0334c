/- The pure statement of FnWords and what it needs. Conditions: those that each theorem states. -/
import Derived.Test.YtbhlmgljflggeaaVFnWords2
import Derived.Laws.BitsLemmas
import Derived.RowKit
import Derived.Test.YtbhlmgljflggeaaWWords
namespace Go.Proofs.Ytbhlmgljflggeaa.Pb
open Go.RowKit Go.Proofs.YtbhlmgljflggeaaW.PrintWords

theorem w64 {x : Int} (h0 : -9223372036854775808 ≤ x) (h1 : x ≤ 9223372036854775807) : wrap64 x = x := by
  unfold wrap64
  omega

theorem rd_at (l : List Int) (i : Nat) (h : i < l.length) : rd l (i : Int) = l[i] := by
  simp [rd, List.getD_eq_getElem?_getD, List.getElem?_eq_getElem h]

theorem rdOf_at {α : Type} (d : α) (l : List α) (i : Nat) (h : i < l.length) : rdOf d l (i : Int) = l[i] := by
  simp [rdOf, List.getD_eq_getElem?_getD, List.getElem?_eq_getElem h]

theorem drop_cons {α : Type} (l : List α) (i : Nat) (h : i < l.length) : l.drop i = l[i] :: l.drop (i + 1) := List.drop_eq_getElem_cons h


end Go.Proofs.Ytbhlmgljflggeaa.Pb
namespace Go.Proofs.Ytbhlmgljflggeaa.M
open Go.RowKit Go.Proofs.YtbhlmgljflggeaaW.PrintWords Go.Proofs.Ytbhlmgljflggeaa.Pb

def inB (a b x : Int) : Bool := decide (a ≤ x) && decide (x ≤ b)

theorem l1In_eq (x a b : Int) : spec_l1In.f x a b = some (inB a b x) := by
  unfold spec_l1In.f inB
  by_cases h : x ≥ a
  · rw [if_pos h, decide_eq_true (show a ≤ x from h), Bool.true_and]
  · rw [if_neg h, decide_eq_false (show ¬ a ≤ x from h), Bool.false_and]

theorem in_eq (x a b : Int) : impl_in.f x a b = some (inB a b x) := by
  unfold impl_in.f inB
  by_cases h : a ≤ x
  · rw [if_pos h, decide_eq_true h, Bool.true_and]
  · rw [if_neg h, decide_eq_false h, Bool.false_and]

theorem l1All_l0 (l : List Int) (a b : Int) (hl : l.length ≤ 4000000) (d : Nat) : ∀ (k i : Nat), i + d = l.length → d < k → spec_l1All.l0 k l a b (i : Int) = some ((l.drop i).all (inB a b)) := by
  induction d with
  | zero =>
    intro k i hi hk
    obtain ⟨k, rfl⟩ : ∃ m, k = m + 1 := ⟨k - 1, by omega⟩
    simp only [spec_l1All.l0]
    rw [if_neg (by omega), List.drop_of_length_le (by omega)]
    rfl
  | succ d ih =>
    intro k i hi hk
    obtain ⟨k, rfl⟩ : ∃ m, k = m + 1 := ⟨k - 1, by omega⟩
    simp only [spec_l1All.l0]
    rw [if_pos (by omega), if_pos (by omega), rd_at l i (by omega), l1In_eq, Option.bind_some, drop_cons l i (by omega), List.all_cons]
    cases h : inB a b l[i] with
    | true =>
      rw [if_pos rfl, w64 (by omega) (by omega), show ((i : Int) + 1) = ((i + 1 : Nat) : Int) from by omega, ih k (i + 1) (by omega) (by omega), Bool.true_and]
    | false => simp

theorem l1All_eq {k : Nat} {l : List Int} {a b : Int} (hl : l.length ≤ 4000000) (hk : l.length < k) : spec_l1All.f k l a b = some (l.all (inB a b)) := by
  unfold spec_l1All.f
  exact l1All_l0 l a b hl l.length k 0 (by omega) hk


theorem isValue_eq (x : Int) : impl_isValue.f x = some (inB (-1000000000) 1000000000 x) := by
  unfold impl_isValue.f
  rw [in_eq, Option.bind_some]

theorem notValue_eq (x : Int) : impl_areValues_1.f x = some (!inB (-1000000000) 1000000000 x) := by
  unfold impl_areValues_1.f
  rw [isValue_eq, Option.bind_some]

theorem indexNot_l0 (l : List Int) (hl : l.length ≤ 4000000) (d : Nat) : ∀ (k i : Nat), i + d = l.length → d < k →
    ∃ r, slices_IndexFunc_int_int_F64.l0 k l (l.length : Int) (i : Int) = some r ∧ (decide (r ≥ 0)) = !((l.drop i).all (inB (-1000000000) 1000000000)) := by
  induction d with
  | zero =>
    intro k i hi hk
    obtain ⟨k, rfl⟩ : ∃ m, k = m + 1 := ⟨k - 1, by omega⟩
    refine ⟨-1, ?_, ?_⟩
    · simp only [slices_IndexFunc_int_int_F64.l0]
      rw [if_neg (by omega)]
    · rw [List.drop_of_length_le (by omega)]
      rfl
  | succ d ih =>
    intro k i hi hk
    obtain ⟨k, rfl⟩ : ∃ m, k = m + 1 := ⟨k - 1, by omega⟩
    simp only [slices_IndexFunc_int_int_F64.l0]
    rw [if_pos (by omega), if_pos (by omega), if_pos (by omega), rd_at l i (by omega), notValue_eq, Option.bind_some, drop_cons l i (by omega), List.all_cons]
    cases h : inB (-1000000000) 1000000000 l[i] with
    | true =>
      rw [w64 (by omega) (by omega), show ((i : Int) + 1) = ((i + 1 : Nat) : Int) from by omega, Bool.true_and]
      simp only [Bool.not_true, Bool.false_eq_true, if_false]
      exact ih k (i + 1) (by omega) (by omega)
    | false => exact ⟨(i : Int), by simp, by simp⟩

theorem areValues_eq {k : Nat} {l : List Int} (hl : l.length ≤ 4000000) (hk : l.length < k) : impl_areValues.f k l = some (l.all (inB (-1000000000) 1000000000)) := by
  unfold impl_areValues.f slices_ContainsFunc_int_int_F64.f slices_IndexFunc_int_int_F64.f
  obtain ⟨r, hr, h⟩ := indexNot_l0 l hl l.length k 0 (by omega) hk
  rw [show ((0 : Nat) : Int) = 0 from rfl] at hr
  rw [hr, Option.bind_some, Option.bind_some, h, List.drop_zero, Bool.not_not]

/-- A memory is right. -/
def memB (l : List Int) : Bool := decide (l.length ≤ 40) && l.all (inB (-1000000000) 1000000000)

theorem specMemoryOk_eq {k : Nat} {l : List Int} (hl : l.length ≤ 4000000) (hk : l.length < k) : spec_MemoryOk.f k l = some (memB l) := by
  unfold spec_MemoryOk.f memB
  by_cases h : l.length ≤ 40
  · rw [if_pos (by omega), l1All_eq hl hk, Option.bind_some, decide_eq_true h, Bool.true_and]
  · rw [if_neg (by omega), decide_eq_false h, Bool.false_and]

theorem implMemoryOk_eq {k : Nat} {l : List Int} (hl : l.length ≤ 4000000) (hk : l.length < k) : impl_MemoryOk.f k l = some (memB l) := by
  unfold impl_MemoryOk.f memB
  by_cases h : l.length ≤ 40
  · rw [if_pos (by omega), areValues_eq hl hk, Option.bind_some, decide_eq_true h, Bool.true_and]
  · rw [if_neg (by omega), decide_eq_false h, Bool.false_and]


end Go.Proofs.Ytbhlmgljflggeaa.M
namespace Go.Proofs.Ytbhlmgljflggeaa.M
set_option linter.unusedVariables false
set_option linter.unusedSimpArgs false
open Go.RowKit Go.Proofs.YtbhlmgljflggeaaW.PrintWords Go.Proofs.Ytbhlmgljflggeaa.Pb

theorem l1Copy_eq {l : List Int} (hl : l.length ≤ 4000000) : spec_l1Copy.f l = some l := by
  unfold spec_l1Copy.f
  rw [Option.bind_some, if_pos (by simp; omega), List.nil_append]
theorem own_eq {l : List Int} (hl : l.length ≤ 4000000) : impl_own.f l = some l := by
  unfold impl_own.f
  rw [Option.bind_some, if_pos (by simp; omega), List.nil_append]
theorem l1Value_eq (x : Int) : spec_l1Value.f x = some (inB (-1000000000) 1000000000 x) := by
  unfold spec_l1Value.f
  rw [l1In_eq, Option.bind_some]

theorem inB_iff {a b x : Int} : inB a b x = true ↔ a ≤ x ∧ x ≤ b := by simp [inB]

theorem mem_rd {m : List Int} (h : memB m = true) (b : Int) (h0 : 0 ≤ b) (h1 : b < (m.length : Int)) : -1000000000 ≤ rd m b ∧ rd m b ≤ 1000000000 := by
  obtain ⟨n, rfl⟩ := Int.eq_ofNat_of_zero_le h0
  rw [rd_at m n (by omega)]
  simp only [memB, Bool.and_eq_true, List.all_eq_true] at h
  exact inB_iff.1 (h.2 _ (List.getElem_mem _))

/-- Is the op right? -/
def okOp (m : List Int) (a b c d : Int) : Bool := memB m && (inB 1 5 a && (inB 0 ((m.length : Int) - 1) b && ((decide (a = 1) || inB (-1000000000) 1000000000 d) && (!decide (a = 4) || inB (-1000000000) 1000000000 c))))
def wordR (m : List Int) (a b c d : Int) : List Int × Int × Bool :=
  if okOp m a b c d = true then
    if a = 2 then (m.set b.toNat d, d, true)
    else if a = 3 then (m.set b.toNat d, rd m b, true)
    else if a = 4 then (if rd m b = c then (m.set b.toNat d, rd m b, true) else (m, rd m b, true))
    else if a = 5 then (if inB (-1000000000) 1000000000 (rd m b + d) = true then (m.set b.toNat (rd m b + d), rd m b + d, true) else (m, 0, false))
    else (m, rd m b, true)
  else (m, 0, false)

theorem wordR_len (m : List Int) (a b c d : Int) : (wordR m a b c d).1.length = m.length := by
  unfold wordR
  repeat' split
  all_goals simp

theorem specWord_j0 {k : Nat} {m : List Int} {a b c d : Int} (hl : m.length ≤ 4000000) (h : okOp m a b c d = true) : spec_Word.j0 (k + 1) m m false a b c d = some (wordR m a b c d) := by
  have h' := h
  simp only [okOp, Bool.and_eq_true, Bool.or_eq_true, decide_eq_true_eq, Bool.not_eq_true', decide_eq_false_iff_not] at h'
  obtain ⟨h1, h2, h3, h4, h5⟩ := h'
  have hb := inB_iff.1 h3
  have hr := mem_rd h1 b hb.1 (by omega)
  simp only [spec_Word.j0, wordR, h, if_true, Bool.false_eq_true, if_false]
  rw [if_pos hb.1, if_pos (by omega)]
  have hb2 : b < (m.length : Int) := by omega
  simp only [hb2, if_true]
  by_cases e5 : a = 5
  · subst e5
    have hd := inB_iff.1 (h4.resolve_left (by decide))
    rw [w64 (x := rd m b + d) (by omega) (by omega), l1Value_eq, Option.bind_some]
    cases h6 : inB (-1000000000) 1000000000 (rd m b + d) <;> simp
  · simp only [e5, if_false]
    repeat' split
    all_goals rfl

theorem specWord_eq {k : Nat} {m : List Int} {a b c d : Int} (hl : m.length ≤ 4000000) (hk : m.length + 2 < k) : spec_Word.f k m a b c d = some (wordR m a b c d) := by
  obtain ⟨k, rfl⟩ : ∃ q, k = q + 1 := ⟨k - 1, by omega⟩
  have hno : okOp m a b c d = false → wordR m a b c d = (m, 0, false) := fun h => by simp [wordR, h]
  have hj : spec_Word.j0 (k + 1) m m true a b c d = some (m, 0, false) := by simp [spec_Word.j0]
  unfold spec_Word.f
  rw [l1Copy_eq hl, Option.bind_some, specMemoryOk_eq hl (by omega), Option.bind_some]
  simp only [l1In_eq, l1Value_eq, Option.bind_some, hj]
  have ew : wrap64 ((m.length : Int) - 1) = (m.length : Int) - 1 := w64 (by omega) (by omega)
  rw [ew]
  cases ho : okOp m a b c d with
  | true =>
    have h' := ho
    simp only [okOp, Bool.and_eq_true, Bool.or_eq_true, decide_eq_true_eq, Bool.not_eq_true', decide_eq_false_iff_not] at h'
    obtain ⟨h1, h2, h3, h4, h5⟩ := h'
    have hg := specWord_j0 (k := k) hl ho
    simp only [h1, h2, h3, if_true]
    by_cases e1 : a = 1
    · subst e1
      simpa using hg
    · have h4' := h4.resolve_left e1
      simp only [e1, if_false, h4', if_true]
      by_cases e4 : a = 4
      · have h5' := h5.resolve_left (by simpa using e4)
        simp only [e4, if_true, h5', Bool.not_true]
        rw [← e4]
        exact hg
      · simp only [e4, if_false]
        exact hg
  | false =>
    rw [hno ho]
    simp only [okOp] at ho
    cases h1 : memB m with
    | false => simp
    | true =>
      cases h2 : inB 1 5 a with
      | false => simp
      | true =>
        cases h3 : inB 0 ((m.length : Int) - 1) b with
        | false => simp
        | true =>
          simp only [h1, h2, h3, Bool.true_and, Bool.and_eq_false_iff, Bool.or_eq_false_iff] at ho
          simp only [if_true]
          by_cases e1 : a = 1
          · exfalso
            subst e1
            simp at ho
          · simp only [e1, if_false]
            cases h4 : inB (-1000000000) 1000000000 d with
            | false => simp
            | true =>
              rw [h4] at ho
              by_cases e4 : a = 4
              · have h5 : inB (-1000000000) 1000000000 c = false := by simpa [e4] using ho
                simp only [e4, if_true, h5, Bool.not_false]
                rw [← e4]
                exact hj
              · simp [e4] at ho

theorem implWord_j0 {k : Nat} {m : List Int} {a b c d : Int} (hl : m.length ≤ 4000000) (h : okOp m a b c d = true) : impl_Word.j0 (k + 1) m m false a b c d = some (wordR m a b c d) := by
  have h' := h
  simp only [okOp, Bool.and_eq_true, Bool.or_eq_true, decide_eq_true_eq, Bool.not_eq_true', decide_eq_false_iff_not] at h'
  obtain ⟨h1, h2, h3, h4, h5⟩ := h'
  have hb := inB_iff.1 h3
  have hr := mem_rd h1 b hb.1 (by omega)
  simp only [impl_Word.j0, wordR, h, if_true, Bool.false_eq_true, if_false]
  rw [if_pos hb.1, if_pos (by omega)]
  have hb2 : b < (m.length : Int) := by omega
  simp only [hb2, if_true]
  by_cases e5 : a = 5
  · subst e5
    have hd := inB_iff.1 (h4.resolve_left (by decide))
    rw [w64 (x := rd m b + d) (by omega) (by omega), isValue_eq, Option.bind_some]
    cases h6 : inB (-1000000000) 1000000000 (rd m b + d) <;> simp
  · simp only [e5, if_false]
    repeat' split
    all_goals rfl

theorem implWord_eq {k : Nat} {m : List Int} {a b c d : Int} (hl : m.length ≤ 4000000) (hk : m.length + 2 < k) : impl_Word.f k m a b c d = some (wordR m a b c d) := by
  obtain ⟨k, rfl⟩ : ∃ q, k = q + 1 := ⟨k - 1, by omega⟩
  have hno : okOp m a b c d = false → wordR m a b c d = (m, 0, false) := fun h => by simp [wordR, h]
  have hj : impl_Word.j0 (k + 1) m m true a b c d = some (m, 0, false) := by simp [impl_Word.j0]
  unfold impl_Word.f
  rw [own_eq hl, Option.bind_some, implMemoryOk_eq hl (by omega), Option.bind_some]
  simp only [in_eq, isValue_eq, Option.bind_some, hj]
  have ew : wrap64 ((m.length : Int) - 1) = (m.length : Int) - 1 := w64 (by omega) (by omega)
  rw [ew]
  cases ho : okOp m a b c d with
  | true =>
    have h' := ho
    simp only [okOp, Bool.and_eq_true, Bool.or_eq_true, decide_eq_true_eq, Bool.not_eq_true', decide_eq_false_iff_not] at h'
    obtain ⟨h1, h2, h3, h4, h5⟩ := h'
    have hg := implWord_j0 (k := k) hl ho
    simp only [h1, h2, h3, if_true]
    by_cases e4 : a = 4
    · have h5' := h5.resolve_left (by simpa using e4)
      have e1 : ¬ a = 1 := by omega
      have h4' := h4.resolve_left e1
      simp only [e4, if_true, h5', h4', Bool.not_true]
      rw [← e4]
      simpa [e1] using hg
    · simp only [e4, if_false]
      by_cases e1 : a = 1
      · subst e1
        simpa using hg
      · have h4' := h4.resolve_left e1
        simp only [e1, if_false, h4', Bool.not_true]
        exact hg
  | false =>
    rw [hno ho]
    simp only [okOp] at ho
    cases h1 : memB m with
    | false => simp
    | true =>
      cases h2 : inB 1 5 a with
      | false => simp
      | true =>
        cases h3 : inB 0 ((m.length : Int) - 1) b with
        | false => simp
        | true =>
          simp only [h1, h2, h3, Bool.true_and, Bool.and_eq_false_iff, Bool.or_eq_false_iff] at ho
          simp only [if_true]
          by_cases e1 : a = 1
          · exfalso
            subst e1
            simp at ho
          · simp only [e1, if_false]
            cases h4 : inB (-1000000000) 1000000000 d with
            | false =>
              simp only [Bool.not_false]
              rw [hj]
              repeat' split
              all_goals rfl
            | true =>
              rw [h4] at ho
              by_cases e4 : a = 4
              · have h5 : inB (-1000000000) 1000000000 c = false := by simpa [e4] using ho
                simp [e4, h5]
              · simp [e4] at ho


end Go.Proofs.Ytbhlmgljflggeaa.M
namespace Go.Proofs.Ytbhlmgljflggeaa.M
set_option linter.unusedVariables false
set_option linter.unusedSimpArgs false
open Go.RowKit Go.Proofs.YtbhlmgljflggeaaW.PrintWords Go.Proofs.Ytbhlmgljflggeaa.Pb

theorem and255 (n : Int) : bits .and .i64 n 255 = n % 256 := by
  have h255 : (BitVec.ofInt 64 255).toNat = 2 ^ 8 - 1 := by decide
  have key : (BitVec.ofInt 64 n &&& BitVec.ofInt 64 255).toNat = (n % ((2 ^ 64 : Nat) : Int)).toNat % 2 ^ 8 := by
    rw [BitVec.toNat_and, BitVec.toNat_ofInt, h255, Nat.and_two_pow_sub_one_eq_mod]
  show IntKind.i64.wrap ((BitVec.ofInt 64 n &&& BitVec.ofInt 64 255).toNat : Nat) = n % 256
  rw [key, IntKind.wrap_i64]
  omega

theorem l1New_l0 (s : List Int) (hs : s.length ≤ 1048576) (d : Nat) : ∀ (k i : Nat) (x : Int), i + d = s.length → d < k → ∃ x', spec_l1New.l0 k s x (i : Int) = some (s, 0, x') := by
  induction d with
  | zero =>
    intro k i x hi hk
    obtain ⟨k, rfl⟩ : ∃ q, k = q + 1 := ⟨k - 1, by omega⟩
    rw [spec_l1New.l0, if_neg (by omega)]
    exact ⟨_, rfl⟩
  | succ d ih =>
    intro k i x hi hk
    obtain ⟨k, rfl⟩ : ∃ q, k = q + 1 := ⟨k - 1, by omega⟩
    rw [spec_l1New.l0, if_pos (by omega)]
    split
    · rw [if_pos (by omega), w64 (x := (i : Int) + 1) (by omega) (by omega), show ((i : Int) + 1) = ((i + 1 : Nat) : Int) from by omega]
      exact ih k (i + 1) _ (by omega) (by omega)
    · exact ⟨_, rfl⟩
theorem l1New_ok {k : Nat} {s : List Int} (hs : s.length ≤ 1048576) (hk : s.length < k) : ∃ x', spec_l1New.f k s = some (s, 0, x') := by
  unfold spec_l1New.f
  exact l1New_l0 s hs s.length k 0 _ (by omega) hk

/-- A place within the bytes. -/
def Pl (s : List Int) (p : Int) : Prop := 0 ≤ p ∧ p ≤ (s.length : Int)
theorem byte_ok {s : List Int} {p x : Int} (hs : s.length ≤ 1048576) (hp : Pl s p) : ∃ b p' x', spec_l1Byte.f s p x = some (b, p', x') ∧ 0 ≤ b ∧ b ≤ 255 ∧ Pl s p' := by
  obtain ⟨h0, h1⟩ := hp
  unfold spec_l1Byte.f
  by_cases h : p < (s.length : Int)
  · rw [if_pos h, if_pos h0]
    refine ⟨_, _, _, rfl, ?_, ?_, ?_, ?_⟩
    · rw [and255 (wrap64 _)]; omega
    · rw [and255 (wrap64 _)]; omega
    · rw [w64 (by omega) (by omega)]; omega
    · rw [w64 (by omega) (by omega)]; omega
  · rw [if_neg h]
    refine ⟨_, _, _, rfl, ?_, ?_, h0, h1⟩
    · rw [and255]; omega
    · rw [and255]; omega
theorem below_ok {s : List Int} {p x n : Int} (hs : s.length ≤ 1048576) (hp : Pl s p) (h0 : 0 < n) (h1 : n ≤ 256) : ∃ r p' x', spec_l1Below.f s p x n = some (r, p', x') ∧ 0 ≤ r ∧ r < n ∧ Pl s p' := by
  obtain ⟨b, p', x', e, hb0, hb1, hp'⟩ := byte_ok (x := x) hs hp
  unfold spec_l1Below.f
  rw [if_neg (by omega), if_pos h1, e, Option.bind_some, if_neg (by omega)]
  refine ⟨_, _, _, rfl, ?_, ?_, hp'⟩
  · exact Int.tmod_nonneg _ hb0
  · exact Int.tmod_lt_of_pos _ h0
theorem pick_ok {s : List Int} {p x : Int} {l : List Int} (hs : s.length ≤ 1048576) (hp : Pl s p) (h0 : 0 < l.length) (h1 : l.length ≤ 256) : ∃ v p' x', spec_l1PickInt.f s p x l = some (v, p', x') ∧ Pl s p' := by
  obtain ⟨r, p', x', e, hr0, hr1, hp'⟩ := below_ok (x := x) hs hp (n := (l.length : Int)) (by omega) (by omega)
  unfold spec_l1PickInt.f
  rw [e, Option.bind_some, if_pos hr0, if_pos hr1]
  exact ⟨_, _, _, rfl, hp'⟩
theorem once_ok {s : List Int} {p x n : Int} (hs : s.length ≤ 1048576) (hp : Pl s p) (h0 : 0 < n) (h1 : n ≤ 256) : ∃ r p' x', spec_l1Once.f s p x n = some (r, p', x') ∧ Pl s p' := by
  obtain ⟨r, p', x', e, hr0, hr1, hp'⟩ := below_ok (x := x) hs hp h0 h1
  unfold spec_l1Once.f
  rw [e, Option.bind_some]
  exact ⟨_, _, _, rfl, hp'⟩

theorem drawMemory_l0 (s : List Int) (hs : s.length ≤ 1048576) (d : Nat) : ∀ (k : Nat) (m : List Int) (p x : Int), d < k → Pl s p → 0 < m.length + d → m.length + d ≤ 20 →
    ∃ m' p' x', spec_l1DrawMemory.l0 k m (d : Int) s p x = some (m', p', x') ∧ m'.length ≤ 41 ∧ Pl s p' := by
  induction d with
  | zero =>
    intro k m p x hk hp h0 h1
    obtain ⟨k, rfl⟩ : ∃ q, k = q + 1 := ⟨k - 1, by omega⟩
    obtain ⟨r, p2, x2, e2, hr0, hr1, hp2⟩ := below_ok (x := x) hs hp (n := 40) (by omega) (by omega)
    rw [spec_l1DrawMemory.l0, if_neg (by omega), e2, Option.bind_some]
    simp only
    split
    · obtain ⟨v, p3, x3, e3, hp3⟩ := pick_ok (x := x2) (l := [(-1000000001), (-1000000000), 1000000000, 1000000001]) hs hp2 (by simp) (by simp)
      rw [e3, Option.bind_some, if_pos (by omega)]
      exact ⟨_, _, _, rfl, by simp; omega, hp3⟩
    · split
      · obtain ⟨q, p3, x3, e3, hq0, hq1, hp3⟩ := below_ok (x := x2) hs hp2 (n := 2) (by omega) (by omega)
        rw [e3, Option.bind_some]
        simp only
        rw [w64 (x := 40 + q) (by omega) (by omega), if_pos (by omega), if_pos (by omega)]
        exact ⟨_, _, _, rfl, by simp; omega, hp3⟩
      · split
        · exact ⟨_, _, _, rfl, by simp, hp2⟩
        · exact ⟨_, _, _, rfl, by omega, hp2⟩
  | succ d ih =>
    intro k m p x hk hp h0 h1
    obtain ⟨k, rfl⟩ : ∃ q, k = q + 1 := ⟨k - 1, by omega⟩
    obtain ⟨r, p2, x2, e2, hr0, hr1, hp2⟩ := below_ok (x := x) hs hp (n := 7) (by omega) (by omega)
    rw [spec_l1DrawMemory.l0, if_pos (by omega), e2, Option.bind_some, if_pos (by omega), w64 (x := ((d + 1 : Nat) : Int) - 1) (by omega) (by omega), show (((d + 1 : Nat) : Int) - 1) = ((d : Nat) : Int) from by omega]
    exact ih k _ _ _ (by omega) hp2 (by simp; omega) (by simp; omega)
theorem drawMemory_ok {k : Nat} {s : List Int} {p x : Int} (hs : s.length ≤ 1048576) (hp : Pl s p) (hk : 6 < k) : ∃ m' p' x', spec_l1DrawMemory.f k s p x = some (m', p', x') ∧ m'.length ≤ 41 ∧ Pl s p' := by
  obtain ⟨r, p2, x2, e2, hr0, hr1, hp2⟩ := below_ok (x := x) hs hp (n := 5) (by omega) (by omega)
  unfold spec_l1DrawMemory.f
  rw [e2, Option.bind_some, w64 (x := 1 + r) (by omega) (by omega)]
  obtain ⟨n, rfl⟩ := Int.eq_ofNat_of_zero_le hr0
  rw [show (1 + (n : Int)) = ((n + 1 : Nat) : Int) from by omega]
  exact drawMemory_l0 s hs (n + 1) k [] _ _ (by omega) hp2 (by simp) (by simp; omega)


end Go.Proofs.Ytbhlmgljflggeaa.M
namespace Go.Proofs.Ytbhlmgljflggeaa.M
set_option linter.unusedSimpArgs false
open Go.RowKit Go.Proofs.YtbhlmgljflggeaaW.PrintWords Go.Proofs.Ytbhlmgljflggeaa.Pb

theorem rdT34_at (l : List S34) (i : Nat) (h : i < l.length) : rd_T34 l (i : Int) = l[i] := by
  simp [rd_T34, List.getD_eq_getElem?_getD, List.getElem?_eq_getElem h]

end Go.Proofs.Ytbhlmgljflggeaa.M
namespace Go.Proofs.Ytbhlmgljflggeaa.M
set_option linter.unusedVariables false
set_option linter.unusedSimpArgs false
open Go.RowKit Go.Proofs.YtbhlmgljflggeaaW.PrintWords Go.Proofs.Ytbhlmgljflggeaa.Pb

/-- The merge of two sequences by turns. -/
def mergeR : List S34 → List S34 → List Bool → List S34
  | xs, ys, [] => xs ++ ys
  | [], [], _ :: _ => []
  | x :: xs, [], _ :: t => x :: mergeR xs [] t
  | [], y :: ys, _ :: t => y :: mergeR [] ys t
  | x :: xs, y :: ys, b :: t => if b = true then y :: mergeR (x :: xs) ys t else x :: mergeR xs (y :: ys) t
theorem mergeR_nil (t : List Bool) : mergeR [] [] t = [] := by
  cases t <;> simp [mergeR]
theorem mergeR_len : ∀ (t : List Bool) (xs ys : List S34), (mergeR xs ys t).length = xs.length + ys.length
  | [], xs, ys => by cases xs <;> cases ys <;> simp [mergeR] <;> omega
  | b :: t, [], [] => by simp [mergeR]
  | b :: t, x :: xs, [] => by simp [mergeR, mergeR_len t]
  | b :: t, [], y :: ys => by simp [mergeR, mergeR_len t]
  | b :: t, x :: xs, y :: ys => by
    simp only [mergeR]
    split <;> simp [mergeR_len t] <;> omega

theorem implMerged_l0 (t : List Bool) (ht : t.length ≤ 4000000) (d : Nat) : ∀ (k n : Nat) (xs ys acc : List S34), n + d = t.length → 2 * d < k → xs.length ≤ 4000000 → ys.length ≤ 4000000 → acc.length ≤ n →
    impl_Merged.l0 k xs ys acc t (t.length : Int) (n : Int) = some (acc ++ mergeR xs ys (t.drop n)) := by
  induction d with
  | zero =>
    intro k n xs ys acc hn hk hx hy ha
    obtain ⟨k, rfl⟩ : ∃ m, k = m + 1 := ⟨k - 1, by omega⟩
    simp only [impl_Merged.l0]
    rw [if_neg (by omega), if_pos (by omega), Option.bind_some, if_pos (by simp; omega), List.drop_of_length_le (by omega)]
    simp [mergeR]
  | succ d ih =>
    intro k n xs ys acc hn hk hx hy ha
    obtain ⟨k, rfl⟩ : ∃ m, k = m + 2 := ⟨k - 2, by omega⟩
    simp only [impl_Merged.l0]
    rw [if_pos (by omega), if_pos (by omega), if_pos (by omega), rdOf_at false t n (by omega), drop_cons t n (by omega)]
    have hw : wrap64 ((n : Int) + 1) = ((n + 1 : Nat) : Int) := w64 (by omega) (by omega)
    cases xs with
    | nil =>
      cases ys with
      | nil =>
        simp only [List.length_nil, Int.natCast_zero, gt_iff_lt, Int.lt_irrefl, if_false, impl_Merged.j1, Bool.false_eq_true]
        rw [hw, ih k (n + 1) [] [] acc (by omega) (by omega) (by simp) (by simp) (by omega), mergeR_nil, mergeR_nil]
      | cons y ys =>
        simp only [List.length_cons] at hy
        rw [if_pos (by simp only [List.length_cons]; omega)]
        have e : impl_Merged.j1 (k + 1) [] (y :: ys) acc t (t.length : Int) (n : Int) true = some (acc ++ mergeR [] (y :: ys) (t[n] :: t.drop (n + 1))) := by
          simp only [impl_Merged.j1]
          rw [if_pos (by trivial), if_pos (by simp only [List.length_cons]; omega), if_pos (by omega), if_pos (by simp only [List.length_cons]; omega), hw]
          rw [show (y :: ys).drop 1 = ys from rfl, show (⟨(rd_T34 (y :: ys) 0).f0, (rd_T34 (y :: ys) 0).f1, (rd_T34 (y :: ys) 0).f2, (rd_T34 (y :: ys) 0).f3⟩ : S34) = y from rfl]
          rw [ih k (n + 1) [] ys (acc ++ [y]) (by omega) (by omega) (by simp) (by omega) (by simp; omega)]
          simp [mergeR]
        split
        · exact e
        · exact e
    | cons x xs =>
      simp only [List.length_cons] at hx
      have ef : ∀ ys : List S34, ys.length ≤ 4000000 → impl_Merged.j1 (k + 1) (x :: xs) ys acc t (t.length : Int) (n : Int) false = some (acc ++ x :: mergeR xs ys (t.drop (n + 1))) := by
        intro ys hy
        simp only [impl_Merged.j1]
        rw [if_neg (by simp), if_pos (by simp only [List.length_cons]; omega), if_pos (by simp only [List.length_cons]; omega), if_pos (by omega), if_pos (by simp only [List.length_cons]; omega), hw]
        rw [show (x :: xs).drop 1 = xs from rfl, show (⟨(rd_T34 (x :: xs) 0).f0, (rd_T34 (x :: xs) 0).f1, (rd_T34 (x :: xs) 0).f2, (rd_T34 (x :: xs) 0).f3⟩ : S34) = x from rfl]
        rw [ih k (n + 1) xs ys (acc ++ [x]) (by omega) (by omega) (by omega) hy (by simp; omega)]
        simp
      cases ys with
      | nil =>
        rw [if_neg (by simp), ef [] (by simp)]
        simp [mergeR]
      | cons y ys =>
        have hy2 := hy
        simp only [List.length_cons] at hy2
        rw [if_pos (by simp only [List.length_cons]; omega)]
        cases hb : t[n] with
        | false =>
          rw [if_neg (by simp), show (((x :: xs).length : Int) == 0) = false from by simp; omega, ef (y :: ys) hy]
          simp [mergeR]
        | true =>
          rw [if_pos (by trivial)]
          simp only [impl_Merged.j1]
          rw [if_pos (by trivial), if_pos (by simp only [List.length_cons]; omega), if_pos (by omega), if_pos (by simp only [List.length_cons]; omega), hw]
          rw [show (y :: ys).drop 1 = ys from rfl, show (⟨(rd_T34 (y :: ys) 0).f0, (rd_T34 (y :: ys) 0).f1, (rd_T34 (y :: ys) 0).f2, (rd_T34 (y :: ys) 0).f3⟩ : S34) = y from rfl]
          rw [ih k (n + 1) (x :: xs) ys (acc ++ [y]) (by omega) (by omega) (by simp only [List.length_cons]; omega) (by omega) (by simp; omega)]
          simp [mergeR]

theorem implMerged_eq {k : Nat} {xs ys : List S34} {t : List Bool} (hx : xs.length ≤ 4000000) (hy : ys.length ≤ 4000000) (ht : t.length ≤ 4000000) (hk : 2 * t.length < k) : impl_Merged.f k xs ys t = some (mergeR xs ys t) := by
  unfold impl_Merged.f
  have h := implMerged_l0 t ht t.length k 0 xs ys [] (by omega) hk hx hy (by simp)
  rw [List.drop_zero, List.nil_append] at h
  exact h


end Go.Proofs.Ytbhlmgljflggeaa.M
namespace Go.Proofs.Ytbhlmgljflggeaa.M
set_option linter.unusedVariables false
set_option linter.unusedSimpArgs false
open Go.RowKit Go.Proofs.YtbhlmgljflggeaaW.PrintWords Go.Proofs.Ytbhlmgljflggeaa.Pb

theorem rd_set (l : List Int) (n q v : Int) (h0 : 0 ≤ q) (h1 : q < (l.length : Int)) (h2 : 0 ≤ n) : rd (l.set n.toNat v) q = if q = n then v else rd l q := by
  obtain ⟨a, rfl⟩ := Int.eq_ofNat_of_zero_le h0
  obtain ⟨b, rfl⟩ := Int.eq_ofNat_of_zero_le h2
  rw [rd_at _ a (by simp; omega), rd_at l a (by omega)]
  simp only [Int.toNat_natCast, List.getElem_set, Int.natCast_inj]
  by_cases e : a = b
  · subst e; simp
  · rw [if_neg e, if_neg (fun h => e h.symm)]
theorem drawOp_ok {s : List Int} {p x : Int} (hs : s.length ≤ 1048576) (hp : Pl s p) : ∃ a b c d p' x', spec_l1DrawOp.f s p x = some (a, b, c, d, p', x') ∧ Pl s p' := by
  obtain ⟨r1, p1, x1, e1, _, _, hp1⟩ := below_ok (x := x) hs hp (n := 5) (by omega) (by omega)
  obtain ⟨r2, p2, x2, e2, _, _, hp2⟩ := below_ok (x := x1) hs hp1 (n := 4) (by omega) (by omega)
  obtain ⟨r3, p3, x3, e3, _, _, hp3⟩ := below_ok (x := x2) hs hp2 (n := 7) (by omega) (by omega)
  obtain ⟨r4, p4, x4, e4, _, _, hp4⟩ := below_ok (x := x3) hs hp3 (n := 7) (by omega) (by omega)
  obtain ⟨r5, p5, x5, e5, _, _, hp5⟩ := below_ok (x := x4) hs hp4 (n := 40) (by omega) (by omega)
  unfold spec_l1DrawOp.f
  simp only [e1, e2, e3, e4, e5, Option.bind_some]
  by_cases h0 : r5 = 0
  · obtain ⟨v, p6, x6, e6, hp6⟩ := pick_ok (x := x5) (l := [0, 6]) hs hp5 (by simp) (by simp)
    rw [if_pos h0, e6, Option.bind_some]
    exact ⟨_, _, _, _, _, _, rfl, hp6⟩
  · rw [if_neg h0]
    by_cases h1 : r5 = 1
    · obtain ⟨v, p6, x6, e6, hp6⟩ := pick_ok (x := x5) (l := [(-1), 9, 40]) hs hp5 (by simp) (by simp)
      rw [if_pos h1, e6, Option.bind_some]
      exact ⟨_, _, _, _, _, _, rfl, hp6⟩
    · rw [if_neg h1]
      by_cases h2 : r5 = 2
      · obtain ⟨v, p6, x6, e6, hp6⟩ := pick_ok (x := x5) (l := [(-1000000001), (-1000000000), 1000000000, 9223372036854775807]) hs hp5 (by simp) (by simp)
        rw [if_pos h2, e6, Option.bind_some]
        exact ⟨_, _, _, _, _, _, rfl, hp6⟩
      · rw [if_neg h2]
        by_cases h3 : r5 = 3
        · obtain ⟨r6, p6, x6, e6, _, _, hp6⟩ := below_ok (x := x5) hs hp5 (n := 2) (by omega) (by omega)
          rw [if_pos h3, e6, Option.bind_some]
          exact ⟨_, _, _, _, _, _, rfl, hp6⟩
        · rw [if_neg h3]
          exact ⟨_, _, _, _, _, _, rfl, hp5⟩

theorem drawWord_ok {k : Nat} {s : List Int} (hs : s.length ≤ 1048576) (hk : s.length + 100 < k) : ∃ m a b c d, spec_DrawWord.f k s = some (m, a, b, c, d) ∧ m.length ≤ 41 := by
  obtain ⟨x, e1⟩ := l1New_ok (k := k) hs (by omega)
  obtain ⟨m, p2, x2, e2, hm, hp2⟩ := drawMemory_ok (k := k) (x := x) hs (⟨by omega, by omega⟩ : Pl s 0) (by omega)
  obtain ⟨a, b, c, d, p3, x3, e3, hp3⟩ := drawOp_ok (x := x2) hs hp2
  unfold spec_DrawWord.f
  simp only [e1, e2, e3, Option.bind_some]
  exact ⟨_, _, _, _, _, rfl, hm⟩

theorem drawOps_l0 (s : List Int) (hs : s.length ≤ 1048576) (d : Nat) : ∀ (k : Nat) (l : List S34) (p x : Int), d < k → Pl s p → l.length + d ≤ 100 →
    ∃ r p' x', spec_l1DrawOps.l0 k l (d : Int) s p x = some (r, p', x') ∧ r.length ≤ 100 ∧ Pl s p' := by
  induction d with
  | zero =>
    intro k l p x hk hp hl
    obtain ⟨k, rfl⟩ : ∃ q, k = q + 1 := ⟨k - 1, by omega⟩
    rw [spec_l1DrawOps.l0, if_neg (by omega)]
    exact ⟨_, _, _, rfl, by omega, hp⟩
  | succ d ih =>
    intro k l p x hk hp hl
    obtain ⟨k, rfl⟩ : ∃ q, k = q + 1 := ⟨k - 1, by omega⟩
    obtain ⟨a, b, c, e, p3, x3, e3, hp3⟩ := drawOp_ok (x := x) hs hp
    rw [spec_l1DrawOps.l0, if_pos (by omega), e3, Option.bind_some, if_pos (by omega), w64 (x := ((d + 1 : Nat) : Int) - 1) (by omega) (by omega), show (((d + 1 : Nat) : Int) - 1) = ((d : Nat) : Int) from by omega]
    exact ih k _ _ _ (by omega) hp3 (by simp; omega)
theorem drawOps_ok {k : Nat} {s l : List Int} {p x : Int} (hs : s.length ≤ 1048576) (hl : l.length ≤ 1048576) (hp : Pl s p) (hk : 100 < k) : ∃ r p' x', spec_l1DrawOps.f k s p x l = some (r, p', x') ∧ r.length ≤ 100 ∧ Pl s p' := by
  have hz : ∃ t, spec_l1Size.f l 20 = some t ∧ 0 ≤ t ∧ t ≤ 20 := by
    unfold spec_l1Size.f
    rw [w64 (x := (l.length : Int) / 20) (by omega) (by omega), w64 (x := 2 + (l.length : Int) / 20) (by omega) (by omega)]
    split
    · exact ⟨_, rfl, by omega, by omega⟩
    · exact ⟨_, rfl, by omega, by omega⟩
  obtain ⟨t, et, h0, h1⟩ := hz
  unfold spec_l1DrawOps.f
  rw [et, Option.bind_some, w64 (x := t + 3) (by omega) (by omega)]
  obtain ⟨r, p2, x2, e2, hr0, hr1, hp2⟩ := below_ok (x := x) hs hp (n := t + 3) (by omega) (by omega)
  rw [e2, Option.bind_some]
  obtain ⟨n, rfl⟩ := Int.eq_ofNat_of_zero_le hr0
  exact drawOps_l0 s hs n k [] _ _ (by omega) hp2 (by simp; omega)
theorem drawTurns_l0 (s : List Int) (hs : s.length ≤ 1048576) (d : Nat) : ∀ (k : Nat) (l : List Bool) (p x : Int), d < k → Pl s p → l.length + d ≤ 100 →
    ∃ r p' x', spec_l1DrawTurns.l0 k l (d : Int) s p x = some (r, p', x') ∧ r.length ≤ 100 := by
  induction d with
  | zero =>
    intro k l p x hk hp hl
    obtain ⟨k, rfl⟩ : ∃ q, k = q + 1 := ⟨k - 1, by omega⟩
    rw [spec_l1DrawTurns.l0, if_neg (by omega)]
    exact ⟨_, _, _, rfl, by omega⟩
  | succ d ih =>
    intro k l p x hk hp hl
    obtain ⟨k, rfl⟩ : ∃ q, k = q + 1 := ⟨k - 1, by omega⟩
    obtain ⟨b, p2, x2, e2, hp2⟩ := once_ok (x := x) hs hp (n := 2) (by omega) (by omega)
    rw [spec_l1DrawTurns.l0, if_pos (by omega), e2, Option.bind_some, if_pos (by omega), w64 (x := ((d + 1 : Nat) : Int) - 1) (by omega) (by omega), show (((d + 1 : Nat) : Int) - 1) = ((d : Nat) : Int) from by omega]
    exact ih k _ _ _ (by omega) hp2 (by simp; omega)
theorem drawTurns_ok {k : Nat} {s : List Int} {p x : Int} (hs : s.length ≤ 1048576) (hp : Pl s p) (hk : 100 < k) : ∃ r p' x', spec_l1DrawTurns.f k s p x 12 = some (r, p', x') ∧ r.length ≤ 100 := by
  obtain ⟨r, p2, x2, e2, hr0, hr1, hp2⟩ := below_ok (x := x) hs hp (n := 12) (by omega) (by omega)
  unfold spec_l1DrawTurns.f
  rw [e2, Option.bind_some]
  obtain ⟨n, rfl⟩ := Int.eq_ofNat_of_zero_le hr0
  exact drawTurns_l0 s hs n k [] _ _ (by omega) hp2 (by simp; omega)
theorem drawMerged_ok {k : Nat} {s : List Int} (hs : s.length ≤ 1048576) (hk : s.length + 100 < k) : ∃ a b t, spec_DrawMerged.f k s = some (a, b, t) ∧ a.length ≤ 100 ∧ b.length ≤ 100 ∧ t.length ≤ 100 := by
  obtain ⟨x, e1⟩ := l1New_ok (k := k) hs (by omega)
  obtain ⟨a, p2, x2, e2, ha, hp2⟩ := drawOps_ok (k := k) (l := s) (x := x) hs hs (⟨by omega, by omega⟩ : Pl s 0) (by omega)
  obtain ⟨b, p3, x3, e3, hb, hp3⟩ := drawOps_ok (k := k) (l := s) (x := x2) hs hs hp2 (by omega)
  obtain ⟨t, p4, x4, e4, ht⟩ := drawTurns_ok (k := k) (x := x3) hs hp3 (by omega)
  refine ⟨a, b, t, ?_, ha, hb, ht⟩
  unfold spec_DrawMerged.f
  rw [e1, Option.bind_some]
  simp only
  rw [e2, Option.bind_some]
  simp only
  rw [e3, Option.bind_some]
  simp only
  rw [e4, Option.bind_some]

/-- What a word's answer says. -/
theorem word_no {m out : List Int} {a b c d v : Int} (h : wordR m a b c d = (out, v, false)) : out = m ∧ v = 0 := by
  unfold wordR at h
  repeat' split at h
  all_goals simp_all
theorem word_yes {m out : List Int} {a b c d v : Int} (h : wordR m a b c d = (out, v, true)) :
    (0 ≤ b ∧ b < (m.length : Int)) ∧ (a = 1 → v = rd m b) ∧ (a = 4 → rd out b ≠ d → v ≠ c) ∧ ∀ q : Int, 0 ≤ q → q < (m.length : Int) → q ≠ b → rd out q = rd m q := by
  unfold wordR at h
  by_cases ho : okOp m a b c d = true
  · rw [if_pos ho] at h
    have hb : 0 ≤ b ∧ b < (m.length : Int) := by
      simp only [okOp, Bool.and_eq_true, inB, decide_eq_true_eq] at ho
      exact ⟨ho.2.2.1.1, by omega⟩
    have hset : ∀ w q : Int, 0 ≤ q → q < (m.length : Int) → q ≠ b → rd (m.set b.toNat w) q = rd m q := fun w q h0 h1 h2 => by rw [rd_set m b q w h0 h1 hb.1, if_neg h2]
    have hat : ∀ w : Int, rd (m.set b.toNat w) b = w := fun w => by rw [rd_set m b b w hb.1 hb.2 hb.1, if_pos rfl]
    refine ⟨hb, ?_⟩
    by_cases h2 : a = 2
    · rw [if_pos h2] at h
      simp only [Prod.mk.injEq, and_true] at h
      obtain ⟨rfl, rfl⟩ := h
      exact ⟨by omega, by omega, hset _⟩
    · rw [if_neg h2] at h
      by_cases h3 : a = 3
      · rw [if_pos h3] at h
        simp only [Prod.mk.injEq, and_true] at h
        obtain ⟨rfl, rfl⟩ := h
        exact ⟨by omega, by omega, hset _⟩
      · rw [if_neg h3] at h
        by_cases h4 : a = 4
        · rw [if_pos h4] at h
          by_cases h5 : rd m b = c
          · rw [if_pos h5] at h
            simp only [Prod.mk.injEq, and_true] at h
            obtain ⟨rfl, rfl⟩ := h
            exact ⟨by omega, fun _ hn => absurd (hat d) hn, hset _⟩
          · rw [if_neg h5] at h
            simp only [Prod.mk.injEq, and_true] at h
            obtain ⟨rfl, rfl⟩ := h
            exact ⟨by omega, fun _ _ => h5, fun q _ _ _ => rfl⟩
        · rw [if_neg h4] at h
          by_cases h5 : a = 5
          · rw [if_pos h5] at h
            split at h
            · simp only [Prod.mk.injEq, and_true] at h
              obtain ⟨rfl, rfl⟩ := h
              exact ⟨by omega, by omega, hset _⟩
            · simp at h
          · rw [if_neg h5] at h
            simp only [Prod.mk.injEq, and_true] at h
            obtain ⟨rfl, rfl⟩ := h
            exact ⟨fun _ => rfl, by omega, fun q _ _ _ => rfl⟩
  · rw [if_neg ho] at h
    simp at h

/-- One step along a merge. -/
theorem merge_next {xs ys out : List S34} {t : List Bool} {i j n : Nat} (hn : n = i + j) (hi : i ≤ xs.length) (hj : j ≤ ys.length) (ho : out.length = xs.length + ys.length)
    (hd : out.drop n = mergeR (xs.drop i) (ys.drop j) (t.drop n)) (hlt : n < out.length) :
    (((∃ h : n < t.length, t[n] = true ∧ j < ys.length) ∨ i = xs.length) → ∃ h : j < ys.length, out[n] = ys[j] ∧ out.drop (n + 1) = mergeR (xs.drop i) (ys.drop (j + 1)) (t.drop (n + 1))) ∧
    (¬ ((∃ h : n < t.length, t[n] = true ∧ j < ys.length) ∨ i = xs.length) → ∃ h : i < xs.length, out[n] = xs[i] ∧ out.drop (n + 1) = mergeR (xs.drop (i + 1)) (ys.drop j) (t.drop (n + 1))) := by
  rw [drop_cons out n hlt] at hd
  constructor
  · intro h
    have hj2 : j < ys.length := by
      rcases h with ⟨_, _, h⟩ | h
      · exact h
      · omega
    refine ⟨hj2, ?_⟩
    rw [drop_cons ys j hj2] at hd
    by_cases hi2 : i < xs.length
    · rcases h with ⟨h1, h2, _⟩ | h
      · rw [drop_cons xs i hi2, drop_cons t n h1, h2] at hd
        simp only [mergeR, if_true, List.cons.injEq] at hd
        rw [drop_cons xs i hi2]
        exact hd
      · omega
    · rw [List.drop_of_length_le (l := xs) (by omega)] at hd ⊢
      by_cases hnt : n < t.length
      · rw [drop_cons t n hnt] at hd
        simp only [mergeR, List.cons.injEq] at hd
        exact hd
      · rw [List.drop_of_length_le (l := t) (by omega)] at hd ⊢
        simp only [mergeR, List.nil_append, List.cons.injEq] at hd
        refine ⟨hd.1, ?_⟩
        rw [hd.2]
        cases ys.drop (j + 1) <;> simp [mergeR]
  · intro h
    have hi2 : i < xs.length := by omega
    refine ⟨hi2, ?_⟩
    rw [drop_cons xs i hi2] at hd
    by_cases hnt : n < t.length
    · rw [drop_cons t n hnt] at hd
      by_cases hj2 : j < ys.length
      · have h2 : t[n] = false := by
          cases e : t[n] with
          | false => rfl
          | true => exact absurd (Or.inl ⟨hnt, e, hj2⟩) h
        rw [drop_cons ys j hj2, h2] at hd
        simp only [mergeR, Bool.false_eq_true, if_false, List.cons.injEq] at hd
        rw [drop_cons ys j hj2]
        exact hd
      · rw [List.drop_of_length_le (l := ys) (by omega)] at hd ⊢
        simp only [mergeR, List.cons.injEq] at hd
        exact hd
    · rw [List.drop_of_length_le (l := t) (by omega)] at hd
      rw [List.drop_of_length_le (l := t) (by omega)]
      have e : ∀ a b : List S34, mergeR a b [] = a ++ b := fun a b => by cases a <;> cases b <;> simp [mergeR]
      rw [e, List.cons_append, List.cons.injEq] at hd
      rw [e]
      exact hd

theorem fnW_y {k i j n : Nat} {xs ys out : List S34} {t : List Bool} (hj : j < ys.length) (hn : n < out.length) (hy : ys.length ≤ 100) (ho : out.length ≤ 1000) (e : out[n] = ys[j]) :
    laws_FnWords.j4 (k + 2) xs ys t out (i : Int) (j : Int) (n : Int) true = laws_FnWords.l1 k xs ys t out (i : Int) ((j + 1 : Nat) : Int) ((n + 1 : Nat) : Int) := by
  have hwn : wrap64 ((n : Int) + 1) = ((n + 1 : Nat) : Int) := w64 (by omega) (by omega)
  have hwj : wrap64 ((j : Int) + 1) = ((j + 1 : Nat) : Int) := w64 (by omega) (by omega)
  have h5 : laws_FnWords.j5 (k + 1) xs ys t out (i : Int) (j : Int) (n : Int) true false = laws_FnWords.l1 k xs ys t out (i : Int) ((j + 1 : Nat) : Int) ((n + 1 : Nat) : Int) := by
    rw [laws_FnWords.j5, if_neg Bool.false_ne_true, if_pos rfl, hwj, hwn]
  rw [laws_FnWords.j4, if_pos rfl, if_pos (by omega), if_pos (by omega), if_pos (by omega), if_pos (by omega), rdT34_at out n hn, rdT34_at ys j hj, e]
  simp only [beq_self_eq_true, Bool.not_true, Bool.or_self, Bool.false_eq_true, if_false]
  exact h5
theorem fnW_x {k i j n : Nat} {xs ys out : List S34} {t : List Bool} (hi : i < xs.length) (hn : n < out.length) (hx : xs.length ≤ 100) (ho : out.length ≤ 1000) (e : out[n] = xs[i]) :
    laws_FnWords.j4 (k + 2) xs ys t out (i : Int) (j : Int) (n : Int) false = laws_FnWords.l1 k xs ys t out ((i + 1 : Nat) : Int) (j : Int) ((n + 1 : Nat) : Int) := by
  have hwn : wrap64 ((n : Int) + 1) = ((n + 1 : Nat) : Int) := w64 (by omega) (by omega)
  have hwi : wrap64 ((i : Int) + 1) = ((i + 1 : Nat) : Int) := w64 (by omega) (by omega)
  have h5 : laws_FnWords.j5 (k + 1) xs ys t out (i : Int) (j : Int) (n : Int) false false = laws_FnWords.l1 k xs ys t out ((i + 1 : Nat) : Int) (j : Int) ((n + 1 : Nat) : Int) := by
    rw [laws_FnWords.j5, if_neg Bool.false_ne_true, if_neg Bool.false_ne_true, hwi, hwn]
  rw [laws_FnWords.j4, if_neg Bool.false_ne_true, if_pos (by omega), if_pos (by omega), if_pos (by omega), if_pos (by omega), rdT34_at out n hn, rdT34_at xs i hi, e]
  simp only [beq_self_eq_true, Bool.not_true, Bool.or_self]
  exact h5
/-- Is the second sequence's element taken? -/
def takeB (xs ys : List S34) (t : List Bool) (i j n : Nat) : Bool := (decide (n < t.length) && (rdOf false t (n : Int) && decide (j < ys.length))) || decide (i = xs.length)
theorem fnW_l1 {k i j n : Nat} {xs ys out : List S34} {t : List Bool} (hn : n < out.length) :
    laws_FnWords.l1 (k + 1) xs ys t out (i : Int) (j : Int) (n : Int) = laws_FnWords.j4 k xs ys t out (i : Int) (j : Int) (n : Int) (takeB xs ys t i j n) := by
  have e : ((i : Int) == (xs.length : Int)) = decide (i = xs.length) := by
    by_cases h : i = xs.length
    · rw [decide_eq_true h, beq_iff_eq]; omega
    · rw [decide_eq_false h, beq_eq_false_iff_ne]; omega
  rw [laws_FnWords.l1, if_pos (by omega), e]
  unfold takeB
  by_cases h1 : n < t.length
  · rw [if_pos (by omega), if_pos (by omega), decide_eq_true h1, Bool.true_and]
    cases h2 : rdOf false t (n : Int) with
    | true =>
      rw [if_pos rfl, Bool.true_and]
      by_cases h3 : j < ys.length
      · rw [if_pos (by omega), decide_eq_true h3, Bool.true_or]
      · rw [if_neg (by omega), decide_eq_false h3, Bool.false_or]
    | false => rw [if_neg Bool.false_ne_true, Bool.false_and, Bool.false_or]
  · rw [if_neg (by omega), decide_eq_false h1, Bool.false_and, Bool.false_or]
theorem takeB_yes {xs ys : List S34} {t : List Bool} {i j n : Nat} (h : takeB xs ys t i j n = true) : (∃ h : n < t.length, t[n] = true ∧ j < ys.length) ∨ i = xs.length := by
  simp only [takeB, Bool.or_eq_true, Bool.and_eq_true, decide_eq_true_eq] at h
  rcases h with ⟨h1, h2, h3⟩ | h
  · rw [rdOf_at false t n h1] at h2
    exact Or.inl ⟨h1, h2, h3⟩
  · exact Or.inr h
theorem takeB_no {xs ys : List S34} {t : List Bool} {i j n : Nat} (h : takeB xs ys t i j n = false) : ¬ ((∃ h : n < t.length, t[n] = true ∧ j < ys.length) ∨ i = xs.length) := by
  rintro (⟨h1, h2, h3⟩ | h4)
  · have : takeB xs ys t i j n = true := by simp only [takeB, Bool.or_eq_true, Bool.and_eq_true, decide_eq_true_eq]; exact Or.inl ⟨h1, by rw [rdOf_at false t n h1]; exact h2, h3⟩
    rw [h] at this; cases this
  · have : takeB xs ys t i j n = true := by simp only [takeB, Bool.or_eq_true, decide_eq_true_eq]; exact Or.inr h4
    rw [h] at this; cases this
theorem fnWords_l1 {xs ys out : List S34} {t : List Bool} (hx : xs.length ≤ 100) (hy : ys.length ≤ 100) (ht : t.length ≤ 100) (ho : out.length = xs.length + ys.length) (d : Nat) : ∀ (k i j n : Nat), n + d = out.length → 3 * d < k → n = i + j → i ≤ xs.length → j ≤ ys.length →
    out.drop n = mergeR (xs.drop i) (ys.drop j) (t.drop n) → laws_FnWords.l1 k xs ys t out (i : Int) (j : Int) (n : Int) = some true := by
  induction d with
  | zero =>
    intro k i j n hn hk _ _ _ _
    obtain ⟨k, rfl⟩ : ∃ q, k = q + 1 := ⟨k - 1, by omega⟩
    rw [laws_FnWords.l1, if_neg (by omega)]
  | succ d ih =>
    intro k i j n hn hk hij hi hj hd
    obtain ⟨k, rfl⟩ : ∃ q, k = q + 3 := ⟨k - 3, by omega⟩
    have hlt : n < out.length := by omega
    rw [fnW_l1 hlt]
    cases hT : takeB xs ys t i j n with
    | true =>
      obtain ⟨hj2, e1, e2⟩ := (merge_next hij hi hj ho hd hlt).1 (takeB_yes hT)
      rw [fnW_y hj2 hlt hy (by omega) e1]
      exact ih k i (j + 1) (n + 1) (by omega) (by omega) (by omega) hi (by omega) e2
    | false =>
      obtain ⟨hi2, e1, e2⟩ := (merge_next hij hi hj ho hd hlt).2 (takeB_no hT)
      rw [fnW_x hi2 hlt hx (by omega) e1]
      exact ih k (i + 1) j (n + 1) (by omega) (by omega) (by omega) (by omega) hj e2

theorem fnWords_l0 {s m out : List Int} {a b c d : Int} (hs : s.length ≤ 1048576) (hm : m.length ≤ 100) (hlen : out.length = m.length) (hq : ∀ q : Int, 0 ≤ q → q < (m.length : Int) → q ≠ b → rd out q = rd m q) (e : Nat) : ∀ (k i : Nat), i + e = m.length → e + s.length + 2000 < k →
    laws_FnWords.l0 k s m out (i : Int) a b c d = some true := by
  induction e with
  | zero =>
    intro k i hi hk
    obtain ⟨k, rfl⟩ : ∃ q, k = q + 1 := ⟨k - 1, by omega⟩
    obtain ⟨xs, ys, t, e1, hx, hy, ht⟩ := drawMerged_ok (k := k) hs (by omega)
    rw [laws_FnWords.l0, if_neg (by omega), e1, Option.bind_some]
    simp only
    have hl := mergeR_len t xs ys
    rw [implMerged_eq (by omega) (by omega) (by omega) (by omega), Option.bind_some, w64 (by omega) (by omega), if_pos (by omega)]
    exact fnWords_l1 hx hy ht hl (mergeR xs ys t).length k 0 0 0 (by omega) (by omega) rfl (by omega) (by omega) (by rw [List.drop_zero, List.drop_zero, List.drop_zero, List.drop_zero])
  | succ e ih =>
    intro k i hi hk
    obtain ⟨k, rfl⟩ : ∃ q, k = q + 1 := ⟨k - 1, by omega⟩
    have ih1 := ih k (i + 1) (by omega) (by omega)
    rw [laws_FnWords.l0, if_pos (by omega), w64 (x := (i : Int) + 1) (by omega) (by omega), show ((i : Int) + 1) = ((i + 1 : Nat) : Int) from by omega, ih1]
    by_cases h : (i : Int) = b
    · rw [if_pos h]
    · rw [if_neg h, if_pos (by omega), if_pos (by omega), if_pos (hq i (by omega) (by omega) h)]


end Go.Proofs.Ytbhlmgljflggeaa.M
namespace Go.Proofs.Ytbhlmgljflggeaa.M
set_option linter.unusedVariables false
set_option linter.unusedSimpArgs false
open Go.RowKit Go.Proofs.YtbhlmgljflggeaaW.PrintWords Go.Proofs.Ytbhlmgljflggeaa.Pb

theorem sameInts_l0 (l : List Int) (hl : l.length ≤ 4000000) (d : Nat) : ∀ (k i : Nat), i + d = l.length → d < k → laws_sameInts.l0 k l l (i : Int) = some true := by
  induction d with
  | zero =>
    intro k i hi hk
    obtain ⟨k, rfl⟩ : ∃ m, k = m + 1 := ⟨k - 1, by omega⟩
    simp only [laws_sameInts.l0]
    rw [if_neg (by omega)]
  | succ d ih =>
    intro k i hi hk
    obtain ⟨k, rfl⟩ : ∃ m, k = m + 1 := ⟨k - 1, by omega⟩
    simp only [laws_sameInts.l0]
    rw [if_pos (by omega), if_pos (by omega), if_pos (by omega), if_pos trivial, w64 (by omega) (by omega), show ((i : Int) + 1) = ((i + 1 : Nat) : Int) from by omega]
    exact ih k (i + 1) (by omega) (by omega)

theorem sameInts_refl {k : Nat} {l : List Int} (hl : l.length ≤ 4000000) (hk : l.length < k) : laws_sameInts.f k l l = some true := by
  unfold laws_sameInts.f
  rw [if_pos rfl]
  exact sameInts_l0 l hl l.length k 0 (by omega) hk


end Go.Proofs.Ytbhlmgljflggeaa.M
namespace Go.Proofs.Ytbhlmgljflggeaa.Pure
set_option linter.unusedVariables false
set_option linter.unusedSimpArgs false
open Go.RowKit Go.Proofs.Ytbhlmgljflggeaa.M Go.Proofs.YtbhlmgljflggeaaW.PrintWords Go.Proofs.Ytbhlmgljflggeaa.Pb

theorem FnWords : laws_FnWords.Pure := by
  intro s _
  obtain ⟨k, hk⟩ : ∃ k : Nat, 30000000 < k := ⟨30000001, by omega⟩
  refine ⟨k + 3, ?_⟩
  unfold laws_FnWords.f laws_big.f
  rw [Option.bind_some]
  by_cases h0 : (s.length : Int) > 1048576
  · rw [decide_eq_true h0, if_pos rfl]
  · rw [decide_eq_false h0, if_neg Bool.false_ne_true]
    obtain ⟨m, a, b, c, d, e, hm⟩ := drawWord_ok (k := k + 3) (s := s) (by omega) (by omega)
    rw [e, Option.bind_some]
    simp only
    have hlen := wordR_len m a b c d
    rw [implWord_eq (by omega) (by omega), specWord_eq (by omega) (by omega), Option.bind_some, Option.bind_some, implMemoryOk_eq (by omega) (by omega), Option.bind_some, specMemoryOk_eq (by omega) (by omega), Option.bind_some]
    generalize hR : wordR m a b c d = R at hlen
    obtain ⟨out, v, ok⟩ := R
    simp only at hlen
    simp only [bne_self_eq_false, Bool.false_eq_true, if_false]
    rw [if_pos (by omega), laws_FnWords.j0, if_neg Bool.false_ne_true]
    cases ok with
    | false =>
      obtain ⟨rfl, rfl⟩ := word_no hR
      rw [if_neg Bool.false_ne_true, sameInts_refl (by omega) (by omega), Option.bind_some, if_pos rfl]
      rfl
    | true =>
      obtain ⟨hb, h1, h4, hq⟩ := word_yes hR
      have hj : laws_FnWords.j1 (k + 2) s m out false a b c d = some true := by
        rw [laws_FnWords.j1, if_neg Bool.false_ne_true]
        exact fnWords_l0 (by omega) (by omega) hlen hq m.length _ 0 (by omega) (by omega)
      rw [if_pos rfl]
      by_cases ha : a = 4
      · rw [if_pos ha, if_pos hb.1, if_pos (by omega)]
        by_cases hd : rd out b = d
        · rw [if_pos hd, if_neg (by simp), if_neg (by omega), hj]
        · rw [if_neg hd, if_neg (by simpa using h4 ha hd), if_neg (by omega), hj]
      · rw [if_neg ha]
        by_cases ha1 : a = 1
        · rw [if_pos ha1, if_pos hb.1, if_pos hb.2, show (v != rd m b) = false from by simp [h1 ha1], hj]
        · rw [if_neg ha1, hj]


end Go.Proofs.Ytbhlmgljflggeaa.Pure
