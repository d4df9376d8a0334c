/- The pure statement of FnExactSwapAll and what it needs. Conditions: those that each theorem states. -/
import Derived.Test.YtbhlmgljflggeaaVFnExactSwapAll2
import Derived.RowKit
import Derived.Test.YtbhlmgljflggeaaWWords
namespace Go.Proofs.Ytbhlmgljflggeaa.Pb
open Go.RowKit Go.Proofs.YtbhlmgljflggeaaW.PrintWords

theorem w64 {x : Int} (h0 : -9223372036854775808 ≤ x) (h1 : x ≤ 9223372036854775807) : wrap64 x = x := by
  unfold wrap64
  omega

theorem rd_at (l : List Int) (i : Nat) (h : i < l.length) : rd l (i : Int) = l[i] := by
  simp [rd, List.getD_eq_getElem?_getD, List.getElem?_eq_getElem h]

theorem set_take {α : Type} (x : List α) (v : α) (i : Nat) (h : i < x.length) : (x.set i v).take (i + 1) = x.take i ++ [v] := by
  rw [List.take_succ_eq_append_getElem (by simpa using h)]
  rw [List.take_set_of_le (Nat.le_refl i)]
  simp

/-- One round of a loop that copies. -/
theorem copy_step {α : Type} (x l : List α) (i : Nat) (h : i < l.length) (hx : i < x.length) :
    (x.set i l[i]).take (i + 1) ++ l.drop (i + 1) = x.take i ++ l.drop i := by
  rw [set_take x l[i] i hx, List.drop_eq_getElem_cons h, List.append_assoc]
  rfl

theorem drop_cons {α : Type} (l : List α) (i : Nat) (h : i < l.length) : l.drop i = l[i] :: l.drop (i + 1) := List.drop_eq_getElem_cons h


end Go.Proofs.Ytbhlmgljflggeaa.Pb
namespace Go.Proofs.Ytbhlmgljflggeaa.M
open Go.RowKit Go.Proofs.YtbhlmgljflggeaaW.PrintWords Go.Proofs.Ytbhlmgljflggeaa.Pb

theorem toIntS_l0 (l : List Int) (hl : l.length ≤ 4000000) (d : Nat) : ∀ (k i : Nat) (x : List Int), i + d = l.length → d < k → x.length = l.length → laws_toIntS.l0 k l x (i : Int) = some (x.take i ++ l.drop i) := by
  induction d with
  | zero =>
    intro k i x hi hk hx
    obtain ⟨k, rfl⟩ : ∃ m, k = m + 1 := ⟨k - 1, by omega⟩
    simp only [laws_toIntS.l0]
    rw [if_neg (by omega), List.take_of_length_le (by omega), List.drop_of_length_le (by omega), List.append_nil]
  | succ d ih =>
    intro k i x hi hk hx
    obtain ⟨k, rfl⟩ : ∃ m, k = m + 1 := ⟨k - 1, by omega⟩
    simp only [laws_toIntS.l0]
    rw [if_pos (by omega), if_pos (by omega), if_pos (by omega), w64 (by omega) (by omega), rd_at l i (by omega), Int.toNat_natCast,
      show ((i : Int) + 1) = ((i + 1 : Nat) : Int) from by omega, ih k (i + 1) _ (by omega) (by omega) (by simp [hx]), copy_step x l i (by omega) (by omega)]

theorem toIntS_eq {k : Nat} {l : List Int} (hl : l.length ≤ 4000000) (hk : l.length < k) : laws_toIntS.f k l = some l := by
  unfold laws_toIntS.f
  rw [if_pos (by omega), if_pos (by omega)]
  have h := toIntS_l0 l hl l.length k 0 (List.replicate ((l.length : Int) : Int).toNat 0) (by omega) hk (by simp)
  rw [List.take_zero, List.drop_zero, List.nil_append] at h
  exact h

theorem eqIntS_l0 (l : List Int) (hl : l.length ≤ 4000000) (d : Nat) : ∀ (k i : Nat), i + d = l.length → d < k → laws_eqIntS.l0 k l l (i : Int) = some true := by
  induction d with
  | zero =>
    intro k i hi hk
    obtain ⟨k, rfl⟩ : ∃ m, k = m + 1 := ⟨k - 1, by omega⟩
    simp only [laws_eqIntS.l0]
    rw [if_neg (by omega)]
  | succ d ih =>
    intro k i hi hk
    obtain ⟨k, rfl⟩ : ∃ m, k = m + 1 := ⟨k - 1, by omega⟩
    simp only [laws_eqIntS.l0]
    rw [if_pos (by omega), if_pos (by omega), if_pos (by omega), if_pos trivial, w64 (by omega) (by omega), show ((i : Int) + 1) = ((i + 1 : Nat) : Int) from by omega]
    exact ih k (i + 1) (by omega) (by omega)

theorem eqIntS_refl {k : Nat} {l : List Int} (hl : l.length ≤ 4000000) (hk : l.length < k) : laws_eqIntS.f k l l = some true := by
  unfold laws_eqIntS.f
  rw [if_pos rfl]
  exact eqIntS_l0 l hl l.length k 0 (by omega) hk

/-- All of a list within bounds. -/
def inB (a b x : Int) : Bool := decide (a ≤ x) && decide (x ≤ b)

theorem l1In_eq (x a b : Int) : spec_l1In.f x a b = some (inB a b x) := by
  unfold spec_l1In.f inB
  by_cases h : x ≥ a
  · rw [if_pos h, decide_eq_true (show a ≤ x from h), Bool.true_and]
  · rw [if_neg h, decide_eq_false (show ¬ a ≤ x from h), Bool.false_and]

theorem in_eq (x a b : Int) : impl_in.f x a b = some (inB a b x) := by
  unfold impl_in.f inB
  by_cases h : a ≤ x
  · rw [if_pos h, decide_eq_true h, Bool.true_and]
  · rw [if_neg h, decide_eq_false h, Bool.false_and]

theorem l1All_l0 (l : List Int) (a b : Int) (hl : l.length ≤ 4000000) (d : Nat) : ∀ (k i : Nat), i + d = l.length → d < k → spec_l1All.l0 k l a b (i : Int) = some ((l.drop i).all (inB a b)) := by
  induction d with
  | zero =>
    intro k i hi hk
    obtain ⟨k, rfl⟩ : ∃ m, k = m + 1 := ⟨k - 1, by omega⟩
    simp only [spec_l1All.l0]
    rw [if_neg (by omega), List.drop_of_length_le (by omega)]
    rfl
  | succ d ih =>
    intro k i hi hk
    obtain ⟨k, rfl⟩ : ∃ m, k = m + 1 := ⟨k - 1, by omega⟩
    simp only [spec_l1All.l0]
    rw [if_pos (by omega), if_pos (by omega), rd_at l i (by omega), l1In_eq, Option.bind_some, drop_cons l i (by omega), List.all_cons]
    cases h : inB a b l[i] with
    | true =>
      rw [if_pos rfl, w64 (by omega) (by omega), show ((i : Int) + 1) = ((i + 1 : Nat) : Int) from by omega, ih k (i + 1) (by omega) (by omega), Bool.true_and]
    | false => simp

theorem l1All_eq {k : Nat} {l : List Int} {a b : Int} (hl : l.length ≤ 4000000) (hk : l.length < k) : spec_l1All.f k l a b = some (l.all (inB a b)) := by
  unfold spec_l1All.f
  exact l1All_l0 l a b hl l.length k 0 (by omega) hk


theorem isValue_eq (x : Int) : impl_isValue.f x = some (inB (-1000000000) 1000000000 x) := by
  unfold impl_isValue.f
  rw [in_eq, Option.bind_some]

theorem notValue_eq (x : Int) : impl_areValues_1.f x = some (!inB (-1000000000) 1000000000 x) := by
  unfold impl_areValues_1.f
  rw [isValue_eq, Option.bind_some]

theorem indexNot_l0 (l : List Int) (hl : l.length ≤ 4000000) (d : Nat) : ∀ (k i : Nat), i + d = l.length → d < k →
    ∃ r, slices_IndexFunc_int_int_F64.l0 k l (l.length : Int) (i : Int) = some r ∧ (decide (r ≥ 0)) = !((l.drop i).all (inB (-1000000000) 1000000000)) := by
  induction d with
  | zero =>
    intro k i hi hk
    obtain ⟨k, rfl⟩ : ∃ m, k = m + 1 := ⟨k - 1, by omega⟩
    refine ⟨-1, ?_, ?_⟩
    · simp only [slices_IndexFunc_int_int_F64.l0]
      rw [if_neg (by omega)]
    · rw [List.drop_of_length_le (by omega)]
      rfl
  | succ d ih =>
    intro k i hi hk
    obtain ⟨k, rfl⟩ : ∃ m, k = m + 1 := ⟨k - 1, by omega⟩
    simp only [slices_IndexFunc_int_int_F64.l0]
    rw [if_pos (by omega), if_pos (by omega), if_pos (by omega), rd_at l i (by omega), notValue_eq, Option.bind_some, drop_cons l i (by omega), List.all_cons]
    cases h : inB (-1000000000) 1000000000 l[i] with
    | true =>
      rw [w64 (by omega) (by omega), show ((i : Int) + 1) = ((i + 1 : Nat) : Int) from by omega, Bool.true_and]
      simp only [Bool.not_true, Bool.false_eq_true, if_false]
      exact ih k (i + 1) (by omega) (by omega)
    | false => exact ⟨(i : Int), by simp, by simp⟩

theorem areValues_eq {k : Nat} {l : List Int} (hl : l.length ≤ 4000000) (hk : l.length < k) : impl_areValues.f k l = some (l.all (inB (-1000000000) 1000000000)) := by
  unfold impl_areValues.f slices_ContainsFunc_int_int_F64.f slices_IndexFunc_int_int_F64.f
  obtain ⟨r, hr, h⟩ := indexNot_l0 l hl l.length k 0 (by omega) hk
  rw [show ((0 : Nat) : Int) = 0 from rfl] at hr
  rw [hr, Option.bind_some, Option.bind_some, h, List.drop_zero, Bool.not_not]

/-- A memory is right. -/
def memB (l : List Int) : Bool := decide (l.length ≤ 40) && l.all (inB (-1000000000) 1000000000)

theorem specMemoryOk_eq {k : Nat} {l : List Int} (hl : l.length ≤ 4000000) (hk : l.length < k) : spec_MemoryOk.f k l = some (memB l) := by
  unfold spec_MemoryOk.f memB
  by_cases h : l.length ≤ 40
  · rw [if_pos (by omega), l1All_eq hl hk, Option.bind_some, decide_eq_true h, Bool.true_and]
  · rw [if_neg (by omega), decide_eq_false h, Bool.false_and]

theorem implMemoryOk_eq {k : Nat} {l : List Int} (hl : l.length ≤ 4000000) (hk : l.length < k) : impl_MemoryOk.f k l = some (memB l) := by
  unfold impl_MemoryOk.f memB
  by_cases h : l.length ≤ 40
  · rw [if_pos (by omega), areValues_eq hl hk, Option.bind_some, decide_eq_true h, Bool.true_and]
  · rw [if_neg (by omega), decide_eq_false h, Bool.false_and]


end Go.Proofs.Ytbhlmgljflggeaa.M
namespace Go.Proofs.Ytbhlmgljflggeaa.M
set_option linter.unusedVariables false
set_option linter.unusedSimpArgs false
open Go.RowKit Go.Proofs.YtbhlmgljflggeaaW.PrintWords Go.Proofs.Ytbhlmgljflggeaa.Pb

theorem l1Copy_eq {l : List Int} (hl : l.length ≤ 4000000) : spec_l1Copy.f l = some l := by
  unfold spec_l1Copy.f
  rw [Option.bind_some, if_pos (by simp; omega), List.nil_append]
theorem own_eq {l : List Int} (hl : l.length ≤ 4000000) : impl_own.f l = some l := by
  unfold impl_own.f
  rw [Option.bind_some, if_pos (by simp; omega), List.nil_append]
theorem inB_iff {a b x : Int} : inB a b x = true ↔ a ≤ x ∧ x ≤ b := by simp [inB]


end Go.Proofs.Ytbhlmgljflggeaa.M
namespace Go.Proofs.Ytbhlmgljflggeaa.M
set_option linter.unusedVariables false
set_option linter.unusedSimpArgs false
open Go.RowKit Go.Proofs.YtbhlmgljflggeaaW.PrintWords Go.Proofs.Ytbhlmgljflggeaa.Pb

theorem l1Has_l0 (l : List Int) (x : Int) (hl : l.length ≤ 4000000) (d : Nat) : ∀ (k i : Nat), i + d = l.length → d < k → spec_l1Has.l0 k l x (i : Int) = some (decide (x ∈ l.drop i)) := by
  induction d with
  | zero =>
    intro k i hi hk
    obtain ⟨k, rfl⟩ : ∃ m, k = m + 1 := ⟨k - 1, by omega⟩
    simp only [spec_l1Has.l0]
    rw [if_neg (by omega), List.drop_of_length_le (by omega)]
    simp
  | succ d ih =>
    intro k i hi hk
    obtain ⟨k, rfl⟩ : ∃ m, k = m + 1 := ⟨k - 1, by omega⟩
    simp only [spec_l1Has.l0]
    rw [if_pos (by omega), if_pos (by omega), rd_at l i (by omega), drop_cons l i (by omega)]
    by_cases h : l[i] = x
    · rw [if_pos h]
      simp [h]
    · rw [if_neg h, w64 (by omega) (by omega), show ((i : Int) + 1) = ((i + 1 : Nat) : Int) from by omega, ih k (i + 1) (by omega) (by omega)]
      have h2 : ¬ x = l[i] := fun e => h e.symm
      simp [-List.getElem_cons_drop, h2]
theorem l1Has_eq {k : Nat} {l : List Int} {x : Int} (hl : l.length ≤ 4000000) (hk : l.length < k) : spec_l1Has.f k l x = some (decide (x ∈ l)) := by
  unfold spec_l1Has.f
  have h := l1Has_l0 l x hl l.length k 0 (by omega) hk
  rw [List.drop_zero] at h
  exact h

theorem index_l0 (l : List Int) (x : Int) (hl : l.length ≤ 4000000) (d : Nat) : ∀ (k i : Nat), i + d = l.length → d < k → ∃ r, slices_Index_int_int.l0 k l x (l.length : Int) (i : Int) = some r ∧ decide (r ≥ 0) = decide (x ∈ l.drop i) := by
  induction d with
  | zero =>
    intro k i hi hk
    obtain ⟨k, rfl⟩ : ∃ m, k = m + 1 := ⟨k - 1, by omega⟩
    refine ⟨-1, ?_, ?_⟩
    · simp only [slices_Index_int_int.l0]
      rw [if_neg (by omega)]
    · rw [List.drop_of_length_le (by omega)]
      simp
  | succ d ih =>
    intro k i hi hk
    obtain ⟨k, rfl⟩ : ∃ m, k = m + 1 := ⟨k - 1, by omega⟩
    simp only [slices_Index_int_int.l0]
    rw [if_pos (by omega), if_pos (by omega), if_pos (by omega), rd_at l i (by omega), drop_cons l i (by omega)]
    by_cases h : x = l[i]
    · rw [if_pos h]
      exact ⟨(i : Int), rfl, by simp [← h]⟩
    · rw [if_neg h, w64 (by omega) (by omega), show ((i : Int) + 1) = ((i + 1 : Nat) : Int) from by omega]
      obtain ⟨r, h1, h2⟩ := ih k (i + 1) (by omega) (by omega)
      exact ⟨r, h1, by rw [h2]; simp [-List.getElem_cons_drop, h]⟩
theorem contains_eq {k : Nat} {l : List Int} {x : Int} (hl : l.length ≤ 4000000) (hk : l.length < k) : slices_Contains_int_int.f k l x = some (decide (x ∈ l)) := by
  unfold slices_Contains_int_int.f slices_Index_int_int.f
  obtain ⟨r, h1, h2⟩ := index_l0 l x hl l.length k 0 (by omega) hk
  rw [show ((0 : Nat) : Int) = 0 from rfl] at h1
  rw [h1, Option.bind_some, h2, List.drop_zero]

/-- The loop of SwapAll from place i on: d places are left; out: what is swapped so far. -/
def swapR (m at_ old new : List Int) : Nat → Nat → List Int → List Int × Bool
  | _, 0, out => (out, true)
  | i, d + 1, out =>
    if (inB 0 ((m.length : Int) - 1) (rd at_ i) && (!decide (rd at_ i ∈ at_.take i) && decide (rd m (rd at_ i) = rd old i))) = true then swapR m at_ old new (i + 1) d (out.set (rd at_ i).toNat (rd new i))
    else (m, false)
theorem swapR_len (m at_ old new : List Int) (d : Nat) : ∀ (i : Nat) (out : List Int), out.length = m.length → (swapR m at_ old new i d out).1.length = m.length := by
  induction d with
  | zero => intro i out h; exact h
  | succ d ih =>
    intro i out h
    unfold swapR
    split
    · exact ih _ _ (by simp [h])
    · rfl

theorem specSwap_l0 (m at_ old new : List Int) (hm : m.length ≤ 40) (ha : at_.length ≤ 4000000) (ho : old.length = at_.length) (hn : new.length = at_.length) (d : Nat) :
    ∀ (k i : Nat) (out : List Int), i + d = at_.length → d + at_.length < k → out.length = m.length → spec_SwapAll.l0 k m at_ old new out (i : Int) = some (swapR m at_ old new i d out) := by
  induction d with
  | zero =>
    intro k i out hi hk hx
    obtain ⟨k, rfl⟩ : ∃ q, k = q + 1 := ⟨k - 1, by omega⟩
    simp only [spec_SwapAll.l0, swapR]
    rw [if_neg (by omega)]
  | succ d ih =>
    intro k i out hi hk hx
    obtain ⟨k, rfl⟩ : ∃ q, k = q + 1 := ⟨k - 1, by omega⟩
    simp only [spec_SwapAll.l0, swapR]
    have ew : wrap64 ((m.length : Int) - 1) = (m.length : Int) - 1 := w64 (by omega) (by omega)
    rw [if_pos (by omega), if_pos (by omega), l1In_eq, Option.bind_some, ew, Int.toNat_natCast, l1Copy_eq (by omega), Option.bind_some]
    cases h1 : inB 0 ((m.length : Int) - 1) (rd at_ (i : Int)) with
    | false => simp
    | true =>
      have hb := inB_iff.1 h1
      rw [if_pos rfl, if_pos (by omega), l1Has_eq (by rw [List.length_take]; omega) (by rw [List.length_take]; omega), Option.bind_some]
      cases h2 : decide (rd at_ (i : Int) ∈ at_.take i) with
      | true => simp
      | false =>
        simp only [Bool.false_eq_true, if_false]
        rw [if_pos hb.1, if_pos (by omega), if_pos (by omega)]
        by_cases h3 : rd m (rd at_ (i : Int)) = rd old (i : Int)
        · rw [if_pos h3, if_pos (by omega), if_pos (by omega), w64 (by omega) (by omega), show ((i : Int) + 1) = ((i + 1 : Nat) : Int) from by omega, ih k (i + 1) _ (by omega) (by omega) (by simpa using hx)]
          simp [h3]
        · rw [if_neg h3]
          simp [h3]

theorem implSwap_l0 (m at_ old new : List Int) (hm : m.length ≤ 40) (ha : at_.length ≤ 4000000) (ho : old.length = at_.length) (hn : new.length = at_.length) (d : Nat) :
    ∀ (k i : Nat) (out : List Int), i + d = at_.length → d + at_.length < k → out.length = m.length → impl_SwapAll.l0 k m at_ old new out at_ (at_.length : Int) (i : Int) = some (swapR m at_ old new i d out) := by
  induction d with
  | zero =>
    intro k i out hi hk hx
    obtain ⟨k, rfl⟩ : ∃ q, k = q + 1 := ⟨k - 1, by omega⟩
    simp only [impl_SwapAll.l0, swapR]
    rw [if_neg (by omega)]
  | succ d ih =>
    intro k i out hi hk hx
    obtain ⟨k, rfl⟩ : ∃ q, k = q + 1 := ⟨k - 1, by omega⟩
    simp only [impl_SwapAll.l0, swapR]
    have ew : wrap64 ((m.length : Int) - 1) = (m.length : Int) - 1 := w64 (by omega) (by omega)
    rw [if_pos (by omega), if_pos (by omega), if_pos (by omega), in_eq, Option.bind_some, ew, Int.toNat_natCast, own_eq (by omega), Option.bind_some]
    cases h1 : inB 0 ((m.length : Int) - 1) (rd at_ (i : Int)) with
    | false => simp
    | true =>
      have hb := inB_iff.1 h1
      rw [if_pos rfl, if_pos (by omega), contains_eq (by rw [List.length_take]; omega) (by rw [List.length_take]; omega), Option.bind_some]
      cases h2 : decide (rd at_ (i : Int) ∈ at_.take i) with
      | true => simp
      | false =>
        simp only [Bool.false_eq_true, if_false]
        rw [if_pos hb.1, if_pos (by omega), if_pos (by omega)]
        by_cases h3 : rd m (rd at_ (i : Int)) = rd old (i : Int)
        · rw [if_pos h3, if_pos (by omega), if_pos (by omega), w64 (by omega) (by omega), show ((i : Int) + 1) = ((i + 1 : Nat) : Int) from by omega, ih k (i + 1) _ (by omega) (by omega) (by simpa using hx)]
          simp [h3]
        · rw [if_neg h3]
          simp [h3]

/-- Are old and new right? The reference's own length bound on them follows from the memory's where the loop is come to. -/
def swapAllR (m at_ old new : List Int) : List Int × Bool :=
  if (memB m && (decide (at_.length = old.length) && (decide (at_.length = new.length) && (old.all (inB (-1000000000) 1000000000) && new.all (inB (-1000000000) 1000000000))))) = true then swapR m at_ old new 0 at_.length m
  else (m, false)

theorem nodup_short : ∀ (n : Nat) (l : List Int), l.Nodup → (∀ x ∈ l, 0 ≤ x ∧ x < (n : Int)) → l.length ≤ n
  | 0, l, _, hr => by
    cases l with
    | nil => simp
    | cons x l => have := hr x (by simp); omega
  | n + 1, l, hd, hr => by
    by_cases h : (n : Int) ∈ l
    · have h1 : (l.erase (n : Int)).length = l.length - 1 := List.length_erase_of_mem h
      have h2 := nodup_short n (l.erase (n : Int)) (hd.erase _) (fun x hx => by
        have hx1 := (List.Nodup.mem_erase_iff hd).1 hx
        have := hr x hx1.2
        have := hx1.1
        omega)
      omega
    · have h2 := nodup_short n l hd (fun x hx => by
        have := hr x hx
        have : x ≠ (n : Int) := fun e => h (e ▸ hx)
        omega)
      omega

theorem swapR_true (m at_ old new : List Int) (d : Nat) : ∀ (i : Nat) (out : List Int), i + d = at_.length → (at_.take i).Nodup → (∀ x ∈ at_.take i, 0 ≤ x ∧ x < (m.length : Int)) →
    (swapR m at_ old new i d out).2 = true → at_.Nodup ∧ ∀ x ∈ at_, 0 ≤ x ∧ x < (m.length : Int) := by
  induction d with
  | zero =>
    intro i out hi h1 h2 _
    rw [List.take_of_length_le (by omega)] at h1 h2
    exact ⟨h1, h2⟩
  | succ d ih =>
    intro i out hi h1 h2 h
    unfold swapR at h
    split at h
    · rename_i hc
      simp only [Bool.and_eq_true, Bool.not_eq_true', decide_eq_false_iff_not, decide_eq_true_eq] at hc
      obtain ⟨c1, c2, _⟩ := hc
      have hb := inB_iff.1 c1
      have hlt : i < at_.length := by omega
      rw [rd_at at_ i hlt] at c2 hb
      have et := List.take_succ_eq_append_getElem hlt
      refine ih (i + 1) _ (by omega) ?_ ?_ h
      · rw [et, List.nodup_append]
        refine ⟨h1, by simp, fun a ha b hb e => ?_⟩
        simp only [List.mem_singleton] at hb
        subst hb
        subst e
        exact c2 ha
      · intro x hx
        rw [et] at hx
        rcases List.mem_append.1 hx with hx | hx
        · exact h2 x hx
        · simp only [List.mem_singleton] at hx
          subst hx
          omega
    · simp at h

theorem swapR_snd (m at_ old new : List Int) (d : Nat) : ∀ (i : Nat) (out : List Int), (swapR m at_ old new i d out).2 = false → swapR m at_ old new i d out = (m, false) := by
  induction d with
  | zero => intro i out h; simp [swapR] at h
  | succ d ih =>
    intro i out h
    unfold swapR at h ⊢
    split
    · rename_i hc
      rw [if_pos hc] at h
      exact ih _ _ h
    · rfl

theorem swapR_long (m at_ old new : List Int) (h : m.length < at_.length) (out : List Int) : swapR m at_ old new 0 at_.length out = (m, false) := by
  refine swapR_snd m at_ old new at_.length 0 out ?_
  cases hs : (swapR m at_ old new 0 at_.length out).2 with
  | false => rfl
  | true =>
    obtain ⟨h1, h2⟩ := swapR_true m at_ old new at_.length 0 out (by omega) (by simp) (by simp) hs
    have := nodup_short m.length at_ h1 h2
    omega

theorem swapAllR_len (m at_ old new : List Int) : (swapAllR m at_ old new).1.length = m.length := by
  unfold swapAllR
  split
  · exact swapR_len m at_ old new _ _ _ rfl
  · rfl

theorem implSwapAll_eq {k : Nat} {m at_ old new : List Int} (hm : m.length ≤ 4000000) (ha : at_.length ≤ 4000000) (ho : old.length ≤ 4000000) (hn : new.length ≤ 4000000)
    (hk : m.length + 2 * at_.length + old.length + new.length + 5 < k) : impl_SwapAll.f k m at_ old new = some (swapAllR m at_ old new) := by
  obtain ⟨k, rfl⟩ : ∃ q, k = q + 1 := ⟨k - 1, by omega⟩
  have hj : impl_SwapAll.j0 (k + 1) m at_ old new m true = some (m, false) := by simp [impl_SwapAll.j0]
  unfold impl_SwapAll.f swapAllR
  rw [own_eq hm, Option.bind_some, implMemoryOk_eq hm (by omega), Option.bind_some]
  cases h1 : memB m with
  | false => simp [hj]
  | true =>
    have hm40 : m.length ≤ 40 := by
      simp only [memB, Bool.and_eq_true, decide_eq_true_eq] at h1
      exact h1.1
    rw [if_pos rfl]
    by_cases h2 : at_.length = old.length
    · rw [if_pos (by omega)]
      by_cases h3 : at_.length = new.length
      · rw [if_pos (by omega), areValues_eq ho (by omega), Option.bind_some, areValues_eq hn (by omega), Option.bind_some]
        cases h4 : old.all (inB (-1000000000) 1000000000) with
        | false => simp [hj]
        | true =>
          cases h5 : new.all (inB (-1000000000) 1000000000) with
          | false => simp [hj]
          | true =>
            have hg := implSwap_l0 m at_ old new hm40 ha (by omega) (by omega) at_.length k 0 m (by omega) (by omega) rfl
            have h6 : old.length = new.length := by omega
            simp only [h2, h6, if_true, Bool.not_true, impl_SwapAll.j0, Bool.false_eq_true, if_false, decide_true, Bool.and_self] at hg ⊢
            exact hg
      · rw [if_neg (by omega), hj]
        simp [h3]
    · rw [if_neg (by omega), hj]
      simp [h2]

theorem specSwapAll_eq {k : Nat} {m at_ old new : List Int} (hm : m.length ≤ 4000000) (ha : at_.length ≤ 4000000) (ho : old.length ≤ 4000000) (hn : new.length ≤ 4000000)
    (hk : m.length + 2 * at_.length + old.length + new.length + 5 < k) : spec_SwapAll.f k m at_ old new = some (swapAllR m at_ old new) := by
  obtain ⟨k, rfl⟩ : ∃ q, k = q + 1 := ⟨k - 1, by omega⟩
  have hj : spec_SwapAll.j0 (k + 1) m at_ old new m true = some (m, false) := by simp [spec_SwapAll.j0]
  unfold spec_SwapAll.f swapAllR
  rw [l1Copy_eq hm, Option.bind_some, specMemoryOk_eq hm (by omega), Option.bind_some]
  cases h1 : memB m with
  | false => simp [hj]
  | true =>
    have hm40 : m.length ≤ 40 := by
      simp only [memB, Bool.and_eq_true, decide_eq_true_eq] at h1
      exact h1.1
    rw [if_pos rfl]
    by_cases h2 : at_.length = old.length
    · rw [if_pos (by omega)]
      by_cases h3 : at_.length = new.length
      · rw [if_pos (by omega), specMemoryOk_eq ho (by omega), Option.bind_some, specMemoryOk_eq hn (by omega), Option.bind_some]
        by_cases h40 : at_.length ≤ 40
        · have e1 : memB old = old.all (inB (-1000000000) 1000000000) := by simp [memB, show old.length ≤ 40 by omega]
          have e2 : memB new = new.all (inB (-1000000000) 1000000000) := by simp [memB, show new.length ≤ 40 by omega]
          rw [e1, e2]
          cases h4 : old.all (inB (-1000000000) 1000000000) with
          | false => simp [hj]
          | true =>
            cases h5 : new.all (inB (-1000000000) 1000000000) with
            | false => simp [hj]
            | true =>
              have hg := specSwap_l0 m at_ old new hm40 ha (by omega) (by omega) at_.length k 0 m (by omega) (by omega) rfl
              have h6 : old.length = new.length := by omega
              simp only [h2, h6, if_true, Bool.not_true, spec_SwapAll.j0, Bool.false_eq_true, if_false, decide_true, Bool.and_self] at hg ⊢
              exact hg
        · have e1 : memB old = false := by simp [memB, show ¬ old.length ≤ 40 by omega]
          rw [e1]
          simp only [Bool.false_eq_true, if_false]
          rw [hj, swapR_long m at_ old new (by omega) m]
          split <;> rfl
      · rw [if_neg (by omega), hj]
        simp [h3]
    · rw [if_neg (by omega), hj]
      simp [h2]


end Go.Proofs.Ytbhlmgljflggeaa.M
namespace Go.Proofs.Ytbhlmgljflggeaa.M
set_option linter.unusedSimpArgs false
open Go.RowKit Go.Proofs.YtbhlmgljflggeaaW.PrintWords Go.Proofs.Ytbhlmgljflggeaa.Pb

theorem rd_mid (p q : List Int) (y : Int) : rd (p ++ y :: q) ((p.length : Nat) : Int) = y := by
  simp [rd, List.getD_eq_getElem?_getD]
def mkLInt : Int → Nat → List Int
  | _, 0 => []
  | a, m + 1 => a :: mkLInt (a + 1) m
theorem mkLInt_len : ∀ (m : Nat) (a : Int), (mkLInt a m).length = m
  | 0, _ => rfl
  | m + 1, a => by simp [mkLInt, mkLInt_len m]
theorem markIntS_l0 (d : Nat) : ∀ (k i : Nat) (a : Int) (x : List Int), x.length ≤ 4000000 → i + d = x.length → d < k → 0 ≤ a → a + d ≤ 1099511627776 → laws_markIntS.l0 k x a (i : Int) = some (a + d, x.take i ++ mkLInt a d) := by
  induction d with
  | zero =>
    intro k i a x hl hi hk h0 h1
    obtain ⟨k, rfl⟩ : ∃ m, k = m + 1 := ⟨k - 1, by omega⟩
    simp only [laws_markIntS.l0]
    rw [if_neg (by omega), List.take_of_length_le (by omega)]
    simp [mkLInt]
  | succ d ih =>
    intro k i a x hl hi hk h0 h1
    obtain ⟨k, rfl⟩ : ∃ m, k = m + 1 := ⟨k - 1, by omega⟩
    simp only [laws_markIntS.l0]
    have ei : wrap64 ((i : Int) + 1) = ((i + 1 : Nat) : Int) := by
      rw [w64 (by omega) (by omega)]
      omega
    have hx : i < x.length := by omega
    rw [if_pos (by omega), if_pos (by omega), w64 (x := a + 1) (by omega) (by omega), ei, Int.toNat_natCast,
      ih k (i + 1) (a + 1) _ (by simpa using hl) (by simp; omega) (by omega) (by omega) (by omega), set_take _ _ _ hx, List.append_assoc]
    refine congrArg some (Prod.ext ?_ rfl)
    show a + 1 + (d : Int) = a + ((d + 1 : Nat) : Int)
    omega
theorem markIntS_eq {k : Nat} {x : List Int} {a : Int} (hl : x.length ≤ 4000000) (hk : x.length < k) (h0 : 0 ≤ a) (h1 : a ≤ 549755813888) : laws_markIntS.f k x a = some (a + x.length, mkLInt a x.length) := by
  unfold laws_markIntS.f
  have h := markIntS_l0 x.length k 0 a x hl (by omega) hk h0 (by omega)
  rw [List.take_zero, List.nil_append] at h
  exact h
theorem heldIntS_l0 (d : Nat) : ∀ (k : Nat) (a : Int) (p : List Int), p.length + d ≤ 4000000 → d < k → 0 ≤ a → a + d ≤ 1099511627776 → laws_heldIntS.l0 k (p ++ mkLInt a d) a ((p.length : Nat) : Int) = some (a + d) := by
  induction d with
  | zero =>
    intro k a p hl hk h0 h1
    obtain ⟨k, rfl⟩ : ∃ m, k = m + 1 := ⟨k - 1, by omega⟩
    simp only [laws_heldIntS.l0]
    rw [if_neg (by simp [mkLInt])]
    simp
  | succ d ih =>
    intro k a p hl hk h0 h1
    obtain ⟨k, rfl⟩ : ∃ m, k = m + 1 := ⟨k - 1, by omega⟩
    simp only [laws_heldIntS.l0]
    have ei : wrap64 ((p.length : Int) + 1) = ((p.length + 1 : Nat) : Int) := by
      rw [w64 (by omega) (by omega)]
      omega
    have ea : wrap64 (a + 1) = a + 1 := w64 (by omega) (by omega)
    have hlen : ((p ++ mkLInt a (d + 1)).length : Int) = p.length + d + 1 := by
      simp [mkLInt_len]
      omega
    rw [if_pos (by omega), if_pos (by omega)]
    simp only [mkLInt, rd_mid, ea, ei, if_true]
    have h := ih k (a + 1) (p ++ [a]) (by simp; omega) (by omega) (by omega) (by omega)
    rw [List.append_assoc, List.length_append] at h
    simp only [List.singleton_append, List.length_singleton] at h
    rw [h]
    refine congrArg some ?_
    omega
theorem heldIntS_eq {k : Nat} {m : Nat} {a : Int} (hl : m ≤ 4000000) (hk : m < k) (h0 : 0 ≤ a) (h1 : a ≤ 549755813888) : laws_heldIntS.f k (mkLInt a m) a = some (a + m) := by
  unfold laws_heldIntS.f
  exact heldIntS_l0 m k a [] (by simpa using hl) hk h0 (by omega)


end Go.Proofs.Ytbhlmgljflggeaa.M
namespace Go.Proofs.Ytbhlmgljflggeaa.Pb
theorem ifneg_lt {α : Type} {c : Int} {a b : α} (h : ¬ c < 0) : (if c < 0 then a else b) = b := if_neg h


end Go.Proofs.Ytbhlmgljflggeaa.Pb
namespace Go.Proofs.Ytbhlmgljflggeaa.Pure
set_option linter.unusedVariables false
set_option linter.unusedSimpArgs false
open Go.RowKit Go.Proofs.Ytbhlmgljflggeaa.M Go.Proofs.YtbhlmgljflggeaaW.PrintWords Go.Proofs.Ytbhlmgljflggeaa.Pb


theorem FnExactSwapAll : laws_FnExactSwapAll.Pure := by
  intro m a o n _ _ _ _
  obtain ⟨k, hk⟩ : ∃ k : Nat, 30000000 < k := ⟨30000001, by omega⟩
  refine ⟨k + 3, ?_⟩
  unfold laws_FnExactSwapAll.f
  by_cases h0 : (m.length : Int) > 1048576
  · rw [if_pos h0]
  · rw [if_neg h0]
    by_cases h1 : (a.length : Int) > 1048576
    · rw [if_pos h1]
    · rw [if_neg h1]
      by_cases h2 : (o.length : Int) > 1048576
      · rw [if_pos h2]
      · rw [if_neg h2]
        by_cases h3 : (n.length : Int) > 1048576
        · rw [if_pos h3]
        · rw [if_neg h3]
          have hr := swapAllR_len m a o n
          (repeat (first | rw [if_pos rfl] | rw [if_neg Bool.false_ne_true] | rw [ifneg_lt (by omega)] | rw [toIntS_eq (by omega) (by omega)] | rw [eqIntS_refl (by omega) (by omega)] | rw [markIntS_eq (by omega) (by omega) (by omega) (by omega)] | rw [heldIntS_eq (by omega) (by omega) (by omega) (by omega)] | rw [specSwapAll_eq (by omega) (by omega) (by omega) (by omega) (by omega)] | rw [implSwapAll_eq (by omega) (by omega) (by omega) (by omega) (by omega)] | (simp only [Option.bind_some, bne_self_eq_false, if_true, Bool.false_eq_true, if_false])))
          generalize hR : swapAllR m a o n = R at hr
          obtain ⟨out, ok⟩ := R
          simp only at hr
          (repeat (first | rw [if_pos rfl] | rw [if_neg Bool.false_ne_true] | rw [ifneg_lt (by omega)] | rw [toIntS_eq (by omega) (by omega)] | rw [eqIntS_refl (by omega) (by omega)] | rw [markIntS_eq (by omega) (by omega) (by omega) (by omega)] | rw [heldIntS_eq (by omega) (by omega) (by omega) (by omega)] | rw [specSwapAll_eq (by omega) (by omega) (by omega) (by omega) (by omega)] | rw [implSwapAll_eq (by omega) (by omega) (by omega) (by omega) (by omega)] | (simp only [Option.bind_some, bne_self_eq_false, if_true, Bool.false_eq_true, if_false])))
          rw [laws_FnExactSwapAll.j0]
          (repeat (first | rw [if_pos rfl] | rw [if_neg Bool.false_ne_true] | rw [ifneg_lt (by omega)] | rw [toIntS_eq (by omega) (by omega)] | rw [eqIntS_refl (by omega) (by omega)] | rw [markIntS_eq (by omega) (by omega) (by omega) (by omega)] | rw [heldIntS_eq (by omega) (by omega) (by omega) (by omega)] | rw [specSwapAll_eq (by omega) (by omega) (by omega) (by omega) (by omega)] | rw [implSwapAll_eq (by omega) (by omega) (by omega) (by omega) (by omega)] | (simp only [Option.bind_some, bne_self_eq_false, if_true, Bool.false_eq_true, if_false])))
          rw [laws_FnExactSwapAll.j1]
          (repeat (first | rw [if_pos rfl] | rw [if_neg Bool.false_ne_true] | rw [ifneg_lt (by omega)] | rw [toIntS_eq (by omega) (by omega)] | rw [eqIntS_refl (by omega) (by omega)] | rw [markIntS_eq (by omega) (by omega) (by omega) (by omega)] | rw [heldIntS_eq (by omega) (by omega) (by omega) (by omega)] | rw [specSwapAll_eq (by omega) (by omega) (by omega) (by omega) (by omega)] | rw [implSwapAll_eq (by omega) (by omega) (by omega) (by omega) (by omega)] | (simp only [Option.bind_some, bne_self_eq_false, if_true, Bool.false_eq_true, if_false])))
          rw [hR]
          (repeat (first | rw [if_pos rfl] | rw [if_neg Bool.false_ne_true] | rw [ifneg_lt (by omega)] | rw [toIntS_eq (by omega) (by omega)] | rw [eqIntS_refl (by omega) (by omega)] | rw [markIntS_eq (by omega) (by omega) (by omega) (by omega)] | rw [heldIntS_eq (by omega) (by omega) (by omega) (by omega)] | rw [specSwapAll_eq (by omega) (by omega) (by omega) (by omega) (by omega)] | rw [implSwapAll_eq (by omega) (by omega) (by omega) (by omega) (by omega)] | (simp only [Option.bind_some, bne_self_eq_false, if_true, Bool.false_eq_true, if_false])))
          rw [laws_FnExactSwapAll.j2]
          (repeat (first | rw [if_pos rfl] | rw [if_neg Bool.false_ne_true] | rw [ifneg_lt (by omega)] | rw [toIntS_eq (by omega) (by omega)] | rw [eqIntS_refl (by omega) (by omega)] | rw [markIntS_eq (by omega) (by omega) (by omega) (by omega)] | rw [heldIntS_eq (by omega) (by omega) (by omega) (by omega)] | rw [specSwapAll_eq (by omega) (by omega) (by omega) (by omega) (by omega)] | rw [implSwapAll_eq (by omega) (by omega) (by omega) (by omega) (by omega)] | (simp only [Option.bind_some, bne_self_eq_false, if_true, Bool.false_eq_true, if_false])))


end Go.Proofs.Ytbhlmgljflggeaa.Pure
