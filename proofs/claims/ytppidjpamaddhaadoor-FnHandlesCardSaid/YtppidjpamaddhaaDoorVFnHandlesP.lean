/- The pure statement of FnHandles and what it needs. Conditions: those that each theorem states. -/
import Derived.Test.YtppidjpamaddhaaDoorVFnHandles4
import Derived.RowKit
namespace Go.Proofs.YtppidjpamaddhaaDoor.PbH
open Go.RowKit Go.Proofs.YtppidjpamaddhaaDoorW.PrintWords

theorem w64 {x : Int} (h0 : -9223372036854775808 ≤ x) (h1 : x ≤ 9223372036854775807) : wrap64 x = x := by
  unfold wrap64
  omega

theorem rd_at (l : List Int) (i : Nat) (h : i < l.length) : rd l (i : Int) = l[i] := by
  simp [rd, List.getD_eq_getElem?_getD, List.getElem?_eq_getElem h]

theorem drop_cons {α : Type} (l : List α) (i : Nat) (h : i < l.length) : l.drop i = l[i] :: l.drop (i + 1) := List.drop_eq_getElem_cons h


end Go.Proofs.YtppidjpamaddhaaDoor.PbH
namespace Go.Proofs.YtppidjpamaddhaaDoor.H
set_option linter.unusedVariables false
set_option linter.unusedSimpArgs false
open Go.RowKit Go.Proofs.YtppidjpamaddhaaDoorW.PrintWords Go.Proofs.YtppidjpamaddhaaDoor.PbH

/-- All of a list within bounds. -/
def inB (a b x : Int) : Bool := decide (a ≤ x) && decide (x ≤ b)

theorem in_eq (x a b : Int) : impl_in.f x a b = some (inB a b x) := by
  unfold impl_in.f inB
  by_cases h : a ≤ x
  · rw [if_pos h, decide_eq_true h, Bool.true_and]
  · rw [if_neg h, decide_eq_false h, Bool.false_and]

theorem index_l0 (l : List Int) (x : Int) (hl : l.length ≤ 4000000) (d : Nat) : ∀ (k i : Nat), i + d = l.length → d < k → ∃ r, slices_Index_int_int.l0 k l x (l.length : Int) (i : Int) = some r ∧ decide (r ≥ 0) = decide (x ∈ l.drop i) := by
  induction d with
  | zero =>
    intro k i hi hk
    obtain ⟨k, rfl⟩ : ∃ m, k = m + 1 := ⟨k - 1, by omega⟩
    refine ⟨-1, ?_, ?_⟩
    · simp only [slices_Index_int_int.l0]
      rw [if_neg (by omega)]
    · rw [List.drop_of_length_le (by omega)]
      simp
  | succ d ih =>
    intro k i hi hk
    obtain ⟨k, rfl⟩ : ∃ m, k = m + 1 := ⟨k - 1, by omega⟩
    simp only [slices_Index_int_int.l0]
    rw [if_pos (by omega), if_pos (by omega), if_pos (by omega), rd_at l i (by omega), drop_cons l i (by omega)]
    by_cases h : x = l[i]
    · rw [if_pos h]
      exact ⟨(i : Int), rfl, by simp [← h]⟩
    · rw [if_neg h, w64 (by omega) (by omega), show ((i : Int) + 1) = ((i + 1 : Nat) : Int) from by omega]
      obtain ⟨r, h1, h2⟩ := ih k (i + 1) (by omega) (by omega)
      exact ⟨r, h1, by rw [h2]; simp [-List.getElem_cons_drop, h]⟩
theorem contains_eq {k : Nat} {l : List Int} {x : Int} (hl : l.length ≤ 4000000) (hk : l.length < k) : slices_Contains_int_int.f k l x = some (decide (x ∈ l)) := by
  unfold slices_Contains_int_int.f slices_Index_int_int.f
  obtain ⟨r, h1, h2⟩ := index_l0 l x hl l.length k 0 (by omega) hk
  rw [show ((0 : Nat) : Int) = 0 from rfl] at h1
  rw [h1, Option.bind_some, h2, List.drop_zero]

/-- A value. -/
def valB (x : Int) : Bool := inB (-1000000000) 1000000000 x
theorem isValue_eq (x : Int) : impl_isValue.f x = some (valB x) := by
  unfold impl_isValue.f valB
  rw [in_eq]
  rfl
theorem areV_l0 (l : List Int) (hl : l.length ≤ 4000000) (d : Nat) : ∀ (k i : Nat), i + d = l.length → d < k → ∃ r, slices_IndexFunc_int_int_F30.l0 k l (l.length : Int) (i : Int) = some r ∧ decide (r ≥ 0) = !((l.drop i).all valB) := by
  induction d with
  | zero =>
    intro k i hi hk
    obtain ⟨k, rfl⟩ : ∃ m, k = m + 1 := ⟨k - 1, by omega⟩
    refine ⟨-1, ?_, ?_⟩
    · simp only [slices_IndexFunc_int_int_F30.l0]
      rw [if_neg (by omega)]
    · rw [List.drop_of_length_le (by omega)]
      simp
  | succ d ih =>
    intro k i hi hk
    obtain ⟨k, rfl⟩ : ∃ m, k = m + 1 := ⟨k - 1, by omega⟩
    simp only [slices_IndexFunc_int_int_F30.l0, impl_areValues_1.f, isValue_eq, Option.bind_some]
    rw [if_pos (by omega), if_pos (by omega), if_pos (by omega), rd_at l i (by omega), drop_cons l i (by omega), List.all_cons]
    cases h : valB l[i] with
    | false =>
      rw [if_pos (by rfl)]
      refine ⟨(i : Int), rfl, ?_⟩
      rw [decide_eq_true (by omega)]
      rfl
    | true =>
      rw [if_neg (by decide), w64 (by omega) (by omega), show ((i : Int) + 1) = ((i + 1 : Nat) : Int) from by omega]
      obtain ⟨r, h1, h2⟩ := ih k (i + 1) (by omega) (by omega)
      exact ⟨r, h1, by rw [h2]; rfl⟩
theorem areValues_eq {k : Nat} {l : List Int} (hl : l.length ≤ 4000000) (hk : l.length < k) : impl_areValues.f k l = some (l.all valB) := by
  unfold impl_areValues.f slices_ContainsFunc_int_int_F30.f slices_IndexFunc_int_int_F30.f
  obtain ⟨r, h1, h2⟩ := areV_l0 l hl l.length k 0 (by omega) hk
  rw [show ((0 : Nat) : Int) = 0 from rfl] at h1
  rw [h1, Option.bind_some, Option.bind_some, h2, List.drop_zero, Bool.not_not]


end Go.Proofs.YtppidjpamaddhaaDoor.H
namespace Go.Proofs.YtppidjpamaddhaaDoor.H
set_option linter.unusedVariables false
set_option linter.unusedSimpArgs false
open Go.RowKit Go.Proofs.YtppidjpamaddhaaDoorW.PrintWords Go.Proofs.YtppidjpamaddhaaDoor.PbH

theorem rdB_set (l : List S46) (i : Nat) (y : S46) (h : i < l.length) : rd_T46 (l.set i y) (i : Int) = y := by
  simp [rd_T46, List.getD_eq_getElem?_getD, h]
theorem w12 : wrap64 ((1 : Int) + 1) = 2 := w64 (by decide) (by decide)
theorem w23 : wrap64 ((2 : Int) + 1) = 3 := w64 (by decide) (by decide)

end Go.Proofs.YtppidjpamaddhaaDoor.H
namespace Go.Proofs.YtppidjpamaddhaaDoor.H
set_option linter.unusedVariables false
set_option linter.unusedSimpArgs false
open Go.RowKit Go.Proofs.YtppidjpamaddhaaDoorW.PrintWords Go.Proofs.YtppidjpamaddhaaDoor.PbH

def okB (b : S46) : Bool := inB 0 5 b.f0 && (!(!b.f1 && b.f0 == 5) && (valB b.f2.f0 && (valB b.f2.f1 && valB b.f2.f2)))
def listedB (b : S46) : Bool := b.f1 && decide (b.f0 < 5)
theorem isListed_eq (b : S46) : impl_isListed.f b.f0 b.f1 b.f2.f0 b.f2.f1 b.f2.f2 = some (listedB b) := by
  unfold impl_isListed.f listedB
  cases b.f1 <;> simp
/-- The list from place j on. -/
def lsR (B : List S46) (L : List Int) (c : Int) : Nat → Nat → Bool
  | _, 0 => (L.length : Int) == c
  | j, d + 1 => inB 0 ((B.length : Int) - 1) (rd L j) && (listedB (rd_T46 B (rd L j)) && (!decide (rd L j ∈ L.take j) && lsR B L c (j + 1) d))
/-- The blocks from i on, then the list. -/
def arR (B : List S46) (L : List Int) : Nat → Nat → Int → Bool
  | _, 0, c => lsR B L c 0 L.length
  | i, d + 1, c => okB (rd_T46 B i) && arR B L (i + 1) d (if listedB (rd_T46 B i) = true then c + 1 else c)
def arOk (B : List S46) (L : List Int) : Bool := inB 1 24 (B.length : Int) && arR B L 0 B.length 0
theorem inB_iff {a b x : Int} : inB a b x = true ↔ a ≤ x ∧ x ≤ b := by
  unfold inB
  simp
theorem implArena_l1 (B : List S46) (L : List Int) (c : Int) (hB : B.length ≤ 4000000) (hL : L.length ≤ 4000000) (d : Nat) : ∀ (k j : Nat), j + d = L.length → d + L.length < k → impl_ArenaOk.l1 k c L (L.length : Int) (j : Int) B L = some (lsR B L c j d) := by
  induction d with
  | zero =>
    intro k j hj hk
    obtain ⟨k, rfl⟩ : ∃ m, k = m + 1 := ⟨k - 1, by omega⟩
    rw [impl_ArenaOk.l1, if_neg (by omega)]
    rfl
  | succ d ih =>
    intro k j hj hk
    obtain ⟨k, rfl⟩ : ∃ m, k = m + 1 := ⟨k - 1, by omega⟩
    have ih1 := ih k (j + 1) (by omega) (by omega)
    rw [impl_ArenaOk.l1, if_pos (by omega), if_pos (by omega), if_pos (by omega), w64 (x := (B.length : Int) - 1) (by omega) (by omega), in_eq, Option.bind_some]
    simp only [lsR]
    cases h : inB 0 ((B.length : Int) - 1) (rd L j) with
    | false => rw [if_neg Bool.false_ne_true, Bool.false_and]
    | true =>
      have h1 := inB_iff.1 h
      rw [if_pos rfl, Bool.true_and, if_pos (by omega), if_pos (by omega), isListed_eq, Option.bind_some]
      cases listedB (rd_T46 B (rd L j)) with
      | false => rw [if_neg Bool.false_ne_true, Bool.false_and]
      | true =>
        rw [if_pos rfl, Bool.true_and, if_pos (by omega), Int.toNat_natCast, contains_eq (by rw [List.length_take]; omega) (by rw [List.length_take]; omega), Option.bind_some]
        cases decide (rd L j ∈ L.take j) with
        | true => rw [if_pos rfl]; rfl
        | false => rw [if_neg Bool.false_ne_true, w64 (by omega) (by omega), show ((j : Int) + 1) = ((j + 1 : Nat) : Int) from by omega, ih1]; rfl
theorem implArena_l0 (B : List S46) (L : List Int) (hB : B.length ≤ 4000000) (hL : L.length ≤ 4000000) (d : Nat) : ∀ (k i : Nat) (c : Int), i + d = B.length → 2 * d + 2 * L.length + 4 < k → 0 ≤ c → c ≤ i → impl_ArenaOk.l0 k c B (B.length : Int) (i : Int) B L = some (arR B L i d c) := by
  induction d with
  | zero =>
    intro k i c hi hk h0 h1
    obtain ⟨k, rfl⟩ : ∃ m, k = m + 1 := ⟨k - 1, by omega⟩
    have h := implArena_l1 B L c hB hL L.length k 0 (by omega) (by omega)
    rw [impl_ArenaOk.l0, if_neg (by omega)]
    exact h
  | succ d ih =>
    intro k i c hi hk h0 h1
    obtain ⟨k, rfl⟩ : ∃ m, k = m + 2 := ⟨k - 2, by omega⟩
    have ihA := ih k (i + 1) (c + 1) (by omega) (by omega) (by omega) (by omega)
    have ihB := ih k (i + 1) c (by omega) (by omega) (by omega) (by omega)
    have j1f : ∀ x : S46, impl_ArenaOk.j1 (k + 1) c B (B.length : Int) (i : Int) true B L x.f0 x.f1 x.f2.f0 x.f2.f1 x.f2.f2 = some false := by
      intro x
      rw [impl_ArenaOk.j1, if_pos rfl]
    have j1t : ∀ x : S46, impl_ArenaOk.j1 (k + 1) c B (B.length : Int) (i : Int) false B L x.f0 x.f1 x.f2.f0 x.f2.f1 x.f2.f2 = some (arR B L (i + 1) d (if listedB x = true then c + 1 else c)) := by
      intro x
      rw [impl_ArenaOk.j1, if_neg Bool.false_ne_true, isListed_eq, Option.bind_some, w64 (x := c + 1) (by omega) (by omega), w64 (x := (i : Int) + 1) (by omega) (by omega), show ((i : Int) + 1) = ((i + 1 : Nat) : Int) from by omega, ihA, ihB]
      split <;> rfl
    rw [impl_ArenaOk.l0, if_pos (by omega), if_pos (by omega), if_pos (by omega), in_eq, Option.bind_some]
    simp only [arR]
    generalize rd_T46 B (i : Int) = x
    rw [areValues_eq (by simp) (by simp; omega), Option.bind_some, j1f]
    have hv : ([x.f2.f0, x.f2.f1, x.f2.f2] : List Int).all valB = (valB x.f2.f0 && (valB x.f2.f1 && valB x.f2.f2)) := by simp [Bool.and_assoc]
    rw [hv]
    unfold okB
    cases inB 0 5 x.f0 with
    | false => rw [if_neg Bool.false_ne_true, Bool.false_and, Bool.false_and]
    | true =>
      rw [if_pos rfl, Bool.true_and]
      have hv2 : impl_ArenaOk.j1 (k + 1) c B (B.length : Int) (i : Int) (!(valB x.f2.f0 && (valB x.f2.f1 && valB x.f2.f2))) B L x.f0 x.f1 x.f2.f0 x.f2.f1 x.f2.f2 = some ((valB x.f2.f0 && (valB x.f2.f1 && valB x.f2.f2)) && arR B L (i + 1) d (if listedB x = true then c + 1 else c)) := by
        cases (valB x.f2.f0 && (valB x.f2.f1 && valB x.f2.f2)) with
        | false => rw [Bool.not_false, j1f, Bool.false_and]
        | true => rw [Bool.not_true, j1t, Bool.true_and]
      rw [hv2]
      cases h1 : x.f1 with
      | true => rw [if_pos rfl, Bool.not_true, Bool.false_and, Bool.not_false, Bool.true_and]
      | false =>
        rw [if_neg Bool.false_ne_true]
        by_cases h5 : x.f0 = 5
        · rw [if_pos h5, h5]
          rfl
        · rw [if_neg h5, Bool.not_false, Bool.true_and, show (x.f0 == 5) = false from by simpa using h5, Bool.not_false, Bool.true_and]
theorem implArena_eq {k : Nat} {B : List S46} {L : List Int} (hB : B.length ≤ 4000000) (hL : L.length ≤ 4000000) (hk : 2 * B.length + 2 * L.length + 4 < k) : impl_ArenaOk.f k B L = some (arOk B L) := by
  unfold impl_ArenaOk.f arOk
  rw [in_eq, Option.bind_some]
  have h := implArena_l0 B L hB hL B.length k 0 0 (by omega) hk (by omega) (by omega)
  rw [show ((0 : Nat) : Int) = 0 from rfl] at h
  cases inB 1 24 (B.length : Int) with
  | false => rw [if_neg Bool.false_ne_true, Bool.false_and]
  | true => rw [if_pos rfl, Bool.true_and, h]

end Go.Proofs.YtppidjpamaddhaaDoor.H
namespace Go.Proofs.YtppidjpamaddhaaDoor.H
set_option linter.unusedVariables false
set_option linter.unusedSimpArgs false
open Go.RowKit Go.Proofs.YtppidjpamaddhaaDoorW.PrintWords Go.Proofs.YtppidjpamaddhaaDoor.PbH

/-- The listed places from i on. -/
def lpR (B : List S46) : Nat → Nat → List Int
  | _, 0 => []
  | i, d + 1 => if listedB (rd_T46 B i) = true then (i : Int) :: lpR B (i + 1) d else lpR B (i + 1) d
theorem arR_true (B : List S46) (L : List Int) (d : Nat) : ∀ (i : Nat) (c : Int), arR B L i d c = true → lsR B L (c + ((lpR B i d).length : Int)) 0 L.length = true ∧ ∀ m : Nat, i ≤ m → m < i + d → okB (rd_T46 B m) = true := by
  induction d with
  | zero =>
    intro i c h
    simp only [arR] at h
    refine ⟨?_, fun m h1 h2 => by omega⟩
    simpa [lpR] using h
  | succ d ih =>
    intro i c h
    simp only [arR, Bool.and_eq_true] at h
    have h1 := ih (i + 1) _ h.2
    refine ⟨?_, fun m hm1 hm2 => ?_⟩
    · have h2 := h1.1
      simp only [lpR]
      by_cases hl : listedB (rd_T46 B i) = true
      · rw [if_pos hl] at h2 ⊢
        rw [List.length_cons, show c + (((lpR B (i + 1) d).length + 1 : Nat) : Int) = c + 1 + ((lpR B (i + 1) d).length : Int) from by omega]
        exact h2
      · rw [if_neg hl] at h2 ⊢
        exact h2
    · by_cases e : m = i
      · rw [e]; exact h.1
      · exact h1.2 m (by omega) (by omega)
theorem lsR_true (B : List S46) (L : List Int) (c : Int) (d : Nat) : ∀ (j : Nat), j + d = L.length → lsR B L c j d = true → (L.length : Int) = c ∧ ∀ m : Nat, j ≤ m → m < L.length → inB 0 ((B.length : Int) - 1) (rd L m) = true ∧ listedB (rd_T46 B (rd L m)) = true ∧ ¬ rd L m ∈ L.take m := by
  induction d with
  | zero =>
    intro j hj h
    simp only [lsR] at h
    exact ⟨by simpa using h, fun m h1 h2 => by omega⟩
  | succ d ih =>
    intro j hj h
    simp only [lsR, Bool.and_eq_true] at h
    have h1 := ih (j + 1) (by omega) h.2.2.2
    refine ⟨h1.1, fun m hm1 hm2 => ?_⟩
    by_cases e : m = j
    · rw [e]
      exact ⟨h.1, h.2.1, by simpa using h.2.2.1⟩
    · exact h1.2 m (by omega) hm2
/-- What ArenaOk says. -/
theorem arOk_true {B : List S46} {L : List Int} (h : arOk B L = true) : (1 ≤ (B.length : Int) ∧ (B.length : Int) ≤ 24) ∧ (∀ m : Nat, m < B.length → okB (rd_T46 B m) = true) ∧ (∀ m : Nat, m < L.length → inB 0 ((B.length : Int) - 1) (rd L m) = true ∧ listedB (rd_T46 B (rd L m)) = true ∧ ¬ rd L m ∈ L.take m) ∧ L.length = (lpR B 0 B.length).length := by
  unfold arOk at h
  simp only [Bool.and_eq_true] at h
  have h1 := arR_true B L B.length 0 0 h.2
  have h2 := lsR_true B L _ L.length 0 (by omega) h1.1
  refine ⟨inB_iff.1 h.1, fun m hm => h1.2 m (by omega) (by omega), fun m hm => h2.2 m (by omega) hm, ?_⟩
  have h3 := h2.1
  omega
theorem gen_rng {B : List S46} {L : List Int} (h : arOk B L = true) {x : Int} (h0 : 0 ≤ x) (h1 : x < (B.length : Int)) : 0 ≤ (rd_T46 B x).f0 ∧ (rd_T46 B x).f0 ≤ 5 := by
  have h2 := (arOk_true h).2.1 x.toNat (by omega)
  rw [Int.toNat_of_nonneg h0] at h2
  unfold okB at h2
  simp only [Bool.and_eq_true] at h2
  exact inB_iff.1 h2.1


end Go.Proofs.YtppidjpamaddhaaDoor.H
namespace Go.Proofs.YtppidjpamaddhaaDoor.H
set_option linter.unusedVariables false
set_option linter.unusedSimpArgs false
open Go.RowKit Go.Proofs.YtppidjpamaddhaaDoorW.PrintWords Go.Proofs.YtppidjpamaddhaaDoor.PbH

theorem w8 {h : Int} (h0 : 0 ≤ h) (h1 : h ≤ 9223372036854775807) : wrap64 (Int.tdiv h 8) = h / 8 := by
  rw [Int.tdiv_eq_ediv_of_nonneg h0, w64 (by omega) (by omega)]
def liveB (B : List S46) (L : List Int) (h : Int) : Bool := arOk B L && (inB 0 (8 * (B.length : Int) - 1) h && (!(rd_T46 B (h / 8)).f1 && ((rd_T46 B (h / 8)).f0 == h % 8)))
theorem implLive_eq {k : Nat} {B : List S46} {L : List Int} {h : Int} (hB : B.length ≤ 4000000) (hL : L.length ≤ 4000000) (hk : 2 * B.length + 2 * L.length + 4 < k) : impl_Live.f k B L h = some (liveB B L h) := by
  unfold impl_Live.f liveB
  rw [implArena_eq hB hL hk, Option.bind_some, w64 (x := 8 * (B.length : Int)) (by omega) (by omega), w64 (x := 8 * (B.length : Int) - 1) (by omega) (by omega), in_eq, Option.bind_some]
  cases arOk B L with
  | false => rw [if_neg Bool.false_ne_true, Bool.false_and]
  | true =>
    rw [if_pos rfl, Bool.true_and]
    cases hi : inB 0 (8 * (B.length : Int) - 1) h with
    | false => rw [if_neg Bool.false_ne_true, Bool.false_and]
    | true =>
      have h1 := inB_iff.1 hi
      rw [if_pos rfl, Bool.true_and, w8 h1.1 (by omega), Int.tmod_eq_emod_of_nonneg h1.1, if_pos (by omega), if_pos (by omega)]
      cases (rd_T46 B (h / 8)).f1 <;> rfl
theorem liveB_rng {B : List S46} {L : List Int} {h : Int} (hb : liveB B L h = true) : 0 ≤ h ∧ h ≤ 8 * (B.length : Int) - 1 := by
  unfold liveB at hb
  simp only [Bool.and_eq_true] at hb
  exact inB_iff.1 hb.2.1
theorem liveB_gen {B : List S46} {L : List Int} {h : Int} (hb : liveB B L h = true) : (rd_T46 B (h / 8)).f0 = h % 8 := by
  unfold liveB at hb
  simp only [Bool.and_eq_true] at hb
  exact by simpa using hb.2.2.2

theorem own_eq {l : List Int} (hl : l.length ≤ 4000000) : impl_own.f l = some l := by
  unfold impl_own.f
  rw [Option.bind_some, if_pos (by simp only [List.length_nil]; omega), List.nil_append]
theorem ownArena_eq {B : List S46} {L : List Int} (hB : B.length ≤ 4000000) (hL : L.length ≤ 4000000) : impl_ownArena.f B L = some (B, L) := by
  unfold impl_ownArena.f
  rw [Option.bind_some, if_pos (by simp only [List.length_nil]; omega), own_eq hL, Option.bind_some, List.nil_append]

end Go.Proofs.YtppidjpamaddhaaDoor.H
namespace Go.Proofs.YtppidjpamaddhaaDoor.H
set_option linter.unusedVariables false
set_option linter.unusedSimpArgs false
open Go.RowKit Go.Proofs.YtppidjpamaddhaaDoorW.PrintWords Go.Proofs.YtppidjpamaddhaaDoor.PbH

def takeR (B : List S46) (L : List Int) : List S46 × List Int × Int × Bool :=
  if arOk B L = true then (if (L.length : Int) = 0 then (B, L, -1, false) else (B.set (rd L 0).toNat ⟨(rd_T46 B (rd L 0)).f0, false, ⟨0, 0, 0⟩⟩, L.drop 1, 8 * rd L 0 + (rd_T46 B (rd L 0)).f0, true)) else (B, L, -1, false)
theorem implTake_eq {k : Nat} {B : List S46} {L : List Int} (hB : B.length ≤ 4000000) (hL : L.length ≤ 4000000) (hk : 2 * B.length + 2 * L.length + 4 < k) : impl_Take.f k B L = some (takeR B L) := by
  unfold impl_Take.f takeR
  rw [ownArena_eq hB hL, Option.bind_some, implArena_eq hB hL hk, Option.bind_some]
  cases ha : arOk B L with
  | false => rw [if_neg Bool.false_ne_true, if_neg Bool.false_ne_true]
  | true =>
    rw [if_pos rfl, if_pos rfl]
    by_cases h0 : (L.length : Int) = 0
    · rw [if_pos h0, if_pos h0]
    · have h1 := inB_iff.1 ((arOk_true ha).2.2.1 0 (by omega)).1
      rw [show ((0 : Nat) : Int) = 0 from rfl] at h1
      have h2 := gen_rng ha h1.1 (show rd L 0 < (B.length : Int) by omega)
      rw [if_neg h0, if_neg h0, if_pos (by omega), if_pos (by simp only []; omega), if_pos h1.1, if_pos (by omega), if_pos (by simp only []; omega), w64 (x := 8 * rd L 0) (by omega) (by omega), w64 (by omega) (by omega)]
      rfl

end Go.Proofs.YtppidjpamaddhaaDoor.H
namespace Go.Proofs.YtppidjpamaddhaaDoor.H
set_option linter.unusedVariables false
set_option linter.unusedSimpArgs false
open Go.RowKit Go.Proofs.YtppidjpamaddhaaDoorW.PrintWords Go.Proofs.YtppidjpamaddhaaDoor.PbH

def giveR (B : List S46) (L : List Int) (h : Int) : List S46 × List Int × Bool :=
  if liveB B L h = true then (B.set (h / 8).toNat ⟨(rd_T46 B (h / 8)).f0 + 1, true, (rd_T46 B (h / 8)).f2⟩, if (rd_T46 B (h / 8)).f0 + 1 < 5 then [h / 8] ++ L else L, true) else (B, L, false)
theorem rdB_setI {B : List S46} {q : Int} (y : S46) (h0 : 0 ≤ q) (h1 : q < (B.length : Int)) : rd_T46 (B.set q.toNat y) q = y := by
  have h := rdB_set B q.toNat y (by omega)
  rw [Int.toNat_of_nonneg h0] at h
  exact h
theorem implGive_eq {k : Nat} {B : List S46} {L : List Int} {h : Int} (hB : B.length ≤ 4000000) (hL : L.length ≤ 4000000) (hk : 2 * B.length + 2 * L.length + 4 < k) : impl_Give.f k B L h = some (giveR B L h) := by
  unfold impl_Give.f giveR
  rw [ownArena_eq hB hL, Option.bind_some, implLive_eq hB hL hk, Option.bind_some]
  cases hb : liveB B L h with
  | false => rw [if_neg Bool.false_ne_true, if_neg Bool.false_ne_true]
  | true =>
    have h1 := liveB_rng hb
    have h2 := liveB_gen hb
    rw [if_pos rfl, if_pos rfl, w8 h1.1 (by omega), if_pos (by omega), if_pos (by simp only []; omega), Option.bind_some, Option.bind_some]
    simp only [rdB_setI _ (show 0 ≤ h / 8 by omega) (show h / 8 < (B.length : Int) by omega), List.set_set, Option.bind_some]
    rw [w64 (x := (rd_T46 B (h / 8)).f0 + 1) (by omega) (by omega)]
    rw [isListed_eq (⟨(rd_T46 B (h / 8)).f0 + 1, true, (rd_T46 B (h / 8)).f2⟩), Option.bind_some]
    by_cases h3 : (rd_T46 B (h / 8)).f0 + 1 < 5
    · rw [if_pos (by simp [listedB, h3]), if_pos h3, if_pos (by simp; omega)]
    · rw [if_neg (by simp [listedB, h3]), if_neg h3]

end Go.Proofs.YtppidjpamaddhaaDoor.H
namespace Go.Proofs.YtppidjpamaddhaaDoor.H
set_option linter.unusedVariables false
set_option linter.unusedSimpArgs false
open Go.RowKit Go.Proofs.YtppidjpamaddhaaDoorW.PrintWords Go.Proofs.YtppidjpamaddhaaDoor.PbH

def setW (b : S46) (a v : Int) : S46 := ⟨b.f0, b.f1, if a = 0 then ⟨v, b.f2.f1, b.f2.f2⟩ else if a = 1 then ⟨b.f2.f0, v, b.f2.f2⟩ else ⟨b.f2.f0, b.f2.f1, v⟩⟩
def putR (B : List S46) (L : List Int) (h a v : Int) : List S46 × List Int × Bool :=
  if liveB B L h = true then (if inB 0 2 a = true then (if valB v = true then (B.set (h / 8).toNat (setW (rd_T46 B (h / 8)) a v), L, true) else (B, L, false)) else (B, L, false)) else (B, L, false)
theorem implPut_eq {k : Nat} {B : List S46} {L : List Int} {h a v : Int} (hB : B.length ≤ 4000000) (hL : L.length ≤ 4000000) (hk : 2 * B.length + 2 * L.length + 4 < k) : impl_Put.f k B L h a v = some (putR B L h a v) := by
  unfold impl_Put.f putR
  rw [ownArena_eq hB hL, Option.bind_some, implLive_eq hB hL hk, Option.bind_some, in_eq, Option.bind_some, isValue_eq, Option.bind_some]
  cases hb : liveB B L h with
  | false => rw [if_neg Bool.false_ne_true, if_neg Bool.false_ne_true]
  | true =>
    have h1 := liveB_rng hb
    rw [if_pos rfl, if_pos rfl]
    cases ha : inB 0 2 a with
    | false => rw [if_neg Bool.false_ne_true, if_neg Bool.false_ne_true]
    | true =>
      have h2 := inB_iff.1 ha
      rw [if_pos rfl, if_pos rfl]
      cases valB v with
      | false => rw [if_neg Bool.false_ne_true, if_neg Bool.false_ne_true]
      | true =>
        rw [if_pos rfl, if_pos rfl, w8 h1.1 (by omega), if_pos (by omega), if_pos (by simp only []; omega)]
        unfold setW
        by_cases e0 : a = 0
        · rw [if_pos e0, if_pos e0]
        · by_cases e1 : a = 1
          · rw [if_neg e0, if_neg e0, if_pos e1, if_pos e1]
          · rw [if_neg e0, if_neg e0, if_neg e1, if_neg e1, if_pos (by omega)]

end Go.Proofs.YtppidjpamaddhaaDoor.H
namespace Go.Proofs.YtppidjpamaddhaaDoor.H
set_option linter.unusedVariables false
set_option linter.unusedSimpArgs false
open Go.RowKit Go.Proofs.YtppidjpamaddhaaDoorW.PrintWords Go.Proofs.YtppidjpamaddhaaDoor.PbH

/-- The spent blocks from i on. -/
def spR (B : List S46) : Nat → Nat → Int → Int
  | _, 0, c => c
  | i, d + 1, c => spR B (i + 1) d (if (rd_T46 B i).f1 = true ∧ (rd_T46 B i).f0 = 5 then c + 1 else c)
def spentR (B : List S46) (L : List Int) : Int := if arOk B L = true then spR B 0 B.length 0 else -1
theorem implSpent_l0 (B : List S46) (hB : B.length ≤ 4000000) (d : Nat) : ∀ (k i : Nat) (c : Int), i + d = B.length → d < k → 0 ≤ c → c ≤ i → impl_Spent.l0 k c B (B.length : Int) (i : Int) = some (spR B i d c) := by
  induction d with
  | zero =>
    intro k i c hi hk h0 h1
    obtain ⟨k, rfl⟩ : ∃ m, k = m + 1 := ⟨k - 1, by omega⟩
    rw [impl_Spent.l0, if_neg (by omega)]
    rfl
  | succ d ih =>
    intro k i c hi hk h0 h1
    obtain ⟨k, rfl⟩ : ∃ m, k = m + 1 := ⟨k - 1, by omega⟩
    have ihA := ih k (i + 1) (c + 1) (by omega) (by omega) (by omega) (by omega)
    have ihB := ih k (i + 1) c (by omega) (by omega) (by omega) (by omega)
    rw [impl_Spent.l0, if_pos (by omega), if_pos (by omega), if_pos (by omega), w64 (x := c + 1) (by omega) (by omega), w64 (x := (i : Int) + 1) (by omega) (by omega), show ((i : Int) + 1) = ((i + 1 : Nat) : Int) from by omega, ihA, ihB]
    simp only [spR]
    by_cases h2 : (rd_T46 B i).f1 = true
    · by_cases h3 : (rd_T46 B i).f0 = 5
      · rw [if_pos h2, if_pos h3, if_pos ⟨h2, h3⟩]
      · rw [if_pos h2, if_neg h3, if_neg (fun e => h3 e.2)]
    · rw [if_neg h2, if_neg (fun e => h2 e.1)]
theorem implSpent_eq {k : Nat} {B : List S46} {L : List Int} (hB : B.length ≤ 4000000) (hL : L.length ≤ 4000000) (hk : 2 * B.length + 2 * L.length + 4 < k) : impl_Spent.f k B L = some (spentR B L) := by
  unfold impl_Spent.f spentR
  have h := implSpent_l0 B hB B.length k 0 0 (by omega) (by omega) (by omega) (by omega)
  rw [show ((0 : Nat) : Int) = 0 from rfl] at h
  rw [implArena_eq hB hL hk, Option.bind_some, h]
  split <;> rfl
def wordB (b : S46) (a : Int) : Int := if a = 0 then b.f2.f0 else if a = 1 then b.f2.f1 else b.f2.f2
def getR (B : List S46) (L : List Int) (h a : Int) : Int × Bool := if liveB B L h = true then (if inB 0 2 a = true then (wordB (rd_T46 B (h / 8)) a, true) else (0, false)) else (0, false)
theorem implGet_eq {k : Nat} {B : List S46} {L : List Int} {h a : Int} (hB : B.length ≤ 4000000) (hL : L.length ≤ 4000000) (hk : 2 * B.length + 2 * L.length + 4 < k) : impl_Get.f k B L h a = some (getR B L h a) := by
  unfold impl_Get.f getR
  rw [implLive_eq hB hL hk, Option.bind_some, in_eq, Option.bind_some]
  cases hb : liveB B L h with
  | false => rw [if_neg Bool.false_ne_true, if_neg Bool.false_ne_true]
  | true =>
    have h1 := liveB_rng hb
    rw [if_pos rfl, if_pos rfl]
    cases ha : inB 0 2 a with
    | false => rw [if_neg Bool.false_ne_true, if_neg Bool.false_ne_true]
    | true =>
      have h2 := inB_iff.1 ha
      rw [if_pos rfl, if_pos rfl, w8 h1.1 (by omega), if_pos (by omega), if_pos (by omega)]
      unfold wordB
      by_cases e0 : a = 0
      · rw [if_pos e0, if_pos e0]
      · by_cases e1 : a = 1
        · rw [if_neg e0, if_neg e0, if_pos e1, if_pos e1]
        · rw [if_neg e0, if_neg e0, if_neg e1, if_neg e1, if_pos (by omega)]

end Go.Proofs.YtppidjpamaddhaaDoor.H
namespace Go.Proofs.YtppidjpamaddhaaDoor.H
set_option linter.unusedVariables false
set_option linter.unusedSimpArgs false
open Go.RowKit Go.Proofs.YtppidjpamaddhaaDoorW.PrintWords Go.Proofs.YtppidjpamaddhaaDoor.PbH

/-- Free blocks and their places from i on. -/
def nwB : Nat → List S46
  | 0 => []
  | d + 1 => ⟨0, true, ⟨0, 0, 0⟩⟩ :: nwB d
def nwL : Nat → Nat → List Int
  | _, 0 => []
  | i, d + 1 => (i : Int) :: nwL (i + 1) d
theorem nwB_len : ∀ d, (nwB d).length = d
  | 0 => rfl
  | d + 1 => by simp [nwB, nwB_len d]
theorem nwL_len : ∀ d i, (nwL i d).length = d
  | 0, _ => rfl
  | d + 1, i => by simp [nwL, nwL_len d]
def newR (n : Int) : List S46 × List Int × Bool := if inB 1 24 n = true then (nwB n.toNat, nwL 0 n.toNat, true) else ([], [], false)
theorem implNew_l0 (n : Int) (hn : n ≤ 24) (d : Nat) : ∀ (k i : Nat) (P : List S46) (Q : List Int), (i : Int) + d = n → d < k → P.length = i → Q.length = i → impl_NewArena.l0 k n (i : Int) P Q = some (P ++ nwB d, Q ++ nwL i d, true) := by
  induction d with
  | zero =>
    intro k i P Q hi hk hP hQ
    obtain ⟨k, rfl⟩ : ∃ m, k = m + 1 := ⟨k - 1, by omega⟩
    rw [impl_NewArena.l0, if_neg (by omega)]
    simp [nwB, nwL]
  | succ d ih =>
    intro k i P Q hi hk hP hQ
    obtain ⟨k, rfl⟩ : ∃ m, k = m + 1 := ⟨k - 1, by omega⟩
    rw [impl_NewArena.l0, if_pos (by omega), if_pos (by omega), if_pos (by omega), w64 (by omega) (by omega), show ((i : Int) + 1) = ((i + 1 : Nat) : Int) from by omega, ih k (i + 1) _ _ (by omega) (by omega) (by simp [hP]) (by simp [hQ])]
    simp [nwB, nwL, List.append_assoc]
theorem implNew_eq {k : Nat} {n : Int} (hk : 24 < k) : impl_NewArena.f k n = some (newR n) := by
  unfold impl_NewArena.f newR
  rw [in_eq, Option.bind_some]
  cases h : inB 1 24 n with
  | false => rw [if_neg Bool.false_ne_true, if_neg Bool.false_ne_true]
  | true =>
    have h1 := inB_iff.1 h
    have h2 := implNew_l0 n h1.2 n.toNat k 0 [] [] (by omega) (by omega) rfl rfl
    rw [show ((0 : Nat) : Int) = 0 from rfl] at h2
    rw [if_pos rfl, if_pos rfl, h2]
    rfl


end Go.Proofs.YtppidjpamaddhaaDoor.H
namespace Go.Proofs.YtppidjpamaddhaaDoor.H
set_option linter.unusedVariables false
set_option linter.unusedSimpArgs false
open Go.RowKit Go.Proofs.YtppidjpamaddhaaDoorW.PrintWords Go.Proofs.YtppidjpamaddhaaDoor.PbH

theorem rdT_nat (B : List S46) (i : Nat) (h : i < B.length) : rd_T46 B (i : Int) = B[i] := by
  simp [rd_T46, List.getD_eq_getElem?_getD, List.getElem?_eq_getElem h]
theorem rdT_mem (B : List S46) {x : Int} (h0 : 0 ≤ x) (h1 : x < (B.length : Int)) : rd_T46 B x ∈ B := by
  obtain ⟨i, rfl⟩ := Int.eq_ofNat_of_zero_le h0
  rw [rdT_nat B i (by omega)]
  exact List.getElem_mem _
theorem rdT_ne (B : List S46) {x q : Int} (y : S46) (h0 : 0 ≤ x) (hq : 0 ≤ q) (h : x ≠ q) : rd_T46 (B.set q.toNat y) x = rd_T46 B x := by
  simp only [rd_T46, List.getD_eq_getElem?_getD]
  rw [List.getElem?_set_ne (by omega)]
def nonB (b : S46) : Bool := !b.f1
def spB (b : S46) : Bool := b.f1 && (b.f0 == 5)
theorem cnt_set (p : S46 → Bool) (B : List S46) {q : Int} (y : S46) (h0 : 0 ≤ q) (h1 : q < (B.length : Int)) : (B.set q.toNat y).countP p + (if p (rd_T46 B q) = true then 1 else 0) = B.countP p + (if p y = true then 1 else 0) := by
  obtain ⟨i, rfl⟩ := Int.eq_ofNat_of_zero_le h0
  rw [rdT_nat B i (by omega), Int.toNat_natCast, List.countP_set (by omega)]
  have h : (if p B[i] = true then 1 else 0) ≤ B.countP p := by
    split
    · next hp => exact List.countP_pos_iff.2 ⟨_, List.getElem_mem _, hp⟩
    · exact Nat.zero_le _
  omega
theorem okB_iff (b : S46) : okB b = true ↔ (0 ≤ b.f0 ∧ b.f0 ≤ 5) ∧ (b.f1 = false → b.f0 ≠ 5) ∧ valB b.f2.f0 = true ∧ valB b.f2.f1 = true ∧ valB b.f2.f2 = true := by
  unfold okB
  simp only [Bool.and_eq_true, inB_iff]
  constructor
  · rintro ⟨h1, h2, h3⟩
    exact ⟨h1, fun h e => by rw [h, e] at h2; simp at h2, h3⟩
  · rintro ⟨h1, h2, h3⟩
    refine ⟨h1, ?_, h3⟩
    cases hf : b.f1 with
    | true => rfl
    | false => have := h2 hf; simp [this]
theorem cnt3 : ∀ (B : List S46), (∀ b ∈ B, okB b = true) → B.countP nonB + B.countP listedB + B.countP spB = B.length
  | [], _ => rfl
  | b :: B, h => by
    have ih := cnt3 B (fun x hx => h x (List.mem_cons_of_mem _ hx))
    have hb := (okB_iff b).1 (h b (by simp))
    simp only [List.countP_cons, List.length_cons]
    have : (if nonB b = true then 1 else 0) + (if listedB b = true then 1 else 0) + (if spB b = true then 1 else 0) = 1 := by
      unfold nonB listedB spB
      cases hf : b.f1 with
      | false => simp
      | true =>
        by_cases h5 : b.f0 = 5
        · simp [h5]
        · have h6 : b.f0 < 5 := by omega
          simp [h5, h6]
    omega
theorem spR_eq (B : List S46) (d : Nat) : ∀ (i : Nat) (c : Int), i + d = B.length → spR B i d c = c + ((B.drop i).countP spB : Nat) := by
  induction d with
  | zero => intro i c h; rw [spR, List.drop_eq_nil_of_le (by omega)]; simp
  | succ d ih =>
    intro i c h
    rw [spR, ih (i + 1) _ (by omega), rdT_nat B i (by omega), List.drop_eq_getElem_cons (by omega : i < B.length), List.countP_cons]
    have : (spB B[i] = true) ↔ (B[i].f1 = true ∧ B[i].f0 = 5) := by unfold spB; simp
    by_cases hp : spB B[i] = true
    · rw [if_pos (this.1 hp), if_pos hp]; omega
    · rw [if_neg (fun e => hp (this.2 e)), if_neg hp]; omega
theorem lsR_intro (B : List S46) (L : List Int) (c : Int) (hx : ∀ x ∈ L, (0 ≤ x ∧ x < (B.length : Int)) ∧ listedB (rd_T46 B x) = true) (hn : L.Nodup) (hc : (L.length : Int) = c) (d : Nat) : ∀ j : Nat, j + d = L.length → lsR B L c j d = true := by
  induction d with
  | zero => intro j h; rw [lsR]; simpa using hc
  | succ d ih =>
    intro j h
    rw [lsR, ih (j + 1) (by omega), rd_at L j (by omega)]
    have hm := hx L[j] (List.getElem_mem _)
    rw [hm.2, inB_iff.2 (show (0 : Int) ≤ L[j] ∧ L[j] ≤ (B.length : Int) - 1 by omega)]
    have hno : ¬ L[j] ∈ L.take j := by
      intro hin
      have h1 : (L.take (j + 1)).Nodup := hn.sublist (List.take_sublist _ _)
      rw [List.take_succ_eq_append_getElem (by omega : j < L.length)] at h1
      exact (List.nodup_append.1 h1).2.2 _ hin _ (by simp) rfl
    rw [decide_eq_false hno]
    rfl
theorem arR_intro (B : List S46) (L : List Int) (hok : ∀ b ∈ B, okB b = true) (hx : ∀ x ∈ L, (0 ≤ x ∧ x < (B.length : Int)) ∧ listedB (rd_T46 B x) = true) (hn : L.Nodup) (d : Nat) : ∀ (i : Nat) (c : Int), i + d = B.length → (L.length : Int) = c + ((B.drop i).countP listedB : Nat) → arR B L i d c = true := by
  induction d with
  | zero =>
    intro i c h hc
    rw [arR]
    rw [List.drop_eq_nil_of_le (by omega)] at hc
    exact lsR_intro B L c hx hn (by simpa using hc) L.length 0 (by omega)
  | succ d ih =>
    intro i c h hc
    rw [List.drop_eq_getElem_cons (by omega : i < B.length), List.countP_cons] at hc
    rw [arR, rdT_nat B i (by omega), hok _ (List.getElem_mem _), Bool.true_and]
    refine ih (i + 1) _ (by omega) ?_
    by_cases hp : listedB B[i] = true
    · rw [if_pos hp] at hc ⊢; omega
    · rw [if_neg hp] at hc ⊢; omega
structure Ar (B : List S46) (L : List Int) : Prop where
  n1 : 1 ≤ B.length
  n4 : B.length ≤ 4
  ok : ∀ b ∈ B, okB b = true
  ls : ∀ x ∈ L, (0 ≤ x ∧ x < (B.length : Int)) ∧ listedB (rd_T46 B x) = true
  nd : L.Nodup
  ln : L.length = B.countP listedB
theorem Ar.arOk {B : List S46} {L : List Int} (h : Ar B L) : arOk B L = true := by
  show (inB 1 24 (B.length : Int) && arR B L 0 B.length 0) = true
  have h1 := h.n1
  have h4 := h.n4
  rw [inB_iff.2 ⟨by omega, by omega⟩, Bool.true_and]
  exact arR_intro B L h.ok h.ls h.nd B.length 0 0 (by omega) (by rw [List.drop_zero, h.ln]; omega)
theorem Ar.len {B : List S46} {L : List Int} (h : Ar B L) : L.length ≤ 4 := by
  rw [h.ln]; exact Nat.le_trans List.countP_le_length h.n4
theorem Ar.set {B : List S46} {L L' : List Int} {q : Int} {y : S46} (h : Ar B L) (h0 : 0 ≤ q) (h1 : q < (B.length : Int)) (hy : okB y = true) (hs : ∀ x ∈ L', (0 ≤ x ∧ x < (B.length : Int)) ∧ (x ≠ q → listedB (rd_T46 B x) = true) ∧ (x = q → listedB y = true)) (hn : L'.Nodup) (hl : L'.length + (if listedB (rd_T46 B q) = true then 1 else 0) = L.length + (if listedB y = true then 1 else 0)) : Ar (B.set q.toNat y) L' := by
  refine ⟨by rw [List.length_set]; exact h.n1, by rw [List.length_set]; exact h.n4, ?_, ?_, hn, ?_⟩
  · intro b hb
    rcases List.mem_or_eq_of_mem_set hb with hb | rfl
    · exact h.ok b hb
    · exact hy
  · intro x hx
    rw [List.length_set]
    have := hs x hx
    refine ⟨this.1, ?_⟩
    by_cases e : x = q
    · rw [e, rdB_setI y h0 h1]; exact this.2.2 e
    · rw [rdT_ne B y this.1.1 h0 e]; exact this.2.1 e
  · have := cnt_set listedB B y h0 h1
    have := h.ln
    omega
structure Inv (B : List S46) (L live dead : List Int) : Prop where
  ar : Ar B L
  lv : ∀ h ∈ live, (0 ≤ h ∧ h < 8 * (B.length : Int)) ∧ (rd_T46 B (h / 8)).f1 = false ∧ (rd_T46 B (h / 8)).f0 = h % 8
  lvn : live.Nodup
  lvl : live.length = B.countP nonB
  dd : ∀ h ∈ dead, (0 ≤ h ∧ h < 8 * (B.length : Int)) ∧ h % 8 < (rd_T46 B (h / 8)).f0
theorem Inv.llen {B : List S46} {L live dead : List Int} (h : Inv B L live dead) : live.length ≤ 4 := by
  rw [h.lvl]; exact Nat.le_trans List.countP_le_length h.ar.n4
theorem Inv.live {B : List S46} {L live dead : List Int} (h : Inv B L live dead) {x : Int} (hx : x ∈ live) : liveB B L x = true := by
  have := h.lv x hx
  unfold liveB
  rw [h.ar.arOk, inB_iff.2 (show (0 : Int) ≤ x ∧ x ≤ 8 * (B.length : Int) - 1 by omega), this.2.1, this.2.2]
  simp
theorem Inv.dead {B : List S46} {L live dead : List Int} (h : Inv B L live dead) {x : Int} (hx : x ∈ dead) : liveB B L x = false := by
  have := h.dd x hx
  unfold liveB
  rw [show ((rd_T46 B (x / 8)).f0 == x % 8) = false from beq_eq_false_iff_ne.mpr (by omega)]
  simp
theorem Inv.sum {B : List S46} {L live dead : List Int} (h : Inv B L live dead) : (live.length : Int) + (L.length : Int) + spentR B L = (B.length : Int) := by
  unfold spentR
  rw [if_pos h.ar.arOk, spR_eq B B.length 0 0 (by omega), List.drop_zero]
  have := cnt3 B h.ar.ok
  have := h.lvl
  have := h.ar.ln
  omega
theorem Inv.take {B : List S46} {p : Int} {L live dead : List Int} (h : Inv B (p :: L) live dead) : (0 ≤ p ∧ p < (B.length : Int)) ∧ (0 ≤ (rd_T46 B p).f0 ∧ (rd_T46 B p).f0 < 5) ∧ ¬ (8 * p + (rd_T46 B p).f0) ∈ live ∧ ¬ (8 * p + (rd_T46 B p).f0) ∈ dead ∧ Inv (B.set p.toNat ⟨(rd_T46 B p).f0, false, ⟨0, 0, 0⟩⟩) L (live ++ [8 * p + (rd_T46 B p).f0]) dead := by
  have hp := h.ar.ls p (by simp)
  have hb := (okB_iff _).1 (h.ar.ok _ (rdT_mem B hp.1.1 hp.1.2))
  have hl : (rd_T46 B p).f1 = true ∧ (rd_T46 B p).f0 < 5 := by
    have := hp.2
    unfold listedB at this
    simpa using this
  have e8 : (8 * p + (rd_T46 B p).f0) / 8 = p := by omega
  have e9 : (8 * p + (rd_T46 B p).f0) % 8 = (rd_T46 B p).f0 := by omega
  have hnl : ¬ (8 * p + (rd_T46 B p).f0) ∈ live := fun hm => by
    have := (h.lv _ hm).2.1
    rw [e8, hl.1] at this
    exact absurd this (by simp)
  have hnd := List.nodup_cons.1 h.ar.nd
  refine ⟨hp.1, ⟨hb.1.1, hl.2⟩, hnl, ?_, ?_, ?_, ?_, ?_, ?_⟩
  · intro hm
    have := (h.dd _ hm).2
    rw [e8, e9] at this
    omega
  · refine h.ar.set hp.1.1 hp.1.2 ((okB_iff _).2 ⟨hb.1, fun _ => by simp only []; omega, (rfl : valB 0 = true), (rfl : valB 0 = true), (rfl : valB 0 = true)⟩) (fun x hx => ?_) hnd.2 ?_
    · have := h.ar.ls x (List.mem_cons_of_mem _ hx)
      exact ⟨this.1, fun _ => this.2, fun e => absurd (e ▸ hx) hnd.1⟩
    · rw [if_pos hp.2]
      simp [listedB]
  · intro x hx
    rw [List.length_set]
    rcases List.mem_append.1 hx with hx | hx
    · have := h.lv x hx
      have hne : x / 8 ≠ p := fun e => by rw [e, hl.1] at this; exact absurd this.2.1 (by simp)
      rw [rdT_ne B _ (by omega) hp.1.1 hne]
      exact this
    · have hx := List.mem_singleton.1 hx
      subst hx
      rw [e8, e9, rdB_setI _ hp.1.1 hp.1.2]
      exact ⟨by omega, rfl, rfl⟩
  · refine List.nodup_append.2 ⟨h.lvn, by simp, fun a ha b hb => ?_⟩
    have hb := List.mem_singleton.1 hb
    subst hb
    exact fun e => hnl (e ▸ ha)
  · have := cnt_set nonB B (⟨(rd_T46 B p).f0, false, ⟨0, 0, 0⟩⟩ : S46) hp.1.1 hp.1.2
    rw [if_neg (by unfold nonB; rw [hl.1]; simp), if_pos (by rfl)] at this
    have := h.lvl
    rw [List.length_append, List.length_singleton]
    omega
  · intro x hx
    have := h.dd x hx
    rw [List.length_set]
    refine ⟨this.1, ?_⟩
    by_cases e : x / 8 = p
    · rw [e, rdB_setI _ hp.1.1 hp.1.2]
      rw [e] at this
      exact this.2
    · rw [rdT_ne B _ (by omega) hp.1.1 e]; exact this.2
theorem Inv.give {B : List S46} {L live dead : List Int} (h : Inv B L live dead) {k : Nat} (hk : k < live.length) : Inv (B.set (live[k] / 8).toNat ⟨(rd_T46 B (live[k] / 8)).f0 + 1, true, (rd_T46 B (live[k] / 8)).f2⟩) (if (rd_T46 B (live[k] / 8)).f0 + 1 < 5 then [live[k] / 8] ++ L else L) (live.take k ++ live.drop (k + 1)) (dead ++ [live[k]]) := by
  have hv := h.lv _ (List.getElem_mem hk)
  have q0 : 0 ≤ live[k] / 8 := by omega
  have q1 : live[k] / 8 < (B.length : Int) := by omega
  have hb := (okB_iff _).1 (h.ar.ok _ (rdT_mem B q0 q1))
  have h5 := hb.2.1 hv.2.1
  have hnl : listedB (rd_T46 B (live[k] / 8)) = false := by unfold listedB; rw [hv.2.1]; rfl
  have hqL : ¬ live[k] / 8 ∈ L := fun hm => by
    have := (h.ar.ls _ hm).2
    rw [hnl] at this
    exact absurd this (by simp)
  have hby : listedB (⟨(rd_T46 B (live[k] / 8)).f0 + 1, true, (rd_T46 B (live[k] / 8)).f2⟩ : S46) = decide ((rd_T46 B (live[k] / 8)).f0 + 1 < 5) := by unfold listedB; simp
  have hsub : (live.take k ++ live.drop (k + 1)).Sublist live := by
    rw [← List.eraseIdx_eq_take_drop_succ]; exact List.eraseIdx_sublist _ _
  have hne : ∀ x ∈ live.take k ++ live.drop (k + 1), x ∈ live ∧ x / 8 ≠ live[k] / 8 := by
    intro x hx
    have hxl := hsub.subset hx
    refine ⟨hxl, fun e => ?_⟩
    have h1 := (h.lv x hxl).2.2
    rw [e, hv.2.2] at h1
    have hxe : x = live[k] := by omega
    rw [← List.eraseIdx_eq_take_drop_succ] at hx
    obtain ⟨i, hi, hik, hxi⟩ := List.mem_eraseIdx_iff_getElem.1 hx
    exact hik ((List.getElem_inj h.lvn).1 (hxi.trans hxe))
  refine ⟨?_, ?_, h.lvn.sublist hsub, ?_, ?_⟩
  · refine h.ar.set q0 q1 ((okB_iff _).2 ⟨by simp only []; omega, fun e => absurd e (by simp), hb.2.2⟩) (fun x hx => ?_) ?_ ?_
    · by_cases hc : (rd_T46 B (live[k] / 8)).f0 + 1 < 5
      · rw [if_pos hc] at hx
        rcases List.mem_cons.1 hx with hx | hx
        · subst hx
          exact ⟨⟨q0, q1⟩, fun e => absurd rfl e, fun _ => by rw [hby]; exact decide_eq_true hc⟩
        · have := h.ar.ls x hx
          exact ⟨this.1, fun _ => this.2, fun e => absurd (e ▸ hx) hqL⟩
      · rw [if_neg hc] at hx
        have := h.ar.ls x hx
        exact ⟨this.1, fun _ => this.2, fun e => absurd (e ▸ hx) hqL⟩
    · split
      · exact List.nodup_cons.2 ⟨hqL, h.ar.nd⟩
      · exact h.ar.nd
    · rw [hnl, hby]
      by_cases hc : (rd_T46 B (live[k] / 8)).f0 + 1 < 5
      · rw [if_pos hc, decide_eq_true hc]; simp
      · rw [if_neg hc, decide_eq_false hc]
  · intro x hx
    have h1 := hne x hx
    have := h.lv x h1.1
    rw [List.length_set, rdT_ne B _ (by omega) q0 h1.2]
    exact this
  · have := cnt_set nonB B (⟨(rd_T46 B (live[k] / 8)).f0 + 1, true, (rd_T46 B (live[k] / 8)).f2⟩ : S46) q0 q1
    rw [if_pos (by unfold nonB; rw [hv.2.1]; rfl), if_neg (by unfold nonB; simp)] at this
    have := h.lvl
    rw [← List.eraseIdx_eq_take_drop_succ, List.length_eraseIdx, if_pos hk]
    omega
  · intro x hx
    rw [List.length_set]
    rcases List.mem_append.1 hx with hx | hx
    · have := h.dd x hx
      refine ⟨this.1, ?_⟩
      by_cases e : x / 8 = live[k] / 8
      · rw [e, rdB_setI _ q0 q1]
        rw [e] at this
        simp only []
        omega
      · rw [rdT_ne B _ (by omega) q0 e]; exact this.2
    · have hx := List.mem_singleton.1 hx
      subst hx
      rw [rdB_setI _ q0 q1]
      exact ⟨hv.1, by simp only []; omega⟩
theorem Ar.put {B : List S46} {L : List Int} (h : Ar B L) {q a v : Int} (h0 : 0 ≤ q) (h1 : q < (B.length : Int)) (hv : valB v = true) : Ar (B.set q.toNat (setW (rd_T46 B q) a v)) L := by
  have hb := (okB_iff _).1 (h.ok _ (rdT_mem B h0 h1))
  have hls : listedB (setW (rd_T46 B q) a v) = listedB (rd_T46 B q) := rfl
  refine h.set h0 h1 ((okB_iff _).2 ⟨hb.1, hb.2.1, ?_⟩) (fun x hx => ?_) h.nd (by rw [hls])
  · unfold setW
    simp only []
    split
    · exact ⟨hv, hb.2.2.2⟩
    · split
      · exact ⟨hb.2.2.1, hv, hb.2.2.2.2⟩
      · exact ⟨hb.2.2.1, hb.2.2.2.1, hv⟩
  · have := h.ls x hx
    exact ⟨this.1, fun _ => this.2, fun e => by rw [hls, ← e]; exact this.2⟩
theorem nwB_mem : ∀ (d : Nat) (b : S46), b ∈ nwB d → b = ⟨0, true, ⟨0, 0, 0⟩⟩
  | 0, b, h => by simp [nwB] at h
  | d + 1, b, h => by
    rcases List.mem_cons.1 (show b ∈ (⟨0, true, ⟨0, 0, 0⟩⟩ : S46) :: nwB d from h) with h | h
    · exact h
    · exact nwB_mem d b h
theorem nwL_mem : ∀ (d i : Nat) (x : Int), x ∈ nwL i d → (i : Int) ≤ x ∧ x < (i : Int) + d
  | 0, i, x, h => by simp [nwL] at h
  | d + 1, i, x, h => by
    rcases List.mem_cons.1 (show x ∈ (i : Int) :: nwL (i + 1) d from h) with h | h
    · omega
    · have := nwL_mem d (i + 1) x h
      omega
theorem nwL_nodup : ∀ (d i : Nat), (nwL i d).Nodup
  | 0, i => by simp [nwL]
  | d + 1, i => by
    rw [nwL]
    refine List.nodup_cons.2 ⟨fun h => ?_, nwL_nodup d (i + 1)⟩
    have := nwL_mem d (i + 1) _ h
    omega
theorem cnt_all (p : S46 → Bool) (r : Bool) : ∀ (B : List S46), (∀ b ∈ B, p b = r) → B.countP p = if r = true then B.length else 0
  | [], _ => by simp
  | b :: B, h => by
    rw [List.countP_cons, cnt_all p r B (fun x hx => h x (List.mem_cons_of_mem _ hx)), h b (by simp)]
    cases r <;> simp
theorem inv_new {n : Nat} (h1 : 1 ≤ n) (h4 : n ≤ 4) : Inv (nwB n) (nwL 0 n) [] [] := by
  have hb := nwB_mem n
  refine ⟨⟨by rw [nwB_len]; exact h1, by rw [nwB_len]; exact h4, fun b h => by rw [hb b h]; decide, fun x hx => ?_, nwL_nodup n 0, ?_⟩, fun _ h => absurd h (by simp), by simp, ?_, fun _ h => absurd h (by simp)⟩
  · have h := nwL_mem n 0 x hx
    rw [nwB_len]
    refine ⟨by omega, ?_⟩
    rw [hb _ (rdT_mem (nwB n) (by omega) (by rw [nwB_len]; omega))]
    decide
  · rw [nwL_len, cnt_all listedB true _ (fun b h => by rw [hb b h]; decide), if_pos rfl, nwB_len]
  · rw [cnt_all nonB false _ (fun b h => by rw [hb b h]; decide), if_neg (by simp)]
    rfl

end Go.Proofs.YtppidjpamaddhaaDoor.H
namespace Go.Proofs.YtppidjpamaddhaaDoor.Pure
set_option linter.unusedVariables false
set_option linter.unusedSimpArgs false
open Go.RowKit Go.Proofs.YtppidjpamaddhaaDoor.H Go.Proofs.YtppidjpamaddhaaDoorW.PrintWords Go.Proofs.YtppidjpamaddhaaDoor.PbH

theorem u8_rng {z : Int} (h : (Lit.int .u8 z).wf = true) : 0 ≤ z ∧ z ≤ 255 := by
  have h1 := of_decide_eq_true (show decide (IntKind.u8.min ≤ z) = true from by simp [Lit.wf] at h; simpa using h.1)
  have h2 := of_decide_eq_true (show decide (z ≤ IntKind.u8.max) = true from by simp [Lit.wf] at h; simpa using h.2)
  exact ⟨h1, h2⟩
theorem at_ok {l : List Int} (hl : l.length ≤ 1048576) (hu : ∀ z ∈ l, (Lit.int .u8 z).wf = true) {a : Int} (h0 : 0 ≤ a) (h1 : a ≤ 100) : ∃ v, laws_at.f l a = some v ∧ 0 ≤ v := by
  unfold laws_at.f
  by_cases h : a < (l.length : Int)
  · rw [if_pos h, if_pos h0]
    obtain ⟨n, rfl⟩ := Int.eq_ofNat_of_zero_le h0
    have hn : n < l.length := by omega
    have := u8_rng (hu _ (List.getElem_mem hn))
    rw [rd_at l n hn, w64 (by omega) (by omega)]
    exact ⟨_, rfl, this.1⟩
  · rw [if_neg h, w64 (x := a * 7) (by omega) (by omega), w64 (by omega) (by omega)]
    exact ⟨_, rfl, Int.tmod_nonneg _ (by omega)⟩
theorem within_l0 (l : List Int) (a : Int) (hl : l.length ≤ 1000) (d : Nat) : ∀ (k j : Nat), j + d = l.length → d < k → laws_within.l0 k l a (j : Int) = some (decide (a ∈ l.drop j)) := by
  induction d with
  | zero =>
    intro k j h hk
    obtain ⟨k, rfl⟩ : ∃ m, k = m + 1 := ⟨k - 1, by omega⟩
    rw [laws_within.l0, if_neg (by omega), List.drop_eq_nil_of_le (by omega)]
    rfl
  | succ d ih =>
    intro k j h hk
    obtain ⟨k, rfl⟩ : ∃ m, k = m + 1 := ⟨k - 1, by omega⟩
    rw [laws_within.l0, if_pos (by omega), if_pos (by omega), rd_at l j (by omega), List.drop_eq_getElem_cons (by omega : j < l.length)]
    by_cases e : l[j] = a
    · rw [if_pos e, e]; simp
    · rw [if_neg e, w64 (by omega) (by omega), show ((j : Int) + 1) = ((j + 1 : Nat) : Int) by omega, ih k (j + 1) (by omega) (by omega)]
      have : (a ∈ l[j] :: l.drop (j + 1)) ↔ (a ∈ l.drop (j + 1)) := by
        rw [List.mem_cons]
        exact ⟨fun h => h.elim (fun h => absurd h.symm e) id, Or.inr⟩
      simp only [this]
theorem within_eq {k : Nat} {l : List Int} {a : Int} (hl : l.length ≤ 1000) (hk : l.length < k) : laws_within.f k l a = some (decide (a ∈ l)) := by
  unfold laws_within.f
  have := within_l0 l a hl l.length k 0 (by omega) hk
  rw [List.drop_zero] at this
  exact this
theorem toList_loop_len (b : ByteArray) (d : Nat) : ∀ (i : Nat) (r : List UInt8), i + d = b.size → (ByteArray.toList.loop b i r).length = r.length + d := by
  induction d with
  | zero =>
    intro i r h
    rw [ByteArray.toList.loop, if_neg (by omega)]
    simp
  | succ d ih =>
    intro i r h
    rw [ByteArray.toList.loop, if_pos (by omega), ih (i + 1) _ (by omega)]
    simp only [List.length_cons]
    omega
theorem toList_len (b : ByteArray) : b.toList.length = b.size := by
  unfold ByteArray.toList
  rw [toList_loop_len b b.size 0 [] (by omega)]
  simp
theorem handle_ok {h : Int} (h0 : 0 ≤ h) (h1 : h ≤ 191) (h2 : h % 8 ≤ 5) (k : Nat) : ∃ s, impl_HandleText.f (k + 1) h = some s ∧ ¬ s.toList = ([] : List UInt8) := by
  obtain ⟨n, rfl⟩ := Int.eq_ofNat_of_zero_le h0
  unfold impl_HandleText.f impl_in.f
  rw [if_pos h0, Option.bind_some, if_pos (decide_eq_true h1), impl_HandleText.j0]
  rw [Int.tdiv_eq_ediv_of_nonneg (by omega), Int.tmod_eq_emod_of_nonneg (by omega), w64 (by omega) (by omega), show ((n : Int) / 8) = ((n / 8 : Nat) : Int) by omega, show ((n : Int) % 8) = ((n % 8 : Nat) : Int) by omega]
  rw [if_neg (by simp; omega)]
  have hi : ∀ m : Nat, m < 100 → strconv_Itoa_21.f (m : Int) = some ⟨(Go.Lib.decDigits m).toArray⟩ := fun m hm => by
    unfold strconv_Itoa_21.f
    rw [if_pos (by omega), if_pos (by omega)]
    rfl
  have hs : ∀ m : Nat, m < 100 → (⟨(Go.Lib.decDigits m).toArray⟩ : ByteArray).size ≤ 2 := fun m hm => by
    by_cases hm1 : m < 10
    · rw [Go.Lib.decDigits_one hm1]; simp [ByteArray.size]
    · rw [Go.Lib.decDigits_two hm1 hm]; simp [ByteArray.size]
  have s1 := hs _ (show n / 8 < 100 by omega)
  have s2 := hs _ (show n % 8 < 100 by omega)
  have e1 : (⟨#[46]⟩ : ByteArray).size = 1 := rfl
  rw [hi _ (show n / 8 < 100 by omega), hi _ (show n % 8 < 100 by omega)]
  simp only [Option.bind_some]
  rw [if_pos (by omega), if_pos (by rw [ByteArray.size_append]; omega)]
  refine ⟨_, rfl, fun e => ?_⟩
  have e2 := congrArg List.length e
  rw [toList_len, ByteArray.size_append, ByteArray.size_append, e1] at e2
  simp at e2
theorem l1_run {l B L live dead} (hI : Inv B L live dead) (hd : dead.length ≤ 30) (i : Int) (d : Nat) : ∀ (k j : Nat), j + d = dead.length → 30 + d < k → laws_FnHandles.l1 k l live dead i (j : Int) B L = laws_FnHandles.l0 (k - d - 1) l live dead (wrap64 (i + 1)) B L := by
  have hB := hI.ar.n4
  have hL := hI.ar.len
  have hv := hI.llen
  induction d with
  | zero =>
    intro k j h hk
    obtain ⟨k, rfl⟩ : ∃ m, k = m + 1 := ⟨k - 1, by omega⟩
    have hs := hI.sum
    rw [laws_FnHandles.l1, if_neg (by omega), implArena_eq (by omega) (by omega) (by omega), Option.bind_some, hI.ar.arOk, if_pos rfl, implSpent_eq (by omega) (by omega) (by omega), Option.bind_some, w64 (x := (live.length : Int) + (L.length : Int)) (by omega) (by omega), hs, w64 (by omega) (by omega), if_pos rfl]
    rfl
  | succ d ih =>
    intro k j h hk
    obtain ⟨k, rfl⟩ : ∃ m, k = m + 1 := ⟨k - 1, by omega⟩
    have hm := List.getElem_mem (show j < dead.length by omega)
    have hr := hI.dd _ hm
    have hok := (okB_iff _).1 (hI.ar.ok _ (rdT_mem B (show 0 ≤ dead[j] / 8 by omega) (by omega)))
    rw [laws_FnHandles.l1, if_pos (by omega), if_pos (by omega), rd_at dead j (by omega), implLive_eq (by omega) (by omega) (by omega), Option.bind_some, hI.dead hm, if_neg Bool.false_ne_true]
    obtain ⟨k', rfl⟩ : ∃ m, k = m + 1 := ⟨k - 1, by omega⟩
    obtain ⟨s, hs, hne⟩ := handle_ok (h := dead[j]) hr.1.1 (by omega) (by omega) k'
    rw [hs, Option.bind_some, if_neg hne, w64 (x := (j : Int) + 1) (by omega) (by omega), show ((j : Int) + 1) = ((j + 1 : Nat) : Int) by omega, ih (k' + 1) (j + 1) (by omega) (by omega)]
    rw [show k' + 1 - d - 1 = k' + 1 + 1 - (d + 1) - 1 by omega]
theorem j2_run {l B L live dead} (hI : Inv B L live dead) (hd : dead.length ≤ 30) (i : Int) (k : Nat) (hk : 70 < k) : ∃ k', k ≤ k' + 40 ∧ laws_FnHandles.j2 k l live dead i B L = laws_FnHandles.l0 k' l live dead (wrap64 (i + 1)) B L := by
  obtain ⟨k, rfl⟩ : ∃ m, k = m + 1 := ⟨k - 1, by omega⟩
  refine ⟨k - dead.length - 1, by omega, ?_⟩
  rw [laws_FnHandles.j2]
  exact l1_run hI hd i dead.length k 0 (by omega) (by omega)
theorem l0_run {l : List Int} (hl : l.length ≤ 1048576) (hu : ∀ z ∈ l, (Lit.int .u8 z).wf = true) (d : Nat) : ∀ (k i : Nat) (B L live dead), i + d = 30 → Inv B L live dead → dead.length ≤ i → 50 * d + 100 < k → laws_FnHandles.l0 k l live dead (i : Int) B L = some true := by
  induction d with
  | zero =>
    intro k i B L live dead h hI hd hk
    obtain ⟨k, rfl⟩ : ∃ m, k = m + 1 := ⟨k - 1, by omega⟩
    rw [laws_FnHandles.l0, if_neg (by omega)]
  | succ d ih =>
    intro k i B L live dead h hI hd hk
    obtain ⟨k, rfl⟩ : ∃ m, k = m + 1 := ⟨k - 1, by omega⟩
    have hB := hI.ar.n4
    have hB1 := hI.ar.n1
    have hL := hI.ar.len
    have hv := hI.llen
    have fin : ∀ (k : Nat) (B L live dead), 50 * d + 142 < k → Inv B L live dead → dead.length ≤ i + 1 → laws_FnHandles.j2 k l live dead (i : Int) B L = some true := by
      intro k B L live dead hk hI hd
      obtain ⟨k', hk', e⟩ := j2_run hI (by omega) (i : Int) k (by omega)
      rw [e, w64 (by omega) (by omega), show ((i : Int) + 1) = ((i + 1 : Nat) : Int) by omega]
      exact ih k' (i + 1) B L live dead (by omega) hI hd (by omega)
    obtain ⟨v, hv1, hv0⟩ := at_ok hl hu (a := (i : Int) + 1) (by omega) (by omega)
    rw [laws_FnHandles.l0, if_pos (by omega), w64 (x := (i : Int) + 1) (by omega) (by omega), hv1, Option.bind_some]
    by_cases he : Int.tmod v 2 = 0
    · rw [if_pos he, implTake_eq (by omega) (by omega) (by omega), Option.bind_some]
      obtain ⟨k, rfl⟩ : ∃ m, k = m + 1 := ⟨k - 1, by omega⟩
      cases L with
      | nil =>
        have ht : takeR B [] = (B, [], -1, false) := by unfold takeR; rw [if_pos hI.ar.arOk, if_pos (by rfl)]
        rw [ht]
        dsimp only
        rw [if_neg (by simp), if_neg Bool.false_ne_true, laws_FnHandles.j1, if_neg Bool.false_ne_true, if_neg Bool.false_ne_true]
        exact fin k B [] live dead (by omega) hI (by omega)
      | cons p L =>
        obtain ⟨hp, hg, hnl, hnd, hJ⟩ := hI.take
        have ht : takeR B (p :: L) = (B.set p.toNat ⟨(rd_T46 B p).f0, false, ⟨0, 0, 0⟩⟩, L, 8 * p + (rd_T46 B p).f0, true) := by
          unfold takeR
          rw [if_pos hI.ar.arOk, if_neg (by simp only [List.length_cons]; omega)]
          rfl
        generalize hB' : B.set p.toNat (⟨(rd_T46 B p).f0, false, ⟨0, 0, 0⟩⟩ : S46) = B' at ht hJ
        generalize hh : 8 * p + (rd_T46 B p).f0 = x at ht hJ hnl hnd
        have hB2 := hJ.ar.n4
        have hL2 := hJ.ar.len
        have hlx := hJ.live (x := x) (by simp)
        have hxv := hJ.lv x (by simp)
        rw [ht]
        dsimp only
        rw [if_neg (show ¬ ((true != decide (((p :: L).length : Int) > 0)) = true) by rw [decide_eq_true (show ((p :: L).length : Int) > 0 by simp only [List.length_cons]; omega)]; decide), if_pos rfl, implLive_eq (by omega) (by omega) (by omega), Option.bind_some, hlx, if_pos rfl, within_eq (by omega) (by omega), Option.bind_some, decide_eq_false hnl, if_neg Bool.false_ne_true, within_eq (by omega) (by omega), Option.bind_some, decide_eq_false hnd]
        rw [laws_FnHandles.j1, if_neg Bool.false_ne_true, if_pos rfl, if_pos (by omega), implPut_eq (by omega) (by omega) (by omega), Option.bind_some]
        have ha : 0 ≤ Int.tmod (i : Int) 3 ∧ Int.tmod (i : Int) 3 ≤ 2 := by rw [Int.tmod_eq_emod_of_nonneg (by omega)]; omega
        have hvi : valB (i : Int) = true := by
          unfold valB
          exact inB_iff.2 ⟨by omega, by omega⟩
        have hq0 : 0 ≤ x / 8 := by omega
        have hq1 : x / 8 < (B'.length : Int) := by omega
        have hp2 : putR B' L x (Int.tmod (i : Int) 3) (i : Int) = (B'.set (x / 8).toNat (setW (rd_T46 B' (x / 8)) (Int.tmod (i : Int) 3) (i : Int)), L, true) := by
          unfold putR
          rw [if_pos hlx, if_pos (inB_iff.2 ha), if_pos hvi]
        have hA := hJ.ar.put (a := Int.tmod (i : Int) 3) hq0 hq1 hvi
        have hlive2 : liveB (B'.set (x / 8).toNat (setW (rd_T46 B' (x / 8)) (Int.tmod (i : Int) 3) (i : Int))) L x = true := by
          unfold liveB
          rw [hA.arOk, List.length_set, inB_iff.2 (show (0 : Int) ≤ x ∧ x ≤ 8 * (B'.length : Int) - 1 by omega), rdB_setI _ hq0 hq1]
          show (true && (true && (!(rd_T46 B' (x / 8)).f1 && ((rd_T46 B' (x / 8)).f0 == x % 8)))) = true
          rw [hxv.2.1, hxv.2.2]
          simp
        have hg2 : getR (B'.set (x / 8).toNat (setW (rd_T46 B' (x / 8)) (Int.tmod (i : Int) 3) (i : Int))) L x (Int.tmod (i : Int) 3) = ((i : Int), true) := by
          unfold getR
          rw [if_pos hlive2, if_pos (inB_iff.2 ha), rdB_setI _ hq0 hq1]
          have : wordB (setW (rd_T46 B' (x / 8)) (Int.tmod (i : Int) 3) (i : Int)) (Int.tmod (i : Int) 3) = (i : Int) := by
            unfold wordB setW
            by_cases a0 : Int.tmod (i : Int) 3 = 0
            · simp only [if_pos a0]
            · by_cases a1 : Int.tmod (i : Int) 3 = 1
              · simp only [if_neg a0, if_pos a1]
              · simp only [if_neg a0, if_neg a1]
          rw [this]
        rw [hp2]
        dsimp only
        rw [implGet_eq (by rw [List.length_set]; omega) (by omega) (by rw [List.length_set]; omega), Option.bind_some, hg2, if_pos rfl, if_pos rfl, if_pos rfl]
        exact fin k B' L (live ++ [x]) dead (by omega) hJ (by omega)
    · rw [if_neg he]
      by_cases hn : (live.length : Int) > 0
      · obtain ⟨t, ht1, ht0⟩ := at_ok hl hu (a := (i : Int) + 40) (by omega) (by omega)
        have hr0 : 0 ≤ Int.tmod t (live.length : Int) := Int.tmod_nonneg _ ht0
        have hr1 : Int.tmod t (live.length : Int) < (live.length : Int) := Int.tmod_lt_of_pos _ hn
        obtain ⟨r, hr⟩ := Int.eq_ofNat_of_zero_le hr0
        rw [if_pos hn, w64 (x := (i : Int) + 40) (by omega) (by omega), ht1, Option.bind_some, if_neg (by omega), if_pos hr0, if_pos hr1]
        rw [hr] at hr1 ⊢
        have hrl : r < live.length := by omega
        rw [rd_at live r hrl, implGive_eq (by omega) (by omega) (by omega), Option.bind_some]
        have hg : giveR B L live[r] = (B.set (live[r] / 8).toNat ⟨(rd_T46 B (live[r] / 8)).f0 + 1, true, (rd_T46 B (live[r] / 8)).f2⟩, if (rd_T46 B (live[r] / 8)).f0 + 1 < 5 then [live[r] / 8] ++ L else L, true) := by
          unfold giveR
          rw [if_pos (hI.live (List.getElem_mem hrl))]
        have hJ := hI.give hrl
        generalize hB' : B.set (live[r] / 8).toNat (⟨(rd_T46 B (live[r] / 8)).f0 + 1, true, (rd_T46 B (live[r] / 8)).f2⟩ : S46) = B' at hg hJ
        generalize hL' : (if (rd_T46 B (live[r] / 8)).f0 + 1 < 5 then [live[r] / 8] ++ L else L) = L' at hg hJ
        rw [hg]
        dsimp only
        rw [if_pos rfl, if_pos (by omega), Option.bind_some, if_pos (by omega), Option.bind_some, Int.toNat_natCast, if_pos (by simp only [List.length_nil, List.length_take]; omega), Option.bind_some, w64 (x := (r : Int) + 1) (by omega) (by omega), if_pos (by omega), if_pos (by omega), Option.bind_some, show ((r : Int) + 1).toNat = r + 1 by omega, if_pos (by simp only [List.nil_append, List.length_take, List.length_drop]; omega), List.nil_append]
        exact fin k _ _ _ _ (by omega) hJ (by rw [List.length_append, List.length_singleton]; omega)
      · rw [if_neg hn]
        exact fin k B L live dead (by omega) hI (by omega)
theorem FnHandles : laws_FnHandles.Pure := by
  intro l hl
  refine ⟨2000, ?_⟩
  unfold laws_FnHandles.f laws_big.f
  rw [Option.bind_some]
  by_cases hb : (l.length : Int) > 1048576
  · rw [if_pos (decide_eq_true hb)]
  · rw [if_neg (by simpa using hb)]
    have hlen : l.length ≤ 1048576 := by omega
    obtain ⟨v, hv, hv0⟩ := at_ok hlen hl.2 (a := 0) (by omega) (by omega)
    have hm : 0 ≤ Int.tmod v 4 ∧ Int.tmod v 4 ≤ 3 := by rw [Int.tmod_eq_emod_of_nonneg hv0]; omega
    rw [hv, Option.bind_some, w64 (by omega) (by omega), implNew_eq (by omega), Option.bind_some]
    have hn : newR (1 + Int.tmod v 4) = (nwB (1 + Int.tmod v 4).toNat, nwL 0 (1 + Int.tmod v 4).toNat, true) := by
      unfold newR
      rw [if_pos (inB_iff.2 ⟨by omega, by omega⟩)]
    rw [hn]
    dsimp only
    rw [if_pos rfl]
    exact l0_run hlen hl.2 30 2000 0 _ _ [] [] (by omega) (inv_new (by omega) (by omega)) (by simp) (by omega)

end Go.Proofs.YtppidjpamaddhaaDoor.Pure
