/- The pure statement of FnExactMerged and what it needs. Conditions: those that each theorem states. -/
import Derived.Test.YtbhlmgljflggeaaVFnExactMerged1
import Derived.RowKit
import Derived.Test.YtbhlmgljflggeaaWWords
namespace Go.Proofs.Ytbhlmgljflggeaa.Pb
open Go.RowKit Go.Proofs.YtbhlmgljflggeaaW.PrintWords

theorem w64 {x : Int} (h0 : -9223372036854775808 ≤ x) (h1 : x ≤ 9223372036854775807) : wrap64 x = x := by
  unfold wrap64
  omega

theorem rdOf_at {α : Type} (d : α) (l : List α) (i : Nat) (h : i < l.length) : rdOf d l (i : Int) = l[i] := by
  simp [rdOf, List.getD_eq_getElem?_getD, List.getElem?_eq_getElem h]

theorem set_take {α : Type} (x : List α) (v : α) (i : Nat) (h : i < x.length) : (x.set i v).take (i + 1) = x.take i ++ [v] := by
  rw [List.take_succ_eq_append_getElem (by simpa using h)]
  rw [List.take_set_of_le (Nat.le_refl i)]
  simp

/-- One round of a loop that copies. -/
theorem copy_step {α : Type} (x l : List α) (i : Nat) (h : i < l.length) (hx : i < x.length) :
    (x.set i l[i]).take (i + 1) ++ l.drop (i + 1) = x.take i ++ l.drop i := by
  rw [set_take x l[i] i hx, List.drop_eq_getElem_cons h, List.append_assoc]
  rfl

/-- The same where each element is turned into another kind. -/
theorem copy_step_map {α β : Type} (f : α → β) (x : List β) (l : List α) (i : Nat) (h : i < l.length) (hx : i < x.length) :
    (x.set i (f l[i])).take (i + 1) ++ (l.drop (i + 1)).map f = x.take i ++ (l.drop i).map f := by
  rw [set_take x (f l[i]) i hx, List.drop_eq_getElem_cons h, List.append_assoc]
  rfl

theorem drop_cons {α : Type} (l : List α) (i : Nat) (h : i < l.length) : l.drop i = l[i] :: l.drop (i + 1) := List.drop_eq_getElem_cons h


end Go.Proofs.Ytbhlmgljflggeaa.Pb
namespace Go.Proofs.Ytbhlmgljflggeaa.M
set_option linter.unusedSimpArgs false
open Go.RowKit Go.Proofs.YtbhlmgljflggeaaW.PrintWords Go.Proofs.Ytbhlmgljflggeaa.Pb

def cvWordOp (x : S31) : S34 := ⟨x.f0, x.f1, x.f2, x.f3⟩
theorem rdT31_at (l : List S31) (i : Nat) (h : i < l.length) : rd_T31 l (i : Int) = l[i] := by
  simp [rd_T31, List.getD_eq_getElem?_getD, List.getElem?_eq_getElem h]
theorem rdT34_at (l : List S34) (i : Nat) (h : i < l.length) : rd_T34 l (i : Int) = l[i] := by
  simp [rd_T34, List.getD_eq_getElem?_getD, List.getElem?_eq_getElem h]
theorem rdT34_set (l : List S34) (i : Nat) (y : S34) (h : i < l.length) : rd_T34 (l.set i y) (i : Int) = y := by
  simp [rd_T34, List.getD_eq_getElem?_getD, h]
theorem rdT34_mid (p q : List S34) (y : S34) : rd_T34 (p ++ y :: q) ((p.length : Nat) : Int) = y := by
  simp [rd_T34, List.getD_eq_getElem?_getD]
theorem szWordOpS_eq {l : List S31} {a : Int} (hl : l.length ≤ maxLen) (ha : 0 ≤ a ∧ a ≤ 1048576) : laws_szWordOpS.f l a = some (if a - (l.length : Int) < 0 then -1 else a - (l.length : Int)) := by
  unfold laws_szWordOpS.f
  have hm : l.length ≤ 9223372036854775807 := hl
  rw [w64 (by omega) (by omega)]
  by_cases h : a - (l.length : Int) < 0
  · rw [if_pos h, if_pos h]
  · rw [if_neg h, if_neg h]
theorem toWordOpS_l0 (l : List S31) (hl : l.length ≤ 4000000) (d : Nat) : ∀ (k i : Nat) (x : List S34), i + d = l.length → d < k → x.length = l.length → laws_toWordOpS.l0 k l x (i : Int) = some (x.take i ++ (l.drop i).map cvWordOp) := by
  induction d with
  | zero =>
    intro k i x hi hk hx
    obtain ⟨k, rfl⟩ : ∃ m, k = m + 1 := ⟨k - 1, by omega⟩
    simp only [laws_toWordOpS.l0]
    rw [if_neg (by omega), List.take_of_length_le (by omega), List.drop_of_length_le (by omega), List.map_nil, List.append_nil]
  | succ d ih =>
    intro k i x hi hk hx
    obtain ⟨k, rfl⟩ : ∃ m, k = m + 1 := ⟨k - 1, by omega⟩
    simp only [laws_toWordOpS.l0]
    rw [if_pos (by omega), if_pos (by omega)]
    simp only [laws_toWordOp.f, Option.bind_some]
    rw [if_pos (by omega), w64 (by omega) (by omega), rdT31_at l i (by omega), Int.toNat_natCast,
      show ((i : Int) + 1) = ((i + 1 : Nat) : Int) from by omega, ih k (i + 1) _ (by omega) (by omega) (by simp [hx])]
    exact congrArg some (copy_step_map cvWordOp x l i (by omega) (by omega))
theorem toWordOpS_eq {k : Nat} {l : List S31} (hl : l.length ≤ 4000000) (hk : l.length < k) : laws_toWordOpS.f k l = some (l.map cvWordOp) := by
  unfold laws_toWordOpS.f
  rw [if_pos (by omega), if_pos (by omega)]
  have h := toWordOpS_l0 l hl l.length k 0 (List.replicate ((l.length : Int) : Int).toNat z34) (by omega) hk (by simp)
  rw [List.take_zero, List.drop_zero, List.nil_append] at h
  exact h
theorem eqWordOp_refl (a0 : Int) (a1 : Int) (a2 : Int) (a3 : Int) : laws_eqWordOp.f a0 a1 a2 a3 a0 a1 a2 a3 = some true := by
  simp [laws_eqWordOp.f]
theorem eqWordOpS_l0 (l : List S34) (hl : l.length ≤ 4000000) (d : Nat) : ∀ (k i : Nat), i + d = l.length → d < k → laws_eqWordOpS.l0 k l l (i : Int) = some true := by
  induction d with
  | zero =>
    intro k i hi hk
    obtain ⟨k, rfl⟩ : ∃ m, k = m + 1 := ⟨k - 1, by omega⟩
    simp only [laws_eqWordOpS.l0]
    rw [if_neg (by omega)]
  | succ d ih =>
    intro k i hi hk
    obtain ⟨k, rfl⟩ : ∃ m, k = m + 1 := ⟨k - 1, by omega⟩
    simp only [laws_eqWordOpS.l0]
    rw [if_pos (by omega), if_pos (by omega), if_pos (by omega), eqWordOp_refl, Option.bind_some, if_pos rfl, w64 (by omega) (by omega), show ((i : Int) + 1) = ((i + 1 : Nat) : Int) from by omega]
    exact ih k (i + 1) (by omega) (by omega)
theorem eqWordOpS_refl {k : Nat} {l : List S34} (hl : l.length ≤ 4000000) (hk : l.length < k) : laws_eqWordOpS.f k l l = some true := by
  unfold laws_eqWordOpS.f
  rw [if_pos rfl]
  exact eqWordOpS_l0 l hl l.length k 0 (by omega) hk
def mkWordOp (a : Int) : S34 := ⟨(a), (a + 1), (a + 1 + 1), (a + 1 + 1 + 1)⟩
def mkLWordOp : Int → Nat → List S34
  | _, 0 => []
  | a, m + 1 => mkWordOp a :: mkLWordOp (a + 1 + 1 + 1 + 1) m
theorem mkLWordOp_len : ∀ (m : Nat) (a : Int), (mkLWordOp a m).length = m
  | 0, _ => rfl
  | m + 1, a => by simp [mkLWordOp, mkLWordOp_len m]
theorem markWordOpS_l0 (d : Nat) : ∀ (k i : Nat) (a : Int) (x : List S34), x.length ≤ 4000000 → i + d = x.length → d < k → 0 ≤ a → a + 4 * d ≤ 1099511627776 → laws_markWordOpS.l0 k x a (i : Int) = some (a + 4 * d, x.take i ++ mkLWordOp a d) := by
  induction d with
  | zero =>
    intro k i a x hl hi hk h0 h1
    obtain ⟨k, rfl⟩ : ∃ m, k = m + 1 := ⟨k - 1, by omega⟩
    simp only [laws_markWordOpS.l0]
    rw [if_neg (by omega), List.take_of_length_le (by omega)]
    simp [mkLWordOp]
  | succ d ih =>
    intro k i a x hl hi hk h0 h1
    obtain ⟨k, rfl⟩ : ∃ m, k = m + 1 := ⟨k - 1, by omega⟩
    simp only [laws_markWordOpS.l0]
    have e0 : wrap64 (a + 1) = a + 1 := w64 (by omega) (by omega)
    have e1 : wrap64 (a + 1 + 1) = a + 1 + 1 := w64 (by omega) (by omega)
    have e2 : wrap64 (a + 1 + 1 + 1) = a + 1 + 1 + 1 := w64 (by omega) (by omega)
    have e3 : wrap64 (a + 1 + 1 + 1 + 1) = a + 1 + 1 + 1 + 1 := w64 (by omega) (by omega)
    have ei : wrap64 ((i : Int) + 1) = ((i + 1 : Nat) : Int) := by
      rw [w64 (by omega) (by omega)]
      omega
    have hx : i < x.length := by omega
    rw [if_pos (by omega), if_pos (by omega)]
    simp only [Option.bind_some, Int.toNat_natCast, List.set_set, rdT34_set, List.length_set, hx, e0, e1, e2, e3, ei]
    have hd : ((d + 1 : Nat) : Int) = (d : Int) + 1 := by omega
    refine Eq.trans (ih k (i + 1) (a + 1 + 1 + 1 + 1) (x.set i (mkWordOp a)) (by simpa using hl) (by simp; omega) (by omega) (by omega) (by omega)) ?_
    rw [set_take _ _ _ hx, List.append_assoc]
    refine congrArg some (Prod.ext ?_ rfl)
    show a + 1 + 1 + 1 + 1 + 4 * (d : Int) = a + 4 * ((d + 1 : Nat) : Int)
    omega
theorem markWordOpS_eq {k : Nat} {x : List S34} {a : Int} (hl : x.length ≤ 4000000) (hk : x.length < k) (h0 : 0 ≤ a) (h1 : a ≤ 549755813888) : laws_markWordOpS.f k x a = some (a + 4 * x.length, mkLWordOp a x.length) := by
  unfold laws_markWordOpS.f
  have h := markWordOpS_l0 x.length k 0 a x hl (by omega) hk h0 (by omega)
  rw [List.take_zero, List.nil_append] at h
  exact h
theorem heldWordOpS_l0 (d : Nat) : ∀ (k : Nat) (a : Int) (p : List S34), p.length + d ≤ 4000000 → d < k → 0 ≤ a → a + 4 * d ≤ 1099511627776 → laws_heldWordOpS.l0 k (p ++ mkLWordOp a d) a ((p.length : Nat) : Int) = some (a + 4 * d) := by
  induction d with
  | zero =>
    intro k a p hl hk h0 h1
    obtain ⟨k, rfl⟩ : ∃ m, k = m + 1 := ⟨k - 1, by omega⟩
    simp only [laws_heldWordOpS.l0]
    rw [if_neg (by simp [mkLWordOp])]
    simp
  | succ d ih =>
    intro k a p hl hk h0 h1
    obtain ⟨k, rfl⟩ : ∃ m, k = m + 1 := ⟨k - 1, by omega⟩
    simp only [laws_heldWordOpS.l0]
    have e0 : wrap64 (a + 1) = a + 1 := w64 (by omega) (by omega)
    have e1 : wrap64 (a + 1 + 1) = a + 1 + 1 := w64 (by omega) (by omega)
    have e2 : wrap64 (a + 1 + 1 + 1) = a + 1 + 1 + 1 := w64 (by omega) (by omega)
    have e3 : wrap64 (a + 1 + 1 + 1 + 1) = a + 1 + 1 + 1 + 1 := w64 (by omega) (by omega)
    have ei : wrap64 ((p.length : Int) + 1) = ((p.length + 1 : Nat) : Int) := by
      rw [w64 (by omega) (by omega)]
      omega
    have hlen : ((p ++ mkLWordOp a (d + 1)).length : Int) = p.length + d + 1 := by
      simp [mkLWordOp_len]
      omega
    rw [if_pos (by omega), if_pos (by omega)]
    simp only [mkLWordOp, rdT34_mid, mkWordOp, e0, e1, e2, e3, ei, if_true]
    have h := ih k (a + 1 + 1 + 1 + 1) (p ++ [mkWordOp a]) (by simp; omega) (by omega) (by omega) (by omega)
    rw [List.append_assoc, List.length_append] at h
    simp only [mkWordOp, List.singleton_append, List.length_singleton] at h
    rw [h]
    refine congrArg some ?_
    omega
theorem heldWordOpS_eq {k : Nat} {m : Nat} {a : Int} (hl : m ≤ 4000000) (hk : m < k) (h0 : 0 ≤ a) (h1 : a ≤ 549755813888) : laws_heldWordOpS.f k (mkLWordOp a m) a = some (a + 4 * m) := by
  unfold laws_heldWordOpS.f
  exact heldWordOpS_l0 m k a [] (by simpa using hl) hk h0 (by omega)


end Go.Proofs.Ytbhlmgljflggeaa.M
namespace Go.Proofs.Ytbhlmgljflggeaa.M
set_option linter.unusedVariables false
set_option linter.unusedSimpArgs false
open Go.RowKit Go.Proofs.YtbhlmgljflggeaaW.PrintWords Go.Proofs.Ytbhlmgljflggeaa.Pb

/-- The merge of two sequences by turns. -/
def mergeR : List S34 → List S34 → List Bool → List S34
  | xs, ys, [] => xs ++ ys
  | [], [], _ :: _ => []
  | x :: xs, [], _ :: t => x :: mergeR xs [] t
  | [], y :: ys, _ :: t => y :: mergeR [] ys t
  | x :: xs, y :: ys, b :: t => if b = true then y :: mergeR (x :: xs) ys t else x :: mergeR xs (y :: ys) t
theorem mergeR_nil (t : List Bool) : mergeR [] [] t = [] := by
  cases t <;> simp [mergeR]
theorem mergeR_len : ∀ (t : List Bool) (xs ys : List S34), (mergeR xs ys t).length = xs.length + ys.length
  | [], xs, ys => by cases xs <;> cases ys <;> simp [mergeR] <;> omega
  | b :: t, [], [] => by simp [mergeR]
  | b :: t, x :: xs, [] => by simp [mergeR, mergeR_len t]
  | b :: t, [], y :: ys => by simp [mergeR, mergeR_len t]
  | b :: t, x :: xs, y :: ys => by
    simp only [mergeR]
    split <;> simp [mergeR_len t] <;> omega

theorem implMerged_l0 (t : List Bool) (ht : t.length ≤ 4000000) (d : Nat) : ∀ (k n : Nat) (xs ys acc : List S34), n + d = t.length → 2 * d < k → xs.length ≤ 4000000 → ys.length ≤ 4000000 → acc.length ≤ n →
    impl_Merged.l0 k xs ys acc t (t.length : Int) (n : Int) = some (acc ++ mergeR xs ys (t.drop n)) := by
  induction d with
  | zero =>
    intro k n xs ys acc hn hk hx hy ha
    obtain ⟨k, rfl⟩ : ∃ m, k = m + 1 := ⟨k - 1, by omega⟩
    simp only [impl_Merged.l0]
    rw [if_neg (by omega), if_pos (by omega), Option.bind_some, if_pos (by simp; omega), List.drop_of_length_le (by omega)]
    simp [mergeR]
  | succ d ih =>
    intro k n xs ys acc hn hk hx hy ha
    obtain ⟨k, rfl⟩ : ∃ m, k = m + 2 := ⟨k - 2, by omega⟩
    simp only [impl_Merged.l0]
    rw [if_pos (by omega), if_pos (by omega), if_pos (by omega), rdOf_at false t n (by omega), drop_cons t n (by omega)]
    have hw : wrap64 ((n : Int) + 1) = ((n + 1 : Nat) : Int) := w64 (by omega) (by omega)
    cases xs with
    | nil =>
      cases ys with
      | nil =>
        simp only [List.length_nil, Int.natCast_zero, gt_iff_lt, Int.lt_irrefl, if_false, impl_Merged.j1, Bool.false_eq_true]
        rw [hw, ih k (n + 1) [] [] acc (by omega) (by omega) (by simp) (by simp) (by omega), mergeR_nil, mergeR_nil]
      | cons y ys =>
        simp only [List.length_cons] at hy
        rw [if_pos (by simp only [List.length_cons]; omega)]
        have e : impl_Merged.j1 (k + 1) [] (y :: ys) acc t (t.length : Int) (n : Int) true = some (acc ++ mergeR [] (y :: ys) (t[n] :: t.drop (n + 1))) := by
          simp only [impl_Merged.j1]
          rw [if_pos (by trivial), if_pos (by simp only [List.length_cons]; omega), if_pos (by omega), if_pos (by simp only [List.length_cons]; omega), hw]
          rw [show (y :: ys).drop 1 = ys from rfl, show (⟨(rd_T34 (y :: ys) 0).f0, (rd_T34 (y :: ys) 0).f1, (rd_T34 (y :: ys) 0).f2, (rd_T34 (y :: ys) 0).f3⟩ : S34) = y from rfl]
          rw [ih k (n + 1) [] ys (acc ++ [y]) (by omega) (by omega) (by simp) (by omega) (by simp; omega)]
          simp [mergeR]
        split
        · exact e
        · exact e
    | cons x xs =>
      simp only [List.length_cons] at hx
      have ef : ∀ ys : List S34, ys.length ≤ 4000000 → impl_Merged.j1 (k + 1) (x :: xs) ys acc t (t.length : Int) (n : Int) false = some (acc ++ x :: mergeR xs ys (t.drop (n + 1))) := by
        intro ys hy
        simp only [impl_Merged.j1]
        rw [if_neg (by simp), if_pos (by simp only [List.length_cons]; omega), if_pos (by simp only [List.length_cons]; omega), if_pos (by omega), if_pos (by simp only [List.length_cons]; omega), hw]
        rw [show (x :: xs).drop 1 = xs from rfl, show (⟨(rd_T34 (x :: xs) 0).f0, (rd_T34 (x :: xs) 0).f1, (rd_T34 (x :: xs) 0).f2, (rd_T34 (x :: xs) 0).f3⟩ : S34) = x from rfl]
        rw [ih k (n + 1) xs ys (acc ++ [x]) (by omega) (by omega) (by omega) hy (by simp; omega)]
        simp
      cases ys with
      | nil =>
        rw [if_neg (by simp), ef [] (by simp)]
        simp [mergeR]
      | cons y ys =>
        have hy2 := hy
        simp only [List.length_cons] at hy2
        rw [if_pos (by simp only [List.length_cons]; omega)]
        cases hb : t[n] with
        | false =>
          rw [if_neg (by simp), show (((x :: xs).length : Int) == 0) = false from by simp; omega, ef (y :: ys) hy]
          simp [mergeR]
        | true =>
          rw [if_pos (by trivial)]
          simp only [impl_Merged.j1]
          rw [if_pos (by trivial), if_pos (by simp only [List.length_cons]; omega), if_pos (by omega), if_pos (by simp only [List.length_cons]; omega), hw]
          rw [show (y :: ys).drop 1 = ys from rfl, show (⟨(rd_T34 (y :: ys) 0).f0, (rd_T34 (y :: ys) 0).f1, (rd_T34 (y :: ys) 0).f2, (rd_T34 (y :: ys) 0).f3⟩ : S34) = y from rfl]
          rw [ih k (n + 1) (x :: xs) ys (acc ++ [y]) (by omega) (by omega) (by simp only [List.length_cons]; omega) (by omega) (by simp; omega)]
          simp [mergeR]

theorem implMerged_eq {k : Nat} {xs ys : List S34} {t : List Bool} (hx : xs.length ≤ 4000000) (hy : ys.length ≤ 4000000) (ht : t.length ≤ 4000000) (hk : 2 * t.length < k) : impl_Merged.f k xs ys t = some (mergeR xs ys t) := by
  unfold impl_Merged.f
  have h := implMerged_l0 t ht t.length k 0 xs ys [] (by omega) hk hx hy (by simp)
  rw [List.drop_zero, List.nil_append] at h
  exact h

theorem specMerged_y {k n i j : Nat} {xs ys : List S34} {t : List Bool} {acc : List S34} (hn : n < t.length) (hj : j < ys.length) (ht : t.length ≤ 4000000) (hy : ys.length ≤ 4000000) (ha : acc.length ≤ 8000000) (h : t[n] = true ∨ i = xs.length) :
    spec_Merged.j1 (k + 1) xs ys t acc (i : Int) (j : Int) (n : Int) true = spec_Merged.l0 k xs ys t (acc ++ [ys[j]]) (i : Int) ((j + 1 : Nat) : Int) ((n + 1 : Nat) : Int) := by
  have hw : wrap64 ((n : Int) + 1) = ((n + 1 : Nat) : Int) := w64 (by omega) (by omega)
  have hw2 : wrap64 ((j : Int) + 1) = ((j + 1 : Nat) : Int) := w64 (by omega) (by omega)
  rw [spec_Merged.j1, if_pos rfl, if_pos (by omega), if_pos (by omega), rdOf_at false t n hn, rdT34_at ys j hj, hw, hw2]
  by_cases hb : t[n] = true
  · rw [if_pos hb, if_pos (by omega), if_pos (by omega), if_pos (by omega)]
  · have hi := h.resolve_left hb
    subst hi
    rw [if_neg hb, if_pos rfl, if_pos (by omega), if_pos (by omega), if_pos (by omega)]
theorem specMerged_x {k n i j : Nat} {xs ys : List S34} {t : List Bool} {acc : List S34} (hn : n < t.length) (hi : i < xs.length) (ht : t.length ≤ 4000000) (hx : xs.length ≤ 4000000) (ha : acc.length ≤ 8000000) (h : t[n] = false ∨ j = ys.length) :
    spec_Merged.j1 (k + 1) xs ys t acc (i : Int) (j : Int) (n : Int) true = spec_Merged.l0 k xs ys t (acc ++ [xs[i]]) ((i + 1 : Nat) : Int) (j : Int) ((n + 1 : Nat) : Int) := by
  have hw : wrap64 ((n : Int) + 1) = ((n + 1 : Nat) : Int) := w64 (by omega) (by omega)
  have hw2 : wrap64 ((i : Int) + 1) = ((i + 1 : Nat) : Int) := w64 (by omega) (by omega)
  rw [spec_Merged.j1, if_pos rfl, if_pos (by omega), if_pos (by omega), rdOf_at false t n hn, rdT34_at xs i hi, hw, hw2]
  by_cases hb : t[n] = true
  · have hj := h.resolve_left (by simp [hb])
    subst hj
    rw [if_pos hb, if_neg (by omega), if_neg (by omega), if_pos (by omega), if_pos (by omega), if_pos (by omega)]
  · rw [if_neg hb, if_neg (by omega), if_pos (by omega), if_pos (by omega), if_pos (by omega)]
theorem specMerged_end {k n i j : Nat} {xs ys : List S34} {t : List Bool} {acc : List S34} (hi : i ≤ xs.length) (hj : j ≤ ys.length) (hx : xs.length ≤ 4000000) (hy : ys.length ≤ 4000000) (ha : acc.length ≤ 8000000) :
    spec_Merged.j1 (k + 1) xs ys t acc (i : Int) (j : Int) (n : Int) false = some (acc ++ (xs.drop i ++ ys.drop j)) := by
  have l1 : (xs.drop i).length = xs.length - i := by simp
  have l2 : (ys.drop j).length = ys.length - j := by simp
  have l3 : (acc ++ xs.drop i).length = acc.length + (xs.length - i) := by simp
  rw [spec_Merged.j1, if_neg Bool.false_ne_true, Int.toNat_natCast, Int.toNat_natCast, if_pos (by omega), if_pos (by omega), Option.bind_some, if_pos (by omega), Option.bind_some, if_pos (by omega), if_pos (by omega), Option.bind_some, if_pos (by omega), List.append_assoc]

theorem specMerged_l0 (xs ys : List S34) (t : List Bool) (hx : xs.length ≤ 4000000) (hy : ys.length ≤ 4000000) (ht : t.length ≤ 4000000) (d : Nat) : ∀ (k n i j : Nat) (acc : List S34), n + d = t.length → 2 * d + 1 < k → i ≤ xs.length → j ≤ ys.length → acc.length ≤ i + j →
    spec_Merged.l0 k xs ys t acc (i : Int) (j : Int) (n : Int) = some (acc ++ mergeR (xs.drop i) (ys.drop j) (t.drop n)) := by
  induction d with
  | zero =>
    intro k n i j acc hn hk hi hj ha
    obtain ⟨k, rfl⟩ : ∃ m, k = m + 2 := ⟨k - 2, by omega⟩
    rw [spec_Merged.l0, if_neg (by omega), specMerged_end hi hj hx hy (by omega), List.drop_of_length_le (l := t) (by omega)]
    simp only [mergeR]
  | succ d ih =>
    intro k n i j acc hn hk hi hj ha
    obtain ⟨k, rfl⟩ : ∃ m, k = m + 2 := ⟨k - 2, by omega⟩
    have hla : ∀ z : S34, (acc ++ [z]).length = acc.length + 1 := fun z => by simp
    have hap : ∀ (z : S34) (q : List S34), acc ++ [z] ++ q = acc ++ z :: q := fun z q => by simp
    rw [spec_Merged.l0, if_pos (by omega), w64 (by omega) (by omega), w64 (by omega) (by omega), drop_cons t n (by omega)]
    by_cases h : (i : Int) + j < (xs.length : Int) + ys.length
    · rw [decide_eq_true h]
      by_cases hj2 : j < ys.length
      · by_cases hi2 : i < xs.length
        · cases hb : t[n] with
          | false =>
            rw [specMerged_x (by omega) hi2 ht hx (by omega) (Or.inl hb), ih k (n + 1) (i + 1) j _ (by omega) (by omega) (by omega) (by omega) (by rw [hla]; omega), hap, drop_cons xs i hi2, drop_cons ys j hj2]
            simp only [mergeR, Bool.false_eq_true, if_false]
          | true =>
            rw [specMerged_y (by omega) hj2 ht hy (by omega) (Or.inl hb), ih k (n + 1) i (j + 1) _ (by omega) (by omega) (by omega) (by omega) (by rw [hla]; omega), hap, drop_cons xs i hi2, drop_cons ys j hj2]
            simp only [mergeR, if_true]
        · rw [specMerged_y (by omega) hj2 ht hy (by omega) (Or.inr (by omega)), ih k (n + 1) i (j + 1) _ (by omega) (by omega) (by omega) (by omega) (by rw [hla]; omega), hap, List.drop_of_length_le (l := xs) (by omega), drop_cons ys j hj2]
          simp only [mergeR]
      · have hi2 : i < xs.length := by omega
        rw [specMerged_x (by omega) hi2 ht hx (by omega) (Or.inr (by omega)), ih k (n + 1) (i + 1) j _ (by omega) (by omega) (by omega) (by omega) (by rw [hla]; omega), hap, List.drop_of_length_le (l := ys) (by omega), drop_cons xs i hi2]
        simp only [mergeR]
    · rw [decide_eq_false h, specMerged_end hi hj hx hy (by omega), List.drop_of_length_le (l := xs) (by omega), List.drop_of_length_le (l := ys) (by omega), mergeR_nil]
      simp

theorem specMerged_eq {k : Nat} {xs ys : List S34} {t : List Bool} (hx : xs.length ≤ 4000000) (hy : ys.length ≤ 4000000) (ht : t.length ≤ 4000000) (hk : 2 * t.length + 1 < k) : spec_Merged.f k xs ys t = some (mergeR xs ys t) := by
  unfold spec_Merged.f
  have h := specMerged_l0 xs ys t hx hy ht t.length k 0 0 0 [] (by omega) hk (by omega) (by omega) (by simp)
  rw [List.drop_zero, List.drop_zero, List.drop_zero, List.nil_append] at h
  exact h


end Go.Proofs.Ytbhlmgljflggeaa.M
namespace Go.Proofs.Ytbhlmgljflggeaa.M
set_option linter.unusedSimpArgs false
open Go.RowKit Go.Proofs.YtbhlmgljflggeaaW.PrintWords Go.Proofs.Ytbhlmgljflggeaa.Pb

theorem toBoolS_l0 (l : List Bool) (hl : l.length ≤ 4000000) (d : Nat) : ∀ (k i : Nat) (x : List Bool), i + d = l.length → d < k → x.length = l.length → laws_toBoolS.l0 k l x (i : Int) = some (x.take i ++ l.drop i) := by
  induction d with
  | zero =>
    intro k i x hi hk hx
    obtain ⟨k, rfl⟩ : ∃ m, k = m + 1 := ⟨k - 1, by omega⟩
    simp only [laws_toBoolS.l0]
    rw [if_neg (by omega), List.take_of_length_le (by omega), List.drop_of_length_le (by omega), List.append_nil]
  | succ d ih =>
    intro k i x hi hk hx
    obtain ⟨k, rfl⟩ : ∃ m, k = m + 1 := ⟨k - 1, by omega⟩
    simp only [laws_toBoolS.l0]
    rw [if_pos (by omega), if_pos (by omega), if_pos (by omega), w64 (by omega) (by omega), rdOf_at false l i (by omega), Int.toNat_natCast,
      show ((i : Int) + 1) = ((i + 1 : Nat) : Int) from by omega, ih k (i + 1) _ (by omega) (by omega) (by simp [hx]), copy_step x l i (by omega) (by omega)]
theorem toBoolS_eq {k : Nat} {l : List Bool} (hl : l.length ≤ 4000000) (hk : l.length < k) : laws_toBoolS.f k l = some l := by
  unfold laws_toBoolS.f
  rw [if_pos (by omega), if_pos (by omega)]
  have h := toBoolS_l0 l hl l.length k 0 (List.replicate ((l.length : Int) : Int).toNat false) (by omega) hk (by simp)
  rw [List.take_zero, List.drop_zero, List.nil_append] at h
  exact h
theorem eqBoolS_l0 (l : List Bool) (hl : l.length ≤ 4000000) (d : Nat) : ∀ (k i : Nat), i + d = l.length → d < k → laws_eqBoolS.l0 k l l (i : Int) = some true := by
  induction d with
  | zero =>
    intro k i hi hk
    obtain ⟨k, rfl⟩ : ∃ m, k = m + 1 := ⟨k - 1, by omega⟩
    simp only [laws_eqBoolS.l0]
    rw [if_neg (by omega)]
  | succ d ih =>
    intro k i hi hk
    obtain ⟨k, rfl⟩ : ∃ m, k = m + 1 := ⟨k - 1, by omega⟩
    simp only [laws_eqBoolS.l0]
    rw [if_pos (by omega), if_pos (by omega), if_pos (by omega), if_neg (by simp), w64 (by omega) (by omega), show ((i : Int) + 1) = ((i + 1 : Nat) : Int) from by omega]
    exact ih k (i + 1) (by omega) (by omega)
theorem eqBoolS_refl {k : Nat} {l : List Bool} (hl : l.length ≤ 4000000) (hk : l.length < k) : laws_eqBoolS.f k l l = some true := by
  unfold laws_eqBoolS.f
  rw [if_pos rfl]
  exact eqBoolS_l0 l hl l.length k 0 (by omega) hk
def mkLBool : Int → Nat → List Bool
  | _, 0 => []
  | a, m + 1 => ((Int.tmod a 3) == 0) :: mkLBool (a + 1) m
theorem mkLBool_len : ∀ (m : Nat) (a : Int), (mkLBool a m).length = m
  | 0, _ => rfl
  | m + 1, a => by simp [mkLBool, mkLBool_len m]
theorem markBoolS_l0 (d : Nat) : ∀ (k i : Nat) (a : Int) (x : List Bool), x.length ≤ 4000000 → i + d = x.length → d < k → 0 ≤ a → a + d ≤ 1099511627776 → laws_markBoolS.l0 k x a (i : Int) = some (a + d, x.take i ++ mkLBool a d) := by
  induction d with
  | zero =>
    intro k i a x hl hi hk h0 h1
    obtain ⟨k, rfl⟩ : ∃ m, k = m + 1 := ⟨k - 1, by omega⟩
    simp only [laws_markBoolS.l0]
    rw [if_neg (by omega), List.take_of_length_le (by omega)]
    simp [mkLBool]
  | succ d ih =>
    intro k i a x hl hi hk h0 h1
    obtain ⟨k, rfl⟩ : ∃ m, k = m + 1 := ⟨k - 1, by omega⟩
    simp only [laws_markBoolS.l0]
    have ei : wrap64 ((i : Int) + 1) = ((i + 1 : Nat) : Int) := by
      rw [w64 (by omega) (by omega)]
      omega
    have hx : i < x.length := by omega
    rw [if_pos (by omega), if_pos (by omega), w64 (x := a + 1) (by omega) (by omega), ei, Int.toNat_natCast,
      ih k (i + 1) (a + 1) _ (by simpa using hl) (by simp; omega) (by omega) (by omega) (by omega), set_take _ _ _ hx, List.append_assoc]
    refine congrArg some (Prod.ext ?_ rfl)
    show a + 1 + (d : Int) = a + ((d + 1 : Nat) : Int)
    omega
theorem markBoolS_eq {k : Nat} {x : List Bool} {a : Int} (hl : x.length ≤ 4000000) (hk : x.length < k) (h0 : 0 ≤ a) (h1 : a ≤ 549755813888) : laws_markBoolS.f k x a = some (a + x.length, mkLBool a x.length) := by
  unfold laws_markBoolS.f
  have h := markBoolS_l0 x.length k 0 a x hl (by omega) hk h0 (by omega)
  rw [List.take_zero, List.nil_append] at h
  exact h


end Go.Proofs.Ytbhlmgljflggeaa.M
namespace Go.Proofs.Ytbhlmgljflggeaa.Pb
theorem ifneg_lt {α : Type} {c : Int} {a b : α} (h : ¬ c < 0) : (if c < 0 then a else b) = b := if_neg h


end Go.Proofs.Ytbhlmgljflggeaa.Pb
namespace Go.Proofs.Ytbhlmgljflggeaa.Pure
set_option linter.unusedVariables false
set_option linter.unusedSimpArgs false
open Go.RowKit Go.Proofs.Ytbhlmgljflggeaa.M Go.Proofs.YtbhlmgljflggeaaW.PrintWords Go.Proofs.Ytbhlmgljflggeaa.Pb


theorem FnExactMerged : laws_FnExactMerged.Pure := by
  intro a b t ha hb _
  obtain ⟨k, hk⟩ : ∃ k : Nat, 30000000 < k := ⟨30000001, by omega⟩
  refine ⟨k + 3, ?_⟩
  unfold laws_FnExactMerged.f
  by_cases h0 : (t.length : Int) > 1048576
  · rw [if_pos h0]
  · rw [if_neg h0, szWordOpS_eq ha.1 (by omega), Option.bind_some]
    by_cases h1 : a.length ≤ 1048576
    · rw [if_neg (show ¬ ((1048576 : Int) - (a.length : Int) < 0) by omega), if_neg (by omega), szWordOpS_eq hb.1 (by omega), Option.bind_some]
      by_cases h2 : (1048576 : Int) - (a.length : Int) - (b.length : Int) < 0
      · rw [if_pos h2, if_pos (by omega)]
      · rw [if_neg h2, if_neg h2]
        have hr := mergeR_len t (a.map cvWordOp) (b.map cvWordOp)
        simp only [List.length_map] at hr
        (repeat (first | rw [if_pos rfl] | rw [if_neg Bool.false_ne_true] | rw [ifneg_lt (by (first | omega | (simp only [List.length_map, mkLBool_len, mkLWordOp_len]; omega)))] | rw [toWordOpS_eq (by (first | omega | (simp only [List.length_map, mkLBool_len, mkLWordOp_len]; omega))) (by (first | omega | (simp only [List.length_map, mkLBool_len, mkLWordOp_len]; omega)))] | rw [eqWordOpS_refl (by (first | omega | (simp only [List.length_map, mkLBool_len, mkLWordOp_len]; omega))) (by (first | omega | (simp only [List.length_map, mkLBool_len, mkLWordOp_len]; omega)))] | rw [toBoolS_eq (by (first | omega | (simp only [List.length_map, mkLBool_len, mkLWordOp_len]; omega))) (by (first | omega | (simp only [List.length_map, mkLBool_len, mkLWordOp_len]; omega)))] | rw [eqBoolS_refl (by (first | omega | (simp only [List.length_map, mkLBool_len, mkLWordOp_len]; omega))) (by (first | omega | (simp only [List.length_map, mkLBool_len, mkLWordOp_len]; omega)))] | rw [markBoolS_eq (by (first | omega | (simp only [List.length_map, mkLBool_len, mkLWordOp_len]; omega))) (by (first | omega | (simp only [List.length_map, mkLBool_len, mkLWordOp_len]; omega))) (by (first | omega | (simp only [List.length_map, mkLBool_len, mkLWordOp_len]; omega))) (by (first | omega | (simp only [List.length_map, mkLBool_len, mkLWordOp_len]; omega)))] | rw [markWordOpS_eq (by (first | omega | (simp only [List.length_map, mkLBool_len, mkLWordOp_len]; omega))) (by (first | omega | (simp only [List.length_map, mkLBool_len, mkLWordOp_len]; omega))) (by (first | omega | (simp only [List.length_map, mkLBool_len, mkLWordOp_len]; omega))) (by (first | omega | (simp only [List.length_map, mkLBool_len, mkLWordOp_len]; omega)))] | rw [heldWordOpS_eq (by (first | omega | (simp only [List.length_map, mkLBool_len, mkLWordOp_len]; omega))) (by (first | omega | (simp only [List.length_map, mkLBool_len, mkLWordOp_len]; omega))) (by (first | omega | (simp only [List.length_map, mkLBool_len, mkLWordOp_len]; omega))) (by (first | omega | (simp only [List.length_map, mkLBool_len, mkLWordOp_len]; omega)))] | rw [specMerged_eq (by (first | omega | (simp only [List.length_map, mkLBool_len, mkLWordOp_len]; omega))) (by (first | omega | (simp only [List.length_map, mkLBool_len, mkLWordOp_len]; omega))) (by (first | omega | (simp only [List.length_map, mkLBool_len, mkLWordOp_len]; omega))) (by (first | omega | (simp only [List.length_map, mkLBool_len, mkLWordOp_len]; omega)))] | rw [implMerged_eq (by (first | omega | (simp only [List.length_map, mkLBool_len, mkLWordOp_len]; omega))) (by (first | omega | (simp only [List.length_map, mkLBool_len, mkLWordOp_len]; omega))) (by (first | omega | (simp only [List.length_map, mkLBool_len, mkLWordOp_len]; omega))) (by (first | omega | (simp only [List.length_map, mkLBool_len, mkLWordOp_len]; omega)))] | (simp only [Option.bind_some, bne_self_eq_false, if_true, Bool.false_eq_true, if_false, Bool.not_true])))
        generalize hR : mergeR (a.map cvWordOp) (b.map cvWordOp) t = R at hr
        (repeat (first | rw [if_pos rfl] | rw [if_neg Bool.false_ne_true] | rw [ifneg_lt (by (first | omega | (simp only [List.length_map, mkLBool_len, mkLWordOp_len]; omega)))] | rw [toWordOpS_eq (by (first | omega | (simp only [List.length_map, mkLBool_len, mkLWordOp_len]; omega))) (by (first | omega | (simp only [List.length_map, mkLBool_len, mkLWordOp_len]; omega)))] | rw [eqWordOpS_refl (by (first | omega | (simp only [List.length_map, mkLBool_len, mkLWordOp_len]; omega))) (by (first | omega | (simp only [List.length_map, mkLBool_len, mkLWordOp_len]; omega)))] | rw [toBoolS_eq (by (first | omega | (simp only [List.length_map, mkLBool_len, mkLWordOp_len]; omega))) (by (first | omega | (simp only [List.length_map, mkLBool_len, mkLWordOp_len]; omega)))] | rw [eqBoolS_refl (by (first | omega | (simp only [List.length_map, mkLBool_len, mkLWordOp_len]; omega))) (by (first | omega | (simp only [List.length_map, mkLBool_len, mkLWordOp_len]; omega)))] | rw [markBoolS_eq (by (first | omega | (simp only [List.length_map, mkLBool_len, mkLWordOp_len]; omega))) (by (first | omega | (simp only [List.length_map, mkLBool_len, mkLWordOp_len]; omega))) (by (first | omega | (simp only [List.length_map, mkLBool_len, mkLWordOp_len]; omega))) (by (first | omega | (simp only [List.length_map, mkLBool_len, mkLWordOp_len]; omega)))] | rw [markWordOpS_eq (by (first | omega | (simp only [List.length_map, mkLBool_len, mkLWordOp_len]; omega))) (by (first | omega | (simp only [List.length_map, mkLBool_len, mkLWordOp_len]; omega))) (by (first | omega | (simp only [List.length_map, mkLBool_len, mkLWordOp_len]; omega))) (by (first | omega | (simp only [List.length_map, mkLBool_len, mkLWordOp_len]; omega)))] | rw [heldWordOpS_eq (by (first | omega | (simp only [List.length_map, mkLBool_len, mkLWordOp_len]; omega))) (by (first | omega | (simp only [List.length_map, mkLBool_len, mkLWordOp_len]; omega))) (by (first | omega | (simp only [List.length_map, mkLBool_len, mkLWordOp_len]; omega))) (by (first | omega | (simp only [List.length_map, mkLBool_len, mkLWordOp_len]; omega)))] | rw [specMerged_eq (by (first | omega | (simp only [List.length_map, mkLBool_len, mkLWordOp_len]; omega))) (by (first | omega | (simp only [List.length_map, mkLBool_len, mkLWordOp_len]; omega))) (by (first | omega | (simp only [List.length_map, mkLBool_len, mkLWordOp_len]; omega))) (by (first | omega | (simp only [List.length_map, mkLBool_len, mkLWordOp_len]; omega)))] | rw [implMerged_eq (by (first | omega | (simp only [List.length_map, mkLBool_len, mkLWordOp_len]; omega))) (by (first | omega | (simp only [List.length_map, mkLBool_len, mkLWordOp_len]; omega))) (by (first | omega | (simp only [List.length_map, mkLBool_len, mkLWordOp_len]; omega))) (by (first | omega | (simp only [List.length_map, mkLBool_len, mkLWordOp_len]; omega)))] | (simp only [Option.bind_some, bne_self_eq_false, if_true, Bool.false_eq_true, if_false, Bool.not_true])))
        rw [laws_FnExactMerged.j0]
        (repeat (first | rw [if_pos rfl] | rw [if_neg Bool.false_ne_true] | rw [ifneg_lt (by (first | omega | (simp only [List.length_map, mkLBool_len, mkLWordOp_len]; omega)))] | rw [toWordOpS_eq (by (first | omega | (simp only [List.length_map, mkLBool_len, mkLWordOp_len]; omega))) (by (first | omega | (simp only [List.length_map, mkLBool_len, mkLWordOp_len]; omega)))] | rw [eqWordOpS_refl (by (first | omega | (simp only [List.length_map, mkLBool_len, mkLWordOp_len]; omega))) (by (first | omega | (simp only [List.length_map, mkLBool_len, mkLWordOp_len]; omega)))] | rw [toBoolS_eq (by (first | omega | (simp only [List.length_map, mkLBool_len, mkLWordOp_len]; omega))) (by (first | omega | (simp only [List.length_map, mkLBool_len, mkLWordOp_len]; omega)))] | rw [eqBoolS_refl (by (first | omega | (simp only [List.length_map, mkLBool_len, mkLWordOp_len]; omega))) (by (first | omega | (simp only [List.length_map, mkLBool_len, mkLWordOp_len]; omega)))] | rw [markBoolS_eq (by (first | omega | (simp only [List.length_map, mkLBool_len, mkLWordOp_len]; omega))) (by (first | omega | (simp only [List.length_map, mkLBool_len, mkLWordOp_len]; omega))) (by (first | omega | (simp only [List.length_map, mkLBool_len, mkLWordOp_len]; omega))) (by (first | omega | (simp only [List.length_map, mkLBool_len, mkLWordOp_len]; omega)))] | rw [markWordOpS_eq (by (first | omega | (simp only [List.length_map, mkLBool_len, mkLWordOp_len]; omega))) (by (first | omega | (simp only [List.length_map, mkLBool_len, mkLWordOp_len]; omega))) (by (first | omega | (simp only [List.length_map, mkLBool_len, mkLWordOp_len]; omega))) (by (first | omega | (simp only [List.length_map, mkLBool_len, mkLWordOp_len]; omega)))] | rw [heldWordOpS_eq (by (first | omega | (simp only [List.length_map, mkLBool_len, mkLWordOp_len]; omega))) (by (first | omega | (simp only [List.length_map, mkLBool_len, mkLWordOp_len]; omega))) (by (first | omega | (simp only [List.length_map, mkLBool_len, mkLWordOp_len]; omega))) (by (first | omega | (simp only [List.length_map, mkLBool_len, mkLWordOp_len]; omega)))] | rw [specMerged_eq (by (first | omega | (simp only [List.length_map, mkLBool_len, mkLWordOp_len]; omega))) (by (first | omega | (simp only [List.length_map, mkLBool_len, mkLWordOp_len]; omega))) (by (first | omega | (simp only [List.length_map, mkLBool_len, mkLWordOp_len]; omega))) (by (first | omega | (simp only [List.length_map, mkLBool_len, mkLWordOp_len]; omega)))] | rw [implMerged_eq (by (first | omega | (simp only [List.length_map, mkLBool_len, mkLWordOp_len]; omega))) (by (first | omega | (simp only [List.length_map, mkLBool_len, mkLWordOp_len]; omega))) (by (first | omega | (simp only [List.length_map, mkLBool_len, mkLWordOp_len]; omega))) (by (first | omega | (simp only [List.length_map, mkLBool_len, mkLWordOp_len]; omega)))] | (simp only [Option.bind_some, bne_self_eq_false, if_true, Bool.false_eq_true, if_false, Bool.not_true])))
        rw [hR]
        (repeat (first | rw [if_pos rfl] | rw [if_neg Bool.false_ne_true] | rw [ifneg_lt (by (first | omega | (simp only [List.length_map, mkLBool_len, mkLWordOp_len]; omega)))] | rw [toWordOpS_eq (by (first | omega | (simp only [List.length_map, mkLBool_len, mkLWordOp_len]; omega))) (by (first | omega | (simp only [List.length_map, mkLBool_len, mkLWordOp_len]; omega)))] | rw [eqWordOpS_refl (by (first | omega | (simp only [List.length_map, mkLBool_len, mkLWordOp_len]; omega))) (by (first | omega | (simp only [List.length_map, mkLBool_len, mkLWordOp_len]; omega)))] | rw [toBoolS_eq (by (first | omega | (simp only [List.length_map, mkLBool_len, mkLWordOp_len]; omega))) (by (first | omega | (simp only [List.length_map, mkLBool_len, mkLWordOp_len]; omega)))] | rw [eqBoolS_refl (by (first | omega | (simp only [List.length_map, mkLBool_len, mkLWordOp_len]; omega))) (by (first | omega | (simp only [List.length_map, mkLBool_len, mkLWordOp_len]; omega)))] | rw [markBoolS_eq (by (first | omega | (simp only [List.length_map, mkLBool_len, mkLWordOp_len]; omega))) (by (first | omega | (simp only [List.length_map, mkLBool_len, mkLWordOp_len]; omega))) (by (first | omega | (simp only [List.length_map, mkLBool_len, mkLWordOp_len]; omega))) (by (first | omega | (simp only [List.length_map, mkLBool_len, mkLWordOp_len]; omega)))] | rw [markWordOpS_eq (by (first | omega | (simp only [List.length_map, mkLBool_len, mkLWordOp_len]; omega))) (by (first | omega | (simp only [List.length_map, mkLBool_len, mkLWordOp_len]; omega))) (by (first | omega | (simp only [List.length_map, mkLBool_len, mkLWordOp_len]; omega))) (by (first | omega | (simp only [List.length_map, mkLBool_len, mkLWordOp_len]; omega)))] | rw [heldWordOpS_eq (by (first | omega | (simp only [List.length_map, mkLBool_len, mkLWordOp_len]; omega))) (by (first | omega | (simp only [List.length_map, mkLBool_len, mkLWordOp_len]; omega))) (by (first | omega | (simp only [List.length_map, mkLBool_len, mkLWordOp_len]; omega))) (by (first | omega | (simp only [List.length_map, mkLBool_len, mkLWordOp_len]; omega)))] | rw [specMerged_eq (by (first | omega | (simp only [List.length_map, mkLBool_len, mkLWordOp_len]; omega))) (by (first | omega | (simp only [List.length_map, mkLBool_len, mkLWordOp_len]; omega))) (by (first | omega | (simp only [List.length_map, mkLBool_len, mkLWordOp_len]; omega))) (by (first | omega | (simp only [List.length_map, mkLBool_len, mkLWordOp_len]; omega)))] | rw [implMerged_eq (by (first | omega | (simp only [List.length_map, mkLBool_len, mkLWordOp_len]; omega))) (by (first | omega | (simp only [List.length_map, mkLBool_len, mkLWordOp_len]; omega))) (by (first | omega | (simp only [List.length_map, mkLBool_len, mkLWordOp_len]; omega))) (by (first | omega | (simp only [List.length_map, mkLBool_len, mkLWordOp_len]; omega)))] | (simp only [Option.bind_some, bne_self_eq_false, if_true, Bool.false_eq_true, if_false, Bool.not_true])))
    · rw [if_pos (show ((1048576 : Int) - (a.length : Int) < 0) by omega), if_pos (by omega)]


end Go.Proofs.Ytbhlmgljflggeaa.Pure
