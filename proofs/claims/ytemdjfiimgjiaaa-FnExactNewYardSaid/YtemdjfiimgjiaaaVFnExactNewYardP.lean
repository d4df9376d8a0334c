/- The pure statement of FnExactNewYard and what it needs. Conditions: those that each theorem states. -/
import Derived.Test.YtemdjfiimgjiaaaVFnExactNewYard2
import Derived.RowKit
namespace Go.Proofs.Ytemdjfiimgjiaaa.Pb
open Go.RowKit Go.Proofs.YtemdjfiimgjiaaaW.PrintWords

theorem w64 {x : Int} (h0 : -9223372036854775808 ≤ x) (h1 : x ≤ 9223372036854775807) : wrap64 x = x := by
  unfold wrap64
  omega

theorem set_take {α : Type} (x : List α) (v : α) (i : Nat) (h : i < x.length) : (x.set i v).take (i + 1) = x.take i ++ [v] := by
  rw [List.take_succ_eq_append_getElem (by simpa using h)]
  rw [List.take_set_of_le (Nat.le_refl i)]
  simp


end Go.Proofs.Ytemdjfiimgjiaaa.Pb
namespace Go.Proofs.Ytemdjfiimgjiaaa.M
set_option linter.unusedVariables false
set_option linter.unusedSimpArgs false
open Go.RowKit Go.Proofs.YtemdjfiimgjiaaaW.PrintWords Go.Proofs.Ytemdjfiimgjiaaa.Pb

theorem eqIntS_l0 (l : List Int) (hl : l.length ≤ 4000000) (d : Nat) : ∀ (k i : Nat), i + d = l.length → d < k → laws_eqIntS.l0 k l l (i : Int) = some true := by
  induction d with
  | zero =>
    intro k i hi hk
    obtain ⟨k, rfl⟩ : ∃ m, k = m + 1 := ⟨k - 1, by omega⟩
    simp only [laws_eqIntS.l0]
    rw [if_neg (by omega)]
  | succ d ih =>
    intro k i hi hk
    obtain ⟨k, rfl⟩ : ∃ m, k = m + 1 := ⟨k - 1, by omega⟩
    simp only [laws_eqIntS.l0]
    rw [if_pos (by omega), if_pos (by omega), if_pos (by omega), if_pos trivial, w64 (by omega) (by omega), show ((i : Int) + 1) = ((i + 1 : Nat) : Int) from by omega]
    exact ih k (i + 1) (by omega) (by omega)

theorem eqIntS_refl {k : Nat} {l : List Int} (hl : l.length ≤ 4000000) (hk : l.length < k) : laws_eqIntS.f k l l = some true := by
  unfold laws_eqIntS.f
  rw [if_pos rfl]
  exact eqIntS_l0 l hl l.length k 0 (by omega) hk

/-- All of a list within bounds. -/
def inB (a b x : Int) : Bool := decide (a ≤ x) && decide (x ≤ b)

theorem l1In_eq (x a b : Int) : spec_l1In.f x a b = some (inB a b x) := by
  unfold spec_l1In.f inB
  by_cases h : x ≥ a
  · rw [if_pos h, decide_eq_true (show a ≤ x from h), Bool.true_and]
  · rw [if_neg h, decide_eq_false (show ¬ a ≤ x from h), Bool.false_and]

theorem in_eq (x a b : Int) : impl_in.f x a b = some (inB a b x) := by
  unfold impl_in.f inB
  by_cases h : a ≤ x
  · rw [if_pos h, decide_eq_true h, Bool.true_and]
  · rw [if_neg h, decide_eq_false h, Bool.false_and]


end Go.Proofs.Ytemdjfiimgjiaaa.M
namespace Go.Proofs.Ytemdjfiimgjiaaa.Pb
theorem ifneg_lt {α : Type} {c : Int} {a b : α} (h : ¬ c < 0) : (if c < 0 then a else b) = b := if_neg h


end Go.Proofs.Ytemdjfiimgjiaaa.Pb
namespace Go.Proofs.Ytemdjfiimgjiaaa.M
set_option linter.unusedVariables false
set_option linter.unusedSimpArgs false
open Go.RowKit Go.Proofs.YtemdjfiimgjiaaaW.PrintWords Go.Proofs.Ytemdjfiimgjiaaa.Pb

theorem rdB_set (l : List S77) (i : Nat) (y : S77) (h : i < l.length) : rd_T77 (l.set i y) (i : Int) = y := by
  simp [rd_T77, List.getD_eq_getElem?_getD, h]
theorem rdB_mid (p q : List S77) (y : S77) : rd_T77 (p ++ y :: q) ((p.length : Nat) : Int) = y := by
  simp [rd_T77, List.getD_eq_getElem?_getD]
theorem w01 : wrap64 ((0 : Int) + 1) = 1 := w64 (by decide) (by decide)
theorem w12 : wrap64 ((1 : Int) + 1) = 2 := w64 (by decide) (by decide)
theorem w23 : wrap64 ((2 : Int) + 1) = 3 := w64 (by decide) (by decide)
theorem eqIntA3_refl {k : Nat} {a b c : Int} (hk : 3 < k) : laws_eqIntA3.f k a b c a b c = some true := by
  obtain ⟨k, rfl⟩ : ∃ m, k = m + 4 := ⟨k - 4, by omega⟩
  unfold laws_eqIntA3.f
  rw [laws_eqIntA3.l0, if_pos (by decide), if_pos rfl, if_pos rfl, w01, laws_eqIntA3.l0, if_pos (by decide), if_neg (by decide), if_pos rfl, if_pos rfl, w12, laws_eqIntA3.l0, if_pos (by decide), if_neg (by decide), if_neg (by decide), if_pos rfl, if_pos rfl, w23, laws_eqIntA3.l0, if_neg (by decide)]
theorem eqBlock_refl {k : Nat} {a : Int} {b : Bool} {c d e : Int} (hk : 3 < k) : laws_eqBlock.f k a b c d e a b c d e = some true := by
  unfold laws_eqBlock.f
  rw [if_pos rfl, if_neg (by simp), eqIntA3_refl hk, Option.bind_some, if_pos rfl]
theorem eqBlockS_l0 (l : List S77) (hl : l.length ≤ 4000000) (d : Nat) : ∀ (k i : Nat), i + d = l.length → d + 4 < k → laws_eqBlockS.l0 k l l (i : Int) = some true := by
  induction d with
  | zero =>
    intro k i hi hk
    obtain ⟨k, rfl⟩ : ∃ m, k = m + 1 := ⟨k - 1, by omega⟩
    simp only [laws_eqBlockS.l0]
    rw [if_neg (by omega)]
  | succ d ih =>
    intro k i hi hk
    obtain ⟨k, rfl⟩ : ∃ m, k = m + 1 := ⟨k - 1, by omega⟩
    simp only [laws_eqBlockS.l0]
    rw [if_pos (by omega), if_pos (by omega), if_pos (by omega), eqBlock_refl (by omega), Option.bind_some, if_pos rfl, w64 (by omega) (by omega), show ((i : Int) + 1) = ((i + 1 : Nat) : Int) from by omega]
    exact ih k (i + 1) (by omega) (by omega)
theorem eqBlockS_refl {k : Nat} {l : List S77} (hl : l.length ≤ 4000000) (hk : l.length + 4 < k) : laws_eqBlockS.f k l l = some true := by
  unfold laws_eqBlockS.f
  rw [if_pos rfl]
  exact eqBlockS_l0 l hl l.length k 0 (by omega) hk


end Go.Proofs.Ytemdjfiimgjiaaa.M
namespace Go.Proofs.Ytemdjfiimgjiaaa.M
set_option linter.unusedVariables false
set_option linter.unusedSimpArgs false
open Go.RowKit Go.Proofs.YtemdjfiimgjiaaaW.PrintWords Go.Proofs.Ytemdjfiimgjiaaa.Pb

theorem inB_iff {a b x : Int} : inB a b x = true ↔ a ≤ x ∧ x ≤ b := by
  unfold inB
  simp
theorem eqArena_refl {k : Nat} {B : List S77} {L : List Int} (hB : B.length ≤ 4000000) (hL : L.length ≤ 4000000) (hk : B.length + L.length + 4 < k) : laws_eqArena.f k B L B L = some true := by
  unfold laws_eqArena.f
  rw [eqBlockS_refl hB (by omega), Option.bind_some, if_pos rfl, eqIntS_refl hL (by omega), Option.bind_some, if_pos rfl]


end Go.Proofs.Ytemdjfiimgjiaaa.M
namespace Go.Proofs.Ytemdjfiimgjiaaa.M
set_option linter.unusedVariables false
set_option linter.unusedSimpArgs false
open Go.RowKit Go.Proofs.YtemdjfiimgjiaaaW.PrintWords Go.Proofs.Ytemdjfiimgjiaaa.Pb

/-- Free blocks and their places from i on. -/
def nwB : Nat → List S77
  | 0 => []
  | d + 1 => ⟨0, true, ⟨0, 0, 0⟩⟩ :: nwB d
def nwL : Nat → Nat → List Int
  | _, 0 => []
  | i, d + 1 => (i : Int) :: nwL (i + 1) d
theorem nwB_len : ∀ d, (nwB d).length = d
  | 0 => rfl
  | d + 1 => by simp [nwB, nwB_len d]
theorem nwL_len : ∀ d i, (nwL i d).length = d
  | 0, _ => rfl
  | d + 1, i => by simp [nwL, nwL_len d]
def newR (n : Int) : List S77 × List Int × Bool := if inB 1 24 n = true then (nwB n.toNat, nwL 0 n.toNat, true) else ([], [], false)
theorem newR_len (n : Int) : (newR n).1.length ≤ 24 ∧ (newR n).2.1.length ≤ 24 := by
  unfold newR
  split
  · rename_i h
    have h1 := inB_iff.1 h
    exact ⟨by rw [nwB_len]; omega, by rw [nwL_len]; omega⟩
  · exact ⟨Nat.zero_le _, Nat.zero_le _⟩
theorem specNew_l0 (n : Int) (hn : n ≤ 24) (d : Nat) : ∀ (k i : Nat) (P : List S77) (Q : List Int), (i : Int) + d = n → d < k → P.length = i → Q.length = i → spec_NewArena.l0 k n (i : Int) P Q = some (P ++ nwB d, Q ++ nwL i d, true) := by
  induction d with
  | zero =>
    intro k i P Q hi hk hP hQ
    obtain ⟨k, rfl⟩ : ∃ m, k = m + 1 := ⟨k - 1, by omega⟩
    rw [spec_NewArena.l0, if_neg (by omega)]
    simp [nwB, nwL]
  | succ d ih =>
    intro k i P Q hi hk hP hQ
    obtain ⟨k, rfl⟩ : ∃ m, k = m + 1 := ⟨k - 1, by omega⟩
    rw [spec_NewArena.l0, if_pos (by omega), if_pos (by omega), if_pos (by omega), w64 (by omega) (by omega), show ((i : Int) + 1) = ((i + 1 : Nat) : Int) from by omega, ih k (i + 1) _ _ (by omega) (by omega) (by simp [hP]) (by simp [hQ])]
    simp [nwB, nwL, List.append_assoc]
theorem implNew_l0 (n : Int) (hn : n ≤ 24) (d : Nat) : ∀ (k i : Nat) (P : List S77) (Q : List Int), (i : Int) + d = n → d < k → P.length = i → Q.length = i → impl_NewArena.l0 k n (i : Int) P Q = some (P ++ nwB d, Q ++ nwL i d, true) := by
  induction d with
  | zero =>
    intro k i P Q hi hk hP hQ
    obtain ⟨k, rfl⟩ : ∃ m, k = m + 1 := ⟨k - 1, by omega⟩
    rw [impl_NewArena.l0, if_neg (by omega)]
    simp [nwB, nwL]
  | succ d ih =>
    intro k i P Q hi hk hP hQ
    obtain ⟨k, rfl⟩ : ∃ m, k = m + 1 := ⟨k - 1, by omega⟩
    rw [impl_NewArena.l0, if_pos (by omega), if_pos (by omega), if_pos (by omega), w64 (by omega) (by omega), show ((i : Int) + 1) = ((i + 1 : Nat) : Int) from by omega, ih k (i + 1) _ _ (by omega) (by omega) (by simp [hP]) (by simp [hQ])]
    simp [nwB, nwL, List.append_assoc]
theorem specNew_eq {k : Nat} {n : Int} (hk : 24 < k) : spec_NewArena.f k n = some (newR n) := by
  unfold spec_NewArena.f newR
  rw [l1In_eq, Option.bind_some]
  cases h : inB 1 24 n with
  | false => rw [if_neg Bool.false_ne_true, if_neg Bool.false_ne_true]
  | true =>
    have h1 := inB_iff.1 h
    have h2 := specNew_l0 n h1.2 n.toNat k 0 [] [] (by omega) (by omega) rfl rfl
    rw [show ((0 : Nat) : Int) = 0 from rfl] at h2
    rw [if_pos rfl, if_pos rfl, h2]
    rfl
theorem implNew_eq {k : Nat} {n : Int} (hk : 24 < k) : impl_NewArena.f k n = some (newR n) := by
  unfold impl_NewArena.f newR
  rw [in_eq, Option.bind_some]
  cases h : inB 1 24 n with
  | false => rw [if_neg Bool.false_ne_true, if_neg Bool.false_ne_true]
  | true =>
    have h1 := inB_iff.1 h
    have h2 := implNew_l0 n h1.2 n.toNat k 0 [] [] (by omega) (by omega) rfl rfl
    rw [show ((0 : Nat) : Int) = 0 from rfl] at h2
    rw [if_pos rfl, if_pos rfl, h2]
    rfl


end Go.Proofs.Ytemdjfiimgjiaaa.M
namespace Go.Proofs.Ytemdjfiimgjiaaa.M
set_option linter.unusedVariables false
set_option linter.unusedSimpArgs false
open Go.RowKit Go.Proofs.YtemdjfiimgjiaaaW.PrintWords Go.Proofs.Ytemdjfiimgjiaaa.Pb

def newYR (n t : Int) : List S77 × List Int × List Int × List S41 × Int × Bool := if (newR n).2.2 = true then (if inB 1 6 t = true then ((newR n).1, (newR n).2.1, List.replicate t.toNat (-1), [], 0, true) else ([], [], [], [], 0, false)) else ([], [], [], [], 0, false)
theorem newYR_len (n t : Int) : (newYR n t).1.length ≤ 24 ∧ (newYR n t).2.1.length ≤ 24 ∧ (newYR n t).2.2.1.length ≤ 6 ∧ (newYR n t).2.2.2.1.length ≤ 0 := by
  have h := newR_len n
  unfold newYR
  split
  · split
    · rename_i h1 h2
      have h3 := inB_iff.1 h2
      exact ⟨h.1, h.2, by simp only [List.length_replicate]; omega, Nat.le_refl _⟩
    · exact ⟨Nat.zero_le _, Nat.zero_le _, Nat.zero_le _, Nat.le_refl _⟩
  · exact ⟨Nat.zero_le _, Nat.zero_le _, Nat.zero_le _, Nat.le_refl _⟩
theorem specNewY_l0 (n : Int) (hn : n ≤ 6) (B : List S77) (L : List Int) (p : Int) (d : Nat) : ∀ (k i : Nat) (P : List Int), (i : Int) + d = n → d < k → P.length = i → spec_NewYard.l0 k n (i : Int) B L P p = some (B, L, P ++ List.replicate d (-1), [], p, true) := by
  induction d with
  | zero =>
    intro k i P hi hk hP
    obtain ⟨k, rfl⟩ : ∃ m, k = m + 1 := ⟨k - 1, by omega⟩
    rw [spec_NewYard.l0, if_neg (by omega)]
    simp
  | succ d ih =>
    intro k i P hi hk hP
    obtain ⟨k, rfl⟩ : ∃ m, k = m + 1 := ⟨k - 1, by omega⟩
    rw [spec_NewYard.l0, if_pos (by omega), if_pos (by omega), w64 (by omega) (by omega), show ((i : Int) + 1) = ((i + 1 : Nat) : Int) from by omega, ih k (i + 1) _ (by omega) (by omega) (by simp [hP])]
    simp [List.replicate_succ]
theorem implNewY_l0 (n : Int) (hn : n ≤ 6) (B : List S77) (L : List Int) (p : Int) (d : Nat) : ∀ (k i : Nat) (P : List Int), (i : Int) + d = n → d < k → P.length = i → impl_NewYard.l0 k n (i : Int) B L P p = some (B, L, P ++ List.replicate d (-1), [], p, true) := by
  induction d with
  | zero =>
    intro k i P hi hk hP
    obtain ⟨k, rfl⟩ : ∃ m, k = m + 1 := ⟨k - 1, by omega⟩
    rw [impl_NewYard.l0, if_neg (by omega)]
    simp
  | succ d ih =>
    intro k i P hi hk hP
    obtain ⟨k, rfl⟩ : ∃ m, k = m + 1 := ⟨k - 1, by omega⟩
    rw [impl_NewYard.l0, if_pos (by omega), if_pos (by omega), w64 (by omega) (by omega), show ((i : Int) + 1) = ((i + 1 : Nat) : Int) from by omega, ih k (i + 1) _ (by omega) (by omega) (by simp [hP])]
    simp [List.replicate_succ]
theorem specNewY_eq {k : Nat} {n t : Int} (hk : 40 < k) : spec_NewYard.f k n t = some (newYR n t) := by
  obtain ⟨k, rfl⟩ : ∃ m, k = m + 1 := ⟨k - 1, by omega⟩
  unfold spec_NewYard.f newYR
  rw [specNew_eq (by omega), Option.bind_some, l1In_eq, Option.bind_some]
  generalize newR n = r
  cases r.2.2 with
  | false => rw [if_neg Bool.false_ne_true, if_neg Bool.false_ne_true, spec_NewYard.j0, if_pos rfl]
  | true =>
    rw [if_pos rfl, if_pos rfl]
    cases h : inB 1 6 t with
    | false => rw [if_neg Bool.false_ne_true, Bool.not_false, spec_NewYard.j0, if_pos rfl]
    | true =>
      have h1 := inB_iff.1 h
      have h2 := specNewY_l0 t h1.2 r.1 r.2.1 0 t.toNat k 0 [] (by omega) (by omega) rfl
      rw [show ((0 : Nat) : Int) = 0 from rfl] at h2
      rw [if_pos rfl, Bool.not_true, spec_NewYard.j0, if_neg Bool.false_ne_true, h2]
      rfl
theorem implNewY_eq {k : Nat} {n t : Int} (hk : 40 < k) : impl_NewYard.f k n t = some (newYR n t) := by
  obtain ⟨k, rfl⟩ : ∃ m, k = m + 1 := ⟨k - 1, by omega⟩
  unfold impl_NewYard.f newYR
  rw [implNew_eq (by omega), Option.bind_some, in_eq, Option.bind_some]
  generalize newR n = r
  cases r.2.2 with
  | false => rw [if_neg Bool.false_ne_true, if_neg Bool.false_ne_true, impl_NewYard.j0, if_pos rfl]
  | true =>
    rw [if_pos rfl, if_pos rfl]
    cases h : inB 1 6 t with
    | false => rw [if_neg Bool.false_ne_true, Bool.not_false, impl_NewYard.j0, if_pos rfl]
    | true =>
      have h1 := inB_iff.1 h
      have h2 := implNewY_l0 t h1.2 r.1 r.2.1 0 t.toNat k 0 [] (by omega) (by omega) rfl
      rw [show ((0 : Nat) : Int) = 0 from rfl] at h2
      rw [if_pos rfl, Bool.not_true, impl_NewYard.j0, if_neg Bool.false_ne_true, h2]
      rfl


end Go.Proofs.Ytemdjfiimgjiaaa.M
namespace Go.Proofs.Ytemdjfiimgjiaaa.M
set_option linter.unusedSimpArgs false
open Go.RowKit Go.Proofs.YtemdjfiimgjiaaaW.PrintWords Go.Proofs.Ytemdjfiimgjiaaa.Pb

theorem rd_mid (p q : List Int) (y : Int) : rd (p ++ y :: q) ((p.length : Nat) : Int) = y := by
  simp [rd, List.getD_eq_getElem?_getD]
def mkLInt : Int → Nat → List Int
  | _, 0 => []
  | a, m + 1 => a :: mkLInt (a + 1) m
theorem mkLInt_len : ∀ (m : Nat) (a : Int), (mkLInt a m).length = m
  | 0, _ => rfl
  | m + 1, a => by simp [mkLInt, mkLInt_len m]
theorem markIntS_l0 (d : Nat) : ∀ (k i : Nat) (a : Int) (x : List Int), x.length ≤ 4000000 → i + d = x.length → d < k → 0 ≤ a → a + d ≤ 1099511627776 → laws_markIntS.l0 k x a (i : Int) = some (a + d, x.take i ++ mkLInt a d) := by
  induction d with
  | zero =>
    intro k i a x hl hi hk h0 h1
    obtain ⟨k, rfl⟩ : ∃ m, k = m + 1 := ⟨k - 1, by omega⟩
    simp only [laws_markIntS.l0]
    rw [if_neg (by omega), List.take_of_length_le (by omega)]
    simp [mkLInt]
  | succ d ih =>
    intro k i a x hl hi hk h0 h1
    obtain ⟨k, rfl⟩ : ∃ m, k = m + 1 := ⟨k - 1, by omega⟩
    simp only [laws_markIntS.l0]
    have ei : wrap64 ((i : Int) + 1) = ((i + 1 : Nat) : Int) := by
      rw [w64 (by omega) (by omega)]
      omega
    have hx : i < x.length := by omega
    rw [if_pos (by omega), if_pos (by omega), w64 (x := a + 1) (by omega) (by omega), ei, Int.toNat_natCast,
      ih k (i + 1) (a + 1) _ (by simpa using hl) (by simp; omega) (by omega) (by omega) (by omega), set_take _ _ _ hx, List.append_assoc]
    refine congrArg some (Prod.ext ?_ rfl)
    show a + 1 + (d : Int) = a + ((d + 1 : Nat) : Int)
    omega
theorem markIntS_eq {k : Nat} {x : List Int} {a : Int} (hl : x.length ≤ 4000000) (hk : x.length < k) (h0 : 0 ≤ a) (h1 : a ≤ 549755813888) : laws_markIntS.f k x a = some (a + x.length, mkLInt a x.length) := by
  unfold laws_markIntS.f
  have h := markIntS_l0 x.length k 0 a x hl (by omega) hk h0 (by omega)
  rw [List.take_zero, List.nil_append] at h
  exact h
theorem heldIntS_l0 (d : Nat) : ∀ (k : Nat) (a : Int) (p : List Int), p.length + d ≤ 4000000 → d < k → 0 ≤ a → a + d ≤ 1099511627776 → laws_heldIntS.l0 k (p ++ mkLInt a d) a ((p.length : Nat) : Int) = some (a + d) := by
  induction d with
  | zero =>
    intro k a p hl hk h0 h1
    obtain ⟨k, rfl⟩ : ∃ m, k = m + 1 := ⟨k - 1, by omega⟩
    simp only [laws_heldIntS.l0]
    rw [if_neg (by simp [mkLInt])]
    simp
  | succ d ih =>
    intro k a p hl hk h0 h1
    obtain ⟨k, rfl⟩ : ∃ m, k = m + 1 := ⟨k - 1, by omega⟩
    simp only [laws_heldIntS.l0]
    have ei : wrap64 ((p.length : Int) + 1) = ((p.length + 1 : Nat) : Int) := by
      rw [w64 (by omega) (by omega)]
      omega
    have ea : wrap64 (a + 1) = a + 1 := w64 (by omega) (by omega)
    have hlen : ((p ++ mkLInt a (d + 1)).length : Int) = p.length + d + 1 := by
      simp [mkLInt_len]
      omega
    rw [if_pos (by omega), if_pos (by omega)]
    simp only [mkLInt, rd_mid, ea, ei, if_true]
    have h := ih k (a + 1) (p ++ [a]) (by simp; omega) (by omega) (by omega) (by omega)
    rw [List.append_assoc, List.length_append] at h
    simp only [List.singleton_append, List.length_singleton] at h
    rw [h]
    refine congrArg some ?_
    omega
theorem heldIntS_eq {k : Nat} {m : Nat} {a : Int} (hl : m ≤ 4000000) (hk : m < k) (h0 : 0 ≤ a) (h1 : a ≤ 549755813888) : laws_heldIntS.f k (mkLInt a m) a = some (a + m) := by
  unfold laws_heldIntS.f
  exact heldIntS_l0 m k a [] (by simpa using hl) hk h0 (by omega)


end Go.Proofs.Ytemdjfiimgjiaaa.M
namespace Go.Proofs.Ytemdjfiimgjiaaa.M
set_option linter.unusedSimpArgs false
open Go.RowKit Go.Proofs.YtemdjfiimgjiaaaW.PrintWords Go.Proofs.Ytemdjfiimgjiaaa.Pb

theorem rdT41_set (l : List S41) (i : Nat) (y : S41) (h : i < l.length) : rd_T41 (l.set i y) (i : Int) = y := by
  simp [rd_T41, List.getD_eq_getElem?_getD, h]
theorem rdT41_mid (p q : List S41) (y : S41) : rd_T41 (p ++ y :: q) ((p.length : Nat) : Int) = y := by
  simp [rd_T41, List.getD_eq_getElem?_getD]
theorem eqGone_refl (a0 : Int) (a1 : Int) : laws_eqGone.f a0 a1 a0 a1 = some true := by
  simp [laws_eqGone.f]
theorem eqGoneS_l0 (l : List S41) (hl : l.length ≤ 4000000) (d : Nat) : ∀ (k i : Nat), i + d = l.length → d < k → laws_eqGoneS.l0 k l l (i : Int) = some true := by
  induction d with
  | zero =>
    intro k i hi hk
    obtain ⟨k, rfl⟩ : ∃ m, k = m + 1 := ⟨k - 1, by omega⟩
    simp only [laws_eqGoneS.l0]
    rw [if_neg (by omega)]
  | succ d ih =>
    intro k i hi hk
    obtain ⟨k, rfl⟩ : ∃ m, k = m + 1 := ⟨k - 1, by omega⟩
    simp only [laws_eqGoneS.l0]
    rw [if_pos (by omega), if_pos (by omega), if_pos (by omega), eqGone_refl, Option.bind_some, if_pos rfl, w64 (by omega) (by omega), show ((i : Int) + 1) = ((i + 1 : Nat) : Int) from by omega]
    exact ih k (i + 1) (by omega) (by omega)
theorem eqGoneS_refl {k : Nat} {l : List S41} (hl : l.length ≤ 4000000) (hk : l.length < k) : laws_eqGoneS.f k l l = some true := by
  unfold laws_eqGoneS.f
  rw [if_pos rfl]
  exact eqGoneS_l0 l hl l.length k 0 (by omega) hk
def mkGone (a : Int) : S41 := ⟨(a), (a + 1)⟩
def mkLGone : Int → Nat → List S41
  | _, 0 => []
  | a, m + 1 => mkGone a :: mkLGone (a + 1 + 1) m
theorem mkLGone_len : ∀ (m : Nat) (a : Int), (mkLGone a m).length = m
  | 0, _ => rfl
  | m + 1, a => by simp [mkLGone, mkLGone_len m]
theorem markGoneS_l0 (d : Nat) : ∀ (k i : Nat) (a : Int) (x : List S41), x.length ≤ 4000000 → i + d = x.length → d < k → 0 ≤ a → a + 2 * d ≤ 1099511627776 → laws_markGoneS.l0 k x a (i : Int) = some (a + 2 * d, x.take i ++ mkLGone a d) := by
  induction d with
  | zero =>
    intro k i a x hl hi hk h0 h1
    obtain ⟨k, rfl⟩ : ∃ m, k = m + 1 := ⟨k - 1, by omega⟩
    simp only [laws_markGoneS.l0]
    rw [if_neg (by omega), List.take_of_length_le (by omega)]
    simp [mkLGone]
  | succ d ih =>
    intro k i a x hl hi hk h0 h1
    obtain ⟨k, rfl⟩ : ∃ m, k = m + 1 := ⟨k - 1, by omega⟩
    simp only [laws_markGoneS.l0]
    have e0 : wrap64 (a + 1) = a + 1 := w64 (by omega) (by omega)
    have e1 : wrap64 (a + 1 + 1) = a + 1 + 1 := w64 (by omega) (by omega)
    have ei : wrap64 ((i : Int) + 1) = ((i + 1 : Nat) : Int) := by
      rw [w64 (by omega) (by omega)]
      omega
    have hx : i < x.length := by omega
    rw [if_pos (by omega), if_pos (by omega)]
    simp only [Option.bind_some, Int.toNat_natCast, List.set_set, rdT41_set, List.length_set, hx, e0, e1, ei]
    have hd : ((d + 1 : Nat) : Int) = (d : Int) + 1 := by omega
    refine Eq.trans (ih k (i + 1) (a + 1 + 1) (x.set i (mkGone a)) (by simpa using hl) (by simp; omega) (by omega) (by omega) (by omega)) ?_
    rw [set_take _ _ _ hx, List.append_assoc]
    refine congrArg some (Prod.ext ?_ rfl)
    show a + 1 + 1 + 2 * (d : Int) = a + 2 * ((d + 1 : Nat) : Int)
    omega
theorem markGoneS_eq {k : Nat} {x : List S41} {a : Int} (hl : x.length ≤ 4000000) (hk : x.length < k) (h0 : 0 ≤ a) (h1 : a ≤ 549755813888) : laws_markGoneS.f k x a = some (a + 2 * x.length, mkLGone a x.length) := by
  unfold laws_markGoneS.f
  have h := markGoneS_l0 x.length k 0 a x hl (by omega) hk h0 (by omega)
  rw [List.take_zero, List.nil_append] at h
  exact h
theorem heldGoneS_l0 (d : Nat) : ∀ (k : Nat) (a : Int) (p : List S41), p.length + d ≤ 4000000 → d < k → 0 ≤ a → a + 2 * d ≤ 1099511627776 → laws_heldGoneS.l0 k (p ++ mkLGone a d) a ((p.length : Nat) : Int) = some (a + 2 * d) := by
  induction d with
  | zero =>
    intro k a p hl hk h0 h1
    obtain ⟨k, rfl⟩ : ∃ m, k = m + 1 := ⟨k - 1, by omega⟩
    simp only [laws_heldGoneS.l0]
    rw [if_neg (by simp [mkLGone])]
    simp
  | succ d ih =>
    intro k a p hl hk h0 h1
    obtain ⟨k, rfl⟩ : ∃ m, k = m + 1 := ⟨k - 1, by omega⟩
    simp only [laws_heldGoneS.l0]
    have e0 : wrap64 (a + 1) = a + 1 := w64 (by omega) (by omega)
    have e1 : wrap64 (a + 1 + 1) = a + 1 + 1 := w64 (by omega) (by omega)
    have ei : wrap64 ((p.length : Int) + 1) = ((p.length + 1 : Nat) : Int) := by
      rw [w64 (by omega) (by omega)]
      omega
    have hlen : ((p ++ mkLGone a (d + 1)).length : Int) = p.length + d + 1 := by
      simp [mkLGone_len]
      omega
    rw [if_pos (by omega), if_pos (by omega)]
    simp only [mkLGone, rdT41_mid, mkGone, e0, e1, ei, if_true]
    have h := ih k (a + 1 + 1) (p ++ [mkGone a]) (by simp; omega) (by omega) (by omega) (by omega)
    rw [List.append_assoc, List.length_append] at h
    simp only [mkGone, List.singleton_append, List.length_singleton] at h
    rw [h]
    refine congrArg some ?_
    omega
theorem heldGoneS_eq {k : Nat} {m : Nat} {a : Int} (hl : m ≤ 4000000) (hk : m < k) (h0 : 0 ≤ a) (h1 : a ≤ 549755813888) : laws_heldGoneS.f k (mkLGone a m) a = some (a + 2 * m) := by
  unfold laws_heldGoneS.f
  exact heldGoneS_l0 m k a [] (by simpa using hl) hk h0 (by omega)


end Go.Proofs.Ytemdjfiimgjiaaa.M
namespace Go.Proofs.Ytemdjfiimgjiaaa.M
set_option linter.unusedVariables false
set_option linter.unusedSimpArgs false
open Go.RowKit Go.Proofs.YtemdjfiimgjiaaaW.PrintWords Go.Proofs.Ytemdjfiimgjiaaa.Pb

-- the laws' own
theorem eqYard_refl {k : Nat} {B : List S77} {L Q : List Int} {R : List S41} {p : Int} (hB : B.length ≤ 4000000) (hL : L.length ≤ 4000000) (hQ : Q.length ≤ 4000000) (hR : R.length ≤ 4000000) (hk : B.length + L.length + Q.length + R.length + 4 < k) : laws_eqYard.f k B L Q R p B L Q R p = some true := by
  unfold laws_eqYard.f
  rw [eqArena_refl hB hL (by omega), Option.bind_some, if_pos rfl, eqIntS_refl hQ (by omega), Option.bind_some, if_pos rfl, eqGoneS_refl hR (by omega), Option.bind_some, if_pos rfl, if_pos rfl]


end Go.Proofs.Ytemdjfiimgjiaaa.M
namespace Go.Proofs.Ytemdjfiimgjiaaa.M
set_option linter.unusedVariables false
set_option linter.unusedSimpArgs false
open Go.RowKit Go.Proofs.YtemdjfiimgjiaaaW.PrintWords Go.Proofs.Ytemdjfiimgjiaaa.Pb

def mkBlock (a : Int) : S77 := ⟨a, ((Int.tmod (a + 1) 3) == 0), ⟨a + 1 + 1, a + 1 + 1 + 1, a + 1 + 1 + 1 + 1⟩⟩
def mkLBlock : Int → Nat → List S77
  | _, 0 => []
  | a, m + 1 => mkBlock a :: mkLBlock (a + 1 + 1 + 1 + 1 + 1) m
theorem mkLBlock_len : ∀ (m : Nat) (a : Int), (mkLBlock a m).length = m
  | 0, _ => rfl
  | m + 1, a => by simp [mkLBlock, mkLBlock_len m]
theorem markBlock_l1 (k i : Nat) (a : Int) (x : List S77) (hl : x.length ≤ 4000000) (hi : i < x.length) (h0 : 0 ≤ a) (h1 : a ≤ 1099511627776) :
    laws_markBlockS.l1 (k + 4) x a (i : Int) 0 = laws_markBlockS.l0 k (x.set i ⟨(rd_T77 x i).f0, (rd_T77 x i).f1, ⟨a, a + 1, a + 1 + 1⟩⟩) (a + 1 + 1 + 1) ((i + 1 : Nat) : Int) := by
  have hlt : ∀ y : S77, (i : Int) < ((x.set i y).length : Int) := fun y => by rw [List.length_set]; omega
  rw [laws_markBlockS.l1, if_pos (by decide), if_pos (by omega), if_pos (by omega), if_pos rfl, w01, Int.toNat_natCast, w64 (x := a + 1) (by omega) (by omega)]
  rw [laws_markBlockS.l1, if_pos (by decide), if_pos (by omega), if_pos (hlt _), if_neg (by decide), if_pos rfl, w12, Int.toNat_natCast, w64 (x := a + 1 + 1) (by omega) (by omega), List.set_set, rdB_set x i _ hi]
  rw [laws_markBlockS.l1, if_pos (by decide), if_pos (by omega), if_pos (hlt _), if_neg (by decide), if_neg (by decide), if_pos rfl, w23, Int.toNat_natCast, w64 (x := a + 1 + 1 + 1) (by omega) (by omega), List.set_set, rdB_set x i _ hi]
  rw [laws_markBlockS.l1, if_neg (by decide), w64 (by omega) (by omega), show ((i : Int) + 1) = ((i + 1 : Nat) : Int) from by omega]
theorem markBlockS_l0 (d : Nat) : ∀ (k i : Nat) (a : Int) (x : List S77), x.length ≤ 4000000 → i + d = x.length → 5 * d < k → 0 ≤ a → a + 5 * d ≤ 1099511627776 → laws_markBlockS.l0 k x a (i : Int) = some (a + 5 * d, x.take i ++ mkLBlock a d) := by
  induction d with
  | zero =>
    intro k i a x hl hi hk h0 h1
    obtain ⟨k, rfl⟩ : ∃ m, k = m + 1 := ⟨k - 1, by omega⟩
    rw [laws_markBlockS.l0, if_neg (by omega), List.take_of_length_le (by omega)]
    simp [mkLBlock]
  | succ d ih =>
    intro k i a x hl hi hk h0 h1
    obtain ⟨k, rfl⟩ : ∃ m, k = (m + 4) + 1 := ⟨k - 5, by omega⟩
    have hd : ((d + 1 : Nat) : Int) = (d : Int) + 1 := by omega
    have hx : i < x.length := by omega
    rw [laws_markBlockS.l0, if_pos (by omega), if_pos (by omega), Option.bind_some, w64 (x := a + 1) (by omega) (by omega), w64 (x := a + 1 + 1) (by omega) (by omega), Int.toNat_natCast, List.set_set, rdB_set x i _ hx]
    rw [markBlock_l1 k i (a + 1 + 1) _ (by simpa using hl) (by simpa using hx) (by omega) (by omega), List.set_set, rdB_set x i _ hx]
    refine Eq.trans (ih k (i + 1) (a + 1 + 1 + 1 + 1 + 1) (x.set i (mkBlock a)) (by simpa using hl) (by simp; omega) (by omega) (by omega) (by omega)) ?_
    rw [set_take _ _ _ hx, List.append_assoc]
    refine congrArg some (Prod.ext ?_ rfl)
    show a + 1 + 1 + 1 + 1 + 1 + 5 * (d : Int) = a + 5 * ((d + 1 : Nat) : Int)
    omega
theorem markBlockS_eq {k : Nat} {x : List S77} {a : Int} (hl : x.length ≤ 4000000) (hk : 5 * x.length < k) (h0 : 0 ≤ a) (h1 : a ≤ 549755813888) : laws_markBlockS.f k x a = some (a + 5 * x.length, mkLBlock a x.length) := by
  unfold laws_markBlockS.f
  have h := markBlockS_l0 x.length k 0 a x hl (by omega) hk h0 (by omega)
  rw [List.take_zero, List.nil_append] at h
  exact h
theorem heldBlock_l1 (k i : Nat) (a : Int) (x : List S77) (hl : x.length ≤ 4000000) (hi : i < x.length) (h0 : 0 ≤ a) (h1 : a ≤ 1099511627776) (hx : (rd_T77 x i).f2 = ⟨a, a + 1, a + 1 + 1⟩) :
    laws_heldBlockS.l1 (k + 4) x a (i : Int) 0 = laws_heldBlockS.l0 k x (a + 1 + 1 + 1) ((i + 1 : Nat) : Int) := by
  rw [laws_heldBlockS.l1, if_pos (by decide), if_pos (by omega), if_pos (by omega), if_pos rfl, if_pos (by rw [hx]), w01, w64 (x := a + 1) (by omega) (by omega)]
  rw [laws_heldBlockS.l1, if_pos (by decide), if_pos (by omega), if_pos (by omega), if_neg (by decide), if_pos rfl, if_pos (by rw [hx]), w12, w64 (x := a + 1 + 1) (by omega) (by omega)]
  rw [laws_heldBlockS.l1, if_pos (by decide), if_pos (by omega), if_pos (by omega), if_neg (by decide), if_neg (by decide), if_pos rfl, if_pos (by rw [hx]), w23, w64 (x := a + 1 + 1 + 1) (by omega) (by omega)]
  rw [laws_heldBlockS.l1, if_neg (by decide), w64 (by omega) (by omega), show ((i : Int) + 1) = ((i + 1 : Nat) : Int) from by omega]
theorem heldBlockS_l0 (d : Nat) : ∀ (k : Nat) (a : Int) (p : List S77), p.length + d ≤ 4000000 → 5 * d < k → 0 ≤ a → a + 5 * d ≤ 1099511627776 → laws_heldBlockS.l0 k (p ++ mkLBlock a d) a ((p.length : Nat) : Int) = some (a + 5 * d) := by
  induction d with
  | zero =>
    intro k a p hl hk h0 h1
    obtain ⟨k, rfl⟩ : ∃ m, k = m + 1 := ⟨k - 1, by omega⟩
    rw [laws_heldBlockS.l0, if_neg (by simp [mkLBlock])]
    simp
  | succ d ih =>
    intro k a p hl hk h0 h1
    obtain ⟨k, rfl⟩ : ∃ m, k = (m + 4) + 1 := ⟨k - 5, by omega⟩
    have hd : ((d + 1 : Nat) : Int) = (d : Int) + 1 := by omega
    have hlen : ((p ++ mkLBlock a (d + 1)).length : Int) = p.length + d + 1 := by
      simp [mkLBlock_len]
      omega
    have hr : rd_T77 (p ++ mkLBlock a (d + 1)) ((p.length : Nat) : Int) = mkBlock a := rdB_mid p _ _
    rw [laws_heldBlockS.l0, if_pos (by omega), if_pos (by omega), if_pos (by rw [hr]; rfl), w64 (x := a + 1) (by omega) (by omega), if_neg (by rw [hr]; simp [mkBlock]), w64 (x := a + 1 + 1) (by omega) (by omega)]
    rw [heldBlock_l1 k p.length (a + 1 + 1) _ (by omega) (by omega) (by omega) (by omega) (by rw [hr]; rfl)]
    have h := ih k (a + 1 + 1 + 1 + 1 + 1) (p ++ [mkBlock a]) (by simp; omega) (by omega) (by omega) (by omega)
    rw [List.append_assoc, List.length_append] at h
    simp only [List.singleton_append, List.length_singleton] at h
    refine Eq.trans h ?_
    refine congrArg some ?_
    omega
theorem heldBlockS_eq {k : Nat} {m : Nat} {a : Int} (hl : m ≤ 4000000) (hk : 5 * m < k) (h0 : 0 ≤ a) (h1 : a ≤ 549755813888) : laws_heldBlockS.f k (mkLBlock a m) a = some (a + 5 * m) := by
  unfold laws_heldBlockS.f
  exact heldBlockS_l0 m k a [] (by simpa using hl) hk h0 (by omega)


end Go.Proofs.Ytemdjfiimgjiaaa.M
namespace Go.Proofs.Ytemdjfiimgjiaaa.M
set_option linter.unusedVariables false
open Go.RowKit Go.Proofs.YtemdjfiimgjiaaaW.PrintWords Go.Proofs.Ytemdjfiimgjiaaa.Pb

theorem markArena_eq {k : Nat} {B : List S77} {L : List Int} (hB : B.length ≤ 4000000) (hL : L.length ≤ 4000000) (hk : 5 * B.length + L.length < k) : laws_markArena.f k B L 1 = some (1 + 5 * (B.length : Int) + (L.length : Int), mkLBlock 1 B.length, mkLInt (1 + 5 * (B.length : Int)) L.length) := by
  unfold laws_markArena.f
  rw [markBlockS_eq hB (by omega) (by omega) (by omega), Option.bind_some, markIntS_eq hL (by omega) (by omega) (by omega), Option.bind_some]
theorem heldArena_eq {k m n : Nat} (hm : m ≤ 4000000) (hn : n ≤ 4000000) (hk : 5 * m + n < k) : laws_heldArena.f k (mkLBlock 1 m) (mkLInt (1 + 5 * (m : Int)) n) 1 = some (1 + 5 * (m : Int) + (n : Int)) := by
  unfold laws_heldArena.f
  rw [heldBlockS_eq hm (by omega) (by omega) (by omega), Option.bind_some, if_neg (by omega), heldIntS_eq hn (by omega) (by omega) (by omega), Option.bind_some, if_neg (by omega)]


end Go.Proofs.Ytemdjfiimgjiaaa.M
namespace Go.Proofs.Ytemdjfiimgjiaaa.M
set_option linter.unusedVariables false
open Go.RowKit Go.Proofs.YtemdjfiimgjiaaaW.PrintWords Go.Proofs.Ytemdjfiimgjiaaa.Pb

theorem markYard_eq {k : Nat} {B : List S77} {L Q : List Int} {R : List S41} {p : Int} (hB : B.length ≤ 4000000) (hL : L.length ≤ 4000000) (hQ : Q.length ≤ 4000000) (hR : R.length ≤ 4000000) (hk : 5 * B.length + L.length + Q.length + R.length < k) : laws_markYard.f k B L Q R p 1 = some (1 + 5 * (B.length : Int) + (L.length : Int) + (Q.length : Int) + 2 * (R.length : Int), mkLBlock 1 B.length, mkLInt (1 + 5 * (B.length : Int)) L.length, mkLInt (1 + 5 * (B.length : Int) + (L.length : Int)) Q.length, mkLGone (1 + 5 * (B.length : Int) + (L.length : Int) + (Q.length : Int)) R.length) := by
  unfold laws_markYard.f
  rw [markArena_eq hB hL (by omega), Option.bind_some, markIntS_eq hQ (by omega) (by omega) (by omega), Option.bind_some, markGoneS_eq hR (by omega) (by omega) (by omega), Option.bind_some]
theorem heldYard_eq {k b l q r : Nat} {p : Int} (hb : b ≤ 4000000) (hl : l ≤ 4000000) (hq : q ≤ 4000000) (hr : r ≤ 4000000) (hk : 5 * b + l + q + r < k) : laws_heldYard.f k (mkLBlock 1 b) (mkLInt (1 + 5 * (b : Int)) l) (mkLInt (1 + 5 * (b : Int) + (l : Int)) q) (mkLGone (1 + 5 * (b : Int) + (l : Int) + (q : Int)) r) p 1 = some (1 + 5 * (b : Int) + (l : Int) + (q : Int) + 2 * (r : Int)) := by
  unfold laws_heldYard.f
  rw [heldArena_eq hb hl (by omega), Option.bind_some, if_neg (by omega), heldIntS_eq hq (by omega) (by omega) (by omega), Option.bind_some, if_neg (by omega), heldGoneS_eq hr (by omega) (by omega) (by omega), Option.bind_some, if_neg (by omega)]


end Go.Proofs.Ytemdjfiimgjiaaa.M
namespace Go.Proofs.Ytemdjfiimgjiaaa.Pure
set_option linter.unusedVariables false
set_option linter.unusedSimpArgs false
open Go.RowKit Go.Proofs.Ytemdjfiimgjiaaa.M Go.Proofs.YtemdjfiimgjiaaaW.PrintWords Go.Proofs.Ytemdjfiimgjiaaa.Pb


theorem FnExactNewYard : laws_FnExactNewYard.Pure := by
  intro n t _ _
  obtain ⟨k, hk⟩ : ∃ k : Nat, 50000000 < k := ⟨50000001, by omega⟩
  refine ⟨k + 3, ?_⟩
  unfold laws_FnExactNewYard.f
  have hr := newYR_len n t
  (repeat (first | rw [if_pos rfl] | rw [if_neg Bool.false_ne_true] | rw [ifneg_lt (by (first | omega | (simp only [List.length_map]; omega)))] | rw [eqYard_refl (by (first | omega | (simp only [List.length_map]; omega))) (by (first | omega | (simp only [List.length_map]; omega))) (by (first | omega | (simp only [List.length_map]; omega))) (by (first | omega | (simp only [List.length_map]; omega))) (by (first | omega | (simp only [List.length_map]; omega)))] | rw [specNewY_eq (by (first | omega | (simp only [List.length_map]; omega)))] | rw [implNewY_eq (by (first | omega | (simp only [List.length_map]; omega)))] | rw [markYard_eq (by (first | omega | (simp only [List.length_map]; omega))) (by (first | omega | (simp only [List.length_map]; omega))) (by (first | omega | (simp only [List.length_map]; omega))) (by (first | omega | (simp only [List.length_map]; omega))) (by (first | omega | (simp only [List.length_map]; omega)))] | rw [heldYard_eq (by (first | omega | (simp only [List.length_map]; omega))) (by (first | omega | (simp only [List.length_map]; omega))) (by (first | omega | (simp only [List.length_map]; omega))) (by (first | omega | (simp only [List.length_map]; omega))) (by (first | omega | (simp only [List.length_map]; omega)))] | (simp only [Option.bind_some, bne_self_eq_false, if_true, Bool.false_eq_true, if_false])))
  generalize hR : newYR n t = R at hr
  obtain ⟨B2, L2, P2, R2, p2, ok⟩ := R
  simp only at hr
  (repeat (first | rw [if_pos rfl] | rw [if_neg Bool.false_ne_true] | rw [ifneg_lt (by (first | omega | (simp only [List.length_map]; omega)))] | rw [eqYard_refl (by (first | omega | (simp only [List.length_map]; omega))) (by (first | omega | (simp only [List.length_map]; omega))) (by (first | omega | (simp only [List.length_map]; omega))) (by (first | omega | (simp only [List.length_map]; omega))) (by (first | omega | (simp only [List.length_map]; omega)))] | rw [specNewY_eq (by (first | omega | (simp only [List.length_map]; omega)))] | rw [implNewY_eq (by (first | omega | (simp only [List.length_map]; omega)))] | rw [markYard_eq (by (first | omega | (simp only [List.length_map]; omega))) (by (first | omega | (simp only [List.length_map]; omega))) (by (first | omega | (simp only [List.length_map]; omega))) (by (first | omega | (simp only [List.length_map]; omega))) (by (first | omega | (simp only [List.length_map]; omega)))] | rw [heldYard_eq (by (first | omega | (simp only [List.length_map]; omega))) (by (first | omega | (simp only [List.length_map]; omega))) (by (first | omega | (simp only [List.length_map]; omega))) (by (first | omega | (simp only [List.length_map]; omega))) (by (first | omega | (simp only [List.length_map]; omega)))] | (simp only [Option.bind_some, bne_self_eq_false, if_true, Bool.false_eq_true, if_false])))
  rw [laws_FnExactNewYard.j0]
  (repeat (first | rw [if_pos rfl] | rw [if_neg Bool.false_ne_true] | rw [ifneg_lt (by (first | omega | (simp only [List.length_map]; omega)))] | rw [eqYard_refl (by (first | omega | (simp only [List.length_map]; omega))) (by (first | omega | (simp only [List.length_map]; omega))) (by (first | omega | (simp only [List.length_map]; omega))) (by (first | omega | (simp only [List.length_map]; omega))) (by (first | omega | (simp only [List.length_map]; omega)))] | rw [specNewY_eq (by (first | omega | (simp only [List.length_map]; omega)))] | rw [implNewY_eq (by (first | omega | (simp only [List.length_map]; omega)))] | rw [markYard_eq (by (first | omega | (simp only [List.length_map]; omega))) (by (first | omega | (simp only [List.length_map]; omega))) (by (first | omega | (simp only [List.length_map]; omega))) (by (first | omega | (simp only [List.length_map]; omega))) (by (first | omega | (simp only [List.length_map]; omega)))] | rw [heldYard_eq (by (first | omega | (simp only [List.length_map]; omega))) (by (first | omega | (simp only [List.length_map]; omega))) (by (first | omega | (simp only [List.length_map]; omega))) (by (first | omega | (simp only [List.length_map]; omega))) (by (first | omega | (simp only [List.length_map]; omega)))] | (simp only [Option.bind_some, bne_self_eq_false, if_true, Bool.false_eq_true, if_false])))
  rw [hR]
  (repeat (first | rw [if_pos rfl] | rw [if_neg Bool.false_ne_true] | rw [ifneg_lt (by (first | omega | (simp only [List.length_map]; omega)))] | rw [eqYard_refl (by (first | omega | (simp only [List.length_map]; omega))) (by (first | omega | (simp only [List.length_map]; omega))) (by (first | omega | (simp only [List.length_map]; omega))) (by (first | omega | (simp only [List.length_map]; omega))) (by (first | omega | (simp only [List.length_map]; omega)))] | rw [specNewY_eq (by (first | omega | (simp only [List.length_map]; omega)))] | rw [implNewY_eq (by (first | omega | (simp only [List.length_map]; omega)))] | rw [markYard_eq (by (first | omega | (simp only [List.length_map]; omega))) (by (first | omega | (simp only [List.length_map]; omega))) (by (first | omega | (simp only [List.length_map]; omega))) (by (first | omega | (simp only [List.length_map]; omega))) (by (first | omega | (simp only [List.length_map]; omega)))] | rw [heldYard_eq (by (first | omega | (simp only [List.length_map]; omega))) (by (first | omega | (simp only [List.length_map]; omega))) (by (first | omega | (simp only [List.length_map]; omega))) (by (first | omega | (simp only [List.length_map]; omega))) (by (first | omega | (simp only [List.length_map]; omega)))] | (simp only [Option.bind_some, bne_self_eq_false, if_true, Bool.false_eq_true, if_false])))
  rw [laws_FnExactNewYard.j1]
  (repeat (first | rw [if_pos rfl] | rw [if_neg Bool.false_ne_true] | rw [ifneg_lt (by (first | omega | (simp only [List.length_map]; omega)))] | rw [eqYard_refl (by (first | omega | (simp only [List.length_map]; omega))) (by (first | omega | (simp only [List.length_map]; omega))) (by (first | omega | (simp only [List.length_map]; omega))) (by (first | omega | (simp only [List.length_map]; omega))) (by (first | omega | (simp only [List.length_map]; omega)))] | rw [specNewY_eq (by (first | omega | (simp only [List.length_map]; omega)))] | rw [implNewY_eq (by (first | omega | (simp only [List.length_map]; omega)))] | rw [markYard_eq (by (first | omega | (simp only [List.length_map]; omega))) (by (first | omega | (simp only [List.length_map]; omega))) (by (first | omega | (simp only [List.length_map]; omega))) (by (first | omega | (simp only [List.length_map]; omega))) (by (first | omega | (simp only [List.length_map]; omega)))] | rw [heldYard_eq (by (first | omega | (simp only [List.length_map]; omega))) (by (first | omega | (simp only [List.length_map]; omega))) (by (first | omega | (simp only [List.length_map]; omega))) (by (first | omega | (simp only [List.length_map]; omega))) (by (first | omega | (simp only [List.length_map]; omega)))] | (simp only [Option.bind_some, bne_self_eq_false, if_true, Bool.false_eq_true, if_false])))


end Go.Proofs.Ytemdjfiimgjiaaa.Pure
