/- The pure statement of FnExactReadSchedule and what it needs. Conditions: those that each theorem states. -/
import Derived.Test.YtjbfcdeddnnnmaaDoorVFnExactReadSchedule1
import Derived.Lib.AtoiAll
import Derived.Lib.ItoaMem
import Derived.Lib.Join
import Derived.Lib.SplitLaws
import Derived.RowKit
namespace Go.Proofs.YtjbfcdeddnnnmaaDoor.PbK
open Go.RowKit Go.Proofs.YtjbfcdeddnnnmaaDoorW.PrintWords

theorem w64 {x : Int} (h0 : -9223372036854775808 ≤ x) (h1 : x ≤ 9223372036854775807) : wrap64 x = x := by
  unfold wrap64
  omega

theorem rdOf_at {α : Type} (d : α) (l : List α) (i : Nat) (h : i < l.length) : rdOf d l (i : Int) = l[i] := by
  simp [rdOf, List.getD_eq_getElem?_getD, List.getElem?_eq_getElem h]

theorem set_take {α : Type} (x : List α) (v : α) (i : Nat) (h : i < x.length) : (x.set i v).take (i + 1) = x.take i ++ [v] := by
  rw [List.take_succ_eq_append_getElem (by simpa using h)]
  rw [List.take_set_of_le (Nat.le_refl i)]
  simp

theorem drop_cons {α : Type} (l : List α) (i : Nat) (h : i < l.length) : l.drop i = l[i] :: l.drop (i + 1) := List.drop_eq_getElem_cons h


end Go.Proofs.YtjbfcdeddnnnmaaDoor.PbK
namespace Go.Proofs.YtjbfcdeddnnnmaaDoor.K
set_option linter.unusedVariables false
set_option linter.unusedSimpArgs false
open Go.RowKit Go.Proofs.YtjbfcdeddnnnmaaDoorW.PrintWords Go.Proofs.YtjbfcdeddnnnmaaDoor.PbK

/-- All of a list within bounds. -/
def inB (a b x : Int) : Bool := decide (a ≤ x) && decide (x ≤ b)

theorem l1In_eq (x a b : Int) : spec_l1In.f x a b = some (inB a b x) := by
  unfold spec_l1In.f inB
  by_cases h : x ≥ a
  · rw [if_pos h, decide_eq_true (show a ≤ x from h), Bool.true_and]
  · rw [if_neg h, decide_eq_false (show ¬ a ≤ x from h), Bool.false_and]

theorem in_eq (x a b : Int) : impl_in.f x a b = some (inB a b x) := by
  unfold impl_in.f inB
  by_cases h : a ≤ x
  · rw [if_pos h, decide_eq_true h, Bool.true_and]
  · rw [if_neg h, decide_eq_false h, Bool.false_and]


end Go.Proofs.YtjbfcdeddnnnmaaDoor.K
namespace Go.Proofs.YtjbfcdeddnnnmaaDoor.K
set_option linter.unusedSimpArgs false
open Go.RowKit Go.Proofs.YtjbfcdeddnnnmaaDoorW.PrintWords Go.Proofs.YtjbfcdeddnnnmaaDoor.PbK

theorem rdT42_at (l : List S42) (i : Nat) (h : i < l.length) : rd_T42 l (i : Int) = l[i] := by
  simp [rd_T42, List.getD_eq_getElem?_getD, List.getElem?_eq_getElem h]
theorem rdT42_set (l : List S42) (i : Nat) (y : S42) (h : i < l.length) : rd_T42 (l.set i y) (i : Int) = y := by
  simp [rd_T42, List.getD_eq_getElem?_getD, h]
theorem rdT42_mid (p q : List S42) (y : S42) : rd_T42 (p ++ y :: q) ((p.length : Nat) : Int) = y := by
  simp [rd_T42, List.getD_eq_getElem?_getD]
theorem eqRun_refl (a0 : Int) (a1 : Int) : laws_eqRun.f a0 a1 a0 a1 = some true := by
  simp [laws_eqRun.f]
theorem eqRunS_l0 (l : List S42) (hl : l.length ≤ 4000000) (d : Nat) : ∀ (k i : Nat), i + d = l.length → d < k → laws_eqRunS.l0 k l l (i : Int) = some true := by
  induction d with
  | zero =>
    intro k i hi hk
    obtain ⟨k, rfl⟩ : ∃ m, k = m + 1 := ⟨k - 1, by omega⟩
    simp only [laws_eqRunS.l0]
    rw [if_neg (by omega)]
  | succ d ih =>
    intro k i hi hk
    obtain ⟨k, rfl⟩ : ∃ m, k = m + 1 := ⟨k - 1, by omega⟩
    simp only [laws_eqRunS.l0]
    rw [if_pos (by omega), if_pos (by omega), if_pos (by omega), eqRun_refl, Option.bind_some, if_pos rfl, w64 (by omega) (by omega), show ((i : Int) + 1) = ((i + 1 : Nat) : Int) from by omega]
    exact ih k (i + 1) (by omega) (by omega)
theorem eqRunS_refl {k : Nat} {l : List S42} (hl : l.length ≤ 4000000) (hk : l.length < k) : laws_eqRunS.f k l l = some true := by
  unfold laws_eqRunS.f
  rw [if_pos rfl]
  exact eqRunS_l0 l hl l.length k 0 (by omega) hk
def mkRun (a : Int) : S42 := ⟨(a), (a + 1)⟩
def mkLRun : Int → Nat → List S42
  | _, 0 => []
  | a, m + 1 => mkRun a :: mkLRun (a + 1 + 1) m
theorem mkLRun_len : ∀ (m : Nat) (a : Int), (mkLRun a m).length = m
  | 0, _ => rfl
  | m + 1, a => by simp [mkLRun, mkLRun_len m]
theorem markRunS_l0 (d : Nat) : ∀ (k i : Nat) (a : Int) (x : List S42), x.length ≤ 4000000 → i + d = x.length → d < k → 0 ≤ a → a + 2 * d ≤ 1099511627776 → laws_markRunS.l0 k x a (i : Int) = some (a + 2 * d, x.take i ++ mkLRun a d) := by
  induction d with
  | zero =>
    intro k i a x hl hi hk h0 h1
    obtain ⟨k, rfl⟩ : ∃ m, k = m + 1 := ⟨k - 1, by omega⟩
    simp only [laws_markRunS.l0]
    rw [if_neg (by omega), List.take_of_length_le (by omega)]
    simp [mkLRun]
  | succ d ih =>
    intro k i a x hl hi hk h0 h1
    obtain ⟨k, rfl⟩ : ∃ m, k = m + 1 := ⟨k - 1, by omega⟩
    simp only [laws_markRunS.l0]
    have e0 : wrap64 (a + 1) = a + 1 := w64 (by omega) (by omega)
    have e1 : wrap64 (a + 1 + 1) = a + 1 + 1 := w64 (by omega) (by omega)
    have ei : wrap64 ((i : Int) + 1) = ((i + 1 : Nat) : Int) := by
      rw [w64 (by omega) (by omega)]
      omega
    have hx : i < x.length := by omega
    rw [if_pos (by omega), if_pos (by omega)]
    simp only [Option.bind_some, Int.toNat_natCast, List.set_set, rdT42_set, List.length_set, hx, e0, e1, ei]
    have hd : ((d + 1 : Nat) : Int) = (d : Int) + 1 := by omega
    refine Eq.trans (ih k (i + 1) (a + 1 + 1) (x.set i (mkRun a)) (by simpa using hl) (by simp; omega) (by omega) (by omega) (by omega)) ?_
    rw [set_take _ _ _ hx, List.append_assoc]
    refine congrArg some (Prod.ext ?_ rfl)
    show a + 1 + 1 + 2 * (d : Int) = a + 2 * ((d + 1 : Nat) : Int)
    omega
theorem markRunS_eq {k : Nat} {x : List S42} {a : Int} (hl : x.length ≤ 4000000) (hk : x.length < k) (h0 : 0 ≤ a) (h1 : a ≤ 549755813888) : laws_markRunS.f k x a = some (a + 2 * x.length, mkLRun a x.length) := by
  unfold laws_markRunS.f
  have h := markRunS_l0 x.length k 0 a x hl (by omega) hk h0 (by omega)
  rw [List.take_zero, List.nil_append] at h
  exact h


end Go.Proofs.YtjbfcdeddnnnmaaDoor.K
namespace Go.Proofs.YtjbfcdeddnnnmaaDoor.K
set_option linter.unusedVariables false
set_option linter.unusedSimpArgs false
open Go.RowKit Go.Proofs.YtjbfcdeddnnnmaaDoorW.PrintWords Go.Proofs.YtjbfcdeddnnnmaaDoor.PbK

theorem isThread_eq (x : Int) : impl_isThread.f x = some (inB 0 3 x) := by
  unfold impl_isThread.f
  rw [in_eq, Option.bind_some]

/-- The loop of ScheduleOk: what is left, and the sum so far. The answer of the specification's side may be no sooner than the other's. -/
def runsR : Int → List S42 → Bool
  | a, [] => decide (a ≤ 1500)
  | a, r :: l => inB 0 3 r.f0 && (inB 1 500 r.f1 && runsR (a + r.f1) l)
def schedR (l : List S42) : Bool := decide (l.length ≤ 60) && runsR 0 l
theorem implSched_l0 (l : List S42) (hl : l.length ≤ 4000000) (d : Nat) : ∀ (k i : Nat) (a : Int), i + d = l.length → d < k → 0 ≤ a → a ≤ 500 * (i : Int) → impl_ScheduleOk.l0 k l a l (l.length : Int) (i : Int) = some (decide (l.length ≤ 60) && runsR a (l.drop i)) := by
  induction d with
  | zero =>
    intro k i a hi hk h0 h1
    obtain ⟨k, rfl⟩ : ∃ m, k = m + 1 := ⟨k - 1, by omega⟩
    rw [impl_ScheduleOk.l0, if_neg (by omega), List.drop_of_length_le (by omega)]
    by_cases h : l.length ≤ 60
    · rw [if_pos (by omega), decide_eq_true h, Bool.true_and]; rfl
    · rw [if_neg (by omega), decide_eq_false h, Bool.false_and]
  | succ d ih =>
    intro k i a hi hk h0 h1
    obtain ⟨k, rfl⟩ : ∃ m, k = m + 1 := ⟨k - 1, by omega⟩
    rw [impl_ScheduleOk.l0, if_pos (by omega), if_pos (by omega), if_pos (by omega), rdT42_at l i (by omega), drop_cons l i (by omega), isThread_eq, Option.bind_some]
    simp only [runsR]
    cases h2 : inB 0 3 l[i].f0 with
    | false => simp
    | true =>
      rw [if_pos rfl, in_eq, Option.bind_some]
      cases h3 : inB 1 500 l[i].f1 with
      | false => simp
      | true =>
        simp only [inB, Bool.and_eq_true, decide_eq_true_eq] at h3
        rw [if_pos rfl, Bool.true_and, Bool.true_and, w64 (x := (i : Int) + 1) (by omega) (by omega), w64 (x := a + l[i].f1) (by omega) (by omega), show ((i : Int) + 1) = ((i + 1 : Nat) : Int) from by omega, ih k (i + 1) _ (by omega) (by omega) (by omega) (by omega)]
theorem implSched_eq {k : Nat} {l : List S42} (hl : l.length ≤ 4000000) (hk : l.length < k) : impl_ScheduleOk.f k l = some (schedR l) := by
  unfold impl_ScheduleOk.f schedR
  have h := implSched_l0 l hl l.length k 0 0 (by omega) hk (by omega) (by omega)
  rw [List.drop_zero] at h
  exact h


end Go.Proofs.YtjbfcdeddnnnmaaDoor.K
namespace Go.Proofs.YtjbfcdeddnnnmaaDoor.K
set_option linter.unusedVariables false
set_option linter.unusedSimpArgs false
open Go.RowKit Go.Proofs.YtjbfcdeddnnnmaaDoorW.PrintWords Go.Proofs.YtjbfcdeddnnnmaaDoor.PbK

def B (l : List UInt8) : ByteArray := ⟨l.toArray⟩
theorem B_data (l : List UInt8) : (B l).data.toList = l := by simp [B]
theorem B_size (l : List UInt8) : (B l).size = l.length := by simp [B, ByteArray.size]
theorem B_append (a b : List UInt8) : B a ++ B b = B (a ++ b) := by
  apply ByteArray.ext
  rw [ByteArray.data_append]
  simp [B]
theorem B_of (s : ByteArray) : B s.data.toList = s := by
  cases s
  simp [B]
theorem B_toList (l : List UInt8) : (B l).toList = l := by
  rw [ByteArray.toList_eq]
  simp [B]
theorem B_extract (l : List UInt8) (i j : Nat) : (B l).extract i j = B ((l.drop i).take (j - i)) := by
  rw [← B_of ((B l).extract i j), Go.Lib.extract_data, B_data]
theorem bt_B (l : List UInt8) (i : Nat) (h : i < l.length) : bt (B l) (i : Int) = (l[i].toNat : Int) := by
  unfold bt
  rw [dif_pos (show (i : Int).toNat < (B l).size by rw [B_size]; omega)]
  simp [B, ByteArray.getElem_eq_getElem_data]
theorem u8_of (n : Nat) (h : n < 256) : (UInt8.ofNat n).toNat = n := by
  rw [UInt8.toNat_ofNat']
  omega
theorem dec1 {n : Nat} (h : n < 10) : Go.Lib.decDigits n = [UInt8.ofNat (48 + n)] := Go.Lib.decDigits_one h
theorem dec2 {n : Nat} (h : ¬ n < 10) (h1 : n < 100) : Go.Lib.decDigits n = [UInt8.ofNat (48 + n / 10), UInt8.ofNat (48 + n % 10)] := Go.Lib.decDigits_two h h1
theorem dec3 {n : Nat} (h : ¬ n < 100) (h1 : n < 1000) : Go.Lib.decDigits n = [UInt8.ofNat (48 + n / 100), UInt8.ofNat (48 + n / 10 % 10), UInt8.ofNat (48 + n % 10)] := by
  rw [Go.Lib.decDigits, dif_neg (by omega), dec2 (by omega) (by omega), show n / 10 / 10 = n / 100 by omega]
  rfl
theorem dec_len {n : Nat} (h : n < 1000) : 1 ≤ (Go.Lib.decDigits n).length ∧ (Go.Lib.decDigits n).length ≤ 3 := by
  by_cases h1 : n < 10
  · rw [dec1 h1]
    simp
  · by_cases h2 : n < 100
    · rw [dec2 h1 h2]
      simp
    · rw [dec3 h2 h]
      simp
theorem dec_digits {n : Nat} (h : n < 1000) : ∀ b ∈ Go.Lib.decDigits n, 48 ≤ b.toNat ∧ b.toNat ≤ 57 := by
  have u : ∀ m, m < 10 → 48 ≤ (UInt8.ofNat (48 + m)).toNat ∧ (UInt8.ofNat (48 + m)).toNat ≤ 57 := fun m hm => by
    rw [u8_of _ (by omega)]
    omega
  intro b hb
  by_cases h1 : n < 10
  · rw [dec1 h1] at hb
    obtain rfl := List.mem_singleton.1 hb
    exact u n h1
  · by_cases h2 : n < 100
    · rw [dec2 h1 h2] at hb
      simp only [List.mem_cons, List.not_mem_nil, or_false] at hb
      rcases hb with rfl | rfl
      · exact u _ (by omega)
      · exact u _ (by omega)
    · rw [dec3 h2 h] at hb
      simp only [List.mem_cons, List.not_mem_nil, or_false] at hb
      rcases hb with rfl | rfl | rfl
      · exact u _ (by omega)
      · exact u _ (by omega)
      · exact u _ (by omega)
theorem itoa_ok {n : Nat} (h : n < 1000) : strconv_Itoa_23.f (n : Int) = some (B (Go.Lib.decDigits n)) := by
  unfold strconv_Itoa_23.f
  rw [if_pos (by omega), if_pos (by omega), Go.Lib.itoa_nonneg]
  rfl
theorem parse_dig {b : UInt8} (h : 48 ≤ b.toNat ∧ b.toNat ≤ 57) {acc : Nat} (ha : acc ≤ 1000000) (r : List UInt8) : Go.Lib.parseUint10 acc (b :: r) = Go.Lib.parseUint10 (acc * 10 + (b.toNat - 48)) r := by
  rw [Go.Lib.parseUint10, if_pos h, if_neg (by omega), if_neg (by omega)]
/-- The value of digits. -/
def valD (a : Nat) (l : List UInt8) : Nat := l.foldl (fun a b => a * 10 + (b.toNat - 48)) a
theorem valD_nil (a : Nat) : valD a [] = a := by
  unfold valD
  rw [List.foldl_nil]
theorem valD_cons (a : Nat) (b : UInt8) (r : List UInt8) : valD a (b :: r) = valD (a * 10 + (b.toNat - 48)) r := by
  unfold valD
  rw [List.foldl_cons]
theorem parse_end (acc : Nat) : Go.Lib.parseUint10 acc [] = .ok acc := by rw [Go.Lib.parseUint10]
theorem parse1 {b : UInt8} (hb : 48 ≤ b.toNat ∧ b.toNat ≤ 57) {acc : Nat} (ha : acc ≤ 1000000) : Go.Lib.parseUint10 acc [b] = .ok (valD acc [b]) := by
  have e : valD acc [b] = acc * 10 + (b.toNat - 48) := by simp only [valD_cons, valD_nil]
  rw [e, parse_dig hb ha, parse_end]
theorem parse2 {b c : UInt8} (hb : 48 ≤ b.toNat ∧ b.toNat ≤ 57) (hc : 48 ≤ c.toNat ∧ c.toNat ≤ 57) {acc : Nat} (ha : acc ≤ 1000) : Go.Lib.parseUint10 acc [b, c] = .ok (valD acc [b, c]) := by
  have e : valD acc [b, c] = valD (acc * 10 + (b.toNat - 48)) [c] := by simp only [valD_cons, valD_nil]
  have h1 : acc * 10 + (b.toNat - 48) ≤ 1000000 := by omega
  have h2 : acc ≤ 1000000 := by omega
  rw [e, parse_dig hb h2, parse1 hc h1]
theorem parse3 {b c d : UInt8} (hb : 48 ≤ b.toNat ∧ b.toNat ≤ 57) (hc : 48 ≤ c.toNat ∧ c.toNat ≤ 57) (hd : 48 ≤ d.toNat ∧ d.toNat ≤ 57) : Go.Lib.parseUint10 0 [b, c, d] = .ok (valD 0 [b, c, d]) := by
  have e : valD 0 [b, c, d] = valD (0 * 10 + (b.toNat - 48)) [c, d] := by simp only [valD_cons, valD_nil]
  have h1 : 0 * 10 + (b.toNat - 48) ≤ 1000 := by omega
  have h2 : 0 ≤ 1000000 := by omega
  rw [e, parse_dig hb h2, parse2 hc hd h1]
theorem val_lt {b : UInt8} {r : List UInt8} (h : ∀ x ∈ b :: r, 48 ≤ x.toNat ∧ x.toNat ≤ 57) (hl : r.length ≤ 2) : valD 0 (b :: r) < 1000 := by
  have hb := h b (List.mem_cons_self ..)
  rcases r with _ | ⟨c, _ | ⟨d, _ | ⟨e, r⟩⟩⟩
  · simp only [valD_cons, valD_nil]
    omega
  · have hc := h c (by simp)
    simp only [valD_cons, valD_nil]
    omega
  · have hc := h c (by simp)
    have hd := h d (by simp)
    simp only [valD_cons, valD_nil]
    omega
  · simp only [List.length_cons] at hl
    omega
theorem parse_digits {b : UInt8} {r : List UInt8} (h : ∀ x ∈ b :: r, 48 ≤ x.toNat ∧ x.toNat ≤ 57) (hl : r.length ≤ 2) : Go.Lib.parseUint10 0 (b :: r) = .ok (valD 0 (b :: r)) := by
  have hb := h b (List.mem_cons_self ..)
  rcases r with _ | ⟨c, _ | ⟨d, _ | ⟨e, r⟩⟩⟩
  · exact parse1 hb (by decide)
  · exact parse2 hb (h c (by simp)) (by decide)
  · exact parse3 hb (h c (by simp)) (h d (by simp))
  · simp only [List.length_cons] at hl
    omega
theorem atoi_digits {b : UInt8} {r : List UInt8} (h : ∀ x ∈ b :: r, 48 ≤ x.toNat ∧ x.toNat ≤ 57) (hl : r.length ≤ 2) : Go.Lib.atoiAll (b :: r) = .ok (valD 0 (b :: r) : Int) := by
  have hb := h b (List.mem_cons_self ..)
  have hp := parse_digits h hl
  have hv := val_lt h hl
  unfold Go.Lib.atoiAll Go.Lib.parseMag
  simp only
  rw [if_neg (show ¬ (b.toNat = 43 ∨ b.toNat = 45) by omega), if_neg (by simp), hp]
  generalize valD 0 (b :: r) = v at hv
  simp only
  rw [if_neg (by omega), if_neg (by omega), if_neg (by omega)]
theorem val_dec {n : Nat} (h : n < 1000) : valD 0 (Go.Lib.decDigits n) = n := by
  by_cases h1 : n < 10
  · rw [dec1 h1]
    simp only [valD_cons, valD_nil]
    rw [u8_of _ (by omega)]
    omega
  · by_cases h2 : n < 100
    · rw [dec2 h1 h2]
      simp only [valD_cons, valD_nil]
      rw [u8_of _ (by omega), u8_of _ (by omega)]
      omega
    · rw [dec3 h2 h]
      simp only [valD_cons, valD_nil]
      rw [u8_of _ (by omega), u8_of _ (by omega), u8_of _ (by omega)]
      omega
theorem u8_back {b : UInt8} {n : Nat} (h : b.toNat = n) : UInt8.ofNat n = b := by
  rw [← h]
  exact UInt8.ofNat_toNat
/-- Digits without a nought ahead are their value's numeral. -/
theorem dec_val {b : UInt8} {r : List UInt8} (h : ∀ x ∈ b :: r, 48 ≤ x.toNat ∧ x.toNat ≤ 57) (hl : r.length ≤ 2) (h0 : b.toNat ≠ 48) : Go.Lib.decDigits (valD 0 (b :: r)) = b :: r := by
  have hb := h b (List.mem_cons_self ..)
  match r, h, hl with
  | [], _, _ =>
    simp only [valD_cons, valD_nil]
    rw [dec1 (by omega), u8_back (b := b) (by omega)]
  | [c], h, _ =>
    have hc := h c (by simp)
    simp only [valD_cons, valD_nil]
    rw [dec2 (by omega) (by omega), u8_back (b := b) (by omega), u8_back (b := c) (by omega)]
  | [c, d], h, _ =>
    have hc := h c (by simp)
    have hd := h d (by simp)
    simp only [valD_cons, valD_nil]
    rw [dec3 (by omega) (by omega), u8_back (b := b) (by omega), u8_back (b := c) (by omega), u8_back (b := d) (by omega)]


end Go.Proofs.YtjbfcdeddnnnmaaDoor.K
namespace Go.Proofs.YtjbfcdeddnnnmaaDoor.K
set_option linter.unusedVariables false
set_option linter.unusedSimpArgs false
open Go.RowKit Go.Proofs.YtjbfcdeddnnnmaaDoorW.PrintWords Go.Proofs.YtjbfcdeddnnnmaaDoor.PbK

def okRun (r : S42) : Prop := (0 ≤ r.f0 ∧ r.f0 ≤ 3) ∧ 1 ≤ r.f1 ∧ r.f1 ≤ 500
theorem e42 : (⟨#[42]⟩ : ByteArray) = B [42] := rfl

end Go.Proofs.YtjbfcdeddnnnmaaDoor.K
namespace Go.Proofs.YtjbfcdeddnnnmaaDoor.K
set_option linter.unusedVariables false
set_option linter.unusedSimpArgs false
open Go.RowKit Go.Proofs.YtjbfcdeddnnnmaaDoorW.PrintWords Go.Proofs.YtjbfcdeddnnnmaaDoor.PbK

/-- A text's words. -/
def wds : List UInt8 → List (List UInt8)
  | [] => [[]]
  | b :: l => if b = 32 then [] :: wds l else match wds l with
    | [] => [[b]]
    | w :: r => (b :: w) :: r
theorem wds_hit (l : List UInt8) : wds (32 :: l) = [] :: wds l := by
  rw [wds, if_pos rfl]
theorem wds_miss {b : UInt8} (h : b ≠ 32) {l w : List UInt8} {r : List (List UInt8)} (hw : wds l = w :: r) : wds (b :: l) = (b :: w) :: r := by
  rw [wds, if_neg h, hw]
theorem wds_cons : ∀ l : List UInt8, ∃ w ws, wds l = w :: ws ∧ (∀ b ∈ w, b ≠ 32) ∧ ((l = w ∧ ws = []) ∨ ∃ t, l = w ++ 32 :: t ∧ ws = wds t)
  | [] => ⟨[], [], rfl, by simp, Or.inl ⟨rfl, rfl⟩⟩
  | b :: l => by
    by_cases h : b = 32
    · subst h
      exact ⟨[], wds l, wds_hit l, by simp, Or.inr ⟨l, rfl, rfl⟩⟩
    · obtain ⟨w, ws, e, h1, h2⟩ := wds_cons l
      refine ⟨b :: w, ws, wds_miss h e, ?_, ?_⟩
      · intro c hc
        rcases List.mem_cons.1 hc with rfl | hc
        · exact h
        · exact h1 c hc
      · rcases h2 with ⟨rfl, h2⟩ | ⟨t, rfl, h2⟩
        · exact Or.inl ⟨rfl, h2⟩
        · exact Or.inr ⟨t, rfl, h2⟩
def totW : List (List UInt8) → Nat
  | [] => 0
  | w :: ws => w.length + 1 + totW ws
theorem wds_tot : ∀ l : List UInt8, totW (wds l) = l.length + 1
  | [] => rfl
  | b :: l => by
    have ih := wds_tot l
    by_cases h : b = 32
    · subst h
      rw [wds_hit, totW, ih, List.length_cons, List.length_nil]
      omega
    · obtain ⟨w, ws, e, _, _⟩ := wds_cons l
      rw [wds_miss h e, totW, List.length_cons, List.length_cons]
      rw [e, totW] at ih
      omega
theorem splitK_eq : ∀ (l : List UInt8), Go.Lib.splitK [32] 0 (Go.Lib.count l [32]) l = wds l
  | [] => by
    rw [Go.Lib.count_miss (by simp [Go.Lib.index])]
    rfl
  | b :: l => by
    have ih := splitK_eq l
    by_cases h : b = 32
    · subst h
      have hix : Go.Lib.index (32 :: l) [32] = 0 := by
        rw [Go.Lib.index]
        simp [List.isPrefixOf]
      rw [Go.Lib.count_cons_eq, Nat.add_comm, Go.Lib.splitK, hix, wds_hit, ← ih]
      simp
    · have hp : ([32] : List UInt8).isPrefixOf (b :: l) = false := by simp [List.isPrefixOf, Ne.symm h]
      have hix : Go.Lib.index (b :: l) [32] = if Go.Lib.index l [32] == -1 then -1 else Go.Lib.index l [32] + 1 := by
        rw [Go.Lib.index, hp]
        simp
      rw [Go.Lib.count_cons_ne b 32 l h]
      by_cases hm : Go.Lib.index l [32] = -1
      · rw [Go.Lib.count_miss hm] at ih ⊢
        rw [Go.Lib.splitK] at ih ⊢
        exact (wds_miss h ih.symm).symm
      · have hge := Go.Lib.index_ge l [32]
        obtain ⟨j, hj⟩ : ∃ j : Nat, Go.Lib.index l [32] = j := ⟨(Go.Lib.index l [32]).toNat, by omega⟩
        have hc := Go.Lib.count_hit (sub := [32]) (by simp) hj
        rw [hc, Nat.add_comm] at ih ⊢
        have e1 : ¬ ((j : Int) == -1) = true := fun e => by have := beq_iff_eq.1 e; omega
        have e2 : ¬ ((j : Int) + 1 == -1) = true := fun e => by have := beq_iff_eq.1 e; omega
        rw [Go.Lib.splitK, hj, if_neg e1] at ih
        rw [Go.Lib.splitK, hix, hj, if_neg e1, if_neg e2]
        have e3 : ((j : Int) + 1).toNat = j + 1 := by omega
        have e4 : (j : Int).toNat = j := by omega
        rw [e4] at ih
        rw [e3, wds_miss h ih.symm]
        simp only [Nat.add_zero, List.length_singleton, List.take_succ_cons, List.drop_succ_cons]
theorem split_eq (l : List UInt8) (h : l.length ≤ 1000000) : strings_Split.f (B l) (⟨#[32]⟩ : ByteArray) = some ((wds l).map B) := by
  unfold strings_Split.f
  rw [if_pos (by rw [B_size]; exact h), if_pos (by decide)]
  congr 1
  have h1 := Go.Lib.splitB_data ⟨#[32]⟩ 0 (Go.Lib.countB (B l) ⟨#[32]⟩) (B l)
  have h2 : (⟨#[32]⟩ : ByteArray).data.toList = [32] := rfl
  have h3 : Go.Lib.countB (B l) ⟨#[32]⟩ = Go.Lib.count l [32] := by
    show Go.Lib.count (B l).data.toList _ = _
    rw [B_data]
  rw [h2, B_data, h3, splitK_eq] at h1
  rw [← h1, h3, List.map_map]
  have h4 : (B ∘ fun s : ByteArray => s.data.toList) = id := by
    funext s
    exact B_of s
  rw [h4, List.map_id]

def allD (l : List UInt8) : Prop := ∀ b ∈ l, 48 ≤ b.toNat ∧ b.toNat ≤ 57
instance (l : List UInt8) : Decidable (allD l) := by unfold allD; exact inferInstance
def longW (t x d : UInt8) (r : List UInt8) : Prop := (48 ≤ t.toNat ∧ t.toNat ≤ 51) ∧ r.length ≤ 2 ∧ x.toNat = 42 ∧ d.toNat ≠ 48 ∧ allD (d :: r) ∧ 2 ≤ valD 0 (d :: r) ∧ valD 0 (d :: r) ≤ 500
instance (t x d : UInt8) (r : List UInt8) : Decidable (longW t x d r) := by unfold longW; exact inferInstance
/-- What a word says: a thread, and how many. -/
def runW : List UInt8 → Option (Int × Int)
  | [] => none
  | [t] => if 48 ≤ t.toNat ∧ t.toNat ≤ 51 then some ((t.toNat : Int) - 48, 1) else none
  | [_, _] => none
  | t :: x :: d :: r => if longW t x d r then some ((t.toNat : Int) - 48, (valD 0 (d :: r) : Int)) else none
theorem bt_0 (t : UInt8) (r : List UInt8) : bt (B (t :: r)) 0 = (t.toNat : Int) := bt_B (t :: r) 0 (by simp)
theorem bt_1 (t x : UInt8) (r : List UInt8) : bt (B (t :: x :: r)) 1 = (x.toNat : Int) := bt_B (t :: x :: r) 1 (by simp)
theorem bt_2 (t x d : UInt8) (r : List UInt8) : bt (B (t :: x :: d :: r)) 2 = (d.toNat : Int) := bt_B (t :: x :: d :: r) 2 (by simp)
theorem u8_lt (b : UInt8) : b.toNat < 256 := UInt8.toNat_lt b
/-- The specification's digits. -/
theorem specRun_l0 (l : List UInt8) (x y : Int) : ∀ (q : List UInt8) (i n k : Nat), l.drop i = q → i + q.length = l.length → l.length ≤ 1000 → q.length < k → q.length ≤ 3 → (q.length = 3 → n ≤ 9) → (q.length = 2 → n ≤ 99) → (q.length = 1 → n ≤ 999) → (q.length = 0 → n ≤ 9999) →
    spec_l5Run.l0 k (B l) (n : Int) (i : Int) x y = if allD q then some (x, (valD n q : Int), inB 2 500 (valD n q : Int)) else some (0, 0, false)
  | [], i, n, k, hq, hi, hl, hk, _, _, _, _, _ => by
    obtain ⟨k, rfl⟩ : ∃ m, k = m + 1 := ⟨k - 1, by omega⟩
    rw [spec_l5Run.l0, if_neg (by rw [B_size]; simp only [List.length_nil] at hi; omega), l1In_eq, Option.bind_some, if_pos (by intro b hb; cases hb), valD_nil]
  | b :: q, i, n, k, hq, hi, hl, hk, h3, b3, b2, b1, b0 => by
    obtain ⟨k, rfl⟩ : ∃ m, k = m + 1 := ⟨k - 1, by omega⟩
    simp only [List.length_cons] at hi hk h3 b3 b2 b1 b0
    have hil : i < l.length := by omega
    have hd : l[i] = b ∧ l.drop (i + 1) = q := by
      rw [List.drop_eq_getElem_cons hil] at hq
      injection hq with h1 h2
      exact ⟨h1, h2⟩
    have hb := u8_lt b
    rw [spec_l5Run.l0, if_pos (by rw [B_size]; omega), if_pos (by omega), bt_B l i hil, hd.1, w64 (x := (b.toNat : Int)) (by omega) (by omega), l1In_eq, Option.bind_some]
    by_cases c : 48 ≤ b.toNat ∧ b.toNat ≤ 57
    · have hn : n ≤ 999 := by omega
      have e0 : ((b.toNat : Int) - 48) % 256 = ((b.toNat - 48 : Nat) : Int) := by omega
      have e1 : wrap64 (wrap64 (10 * (n : Int)) + ((b.toNat : Int) - 48) % 256) = ((n * 10 + (b.toNat - 48) : Nat) : Int) := by
        rw [e0, w64 (x := 10 * (n : Int)) (by omega) (by omega), w64 (by omega) (by omega)]
        omega
      rw [if_pos (by simp only [inB, Bool.and_eq_true, decide_eq_true_eq]; omega), e1, w64 (x := (i : Int) + 1) (by omega) (by omega), show ((i : Int) + 1) = ((i + 1 : Nat) : Int) from by omega,
        specRun_l0 l x y q (i + 1) _ k hd.2 (by omega) hl (by omega) (by omega) (by omega) (by omega) (by omega) (by omega), valD_cons]
      by_cases c2 : allD q
      · rw [if_pos c2, if_pos (by
          intro a ha
          rcases List.mem_cons.1 ha with rfl | ha
          · exact c
          · exact c2 a ha)]
      · rw [if_neg c2, if_neg (fun h => c2 fun a ha => h a (List.mem_cons_of_mem _ ha))]
    · rw [if_neg (by simp only [inB, Bool.and_eq_true, decide_eq_true_eq]; omega), if_neg (fun h => c (h b (List.mem_cons_self ..)))]
theorem specRun_eq {k : Nat} (hk : 20 < k) (l : List UInt8) (hl : l.length ≤ 700) : ∃ x y, spec_l5Run.f k (B l) = some (x, y, (runW l).isSome) ∧ ∀ p, runW l = some p → x = p.1 ∧ y = p.2 := by
  obtain ⟨k, rfl⟩ : ∃ m, k = m + 2 := ⟨k - 2, by omega⟩
  unfold spec_l5Run.f
  match l, hl with
  | [], _ =>
    rw [if_pos (by rw [B_size]; rfl), spec_l5Run.j0, if_pos rfl]
    exact ⟨0, 0, rfl, fun p hp => by cases hp⟩
  | [t], _ =>
    have ht := u8_lt t
    rw [if_neg (by rw [B_size]; simp), if_pos (by rw [B_size]; simp), bt_0, w64 (x := (t.toNat : Int)) (by omega) (by omega), l1In_eq, Option.bind_some, spec_l5Run.j0]
    by_cases c : 48 ≤ t.toNat ∧ t.toNat ≤ 51
    · have e : inB 48 51 (t.toNat : Int) = true := by simp only [inB, Bool.and_eq_true, decide_eq_true_eq]; omega
      rw [e, Bool.not_true, if_neg Bool.false_ne_true, if_pos (by rw [B_size]; simp), if_pos (by rw [B_size]; rfl), bt_0]
      simp only [runW]
      rw [if_pos c]
      refine ⟨_, _, rfl, fun p hp => ?_⟩
      obtain rfl := Option.some.inj hp
      exact ⟨by simp only; omega, rfl⟩
    · have e : inB 48 51 (t.toNat : Int) = false := by
        rw [Bool.eq_false_iff]
        simp only [inB, ne_eq, Bool.and_eq_true, decide_eq_true_eq]
        omega
      rw [e, Bool.not_false, if_pos rfl]
      simp only [runW]
      rw [if_neg c]
      exact ⟨0, 0, rfl, fun p hp => by cases hp⟩
  | [t, x], _ =>
    have ht := u8_lt t
    rw [if_neg (by rw [B_size]; simp), if_pos (by rw [B_size]; simp), bt_0, w64 (x := (t.toNat : Int)) (by omega) (by omega), l1In_eq, Option.bind_some, spec_l5Run.j0]
    refine ⟨0, 0, ?_, fun p hp => by cases hp⟩
    show _ = some (0, 0, false)
    split
    · rfl
    · rw [if_pos (by rw [B_size]; simp), if_neg (by rw [B_size]; simp), l1In_eq, Option.bind_some, if_neg (by rw [B_size]; simp [inB]), spec_l5Run.j1, if_pos rfl]
  | t :: x :: d :: r, hl =>
    have ht := u8_lt t
    have hx := u8_lt x
    have hd := u8_lt d
    have hsz : ((B (t :: x :: d :: r)).size : Int) = (r.length : Int) + 3 := by
      rw [B_size]
      simp only [List.length_cons]
      omega
    simp only [List.length_cons] at hl
    rw [hsz, if_neg (by omega), if_pos (by omega), bt_0, w64 (x := (t.toNat : Int)) (by omega) (by omega), l1In_eq, Option.bind_some, spec_l5Run.j0, hsz]
    simp only [runW]
    by_cases c : 48 ≤ t.toNat ∧ t.toNat ≤ 51
    · have e : inB 48 51 (t.toNat : Int) = true := by simp only [inB, Bool.and_eq_true, decide_eq_true_eq]; omega
      rw [e, Bool.not_true, if_neg Bool.false_ne_true, if_pos (by omega), if_neg (by omega), l1In_eq, Option.bind_some]
      by_cases c1 : r.length ≤ 2
      · rw [if_pos (by simp only [inB, Bool.and_eq_true, decide_eq_true_eq]; omega), if_pos (by omega), bt_1, bt_2, bt_0]
        by_cases c2 : x.toNat = 42
        · rw [if_pos (by omega), if_pos (by omega), spec_l5Run.j1]
          by_cases c3 : d.toNat = 48
          · rw [if_pos (by simp only [beq_iff_eq]; omega), if_neg (fun h => h.2.2.2.1 c3)]
            exact ⟨0, 0, rfl, fun p hp => by cases hp⟩
          · rw [if_neg (by simp only [beq_iff_eq]; omega), show (0 : Int) = ((0 : Nat) : Int) from rfl, show (2 : Int) = ((2 : Nat) : Int) from rfl,
              specRun_l0 (t :: x :: d :: r) _ _ (d :: r) 2 0 k rfl (by simp only [List.length_cons]; omega) (by simp only [List.length_cons]; omega) (by simp only [List.length_cons]; omega) (by simp only [List.length_cons]; omega) (by omega) (by omega) (by omega) (by omega)]
            by_cases c4 : allD (d :: r)
            · rw [if_pos c4]
              have hv := val_lt c4 c1
              by_cases c5 : 2 ≤ valD 0 (d :: r) ∧ valD 0 (d :: r) ≤ 500
              · rw [if_pos (show longW t x d r from ⟨c, c1, c2, c3, c4, c5⟩)]
                have e5 : inB 2 500 (valD 0 (d :: r) : Int) = true := by simp only [inB, Bool.and_eq_true, decide_eq_true_eq]; omega
                refine ⟨((t.toNat : Int) - 48) % 256, (valD 0 (d :: r) : Int), ?_, fun p hp => ?_⟩
                · exact congrArg some (Prod.ext rfl (Prod.ext rfl e5))
                · obtain rfl := Option.some.inj hp
                  exact ⟨by simp only; omega, rfl⟩
              · rw [if_neg (fun h => c5 h.2.2.2.2.2)]
                have e5 : inB 2 500 (valD 0 (d :: r) : Int) = false := by
                  rw [Bool.eq_false_iff]
                  simp only [inB, ne_eq, Bool.and_eq_true, decide_eq_true_eq]
                  omega
                refine ⟨((t.toNat : Int) - 48) % 256, (valD 0 (d :: r) : Int), ?_, fun p hp => by cases hp⟩
                exact congrArg some (Prod.ext rfl (Prod.ext rfl e5))
            · rw [if_neg c4, if_neg (fun h => c4 h.2.2.2.2.1)]
              exact ⟨0, 0, rfl, fun p hp => by cases hp⟩
        · rw [if_neg (by omega), spec_l5Run.j1, if_pos rfl, if_neg (fun h => c2 h.2.2.1)]
          exact ⟨0, 0, rfl, fun p hp => by cases hp⟩
      · rw [if_neg (by simp only [inB, Bool.and_eq_true, decide_eq_true_eq]; omega), spec_l5Run.j1, if_pos rfl, if_neg (fun h => c1 h.2.1)]
        exact ⟨0, 0, rfl, fun p hp => by cases hp⟩
    · have e : inB 48 51 (t.toNat : Int) = false := by
        rw [Bool.eq_false_iff]
        simp only [inB, ne_eq, Bool.and_eq_true, decide_eq_true_eq]
        omega
      rw [e, Bool.not_false, if_pos rfl, if_neg (fun h => c h.1)]
      exact ⟨0, 0, rfl, fun p hp => by cases hp⟩
theorem dec_head {n : Nat} (h : n < 1000) (h0 : 1 ≤ n) : ∃ b r, Go.Lib.decDigits n = b :: r ∧ b.toNat ≠ 48 := by
  by_cases h1 : n < 10
  · rw [dec1 h1]
    exact ⟨_, _, rfl, by rw [u8_of _ (by omega)]; omega⟩
  · by_cases h2 : n < 100
    · rw [dec2 h1 h2]
      exact ⟨_, _, rfl, by rw [u8_of _ (by omega)]; omega⟩
    · rw [dec3 h2 h]
      exact ⟨_, _, rfl, by rw [u8_of _ (by omega)]; omega⟩
theorem implRun_eq {k : Nat} (hk : 20 < k) (l : List UInt8) (hl : l.length ≤ 700) : ∃ x y, impl_readRun.f k (B l) = some (x, y, (runW l).isSome) ∧ ∀ p, runW l = some p → x = p.1 ∧ y = p.2 := by
  obtain ⟨k, rfl⟩ : ∃ m, k = m + 2 := ⟨k - 2, by omega⟩
  unfold impl_readRun.f
  match l, hl with
  | [], _ =>
    rw [if_pos (by rw [B_toList]), impl_readRun.j0, if_pos rfl]
    exact ⟨0, 0, rfl, fun p hp => by cases hp⟩
  | t :: l, hl =>
    have ht := u8_lt t
    simp only [List.length_cons] at hl
    have hsz : ((B (t :: l)).size : Int) = (l.length : Int) + 1 := by
      rw [B_size]
      simp only [List.length_cons]
      omega
    rw [if_neg (by rw [B_toList]; simp), if_pos (by omega), bt_0, w64 (x := (t.toNat : Int)) (by omega) (by omega), w64 (x := (t.toNat : Int) - 48) (by omega) (by omega), isThread_eq, Option.bind_some, impl_readRun.j0, hsz]
    by_cases c : 48 ≤ t.toNat ∧ t.toNat ≤ 51
    · have e : inB 0 3 ((t.toNat : Int) - 48) = true := by simp only [inB, Bool.and_eq_true, decide_eq_true_eq]; omega
      rw [e, Bool.not_true, if_neg Bool.false_ne_true, if_pos (by omega), bt_0, w64 (x := (t.toNat : Int)) (by omega) (by omega), w64 (x := (t.toNat : Int) - 48) (by omega) (by omega)]
      cases l with
      | nil =>
        rw [if_pos (by simp)]
        simp only [runW]
        rw [if_pos c]
        refine ⟨_, _, rfl, fun p hp => ?_⟩
        obtain rfl := Option.some.inj hp
        exact ⟨rfl, rfl⟩
      | cons x l =>
        have hm : mn 2 ((((x :: l).length : Nat) : Int) + 1) = 2 := by
          unfold mn
          simp only [List.length_cons]
          omega
        have hex : (B (t :: x :: l)).extract (2 : Int).toNat (B (t :: x :: l)).size = B l := by
          rw [B_extract, B_size]
          simp only [List.length_cons]
          rw [show ((2 : Int).toNat) = 2 from rfl, List.take_of_length_le (by simp)]
          rfl
        rw [hm, if_neg (by simp only [List.length_cons]; omega), if_pos (by omega), if_pos (by simp only [List.length_cons]; omega), hex]
        obtain ⟨m, hm0⟩ := Int.eq_ofNat_of_zero_le (show 0 ≤ (t.toNat : Int) - 48 by omega)
        have hm4 : m < 4 := by omega
        have hdt : Go.Lib.decDigits m = [t] := by rw [dec1 (by omega), u8_back (b := t) (by omega)]
        have no : ∀ v : Int, Go.Lib.atoiAll l = .ok v → runW (t :: x :: l) = none → ∃ x' y, (if inB 2 500 v = true then ((strconv_Itoa_23.f ((t.toNat : Int) - 48)).bind fun t208 => (if t208.size + 1 ≤ 9223372036854775807 then ((strconv_Itoa_23.f v).bind fun t209 => (if (t208 ++ (⟨#[42]⟩ : ByteArray)).size + t209.size ≤ 9223372036854775807 then (if (B (t :: x :: l)).toList = ((t208 ++ (⟨#[42]⟩ : ByteArray)) ++ t209).toList then (some ((t.toNat : Int) - 48, v, true)) else (some (0, 0, false))) else (none))) else (none))) else (some (0, 0, false))) = some (x', y, false) := by
          intro v hv hn
          by_cases c1 : inB 2 500 v = true
          · have hv2 := c1
            simp only [inB, Bool.and_eq_true, decide_eq_true_eq] at hv2
            obtain ⟨n, rfl⟩ := Int.eq_ofNat_of_zero_le (show 0 ≤ v by omega)
            have hn1 : n < 1000 := by omega
            have ln := (dec_len hn1).2
            rw [if_pos c1, hm0, itoa_ok (by omega), Option.bind_some, if_pos (by rw [B_size]; have := (dec_len (show m < 1000 by omega)).2; omega), itoa_ok hn1, Option.bind_some, e42, B_append,
              if_pos (by rw [B_size, B_size, List.length_append, List.length_singleton]; have := (dec_len (show m < 1000 by omega)).2; omega), B_append, B_toList, B_toList, hdt]
            by_cases c2 : t :: x :: l = [t] ++ [42] ++ Go.Lib.decDigits n
            · exfalso
              simp only [List.singleton_append, List.cons_append, List.nil_append, List.cons.injEq, true_and] at c2
              obtain ⟨rfl, rfl⟩ := c2
              obtain ⟨b, r, hb, h48⟩ := dec_head hn1 (by omega)
              have hD := dec_digits hn1
              have hV := val_dec hn1
              rw [hb] at hn ln hD hV
              simp only [runW] at hn
              rw [if_pos (show longW t 42 b r from ⟨c, by simp only [List.length_cons] at ln; omega, rfl, h48, hD, by omega, by omega⟩)] at hn
              cases hn
            · rw [if_neg c2]
              exact ⟨0, 0, rfl⟩
          · rw [if_neg c1]
            exact ⟨0, 0, rfl⟩
        unfold strconv_Atoi_39.f
        rw [if_pos (by rw [B_size]; simp only [List.length_cons] at hl; omega), B_data]
        cases hr : runW (t :: x :: l) with
        | none =>
          cases ha : Go.Lib.atoiAll l with
          | ok v =>
            simp only [Option.bind_some, Option.isNone_none, if_true, in_eq]
            obtain ⟨x', y, h⟩ := no v ha hr
            exact ⟨x', y, h, fun p hp => by cases hp⟩
          | «syntax» =>
            simp only [Option.bind_some, Option.isNone_some, Bool.false_eq_true, if_false]
            exact ⟨0, 0, rfl, fun p hp => by cases hp⟩
          | range =>
            simp only [Option.bind_some, Option.isNone_some, Bool.false_eq_true, if_false]
            exact ⟨0, 0, rfl, fun p hp => by cases hp⟩
        | some p =>
          cases l with
          | nil => cases hr
          | cons d r =>
            simp only [runW] at hr
            by_cases c1 : longW t x d r
            · rw [if_pos c1] at hr
              obtain rfl := Option.some.inj hr
              obtain ⟨_, h2, h3, h4, h5, h6, h7⟩ := c1
              have hv := val_lt h5 h2
              have hdv := dec_val h5 h2 h4
              have hx42 : x = 42 := by
                have := u8_back h3
                rw [← this]
                rfl
              rw [atoi_digits h5 h2]
              generalize valD 0 (d :: r) = n at hv hdv h6 h7
              simp only [Option.bind_some, Option.isNone_none, if_true, in_eq]
              have ln := (dec_len hv).2
              rw [if_pos (by simp only [inB, Bool.and_eq_true, decide_eq_true_eq]; omega), hm0, itoa_ok (by omega), Option.bind_some, if_pos (by rw [B_size]; have := (dec_len (show m < 1000 by omega)).2; omega), itoa_ok hv, Option.bind_some, e42, B_append,
                if_pos (by rw [B_size, B_size, List.length_append, List.length_singleton]; have := (dec_len (show m < 1000 by omega)).2; omega), B_append, B_toList, B_toList, hdt, hdv, hx42, if_pos (by rfl)]
              refine ⟨_, _, rfl, fun p hp => ?_⟩
              obtain rfl := Option.some.inj hp
              exact ⟨rfl, rfl⟩
            · rw [if_neg c1] at hr
              cases hr
    · have e : inB 0 3 ((t.toNat : Int) - 48) = false := by
        rw [Bool.eq_false_iff]
        simp only [inB, ne_eq, Bool.and_eq_true, decide_eq_true_eq]
        omega
      rw [e, Bool.not_false, if_pos rfl]
      have hr : runW (t :: l) = none := by
        match l with
        | [] => simp only [runW]; rw [if_neg c]
        | [_] => rfl
        | x :: d :: r => simp only [runW]; rw [if_neg (fun h => c h.1)]
      rw [hr]
      exact ⟨0, 0, rfl, fun p hp => by cases hp⟩


end Go.Proofs.YtjbfcdeddnnnmaaDoor.K
namespace Go.Proofs.YtjbfcdeddnnnmaaDoor.K
set_option linter.unusedVariables false
set_option linter.unusedSimpArgs false
open Go.RowKit Go.Proofs.YtjbfcdeddnnnmaaDoorW.PrintWords Go.Proofs.YtjbfcdeddnnnmaaDoor.PbK

/-- What is read from place p on: the sum and the runs so far, the words that are left. -/
def readR : Int → Int → List S42 → List (List UInt8) → List S42 × Int × Int
  | _, _, acc, [] => (acc, 0, 0)
  | p, sum, acc, w :: ws => match runW w with
    | none => ([], 2, p)
    | some (t, n) => if acc.length = 60 ∨ sum + n > 1500 then ([], 3, p) else readR (p + w.length + 1) (sum + n) (acc ++ [⟨t, n⟩]) ws
theorem run_rng {w : List UInt8} {p : Int × Int} (h : runW w = some p) : (0 ≤ p.1 ∧ p.1 ≤ 3) ∧ 1 ≤ p.2 ∧ p.2 ≤ 500 := by
  match w with
  | [] => cases h
  | [t] =>
    simp only [runW] at h
    split at h
    · obtain rfl := Option.some.inj h
      simp only
      omega
    · cases h
  | [_, _] => cases h
  | t :: x :: d :: r =>
    simp only [runW] at h
    split at h
    · rename_i c
      obtain ⟨c1, _, _, _, _, c6, c7⟩ := c
      obtain rfl := Option.some.inj h
      simp only
      omega
    · cases h
theorem readR_len : ∀ (ws : List (List UInt8)) (p sum : Int) (acc : List S42), acc.length ≤ 60 → (readR p sum acc ws).1.length ≤ 60
  | [], _, _, acc, h => h
  | w :: ws, p, sum, acc, h => by
    rw [readR]
    cases runW w with
    | none => simp
    | some q =>
      obtain ⟨t, n⟩ := q
      simp only
      split
      · simp
      · exact readR_len ws _ _ _ (by rw [List.length_append, List.length_singleton]; omega)
/-- The scan for the next blank. -/
theorem specRead_l1 (l : List UInt8) (acc : List S42) (sum p : Int) (hl : l.length ≤ 600) : ∀ (w : List UInt8) (e k : Nat), (∀ b ∈ w, b ≠ 32) → ((l.drop e = w) ∨ ∃ t, l.drop e = w ++ 32 :: t) → spec_ReadSchedule.l1 (k + w.length + 1) (B l) acc sum p (e : Int) = spec_ReadSchedule.j3 k (B l) acc sum p ((e + w.length : Nat) : Int)
  | [], e, k, _, h => by
    rcases h with h | ⟨t, h⟩
    · have he : l.length ≤ e := List.drop_eq_nil_iff.1 h
      rw [List.length_nil, spec_ReadSchedule.l1, if_neg (by rw [B_size]; omega)]
      rfl
    · have he : e < l.length := by
        rcases Nat.lt_or_ge e l.length with c | c
        · exact c
        · rw [List.drop_of_length_le c] at h
          cases h
      rw [List.drop_eq_getElem_cons he] at h
      have hb : l[e] = 32 := by
        injection h
      rw [List.length_nil, spec_ReadSchedule.l1, if_pos (by rw [B_size]; omega), if_pos (by omega), bt_B l e he, hb, if_pos (by rfl)]
      rfl
  | b :: w, e, k, hw, h => by
    have he : e < l.length := by
      rcases Nat.lt_or_ge e l.length with c | c
      · exact c
      · rw [List.drop_of_length_le c] at h
        rcases h with h | ⟨t, h⟩ <;> cases h
    rw [List.drop_eq_getElem_cons he] at h
    have hb : l[e] = b := by
      rcases h with h | ⟨t, h⟩ <;> injection h
    have h2 : l.drop (e + 1) = w ∨ ∃ t, l.drop (e + 1) = w ++ 32 :: t := by
      rcases h with h | ⟨t, h⟩
      · injection h with _ h
        exact Or.inl h
      · injection h with _ h
        exact Or.inr ⟨t, h⟩
    have hb32 := hw b (List.mem_cons_self ..)
    have hb2 : b.toNat ≠ 32 := fun hc => hb32 (by have := u8_back hc; rw [← this]; rfl)
    have ih := specRead_l1 l acc sum p hl w (e + 1) k (fun c hc => hw c (List.mem_cons_of_mem _ hc)) h2
    rw [List.length_cons, show k + (w.length + 1) + 1 = (k + w.length + 1) + 1 from by omega, spec_ReadSchedule.l1, if_pos (by rw [B_size]; omega), if_pos (by omega), bt_B l e he, hb, if_neg (by omega), w64 (by omega) (by omega), show ((e : Int) + 1) = ((e + 1 : Nat) : Int) from by omega, ih]
    rw [show e + 1 + w.length = e + (w.length + 1) from by omega]
theorem specRead_l0 (l : List UInt8) (hl : l.length ≤ 600) (h0 : 0 < l.length) : ∀ (n : Nat) (p : Nat) (acc : List S42) (sum : Int) (k : Nat), p + n = l.length → 0 ≤ sum → sum ≤ 1500 → acc.length ≤ 60 → 5 * n + 60 < k → spec_ReadSchedule.l0 k (B l) acc sum (p : Int) = some (readR (p : Int) sum acc (wds (l.drop p))) := by
  intro n
  induction n using Nat.strongRecOn with
  | ind n ih =>
    intro p acc sum k hp s0 s1 ha hk
    obtain ⟨w, ws, ew, hw, hr⟩ := wds_cons (l.drop p)
    have hdl : (l.drop p).length = n := by
      rw [List.length_drop]
      omega
    have hwn : w.length ≤ n := by
      rcases hr with ⟨hr, _⟩ | ⟨t, hr, _⟩
      · rw [hr] at hdl
        omega
      · rw [hr, List.length_append] at hdl
        omega
    obtain ⟨k, rfl⟩ : ∃ m, k = ((m + 1) + w.length + 1) + 2 := ⟨k - w.length - 4, by omega⟩
    have htk : (l.drop p).take w.length = w := by
      rcases hr with ⟨hr, _⟩ | ⟨t, hr, _⟩
      · rw [hr, List.take_length]
      · rw [hr, List.take_left]
    rw [spec_ReadSchedule.l0, if_pos (by rw [B_size]; omega), decide_eq_true (by rw [B_size]; omega : (p : Int) ≤ ((B l).size : Int)), spec_ReadSchedule.j1, if_pos rfl,
      specRead_l1 l acc sum p hl w p (k + 1) hw (by rcases hr with ⟨hr, _⟩ | ⟨t, hr, _⟩; exact Or.inl hr; exact Or.inr ⟨t, hr⟩),
      spec_ReadSchedule.j3, if_pos (by omega), if_pos (by omega), if_pos (by rw [B_size]; omega), Int.toNat_natCast, Int.toNat_natCast, B_extract, show p + w.length - p = w.length from by omega, htk]
    obtain ⟨x, y, e1, e2⟩ := specRun_eq (k := k) (by omega) w (by omega)
    rw [e1, Option.bind_some, ew, readR]
    cases hR : runW w with
    | none =>
      simp only [Option.isSome_none]
      rw [if_neg Bool.false_ne_true]
    | some q =>
      obtain ⟨t, m⟩ := q
      obtain ⟨hx, hy⟩ := e2 _ hR
      simp only at hx hy
      subst x
      subst y
      have hq := run_rng hR
      simp only at hq
      simp only [Option.isSome_some]
      rw [if_pos trivial, w64 (x := sum + m) (by omega) (by omega)]
      by_cases c1 : acc.length = 60
      · rw [if_pos (by omega), if_pos (Or.inl c1)]
      · rw [if_neg (by omega)]
        by_cases c2 : sum + m > 1500
        · rw [if_pos c2, if_pos (Or.inr c2)]
        · rw [if_neg c2, if_pos (by omega), w64 (by omega) (by omega), if_neg (by omega)]
          rcases hr with ⟨hr, rfl⟩ | ⟨t', hr, rfl⟩
          · rw [hr] at hdl
            obtain ⟨k, rfl⟩ : ∃ m, k = m + 2 := ⟨k - 2, by omega⟩
            rw [spec_ReadSchedule.l0, if_pos (by rw [B_size]; omega), decide_eq_false (by rw [B_size]; omega : ¬ (((p + w.length : Nat) : Int) + 1 ≤ ((B l).size : Int))), spec_ReadSchedule.j1, if_neg Bool.false_ne_true]
            rfl
          · rw [hr, List.length_append, List.length_cons] at hdl
            have hd2 : l.drop (p + w.length + 1) = t' := by
              rw [show p + w.length + 1 = p + (w.length + 1) from by omega, ← List.drop_drop, hr]
              rw [show w ++ 32 :: t' = (w ++ [32]) ++ t' from by simp, List.drop_left' (by simp)]
            have := ih (n - (w.length + 1)) (by omega) (p + w.length + 1) (acc ++ [⟨t, m⟩]) (sum + m) k (by omega) (by omega) (by omega) (by rw [List.length_append, List.length_singleton]; omega) (by omega)
            rw [hd2] at this
            rw [show (((p + w.length : Nat) : Int) + 1) = ((p + w.length + 1 : Nat) : Int) from by omega, this]
            congr 1
/-- A text read. -/
def readS (l : List UInt8) : List S42 × Int × Int := if l.length > 600 then ([], 1, 0) else if l = [] then ([], 0, 0) else readR 0 0 [] (wds l)
theorem readS_len (l : List UInt8) : (readS l).1.length ≤ 60 := by
  unfold readS
  split
  · simp
  · split
    · simp
    · exact readR_len _ _ _ _ (by simp)
theorem specRead_eq {k : Nat} (hk : 5000 < k) (l : List UInt8) (hl : l.length ≤ 2000000) : spec_ReadSchedule.f k (B l) = some (readS l) := by
  unfold spec_ReadSchedule.f readS
  rw [Option.bind_some, B_size]
  by_cases c : l.length > 600
  · rw [if_pos (by omega), if_pos c]
  · rw [if_neg (by omega), if_neg c]
    by_cases c2 : l = []
    · subst c2
      obtain ⟨k, rfl⟩ : ∃ m, k = m + 2 := ⟨k - 2, by omega⟩
      rw [if_pos rfl, spec_ReadSchedule.l0, if_neg (by rw [B_size]; simp), spec_ReadSchedule.j1, if_neg Bool.false_ne_true]
    · have h0 : 0 < l.length := List.length_pos_iff.2 c2
      rw [if_neg c2]
      exact specRead_l0 l (by omega) h0 l.length 0 [] 0 k (by omega) (by omega) (by omega) (by simp) (by omega)
def sumR : List S42 → Int
  | [] => 0
  | r :: l => r.f1 + sumR l
theorem sumR_snoc : ∀ (l : List S42) (r : S42), sumR (l ++ [r]) = sumR l + r.f1
  | [], r => by simp [sumR]
  | q :: l, r => by
    rw [List.cons_append, sumR, sumR, sumR_snoc l r]
    omega
theorem runsR_sum : ∀ (l : List S42) (a : Int), (∀ r ∈ l, okRun r) → runsR a l = decide (a + sumR l ≤ 1500)
  | [], a, _ => by simp [runsR, sumR]
  | r :: l, a, h => by
    obtain ⟨h0, h1⟩ := h r (List.mem_cons_self ..)
    have e0 : inB 0 3 r.f0 = true := by simp only [inB, Bool.and_eq_true, decide_eq_true_eq]; omega
    have e1 : inB 1 500 r.f1 = true := by simp only [inB, Bool.and_eq_true, decide_eq_true_eq]; omega
    rw [runsR, e0, e1, Bool.true_and, Bool.true_and, runsR_sum l _ (fun q hq => h q (List.mem_cons_of_mem _ hq)), sumR, Int.add_assoc]
theorem schedR_sum {l : List S42} (h : ∀ r ∈ l, okRun r) : schedR l = (decide (l.length ≤ 60) && decide (sumR l ≤ 1500)) := by
  unfold schedR
  rw [runsR_sum l 0 h, Int.zero_add]
theorem implRead_l0 (W : List (List UInt8)) (hW : ∀ w ∈ W, w.length ≤ 600) (hL : W.length ≤ 700) (d : Nat) : ∀ (k i : Nat) (acc : List S42) (p : Int), i + d = W.length → d + 900 < k → (∀ r ∈ acc, okRun r) → acc.length ≤ 60 → sumR acc ≤ 1500 → 0 ≤ p → p + 700 * (d : Int) ≤ 1000000 → impl_ReadSchedule.l0 k acc p (W.map B) (W.length : Int) (i : Int) = some (readR p (sumR acc) acc (W.drop i)) := by
  induction d with
  | zero =>
    intro k i acc p hi hk hok ha hs p0 p1
    obtain ⟨k, rfl⟩ : ∃ m, k = m + 1 := ⟨k - 1, by omega⟩
    rw [impl_ReadSchedule.l0, if_neg (by omega), List.drop_of_length_le (by omega), readR]
  | succ d ih =>
    intro k i acc p hi hk hok ha hs p0 p1
    obtain ⟨k, rfl⟩ : ∃ m, k = m + 1 := ⟨k - 1, by omega⟩
    have hil : i < W.length := by omega
    have hwl := hW _ (List.getElem_mem hil)
    have hrd : rdOf ByteArray.empty (W.map B) (i : Int) = B W[i] := by
      rw [rdOf_at _ _ i (by rw [List.length_map]; exact hil), List.getElem_map]
    obtain ⟨x, y, e1, e2⟩ := implRun_eq (k := k) (by omega) W[i] (by omega)
    rw [impl_ReadSchedule.l0, if_pos (by omega), if_pos (by omega), if_pos (by rw [List.length_map]; omega), hrd, e1, Option.bind_some, drop_cons W i hil, readR]
    cases hR : runW W[i] with
    | none =>
      simp only [Option.isSome_none]
      rw [if_neg Bool.false_ne_true]
    | some q =>
      obtain ⟨t, m⟩ := q
      obtain ⟨hx, hy⟩ := e2 _ hR
      simp only at hx hy
      subst x
      subst y
      have hq := run_rng hR
      simp only at hq
      simp only [Option.isSome_some]
      have hok2 : ∀ r ∈ acc ++ [(⟨t, m⟩ : S42)], okRun r := by
        intro r hr
        rcases List.mem_append.1 hr with hr | hr
        · exact hok r hr
        · obtain rfl := List.mem_singleton.1 hr
          exact hq
      rw [if_pos trivial, if_pos (by omega), Option.bind_some, implSched_eq (by rw [List.length_append, List.length_singleton]; omega) (by rw [List.length_append, List.length_singleton]; omega), Option.bind_some, schedR_sum hok2, sumR_snoc, List.length_append, List.length_singleton, B_size]
      simp only
      by_cases c : acc.length = 60 ∨ sumR acc + m > 1500
      · rw [if_pos c, if_neg (by simp only [Bool.and_eq_true, decide_eq_true_eq]; omega)]
      · rw [if_neg c, if_pos (by simp only [Bool.and_eq_true, decide_eq_true_eq]; omega), w64 (x := (W[i].length : Int) + 1) (by omega) (by omega), w64 (x := p + ((W[i].length : Int) + 1)) (by omega) (by omega), w64 (x := (i : Int) + 1) (by omega) (by omega), show ((i : Int) + 1) = ((i + 1 : Nat) : Int) from by omega,
          ih k (i + 1) _ _ (by omega) (by omega) hok2 (by rw [List.length_append, List.length_singleton]; omega) (by rw [sumR_snoc]; simp only; omega) (by omega) (by omega), sumR_snoc, Int.add_assoc]
theorem tot_le {ws : List (List UInt8)} : ∀ w ∈ ws, w.length + 1 ≤ totW ws := by
  induction ws with
  | nil => intro w hw; cases hw
  | cons v ws ih =>
    intro w hw
    rw [totW]
    rcases List.mem_cons.1 hw with rfl | hw
    · omega
    · have := ih w hw
      omega
theorem tot_len : ∀ ws : List (List UInt8), ws.length ≤ totW ws
  | [] => by simp [totW]
  | w :: ws => by
    have := tot_len ws
    rw [totW, List.length_cons]
    omega
theorem implRead_eq {k : Nat} (hk : 5000 < k) (l : List UInt8) (hl : l.length ≤ 2000000) : impl_ReadSchedule.f k (B l) = some (readS l) := by
  unfold impl_ReadSchedule.f readS
  rw [B_size]
  by_cases c : l.length > 600
  · rw [if_pos (by omega), if_pos c]
  · rw [if_neg (by omega), if_neg c, B_toList]
    by_cases c2 : l = []
    · rw [if_pos c2, if_pos c2]
    · have ht := wds_tot l
      have h1 := tot_len (wds l)
      rw [if_neg c2, if_neg c2, split_eq l (by omega), Option.bind_some, List.length_map]
      exact implRead_l0 (wds l) (fun w hw => by have := tot_le w hw; omega) (by omega) (wds l).length k 0 [] 0 (by omega) (by omega) (by simp) (by simp) (by simp [sumR]) (by omega) (by omega)
theorem heldRunS_l0 (d : Nat) : ∀ (k : Nat) (a : Int) (p : List S42), p.length + d ≤ 4000000 → d < k → 0 ≤ a → a + 2 * d ≤ 1099511627776 → laws_heldRunS.l0 k (p ++ mkLRun a d) a ((p.length : Nat) : Int) = some (a + 2 * d) := by
  induction d with
  | zero =>
    intro k a p hl hk h0 h1
    obtain ⟨k, rfl⟩ : ∃ m, k = m + 1 := ⟨k - 1, by omega⟩
    simp only [laws_heldRunS.l0]
    rw [if_neg (by simp [mkLRun])]
    simp
  | succ d ih =>
    intro k a p hl hk h0 h1
    obtain ⟨k, rfl⟩ : ∃ m, k = m + 1 := ⟨k - 1, by omega⟩
    simp only [laws_heldRunS.l0]
    have ei : wrap64 ((p.length : Int) + 1) = ((p.length + 1 : Nat) : Int) := by
      rw [w64 (by omega) (by omega)]
      omega
    have ea : wrap64 (a + 1) = a + 1 := w64 (by omega) (by omega)
    have ea2 : wrap64 (a + 1 + 1) = a + 1 + 1 := w64 (by omega) (by omega)
    have hlen : ((p ++ mkLRun a (d + 1)).length : Int) = p.length + d + 1 := by
      simp [mkLRun_len]
      omega
    rw [if_pos (by omega), if_pos (by omega)]
    simp only [mkLRun, rdT42_mid, ea, ea2, ei, mkRun, if_true]
    have h := ih k (a + 1 + 1) (p ++ [mkRun a]) (by simp; omega) (by omega) (by omega) (by omega)
    rw [List.append_assoc, List.length_append] at h
    simp only [List.singleton_append, List.length_singleton, mkRun] at h
    rw [h]
    refine congrArg some ?_
    omega
theorem heldRunS_eq {k : Nat} {m : Nat} {a : Int} (hl : m ≤ 4000000) (hk : m < k) (h0 : 0 ≤ a) (h1 : a ≤ 549755813888) : laws_heldRunS.f k (mkLRun a m) a = some (a + 2 * m) := by
  unfold laws_heldRunS.f
  exact heldRunS_l0 m k a [] (by simpa using hl) hk h0 (by omega)


end Go.Proofs.YtjbfcdeddnnnmaaDoor.K
namespace Go.Proofs.YtjbfcdeddnnnmaaDoor.Pure
set_option linter.unusedVariables false
set_option linter.unusedSimpArgs false
open Go.RowKit Go.Proofs.YtjbfcdeddnnnmaaDoor.K Go.Proofs.YtjbfcdeddnnnmaaDoorW.PrintWords Go.Proofs.YtjbfcdeddnnnmaaDoor.PbK

theorem j0_ok (l : List UInt8) (hl : l.length ≤ 1048576) {k : Nat} (hk : 6000 < k) {R : List S42 × Int × Int} (hR : readS l = R) : laws_FnExactReadSchedule.j0 k (B l) R.1 R.2.1 R.2.2 R.1 false = some true := by
  obtain ⟨k, rfl⟩ : ∃ m, k = m + 2 := ⟨k - 2, by omega⟩
  have hlen := readS_len l
  rw [hR] at hlen
  have hm := markRunS_eq (k := k + 1) (x := R.1) (a := 1) (by omega) (by omega) (by omega) (by omega)
  have hh : ∀ k' : Nat, 100 < k' → laws_heldRunS.f k' (mkLRun 1 R.1.length) 1 = some (1 + 2 * (R.1.length : Int)) := fun k' hk' => heldRunS_eq (by omega) (by omega) (by omega) (by omega)
  rw [laws_FnExactReadSchedule.j0, if_neg Bool.false_ne_true, hm, Option.bind_some, hh _ (by omega), Option.bind_some, if_neg (by omega), if_pos rfl, implRead_eq (by omega) l (by omega), Option.bind_some, hR, eqRunS_refl (by omega) (by omega), Option.bind_some, if_pos rfl, if_pos rfl, bne_self_eq_false,
    laws_FnExactReadSchedule.j1, if_neg Bool.false_ne_true, hh _ (by omega), Option.bind_some, if_neg (by omega), if_pos rfl]
theorem FnExactReadSchedule : laws_FnExactReadSchedule.Pure := by
  intro a ha
  obtain ⟨k, hk⟩ : ∃ k : Nat, 30000000 < k := ⟨30000001, by omega⟩
  refine ⟨k, ?_⟩
  unfold laws_FnExactReadSchedule.f
  obtain ⟨l, rfl⟩ : ∃ l, a = B l := ⟨a.data.toList, (B_of a).symm⟩
  rw [B_size]
  by_cases h1 : (l.length : Int) > 1048576
  · rw [if_pos h1]
  · have hl : l.length ≤ 1048576 := by omega
    have hlen := readS_len l
    rw [if_neg h1, specRead_eq (by omega) l (by omega), Option.bind_some, implRead_eq (by omega) l (by omega), Option.bind_some, eqRunS_refl (by omega) (by omega), Option.bind_some, if_pos rfl, if_pos rfl, bne_self_eq_false]
    exact j0_ok l hl (by omega) rfl


end Go.Proofs.YtjbfcdeddnnnmaaDoor.Pure
