/- The pure statement of FnSchedules and what it needs. Conditions: those that each theorem states. -/
import Derived.Test.YtjbfcdeddnnnmaaDoorVFnSchedules1
import Derived.Laws.BitsLemmas
import Derived.Lib.AtoiAll
import Derived.Lib.ItoaMem
import Derived.Lib.Join
import Derived.Lib.SplitLaws
import Derived.RowKit
namespace Go.Proofs.YtjbfcdeddnnnmaaDoor.PbK
open Go.RowKit Go.Proofs.YtjbfcdeddnnnmaaDoorW.PrintWords

theorem w64 {x : Int} (h0 : -9223372036854775808 ≤ x) (h1 : x ≤ 9223372036854775807) : wrap64 x = x := by
  unfold wrap64
  omega

theorem rd_at (l : List Int) (i : Nat) (h : i < l.length) : rd l (i : Int) = l[i] := by
  simp [rd, List.getD_eq_getElem?_getD, List.getElem?_eq_getElem h]

theorem rdOf_at {α : Type} (d : α) (l : List α) (i : Nat) (h : i < l.length) : rdOf d l (i : Int) = l[i] := by
  simp [rdOf, List.getD_eq_getElem?_getD, List.getElem?_eq_getElem h]

theorem drop_cons {α : Type} (l : List α) (i : Nat) (h : i < l.length) : l.drop i = l[i] :: l.drop (i + 1) := List.drop_eq_getElem_cons h


end Go.Proofs.YtjbfcdeddnnnmaaDoor.PbK
namespace Go.Proofs.YtjbfcdeddnnnmaaDoor.K
set_option linter.unusedVariables false
set_option linter.unusedSimpArgs false
open Go.RowKit Go.Proofs.YtjbfcdeddnnnmaaDoorW.PrintWords Go.Proofs.YtjbfcdeddnnnmaaDoor.PbK

/-- All of a list within bounds. -/
def inB (a b x : Int) : Bool := decide (a ≤ x) && decide (x ≤ b)

theorem in_eq (x a b : Int) : impl_in.f x a b = some (inB a b x) := by
  unfold impl_in.f inB
  by_cases h : a ≤ x
  · rw [if_pos h, decide_eq_true h, Bool.true_and]
  · rw [if_neg h, decide_eq_false h, Bool.false_and]


end Go.Proofs.YtjbfcdeddnnnmaaDoor.K
namespace Go.Proofs.YtjbfcdeddnnnmaaDoor.K
set_option linter.unusedSimpArgs false
open Go.RowKit Go.Proofs.YtjbfcdeddnnnmaaDoorW.PrintWords Go.Proofs.YtjbfcdeddnnnmaaDoor.PbK

theorem rdT42_at (l : List S42) (i : Nat) (h : i < l.length) : rd_T42 l (i : Int) = l[i] := by
  simp [rd_T42, List.getD_eq_getElem?_getD, List.getElem?_eq_getElem h]

end Go.Proofs.YtjbfcdeddnnnmaaDoor.K
namespace Go.Proofs.YtjbfcdeddnnnmaaDoor.K
set_option linter.unusedVariables false
set_option linter.unusedSimpArgs false
open Go.RowKit Go.Proofs.YtjbfcdeddnnnmaaDoorW.PrintWords Go.Proofs.YtjbfcdeddnnnmaaDoor.PbK

theorem isThread_eq (x : Int) : impl_isThread.f x = some (inB 0 3 x) := by
  unfold impl_isThread.f
  rw [in_eq, Option.bind_some]

/-- The loop of ScheduleOk: what is left, and the sum so far. The answer of the specification's side may be no sooner than the other's. -/
def runsR : Int → List S42 → Bool
  | a, [] => decide (a ≤ 1500)
  | a, r :: l => inB 0 3 r.f0 && (inB 1 500 r.f1 && runsR (a + r.f1) l)
def schedR (l : List S42) : Bool := decide (l.length ≤ 60) && runsR 0 l
theorem implSched_l0 (l : List S42) (hl : l.length ≤ 4000000) (d : Nat) : ∀ (k i : Nat) (a : Int), i + d = l.length → d < k → 0 ≤ a → a ≤ 500 * (i : Int) → impl_ScheduleOk.l0 k l a l (l.length : Int) (i : Int) = some (decide (l.length ≤ 60) && runsR a (l.drop i)) := by
  induction d with
  | zero =>
    intro k i a hi hk h0 h1
    obtain ⟨k, rfl⟩ : ∃ m, k = m + 1 := ⟨k - 1, by omega⟩
    rw [impl_ScheduleOk.l0, if_neg (by omega), List.drop_of_length_le (by omega)]
    by_cases h : l.length ≤ 60
    · rw [if_pos (by omega), decide_eq_true h, Bool.true_and]; rfl
    · rw [if_neg (by omega), decide_eq_false h, Bool.false_and]
  | succ d ih =>
    intro k i a hi hk h0 h1
    obtain ⟨k, rfl⟩ : ∃ m, k = m + 1 := ⟨k - 1, by omega⟩
    rw [impl_ScheduleOk.l0, if_pos (by omega), if_pos (by omega), if_pos (by omega), rdT42_at l i (by omega), drop_cons l i (by omega), isThread_eq, Option.bind_some]
    simp only [runsR]
    cases h2 : inB 0 3 l[i].f0 with
    | false => simp
    | true =>
      rw [if_pos rfl, in_eq, Option.bind_some]
      cases h3 : inB 1 500 l[i].f1 with
      | false => simp
      | true =>
        simp only [inB, Bool.and_eq_true, decide_eq_true_eq] at h3
        rw [if_pos rfl, Bool.true_and, Bool.true_and, w64 (x := (i : Int) + 1) (by omega) (by omega), w64 (x := a + l[i].f1) (by omega) (by omega), show ((i : Int) + 1) = ((i + 1 : Nat) : Int) from by omega, ih k (i + 1) _ (by omega) (by omega) (by omega) (by omega)]
theorem implSched_eq {k : Nat} {l : List S42} (hl : l.length ≤ 4000000) (hk : l.length < k) : impl_ScheduleOk.f k l = some (schedR l) := by
  unfold impl_ScheduleOk.f schedR
  have h := implSched_l0 l hl l.length k 0 0 (by omega) hk (by omega) (by omega)
  rw [List.drop_zero] at h
  exact h


end Go.Proofs.YtjbfcdeddnnnmaaDoor.K
namespace Go.Proofs.YtjbfcdeddnnnmaaDoor.K
set_option linter.unusedVariables false
set_option linter.unusedSimpArgs false
open Go.RowKit Go.Proofs.YtjbfcdeddnnnmaaDoorW.PrintWords Go.Proofs.YtjbfcdeddnnnmaaDoor.PbK

def B (l : List UInt8) : ByteArray := ⟨l.toArray⟩
theorem B_data (l : List UInt8) : (B l).data.toList = l := by simp [B]
theorem B_size (l : List UInt8) : (B l).size = l.length := by simp [B, ByteArray.size]
theorem B_append (a b : List UInt8) : B a ++ B b = B (a ++ b) := by
  apply ByteArray.ext
  rw [ByteArray.data_append]
  simp [B]
theorem B_of (s : ByteArray) : B s.data.toList = s := by
  cases s
  simp [B]
theorem B_toList (l : List UInt8) : (B l).toList = l := by
  rw [ByteArray.toList_eq]
  simp [B]
theorem B_extract (l : List UInt8) (i j : Nat) : (B l).extract i j = B ((l.drop i).take (j - i)) := by
  rw [← B_of ((B l).extract i j), Go.Lib.extract_data, B_data]
theorem bt_B (l : List UInt8) (i : Nat) (h : i < l.length) : bt (B l) (i : Int) = (l[i].toNat : Int) := by
  unfold bt
  rw [dif_pos (show (i : Int).toNat < (B l).size by rw [B_size]; omega)]
  simp [B, ByteArray.getElem_eq_getElem_data]
theorem u8_of (n : Nat) (h : n < 256) : (UInt8.ofNat n).toNat = n := by
  rw [UInt8.toNat_ofNat']
  omega
theorem dec1 {n : Nat} (h : n < 10) : Go.Lib.decDigits n = [UInt8.ofNat (48 + n)] := Go.Lib.decDigits_one h
theorem dec2 {n : Nat} (h : ¬ n < 10) (h1 : n < 100) : Go.Lib.decDigits n = [UInt8.ofNat (48 + n / 10), UInt8.ofNat (48 + n % 10)] := Go.Lib.decDigits_two h h1
theorem dec3 {n : Nat} (h : ¬ n < 100) (h1 : n < 1000) : Go.Lib.decDigits n = [UInt8.ofNat (48 + n / 100), UInt8.ofNat (48 + n / 10 % 10), UInt8.ofNat (48 + n % 10)] := by
  rw [Go.Lib.decDigits, dif_neg (by omega), dec2 (by omega) (by omega), show n / 10 / 10 = n / 100 by omega]
  rfl
theorem dec_len {n : Nat} (h : n < 1000) : 1 ≤ (Go.Lib.decDigits n).length ∧ (Go.Lib.decDigits n).length ≤ 3 := by
  by_cases h1 : n < 10
  · rw [dec1 h1]
    simp
  · by_cases h2 : n < 100
    · rw [dec2 h1 h2]
      simp
    · rw [dec3 h2 h]
      simp
theorem dec_digits {n : Nat} (h : n < 1000) : ∀ b ∈ Go.Lib.decDigits n, 48 ≤ b.toNat ∧ b.toNat ≤ 57 := by
  have u : ∀ m, m < 10 → 48 ≤ (UInt8.ofNat (48 + m)).toNat ∧ (UInt8.ofNat (48 + m)).toNat ≤ 57 := fun m hm => by
    rw [u8_of _ (by omega)]
    omega
  intro b hb
  by_cases h1 : n < 10
  · rw [dec1 h1] at hb
    obtain rfl := List.mem_singleton.1 hb
    exact u n h1
  · by_cases h2 : n < 100
    · rw [dec2 h1 h2] at hb
      simp only [List.mem_cons, List.not_mem_nil, or_false] at hb
      rcases hb with rfl | rfl
      · exact u _ (by omega)
      · exact u _ (by omega)
    · rw [dec3 h2 h] at hb
      simp only [List.mem_cons, List.not_mem_nil, or_false] at hb
      rcases hb with rfl | rfl | rfl
      · exact u _ (by omega)
      · exact u _ (by omega)
      · exact u _ (by omega)
theorem itoa_ok {n : Nat} (h : n < 1000) : strconv_Itoa_23.f (n : Int) = some (B (Go.Lib.decDigits n)) := by
  unfold strconv_Itoa_23.f
  rw [if_pos (by omega), if_pos (by omega), Go.Lib.itoa_nonneg]
  rfl
theorem parse_dig {b : UInt8} (h : 48 ≤ b.toNat ∧ b.toNat ≤ 57) {acc : Nat} (ha : acc ≤ 1000000) (r : List UInt8) : Go.Lib.parseUint10 acc (b :: r) = Go.Lib.parseUint10 (acc * 10 + (b.toNat - 48)) r := by
  rw [Go.Lib.parseUint10, if_pos h, if_neg (by omega), if_neg (by omega)]
/-- The value of digits. -/
def valD (a : Nat) (l : List UInt8) : Nat := l.foldl (fun a b => a * 10 + (b.toNat - 48)) a
theorem valD_nil (a : Nat) : valD a [] = a := by
  unfold valD
  rw [List.foldl_nil]
theorem valD_cons (a : Nat) (b : UInt8) (r : List UInt8) : valD a (b :: r) = valD (a * 10 + (b.toNat - 48)) r := by
  unfold valD
  rw [List.foldl_cons]
theorem parse_end (acc : Nat) : Go.Lib.parseUint10 acc [] = .ok acc := by rw [Go.Lib.parseUint10]
theorem parse1 {b : UInt8} (hb : 48 ≤ b.toNat ∧ b.toNat ≤ 57) {acc : Nat} (ha : acc ≤ 1000000) : Go.Lib.parseUint10 acc [b] = .ok (valD acc [b]) := by
  have e : valD acc [b] = acc * 10 + (b.toNat - 48) := by simp only [valD_cons, valD_nil]
  rw [e, parse_dig hb ha, parse_end]
theorem parse2 {b c : UInt8} (hb : 48 ≤ b.toNat ∧ b.toNat ≤ 57) (hc : 48 ≤ c.toNat ∧ c.toNat ≤ 57) {acc : Nat} (ha : acc ≤ 1000) : Go.Lib.parseUint10 acc [b, c] = .ok (valD acc [b, c]) := by
  have e : valD acc [b, c] = valD (acc * 10 + (b.toNat - 48)) [c] := by simp only [valD_cons, valD_nil]
  have h1 : acc * 10 + (b.toNat - 48) ≤ 1000000 := by omega
  have h2 : acc ≤ 1000000 := by omega
  rw [e, parse_dig hb h2, parse1 hc h1]
theorem parse3 {b c d : UInt8} (hb : 48 ≤ b.toNat ∧ b.toNat ≤ 57) (hc : 48 ≤ c.toNat ∧ c.toNat ≤ 57) (hd : 48 ≤ d.toNat ∧ d.toNat ≤ 57) : Go.Lib.parseUint10 0 [b, c, d] = .ok (valD 0 [b, c, d]) := by
  have e : valD 0 [b, c, d] = valD (0 * 10 + (b.toNat - 48)) [c, d] := by simp only [valD_cons, valD_nil]
  have h1 : 0 * 10 + (b.toNat - 48) ≤ 1000 := by omega
  have h2 : 0 ≤ 1000000 := by omega
  rw [e, parse_dig hb h2, parse2 hc hd h1]
theorem val_lt {b : UInt8} {r : List UInt8} (h : ∀ x ∈ b :: r, 48 ≤ x.toNat ∧ x.toNat ≤ 57) (hl : r.length ≤ 2) : valD 0 (b :: r) < 1000 := by
  have hb := h b (List.mem_cons_self ..)
  rcases r with _ | ⟨c, _ | ⟨d, _ | ⟨e, r⟩⟩⟩
  · simp only [valD_cons, valD_nil]
    omega
  · have hc := h c (by simp)
    simp only [valD_cons, valD_nil]
    omega
  · have hc := h c (by simp)
    have hd := h d (by simp)
    simp only [valD_cons, valD_nil]
    omega
  · simp only [List.length_cons] at hl
    omega
theorem parse_digits {b : UInt8} {r : List UInt8} (h : ∀ x ∈ b :: r, 48 ≤ x.toNat ∧ x.toNat ≤ 57) (hl : r.length ≤ 2) : Go.Lib.parseUint10 0 (b :: r) = .ok (valD 0 (b :: r)) := by
  have hb := h b (List.mem_cons_self ..)
  rcases r with _ | ⟨c, _ | ⟨d, _ | ⟨e, r⟩⟩⟩
  · exact parse1 hb (by decide)
  · exact parse2 hb (h c (by simp)) (by decide)
  · exact parse3 hb (h c (by simp)) (h d (by simp))
  · simp only [List.length_cons] at hl
    omega
theorem atoi_digits {b : UInt8} {r : List UInt8} (h : ∀ x ∈ b :: r, 48 ≤ x.toNat ∧ x.toNat ≤ 57) (hl : r.length ≤ 2) : Go.Lib.atoiAll (b :: r) = .ok (valD 0 (b :: r) : Int) := by
  have hb := h b (List.mem_cons_self ..)
  have hp := parse_digits h hl
  have hv := val_lt h hl
  unfold Go.Lib.atoiAll Go.Lib.parseMag
  simp only
  rw [if_neg (show ¬ (b.toNat = 43 ∨ b.toNat = 45) by omega), if_neg (by simp), hp]
  generalize valD 0 (b :: r) = v at hv
  simp only
  rw [if_neg (by omega), if_neg (by omega), if_neg (by omega)]
theorem val_dec {n : Nat} (h : n < 1000) : valD 0 (Go.Lib.decDigits n) = n := by
  by_cases h1 : n < 10
  · rw [dec1 h1]
    simp only [valD_cons, valD_nil]
    rw [u8_of _ (by omega)]
    omega
  · by_cases h2 : n < 100
    · rw [dec2 h1 h2]
      simp only [valD_cons, valD_nil]
      rw [u8_of _ (by omega), u8_of _ (by omega)]
      omega
    · rw [dec3 h2 h]
      simp only [valD_cons, valD_nil]
      rw [u8_of _ (by omega), u8_of _ (by omega), u8_of _ (by omega)]
      omega
theorem u8_back {b : UInt8} {n : Nat} (h : b.toNat = n) : UInt8.ofNat n = b := by
  rw [← h]
  exact UInt8.ofNat_toNat
/-- Digits without a nought ahead are their value's numeral. -/
theorem dec_val {b : UInt8} {r : List UInt8} (h : ∀ x ∈ b :: r, 48 ≤ x.toNat ∧ x.toNat ≤ 57) (hl : r.length ≤ 2) (h0 : b.toNat ≠ 48) : Go.Lib.decDigits (valD 0 (b :: r)) = b :: r := by
  have hb := h b (List.mem_cons_self ..)
  match r, h, hl with
  | [], _, _ =>
    simp only [valD_cons, valD_nil]
    rw [dec1 (by omega), u8_back (b := b) (by omega)]
  | [c], h, _ =>
    have hc := h c (by simp)
    simp only [valD_cons, valD_nil]
    rw [dec2 (by omega) (by omega), u8_back (b := b) (by omega), u8_back (b := c) (by omega)]
  | [c, d], h, _ =>
    have hc := h c (by simp)
    have hd := h d (by simp)
    simp only [valD_cons, valD_nil]
    rw [dec3 (by omega) (by omega), u8_back (b := b) (by omega), u8_back (b := c) (by omega), u8_back (b := d) (by omega)]


end Go.Proofs.YtjbfcdeddnnnmaaDoor.K
namespace Go.Proofs.YtjbfcdeddnnnmaaDoor.K
set_option linter.unusedVariables false
set_option linter.unusedSimpArgs false
open Go.RowKit Go.Proofs.YtjbfcdeddnnnmaaDoorW.PrintWords Go.Proofs.YtjbfcdeddnnnmaaDoor.PbK

def wordL (r : S42) : List UInt8 := if r.f1 > 1 then Go.Lib.decDigits r.f0.toNat ++ 42 :: Go.Lib.decDigits r.f1.toNat else Go.Lib.decDigits r.f0.toNat
def wordB (r : S42) : ByteArray := B (wordL r)
def okRun (r : S42) : Prop := (0 ≤ r.f0 ∧ r.f0 ≤ 3) ∧ 1 ≤ r.f1 ∧ r.f1 ≤ 500
theorem runs_ok : ∀ (l : List S42) (a : Int), runsR a l = true → ∀ r ∈ l, okRun r
  | [], _, _ => by simp
  | r :: l, a, h => by
    simp only [runsR, Bool.and_eq_true, inB, decide_eq_true_eq] at h
    intro q hq
    rcases List.mem_cons.1 hq with rfl | hq
    · exact ⟨h.1, h.2.1⟩
    · exact runs_ok l _ h.2.2 q hq
theorem word_len {r : S42} (h : okRun r) : 1 ≤ (wordL r).length ∧ (wordL r).length ≤ 7 := by
  obtain ⟨⟨h0, h3⟩, h1, h5⟩ := h
  have l0 := dec_len (show r.f0.toNat < 1000 by omega)
  have l1 := dec_len (show r.f1.toNat < 1000 by omega)
  unfold wordL
  split
  · rw [List.length_append, List.length_cons]
    omega
  · omega
def tailL (l : List S42) : List UInt8 := Go.Lib.joinTail [32] (l.map wordL)
theorem tail_cons (r : S42) (l : List S42) : tailL (r :: l) = 32 :: (wordL r ++ tailL l) := by
  simp [tailL, Go.Lib.joinTail]
theorem tail_len : ∀ (l : List S42), (∀ r ∈ l, okRun r) → (tailL l).length ≤ 8 * l.length
  | [], _ => by simp [tailL, Go.Lib.joinTail]
  | r :: l, h => by
    have h1 := word_len (h r (List.mem_cons_self ..))
    have h2 := tail_len l (fun q hq => h q (List.mem_cons_of_mem _ hq))
    rw [tail_cons, List.length_cons, List.length_append, List.length_cons]
    omega
def textL (l : List S42) : List UInt8 := Go.Lib.join (l.map wordL) [32]
theorem text_cons (r : S42) (l : List S42) : textL (r :: l) = wordL r ++ tailL l := by
  unfold textL tailL
  rw [List.map_cons, Go.Lib.join_cons]
theorem text_len (l : List S42) (h : ∀ r ∈ l, okRun r) : (textL l).length ≤ 8 * l.length := by
  cases l with
  | nil => simp [textL, Go.Lib.join_nil]
  | cons r l =>
    have h1 := word_len (h r (List.mem_cons_self ..))
    have h2 := tail_len l (fun q hq => h q (List.mem_cons_of_mem _ hq))
    rw [text_cons, List.length_append, List.length_cons]
    omega
theorem e42 : (⟨#[42]⟩ : ByteArray) = B [42] := rfl
def writeR (l : List S42) : ByteArray × Bool := if schedR l = true then (B (textL l), true) else (B [], false)
theorem take_snoc {α β : Type} (f : α → β) (l : List α) (i : Nat) (h : i < l.length) : (l.take i).map f ++ [f l[i]] = (l.take (i + 1)).map f := by
  rw [List.take_succ_eq_append_getElem h, List.map_append]
  rfl
theorem implWrite_l0 {l : List S42} (hr : ∀ r ∈ l, okRun r) (hl : l.length ≤ 60) (d : Nat) : ∀ (k i : Nat), i + d = l.length → d < k → impl_WriteSchedule.l0 k ((l.take i).map wordB) l (l.length : Int) (i : Int) = some (B (textL l), true) := by
  induction d with
  | zero =>
    intro k i hi hk
    obtain ⟨k, rfl⟩ : ∃ m, k = m + 1 := ⟨k - 1, by omega⟩
    have hd : (l.map wordB).map (·.data.toList) = l.map wordL := by
      rw [List.map_map]
      apply List.map_congr_left
      intro r _
      exact B_data _
    have ht := text_len l hr
    rw [impl_WriteSchedule.l0, if_neg (by omega), List.take_of_length_le (by omega)]
    unfold strings_Join.f
    rw [if_pos (by rw [List.length_map]; omega), hd]
    have e : (⟨#[32]⟩ : ByteArray).data.toList = [32] := rfl
    rw [e, if_pos (by unfold textL at ht; omega), Option.bind_some]
    rfl
  | succ d ih =>
    intro k i hi hk
    obtain ⟨k, rfl⟩ : ∃ m, k = m + 1 := ⟨k - 1, by omega⟩
    obtain ⟨⟨h0, h3⟩, h1, h5⟩ := hr l[i] (List.getElem_mem (by omega))
    obtain ⟨n, hn⟩ := Int.eq_ofNat_of_zero_le h0
    obtain ⟨m, hm⟩ := Int.eq_ofNat_of_zero_le (show 0 ≤ l[i].f1 by omega)
    have ln := (dec_len (show n < 1000 by omega)).2
    have lm := (dec_len (show m < 1000 by omega)).2
    have hw : wordB l[i] = B (if (m : Int) > 1 then Go.Lib.decDigits n ++ 42 :: Go.Lib.decDigits m else Go.Lib.decDigits n) := by
      unfold wordB wordL
      rw [hn, hm, Int.toNat_natCast, Int.toNat_natCast]
    have hs := take_snoc wordB l i (by omega)
    have hi2 := ih k (i + 1) (by omega) (by omega)
    rw [impl_WriteSchedule.l0, if_pos (by omega), if_pos (by omega), if_pos (by omega), rdT42_at l i (by omega), hn, hm, itoa_ok (by omega), Option.bind_some, w64 (by omega) (by omega), show ((i : Int) + 1) = ((i + 1 : Nat) : Int) from by omega]
    have hlt : ((l.take i).map wordB).length < 8796093022208 := by
      rw [List.length_map, List.length_take]
      omega
    by_cases c : (m : Int) > 1
    · rw [if_pos c] at hw ⊢
      rw [itoa_ok (by omega), Option.bind_some, if_pos (by rw [B_size]; omega), e42, B_append, if_pos (by rw [B_size, B_size, List.length_append, List.length_singleton]; omega), if_pos hlt, B_append, List.singleton_append, ← hw, hs]
      exact hi2
    · rw [if_neg c] at hw ⊢
      rw [if_pos hlt, ← hw, hs]
      exact hi2
theorem implWrite_eq {k : Nat} {l : List S42} (hl : l.length ≤ 4000000) (hk : l.length + 300 < k) : impl_WriteSchedule.f k l = some (writeR l) := by
  unfold impl_WriteSchedule.f writeR
  rw [implSched_eq hl (by omega), Option.bind_some]
  cases h : schedR l with
  | false => rfl
  | true =>
    simp only [schedR, Bool.and_eq_true, decide_eq_true_eq] at h
    rw [if_pos rfl, if_pos rfl]
    have h0 := implWrite_l0 (runs_ok l 0 h.2) h.1 l.length k 0 (by omega) (by omega)
    rw [List.take_zero, List.map_nil] at h0
    exact h0


end Go.Proofs.YtjbfcdeddnnnmaaDoor.K
namespace Go.Proofs.YtjbfcdeddnnnmaaDoor.K
set_option linter.unusedVariables false
set_option linter.unusedSimpArgs false
open Go.RowKit Go.Proofs.YtjbfcdeddnnnmaaDoorW.PrintWords Go.Proofs.YtjbfcdeddnnnmaaDoor.PbK

/-- A text's words. -/
def wds : List UInt8 → List (List UInt8)
  | [] => [[]]
  | b :: l => if b = 32 then [] :: wds l else match wds l with
    | [] => [[b]]
    | w :: r => (b :: w) :: r
theorem wds_hit (l : List UInt8) : wds (32 :: l) = [] :: wds l := by
  rw [wds, if_pos rfl]
theorem wds_miss {b : UInt8} (h : b ≠ 32) {l w : List UInt8} {r : List (List UInt8)} (hw : wds l = w :: r) : wds (b :: l) = (b :: w) :: r := by
  rw [wds, if_neg h, hw]
theorem wds_cons : ∀ l : List UInt8, ∃ w ws, wds l = w :: ws ∧ (∀ b ∈ w, b ≠ 32) ∧ ((l = w ∧ ws = []) ∨ ∃ t, l = w ++ 32 :: t ∧ ws = wds t)
  | [] => ⟨[], [], rfl, by simp, Or.inl ⟨rfl, rfl⟩⟩
  | b :: l => by
    by_cases h : b = 32
    · subst h
      exact ⟨[], wds l, wds_hit l, by simp, Or.inr ⟨l, rfl, rfl⟩⟩
    · obtain ⟨w, ws, e, h1, h2⟩ := wds_cons l
      refine ⟨b :: w, ws, wds_miss h e, ?_, ?_⟩
      · intro c hc
        rcases List.mem_cons.1 hc with rfl | hc
        · exact h
        · exact h1 c hc
      · rcases h2 with ⟨rfl, h2⟩ | ⟨t, rfl, h2⟩
        · exact Or.inl ⟨rfl, h2⟩
        · exact Or.inr ⟨t, rfl, h2⟩
/-- A word without a blank, then a blank, then a text. -/
theorem wds_word : ∀ (w : List UInt8) (t : List UInt8), (∀ b ∈ w, b ≠ 32) → wds (w ++ 32 :: t) = w :: wds t
  | [], t, _ => wds_hit t
  | b :: w, t, h => by
    rw [List.cons_append]
    exact wds_miss (h b (List.mem_cons_self ..)) (wds_word w t fun c hc => h c (List.mem_cons_of_mem _ hc))
theorem wds_one : ∀ (w : List UInt8), (∀ b ∈ w, b ≠ 32) → wds w = [w]
  | [], _ => rfl
  | b :: w, h => wds_miss (h b (List.mem_cons_self ..)) (wds_one w fun c hc => h c (List.mem_cons_of_mem _ hc))
def totW : List (List UInt8) → Nat
  | [] => 0
  | w :: ws => w.length + 1 + totW ws
theorem wds_tot : ∀ l : List UInt8, totW (wds l) = l.length + 1
  | [] => rfl
  | b :: l => by
    have ih := wds_tot l
    by_cases h : b = 32
    · subst h
      rw [wds_hit, totW, ih, List.length_cons, List.length_nil]
      omega
    · obtain ⟨w, ws, e, _, _⟩ := wds_cons l
      rw [wds_miss h e, totW, List.length_cons, List.length_cons]
      rw [e, totW] at ih
      omega
theorem splitK_eq : ∀ (l : List UInt8), Go.Lib.splitK [32] 0 (Go.Lib.count l [32]) l = wds l
  | [] => by
    rw [Go.Lib.count_miss (by simp [Go.Lib.index])]
    rfl
  | b :: l => by
    have ih := splitK_eq l
    by_cases h : b = 32
    · subst h
      have hix : Go.Lib.index (32 :: l) [32] = 0 := by
        rw [Go.Lib.index]
        simp [List.isPrefixOf]
      rw [Go.Lib.count_cons_eq, Nat.add_comm, Go.Lib.splitK, hix, wds_hit, ← ih]
      simp
    · have hp : ([32] : List UInt8).isPrefixOf (b :: l) = false := by simp [List.isPrefixOf, Ne.symm h]
      have hix : Go.Lib.index (b :: l) [32] = if Go.Lib.index l [32] == -1 then -1 else Go.Lib.index l [32] + 1 := by
        rw [Go.Lib.index, hp]
        simp
      rw [Go.Lib.count_cons_ne b 32 l h]
      by_cases hm : Go.Lib.index l [32] = -1
      · rw [Go.Lib.count_miss hm] at ih ⊢
        rw [Go.Lib.splitK] at ih ⊢
        exact (wds_miss h ih.symm).symm
      · have hge := Go.Lib.index_ge l [32]
        obtain ⟨j, hj⟩ : ∃ j : Nat, Go.Lib.index l [32] = j := ⟨(Go.Lib.index l [32]).toNat, by omega⟩
        have hc := Go.Lib.count_hit (sub := [32]) (by simp) hj
        rw [hc, Nat.add_comm] at ih ⊢
        have e1 : ¬ ((j : Int) == -1) = true := fun e => by have := beq_iff_eq.1 e; omega
        have e2 : ¬ ((j : Int) + 1 == -1) = true := fun e => by have := beq_iff_eq.1 e; omega
        rw [Go.Lib.splitK, hj, if_neg e1] at ih
        rw [Go.Lib.splitK, hix, hj, if_neg e1, if_neg e2]
        have e3 : ((j : Int) + 1).toNat = j + 1 := by omega
        have e4 : (j : Int).toNat = j := by omega
        rw [e4] at ih
        rw [e3, wds_miss h ih.symm]
        simp only [Nat.add_zero, List.length_singleton, List.take_succ_cons, List.drop_succ_cons]
theorem split_eq (l : List UInt8) (h : l.length ≤ 1000000) : strings_Split.f (B l) (⟨#[32]⟩ : ByteArray) = some ((wds l).map B) := by
  unfold strings_Split.f
  rw [if_pos (by rw [B_size]; exact h), if_pos (by decide)]
  congr 1
  have h1 := Go.Lib.splitB_data ⟨#[32]⟩ 0 (Go.Lib.countB (B l) ⟨#[32]⟩) (B l)
  have h2 : (⟨#[32]⟩ : ByteArray).data.toList = [32] := rfl
  have h3 : Go.Lib.countB (B l) ⟨#[32]⟩ = Go.Lib.count l [32] := by
    show Go.Lib.count (B l).data.toList _ = _
    rw [B_data]
  rw [h2, B_data, h3, splitK_eq] at h1
  rw [← h1, h3, List.map_map]
  have h4 : (B ∘ fun s : ByteArray => s.data.toList) = id := by
    funext s
    exact B_of s
  rw [h4, List.map_id]

def allD (l : List UInt8) : Prop := ∀ b ∈ l, 48 ≤ b.toNat ∧ b.toNat ≤ 57
instance (l : List UInt8) : Decidable (allD l) := by unfold allD; exact inferInstance
def longW (t x d : UInt8) (r : List UInt8) : Prop := (48 ≤ t.toNat ∧ t.toNat ≤ 51) ∧ r.length ≤ 2 ∧ x.toNat = 42 ∧ d.toNat ≠ 48 ∧ allD (d :: r) ∧ 2 ≤ valD 0 (d :: r) ∧ valD 0 (d :: r) ≤ 500
instance (t x d : UInt8) (r : List UInt8) : Decidable (longW t x d r) := by unfold longW; exact inferInstance
/-- What a word says: a thread, and how many. -/
def runW : List UInt8 → Option (Int × Int)
  | [] => none
  | [t] => if 48 ≤ t.toNat ∧ t.toNat ≤ 51 then some ((t.toNat : Int) - 48, 1) else none
  | [_, _] => none
  | t :: x :: d :: r => if longW t x d r then some ((t.toNat : Int) - 48, (valD 0 (d :: r) : Int)) else none
theorem bt_0 (t : UInt8) (r : List UInt8) : bt (B (t :: r)) 0 = (t.toNat : Int) := bt_B (t :: r) 0 (by simp)
theorem u8_lt (b : UInt8) : b.toNat < 256 := UInt8.toNat_lt b
theorem dec_head {n : Nat} (h : n < 1000) (h0 : 1 ≤ n) : ∃ b r, Go.Lib.decDigits n = b :: r ∧ b.toNat ≠ 48 := by
  by_cases h1 : n < 10
  · rw [dec1 h1]
    exact ⟨_, _, rfl, by rw [u8_of _ (by omega)]; omega⟩
  · by_cases h2 : n < 100
    · rw [dec2 h1 h2]
      exact ⟨_, _, rfl, by rw [u8_of _ (by omega)]; omega⟩
    · rw [dec3 h2 h]
      exact ⟨_, _, rfl, by rw [u8_of _ (by omega)]; omega⟩
theorem implRun_eq {k : Nat} (hk : 20 < k) (l : List UInt8) (hl : l.length ≤ 700) : ∃ x y, impl_readRun.f k (B l) = some (x, y, (runW l).isSome) ∧ ∀ p, runW l = some p → x = p.1 ∧ y = p.2 := by
  obtain ⟨k, rfl⟩ : ∃ m, k = m + 2 := ⟨k - 2, by omega⟩
  unfold impl_readRun.f
  match l, hl with
  | [], _ =>
    rw [if_pos (by rw [B_toList]), impl_readRun.j0, if_pos rfl]
    exact ⟨0, 0, rfl, fun p hp => by cases hp⟩
  | t :: l, hl =>
    have ht := u8_lt t
    simp only [List.length_cons] at hl
    have hsz : ((B (t :: l)).size : Int) = (l.length : Int) + 1 := by
      rw [B_size]
      simp only [List.length_cons]
      omega
    rw [if_neg (by rw [B_toList]; simp), if_pos (by omega), bt_0, w64 (x := (t.toNat : Int)) (by omega) (by omega), w64 (x := (t.toNat : Int) - 48) (by omega) (by omega), isThread_eq, Option.bind_some, impl_readRun.j0, hsz]
    by_cases c : 48 ≤ t.toNat ∧ t.toNat ≤ 51
    · have e : inB 0 3 ((t.toNat : Int) - 48) = true := by simp only [inB, Bool.and_eq_true, decide_eq_true_eq]; omega
      rw [e, Bool.not_true, if_neg Bool.false_ne_true, if_pos (by omega), bt_0, w64 (x := (t.toNat : Int)) (by omega) (by omega), w64 (x := (t.toNat : Int) - 48) (by omega) (by omega)]
      cases l with
      | nil =>
        rw [if_pos (by simp)]
        simp only [runW]
        rw [if_pos c]
        refine ⟨_, _, rfl, fun p hp => ?_⟩
        obtain rfl := Option.some.inj hp
        exact ⟨rfl, rfl⟩
      | cons x l =>
        have hm : mn 2 ((((x :: l).length : Nat) : Int) + 1) = 2 := by
          unfold mn
          simp only [List.length_cons]
          omega
        have hex : (B (t :: x :: l)).extract (2 : Int).toNat (B (t :: x :: l)).size = B l := by
          rw [B_extract, B_size]
          simp only [List.length_cons]
          rw [show ((2 : Int).toNat) = 2 from rfl, List.take_of_length_le (by simp)]
          rfl
        rw [hm, if_neg (by simp only [List.length_cons]; omega), if_pos (by omega), if_pos (by simp only [List.length_cons]; omega), hex]
        obtain ⟨m, hm0⟩ := Int.eq_ofNat_of_zero_le (show 0 ≤ (t.toNat : Int) - 48 by omega)
        have hm4 : m < 4 := by omega
        have hdt : Go.Lib.decDigits m = [t] := by rw [dec1 (by omega), u8_back (b := t) (by omega)]
        have no : ∀ v : Int, Go.Lib.atoiAll l = .ok v → runW (t :: x :: l) = none → ∃ x' y, (if inB 2 500 v = true then ((strconv_Itoa_23.f ((t.toNat : Int) - 48)).bind fun t208 => (if t208.size + 1 ≤ 9223372036854775807 then ((strconv_Itoa_23.f v).bind fun t209 => (if (t208 ++ (⟨#[42]⟩ : ByteArray)).size + t209.size ≤ 9223372036854775807 then (if (B (t :: x :: l)).toList = ((t208 ++ (⟨#[42]⟩ : ByteArray)) ++ t209).toList then (some ((t.toNat : Int) - 48, v, true)) else (some (0, 0, false))) else (none))) else (none))) else (some (0, 0, false))) = some (x', y, false) := by
          intro v hv hn
          by_cases c1 : inB 2 500 v = true
          · have hv2 := c1
            simp only [inB, Bool.and_eq_true, decide_eq_true_eq] at hv2
            obtain ⟨n, rfl⟩ := Int.eq_ofNat_of_zero_le (show 0 ≤ v by omega)
            have hn1 : n < 1000 := by omega
            have ln := (dec_len hn1).2
            rw [if_pos c1, hm0, itoa_ok (by omega), Option.bind_some, if_pos (by rw [B_size]; have := (dec_len (show m < 1000 by omega)).2; omega), itoa_ok hn1, Option.bind_some, e42, B_append,
              if_pos (by rw [B_size, B_size, List.length_append, List.length_singleton]; have := (dec_len (show m < 1000 by omega)).2; omega), B_append, B_toList, B_toList, hdt]
            by_cases c2 : t :: x :: l = [t] ++ [42] ++ Go.Lib.decDigits n
            · exfalso
              simp only [List.singleton_append, List.cons_append, List.nil_append, List.cons.injEq, true_and] at c2
              obtain ⟨rfl, rfl⟩ := c2
              obtain ⟨b, r, hb, h48⟩ := dec_head hn1 (by omega)
              have hD := dec_digits hn1
              have hV := val_dec hn1
              rw [hb] at hn ln hD hV
              simp only [runW] at hn
              rw [if_pos (show longW t 42 b r from ⟨c, by simp only [List.length_cons] at ln; omega, rfl, h48, hD, by omega, by omega⟩)] at hn
              cases hn
            · rw [if_neg c2]
              exact ⟨0, 0, rfl⟩
          · rw [if_neg c1]
            exact ⟨0, 0, rfl⟩
        unfold strconv_Atoi_39.f
        rw [if_pos (by rw [B_size]; simp only [List.length_cons] at hl; omega), B_data]
        cases hr : runW (t :: x :: l) with
        | none =>
          cases ha : Go.Lib.atoiAll l with
          | ok v =>
            simp only [Option.bind_some, Option.isNone_none, if_true, in_eq]
            obtain ⟨x', y, h⟩ := no v ha hr
            exact ⟨x', y, h, fun p hp => by cases hp⟩
          | «syntax» =>
            simp only [Option.bind_some, Option.isNone_some, Bool.false_eq_true, if_false]
            exact ⟨0, 0, rfl, fun p hp => by cases hp⟩
          | range =>
            simp only [Option.bind_some, Option.isNone_some, Bool.false_eq_true, if_false]
            exact ⟨0, 0, rfl, fun p hp => by cases hp⟩
        | some p =>
          cases l with
          | nil => cases hr
          | cons d r =>
            simp only [runW] at hr
            by_cases c1 : longW t x d r
            · rw [if_pos c1] at hr
              obtain rfl := Option.some.inj hr
              obtain ⟨_, h2, h3, h4, h5, h6, h7⟩ := c1
              have hv := val_lt h5 h2
              have hdv := dec_val h5 h2 h4
              have hx42 : x = 42 := by
                have := u8_back h3
                rw [← this]
                rfl
              rw [atoi_digits h5 h2]
              generalize valD 0 (d :: r) = n at hv hdv h6 h7
              simp only [Option.bind_some, Option.isNone_none, if_true, in_eq]
              have ln := (dec_len hv).2
              rw [if_pos (by simp only [inB, Bool.and_eq_true, decide_eq_true_eq]; omega), hm0, itoa_ok (by omega), Option.bind_some, if_pos (by rw [B_size]; have := (dec_len (show m < 1000 by omega)).2; omega), itoa_ok hv, Option.bind_some, e42, B_append,
                if_pos (by rw [B_size, B_size, List.length_append, List.length_singleton]; have := (dec_len (show m < 1000 by omega)).2; omega), B_append, B_toList, B_toList, hdt, hdv, hx42, if_pos (by rfl)]
              refine ⟨_, _, rfl, fun p hp => ?_⟩
              obtain rfl := Option.some.inj hp
              exact ⟨rfl, rfl⟩
            · rw [if_neg c1] at hr
              cases hr
    · have e : inB 0 3 ((t.toNat : Int) - 48) = false := by
        rw [Bool.eq_false_iff]
        simp only [inB, ne_eq, Bool.and_eq_true, decide_eq_true_eq]
        omega
      rw [e, Bool.not_false, if_pos rfl]
      have hr : runW (t :: l) = none := by
        match l with
        | [] => simp only [runW]; rw [if_neg c]
        | [_] => rfl
        | x :: d :: r => simp only [runW]; rw [if_neg (fun h => c h.1)]
      rw [hr]
      exact ⟨0, 0, rfl, fun p hp => by cases hp⟩


end Go.Proofs.YtjbfcdeddnnnmaaDoor.K
namespace Go.Proofs.YtjbfcdeddnnnmaaDoor.K
set_option linter.unusedVariables false
set_option linter.unusedSimpArgs false
open Go.RowKit Go.Proofs.YtjbfcdeddnnnmaaDoorW.PrintWords Go.Proofs.YtjbfcdeddnnnmaaDoor.PbK

/-- What is read from place p on: the sum and the runs so far, the words that are left. -/
def readR : Int → Int → List S42 → List (List UInt8) → List S42 × Int × Int
  | _, _, acc, [] => (acc, 0, 0)
  | p, sum, acc, w :: ws => match runW w with
    | none => ([], 2, p)
    | some (t, n) => if acc.length = 60 ∨ sum + n > 1500 then ([], 3, p) else readR (p + w.length + 1) (sum + n) (acc ++ [⟨t, n⟩]) ws
theorem run_rng {w : List UInt8} {p : Int × Int} (h : runW w = some p) : (0 ≤ p.1 ∧ p.1 ≤ 3) ∧ 1 ≤ p.2 ∧ p.2 ≤ 500 := by
  match w with
  | [] => cases h
  | [t] =>
    simp only [runW] at h
    split at h
    · obtain rfl := Option.some.inj h
      simp only
      omega
    · cases h
  | [_, _] => cases h
  | t :: x :: d :: r =>
    simp only [runW] at h
    split at h
    · rename_i c
      obtain ⟨c1, _, _, _, _, c6, c7⟩ := c
      obtain rfl := Option.some.inj h
      simp only
      omega
    · cases h
/-- A text read. -/
def readS (l : List UInt8) : List S42 × Int × Int := if l.length > 600 then ([], 1, 0) else if l = [] then ([], 0, 0) else readR 0 0 [] (wds l)
def sumR : List S42 → Int
  | [] => 0
  | r :: l => r.f1 + sumR l
theorem sumR_snoc : ∀ (l : List S42) (r : S42), sumR (l ++ [r]) = sumR l + r.f1
  | [], r => by simp [sumR]
  | q :: l, r => by
    rw [List.cons_append, sumR, sumR, sumR_snoc l r]
    omega
theorem runsR_sum : ∀ (l : List S42) (a : Int), (∀ r ∈ l, okRun r) → runsR a l = decide (a + sumR l ≤ 1500)
  | [], a, _ => by simp [runsR, sumR]
  | r :: l, a, h => by
    obtain ⟨h0, h1⟩ := h r (List.mem_cons_self ..)
    have e0 : inB 0 3 r.f0 = true := by simp only [inB, Bool.and_eq_true, decide_eq_true_eq]; omega
    have e1 : inB 1 500 r.f1 = true := by simp only [inB, Bool.and_eq_true, decide_eq_true_eq]; omega
    rw [runsR, e0, e1, Bool.true_and, Bool.true_and, runsR_sum l _ (fun q hq => h q (List.mem_cons_of_mem _ hq)), sumR, Int.add_assoc]
theorem schedR_sum {l : List S42} (h : ∀ r ∈ l, okRun r) : schedR l = (decide (l.length ≤ 60) && decide (sumR l ≤ 1500)) := by
  unfold schedR
  rw [runsR_sum l 0 h, Int.zero_add]
theorem implRead_l0 (W : List (List UInt8)) (hW : ∀ w ∈ W, w.length ≤ 600) (hL : W.length ≤ 700) (d : Nat) : ∀ (k i : Nat) (acc : List S42) (p : Int), i + d = W.length → d + 900 < k → (∀ r ∈ acc, okRun r) → acc.length ≤ 60 → sumR acc ≤ 1500 → 0 ≤ p → p + 700 * (d : Int) ≤ 1000000 → impl_ReadSchedule.l0 k acc p (W.map B) (W.length : Int) (i : Int) = some (readR p (sumR acc) acc (W.drop i)) := by
  induction d with
  | zero =>
    intro k i acc p hi hk hok ha hs p0 p1
    obtain ⟨k, rfl⟩ : ∃ m, k = m + 1 := ⟨k - 1, by omega⟩
    rw [impl_ReadSchedule.l0, if_neg (by omega), List.drop_of_length_le (by omega), readR]
  | succ d ih =>
    intro k i acc p hi hk hok ha hs p0 p1
    obtain ⟨k, rfl⟩ : ∃ m, k = m + 1 := ⟨k - 1, by omega⟩
    have hil : i < W.length := by omega
    have hwl := hW _ (List.getElem_mem hil)
    have hrd : rdOf ByteArray.empty (W.map B) (i : Int) = B W[i] := by
      rw [rdOf_at _ _ i (by rw [List.length_map]; exact hil), List.getElem_map]
    obtain ⟨x, y, e1, e2⟩ := implRun_eq (k := k) (by omega) W[i] (by omega)
    rw [impl_ReadSchedule.l0, if_pos (by omega), if_pos (by omega), if_pos (by rw [List.length_map]; omega), hrd, e1, Option.bind_some, drop_cons W i hil, readR]
    cases hR : runW W[i] with
    | none =>
      simp only [Option.isSome_none]
      rw [if_neg Bool.false_ne_true]
    | some q =>
      obtain ⟨t, m⟩ := q
      obtain ⟨hx, hy⟩ := e2 _ hR
      simp only at hx hy
      subst x
      subst y
      have hq := run_rng hR
      simp only at hq
      simp only [Option.isSome_some]
      have hok2 : ∀ r ∈ acc ++ [(⟨t, m⟩ : S42)], okRun r := by
        intro r hr
        rcases List.mem_append.1 hr with hr | hr
        · exact hok r hr
        · obtain rfl := List.mem_singleton.1 hr
          exact hq
      rw [if_pos trivial, if_pos (by omega), Option.bind_some, implSched_eq (by rw [List.length_append, List.length_singleton]; omega) (by rw [List.length_append, List.length_singleton]; omega), Option.bind_some, schedR_sum hok2, sumR_snoc, List.length_append, List.length_singleton, B_size]
      simp only
      by_cases c : acc.length = 60 ∨ sumR acc + m > 1500
      · rw [if_pos c, if_neg (by simp only [Bool.and_eq_true, decide_eq_true_eq]; omega)]
      · rw [if_neg c, if_pos (by simp only [Bool.and_eq_true, decide_eq_true_eq]; omega), w64 (x := (W[i].length : Int) + 1) (by omega) (by omega), w64 (x := p + ((W[i].length : Int) + 1)) (by omega) (by omega), w64 (x := (i : Int) + 1) (by omega) (by omega), show ((i : Int) + 1) = ((i + 1 : Nat) : Int) from by omega,
          ih k (i + 1) _ _ (by omega) (by omega) hok2 (by rw [List.length_append, List.length_singleton]; omega) (by rw [sumR_snoc]; simp only; omega) (by omega) (by omega), sumR_snoc, Int.add_assoc]
theorem tot_le {ws : List (List UInt8)} : ∀ w ∈ ws, w.length + 1 ≤ totW ws := by
  induction ws with
  | nil => intro w hw; cases hw
  | cons v ws ih =>
    intro w hw
    rw [totW]
    rcases List.mem_cons.1 hw with rfl | hw
    · omega
    · have := ih w hw
      omega
theorem tot_len : ∀ ws : List (List UInt8), ws.length ≤ totW ws
  | [] => by simp [totW]
  | w :: ws => by
    have := tot_len ws
    rw [totW, List.length_cons]
    omega
theorem implRead_eq {k : Nat} (hk : 5000 < k) (l : List UInt8) (hl : l.length ≤ 2000000) : impl_ReadSchedule.f k (B l) = some (readS l) := by
  unfold impl_ReadSchedule.f readS
  rw [B_size]
  by_cases c : l.length > 600
  · rw [if_pos (by omega), if_pos c]
  · rw [if_neg (by omega), if_neg c, B_toList]
    by_cases c2 : l = []
    · rw [if_pos c2, if_pos c2]
    · have ht := wds_tot l
      have h1 := tot_len (wds l)
      rw [if_neg c2, if_neg c2, split_eq l (by omega), Option.bind_some, List.length_map]
      exact implRead_l0 (wds l) (fun w hw => by have := tot_le w hw; omega) (by omega) (wds l).length k 0 [] 0 (by omega) (by omega) (by simp) (by simp) (by simp [sumR]) (by omega) (by omega)

end Go.Proofs.YtjbfcdeddnnnmaaDoor.K
namespace Go.Proofs.YtjbfcdeddnnnmaaDoor.K
set_option linter.unusedVariables false
set_option linter.unusedSimpArgs false
open Go.RowKit Go.Proofs.YtjbfcdeddnnnmaaDoorW.PrintWords Go.Proofs.YtjbfcdeddnnnmaaDoor.PbK

def flatR : List S42 → List Int
  | [] => []
  | r :: l => List.replicate r.f1.toNat r.f0 ++ flatR l
def stepsR (l : List S42) : List Int × Bool := if schedR l = true then (flatR l, true) else ([], false)
theorem sched_runs : ∀ (l : List S42) (a : Int), runsR a l = true → ∀ r ∈ l, 1 ≤ r.f1 ∧ r.f1 ≤ 500
  | [], _, _ => by simp
  | r :: l, a, h => by
    simp only [runsR, Bool.and_eq_true, inB, decide_eq_true_eq] at h
    intro q hq
    rcases List.mem_cons.1 hq with rfl | hq
    · exact h.2.1
    · exact sched_runs l _ h.2.2 q hq
theorem implSteps_l1 (l : List S42) (i : Nat) (b f1 f0 : Int) (hi : i < l.length) (hl : l.length ≤ 60) (e : Nat) : ∀ (k j : Nat) (acc : List Int), (j : Int) + e = b → b ≤ 500 → acc.length + e ≤ 60000 →
    impl_Steps.l1 (k + e + 1) acc l (l.length : Int) (i : Int) b (j : Int) f0 f1 = impl_Steps.l0 k (acc ++ List.replicate e f0) l (l.length : Int) ((i + 1 : Nat) : Int) := by
  induction e with
  | zero =>
    intro k j acc hj h5 ha
    rw [impl_Steps.l1, if_neg (by omega), w64 (by omega) (by omega)]
    simp
  | succ e ih =>
    intro k j acc hj h5 ha
    rw [show k + (e + 1) + 1 = (k + e + 1) + 1 from by omega, impl_Steps.l1, if_pos (by omega), if_pos (by omega), w64 (by omega) (by omega), show ((j : Int) + 1) = ((j + 1 : Nat) : Int) from by omega,
      ih k (j + 1) _ (by omega) h5 (by simp; omega), List.append_assoc]
    rfl
theorem implSteps_l0 (l : List S42) (hl : l.length ≤ 60) (hr : ∀ r ∈ l, 1 ≤ r.f1 ∧ r.f1 ≤ 500) (d : Nat) : ∀ (k i : Nat) (acc : List Int), i + d = l.length → 503 * d < k → acc.length ≤ 500 * i →
    impl_Steps.l0 k acc l (l.length : Int) (i : Int) = some (acc ++ flatR (l.drop i), true) := by
  induction d with
  | zero =>
    intro k i acc hi hk ha
    obtain ⟨k, rfl⟩ : ∃ m, k = m + 1 := ⟨k - 1, by omega⟩
    rw [impl_Steps.l0, if_neg (by omega), List.drop_of_length_le (by omega)]
    simp [flatR]
  | succ d ih =>
    intro k i acc hi hk ha
    have hri := hr l[i] (List.getElem_mem _)
    obtain ⟨n, hn⟩ := Int.eq_ofNat_of_zero_le (show 0 ≤ l[i].f1 by omega)
    obtain ⟨k, rfl⟩ : ∃ m, k = (m + n + 1) + 1 := ⟨k - n - 2, by omega⟩
    have h1 := implSteps_l1 l i l[i].f1 l[i].f1 l[i].f0 (by omega) hl n k 0 acc (by omega) hri.2 (by omega)
    rw [impl_Steps.l0, if_pos (by omega), if_pos (by omega), if_pos (by omega), rdT42_at l i (by omega)]
    rw [show ((0 : Nat) : Int) = 0 from rfl] at h1
    rw [h1, ih k (i + 1) _ (by omega) (by omega) (by simp; omega), drop_cons l i (by omega)]
    simp only [flatR, hn, Int.toNat_natCast, List.append_assoc]
theorem implSteps_eq {k : Nat} {l : List S42} (hl : l.length ≤ 4000000) (hk : l.length + 31000 < k) : impl_Steps.f k l = some (stepsR l) := by
  unfold impl_Steps.f stepsR
  rw [implSched_eq hl (by omega), Option.bind_some]
  cases h : schedR l with
  | false => simp
  | true =>
    simp only [schedR, Bool.and_eq_true, decide_eq_true_eq] at h
    have h1 := implSteps_l0 l h.1 (sched_runs l 0 h.2) l.length k 0 [] (by omega) (by omega) (by simp)
    rw [List.drop_zero, List.nil_append] at h1
    rw [if_pos rfl, if_pos rfl]
    exact h1


end Go.Proofs.YtjbfcdeddnnnmaaDoor.K
namespace Go.Proofs.YtjbfcdeddnnnmaaDoor.K
set_option linter.unusedVariables false
set_option linter.unusedSimpArgs false
open Go.RowKit Go.Proofs.YtjbfcdeddnnnmaaDoorW.PrintWords Go.Proofs.YtjbfcdeddnnnmaaDoor.PbK

def cntR (x : Int) : List Int → Int
  | [] => 0
  | y :: l => (if y = x then 1 else 0) + cntR x l
theorem cntR_rng (x : Int) : ∀ l : List Int, 0 ≤ cntR x l ∧ cntR x l ≤ (l.length : Int)
  | [] => by simp [cntR]
  | y :: l => by
    have h := cntR_rng x l
    simp only [cntR, List.length_cons]
    split <;> omega
theorem implLeft5_l0 (l : List Int) (x : Int) (hl : l.length ≤ 4000000) (d : Nat) : ∀ (k i : Nat) (a : Int), i + d = l.length → d < k → 0 ≤ a → a ≤ (i : Int) → impl_Left5.l0 k x a l (l.length : Int) (i : Int) = some (a + cntR x (l.drop i)) := by
  induction d with
  | zero =>
    intro k i a hi hk h0 h1
    obtain ⟨k, rfl⟩ : ∃ m, k = m + 1 := ⟨k - 1, by omega⟩
    rw [impl_Left5.l0, if_neg (by omega), List.drop_of_length_le (by omega)]
    simp [cntR]
  | succ d ih =>
    intro k i a hi hk h0 h1
    obtain ⟨k, rfl⟩ : ∃ m, k = m + 1 := ⟨k - 1, by omega⟩
    rw [impl_Left5.l0, if_pos (by omega), if_pos (by omega), if_pos (by omega), rd_at l i (by omega), drop_cons l i (by omega), w64 (x := (i : Int) + 1) (by omega) (by omega), w64 (x := a + 1) (by omega) (by omega), show ((i : Int) + 1) = ((i + 1 : Nat) : Int) from by omega]
    simp only [cntR]
    split
    · rw [ih k (i + 1) _ (by omega) (by omega) (by omega) (by omega)]; congr 1; omega
    · rw [ih k (i + 1) _ (by omega) (by omega) (by omega) (by omega)]; congr 1; omega
def left5R (l : List Int) (x a : Int) : Int := if inB 0 (l.length : Int) a = true then cntR x (l.drop a.toNat) else -1
theorem implLeft5_eq {k : Nat} {l : List Int} {x a : Int} (hl : l.length ≤ 4000000) (hk : l.length < k) : impl_Left5.f k l x a = some (left5R l x a) := by
  unfold impl_Left5.f left5R
  rw [in_eq, Option.bind_some]
  cases h : inB 0 (l.length : Int) a with
  | false => simp
  | true =>
    simp only [inB, Bool.and_eq_true, decide_eq_true_eq] at h
    obtain ⟨n, rfl⟩ := Int.eq_ofNat_of_zero_le h.1
    have hd : (l.drop n).length = l.length - n := by simp
    have h2 := implLeft5_l0 (l.drop n) x (by omega) (l.drop n).length k 0 0 (by omega) (by omega) (by omega) (by omega)
    rw [if_pos rfl, if_pos rfl, if_pos h.1, if_pos h.2, Option.bind_some, Int.toNat_natCast]
    rw [List.drop_zero, Int.zero_add] at h2
    exact h2


end Go.Proofs.YtjbfcdeddnnnmaaDoor.K
namespace Go.Proofs.YtjbfcdeddnnnmaaDoor.K
set_option linter.unusedVariables false
set_option linter.unusedSimpArgs false
open Go.RowKit Go.Proofs.YtjbfcdeddnnnmaaDoorW.PrintWords Go.Proofs.YtjbfcdeddnnnmaaDoor.PbK

theorem and255 (n : Int) : bits .and .i64 n 255 = n % 256 := by
  have h255 : (BitVec.ofInt 64 255).toNat = 2 ^ 8 - 1 := by decide
  have key : (BitVec.ofInt 64 n &&& BitVec.ofInt 64 255).toNat = (n % ((2 ^ 64 : Nat) : Int)).toNat % 2 ^ 8 := by
    rw [BitVec.toNat_and, BitVec.toNat_ofInt, h255, Nat.and_two_pow_sub_one_eq_mod]
  show IntKind.i64.wrap ((BitVec.ofInt 64 n &&& BitVec.ofInt 64 255).toNat : Nat) = n % 256
  rw [key, IntKind.wrap_i64]
  omega

theorem l1New_l0 (s : List Int) (hs : s.length ≤ 1048576) (d : Nat) : ∀ (k i : Nat) (x : Int), i + d = s.length → d < k → ∃ x', spec_l1New.l0 k s x (i : Int) = some (s, 0, x') := by
  induction d with
  | zero =>
    intro k i x hi hk
    obtain ⟨k, rfl⟩ : ∃ q, k = q + 1 := ⟨k - 1, by omega⟩
    rw [spec_l1New.l0, if_neg (by omega)]
    exact ⟨_, rfl⟩
  | succ d ih =>
    intro k i x hi hk
    obtain ⟨k, rfl⟩ : ∃ q, k = q + 1 := ⟨k - 1, by omega⟩
    rw [spec_l1New.l0, if_pos (by omega)]
    split
    · rw [if_pos (by omega), w64 (x := (i : Int) + 1) (by omega) (by omega), show ((i : Int) + 1) = ((i + 1 : Nat) : Int) from by omega]
      exact ih k (i + 1) _ (by omega) (by omega)
    · exact ⟨_, rfl⟩
theorem l1New_ok {k : Nat} {s : List Int} (hs : s.length ≤ 1048576) (hk : s.length < k) : ∃ x', spec_l1New.f k s = some (s, 0, x') := by
  unfold spec_l1New.f
  exact l1New_l0 s hs s.length k 0 _ (by omega) hk

/-- A place within the bytes. -/
def Pl (s : List Int) (p : Int) : Prop := 0 ≤ p ∧ p ≤ (s.length : Int)
theorem byte_ok {s : List Int} {p x : Int} (hs : s.length ≤ 1048576) (hp : Pl s p) : ∃ b p' x', spec_l1Byte.f s p x = some (b, p', x') ∧ 0 ≤ b ∧ b ≤ 255 ∧ Pl s p' := by
  obtain ⟨h0, h1⟩ := hp
  unfold spec_l1Byte.f
  by_cases h : p < (s.length : Int)
  · rw [if_pos h, if_pos h0]
    refine ⟨_, _, _, rfl, ?_, ?_, ?_, ?_⟩
    · rw [and255 (wrap64 _)]; omega
    · rw [and255 (wrap64 _)]; omega
    · rw [w64 (by omega) (by omega)]; omega
    · rw [w64 (by omega) (by omega)]; omega
  · rw [if_neg h]
    refine ⟨_, _, _, rfl, ?_, ?_, h0, h1⟩
    · rw [and255]; omega
    · rw [and255]; omega
theorem below_ok {s : List Int} {p x n : Int} (hs : s.length ≤ 1048576) (hp : Pl s p) (h0 : 0 < n) (h1 : n ≤ 256) : ∃ r p' x', spec_l1Below.f s p x n = some (r, p', x') ∧ 0 ≤ r ∧ r < n ∧ Pl s p' := by
  obtain ⟨b, p', x', e, hb0, hb1, hp'⟩ := byte_ok (x := x) hs hp
  unfold spec_l1Below.f
  rw [if_neg (by omega), if_pos h1, e, Option.bind_some, if_neg (by omega)]
  refine ⟨_, _, _, rfl, ?_, ?_, hp'⟩
  · exact Int.tmod_nonneg _ hb0
  · exact Int.tmod_lt_of_pos _ h0
theorem once_ok {s : List Int} {p x n : Int} (hs : s.length ≤ 1048576) (hp : Pl s p) (h0 : 0 < n) (h1 : n ≤ 256) : ∃ r p' x', spec_l1Once.f s p x n = some (r, p', x') ∧ Pl s p' := by
  obtain ⟨r, p', x', e, hr0, hr1, hp'⟩ := below_ok (x := x) hs hp h0 h1
  unfold spec_l1Once.f
  rw [e, Option.bind_some]
  exact ⟨_, _, _, rfl, hp'⟩


end Go.Proofs.YtjbfcdeddnnnmaaDoor.K
namespace Go.Proofs.YtjbfcdeddnnnmaaDoor.Pure
set_option linter.unusedVariables false
set_option linter.unusedSimpArgs false
open Go.RowKit Go.Proofs.YtjbfcdeddnnnmaaDoor.K Go.Proofs.YtjbfcdeddnnnmaaDoorW.PrintWords Go.Proofs.YtjbfcdeddnnnmaaDoor.PbK

def ok30 (r : S42) : Prop := (0 ≤ r.f0 ∧ r.f0 ≤ 3) ∧ 1 ≤ r.f1 ∧ r.f1 ≤ 30
theorem draw5_l0 {s : List Int} (hs : s.length ≤ 1048576) (d : Nat) : ∀ (k : Nat) (acc : List S42) (n p x : Int), n = (d : Int) → acc.length + d ≤ 11 → (∀ r ∈ acc, ok30 r) → Pl s p → d < k → ∃ l p' x', spec_l5Draw.l0 k acc n s p x = some (l, p', x') ∧ l.length ≤ 11 ∧ ∀ r ∈ l, ok30 r := by
  induction d with
  | zero =>
    intro k acc n p x hn hl hok hp hk
    obtain ⟨k, rfl⟩ : ∃ q, k = q + 1 := ⟨k - 1, by omega⟩
    rw [spec_l5Draw.l0, if_neg (by omega)]
    exact ⟨_, _, _, rfl, by omega, hok⟩
  | succ d ih =>
    intro k acc n p x hn hl hok hp hk
    obtain ⟨k, rfl⟩ : ∃ q, k = q + 1 := ⟨k - 1, by omega⟩
    obtain ⟨t, p1, x1, e1, t0, t1, hp1⟩ := below_ok (x := x) hs hp (n := 3) (by omega) (by omega)
    obtain ⟨b, p2, x2, e2, hp2⟩ := once_ok (x := x1) hs hp1 (n := 2) (by omega) (by omega)
    rw [spec_l5Draw.l0, if_pos (by omega), e1, Option.bind_some]
    dsimp only
    rw [e2, Option.bind_some]
    dsimp only
    have snoc : ∀ m : Int, 1 ≤ m → m ≤ 30 → ∀ r ∈ acc ++ [(⟨t, m⟩ : S42)], ok30 r := by
      intro m m1 m2 r hr
      rcases List.mem_append.1 hr with hr | hr
      · exact hok r hr
      · obtain rfl := List.mem_singleton.1 hr
        exact ⟨by simp only; omega, m1, m2⟩
    cases b with
    | true =>
      obtain ⟨m, p3, x3, e3, m0, m1, hp3⟩ := below_ok (x := x2) hs hp2 (n := 30) (by omega) (by omega)
      rw [if_pos rfl, e3, Option.bind_some]
      dsimp only
      rw [if_pos (by omega), w64 (x := 1 + m) (by omega) (by omega), w64 (x := n - 1) (by omega) (by omega)]
      exact ih k _ _ _ _ (by omega) (by rw [List.length_append, List.length_singleton]; omega) (snoc _ (by omega) (by omega)) hp3 (by omega)
    | false =>
      rw [if_neg Bool.false_ne_true, if_pos (by omega), w64 (x := n - 1) (by omega) (by omega)]
      exact ih k _ _ _ _ (by omega) (by rw [List.length_append, List.length_singleton]; omega) (snoc _ (by omega) (by omega)) hp2 (by omega)
theorem draw_ok {s : List Int} (hs : s.length ≤ 1048576) {k : Nat} (hk : s.length + 100 < k) : ∃ l, spec_DrawSchedule.f k s = some l ∧ l.length ≤ 11 ∧ ∀ r ∈ l, ok30 r := by
  unfold spec_DrawSchedule.f spec_l5Draw.f
  obtain ⟨x, e⟩ := l1New_ok (k := k) hs (by omega)
  have hp : Pl s 0 := ⟨by omega, by omega⟩
  obtain ⟨n, p1, x1, e1, n0, n1, hp1⟩ := below_ok (x := x) hs hp (n := 12) (by omega) (by omega)
  obtain ⟨l, p2, x2, e2, h1, h2⟩ := draw5_l0 hs n.toNat k [] n p1 x1 (by omega) (by simp only [List.length_nil]; omega) (by simp) hp1 (by omega)
  rw [e, Option.bind_some]
  dsimp only
  rw [e1, Option.bind_some]
  dsimp only
  rw [e2, Option.bind_some]
  exact ⟨l, rfl, h1, h2⟩
theorem sum_le : ∀ l : List S42, (∀ r ∈ l, ok30 r) → 0 ≤ sumR l ∧ sumR l ≤ 30 * (l.length : Int)
  | [], _ => by simp [sumR]
  | r :: l, h => by
    have h1 := sum_le l (fun q hq => h q (List.mem_cons_of_mem _ hq))
    have h2 := (h r (List.mem_cons_self ..)).2
    rw [sumR, List.length_cons]
    omega
theorem ok_of {l : List S42} (h : ∀ r ∈ l, ok30 r) : ∀ r ∈ l, okRun r := fun r hr => ⟨(h r hr).1, (h r hr).2.1, by have := (h r hr).2.2; omega⟩
theorem word_no32 {r : S42} (h : okRun r) : ∀ b ∈ wordL r, b ≠ 32 := by
  obtain ⟨⟨h0, h3⟩, h1, h5⟩ := h
  have dg : ∀ n : Nat, n < 1000 → ∀ b ∈ Go.Lib.decDigits n, b ≠ 32 := fun n hn b hb hc => by
    have := dec_digits hn b hb
    subst hc
    exact absurd this.1 (by decide)
  intro b hb
  unfold wordL at hb
  split at hb
  · rcases List.mem_append.1 hb with hb | hb
    · exact dg _ (by omega) b hb
    · rcases List.mem_cons.1 hb with rfl | hb
      · decide
      · exact dg _ (by omega) b hb
  · exact dg _ (by omega) b hb
theorem wds_text : ∀ (l : List S42) (r : S42), okRun r → (∀ q ∈ l, okRun q) → wds (wordL r ++ tailL l) = wordL r :: l.map wordL
  | [], r, hr, _ => by
    rw [show tailL [] = [] from rfl, List.append_nil, wds_one _ (word_no32 hr)]
    rfl
  | q :: l, r, hr, h => by
    rw [tail_cons, wds_word _ _ (word_no32 hr), wds_text l q (h q (List.mem_cons_self ..)) (fun x hx => h x (List.mem_cons_of_mem _ hx))]
    rfl
theorem run_word {r : S42} (h : okRun r) : runW (wordL r) = some (r.f0, r.f1) := by
  obtain ⟨⟨h0, h3⟩, h1, h5⟩ := h
  obtain ⟨n, hn⟩ := Int.eq_ofNat_of_zero_le h0
  obtain ⟨m, hm⟩ := Int.eq_ofNat_of_zero_le (show 0 ≤ r.f1 by omega)
  unfold wordL
  rw [hn, hm, Int.toNat_natCast, Int.toNat_natCast, dec1 (show n < 10 by omega)]
  have hu : (UInt8.ofNat (48 + n)).toNat = 48 + n := u8_of _ (by omega)
  generalize UInt8.ofNat (48 + n) = t at hu
  by_cases c : (m : Int) > 1
  · rw [if_pos c]
    have hm1 : m < 1000 := by omega
    obtain ⟨b, q, hb, h48⟩ := dec_head hm1 (by omega)
    have hD := dec_digits hm1
    have hV := val_dec hm1
    have hL := (dec_len hm1).2
    rw [hb] at hD hV hL ⊢
    show runW (t :: 42 :: b :: q) = _
    simp only [runW]
    rw [if_pos (show longW t 42 b q from ⟨by omega, by simp only [List.length_cons] at hL; omega, rfl, h48, hD, by omega, by omega⟩), hV]
    refine congrArg some (Prod.ext ?_ rfl)
    simp only
    omega
  · rw [if_neg c]
    simp only [runW]
    rw [if_pos (by omega)]
    refine congrArg some (Prod.ext ?_ ?_)
    · simp only
      omega
    · simp only
      omega
theorem readR_text : ∀ (l : List S42) (p sum : Int) (acc : List S42), (∀ r ∈ l, okRun r) → acc.length + l.length ≤ 60 → sum + sumR l ≤ 1500 → readR p sum acc (l.map wordL) = (acc ++ l, 0, 0)
  | [], p, sum, acc, _, _, _ => by
    rw [List.map_nil, readR, List.append_nil]
  | r :: l, p, sum, acc, h, hl, hs => by
    have hr := h r (List.mem_cons_self ..)
    have pos : ∀ l : List S42, (∀ q ∈ l, okRun q) → 0 ≤ sumR l := by
      intro l
      induction l with
      | nil => intro _; simp [sumR]
      | cons q l ih =>
        intro h
        have h1 := (h q (List.mem_cons_self ..)).2.1
        have h2 := ih (fun x hx => h x (List.mem_cons_of_mem _ hx))
        rw [sumR]
        omega
    have hp := pos l (fun q hq => h q (List.mem_cons_of_mem _ hq))
    rw [sumR] at hs
    rw [List.length_cons] at hl
    rw [List.map_cons, readR, run_word hr]
    simp only
    rw [if_neg (by omega), readR_text l _ _ _ (fun q hq => h q (List.mem_cons_of_mem _ hq)) (by rw [List.length_append, List.length_singleton]; omega) (by omega), List.append_assoc]
    rfl
theorem readS_text {l : List S42} (h : ∀ r ∈ l, okRun r) (hl : l.length ≤ 11) (hs : sumR l ≤ 1500) : readS (textL l) = (l, 0, 0) := by
  have ht := text_len l h
  unfold readS
  rw [if_neg (by omega)]
  cases l with
  | nil => rw [if_pos (by simp [textL, Go.Lib.join_nil])]
  | cons r l =>
    have hr := h r (List.mem_cons_self ..)
    have hw := word_len hr
    have hne : textL (r :: l) ≠ [] := by
      rw [text_cons]
      intro hc
      have := congrArg List.length hc
      rw [List.length_append, List.length_nil] at this
      omega
    have hsr : (0 : Int) + sumR (r :: l) ≤ 1500 := by omega
    rw [if_neg hne, text_cons, wds_text l r hr (fun q hq => h q (List.mem_cons_of_mem _ hq))]
    exact readR_text (r :: l) 0 0 [] h (by simp only [List.length_nil, List.length_cons] at hl ⊢; omega) hsr
theorem flat_sum : ∀ l : List S42, (∀ r ∈ l, okRun r) → ((flatR l).length : Int) = sumR l
  | [], _ => by simp [flatR, sumR]
  | r :: l, h => by
    have h1 := flat_sum l (fun q hq => h q (List.mem_cons_of_mem _ hq))
    have h2 := (h r (List.mem_cons_self ..)).2.1
    rw [flatR, List.length_append, List.length_replicate, sumR]
    omega
theorem flat_mem : ∀ l : List S42, (∀ r ∈ l, okRun r) → ∀ v ∈ flatR l, 0 ≤ v ∧ v ≤ 3
  | [], _, v, hv => by cases hv
  | r :: l, h, v, hv => by
    rw [flatR] at hv
    rcases List.mem_append.1 hv with hv | hv
    · rw [List.eq_of_mem_replicate hv]
      exact (h r (List.mem_cons_self ..)).1
    · exact flat_mem l (fun q hq => h q (List.mem_cons_of_mem _ hq)) v hv
theorem cnt_all : ∀ s : List Int, (∀ v ∈ s, 0 ≤ v ∧ v ≤ 3) → cntR 0 s + cntR 1 s + cntR 2 s + cntR 3 s = (s.length : Int)
  | [], _ => by simp [cntR]
  | v :: s, h => by
    have h1 := cnt_all s (fun q hq => h q (List.mem_cons_of_mem _ hq))
    have h2 := h v (List.mem_cons_self ..)
    simp only [cntR, List.length_cons]
    have h3 : v = 0 ∨ v = 1 ∨ v = 2 ∨ v = 3 := by omega
    rcases h3 with rfl | rfl | rfl | rfl <;> simp <;> omega
theorem left0 (s : List Int) (t : Int) : left5R s t 0 = cntR t s := by
  unfold left5R
  rw [if_pos (by simp [inB])]
  rfl
theorem l1_ok (s : List Int) (hs : s.length ≤ 4000) (hv : ∀ v ∈ s, 0 ≤ v ∧ v ≤ 3) {k : Nat} (hk : 5000 < k) : laws_FnSchedules.l1 k s (s.length : Int) 0 0 = some true := by
  obtain ⟨k, rfl⟩ : ∃ m, k = m + 5 := ⟨k - 5, by omega⟩
  have c0 := cntR_rng 0 s
  have c1 := cntR_rng 1 s
  have c2 := cntR_rng 2 s
  have c3 := cntR_rng 3 s
  have ca := cnt_all s hv
  have E : ∀ (k' : Nat) (t : Int), 4000 < k' → impl_Left5.f k' s t 0 = some (cntR t s) := fun k' t hk' => by
    rw [implLeft5_eq (by omega) (by omega), left0]
  have w1 : wrap64 ((0 : Int) + 1) = 1 := w64 (by omega) (by omega)
  have w2 : wrap64 ((1 : Int) + 1) = 2 := w64 (by omega) (by omega)
  have w3 : wrap64 ((2 : Int) + 1) = 3 := w64 (by omega) (by omega)
  have w4 : wrap64 ((3 : Int) + 1) = 4 := w64 (by omega) (by omega)
  rw [laws_FnSchedules.l1, if_pos (by decide), E _ _ (by omega), Option.bind_some, w1, w64 (x := 0 + cntR 0 s) (by omega) (by omega),
    laws_FnSchedules.l1, if_pos (by decide), E _ _ (by omega), Option.bind_some, w2, w64 (x := 0 + cntR 0 s + cntR 1 s) (by omega) (by omega),
    laws_FnSchedules.l1, if_pos (by decide), E _ _ (by omega), Option.bind_some, w3, w64 (x := 0 + cntR 0 s + cntR 1 s + cntR 2 s) (by omega) (by omega),
    laws_FnSchedules.l1, if_pos (by decide), E _ _ (by omega), Option.bind_some, w4, w64 (x := 0 + cntR 0 s + cntR 1 s + cntR 2 s + cntR 3 s) (by omega) (by omega),
    laws_FnSchedules.l1, if_neg (by decide), if_pos rfl, show 0 + cntR 0 s + cntR 1 s + cntR 2 s + cntR 3 s = (s.length : Int) from by omega]
  simp
theorem l0_ok (l : List S42) (s : List Int) (hl : l.length ≤ 11) (hok : ∀ r ∈ l, ok30 r) (hs : s.length ≤ 4000) (hv : ∀ v ∈ s, 0 ≤ v ∧ v ≤ 3) (hlen : (s.length : Int) = sumR l) (d : Nat) : ∀ (k i : Nat) (a : Int), i + d = l.length → 5100 + d < k → 0 ≤ a → a + sumR (l.drop i) = sumR l → laws_FnSchedules.l0 k l l s a (i : Int) = some true := by
  induction d with
  | zero =>
    intro k i a hi hk a0 ha
    obtain ⟨k, rfl⟩ : ∃ m, k = m + 1 := ⟨k - 1, by omega⟩
    rw [List.drop_of_length_le (by omega), sumR] at ha
    rw [laws_FnSchedules.l0, if_neg (by omega), show a = (s.length : Int) from by omega]
    exact l1_ok s hs hv (by omega)
  | succ d ih =>
    intro k i a hi hk a0 ha
    obtain ⟨k, rfl⟩ : ∃ m, k = m + 1 := ⟨k - 1, by omega⟩
    have hil : i < l.length := by omega
    have hr := (hok _ (List.getElem_mem hil)).2
    have hsum := sum_le l hok
    rw [drop_cons l i hil, sumR] at ha
    have hrest := (sum_le (l.drop (i + 1)) (fun q hq => hok q (List.mem_of_mem_drop hq))).1
    rw [laws_FnSchedules.l0, if_pos (by omega), if_pos (by omega), if_pos (by omega), rdT42_at l i hil, if_neg (by simp), w64 (x := a + l[i].f1) (by omega) (by omega), w64 (x := (i : Int) + 1) (by omega) (by omega), show ((i : Int) + 1) = ((i + 1 : Nat) : Int) from by omega]
    exact ih k (i + 1) _ (by omega) (by omega) (by omega) (by omega)
theorem FnSchedules : laws_FnSchedules.Pure := by
  intro s hs
  refine ⟨s.length + 40000, ?_⟩
  unfold laws_FnSchedules.f laws_big.f
  rw [Option.bind_some]
  by_cases hb : (s.length : Int) > 1048576
  · rw [if_pos (decide_eq_true hb)]
  · rw [if_neg (by simpa using hb)]
    have hlen : s.length ≤ 1048576 := by omega
    obtain ⟨l, e, hl, hok⟩ := draw_ok hlen (k := s.length + 40000) (by omega)
    have hok2 := ok_of hok
    have hsum := sum_le l hok
    have hS : schedR l = true := by
      rw [schedR_sum hok2, decide_eq_true (show l.length ≤ 60 by omega), decide_eq_true (show sumR l ≤ 1500 by omega)]
      rfl
    have hW : writeR l = (B (textL l), true) := by
      unfold writeR
      rw [if_pos hS]
    have hT : stepsR l = (flatR l, true) := by
      unfold stepsR
      rw [if_pos hS]
    have htl := text_len l hok2
    have hfl := flat_sum l hok2
    rw [e, Option.bind_some, implWrite_eq (by omega) (by omega), Option.bind_some, hW]
    dsimp only
    rw [implRead_eq (by omega) (textL l) (by omega), Option.bind_some, readS_text hok2 hl (by omega), implSteps_eq (by omega) (by omega), Option.bind_some, hT]
    dsimp only
    rw [if_pos rfl, if_pos rfl, implSched_eq (by omega) (by omega), Option.bind_some, hS, Bool.not_true]
    obtain ⟨k, hk⟩ : ∃ k, s.length + 40000 = k + 2 := ⟨s.length + 39998, by omega⟩
    rw [hk, laws_FnSchedules.j0, if_neg Bool.false_ne_true, if_neg (by rw [B_size]; omega), if_pos rfl, if_pos rfl, bne_self_eq_false, laws_FnSchedules.j1, if_neg Bool.false_ne_true]
    exact l0_ok l (flatR l) hl hok (by omega) (flat_mem l hok2) hfl l.length k 0 0 (by omega) (by omega) (by omega) (by rw [List.drop_zero]; omega)


end Go.Proofs.YtjbfcdeddnnnmaaDoor.Pure
