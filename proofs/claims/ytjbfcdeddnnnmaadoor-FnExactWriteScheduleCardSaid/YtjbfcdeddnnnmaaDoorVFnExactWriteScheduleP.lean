/- The pure statement of FnExactWriteSchedule and what it needs. Conditions: those that each theorem states. -/
import Derived.Test.YtjbfcdeddnnnmaaDoorVFnExactWriteSchedule0
import Derived.Lib.AtoiAll
import Derived.Lib.ItoaMem
import Derived.Lib.Join
import Derived.Lib.SplitLaws
import Derived.RowKit
namespace Go.Proofs.YtjbfcdeddnnnmaaDoor.PbK
open Go.RowKit Go.Proofs.YtjbfcdeddnnnmaaDoorW.PrintWords

theorem w64 {x : Int} (h0 : -9223372036854775808 ≤ x) (h1 : x ≤ 9223372036854775807) : wrap64 x = x := by
  unfold wrap64
  omega

theorem set_take {α : Type} (x : List α) (v : α) (i : Nat) (h : i < x.length) : (x.set i v).take (i + 1) = x.take i ++ [v] := by
  rw [List.take_succ_eq_append_getElem (by simpa using h)]
  rw [List.take_set_of_le (Nat.le_refl i)]
  simp

/-- The same where each element is turned into another kind. -/
theorem copy_step_map {α β : Type} (f : α → β) (x : List β) (l : List α) (i : Nat) (h : i < l.length) (hx : i < x.length) :
    (x.set i (f l[i])).take (i + 1) ++ (l.drop (i + 1)).map f = x.take i ++ (l.drop i).map f := by
  rw [set_take x (f l[i]) i hx, List.drop_eq_getElem_cons h, List.append_assoc]
  rfl

theorem drop_cons {α : Type} (l : List α) (i : Nat) (h : i < l.length) : l.drop i = l[i] :: l.drop (i + 1) := List.drop_eq_getElem_cons h


end Go.Proofs.YtjbfcdeddnnnmaaDoor.PbK
namespace Go.Proofs.YtjbfcdeddnnnmaaDoor.K
set_option linter.unusedVariables false
set_option linter.unusedSimpArgs false
open Go.RowKit Go.Proofs.YtjbfcdeddnnnmaaDoorW.PrintWords Go.Proofs.YtjbfcdeddnnnmaaDoor.PbK

/-- All of a list within bounds. -/
def inB (a b x : Int) : Bool := decide (a ≤ x) && decide (x ≤ b)

theorem l1In_eq (x a b : Int) : spec_l1In.f x a b = some (inB a b x) := by
  unfold spec_l1In.f inB
  by_cases h : x ≥ a
  · rw [if_pos h, decide_eq_true (show a ≤ x from h), Bool.true_and]
  · rw [if_neg h, decide_eq_false (show ¬ a ≤ x from h), Bool.false_and]

theorem in_eq (x a b : Int) : impl_in.f x a b = some (inB a b x) := by
  unfold impl_in.f inB
  by_cases h : a ≤ x
  · rw [if_pos h, decide_eq_true h, Bool.true_and]
  · rw [if_neg h, decide_eq_false h, Bool.false_and]


end Go.Proofs.YtjbfcdeddnnnmaaDoor.K
namespace Go.Proofs.YtjbfcdeddnnnmaaDoor.K
set_option linter.unusedSimpArgs false
open Go.RowKit Go.Proofs.YtjbfcdeddnnnmaaDoorW.PrintWords Go.Proofs.YtjbfcdeddnnnmaaDoor.PbK

def cvRun (x : S46) : S42 := ⟨x.f0, x.f1⟩
theorem rdT46_at (l : List S46) (i : Nat) (h : i < l.length) : rd_T46 l (i : Int) = l[i] := by
  simp [rd_T46, List.getD_eq_getElem?_getD, List.getElem?_eq_getElem h]
theorem rdT42_at (l : List S42) (i : Nat) (h : i < l.length) : rd_T42 l (i : Int) = l[i] := by
  simp [rd_T42, List.getD_eq_getElem?_getD, List.getElem?_eq_getElem h]
theorem szRunS_eq {l : List S46} {a : Int} (hl : l.length ≤ maxLen) (ha : 0 ≤ a ∧ a ≤ 1048576) : laws_szRunS.f l a = some (if a - (l.length : Int) < 0 then -1 else a - (l.length : Int)) := by
  unfold laws_szRunS.f
  have hm : l.length ≤ 9223372036854775807 := hl
  rw [w64 (by omega) (by omega)]
  by_cases h : a - (l.length : Int) < 0
  · rw [if_pos h, if_pos h]
  · rw [if_neg h, if_neg h]
theorem toRunS_l0 (l : List S46) (hl : l.length ≤ 4000000) (d : Nat) : ∀ (k i : Nat) (x : List S42), i + d = l.length → d < k → x.length = l.length → laws_toRunS.l0 k l x (i : Int) = some (x.take i ++ (l.drop i).map cvRun) := by
  induction d with
  | zero =>
    intro k i x hi hk hx
    obtain ⟨k, rfl⟩ : ∃ m, k = m + 1 := ⟨k - 1, by omega⟩
    simp only [laws_toRunS.l0]
    rw [if_neg (by omega), List.take_of_length_le (by omega), List.drop_of_length_le (by omega), List.map_nil, List.append_nil]
  | succ d ih =>
    intro k i x hi hk hx
    obtain ⟨k, rfl⟩ : ∃ m, k = m + 1 := ⟨k - 1, by omega⟩
    simp only [laws_toRunS.l0]
    rw [if_pos (by omega), if_pos (by omega)]
    simp only [laws_toRun.f, Option.bind_some]
    rw [if_pos (by omega), w64 (by omega) (by omega), rdT46_at l i (by omega), Int.toNat_natCast,
      show ((i : Int) + 1) = ((i + 1 : Nat) : Int) from by omega, ih k (i + 1) _ (by omega) (by omega) (by simp [hx])]
    exact congrArg some (copy_step_map cvRun x l i (by omega) (by omega))
theorem toRunS_eq {k : Nat} {l : List S46} (hl : l.length ≤ 4000000) (hk : l.length < k) : laws_toRunS.f k l = some (l.map cvRun) := by
  unfold laws_toRunS.f
  rw [if_pos (by omega), if_pos (by omega)]
  have h := toRunS_l0 l hl l.length k 0 (List.replicate ((l.length : Int) : Int).toNat z42) (by omega) hk (by simp)
  rw [List.take_zero, List.drop_zero, List.nil_append] at h
  exact h
theorem eqRun_refl (a0 : Int) (a1 : Int) : laws_eqRun.f a0 a1 a0 a1 = some true := by
  simp [laws_eqRun.f]
theorem eqRunS_l0 (l : List S42) (hl : l.length ≤ 4000000) (d : Nat) : ∀ (k i : Nat), i + d = l.length → d < k → laws_eqRunS.l0 k l l (i : Int) = some true := by
  induction d with
  | zero =>
    intro k i hi hk
    obtain ⟨k, rfl⟩ : ∃ m, k = m + 1 := ⟨k - 1, by omega⟩
    simp only [laws_eqRunS.l0]
    rw [if_neg (by omega)]
  | succ d ih =>
    intro k i hi hk
    obtain ⟨k, rfl⟩ : ∃ m, k = m + 1 := ⟨k - 1, by omega⟩
    simp only [laws_eqRunS.l0]
    rw [if_pos (by omega), if_pos (by omega), if_pos (by omega), eqRun_refl, Option.bind_some, if_pos rfl, w64 (by omega) (by omega), show ((i : Int) + 1) = ((i + 1 : Nat) : Int) from by omega]
    exact ih k (i + 1) (by omega) (by omega)
theorem eqRunS_refl {k : Nat} {l : List S42} (hl : l.length ≤ 4000000) (hk : l.length < k) : laws_eqRunS.f k l l = some true := by
  unfold laws_eqRunS.f
  rw [if_pos rfl]
  exact eqRunS_l0 l hl l.length k 0 (by omega) hk

end Go.Proofs.YtjbfcdeddnnnmaaDoor.K
namespace Go.Proofs.YtjbfcdeddnnnmaaDoor.K
set_option linter.unusedVariables false
set_option linter.unusedSimpArgs false
open Go.RowKit Go.Proofs.YtjbfcdeddnnnmaaDoorW.PrintWords Go.Proofs.YtjbfcdeddnnnmaaDoor.PbK

theorem isThread_eq (x : Int) : impl_isThread.f x = some (inB 0 3 x) := by
  unfold impl_isThread.f
  rw [in_eq, Option.bind_some]

/-- The loop of ScheduleOk: what is left, and the sum so far. The answer of the specification's side may be no sooner than the other's. -/
def runsR : Int → List S42 → Bool
  | a, [] => decide (a ≤ 1500)
  | a, r :: l => inB 0 3 r.f0 && (inB 1 500 r.f1 && runsR (a + r.f1) l)
theorem runsR_big : ∀ (l : List S42) (a : Int), 1500 < a → runsR a l = false
  | [], a, h => by simp [runsR]; omega
  | r :: l, a, h => by
    simp only [runsR]
    cases h1 : inB 1 500 r.f1 with
    | false => simp
    | true =>
      simp only [inB, Bool.and_eq_true, decide_eq_true_eq] at h1
      rw [runsR_big l (a + r.f1) (by omega)]
      simp
def schedR (l : List S42) : Bool := decide (l.length ≤ 60) && runsR 0 l
theorem specSched_l0 (l : List S42) (hl : l.length ≤ 4000000) (d : Nat) : ∀ (k i : Nat) (a : Int), i + d = l.length → d < k → 0 ≤ a → a ≤ 2000 → spec_ScheduleOk.l0 k l a (i : Int) = some (decide (l.length ≤ 60) && runsR a (l.drop i)) := by
  induction d with
  | zero =>
    intro k i a hi hk h0 h1
    obtain ⟨k, rfl⟩ : ∃ m, k = m + 1 := ⟨k - 1, by omega⟩
    rw [spec_ScheduleOk.l0, if_neg (by omega), List.drop_of_length_le (by omega)]
    by_cases h : l.length ≤ 60
    · rw [if_pos (by omega), decide_eq_true h, Bool.true_and]; rfl
    · rw [if_neg (by omega), decide_eq_false h, Bool.false_and]
  | succ d ih =>
    intro k i a hi hk h0 h1
    obtain ⟨k, rfl⟩ : ∃ m, k = m + 1 := ⟨k - 1, by omega⟩
    rw [spec_ScheduleOk.l0, if_pos (by omega), if_pos (by omega), rdT42_at l i (by omega), drop_cons l i (by omega), l1In_eq, Option.bind_some]
    simp only [runsR]
    cases h2 : inB 0 3 l[i].f0 with
    | false => simp
    | true =>
      rw [if_pos rfl, l1In_eq, Option.bind_some]
      cases h3 : inB 1 500 l[i].f1 with
      | false => simp
      | true =>
        simp only [inB, Bool.and_eq_true, decide_eq_true_eq] at h3
        rw [if_pos rfl, Bool.true_and, Bool.true_and]
        by_cases h4 : a > 1500
        · rw [if_pos h4, runsR_big _ _ (by omega), Bool.and_false]
        · rw [if_neg h4, w64 (x := (i : Int) + 1) (by omega) (by omega), w64 (x := a + l[i].f1) (by omega) (by omega), show ((i : Int) + 1) = ((i + 1 : Nat) : Int) from by omega, ih k (i + 1) _ (by omega) (by omega) (by omega) (by omega)]
theorem implSched_l0 (l : List S42) (hl : l.length ≤ 4000000) (d : Nat) : ∀ (k i : Nat) (a : Int), i + d = l.length → d < k → 0 ≤ a → a ≤ 500 * (i : Int) → impl_ScheduleOk.l0 k l a l (l.length : Int) (i : Int) = some (decide (l.length ≤ 60) && runsR a (l.drop i)) := by
  induction d with
  | zero =>
    intro k i a hi hk h0 h1
    obtain ⟨k, rfl⟩ : ∃ m, k = m + 1 := ⟨k - 1, by omega⟩
    rw [impl_ScheduleOk.l0, if_neg (by omega), List.drop_of_length_le (by omega)]
    by_cases h : l.length ≤ 60
    · rw [if_pos (by omega), decide_eq_true h, Bool.true_and]; rfl
    · rw [if_neg (by omega), decide_eq_false h, Bool.false_and]
  | succ d ih =>
    intro k i a hi hk h0 h1
    obtain ⟨k, rfl⟩ : ∃ m, k = m + 1 := ⟨k - 1, by omega⟩
    rw [impl_ScheduleOk.l0, if_pos (by omega), if_pos (by omega), if_pos (by omega), rdT42_at l i (by omega), drop_cons l i (by omega), isThread_eq, Option.bind_some]
    simp only [runsR]
    cases h2 : inB 0 3 l[i].f0 with
    | false => simp
    | true =>
      rw [if_pos rfl, in_eq, Option.bind_some]
      cases h3 : inB 1 500 l[i].f1 with
      | false => simp
      | true =>
        simp only [inB, Bool.and_eq_true, decide_eq_true_eq] at h3
        rw [if_pos rfl, Bool.true_and, Bool.true_and, w64 (x := (i : Int) + 1) (by omega) (by omega), w64 (x := a + l[i].f1) (by omega) (by omega), show ((i : Int) + 1) = ((i + 1 : Nat) : Int) from by omega, ih k (i + 1) _ (by omega) (by omega) (by omega) (by omega)]
theorem specSched_eq {k : Nat} {l : List S42} (hl : l.length ≤ 4000000) (hk : l.length < k) : spec_ScheduleOk.f k l = some (schedR l) := by
  unfold spec_ScheduleOk.f schedR
  have h := specSched_l0 l hl l.length k 0 0 (by omega) hk (by omega) (by omega)
  rw [List.drop_zero] at h
  exact h
theorem implSched_eq {k : Nat} {l : List S42} (hl : l.length ≤ 4000000) (hk : l.length < k) : impl_ScheduleOk.f k l = some (schedR l) := by
  unfold impl_ScheduleOk.f schedR
  have h := implSched_l0 l hl l.length k 0 0 (by omega) hk (by omega) (by omega)
  rw [List.drop_zero] at h
  exact h


end Go.Proofs.YtjbfcdeddnnnmaaDoor.K
namespace Go.Proofs.YtjbfcdeddnnnmaaDoor.K
set_option linter.unusedVariables false
set_option linter.unusedSimpArgs false
open Go.RowKit Go.Proofs.YtjbfcdeddnnnmaaDoorW.PrintWords Go.Proofs.YtjbfcdeddnnnmaaDoor.PbK

def B (l : List UInt8) : ByteArray := ⟨l.toArray⟩
theorem B_data (l : List UInt8) : (B l).data.toList = l := by simp [B]
theorem B_size (l : List UInt8) : (B l).size = l.length := by simp [B, ByteArray.size]
theorem B_append (a b : List UInt8) : B a ++ B b = B (a ++ b) := by
  apply ByteArray.ext
  rw [ByteArray.data_append]
  simp [B]
theorem dec1 {n : Nat} (h : n < 10) : Go.Lib.decDigits n = [UInt8.ofNat (48 + n)] := Go.Lib.decDigits_one h
theorem dec2 {n : Nat} (h : ¬ n < 10) (h1 : n < 100) : Go.Lib.decDigits n = [UInt8.ofNat (48 + n / 10), UInt8.ofNat (48 + n % 10)] := Go.Lib.decDigits_two h h1
theorem dec3 {n : Nat} (h : ¬ n < 100) (h1 : n < 1000) : Go.Lib.decDigits n = [UInt8.ofNat (48 + n / 100), UInt8.ofNat (48 + n / 10 % 10), UInt8.ofNat (48 + n % 10)] := by
  rw [Go.Lib.decDigits, dif_neg (by omega), dec2 (by omega) (by omega), show n / 10 / 10 = n / 100 by omega]
  rfl
theorem dec_len {n : Nat} (h : n < 1000) : 1 ≤ (Go.Lib.decDigits n).length ∧ (Go.Lib.decDigits n).length ≤ 3 := by
  by_cases h1 : n < 10
  · rw [dec1 h1]
    simp
  · by_cases h2 : n < 100
    · rw [dec2 h1 h2]
      simp
    · rw [dec3 h2 h]
      simp
theorem told_one {n : Nat} (h : n < 10) (k : Nat) : spec_l1Told.f (k + 2) (n : Int) = some (B (Go.Lib.decDigits n)) := by
  simp only [spec_l1Told.f, spec_l1Told.j0]
  rw [if_pos (show (n : Int) > -10 by omega), if_pos (by simp; omega), if_neg (show ¬ (n : Int) < 0 by omega), w64 (by omega) (by omega), dec1 h]
  have e : (48 + (n : Int)) % 256 = 48 + (n : Int) := by omega
  rw [e]
  simp only [strOfNums, List.map_cons, List.map_nil]
  rw [show (48 + (n : Int)).toNat = 48 + n by omega]
  rfl
theorem told_more {n : Nat} (h1 : ¬ n < 10) (h2 : n < 1000) (k : Nat) (ht : spec_l1Told.f k ((n / 10 : Nat) : Int) = some (B (Go.Lib.decDigits (n / 10)))) : spec_l1Told.f (k + 2) (n : Int) = some (B (Go.Lib.decDigits n)) := by
  rw [spec_l1Told.f, if_pos (show (n : Int) > -10 by omega), spec_l1Told.j0]
  rw [if_neg (by simp; omega), if_neg (show ¬ Int.tmod (n : Int) 10 < 0 from by rw [Int.tmod_eq_emod_of_nonneg (by omega)]; omega)]
  rw [Int.tdiv_eq_ediv_of_nonneg (by omega), Int.tmod_eq_emod_of_nonneg (by omega), w64 (by omega) (by omega), show ((n : Int) / 10) = ((n / 10 : Nat) : Int) by omega, ht, Option.bind_some, Option.bind_some, w64 (by omega) (by omega)]
  have e : (48 + (n : Int) % 10) % 256 = 48 + (n : Int) % 10 := by omega
  have e2 : strOfNums [48 + (n : Int) % 10] = B [UInt8.ofNat (48 + n % 10)] := by
    simp only [strOfNums, List.map_cons, List.map_nil]
    rw [show (48 + (n : Int) % 10).toNat = 48 + n % 10 by omega]
    rfl
  have hl := (dec_len (show n / 10 < 1000 by omega)).2
  rw [e, e2, if_pos (by rw [B_size, B_size]; simp only [List.length_cons, List.length_nil]; omega), B_append]
  conv => rhs; rw [Go.Lib.decDigits, dif_neg h1]
theorem told_ok {n : Nat} (h : n < 1000) {k : Nat} (hk : 8 ≤ k) : spec_l1Told.f k (n : Int) = some (B (Go.Lib.decDigits n)) := by
  obtain ⟨k, rfl⟩ : ∃ m, k = m + 8 := ⟨k - 8, by omega⟩
  by_cases h1 : n < 10
  · exact told_one h1 (k + 6)
  · by_cases h2 : n < 100
    · exact told_more h1 h (k + 6) (told_one (by omega) (k + 4))
    · exact told_more h1 h (k + 6) (told_more (by omega) (by omega) (k + 4) (told_one (by omega) (k + 2)))
theorem itoa_ok {n : Nat} (h : n < 1000) : strconv_Itoa_23.f (n : Int) = some (B (Go.Lib.decDigits n)) := by
  unfold strconv_Itoa_23.f
  rw [if_pos (by omega), if_pos (by omega), Go.Lib.itoa_nonneg]
  rfl

end Go.Proofs.YtjbfcdeddnnnmaaDoor.K
namespace Go.Proofs.YtjbfcdeddnnnmaaDoor.K
set_option linter.unusedVariables false
set_option linter.unusedSimpArgs false
open Go.RowKit Go.Proofs.YtjbfcdeddnnnmaaDoorW.PrintWords Go.Proofs.YtjbfcdeddnnnmaaDoor.PbK

def wordL (r : S42) : List UInt8 := if r.f1 > 1 then Go.Lib.decDigits r.f0.toNat ++ 42 :: Go.Lib.decDigits r.f1.toNat else Go.Lib.decDigits r.f0.toNat
def wordB (r : S42) : ByteArray := B (wordL r)
def okRun (r : S42) : Prop := (0 ≤ r.f0 ∧ r.f0 ≤ 3) ∧ 1 ≤ r.f1 ∧ r.f1 ≤ 500
theorem runs_ok : ∀ (l : List S42) (a : Int), runsR a l = true → ∀ r ∈ l, okRun r
  | [], _, _ => by simp
  | r :: l, a, h => by
    simp only [runsR, Bool.and_eq_true, inB, decide_eq_true_eq] at h
    intro q hq
    rcases List.mem_cons.1 hq with rfl | hq
    · exact ⟨h.1, h.2.1⟩
    · exact runs_ok l _ h.2.2 q hq
theorem word_len {r : S42} (h : okRun r) : 1 ≤ (wordL r).length ∧ (wordL r).length ≤ 7 := by
  obtain ⟨⟨h0, h3⟩, h1, h5⟩ := h
  have l0 := dec_len (show r.f0.toNat < 1000 by omega)
  have l1 := dec_len (show r.f1.toNat < 1000 by omega)
  unfold wordL
  split
  · rw [List.length_append, List.length_cons]
    omega
  · omega
def tailL (l : List S42) : List UInt8 := Go.Lib.joinTail [32] (l.map wordL)
theorem tail_cons (r : S42) (l : List S42) : tailL (r :: l) = 32 :: (wordL r ++ tailL l) := by
  simp [tailL, Go.Lib.joinTail]
theorem tail_len : ∀ (l : List S42), (∀ r ∈ l, okRun r) → (tailL l).length ≤ 8 * l.length
  | [], _ => by simp [tailL, Go.Lib.joinTail]
  | r :: l, h => by
    have h1 := word_len (h r (List.mem_cons_self ..))
    have h2 := tail_len l (fun q hq => h q (List.mem_cons_of_mem _ hq))
    rw [tail_cons, List.length_cons, List.length_append, List.length_cons]
    omega
def textL (l : List S42) : List UInt8 := Go.Lib.join (l.map wordL) [32]
theorem text_cons (r : S42) (l : List S42) : textL (r :: l) = wordL r ++ tailL l := by
  unfold textL tailL
  rw [List.map_cons, Go.Lib.join_cons]
theorem text_len (l : List S42) (h : ∀ r ∈ l, okRun r) : (textL l).length ≤ 8 * l.length := by
  cases l with
  | nil => simp [textL, Go.Lib.join_nil]
  | cons r l =>
    have h1 := word_len (h r (List.mem_cons_self ..))
    have h2 := tail_len l (fun q hq => h q (List.mem_cons_of_mem _ hq))
    rw [text_cons, List.length_append, List.length_cons]
    omega
theorem e32 : (⟨#[32]⟩ : ByteArray) = B [32] := rfl
theorem e42 : (⟨#[42]⟩ : ByteArray) = B [42] := rfl
theorem e00 : (⟨#[]⟩ : ByteArray) = B [] := rfl
theorem specWrite_j1 {l : List S42} (hr : ∀ r ∈ l, okRun r) {k i : Nat} {a : List UInt8} (hl : l.length ≤ 4000000) (hi : i < l.length) (hk : 9 ≤ k) (ha : a.length ≤ 2000) : spec_WriteSchedule.j1 (k + 1) l (B a) (i : Int) = spec_WriteSchedule.l0 k l (B (a ++ wordL l[i])) ((i + 1 : Nat) : Int) := by
  obtain ⟨⟨h0, h3⟩, h1, h5⟩ := hr l[i] (List.getElem_mem hi)
  obtain ⟨n, hn⟩ := Int.eq_ofNat_of_zero_le h0
  obtain ⟨m, hm⟩ := Int.eq_ofNat_of_zero_le (show 0 ≤ l[i].f1 by omega)
  have ln := (dec_len (show n < 1000 by omega)).2
  have lm := (dec_len (show m < 1000 by omega)).2
  unfold wordL
  rw [spec_WriteSchedule.j1, if_pos (by omega), if_pos (by omega), rdT42_at l i hi, hn, hm, told_ok (by omega) (by omega), Option.bind_some, if_pos (by rw [B_size, B_size]; omega), Int.toNat_natCast, Int.toNat_natCast, w64 (by omega) (by omega), show ((i : Int) + 1) = ((i + 1 : Nat) : Int) from by omega, B_append, e42]
  by_cases c : (m : Int) > 1
  · rw [if_pos c, if_pos c, if_pos (by rw [B_size, List.length_append]; omega), told_ok (by omega) (by omega), Option.bind_some, B_append, if_pos (by rw [B_size, B_size, List.length_append, List.length_append, List.length_singleton]; omega), B_append]
    simp only [List.append_assoc, List.singleton_append, List.cons_append, List.nil_append]
  · rw [if_neg c, if_neg c]
theorem specWrite_l0 {l : List S42} (hr : ∀ r ∈ l, okRun r) (hl : l.length ≤ 60) (d : Nat) : ∀ (k i : Nat) (a : List UInt8), i + d = l.length → 1 ≤ i → 2 * d + 12 < k → a.length + 8 * d ≤ 1000 → spec_WriteSchedule.l0 k l (B a) (i : Int) = some (B (a ++ tailL (l.drop i)), true) := by
  induction d with
  | zero =>
    intro k i a hi h1 hk ha
    obtain ⟨k, rfl⟩ : ∃ m, k = m + 1 := ⟨k - 1, by omega⟩
    rw [spec_WriteSchedule.l0, if_neg (by omega), List.drop_of_length_le (by omega)]
    simp [tailL, Go.Lib.joinTail]
  | succ d ih =>
    intro k i a hi h1 hk ha
    obtain ⟨k, rfl⟩ : ∃ m, k = m + 2 := ⟨k - 2, by omega⟩
    have hw := word_len (hr l[i] (List.getElem_mem (by omega)))
    rw [spec_WriteSchedule.l0, if_pos (by omega), if_pos (by omega), e32, if_pos (by rw [B_size]; omega), B_append, specWrite_j1 hr (by omega) (by omega) (by omega) (by rw [List.length_append, List.length_singleton]; omega),
      ih k (i + 1) _ (by omega) (by omega) (by omega) (by rw [List.length_append, List.length_append, List.length_singleton]; omega), drop_cons l i (by omega), tail_cons]
    simp only [List.append_assoc, List.singleton_append, List.cons_append, List.nil_append]
def writeR (l : List S42) : ByteArray × Bool := if schedR l = true then (B (textL l), true) else (B [], false)
theorem specWrite_eq {k : Nat} {l : List S42} (hl : l.length ≤ 4000000) (hk : l.length + 300 < k) : spec_WriteSchedule.f k l = some (writeR l) := by
  unfold spec_WriteSchedule.f writeR
  rw [specSched_eq hl (by omega), Option.bind_some]
  cases h : schedR l with
  | false => rfl
  | true =>
    simp only [schedR, Bool.and_eq_true, decide_eq_true_eq] at h
    have hr := runs_ok l 0 h.2
    rw [if_pos rfl, if_pos rfl, e00]
    obtain ⟨k, rfl⟩ : ∃ m, k = m + 2 := ⟨k - 2, by omega⟩
    cases l with
    | nil =>
      rw [spec_WriteSchedule.l0, if_neg (by simp)]
      rfl
    | cons r l =>
      have hw := word_len (hr r (List.mem_cons_self ..))
      have hlen := h.1
      rw [List.length_cons] at hlen hk
      rw [spec_WriteSchedule.l0, if_pos (by rw [List.length_cons]; omega), if_neg (by omega), show (0 : Int) = ((0 : Nat) : Int) from rfl, specWrite_j1 hr hl (by simp) (by omega) (by simp), List.nil_append]
      have h0 := specWrite_l0 hr h.1 l.length k 1 (wordL r) (by rw [List.length_cons]; omega) (by omega) (by omega) (by omega)
      rw [text_cons]
      exact h0
theorem take_snoc {α β : Type} (f : α → β) (l : List α) (i : Nat) (h : i < l.length) : (l.take i).map f ++ [f l[i]] = (l.take (i + 1)).map f := by
  rw [List.take_succ_eq_append_getElem h, List.map_append]
  rfl
theorem implWrite_l0 {l : List S42} (hr : ∀ r ∈ l, okRun r) (hl : l.length ≤ 60) (d : Nat) : ∀ (k i : Nat), i + d = l.length → d < k → impl_WriteSchedule.l0 k ((l.take i).map wordB) l (l.length : Int) (i : Int) = some (B (textL l), true) := by
  induction d with
  | zero =>
    intro k i hi hk
    obtain ⟨k, rfl⟩ : ∃ m, k = m + 1 := ⟨k - 1, by omega⟩
    have hd : (l.map wordB).map (·.data.toList) = l.map wordL := by
      rw [List.map_map]
      apply List.map_congr_left
      intro r _
      exact B_data _
    have ht := text_len l hr
    rw [impl_WriteSchedule.l0, if_neg (by omega), List.take_of_length_le (by omega)]
    unfold strings_Join.f
    rw [if_pos (by rw [List.length_map]; omega), hd]
    have e : (⟨#[32]⟩ : ByteArray).data.toList = [32] := rfl
    rw [e, if_pos (by unfold textL at ht; omega), Option.bind_some]
    rfl
  | succ d ih =>
    intro k i hi hk
    obtain ⟨k, rfl⟩ : ∃ m, k = m + 1 := ⟨k - 1, by omega⟩
    obtain ⟨⟨h0, h3⟩, h1, h5⟩ := hr l[i] (List.getElem_mem (by omega))
    obtain ⟨n, hn⟩ := Int.eq_ofNat_of_zero_le h0
    obtain ⟨m, hm⟩ := Int.eq_ofNat_of_zero_le (show 0 ≤ l[i].f1 by omega)
    have ln := (dec_len (show n < 1000 by omega)).2
    have lm := (dec_len (show m < 1000 by omega)).2
    have hw : wordB l[i] = B (if (m : Int) > 1 then Go.Lib.decDigits n ++ 42 :: Go.Lib.decDigits m else Go.Lib.decDigits n) := by
      unfold wordB wordL
      rw [hn, hm, Int.toNat_natCast, Int.toNat_natCast]
    have hs := take_snoc wordB l i (by omega)
    have hi2 := ih k (i + 1) (by omega) (by omega)
    rw [impl_WriteSchedule.l0, if_pos (by omega), if_pos (by omega), if_pos (by omega), rdT42_at l i (by omega), hn, hm, itoa_ok (by omega), Option.bind_some, w64 (by omega) (by omega), show ((i : Int) + 1) = ((i + 1 : Nat) : Int) from by omega]
    have hlt : ((l.take i).map wordB).length < 8796093022208 := by
      rw [List.length_map, List.length_take]
      omega
    by_cases c : (m : Int) > 1
    · rw [if_pos c] at hw ⊢
      rw [itoa_ok (by omega), Option.bind_some, if_pos (by rw [B_size]; omega), e42, B_append, if_pos (by rw [B_size, B_size, List.length_append, List.length_singleton]; omega), if_pos hlt, B_append, List.singleton_append, ← hw, hs]
      exact hi2
    · rw [if_neg c] at hw ⊢
      rw [if_pos hlt, ← hw, hs]
      exact hi2
theorem implWrite_eq {k : Nat} {l : List S42} (hl : l.length ≤ 4000000) (hk : l.length + 300 < k) : impl_WriteSchedule.f k l = some (writeR l) := by
  unfold impl_WriteSchedule.f writeR
  rw [implSched_eq hl (by omega), Option.bind_some]
  cases h : schedR l with
  | false => rfl
  | true =>
    simp only [schedR, Bool.and_eq_true, decide_eq_true_eq] at h
    rw [if_pos rfl, if_pos rfl]
    have h0 := implWrite_l0 (runs_ok l 0 h.2) h.1 l.length k 0 (by omega) (by omega)
    rw [List.take_zero, List.map_nil] at h0
    exact h0


end Go.Proofs.YtjbfcdeddnnnmaaDoor.K
namespace Go.Proofs.YtjbfcdeddnnnmaaDoor.Pure
set_option linter.unusedVariables false
set_option linter.unusedSimpArgs false
open Go.RowKit Go.Proofs.YtjbfcdeddnnnmaaDoor.K Go.Proofs.YtjbfcdeddnnnmaaDoorW.PrintWords Go.Proofs.YtjbfcdeddnnnmaaDoor.PbK


theorem FnExactWriteSchedule : laws_FnExactWriteSchedule.Pure := by
  intro a ha
  obtain ⟨k, hk⟩ : ∃ k : Nat, 30000000 < k := ⟨30000001, by omega⟩
  refine ⟨k + 3, ?_⟩
  unfold laws_FnExactWriteSchedule.f
  rw [szRunS_eq ha.1 (by omega), Option.bind_some]
  by_cases h1 : a.length ≤ 1048576
  · rw [if_neg (show ¬ ((1048576 : Int) - (a.length : Int) < 0) by omega), if_neg (by omega)]
    (repeat (first | rw [if_pos rfl] | rw [if_neg Bool.false_ne_true] | rw [toRunS_eq (by (first | omega | (simp only [List.length_map]; omega))) (by (first | omega | (simp only [List.length_map]; omega)))] | rw [eqRunS_refl (by (first | omega | (simp only [List.length_map]; omega))) (by (first | omega | (simp only [List.length_map]; omega)))] | rw [specWrite_eq (by (first | omega | (simp only [List.length_map]; omega))) (by (first | omega | (simp only [List.length_map]; omega)))] | rw [implWrite_eq (by (first | omega | (simp only [List.length_map]; omega))) (by (first | omega | (simp only [List.length_map]; omega)))] | (simp only [Option.bind_some, bne_self_eq_false, if_true, Bool.false_eq_true, if_false])))
    rw [laws_FnExactWriteSchedule.j0]
    (repeat (first | rw [if_pos rfl] | rw [if_neg Bool.false_ne_true] | rw [toRunS_eq (by (first | omega | (simp only [List.length_map]; omega))) (by (first | omega | (simp only [List.length_map]; omega)))] | rw [eqRunS_refl (by (first | omega | (simp only [List.length_map]; omega))) (by (first | omega | (simp only [List.length_map]; omega)))] | rw [specWrite_eq (by (first | omega | (simp only [List.length_map]; omega))) (by (first | omega | (simp only [List.length_map]; omega)))] | rw [implWrite_eq (by (first | omega | (simp only [List.length_map]; omega))) (by (first | omega | (simp only [List.length_map]; omega)))] | (simp only [Option.bind_some, bne_self_eq_false, if_true, Bool.false_eq_true, if_false])))
  · rw [if_pos (show ((1048576 : Int) - (a.length : Int) < 0) by omega), if_pos (by omega)]


end Go.Proofs.YtjbfcdeddnnnmaaDoor.Pure
