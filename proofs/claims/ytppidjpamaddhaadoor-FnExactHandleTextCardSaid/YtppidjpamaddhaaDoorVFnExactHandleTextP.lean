/- The pure statement of FnExactHandleText and what it needs. Conditions: those that each theorem states. -/
import Derived.Test.YtppidjpamaddhaaDoorVFnExactHandleText0
import Derived.RowKit
import Derived.Test.YtppidjpamaddhaaDoorWWords
namespace Go.Proofs.YtppidjpamaddhaaDoor.Pb
open Go.RowKit Go.Proofs.YtppidjpamaddhaaDoorW.PrintWords

theorem w64 {x : Int} (h0 : -9223372036854775808 ≤ x) (h1 : x ≤ 9223372036854775807) : wrap64 x = x := by
  unfold wrap64
  omega


end Go.Proofs.YtppidjpamaddhaaDoor.Pb
namespace Go.Proofs.YtppidjpamaddhaaDoor.M
set_option linter.unusedVariables false
set_option linter.unusedSimpArgs false
open Go.RowKit Go.Proofs.YtppidjpamaddhaaDoorW.PrintWords Go.Proofs.YtppidjpamaddhaaDoor.Pb

theorem told_one {n : Nat} (h : n < 10) (k : Nat) : spec_l1Told.f (k + 2) (n : Int) = some ⟨(Go.Lib.decDigits n).toArray⟩ := by
  simp only [spec_l1Told.f, spec_l1Told.j0]
  rw [if_pos (show (n : Int) > -10 by omega), if_pos (by simp; omega), if_neg (show ¬ (n : Int) < 0 by omega), w64 (by omega) (by omega), Go.Lib.decDigits_one h]
  have e : (48 + (n : Int)) % 256 = 48 + (n : Int) := by omega
  rw [e]
  simp only [strOfNums, List.map_cons, List.map_nil]
  rw [show (48 + (n : Int)).toNat = 48 + n by omega]
theorem told_lt {n : Nat} (h : n < 100) (k : Nat) : spec_l1Told.f (k + 4) (n : Int) = some ⟨(Go.Lib.decDigits n).toArray⟩ := by
  by_cases h1 : n < 10
  · exact told_one h1 (k + 2)
  · have hq : n / 10 < 10 := by omega
    have ht := told_one hq k
    rw [spec_l1Told.f, if_pos (show (n : Int) > -10 by omega), spec_l1Told.j0]
    rw [if_neg (by simp; omega), if_neg (show ¬ Int.tmod (n : Int) 10 < 0 from by rw [Int.tmod_eq_emod_of_nonneg (by omega)]; omega)]
    rw [Int.tdiv_eq_ediv_of_nonneg (by omega), Int.tmod_eq_emod_of_nonneg (by omega), w64 (by omega) (by omega), show ((n : Int) / 10) = ((n / 10 : Nat) : Int) by omega, ht, Option.bind_some, Option.bind_some, w64 (by omega) (by omega)]
    have e : (48 + (n : Int) % 10) % 256 = 48 + (n : Int) % 10 := by omega
    rw [e, Go.Lib.decDigits_one hq, Go.Lib.decDigits_two h1 h]
    have e2 : strOfNums [48 + (n : Int) % 10] = ⟨#[UInt8.ofNat (48 + n % 10)]⟩ := by
      simp only [strOfNums, List.map_cons, List.map_nil]
      rw [show (48 + (n : Int) % 10).toNat = 48 + n % 10 by omega]
    rw [e2, if_pos (by simp [ByteArray.size])]
    congr 1

end Go.Proofs.YtppidjpamaddhaaDoor.M
namespace Go.Proofs.YtppidjpamaddhaaDoor.Pure
set_option linter.unusedVariables false
set_option linter.unusedSimpArgs false
open Go.RowKit Go.Proofs.YtppidjpamaddhaaDoor.M Go.Proofs.YtppidjpamaddhaaDoorW.PrintWords Go.Proofs.YtppidjpamaddhaaDoor.Pb

theorem FnExactHandleText : laws_FnExactHandleText.Pure := by
  intro a0 hw
  refine ⟨9, ?_⟩
  unfold laws_FnExactHandleText.f
  suffices h : ∃ s, spec_HandleText.f 9 a0 = some s ∧ impl_HandleText.f 9 a0 = some s by
    obtain ⟨s, h1, h2⟩ := h
    rw [h1, Option.bind_some, h2, Option.bind_some, if_pos rfl]
  unfold spec_HandleText.f impl_HandleText.f spec_l1In.f impl_in.f
  by_cases h0 : 0 ≤ a0
  · rw [if_pos h0, Option.bind_some, Option.bind_some]
    by_cases h1 : a0 ≤ 191
    · rw [if_pos (decide_eq_true h1), if_pos (decide_eq_true h1)]
      simp only [spec_HandleText.j0, impl_HandleText.j0]
      by_cases h2 : decide (Int.tmod a0 8 > 5) = true
      · rw [if_pos h2, if_pos h2]; exact ⟨_, rfl, rfl⟩
      · rw [if_neg h2, if_neg h2]
        obtain ⟨n, rfl⟩ := Int.eq_ofNat_of_zero_le h0
        rw [Int.tdiv_eq_ediv_of_nonneg (by omega), Int.tmod_eq_emod_of_nonneg (by omega), w64 (by omega) (by omega), show ((n : Int) / 8) = ((n / 8 : Nat) : Int) by omega, show ((n : Int) % 8) = ((n % 8 : Nat) : Int) by omega]
        rw [told_lt (show n / 8 < 100 by omega) 4, told_lt (show n % 8 < 100 by omega) 4]
        have hi : ∀ m : Nat, m < 100 → strconv_Itoa_21.f (m : Int) = some ⟨(Go.Lib.decDigits m).toArray⟩ := fun m hm => by
          unfold strconv_Itoa_21.f
          rw [if_pos (by omega), if_pos (by omega)]
          rfl
        rw [hi _ (show n / 8 < 100 by omega), hi _ (show n % 8 < 100 by omega)]
        have hs : ∀ m : Nat, m < 100 → (⟨(Go.Lib.decDigits m).toArray⟩ : ByteArray).size ≤ 2 := fun m hm => by
          by_cases hm1 : m < 10
          · rw [Go.Lib.decDigits_one hm1]; simp [ByteArray.size]
          · rw [Go.Lib.decDigits_two hm1 hm]; simp [ByteArray.size]
        have s1 := hs _ (show n / 8 < 100 by omega)
        have s2 := hs _ (show n % 8 < 100 by omega)
        simp only [Option.bind_some]
        rw [if_pos (by omega), if_pos (by rw [ByteArray.size_append]; have : (⟨#[46]⟩ : ByteArray).size = 1 := rfl; omega)]
        exact ⟨_, rfl, rfl⟩
    · rw [if_neg (by simpa using h1), if_neg (by simpa using h1)]
      simp only [spec_HandleText.j0, impl_HandleText.j0, if_true]
      exact ⟨_, rfl, rfl⟩
  · rw [if_neg h0, Option.bind_some, Option.bind_some, if_neg Bool.false_ne_true, if_neg Bool.false_ne_true]
    simp only [spec_HandleText.j0, impl_HandleText.j0, if_true]
    exact ⟨_, rfl, rfl⟩

end Go.Proofs.YtppidjpamaddhaaDoor.Pure
