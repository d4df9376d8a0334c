/- The pure statement of FnExactMemoryOk. Conditions: none. -/
import Derived.Test.YtbhlmgljflggeaaPInt
import Derived.Test.YtbhlmgljflggeaaM2
namespace Go.Proofs.Ytbhlmgljflggeaa.Pure
open Go.RowKit Go.Proofs.Ytbhlmgljflggeaa.M Go.Proofs.YtbhlmgljflggeaaW.PrintWords

theorem FnExactMemoryOk : laws_FnExactMemoryOk.Pure := by
  intro l _
  obtain ⟨k, hk⟩ : ∃ k : Nat, 4000000 < k := ⟨4000001, by omega⟩
  refine ⟨k, ?_⟩
  unfold laws_FnExactMemoryOk.f
  by_cases h : (l.length : Int) > 1048576
  · rw [if_pos h]
  · have hl : l.length ≤ 4000000 := by omega
    have hk' : l.length < k := by omega
    rw [if_neg h]
    simp only [toIntS_eq hl hk', specMemoryOk_eq hl hk', implMemoryOk_eq hl hk', eqIntS_refl hl hk', Option.bind_some, bne_self_eq_false, Bool.false_eq_true, if_false, if_true]

end Go.Proofs.Ytbhlmgljflggeaa.Pure
