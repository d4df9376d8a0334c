/- Floats told by their bits: the kind of such cells, what reads as one, and an operation that is valid. Conditions: those that each theorem states. -/
import Derived.Test.YthjlapmjpjpgeaaWWords
import Derived.Test.YthjlapmjpjpgeaaWFoot
import Derived.Test.YthjlapmjpjpgeaaOpen
import Derived.Laws.FloatArith
namespace Go.Proofs.YthjlapmjpjpgeaaW.PrintWords
open Go.RowKit Go.ChangeShapes Go.WideShapes

def Kd.float (k : FloatKind) : Kd Nat := Kd.scalar (Value.float k) (fun _ => rfl)
theorem Kd.heap_float (k : FloatKind) : Kd.Heap (Kd.float k) := ⟨fun _ h => h⟩
theorem Kd.at_float {w : World} {A : Option Addr} {n : Nat} {k : FloatKind} {xs : List Nat} (h : (Kd.float k).C w A n xs) (i : Int) (h0 : 0 ≤ i) (h1 : i < n) : ∃ ad, A = some ad ∧ w.cell? (ad.add i.toNat) = some (.float k (rdOf (0 : Nat) xs i)) :=
  ReadsOf.at_ (Kd.reads_of_C (enc := Value.float k) (d := (0 : Nat)) (h1 := fun _ => rfl) h) i h0 h1
theorem opn_float {P : Program} {t : TypeId} {k : FloatKind} (ht : P.underlying t = some (.float k)) : Go.Proofs.Ythjlapmjpjpgeaa.Opn.Opn P t (Kd.float k) (fun n => (Lit.float k n).wf = true) := by
  intro H enc w fuel cs x h
  cases fuel with
  | zero => simp [DataW.trod] at h
  | succ n =>
    unfold DataW.trod at h
    rw [ht] at h
    split at h <;> first | (simp at h; done) | skip
    all_goals first | (rename_i h_; simp at h_; obtain ⟨rfl, rfl⟩ := h_; simp at h; exact ⟨_, rfl, h.1.2⟩) | (simp_all; done) | (simp_all; exact ⟨_, rfl, h.1.2⟩)
theorem run_store_float {P : Program} {w : World} {a : Addr} {k : FloatKind} {x : Nat} {m : Mode} : (store a (.float k x) m).run P w = stored P w a (.float k x) m := run_store P w a _ m rfl
def fq (op : BinOp) (k : FloatKind) (x y : Nat) : Nat := (floatBits op k x y).getD 0
theorem fq_run {P : Program} {op : BinOp} {k : FloatKind} {x y : Nat} (h : (floatBits op k x y).isSome = true) (t : TypeId) (w : World) : (binOp op t (.float k x) (.float k y)).run P w = .ok (.float k (fq op k x y)) w := by
  obtain ⟨r, hr⟩ := Option.isSome_iff_exists.1 h
  have e : fq op k x y = r := by unfold fq; rw [hr]; rfl
  rw [e]
  exact run_float_arith w op t k x y r hr

end Go.Proofs.YthjlapmjpjpgeaaW.PrintWords
