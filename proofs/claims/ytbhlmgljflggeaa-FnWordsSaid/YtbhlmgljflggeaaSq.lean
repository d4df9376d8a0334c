/- Short names, and a variable's cells laid open at once: by these the printed texts of a claim get shorter. Conditions: those that each theorem states. -/
import Derived.Test.YtbhlmgljflggeaaWWords
namespace Go.Proofs.Ytbhlmgljflggeaa.Sq
open Go.RowKit Go.Proofs.YtbhlmgljflggeaaW.PrintWords

theorem cs2_ {w : World} {g : Nat} {t : TypeId} {a b : Value} (h : w.heap[g]? = some (.cells #[a, b] t (0, 0))) : w.cell? ⟨g, 0, none⟩ = some a ∧ w.cell? ⟨g, 1, none⟩ = some b ∧ w.frozen? ⟨g, 0, none⟩ = false ∧ w.frozen? ⟨g, 1, none⟩ = false :=
  ⟨(blk_cell h 0).trans rfl, (blk_cell h 1).trans rfl, blk_frozen h 0, blk_frozen h 1⟩
theorem cs3_ {w : World} {g : Nat} {t : TypeId} {a b c : Value} (h : w.heap[g]? = some (.cells #[a, b, c] t (0, 0))) : w.cell? ⟨g, 0, none⟩ = some a ∧ w.cell? ⟨g, 1, none⟩ = some b ∧ w.cell? ⟨g, 2, none⟩ = some c ∧ w.frozen? ⟨g, 0, none⟩ = false ∧ w.frozen? ⟨g, 1, none⟩ = false ∧ w.frozen? ⟨g, 2, none⟩ = false :=
  ⟨(blk_cell h 0).trans rfl, (blk_cell h 1).trans rfl, (blk_cell h 2).trans rfl, blk_frozen h 0, blk_frozen h 1, blk_frozen h 2⟩
theorem cs4_ {w : World} {g : Nat} {t : TypeId} {a b c d : Value} (h : w.heap[g]? = some (.cells #[a, b, c, d] t (0, 0))) : w.cell? ⟨g, 0, none⟩ = some a ∧ w.cell? ⟨g, 1, none⟩ = some b ∧ w.cell? ⟨g, 2, none⟩ = some c ∧ w.cell? ⟨g, 3, none⟩ = some d ∧ w.frozen? ⟨g, 0, none⟩ = false ∧ w.frozen? ⟨g, 1, none⟩ = false ∧ w.frozen? ⟨g, 2, none⟩ = false ∧ w.frozen? ⟨g, 3, none⟩ = false :=
  ⟨(blk_cell h 0).trans rfl, (blk_cell h 1).trans rfl, (blk_cell h 2).trans rfl, (blk_cell h 3).trans rfl, blk_frozen h 0, blk_frozen h 1, blk_frozen h 2, blk_frozen h 3⟩
theorem cs5_ {w : World} {g : Nat} {t : TypeId} {a b c d e : Value} (h : w.heap[g]? = some (.cells #[a, b, c, d, e] t (0, 0))) : w.cell? ⟨g, 0, none⟩ = some a ∧ w.cell? ⟨g, 1, none⟩ = some b ∧ w.cell? ⟨g, 2, none⟩ = some c ∧ w.cell? ⟨g, 3, none⟩ = some d ∧ w.cell? ⟨g, 4, none⟩ = some e ∧ w.frozen? ⟨g, 0, none⟩ = false ∧ w.frozen? ⟨g, 1, none⟩ = false ∧ w.frozen? ⟨g, 2, none⟩ = false ∧ w.frozen? ⟨g, 3, none⟩ = false ∧ w.frozen? ⟨g, 4, none⟩ = false :=
  ⟨(blk_cell h 0).trans rfl, (blk_cell h 1).trans rfl, (blk_cell h 2).trans rfl, (blk_cell h 3).trans rfl, (blk_cell h 4).trans rfl, blk_frozen h 0, blk_frozen h 1, blk_frozen h 2, blk_frozen h 3, blk_frozen h 4⟩
theorem sx_ {α : Type} (xs : List α) (i : Nat) (a : α) : xs.toArray.setIfInBounds i a = (xs.set i a).toArray := List.setIfInBounds_toArray xs i a
theorem sy_ {α : Type} (x y : α) (l : List α) : (x :: l).set 0 y = y :: l := rfl
theorem sz_ {α : Type} (x y : α) (l : List α) (n : Nat) : (x :: l).set (n + 1) y = x :: l.set n y := rfl
theorem rF5_ {α : Type} {d : Kd α} {e : Nat} {w : World} {base : Nat} {ok : Nat → Prop} {v : Value} {xs : List α} {g : Nat} {a0 a1 a2 a3 a4 : Value} (h : Kd.R d e w base ok v xs) (hne : ∀ k, ok k → k ≠ g) :
    Kd.R d e (((((w.setCell ⟨g, 0, none⟩ a0).setCell ⟨g, 1, none⟩ a1).setCell ⟨g, 2, none⟩ a2).setCell ⟨g, 3, none⟩ a3).setCell ⟨g, 4, none⟩ a4) base ok v xs :=
  Kd.R_far (p := ⟨g, 4, none⟩) (Kd.R_far (p := ⟨g, 3, none⟩) (Kd.R_far (p := ⟨g, 2, none⟩) (Kd.R_far (p := ⟨g, 1, none⟩) (Kd.R_far (p := ⟨g, 0, none⟩) h hne _) hne _) hne _) hne _) hne _
theorem bS_ {w W w1 : World} (h : Below w.heap.size w W) (hb : Below W.heap.size W w1) : w.heap.size ≤ W.heap.size ∧ Below w.heap.size w w1 := ⟨below_size h, below_step h hb⟩
theorem bF_ {w1 W W0 : World} {g : Nat} {o : Obj} (h : W0.heap[g]? = some o) (hb : Below W.heap.size W w1) (e : W.heap[g]? = W0.heap[g]?) : w1.heap[g]? = some o := blk_below (e.trans h) hb
theorem hN_ {W : World} {g : Nat} {r : Option Obj} (h : W.heap[g]? = r) (n : Nat) : (W.drewN n).heap[g]? = r := h
theorem hD_ {W : World} {g : Nat} {r : Option Obj} (h : W.heap[g]? = r) : W.drew.heap[g]? = r := h
theorem hA_ {W : World} {g : Nat} {o : Obj} {r : Option Obj} (h : W.heap[g]? = r) (o' : Obj) (h0 : r = some o) : (W.alloc o').heap[g]? = r := (blk_alloc (h.trans h0) o').trans h0.symm
theorem hF_ {W : World} {g : Nat} {r : Option Obj} (h : W.heap[g]? = r) {p : Addr} (hp : g ≠ p.block) (u : Value) : (W.setCell p u).heap[g]? = r := (Below.heap_setCell W p u g hp).trans h
theorem bE_ {W : World} {g : Nat} {t : TypeId} {cs cs' : Array Value} (h : W.heap[g]? = some (.cells cs t (0, 0))) (e : cs = cs') : W.heap[g]? = some (.cells cs' t (0, 0)) := e ▸ h
theorem aR_ {w1 W : World} (_ : Below W.heap.size W w1) {α : Type} {d : Kd α} {e : Nat} {base : Nat} {ok : Nat → Prop} {v : Value} {xs : List α} (h : d.R e W base ok v xs) : d.R e W base ok v xs := h
theorem aQ_ {w1 W : World} (_ : Below W.heap.size W w1) {α : Type} {d : Kd α} {e : Nat} {base : Nat} {ok : Nat → Prop} {v : Value} {xs : List α} (h : d.Q e W base ok v xs) : d.Q e W base ok v xs := h
theorem bO_ {α β : Type} {o : Option α} {f : α → Option β} {r : β} (h : o.bind f = some r) : ∃ a, Aside0 (o = some a) ∧ f a = some r := by
  obtain ⟨a, h1, h2⟩ := Option.bind_eq_some_iff.mp h
  exact ⟨a, ⟨h1⟩, h2⟩
abbrev T_ : Bool := true
abbrev F_ : Bool := false

end Go.Proofs.Ytbhlmgljflggeaa.Sq
