/- What the Go functions that a law reaches compute, as plain Lean functions, and that their calls come to just that; a law's pure statement. Conditions: those that each theorem states. Written by the session's program. -/
import Derived.Test.YthjlapmjpjpgeaaProg
import Derived.Below
import Derived.Deep.Draws
import Derived.Deep.AppendLies
import Derived.Maps.AppendAt
import Derived.OwnWalk
import Derived.Laws.BytesArg
import Derived.Laws.MakeOwn
import Derived.Laws.OwnMore
import Derived.Deep.OwnRows
import Derived.Tactics
import Derived.Lib.ConvBytes
import Derived.Laws.Slices
import Derived.WalkKit
import Derived.KernelRfl
import Derived.RowKit3
import Derived.Deep.LoopGhost
import Derived.Deep.QuietTactic
import Derived.BigQuiet
import Derived.WideLaws
import Derived.Deep.DeepCutAuto
import Derived.Deep.CutBlock
import Derived.Deep.RegionHeld3
import Derived.Laws.Rows
import Derived.Lib.AppendStr
import Derived.ArgAppend
import Derived.Laws.IdiomCopy
import Derived.OrdersHeld
import Derived.Laws.BitsLemmas
import Derived.RowKit
import Derived.WalkLawsBesides
import Derived.Test.YthjlapmjpjpgeaaOpen
import Derived.Test.YthjlapmjpjpgeaaFl
import Derived.Test.YthjlapmjpjpgeaaWWords
import Derived.Test.YthjlapmjpjpgeaaWLast
import Derived.Test.YthjlapmjpjpgeaaWQPut
import Derived.Test.YthjlapmjpjpgeaaWApart
import Derived.Test.YthjlapmjpjpgeaaWArr
import Derived.Test.YthjlapmjpjpgeaaWZeros
import Derived.Test.YthjlapmjpjpgeaaWFoot
import Derived.Test.YthjlapmjpjpgeaaWKept
import Derived.Test.YthjlapmjpjpgeaaWShare
import Derived.Test.YthjlapmjpjpgeaaWN
import Derived.Test.YthjlapmjpjpgeaaWRepsOne
import Derived.Test.YthjlapmjpjpgeaaWNEv
import Derived.Test.YthjlapmjpjpgeaaWMore
namespace Go.Proofs.Ythjlapmjpjpgeaa.M
open Go.RowKit Go.Proofs.YthjlapmjpjpgeaaW.PrintWords Go.Proofs.YthjlapmjpjpgeaaW.PrintLast Go.Proofs.YthjlapmjpjpgeaaW.PrintMore
attribute [local go_sem] run_store_float max2_int min2_int max_two min_two max_three min_three max_four min_four   -- for this text's walks alone
set_option linter.unusedVariables false
set_option linter.unusedSimpArgs false



def errW : Option Int → Value
  | none => .nilIface
  | some c => .iface 0 (.int .i64 c)
theorem errW_none : errW none = .nilIface := rfl
theorem errW_some (c : Int) : errW (some c) = .iface 0 (.int .i64 c) := rfl

theorem info28 : (Try.prog.info? 28).map (fun i => (i.zero, i.size, i.bytes)) = some (some (.agg #[(.float .f64 0), (.float .f64 0)]), 2, 16) := by kernel_rfl
-- the values' own types
/-! #### struct type 34 -/
structure S34 where
  f0 : Nat
  f1 : Nat
def z34 : S34 := ⟨(0 : Nat), (0 : Nat)⟩
def k34 : Kd S34 := Kd.iso (Kd.pair (Kd.float .f64) (Kd.float .f64)) (fun x : S34 => (x.f0, x.f1))
theorem k34_open {w : World} {x : S34} {cs : List Value} (h : k34.K w x cs) : cs = [.float .f64 x.f0, .float .f64 x.f1] := by
  obtain ⟨_, _, rfl, rfl, rfl⟩ := h
  exact rfl
theorem k34_openM {w : World} {base : Nat} {ok : Nat → Prop} {x : S34} {cs : List Value} (h : k34.M w base ok x cs) : cs = [.float .f64 x.f0, .float .f64 x.f1] := by
  obtain ⟨_, _, rfl, rfl, rfl⟩ := h
  exact rfl
theorem k34_mk (w : World) (x : S34)  : k34.K w x [.float .f64 x.f0, .float .f64 x.f1] := ⟨[.float .f64 x.f0], [.float .f64 x.f1], rfl, rfl, rfl⟩
theorem k34_mkM (w : World) (base : Nat) (ok : Nat → Prop) (x : S34)  : k34.M w base ok x [.float .f64 x.f0, .float .f64 x.f1] := ⟨[.float .f64 x.f0], [.float .f64 x.f1], rfl, rfl, rfl⟩
def rd_T34 (xs : List S34) (i : Int) : S34 := xs.getD i.toNat z34
theorem at_T34 {w : World} {A : Option Addr} {n : Nat} {xs : List S34} (h : Kd.C k34 w A n xs) (i : Int) (h0 : 0 ≤ i) (h1 : i < n) : ∃ ad , A = some ad ∧ w.cell? (ad.add (i.toNat * 2)) = some (.float .f64 (rd_T34 xs i).f0) ∧ w.cell? ⟨(ad.add (i.toNat * 2)).block, (ad.add (i.toNat * 2)).off + 1, none⟩ = some (.float .f64 (rd_T34 xs i).f1) := by
  obtain ⟨ad, c, e, _, hK, hc0⟩ := Kd.C_get h z34 i h0 h1
  have hc : ∀ j u, c[j]? = some u → w.cell? (ad.add (i.toNat * 2 + j)) = some u := hc0
  obtain rfl := k34_open hK
  exact ⟨ad, e, hc 0 _ rfl, by rw [← add_field _ _ 1 (by omega)]; exact hc 1 _ rfl⟩

/-! #### struct type 28 -/
structure S28 where
  f0 : Nat
  f1 : Nat
def z28 : S28 := ⟨(0 : Nat), (0 : Nat)⟩
def k28 : Kd S28 := Kd.iso (Kd.pair (Kd.float .f64) (Kd.float .f64)) (fun x : S28 => (x.f0, x.f1))
theorem k28_open {w : World} {x : S28} {cs : List Value} (h : k28.K w x cs) : cs = [.float .f64 x.f0, .float .f64 x.f1] := by
  obtain ⟨_, _, rfl, rfl, rfl⟩ := h
  exact rfl
theorem k28_openM {w : World} {base : Nat} {ok : Nat → Prop} {x : S28} {cs : List Value} (h : k28.M w base ok x cs) : cs = [.float .f64 x.f0, .float .f64 x.f1] := by
  obtain ⟨_, _, rfl, rfl, rfl⟩ := h
  exact rfl
theorem k28_mk (w : World) (x : S28)  : k28.K w x [.float .f64 x.f0, .float .f64 x.f1] := ⟨[.float .f64 x.f0], [.float .f64 x.f1], rfl, rfl, rfl⟩
theorem k28_mkM (w : World) (base : Nat) (ok : Nat → Prop) (x : S28)  : k28.M w base ok x [.float .f64 x.f0, .float .f64 x.f1] := ⟨[.float .f64 x.f0], [.float .f64 x.f1], rfl, rfl, rfl⟩
def rd_T28 (xs : List S28) (i : Int) : S28 := xs.getD i.toNat z28
theorem at_T28 {w : World} {A : Option Addr} {n : Nat} {xs : List S28} (h : Kd.C k28 w A n xs) (i : Int) (h0 : 0 ≤ i) (h1 : i < n) : ∃ ad , A = some ad ∧ w.cell? (ad.add (i.toNat * 2)) = some (.float .f64 (rd_T28 xs i).f0) ∧ w.cell? ⟨(ad.add (i.toNat * 2)).block, (ad.add (i.toNat * 2)).off + 1, none⟩ = some (.float .f64 (rd_T28 xs i).f1) := by
  obtain ⟨ad, c, e, _, hK, hc0⟩ := Kd.C_get h z28 i h0 h1
  have hc : ∀ j u, c[j]? = some u → w.cell? (ad.add (i.toNat * 2 + j)) = some u := hc0
  obtain rfl := k28_open hK
  exact ⟨ad, e, hc 0 _ rfl, by rw [← add_field _ _ 1 (by omega)]; exact hc 1 _ rfl⟩

def wf34 (x : S34) : Prop := ((Lit.float .f64 x.f0).wf = true) ∧ ((Lit.float .f64 x.f1).wf = true)
set_option maxRecDepth 100000 in
theorem opn_s34 : Go.Proofs.Ythjlapmjpjpgeaa.Opn.Opn Try.prog 34 k34 wf34 := by
  intro H enc w fuel cs x h
  obtain ⟨xs, n, _, _, hl, hlen, hf⟩ := DataW.trod_struct Try.underlying34 h
  have hT : Try.prog.cellsOf 34 = 2 := by kernel_rfl
  rw [hT] at hl
  have e0 : Try.prog.cellsOf 26 = 1 := by kernel_rfl
  have q0 : DataW.trod enc Try.prog w 0 (fun _ => true) true n 26 ((cs.drop 0).take (Try.prog.cellsOf 26)) = xs[0]? := hf 0 _ rfl
  rw [e0, List.getElem?_eq_getElem (by rw [hlen]; show (0 : Nat) < 2; decide)] at q0
  obtain ⟨a0, k0_, p0⟩ := (opn_float Try.underlying26) _ _ _ _ _ _ q0
  have g0 : Kd.K (Kd.float .f64) w a0 ((cs.drop 0).take 1) := k0_
  have e1 : Try.prog.cellsOf 26 = 1 := by kernel_rfl
  have q1 : DataW.trod enc Try.prog w 0 (fun _ => true) true n 26 ((cs.drop 1).take (Try.prog.cellsOf 26)) = xs[1]? := hf 1 _ rfl
  rw [e1, List.getElem?_eq_getElem (by rw [hlen]; show (1 : Nat) < 2; decide)] at q1
  obtain ⟨a1, k1_, p1⟩ := (opn_float Try.underlying26) _ _ _ _ _ _ q1
  have g1 : Kd.K (Kd.float .f64) w a1 ((cs.drop 1).take 1) := k1_
  exact ⟨⟨a0, a1⟩, (show Kd.K k34 w _ (cs.drop 0) from Go.Proofs.Ythjlapmjpjpgeaa.Opn.pair_of 1 g0 (by rw [List.drop_drop]; exact Go.Proofs.Ythjlapmjpjpgeaa.Opn.last_of 1 (by simp only [List.length_drop]; omega) g1)), p0, p1⟩
end Go.Proofs.Ythjlapmjpjpgeaa.M
