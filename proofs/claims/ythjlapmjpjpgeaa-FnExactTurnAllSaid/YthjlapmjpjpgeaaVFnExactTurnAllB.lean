/- What the Go functions that a law reaches compute, as plain Lean functions, and that their calls come to just that; a law's pure statement. Conditions: those that each theorem states. Written by the session's program. -/
import Derived.Test.YthjlapmjpjpgeaaVFnExactTurnAllA0
import Derived.Test.YthjlapmjpjpgeaaProg
import Derived.Below
import Derived.Deep.Draws
import Derived.Deep.AppendLies
import Derived.Maps.AppendAt
import Derived.OwnWalk
import Derived.Laws.BytesArg
import Derived.Laws.MakeOwn
import Derived.Laws.OwnMore
import Derived.Deep.OwnRows
import Derived.Tactics
import Derived.Lib.ConvBytes
import Derived.Laws.Slices
import Derived.WalkKit
import Derived.KernelRfl
import Derived.RowKit3
import Derived.Deep.LoopGhost
import Derived.Deep.QuietTactic
import Derived.BigQuiet
import Derived.WideLaws
import Derived.Deep.DeepCutAuto
import Derived.Deep.CutBlock
import Derived.Deep.RegionHeld3
import Derived.Laws.Rows
import Derived.Lib.AppendStr
import Derived.ArgAppend
import Derived.Laws.IdiomCopy
import Derived.OrdersHeld
import Derived.Laws.BitsLemmas
import Derived.RowKit
import Derived.WalkLawsBesides
namespace Go.Proofs.Ythjlapmjpjpgeaa.D
open Go.RowKit Go.Proofs.YthjlapmjpjpgeaaW.PrintWords Go.Proofs.YthjlapmjpjpgeaaW.PrintLast Go.Proofs.YthjlapmjpjpgeaaW.PrintMore
attribute [local go_sem] run_store_float max2_int min2_int max_two min_two max_three min_three max_four min_four   -- for this text's walks alone
set_option linter.unusedVariables false
set_option linter.unusedSimpArgs false



def errW : Option Int → Value
  | none => .nilIface
  | some c => .iface 0 (.int .i64 c)
theorem errW_none : errW none = .nilIface := rfl
theorem errW_some (c : Int) : errW (some c) = .iface 0 (.int .i64 c) := rfl

theorem info3 : (Try.prog.info? 3).map (fun i => (i.zero, i.size, i.bytes)) = some (some (.int .i64 0), 1, 8) := by kernel_rfl
theorem info28 : (Try.prog.info? 28).map (fun i => (i.zero, i.size, i.bytes)) = some (some (.agg #[(.float .f64 0), (.float .f64 0)]), 2, 16) := by kernel_rfl
theorem info56 : (Try.prog.info? 56).map (fun i => (i.zero, i.size, i.bytes)) = some (some (.agg #[(.int .i64 0), (.int .i64 0), (.int .i64 0), (.float .f64 0), (.float .f64 0)]), 5, 40) := by kernel_rfl
-- the values' own types
/-! #### struct type 34 -/
structure S34 where
  f0 : Nat
  f1 : Nat
def z34 : S34 := ⟨(0 : Nat), (0 : Nat)⟩
def k34 : Kd S34 := Kd.iso (Kd.pair (Kd.float .f64) (Kd.float .f64)) (fun x : S34 => (x.f0, x.f1))
theorem k34_open {w : World} {x : S34} {cs : List Value} (h : k34.K w x cs) : cs = [.float .f64 x.f0, .float .f64 x.f1] := by
  obtain ⟨_, _, rfl, rfl, rfl⟩ := h
  exact rfl
theorem k34_openM {w : World} {base : Nat} {ok : Nat → Prop} {x : S34} {cs : List Value} (h : k34.M w base ok x cs) : cs = [.float .f64 x.f0, .float .f64 x.f1] := by
  obtain ⟨_, _, rfl, rfl, rfl⟩ := h
  exact rfl
theorem k34_mk (w : World) (x : S34)  : k34.K w x [.float .f64 x.f0, .float .f64 x.f1] := ⟨[.float .f64 x.f0], [.float .f64 x.f1], rfl, rfl, rfl⟩
theorem k34_mkM (w : World) (base : Nat) (ok : Nat → Prop) (x : S34)  : k34.M w base ok x [.float .f64 x.f0, .float .f64 x.f1] := ⟨[.float .f64 x.f0], [.float .f64 x.f1], rfl, rfl, rfl⟩
def rd_T34 (xs : List S34) (i : Int) : S34 := xs.getD i.toNat z34
theorem at_T34 {w : World} {A : Option Addr} {n : Nat} {xs : List S34} (h : Kd.C k34 w A n xs) (i : Int) (h0 : 0 ≤ i) (h1 : i < n) : ∃ ad , A = some ad ∧ w.cell? (ad.add (i.toNat * 2)) = some (.float .f64 (rd_T34 xs i).f0) ∧ w.cell? ⟨(ad.add (i.toNat * 2)).block, (ad.add (i.toNat * 2)).off + 1, none⟩ = some (.float .f64 (rd_T34 xs i).f1) := by
  obtain ⟨ad, c, e, _, hK, hc0⟩ := Kd.C_get h z34 i h0 h1
  have hc : ∀ j u, c[j]? = some u → w.cell? (ad.add (i.toNat * 2 + j)) = some u := hc0
  obtain rfl := k34_open hK
  exact ⟨ad, e, hc 0 _ rfl, by rw [← add_field _ _ 1 (by omega)]; exact hc 1 _ rfl⟩

/-! #### struct type 28 -/
structure S28 where
  f0 : Nat
  f1 : Nat
def z28 : S28 := ⟨(0 : Nat), (0 : Nat)⟩
def k28 : Kd S28 := Kd.iso (Kd.pair (Kd.float .f64) (Kd.float .f64)) (fun x : S28 => (x.f0, x.f1))
theorem k28_open {w : World} {x : S28} {cs : List Value} (h : k28.K w x cs) : cs = [.float .f64 x.f0, .float .f64 x.f1] := by
  obtain ⟨_, _, rfl, rfl, rfl⟩ := h
  exact rfl
theorem k28_openM {w : World} {base : Nat} {ok : Nat → Prop} {x : S28} {cs : List Value} (h : k28.M w base ok x cs) : cs = [.float .f64 x.f0, .float .f64 x.f1] := by
  obtain ⟨_, _, rfl, rfl, rfl⟩ := h
  exact rfl
theorem k28_mk (w : World) (x : S28)  : k28.K w x [.float .f64 x.f0, .float .f64 x.f1] := ⟨[.float .f64 x.f0], [.float .f64 x.f1], rfl, rfl, rfl⟩
theorem k28_mkM (w : World) (base : Nat) (ok : Nat → Prop) (x : S28)  : k28.M w base ok x [.float .f64 x.f0, .float .f64 x.f1] := ⟨[.float .f64 x.f0], [.float .f64 x.f1], rfl, rfl, rfl⟩
def rd_T28 (xs : List S28) (i : Int) : S28 := xs.getD i.toNat z28
theorem at_T28 {w : World} {A : Option Addr} {n : Nat} {xs : List S28} (h : Kd.C k28 w A n xs) (i : Int) (h0 : 0 ≤ i) (h1 : i < n) : ∃ ad , A = some ad ∧ w.cell? (ad.add (i.toNat * 2)) = some (.float .f64 (rd_T28 xs i).f0) ∧ w.cell? ⟨(ad.add (i.toNat * 2)).block, (ad.add (i.toNat * 2)).off + 1, none⟩ = some (.float .f64 (rd_T28 xs i).f1) := by
  obtain ⟨ad, c, e, _, hK, hc0⟩ := Kd.C_get h z28 i h0 h1
  have hc : ∀ j u, c[j]? = some u → w.cell? (ad.add (i.toNat * 2 + j)) = some u := hc0
  obtain rfl := k28_open hK
  exact ⟨ad, e, hc 0 _ rfl, by rw [← add_field _ _ 1 (by omega)]; exact hc 1 _ rfl⟩

/-! #### struct type 52 -/
structure S52 where
  f0 : Int
  f1 : Int
  f2 : Int
  f3 : S34
def z52 : S52 := ⟨(0 : Int), (0 : Int), (0 : Int), z34⟩
def k52 : Kd S52 := Kd.iso (Kd.pair (Kd.int .i64) (Kd.pair (Kd.int .i64) (Kd.pair (Kd.int .i64) k34))) (fun x : S52 => (x.f0, x.f1, x.f2, x.f3))
theorem k52_open {w : World} {x : S52} {cs : List Value} (h : k52.K w x cs) : cs = [.int .i64 x.f0, .int .i64 x.f1, .int .i64 x.f2, .float .f64 x.f3.f0, .float .f64 x.f3.f1] := by
  obtain ⟨_, _, rfl, rfl, ⟨_, _, rfl, rfl, ⟨_, _, rfl, rfl, s3⟩⟩⟩ := h
  obtain rfl := k34_open s3
  exact rfl
theorem k52_openM {w : World} {base : Nat} {ok : Nat → Prop} {x : S52} {cs : List Value} (h : k52.M w base ok x cs) : cs = [.int .i64 x.f0, .int .i64 x.f1, .int .i64 x.f2, .float .f64 x.f3.f0, .float .f64 x.f3.f1] := by
  obtain ⟨_, _, rfl, rfl, ⟨_, _, rfl, rfl, ⟨_, _, rfl, rfl, s3⟩⟩⟩ := h
  obtain rfl := k34_openM s3
  exact rfl
theorem k52_mk (w : World) (x : S52)  : k52.K w x [.int .i64 x.f0, .int .i64 x.f1, .int .i64 x.f2, .float .f64 x.f3.f0, .float .f64 x.f3.f1] := ⟨[.int .i64 x.f0], [.int .i64 x.f1, .int .i64 x.f2, .float .f64 x.f3.f0, .float .f64 x.f3.f1], rfl, rfl, ⟨[.int .i64 x.f1], [.int .i64 x.f2, .float .f64 x.f3.f0, .float .f64 x.f3.f1], rfl, rfl, ⟨[.int .i64 x.f2], [.float .f64 x.f3.f0, .float .f64 x.f3.f1], rfl, rfl, (k34_mk w x.f3 )⟩⟩⟩
theorem k52_mkM (w : World) (base : Nat) (ok : Nat → Prop) (x : S52)  : k52.M w base ok x [.int .i64 x.f0, .int .i64 x.f1, .int .i64 x.f2, .float .f64 x.f3.f0, .float .f64 x.f3.f1] := ⟨[.int .i64 x.f0], [.int .i64 x.f1, .int .i64 x.f2, .float .f64 x.f3.f0, .float .f64 x.f3.f1], rfl, rfl, ⟨[.int .i64 x.f1], [.int .i64 x.f2, .float .f64 x.f3.f0, .float .f64 x.f3.f1], rfl, rfl, ⟨[.int .i64 x.f2], [.float .f64 x.f3.f0, .float .f64 x.f3.f1], rfl, rfl, (k34_mkM w base ok x.f3 )⟩⟩⟩
def rd_T52 (xs : List S52) (i : Int) : S52 := xs.getD i.toNat z52
theorem at_T52 {w : World} {A : Option Addr} {n : Nat} {xs : List S52} (h : Kd.C k52 w A n xs) (i : Int) (h0 : 0 ≤ i) (h1 : i < n) : ∃ ad , A = some ad ∧ w.cell? (ad.add (i.toNat * 5)) = some (.int .i64 (rd_T52 xs i).f0) ∧ w.cell? ⟨(ad.add (i.toNat * 5)).block, (ad.add (i.toNat * 5)).off + 1, none⟩ = some (.int .i64 (rd_T52 xs i).f1) ∧ w.cell? ⟨(ad.add (i.toNat * 5)).block, (ad.add (i.toNat * 5)).off + 2, none⟩ = some (.int .i64 (rd_T52 xs i).f2) ∧ w.cell? ⟨(ad.add (i.toNat * 5)).block, (ad.add (i.toNat * 5)).off + 3, none⟩ = some (.float .f64 (rd_T52 xs i).f3.f0) ∧ w.cell? ⟨(ad.add (i.toNat * 5)).block, (ad.add (i.toNat * 5)).off + 4, none⟩ = some (.float .f64 (rd_T52 xs i).f3.f1) := by
  obtain ⟨ad, c, e, _, hK, hc0⟩ := Kd.C_get h z52 i h0 h1
  have hc : ∀ j u, c[j]? = some u → w.cell? (ad.add (i.toNat * 5 + j)) = some u := hc0
  obtain rfl := k52_open hK
  exact ⟨ad, e, hc 0 _ rfl, by rw [← add_field _ _ 1 (by omega)]; exact hc 1 _ rfl, by rw [← add_field _ _ 2 (by omega)]; exact hc 2 _ rfl, by rw [← add_field _ _ 3 (by omega)]; exact hc 3 _ rfl, by rw [← add_field _ _ 4 (by omega)]; exact hc 4 _ rfl⟩

/-! #### struct type 56 -/
structure S56 where
  f0 : Int
  f1 : Int
  f2 : Int
  f3 : S28
def z56 : S56 := ⟨(0 : Int), (0 : Int), (0 : Int), z28⟩
def k56 : Kd S56 := Kd.iso (Kd.pair (Kd.int .i64) (Kd.pair (Kd.int .i64) (Kd.pair (Kd.int .i64) k28))) (fun x : S56 => (x.f0, x.f1, x.f2, x.f3))
theorem k56_open {w : World} {x : S56} {cs : List Value} (h : k56.K w x cs) : cs = [.int .i64 x.f0, .int .i64 x.f1, .int .i64 x.f2, .float .f64 x.f3.f0, .float .f64 x.f3.f1] := by
  obtain ⟨_, _, rfl, rfl, ⟨_, _, rfl, rfl, ⟨_, _, rfl, rfl, s3⟩⟩⟩ := h
  obtain rfl := k28_open s3
  exact rfl
theorem k56_openM {w : World} {base : Nat} {ok : Nat → Prop} {x : S56} {cs : List Value} (h : k56.M w base ok x cs) : cs = [.int .i64 x.f0, .int .i64 x.f1, .int .i64 x.f2, .float .f64 x.f3.f0, .float .f64 x.f3.f1] := by
  obtain ⟨_, _, rfl, rfl, ⟨_, _, rfl, rfl, ⟨_, _, rfl, rfl, s3⟩⟩⟩ := h
  obtain rfl := k28_openM s3
  exact rfl
theorem k56_mk (w : World) (x : S56)  : k56.K w x [.int .i64 x.f0, .int .i64 x.f1, .int .i64 x.f2, .float .f64 x.f3.f0, .float .f64 x.f3.f1] := ⟨[.int .i64 x.f0], [.int .i64 x.f1, .int .i64 x.f2, .float .f64 x.f3.f0, .float .f64 x.f3.f1], rfl, rfl, ⟨[.int .i64 x.f1], [.int .i64 x.f2, .float .f64 x.f3.f0, .float .f64 x.f3.f1], rfl, rfl, ⟨[.int .i64 x.f2], [.float .f64 x.f3.f0, .float .f64 x.f3.f1], rfl, rfl, (k28_mk w x.f3 )⟩⟩⟩
theorem k56_mkM (w : World) (base : Nat) (ok : Nat → Prop) (x : S56)  : k56.M w base ok x [.int .i64 x.f0, .int .i64 x.f1, .int .i64 x.f2, .float .f64 x.f3.f0, .float .f64 x.f3.f1] := ⟨[.int .i64 x.f0], [.int .i64 x.f1, .int .i64 x.f2, .float .f64 x.f3.f0, .float .f64 x.f3.f1], rfl, rfl, ⟨[.int .i64 x.f1], [.int .i64 x.f2, .float .f64 x.f3.f0, .float .f64 x.f3.f1], rfl, rfl, ⟨[.int .i64 x.f2], [.float .f64 x.f3.f0, .float .f64 x.f3.f1], rfl, rfl, (k28_mkM w base ok x.f3 )⟩⟩⟩
def rd_T56 (xs : List S56) (i : Int) : S56 := xs.getD i.toNat z56
theorem at_T56 {w : World} {A : Option Addr} {n : Nat} {xs : List S56} (h : Kd.C k56 w A n xs) (i : Int) (h0 : 0 ≤ i) (h1 : i < n) : ∃ ad , A = some ad ∧ w.cell? (ad.add (i.toNat * 5)) = some (.int .i64 (rd_T56 xs i).f0) ∧ w.cell? ⟨(ad.add (i.toNat * 5)).block, (ad.add (i.toNat * 5)).off + 1, none⟩ = some (.int .i64 (rd_T56 xs i).f1) ∧ w.cell? ⟨(ad.add (i.toNat * 5)).block, (ad.add (i.toNat * 5)).off + 2, none⟩ = some (.int .i64 (rd_T56 xs i).f2) ∧ w.cell? ⟨(ad.add (i.toNat * 5)).block, (ad.add (i.toNat * 5)).off + 3, none⟩ = some (.float .f64 (rd_T56 xs i).f3.f0) ∧ w.cell? ⟨(ad.add (i.toNat * 5)).block, (ad.add (i.toNat * 5)).off + 4, none⟩ = some (.float .f64 (rd_T56 xs i).f3.f1) := by
  obtain ⟨ad, c, e, _, hK, hc0⟩ := Kd.C_get h z56 i h0 h1
  have hc : ∀ j u, c[j]? = some u → w.cell? (ad.add (i.toNat * 5 + j)) = some u := hc0
  obtain rfl := k56_open hK
  exact ⟨ad, e, hc 0 _ rfl, by rw [← add_field _ _ 1 (by omega)]; exact hc 1 _ rfl, by rw [← add_field _ _ 2 (by omega)]; exact hc 2 _ rfl, by rw [← add_field _ _ 3 (by omega)]; exact hc 3 _ rfl, by rw [← add_field _ _ 4 (by omega)]; exact hc 4 _ rfl⟩

def wf34 (x : S34) : Prop := ((Lit.float .f64 x.f0).wf = true) ∧ ((Lit.float .f64 x.f1).wf = true)
set_option maxRecDepth 100000 in
theorem opn_s34 : Go.Proofs.Ythjlapmjpjpgeaa.Opn.Opn Try.prog 34 k34 wf34 := by
  intro H enc w fuel cs x h
  obtain ⟨xs, n, _, _, hl, hlen, hf⟩ := DataW.trod_struct Try.underlying34 h
  have hT : Try.prog.cellsOf 34 = 2 := by kernel_rfl
  rw [hT] at hl
  have e0 : Try.prog.cellsOf 26 = 1 := by kernel_rfl
  have q0 : DataW.trod enc Try.prog w 0 (fun _ => true) true n 26 ((cs.drop 0).take (Try.prog.cellsOf 26)) = xs[0]? := hf 0 _ rfl
  rw [e0, List.getElem?_eq_getElem (by rw [hlen]; show (0 : Nat) < 2; decide)] at q0
  obtain ⟨a0, k0_, p0⟩ := (opn_float Try.underlying26) _ _ _ _ _ _ q0
  have g0 : Kd.K (Kd.float .f64) w a0 ((cs.drop 0).take 1) := k0_
  have e1 : Try.prog.cellsOf 26 = 1 := by kernel_rfl
  have q1 : DataW.trod enc Try.prog w 0 (fun _ => true) true n 26 ((cs.drop 1).take (Try.prog.cellsOf 26)) = xs[1]? := hf 1 _ rfl
  rw [e1, List.getElem?_eq_getElem (by rw [hlen]; show (1 : Nat) < 2; decide)] at q1
  obtain ⟨a1, k1_, p1⟩ := (opn_float Try.underlying26) _ _ _ _ _ _ q1
  have g1 : Kd.K (Kd.float .f64) w a1 ((cs.drop 1).take 1) := k1_
  exact ⟨⟨a0, a1⟩, (show Kd.K k34 w _ (cs.drop 0) from Go.Proofs.Ythjlapmjpjpgeaa.Opn.pair_of 1 g0 (by rw [List.drop_drop]; exact Go.Proofs.Ythjlapmjpjpgeaa.Opn.last_of 1 (by simp only [List.length_drop]; omega) g1)), p0, p1⟩
def wf52 (x : S52) : Prop := ((Lit.int .i64 x.f0).wf = true) ∧ ((Lit.int .i64 x.f1).wf = true) ∧ ((Lit.int .i64 x.f2).wf = true) ∧ (wf34 x.f3)
set_option maxRecDepth 100000 in
theorem opn_s52 : Go.Proofs.Ythjlapmjpjpgeaa.Opn.Opn Try.prog 52 k52 wf52 := by
  intro H enc w fuel cs x h
  obtain ⟨xs, n, _, _, hl, hlen, hf⟩ := DataW.trod_struct Try.underlying52 h
  have hT : Try.prog.cellsOf 52 = 5 := by kernel_rfl
  rw [hT] at hl
  have e0 : Try.prog.cellsOf 3 = 1 := by kernel_rfl
  have q0 : DataW.trod enc Try.prog w 0 (fun _ => true) true n 3 ((cs.drop 0).take (Try.prog.cellsOf 3)) = xs[0]? := hf 0 _ rfl
  rw [e0, List.getElem?_eq_getElem (by rw [hlen]; show (0 : Nat) < 4; decide)] at q0
  obtain ⟨a0, k0_, p0⟩ := (Go.Proofs.Ythjlapmjpjpgeaa.Opn.opn_int Try.underlying3) _ _ _ _ _ _ q0
  have g0 : Kd.K (Kd.int .i64) w a0 ((cs.drop 0).take 1) := k0_
  have e1 : Try.prog.cellsOf 3 = 1 := by kernel_rfl
  have q1 : DataW.trod enc Try.prog w 0 (fun _ => true) true n 3 ((cs.drop 1).take (Try.prog.cellsOf 3)) = xs[1]? := hf 1 _ rfl
  rw [e1, List.getElem?_eq_getElem (by rw [hlen]; show (1 : Nat) < 4; decide)] at q1
  obtain ⟨a1, k1_, p1⟩ := (Go.Proofs.Ythjlapmjpjpgeaa.Opn.opn_int Try.underlying3) _ _ _ _ _ _ q1
  have g1 : Kd.K (Kd.int .i64) w a1 ((cs.drop 1).take 1) := k1_
  have e2 : Try.prog.cellsOf 3 = 1 := by kernel_rfl
  have q2 : DataW.trod enc Try.prog w 0 (fun _ => true) true n 3 ((cs.drop 2).take (Try.prog.cellsOf 3)) = xs[2]? := hf 2 _ rfl
  rw [e2, List.getElem?_eq_getElem (by rw [hlen]; show (2 : Nat) < 4; decide)] at q2
  obtain ⟨a2, k2_, p2⟩ := (Go.Proofs.Ythjlapmjpjpgeaa.Opn.opn_int Try.underlying3) _ _ _ _ _ _ q2
  have g2 : Kd.K (Kd.int .i64) w a2 ((cs.drop 2).take 1) := k2_
  have e3 : Try.prog.cellsOf 34 = 2 := by kernel_rfl
  have q3 : DataW.trod enc Try.prog w 0 (fun _ => true) true n 34 ((cs.drop 3).take (Try.prog.cellsOf 34)) = xs[3]? := hf 3 _ rfl
  rw [e3, List.getElem?_eq_getElem (by rw [hlen]; show (3 : Nat) < 4; decide)] at q3
  obtain ⟨a3, k3_, p3⟩ := opn_s34 _ _ _ _ _ _ q3
  have g3 : Kd.K k34 w a3 ((cs.drop 3).take 2) := k3_
  exact ⟨⟨a0, a1, a2, a3⟩, (show Kd.K k52 w _ (cs.drop 0) from Go.Proofs.Ythjlapmjpjpgeaa.Opn.pair_of 1 g0 (by rw [List.drop_drop]; exact Go.Proofs.Ythjlapmjpjpgeaa.Opn.pair_of 1 g1 (by rw [List.drop_drop]; exact Go.Proofs.Ythjlapmjpjpgeaa.Opn.pair_of 1 g2 (by rw [List.drop_drop]; exact Go.Proofs.Ythjlapmjpjpgeaa.Opn.last_of 2 (by simp only [List.length_drop]; omega) g3)))), p0, p1, p2, p3⟩
end Go.Proofs.Ythjlapmjpjpgeaa.D
