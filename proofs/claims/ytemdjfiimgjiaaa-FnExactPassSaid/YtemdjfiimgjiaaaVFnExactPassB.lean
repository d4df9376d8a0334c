/- What the Go functions that a law reaches compute, as plain Lean functions, and that their calls come to just that; a law's pure statement. Conditions: those that each theorem states. Written by the session's program. -/
import Derived.Test.YtemdjfiimgjiaaaVFnExactPassA0
import Derived.Test.YtemdjfiimgjiaaaProg
import Derived.Below
import Derived.Deep.Draws
import Derived.Deep.AppendLies
import Derived.Maps.AppendAt
import Derived.OwnWalk
import Derived.Laws.BytesArg
import Derived.Laws.MakeOwn
import Derived.Laws.OwnMore
import Derived.Deep.OwnRows
import Derived.Tactics
import Derived.Lib.ConvBytes
import Derived.Laws.Slices
import Derived.WalkKit
import Derived.KernelRfl
import Derived.RowKit3
import Derived.Deep.LoopGhost
import Derived.Deep.QuietTactic
import Derived.BigQuiet
import Derived.WideLaws
import Derived.Deep.DeepCutAuto
import Derived.Deep.CutBlock
import Derived.Deep.RegionHeld3
import Derived.Laws.Rows
import Derived.Lib.AppendStr
import Derived.ArgAppend
import Derived.Laws.IdiomCopy
import Derived.OrdersHeld
import Derived.Laws.BitsLemmas
import Derived.RowKit
import Derived.WalkLawsBesides
namespace Go.Proofs.Ytemdjfiimgjiaaa.S
open Go.RowKit Go.Proofs.YtemdjfiimgjiaaaW.PrintWords Go.Proofs.YtemdjfiimgjiaaaW.PrintLast Go.Proofs.YtemdjfiimgjiaaaW.PrintMore
attribute [local go_sem] max2_int min2_int max_two min_two max_three min_three max_four min_four   -- for this text's walks alone
set_option linter.unusedVariables false
set_option linter.unusedSimpArgs false



def errW : Option Int → Value
 | none => .nilIface
 | some c => .iface 0 (.int .i64 c)
theorem errW_none : errW none = .nilIface := rfl
theorem errW_some (c : Int) : errW (some c) = .iface 0 (.int .i64 c) := rfl

theorem info3 : (Try.prog.info? 3).map (fun i => (i.zero, i.size, i.bytes)) = some (some (.int .i64 0), 1, 8) := by kernel_rfl
theorem info41 : (Try.prog.info? 41).map (fun i => (i.zero, i.size, i.bytes)) = some (some (.agg #[(.int .i64 0), (.int .i64 0)]), 2, 16) := by kernel_rfl
theorem info77 : (Try.prog.info? 77).map (fun i => (i.zero, i.size, i.bytes)) = some (some (.agg #[(.int .i64 0), (.bool false), (.int .i64 0), (.int .i64 0), (.int .i64 0)]), 5, 40) := by kernel_rfl
-- the values' own types
/-! #### struct type 75 -/
structure S75 where
 f0 : Int
 f1 : Int
 f2 : Int
def z75 : S75 := ⟨(0 : Int), (0 : Int), (0 : Int)⟩
def k75 : Kd S75 := Kd.iso (Kd.pair (Kd.int .i64) (Kd.pair (Kd.int .i64) (Kd.int .i64))) (fun x : S75 => (x.f0, x.f1, x.f2))
theorem k75_open {w : World} {x : S75} {cs : List Value} (h : k75.K w x cs) : cs = [.int .i64 x.f0, .int .i64 x.f1, .int .i64 x.f2] := by
 obtain ⟨_, _, rfl, rfl, ⟨_, _, rfl, rfl, rfl⟩⟩ := h
 exact rfl
theorem k75_openM {w : World} {base : Nat} {ok : Nat → Prop} {x : S75} {cs : List Value} (h : k75.M w base ok x cs) : cs = [.int .i64 x.f0, .int .i64 x.f1, .int .i64 x.f2] := by
 obtain ⟨_, _, rfl, rfl, ⟨_, _, rfl, rfl, rfl⟩⟩ := h
 exact rfl
theorem k75_mkM (w : World) (base : Nat) (ok : Nat → Prop) (x : S75)  : k75.M w base ok x [.int .i64 x.f0, .int .i64 x.f1, .int .i64 x.f2] := ⟨[.int .i64 x.f0], [.int .i64 x.f1, .int .i64 x.f2], rfl, rfl, ⟨[.int .i64 x.f1], [.int .i64 x.f2], rfl, rfl, rfl⟩⟩
/-! #### struct type 77 -/
structure S77 where
 f0 : Int
 f1 : Bool
 f2 : S75
def z77 : S77 := ⟨(0 : Int), false, z75⟩
def k77 : Kd S77 := Kd.iso (Kd.pair (Kd.int .i64) (Kd.pair Kd.bool k75)) (fun x : S77 => (x.f0, x.f1, x.f2))
theorem k77_open {w : World} {x : S77} {cs : List Value} (h : k77.K w x cs) : cs = [.int .i64 x.f0, .bool x.f1, .int .i64 x.f2.f0, .int .i64 x.f2.f1, .int .i64 x.f2.f2] := by
 obtain ⟨_, _, rfl, rfl, ⟨_, _, rfl, rfl, s2⟩⟩ := h
 obtain rfl := k75_open s2
 exact rfl
theorem k77_openM {w : World} {base : Nat} {ok : Nat → Prop} {x : S77} {cs : List Value} (h : k77.M w base ok x cs) : cs = [.int .i64 x.f0, .bool x.f1, .int .i64 x.f2.f0, .int .i64 x.f2.f1, .int .i64 x.f2.f2] := by
 obtain ⟨_, _, rfl, rfl, ⟨_, _, rfl, rfl, s2⟩⟩ := h
 obtain rfl := k75_openM s2
 exact rfl
theorem k77_mkM (w : World) (base : Nat) (ok : Nat → Prop) (x : S77)  : k77.M w base ok x [.int .i64 x.f0, .bool x.f1, .int .i64 x.f2.f0, .int .i64 x.f2.f1, .int .i64 x.f2.f2] := ⟨[.int .i64 x.f0], [.bool x.f1, .int .i64 x.f2.f0, .int .i64 x.f2.f1, .int .i64 x.f2.f2], rfl, rfl, ⟨[.bool x.f1], [.int .i64 x.f2.f0, .int .i64 x.f2.f1, .int .i64 x.f2.f2], rfl, rfl, (k75_mkM w base ok x.f2 )⟩⟩
def rd_T77 (xs : List S77) (i : Int) : S77 := xs.getD i.toNat z77
theorem at_T77 {w : World} {A : Option Addr} {n : Nat} {xs : List S77} (h : Kd.C k77 w A n xs) (i : Int) (h0 : 0 ≤ i) (h1 : i < n) : ∃ ad , A = some ad ∧ w.cell? (ad.add (i.toNat * 5)) = some (.int .i64 (rd_T77 xs i).f0) ∧ w.cell? ⟨(ad.add (i.toNat * 5)).block, (ad.add (i.toNat * 5)).off + 1, none⟩ = some (.bool (rd_T77 xs i).f1) ∧ w.cell? ⟨(ad.add (i.toNat * 5)).block, (ad.add (i.toNat * 5)).off + 2, none⟩ = some (.int .i64 (rd_T77 xs i).f2.f0) ∧ w.cell? ⟨(ad.add (i.toNat * 5)).block, (ad.add (i.toNat * 5)).off + 3, none⟩ = some (.int .i64 (rd_T77 xs i).f2.f1) ∧ w.cell? ⟨(ad.add (i.toNat * 5)).block, (ad.add (i.toNat * 5)).off + 4, none⟩ = some (.int .i64 (rd_T77 xs i).f2.f2) := by
 obtain ⟨ad, c, e, _, hK, hc0⟩ := Kd.C_get h z77 i h0 h1
 have hc : ∀ j u, c[j]? = some u → w.cell? (ad.add (i.toNat * 5 + j)) = some u := hc0
 obtain rfl := k77_open hK
 exact ⟨ad, e, hc 0 _ rfl, by rw [← add_field _ _ 1 (by omega)]; exact hc 1 _ rfl, by rw [← add_field _ _ 2 (by omega)]; exact hc 2 _ rfl, by rw [← add_field _ _ 3 (by omega)]; exact hc 3 _ rfl, by rw [← add_field _ _ 4 (by omega)]; exact hc 4 _ rfl⟩

/-! #### struct type 41 -/
structure S41 where
 f0 : Int
 f1 : Int
def z41 : S41 := ⟨(0 : Int), (0 : Int)⟩
def k41 : Kd S41 := Kd.iso (Kd.pair (Kd.int .i64) (Kd.int .i64)) (fun x : S41 => (x.f0, x.f1))
theorem k41_open {w : World} {x : S41} {cs : List Value} (h : k41.K w x cs) : cs = [.int .i64 x.f0, .int .i64 x.f1] := by
 obtain ⟨_, _, rfl, rfl, rfl⟩ := h
 exact rfl
theorem k41_openM {w : World} {base : Nat} {ok : Nat → Prop} {x : S41} {cs : List Value} (h : k41.M w base ok x cs) : cs = [.int .i64 x.f0, .int .i64 x.f1] := by
 obtain ⟨_, _, rfl, rfl, rfl⟩ := h
 exact rfl
theorem k41_mkM (w : World) (base : Nat) (ok : Nat → Prop) (x : S41)  : k41.M w base ok x [.int .i64 x.f0, .int .i64 x.f1] := ⟨[.int .i64 x.f0], [.int .i64 x.f1], rfl, rfl, rfl⟩
def rd_T41 (xs : List S41) (i : Int) : S41 := xs.getD i.toNat z41
theorem at_T41 {w : World} {A : Option Addr} {n : Nat} {xs : List S41} (h : Kd.C k41 w A n xs) (i : Int) (h0 : 0 ≤ i) (h1 : i < n) : ∃ ad , A = some ad ∧ w.cell? (ad.add (i.toNat * 2)) = some (.int .i64 (rd_T41 xs i).f0) ∧ w.cell? ⟨(ad.add (i.toNat * 2)).block, (ad.add (i.toNat * 2)).off + 1, none⟩ = some (.int .i64 (rd_T41 xs i).f1) := by
 obtain ⟨ad, c, e, _, hK, hc0⟩ := Kd.C_get h z41 i h0 h1
 have hc : ∀ j u, c[j]? = some u → w.cell? (ad.add (i.toNat * 2 + j)) = some u := hc0
 obtain rfl := k41_open hK
 exact ⟨ad, e, hc 0 _ rfl, by rw [← add_field _ _ 1 (by omega)]; exact hc 1 _ rfl⟩

/-! #### struct type 114 -/
structure S114 where
 f0 : Int
 f1 : Bool
 f2 : S75
def z114 : S114 := ⟨(0 : Int), false, z75⟩
def k114 : Kd S114 := Kd.iso (Kd.pair (Kd.int .i64) (Kd.pair Kd.bool k75)) (fun x : S114 => (x.f0, x.f1, x.f2))
theorem k114_open {w : World} {x : S114} {cs : List Value} (h : k114.K w x cs) : cs = [.int .i64 x.f0, .bool x.f1, .int .i64 x.f2.f0, .int .i64 x.f2.f1, .int .i64 x.f2.f2] := by
 obtain ⟨_, _, rfl, rfl, ⟨_, _, rfl, rfl, s2⟩⟩ := h
 obtain rfl := k75_open s2
 exact rfl
def rd_T114 (xs : List S114) (i : Int) : S114 := xs.getD i.toNat z114
theorem at_T114 {w : World} {A : Option Addr} {n : Nat} {xs : List S114} (h : Kd.C k114 w A n xs) (i : Int) (h0 : 0 ≤ i) (h1 : i < n) : ∃ ad , A = some ad ∧ w.cell? (ad.add (i.toNat * 5)) = some (.int .i64 (rd_T114 xs i).f0) ∧ w.cell? ⟨(ad.add (i.toNat * 5)).block, (ad.add (i.toNat * 5)).off + 1, none⟩ = some (.bool (rd_T114 xs i).f1) ∧ w.cell? ⟨(ad.add (i.toNat * 5)).block, (ad.add (i.toNat * 5)).off + 2, none⟩ = some (.int .i64 (rd_T114 xs i).f2.f0) ∧ w.cell? ⟨(ad.add (i.toNat * 5)).block, (ad.add (i.toNat * 5)).off + 3, none⟩ = some (.int .i64 (rd_T114 xs i).f2.f1) ∧ w.cell? ⟨(ad.add (i.toNat * 5)).block, (ad.add (i.toNat * 5)).off + 4, none⟩ = some (.int .i64 (rd_T114 xs i).f2.f2) := by
 obtain ⟨ad, c, e, _, hK, hc0⟩ := Kd.C_get h z114 i h0 h1
 have hc : ∀ j u, c[j]? = some u → w.cell? (ad.add (i.toNat * 5 + j)) = some u := hc0
 obtain rfl := k114_open hK
 exact ⟨ad, e, hc 0 _ rfl, by rw [← add_field _ _ 1 (by omega)]; exact hc 1 _ rfl, by rw [← add_field _ _ 2 (by omega)]; exact hc 2 _ rfl, by rw [← add_field _ _ 3 (by omega)]; exact hc 3 _ rfl, by rw [← add_field _ _ 4 (by omega)]; exact hc 4 _ rfl⟩

/-! #### struct type 109 -/
structure S109 where
 f0 : Int
 f1 : Int
def z109 : S109 := ⟨(0 : Int), (0 : Int)⟩
def k109 : Kd S109 := Kd.iso (Kd.pair (Kd.int .i64) (Kd.int .i64)) (fun x : S109 => (x.f0, x.f1))
theorem k109_open {w : World} {x : S109} {cs : List Value} (h : k109.K w x cs) : cs = [.int .i64 x.f0, .int .i64 x.f1] := by
 obtain ⟨_, _, rfl, rfl, rfl⟩ := h
 exact rfl
def rd_T109 (xs : List S109) (i : Int) : S109 := xs.getD i.toNat z109
theorem at_T109 {w : World} {A : Option Addr} {n : Nat} {xs : List S109} (h : Kd.C k109 w A n xs) (i : Int) (h0 : 0 ≤ i) (h1 : i < n) : ∃ ad , A = some ad ∧ w.cell? (ad.add (i.toNat * 2)) = some (.int .i64 (rd_T109 xs i).f0) ∧ w.cell? ⟨(ad.add (i.toNat * 2)).block, (ad.add (i.toNat * 2)).off + 1, none⟩ = some (.int .i64 (rd_T109 xs i).f1) := by
 obtain ⟨ad, c, e, _, hK, hc0⟩ := Kd.C_get h z109 i h0 h1
 have hc : ∀ j u, c[j]? = some u → w.cell? (ad.add (i.toNat * 2 + j)) = some u := hc0
 obtain rfl := k109_open hK
 exact ⟨ad, e, hc 0 _ rfl, by rw [← add_field _ _ 1 (by omega)]; exact hc 1 _ rfl⟩

/-! #### struct type 53 -/
structure S53 where
 f0 : (List S114)
 f1 : (List Int)
def k53 : Kd S53 := Kd.iso (Kd.pair (Kd.slice 114 k114) (Kd.slice 3 (Kd.int .i64))) (fun x : S53 => (x.f0, x.f1))
theorem k53_open {w : World} {x : S53} {cs : List Value} (h : k53.K w x cs) : ∃ A0 c0 A1 c1, cs = [.slice A0 x.f0.length c0, .slice A1 x.f1.length c1] ∧ x.f0.length ≤ c0 ∧ k114.C w A0 x.f0.length x.f0 ∧ x.f1.length ≤ c1 ∧ (Kd.int .i64).C w A1 x.f1.length x.f1 := by
 obtain ⟨_, _, rfl, ⟨A0, c0, rfl, l0, g0⟩, ⟨A1, c1, rfl, l1, g1⟩⟩ := h
 exact ⟨A0, c0, A1, c1, rfl, l0, g0, l1, g1⟩
/-! #### struct type 56 -/
structure S56 where
 f0 : S53
 f1 : (List Int)
 f2 : (List S109)
 f3 : Int
def k56 : Kd S56 := Kd.iso (Kd.pair k53 (Kd.pair (Kd.slice 3 (Kd.int .i64)) (Kd.pair (Kd.slice 109 k109) (Kd.int .i64)))) (fun x : S56 => (x.f0, x.f1, x.f2, x.f3))
theorem k56_open {w : World} {x : S56} {cs : List Value} (h : k56.K w x cs) : ∃ A0 c0 A1 c1 A2 c2 A3 c3, cs = [.slice A0 x.f0.f0.length c0, .slice A1 x.f0.f1.length c1, .slice A2 x.f1.length c2, .slice A3 x.f2.length c3, .int .i64 x.f3] ∧ x.f0.f0.length ≤ c0 ∧ k114.C w A0 x.f0.f0.length x.f0.f0 ∧ x.f0.f1.length ≤ c1 ∧ (Kd.int .i64).C w A1 x.f0.f1.length x.f0.f1 ∧ x.f1.length ≤ c2 ∧ (Kd.int .i64).C w A2 x.f1.length x.f1 ∧ x.f2.length ≤ c3 ∧ k109.C w A3 x.f2.length x.f2 := by
 obtain ⟨_, _, rfl, s0, ⟨_, _, rfl, ⟨A2, c2, rfl, l2, g2⟩, ⟨_, _, rfl, ⟨A3, c3, rfl, l3, g3⟩, rfl⟩⟩⟩ := h
 obtain ⟨A0, c0, A1, c1, rfl, l0, g0, l1, g1⟩ := k53_open s0
 exact ⟨A0, c0, A1, c1, A2, c2, A3, c3, rfl, l0, g0, l1, g1, l2, g2, l3, g3⟩
def wf75 (x : S75) : Prop := ((Lit.int .i64 x.f0).wf = true) ∧ ((Lit.int .i64 x.f1).wf = true) ∧ ((Lit.int .i64 x.f2).wf = true)
set_option maxRecDepth 100000 in
theorem opn_s75 : Go.Proofs.Ytemdjfiimgjiaaa.Opn.Opn Try.prog 75 k75 wf75 := by
 intro H enc w fuel cs x h
 obtain ⟨xs, n, _, _, hl, hlen, hf⟩ := DataW.trod_array Try.underlying75 h
 have hT : Try.prog.cellsOf 75 = 3 := by kernel_rfl
 rw [hT] at hl
 have e0 : Try.prog.cellsOf 3 = 1 := by kernel_rfl
 have q0 : DataW.trod enc Try.prog w 0 (fun _ => true) true n 3 ((cs.drop (0 * Try.prog.cellsOf 3)).take (Try.prog.cellsOf 3)) = xs[0]? := hf 0 (by decide)
 rw [e0, List.getElem?_eq_getElem (by rw [hlen]; show (0 : Nat) < 3; decide)] at q0
 obtain ⟨a0, k0_, p0⟩ := (Go.Proofs.Ytemdjfiimgjiaaa.Opn.opn_int Try.underlying3) _ _ _ _ _ _ q0
 have g0 : Kd.K (Kd.int .i64) w a0 ((cs.drop 0).take 1) := k0_
 have e1 : Try.prog.cellsOf 3 = 1 := by kernel_rfl
 have q1 : DataW.trod enc Try.prog w 0 (fun _ => true) true n 3 ((cs.drop (1 * Try.prog.cellsOf 3)).take (Try.prog.cellsOf 3)) = xs[1]? := hf 1 (by decide)
 rw [e1, List.getElem?_eq_getElem (by rw [hlen]; show (1 : Nat) < 3; decide)] at q1
 obtain ⟨a1, k1_, p1⟩ := (Go.Proofs.Ytemdjfiimgjiaaa.Opn.opn_int Try.underlying3) _ _ _ _ _ _ q1
 have g1 : Kd.K (Kd.int .i64) w a1 ((cs.drop 1).take 1) := k1_
 have e2 : Try.prog.cellsOf 3 = 1 := by kernel_rfl
 have q2 : DataW.trod enc Try.prog w 0 (fun _ => true) true n 3 ((cs.drop (2 * Try.prog.cellsOf 3)).take (Try.prog.cellsOf 3)) = xs[2]? := hf 2 (by decide)
 rw [e2, List.getElem?_eq_getElem (by rw [hlen]; show (2 : Nat) < 3; decide)] at q2
 obtain ⟨a2, k2_, p2⟩ := (Go.Proofs.Ytemdjfiimgjiaaa.Opn.opn_int Try.underlying3) _ _ _ _ _ _ q2
 have g2 : Kd.K (Kd.int .i64) w a2 ((cs.drop 2).take 1) := k2_
 exact ⟨⟨a0, a1, a2⟩, (show Kd.K k75 w _ (cs.drop 0) from Go.Proofs.Ytemdjfiimgjiaaa.Opn.pair_of 1 g0 (by rw [List.drop_drop]; exact Go.Proofs.Ytemdjfiimgjiaaa.Opn.pair_of 1 g1 (by rw [List.drop_drop]; exact Go.Proofs.Ytemdjfiimgjiaaa.Opn.last_of 1 (by simp only [List.length_drop]; omega) g2))), p0, p1, p2⟩
def wf114 (x : S114) : Prop := ((Lit.int .i64 x.f0).wf = true) ∧ (True) ∧ (wf75 x.f2)
set_option maxRecDepth 100000 in
theorem opn_s114 : Go.Proofs.Ytemdjfiimgjiaaa.Opn.Opn Try.prog 114 k114 wf114 := by
 intro H enc w fuel cs x h
 obtain ⟨xs, n, _, _, hl, hlen, hf⟩ := DataW.trod_struct Try.underlying114 h
 have hT : Try.prog.cellsOf 114 = 5 := by kernel_rfl
 rw [hT] at hl
 have e0 : Try.prog.cellsOf 3 = 1 := by kernel_rfl
 have q0 : DataW.trod enc Try.prog w 0 (fun _ => true) true n 3 ((cs.drop 0).take (Try.prog.cellsOf 3)) = xs[0]? := hf 0 _ rfl
 rw [e0, List.getElem?_eq_getElem (by rw [hlen]; show (0 : Nat) < 3; decide)] at q0
 obtain ⟨a0, k0_, p0⟩ := (Go.Proofs.Ytemdjfiimgjiaaa.Opn.opn_int Try.underlying3) _ _ _ _ _ _ q0
 have g0 : Kd.K (Kd.int .i64) w a0 ((cs.drop 0).take 1) := k0_
 have e1 : Try.prog.cellsOf 4 = 1 := by kernel_rfl
 have q1 : DataW.trod enc Try.prog w 0 (fun _ => true) true n 4 ((cs.drop 1).take (Try.prog.cellsOf 4)) = xs[1]? := hf 1 _ rfl
 rw [e1, List.getElem?_eq_getElem (by rw [hlen]; show (1 : Nat) < 3; decide)] at q1
 obtain ⟨a1, k1_, p1⟩ := (Go.Proofs.Ytemdjfiimgjiaaa.Opn.opn_bool Try.underlying4) _ _ _ _ _ _ q1
 have g1 : Kd.K Kd.bool w a1 ((cs.drop 1).take 1) := k1_
 have e2 : Try.prog.cellsOf 75 = 3 := by kernel_rfl
 have q2 : DataW.trod enc Try.prog w 0 (fun _ => true) true n 75 ((cs.drop 2).take (Try.prog.cellsOf 75)) = xs[2]? := hf 2 _ rfl
 rw [e2, List.getElem?_eq_getElem (by rw [hlen]; show (2 : Nat) < 3; decide)] at q2
 obtain ⟨a2, k2_, p2⟩ := opn_s75 _ _ _ _ _ _ q2
 have g2 : Kd.K k75 w a2 ((cs.drop 2).take 3) := k2_
 exact ⟨⟨a0, a1, a2⟩, (show Kd.K k114 w _ (cs.drop 0) from Go.Proofs.Ytemdjfiimgjiaaa.Opn.pair_of 1 g0 (by rw [List.drop_drop]; exact Go.Proofs.Ytemdjfiimgjiaaa.Opn.pair_of 1 g1 (by rw [List.drop_drop]; exact Go.Proofs.Ytemdjfiimgjiaaa.Opn.last_of 3 (by simp only [List.length_drop]; omega) g2))), p0, p1, p2⟩
def wf53 (x : S53) : Prop := ((x.f0.length ≤ maxLen ∧ ∀ z0 ∈ x.f0, wf114 z0)) ∧ ((x.f1.length ≤ maxLen ∧ ∀ z0 ∈ x.f1, (Lit.int .i64 z0).wf = true))
set_option maxRecDepth 100000 in
theorem opn_s53 : Go.Proofs.Ytemdjfiimgjiaaa.Opn.Opn Try.prog 53 k53 wf53 := by
 intro H enc w fuel cs x h
 obtain ⟨xs, n, _, _, hl, hlen, hf⟩ := DataW.trod_struct Try.underlying53 h
 have hT : Try.prog.cellsOf 53 = 2 := by kernel_rfl
 rw [hT] at hl
 have e0 : Try.prog.cellsOf 51 = 1 := by kernel_rfl
 have q0 : DataW.trod enc Try.prog w 0 (fun _ => true) true n 51 ((cs.drop 0).take (Try.prog.cellsOf 51)) = xs[0]? := hf 0 _ rfl
 rw [e0, List.getElem?_eq_getElem (by rw [hlen]; show (0 : Nat) < 2; decide)] at q0
 obtain ⟨a0, k0_, p0⟩ := (Go.Proofs.Ytemdjfiimgjiaaa.Opn.opn_slice Try.underlying51 (by kernel_rfl) opn_s114) _ _ _ _ _ _ q0
 have g0 : Kd.K (Kd.slice 114 k114) w a0 ((cs.drop 0).take 1) := k0_
 have e1 : Try.prog.cellsOf 25 = 1 := by kernel_rfl
 have q1 : DataW.trod enc Try.prog w 0 (fun _ => true) true n 25 ((cs.drop 1).take (Try.prog.cellsOf 25)) = xs[1]? := hf 1 _ rfl
 rw [e1, List.getElem?_eq_getElem (by rw [hlen]; show (1 : Nat) < 2; decide)] at q1
 obtain ⟨a1, k1_, p1⟩ := (Go.Proofs.Ytemdjfiimgjiaaa.Opn.opn_slice Try.underlying25 (by kernel_rfl) (Go.Proofs.Ytemdjfiimgjiaaa.Opn.opn_int Try.underlying3)) _ _ _ _ _ _ q1
 have g1 : Kd.K (Kd.slice 3 (Kd.int .i64)) w a1 ((cs.drop 1).take 1) := k1_
 exact ⟨⟨a0, a1⟩, (show Kd.K k53 w _ (cs.drop 0) from Go.Proofs.Ytemdjfiimgjiaaa.Opn.pair_of 1 g0 (by rw [List.drop_drop]; exact Go.Proofs.Ytemdjfiimgjiaaa.Opn.last_of 1 (by simp only [List.length_drop]; omega) g1)), p0, p1⟩
def wf109 (x : S109) : Prop := ((Lit.int .i64 x.f0).wf = true) ∧ ((Lit.int .i64 x.f1).wf = true)
set_option maxRecDepth 100000 in
theorem opn_s109 : Go.Proofs.Ytemdjfiimgjiaaa.Opn.Opn Try.prog 109 k109 wf109 := by
 intro H enc w fuel cs x h
 obtain ⟨xs, n, _, _, hl, hlen, hf⟩ := DataW.trod_struct Try.underlying109 h
 have hT : Try.prog.cellsOf 109 = 2 := by kernel_rfl
 rw [hT] at hl
 have e0 : Try.prog.cellsOf 3 = 1 := by kernel_rfl
 have q0 : DataW.trod enc Try.prog w 0 (fun _ => true) true n 3 ((cs.drop 0).take (Try.prog.cellsOf 3)) = xs[0]? := hf 0 _ rfl
 rw [e0, List.getElem?_eq_getElem (by rw [hlen]; show (0 : Nat) < 2; decide)] at q0
 obtain ⟨a0, k0_, p0⟩ := (Go.Proofs.Ytemdjfiimgjiaaa.Opn.opn_int Try.underlying3) _ _ _ _ _ _ q0
 have g0 : Kd.K (Kd.int .i64) w a0 ((cs.drop 0).take 1) := k0_
 have e1 : Try.prog.cellsOf 3 = 1 := by kernel_rfl
 have q1 : DataW.trod enc Try.prog w 0 (fun _ => true) true n 3 ((cs.drop 1).take (Try.prog.cellsOf 3)) = xs[1]? := hf 1 _ rfl
 rw [e1, List.getElem?_eq_getElem (by rw [hlen]; show (1 : Nat) < 2; decide)] at q1
 obtain ⟨a1, k1_, p1⟩ := (Go.Proofs.Ytemdjfiimgjiaaa.Opn.opn_int Try.underlying3) _ _ _ _ _ _ q1
 have g1 : Kd.K (Kd.int .i64) w a1 ((cs.drop 1).take 1) := k1_
 exact ⟨⟨a0, a1⟩, (show Kd.K k109 w _ (cs.drop 0) from Go.Proofs.Ytemdjfiimgjiaaa.Opn.pair_of 1 g0 (by rw [List.drop_drop]; exact Go.Proofs.Ytemdjfiimgjiaaa.Opn.last_of 1 (by simp only [List.length_drop]; omega) g1)), p0, p1⟩
def wf56 (x : S56) : Prop := (wf53 x.f0) ∧ ((x.f1.length ≤ maxLen ∧ ∀ z0 ∈ x.f1, (Lit.int .i64 z0).wf = true)) ∧ ((x.f2.length ≤ maxLen ∧ ∀ z0 ∈ x.f2, wf109 z0)) ∧ ((Lit.int .i64 x.f3).wf = true)
set_option maxRecDepth 100000 in
theorem opn_s56 : Go.Proofs.Ytemdjfiimgjiaaa.Opn.Opn Try.prog 56 k56 wf56 := by
 intro H enc w fuel cs x h
 obtain ⟨xs, n, _, _, hl, hlen, hf⟩ := DataW.trod_struct Try.underlying56 h
 have hT : Try.prog.cellsOf 56 = 5 := by kernel_rfl
 rw [hT] at hl
 have e0 : Try.prog.cellsOf 53 = 2 := by kernel_rfl
 have q0 : DataW.trod enc Try.prog w 0 (fun _ => true) true n 53 ((cs.drop 0).take (Try.prog.cellsOf 53)) = xs[0]? := hf 0 _ rfl
 rw [e0, List.getElem?_eq_getElem (by rw [hlen]; show (0 : Nat) < 4; decide)] at q0
 obtain ⟨a0, k0_, p0⟩ := opn_s53 _ _ _ _ _ _ q0
 have g0 : Kd.K k53 w a0 ((cs.drop 0).take 2) := k0_
 have e1 : Try.prog.cellsOf 25 = 1 := by kernel_rfl
 have q1 : DataW.trod enc Try.prog w 0 (fun _ => true) true n 25 ((cs.drop 2).take (Try.prog.cellsOf 25)) = xs[1]? := hf 1 _ rfl
 rw [e1, List.getElem?_eq_getElem (by rw [hlen]; show (1 : Nat) < 4; decide)] at q1
 obtain ⟨a1, k1_, p1⟩ := (Go.Proofs.Ytemdjfiimgjiaaa.Opn.opn_slice Try.underlying25 (by kernel_rfl) (Go.Proofs.Ytemdjfiimgjiaaa.Opn.opn_int Try.underlying3)) _ _ _ _ _ _ q1
 have g1 : Kd.K (Kd.slice 3 (Kd.int .i64)) w a1 ((cs.drop 2).take 1) := k1_
 have e2 : Try.prog.cellsOf 54 = 1 := by kernel_rfl
 have q2 : DataW.trod enc Try.prog w 0 (fun _ => true) true n 54 ((cs.drop 3).take (Try.prog.cellsOf 54)) = xs[2]? := hf 2 _ rfl
 rw [e2, List.getElem?_eq_getElem (by rw [hlen]; show (2 : Nat) < 4; decide)] at q2
 obtain ⟨a2, k2_, p2⟩ := (Go.Proofs.Ytemdjfiimgjiaaa.Opn.opn_slice Try.underlying54 (by kernel_rfl) opn_s109) _ _ _ _ _ _ q2
 have g2 : Kd.K (Kd.slice 109 k109) w a2 ((cs.drop 3).take 1) := k2_
 have e3 : Try.prog.cellsOf 3 = 1 := by kernel_rfl
 have q3 : DataW.trod enc Try.prog w 0 (fun _ => true) true n 3 ((cs.drop 4).take (Try.prog.cellsOf 3)) = xs[3]? := hf 3 _ rfl
 rw [e3, List.getElem?_eq_getElem (by rw [hlen]; show (3 : Nat) < 4; decide)] at q3
 obtain ⟨a3, k3_, p3⟩ := (Go.Proofs.Ytemdjfiimgjiaaa.Opn.opn_int Try.underlying3) _ _ _ _ _ _ q3
 have g3 : Kd.K (Kd.int .i64) w a3 ((cs.drop 4).take 1) := k3_
 exact ⟨⟨a0, a1, a2, a3⟩, (show Kd.K k56 w _ (cs.drop 0) from Go.Proofs.Ytemdjfiimgjiaaa.Opn.pair_of 2 g0 (by rw [List.drop_drop]; exact Go.Proofs.Ytemdjfiimgjiaaa.Opn.pair_of 1 g1 (by rw [List.drop_drop]; exact Go.Proofs.Ytemdjfiimgjiaaa.Opn.pair_of 1 g2 (by rw [List.drop_drop]; exact Go.Proofs.Ytemdjfiimgjiaaa.Opn.last_of 1 (by simp only [List.length_drop]; omega) g3)))), p0, p1, p2, p3⟩
end Go.Proofs.Ytemdjfiimgjiaaa.S
