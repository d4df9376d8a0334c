/- What the Go functions that the law FnReclaimed reaches compute, as plain Lean functions, and that their calls come to just that. Conditions: those that each theorem states. Written by the session's program. -/
import Derived.Test.YtemdjfiimgjiaaaVFnReclaimedB
import Derived.Test.YtemdjfiimgjiaaaVFnReclaimedPk
namespace Go.Proofs.Ytemdjfiimgjiaaa.R
open Go.Proofs.Ytemdjfiimgjiaaa.Sq
open Go.RowKit Go.Proofs.YtemdjfiimgjiaaaW.PrintWords Go.Proofs.YtemdjfiimgjiaaaW.PrintLast Go.Proofs.YtemdjfiimgjiaaaW.PrintMore
attribute [local go_sem] max2_int min2_int max_two min_two max_three min_three max_four min_four   -- for this text's walks alone
set_option linter.unusedVariables false
set_option linter.unusedSimpArgs false

theorem eqA41 (d : Nat) (w : World) (x0 y0 : Int) (x1 y1 : Int) :
  (Op.equalIn (d + 2) 41 (.agg #[.int .i64 x0, .int .i64 x1]) (.agg #[.int .i64 y0, .int .i64 y1])).run Try.prog w = .ok (x0 == y0 && (x1 == y1)) w := by
 refine eqA_of Try.underlying41 (by kernel_rfl) ?_;refine eqf_cons (by rfl) (by go_simp; rfl) (by go_simp; rfl) (by go_simp) ?_;exact eqf_last (by rfl) (by go_simp; rfl) (by go_simp; rfl) (by go_simp)

end Go.Proofs.Ytemdjfiimgjiaaa.R
namespace Go.Proofs.Ytemdjfiimgjiaaa.R
open Go.Proofs.Ytemdjfiimgjiaaa.Sq
open Go.RowKit Go.Proofs.YtemdjfiimgjiaaaW.PrintWords Go.Proofs.YtemdjfiimgjiaaaW.PrintLast Go.Proofs.YtemdjfiimgjiaaaW.PrintMore
attribute [local go_sem] max2_int min2_int max_two min_two max_three min_three max_four min_four   -- for this text's walks alone
set_option linter.unusedVariables false
set_option linter.unusedSimpArgs false

def laws_big.f (l0 : List Int) : Option (Bool) := some (decide ((l0.length : Int) > 1048576))
set_option maxHeartbeats 8000000 in
set_option maxRecDepth 100000 in
theorem laws_big.calls (A0 : Option Addr) (c0 : Nat) (l0 : List Int) (r : Bool) (w : World) (hr0 : Kd.C (Kd.int .u8) w A0 l0.length l0) (hc0 : l0.length ≤ c0) (h : laws_big.f l0 = some r) :
  Calls Try.prog 13 #[.slice A0 l0.length c0] w fun e w' => e = .returned (.bool r) ∧ Drawn0 w w' := by
 have HR0 := A_ hr0;have HC0 := A_ hc0;clear hr0 hc0;have H : (some (decide ((l0.length : Int) > 1048576))) = some r := h;clear h;obtain rfl := Option.some.inj H
 go_enter Try.func13, Try.ntmps13
 go_wp2
 go_ret
 exact ⟨by first | rfl | (simp; done) | (simp [*]; done), dw⟩

def spec_l1In.f (a0 : Int) (a1 : Int) (a2 : Int) : Option (Bool) := if a0 ≥ a1 then (some (decide (a0 ≤ a2))) else (some false)
set_option maxHeartbeats 8000000 in
set_option maxRecDepth 100000 in
theorem spec_l1In.calls (a0 : Int) (a1 : Int) (a2 : Int) (r : Bool) (w : World) (h : spec_l1In.f a0 a1 a2 = some r) :
  Calls Try.prog 55 #[.int .i64 a0, .int .i64 a1, .int .i64 a2] w fun e w' => e = .returned (.bool r) ∧ Drawn0 w w' := by
 have H : (if a0 ≥ a1 then (some (decide (a0 ≤ a2))) else (some false)) = some r := h;clear h
 by_cases c4 : a0 ≥ a1
 ·rw [if_pos c4] at H
  have c4b0 : decide (a1 ≤ a0) = true := decide_eq_true c4;clear c4;obtain rfl := Option.some.inj H
  go_enter Try.func55, Try.ntmps55
  go_wp2
  go_ret
  exact ⟨by first | rfl | (simp; done) | (simp [*]; done), dw⟩
 ·rw [if_neg c4] at H
  have c4b0 : decide (a1 ≤ a0) = false := decide_eq_false c4;clear c4;obtain rfl := Option.some.inj H
  go_enter Try.func55, Try.ntmps55
  go_wp2
  go_ret
  exact ⟨by first | rfl | (simp; done) | (simp [*]; done), dw⟩

def spec_NewArena.l0 : Nat → Int → Int → List (S77) → List Int → Option ((List (S77)) × List Int × Bool)
 | 0, _, _, _, _ => none
 | k + 1, x0, x5, x103000, x103001 => if x5 < x0 then (if x103000.length < 3518437208883 then (if x103001.length < 17592186044416 then (spec_NewArena.l0 k x0 (wrap64 (x5 + 1)) (x103000 ++ [(⟨0, true, (⟨0, 0, 0⟩ : S75)⟩ : S77)]) (x103001 ++ [x5])) else (none)) else (none)) else (some (x103000, x103001, true))
def spec_NewArena.f (k : Nat) (a0 : Int) : Option ((List (S77)) × List Int × Bool) := (spec_l1In.f a0 1 24).bind fun t103 => (if t103 = true then (spec_NewArena.l0 k a0 0 ([] : List (S77)) ([] : List Int)) else (some (([] : List (S77)), ([] : List Int), false)))
set_option maxHeartbeats 8000000 in
set_option maxRecDepth 100000 in
theorem spec_NewArena.calls (k : Nat) (a0 : Int) (r1 : List (S77)) (r2 : List Int) (r3 : Bool) (w : World) (h : spec_NewArena.f k a0 = some (r1, r2, r3)) :
  Calls Try.prog 54 #[.int .i64 a0] w fun e w' => ∃ v0_ v1_ : Value, e = .returned (.tuple #[.agg #[v0_, v1_], .bool r3]) ∧ Kd.R k77 77 w' w.heap.size (fun _ => True) v0_ r1 ∧ Kd.R (Kd.int .i64) 3 w' w.heap.size (fun _ => True) v1_ r2 ∧ Below w.heap.size w w' := by
 have hu27 := Try.underlying27;have hu77 := Try.underlying77;have HB := A_ (Below.refl w.heap.size w);have H : ((spec_l1In.f a0 1 24).bind fun t103 => (if t103 = true then (spec_NewArena.l0 k a0 0 ([] : List (S77)) ([] : List Int)) else (some (([] : List (S77)), ([] : List Int), false)))) = some (r1, r2, r3) := h;clear h;replace H := Option.bind_eq_some_iff.mp H;obtain ⟨t103, A20, H⟩ := H;replace H : (if t103 = true then (spec_NewArena.l0 k a0 0 ([] : List (S77)) ([] : List Int)) else (some (([] : List (S77)), ([] : List Int), false))) = some (r1, r2, r3) := H;have A2 := A_ A20;clear A20;have HC3 := A_ H;clear H
 go_enter Try.func54, Try.ntmps54
 go_upto_if 9 with (first | ((with_reducible refine gd_ 2 rfl ?_); refine bx_ 2 #[.slice none 0 0, .slice none 0 0] 27 ?_; intro gb101 hg w4 hbox hb; have BK101 := A_ (hbox); have GW101 := A_ ((szl_ w hg (bw HB.out))); replace HB := A_ (below_step (bw HB.out) hb); have GE101 := GW101; clear hb hbox hg) | ((with_reducible refine gd_ 4 rfl ?_); refine bx_ 4 #[.slice none 0 0, .slice none 0 0] 27 ?_; intro gb102 hg w5 hbox hb; have BK102 := A_ (hbox); have GW102 := A_ ((szl_ w hg (bw1 HB.out GE101.out))); replace HB := A_ (below_step (bw1 HB.out GE101.out) hb); have GE102 := GW102; have NB101_102 := A_ ((nl_ hg (bL BK101.out))); have NB102_101 := A_ ((ng_ hg (bL BK101.out))); replace BK101 := A_ (bB BK101.out hb); clear hb hbox hg; have hnb6 := NB102_101.out; have hnc6 := NB101_102.out; obtain ⟨hcz7_0, hcz7_1, hfz7_0, hfz7_1⟩ := cs2_ BK102.out) | ((with_reducible refine gk_ 55 rfl ?_); refine gL_ (some 8) Try.func55 #[.int .i64 a0, .int .i64 1, .int .i64 24] ?_; (with_reducible refine (spec_l1In.calls a0 1 24 t103 _ A2.out).mono ?_); rintro e w' ⟨rfl, ⟨nd, rfl⟩⟩; refine ⟨_, rfl, ?_⟩))
 (try simp only [Act.put, sx_, sy_, sz_])
 have H := HC3.out;clear HC3
 by_cases c8 : t103 = true
 ·subst c8
  have H1 : (spec_NewArena.l0 k a0 0 ([] : List (S77)) ([] : List Int)) = some (r1, r2, r3) := by rw [if_pos rfl] at H; exact H
  clear H;have H := H1;clear H1;have H' := A_ H;clear H;go_wp2
  go_loopg [5] k (fun kq v5 w' => ∃ (x5_1 : Int) (x103000_1 : List (S77)) (x103001_1 : List Int) (u103000 : Value) (u103001 : Value), v5 = .int .i64 x5_1 ∧ Aside0 (spec_NewArena.l0 kq a0 x5_1 x103000_1 x103001_1 = some (r1, r2, r3)) ∧ Aside0 (kq ≤ k) ∧ Aside0 (Kd.R k77 77 w' w.heap.size (fun _ => True) u103000 x103000_1) ∧ Aside0 (Kd.R (Kd.int .i64) 3 w' w.heap.size (fun _ => True) u103001 x103001_1) ∧ Aside0 (w'.heap[gb101]? = some (.cells #[(.slice none 0 0), (.slice none 0 0)] 27 (0, 0))) ∧ Aside0 (w'.heap[gb102]? = some (.cells #[u103000, u103001] 27 (0, 0))) ∧ Aside0 (Below w.heap.size w w'))
  case atStart => exact ⟨(0), (([] : List (S77))), (([] : List Int)), (.slice none 0 0), (.slice none 0 0), re, H', ⟨Nat.le_refl _⟩, ⟨by first | exact Kd.R_nil _ _ _ _ _ | exact Kd.N_nil _ _ _ _ _ | exact Kd.V_nil _ _ _ _ _ | exact Kd.Q_nil _ _ _ _ _ | exact Kd.S_nil _ _ _ _ _⟩, ⟨by first | exact Kd.R_nil _ _ _ _ _ | exact Kd.N_nil _ _ _ _ _ | exact Kd.V_nil _ _ _ _ _ | exact Kd.Q_nil _ _ _ _ _ | exact Kd.S_nil _ _ _ _ _⟩, ⟨by (with_reducible repeat (first | refine blk_drewN ?_ _ | refine blk_drew ?_ | refine blk_alloc ?_ _)); refine blk_far ?_ NB101_102.out _; refine blk_far ?_ NB101_102.out _; (with_reducible repeat (first | refine blk_drewN ?_ _ | refine blk_drew ?_ | refine blk_alloc ?_ _)); exact BK101.out⟩, ⟨by (with_reducible repeat (first | refine blk_drewN ?_ _ | refine blk_drew ?_ | refine blk_alloc ?_ _)); refine blk_put (cs := #[.slice none 0 0, .slice none 0 0]) ?_ 1 _ rfl; refine blk_put (cs := #[.slice none 0 0, .slice none 0 0]) ?_ 0 _ rfl; (with_reducible repeat (first | refine blk_drewN ?_ _ | refine blk_drew ?_ | refine blk_alloc ?_ _)); exact BK102.out⟩, ⟨bw2 HB.out GE101.out GE102.out⟩⟩
  case round =>
   clear H';(try clear p2); (try clear c5); (try clear c6); (try clear c8); (try clear hcz7_0 hcz7_1); (try clear hfz7_0 hfz7_1)
   obtain ⟨x5_1, x103000_1, x103001_1, u103000, u103001, rfl, HA, HK1, HO_103000, HO_103001, BK101, BK102, HB⟩ := hrel;cases gk with
   | zero => exact absurd HA.out (by simp [spec_NewArena.l0])
   | succ k1 =>
    have H := HA.out;clear HA;simp only [spec_NewArena.l0] at H
    by_cases c9 : x5_1 < a0
    ·rw [if_pos c9] at H
     have c9b0 : decide (x5_1 < a0) = true := decide_eq_true c9;clear c9;(first | rw [c9b0] | (simp only [i64_w, i32_w]; rw [c9b0]) | skip)
     by_cases c10 : x103000_1.length < 3518437208883
     ·rw [if_pos c10] at H
      have LMc10 := A_ c10;clear c10;obtain ⟨y104, hy104⟩ : ∃ y_ : List (S77), y_ = (x103000_1 ++ [(⟨0, true, (⟨0, 0, 0⟩ : S75)⟩ : S77)]) := ⟨_, rfl⟩;replace H : (if x103001_1.length < 17592186044416 then (spec_NewArena.l0 k1 a0 (wrap64 (x5_1 + 1)) y104 (x103001_1 ++ [x5_1])) else (none)) = some (r1, r2, r3) := by first | (rw [hy104]; with_reducible exact H) | (have H2_ := (Option.bind_some _ _).symm.trans H; rw [hy104]; with_reducible exact H2_) | (have H2_ := (Option.bind_some _ _).symm.trans H; with_reducible exact H2_) | with_reducible exact H | (rw [hy104]; exact H) | exact H
      have Ny104 := A_ hy104;clear hy104
      by_cases c11 : x103001_1.length < 17592186044416
      ·rw [if_pos c11] at H
       have LMc11 := A_ c11;clear c11;obtain ⟨y107, hy107⟩ : ∃ y_ : List Int, y_ = (x103001_1 ++ [x5_1]) := ⟨_, rfl⟩;replace H : (spec_NewArena.l0 k1 a0 (wrap64 (x5_1 + 1)) y104 y107) = some (r1, r2, r3) := by first | (rw [hy107]; with_reducible exact H) | (have H2_ := (Option.bind_some _ _).symm.trans H; rw [hy107]; with_reducible exact H2_) | (have H2_ := (Option.bind_some _ _).symm.trans H; with_reducible exact H2_) | with_reducible exact H | (rw [hy107]; exact H) | exact H
       have Ny107 := A_ hy107;clear hy107;have H' := A_ H;clear H;have hnb12 := NB102_101.out;have hnc12 := NB101_102.out;obtain ⟨hcz13_0, hcz13_1, hfz13_0, hfz13_1⟩ := cs2_ BK102.out
       go_wp2_with (first | ((with_reducible refine gate_builtin (b := .append) (xs := #[.tmp 17, .tmp 19]) rfl ?_); at_builtin; refine Kd.R_append k77 (w0 := w) w.heap.size rfl (.tmp 17) (.tmp 19) 24 77 (.agg #[(.int .i64 0), (.bool false), (.int .i64 0), (.int .i64 0), (.int .i64 0)]) 40 rfl Try.underlying24 info77 rfl (by decide) (by omega) u103000 x103000_1 (⟨0, true, (⟨0, 0, 0⟩ : S75)⟩ : S77) [.int .i64 0, .bool true, .int .i64 0, .int .i64 0, .int .i64 0] (fun _ => True) (fun _ => False) rfl rfl ?aP (fun _ hk => hk.elim) ?aF ?aO ?aB ?aS ?aL ?_; (case aP => exact k77_mkM _ _ _ (⟨0, true, (⟨0, 0, 0⟩ : S75)⟩ : S77)); (case aB => exact (bw2 HB.out GE101.out GE102.out)); (case aF => exact (fun _ _ => trivial)); (case aO => exact (rk HO_103000.out)); (case aS => exact (below_size (bw2 HB.out GE101.out GE102.out))); (case aL => have := LMc10.out; omega); intro v105 w14 ho hb hg hat; rw [← Ny104.out] at ho; replace HO_103001 := A_ (Kd.R_over' (rk HO_103001.out) (Kd.R_typed (rk HO_103000.out)) (by decide) hg); replace BK101 := A_ (blk_grown (g := gb101) (o := .cells #[.slice none 0 0, .slice none 0 0] 27 (0, 0)) (bk BK101.out) hg (Kd.R_ne HO_103000.out BK101.out (by decide))); replace BK102 := A_ (blk_grown (g := gb102) (o := .cells #[u103000, u103001] 27 (0, 0)) (bk BK102.out) hg (Kd.R_ne HO_103000.out BK102.out (by decide))); replace HB := A_ (hb); have HO106 := A_ (ho); clear HO_103000; clear ho hb hg hat; obtain ⟨Ao15, co15, eo15⟩ := Kd.R_slice HO106.out; subst eo15; obtain ⟨hcz16_0, hcz16_1, hfz16_0, hfz16_1⟩ := cs2_ BK102.out) | ((with_reducible refine gate_builtin (b := .append) (xs := #[.tmp 23, .tmp 25]) rfl ?_); at_builtin; refine Kd.R_append (Kd.int .i64) (w0 := w) w.heap.size rfl (.tmp 23) (.tmp 25) 25 3 (.int .i64 0) 8 rfl Try.underlying25 info3 rfl (by decide) (by omega) u103001 x103001_1 x5_1 [.int .i64 x5_1] (fun _ => True) (fun _ => False) rfl (by first | (go_simp; done) | (go_simp; rfl)) ?aP (fun _ hk => hk.elim) ?aF ?aO ?aB ?aS ?aL ?_; (case aP => exact rfl); (case aB => exact (bw2 HB.out GE101.out GE102.out)); (case aF => exact (fun _ _ => trivial)); (case aO => exact (by refine pl ?_;exact Kd.R_mono (Kd.R_far (Kd.R_types HO_103001.out BK102.out (by decide)) (fun _ hk => hk.2) _) (fun _ hk => trivial))); (case aS => exact (below_size (bw2 HB.out GE101.out GE102.out))); (case aL => have := LMc11.out; omega); intro v108 w17 ho hb hg hat; rw [← Ny107.out] at ho; replace BK101 := A_ (blk_grown (g := gb101) (o := .cells #[.slice none 0 0, .slice none 0 0] 27 (0, 0)) (bf1 BK101.out NB101_102.out) hg (Kd.R_ne HO_103001.out BK101.out (by decide))); replace HO106 := A_ (Kd.R_over' (by refine pl ?_;exact (Kd.R_mono (Kd.R_far (Kd.R_types HO106.out BK102.out (by decide)) (fun _ hk => hk.2) _) (fun _ h_ => h_.1))) (Kd.R_typed (by refine pl ?_;exact (Kd.R_mono (Kd.R_far (Kd.R_types HO_103001.out BK102.out (by decide)) (fun _ hk => hk.2) _) (fun _ h_ => h_.1)))) (by decide) hg); replace BK102 := A_ (blk_grown (g := gb102) (o := .cells #[.slice Ao15 y104.length co15, u103001] 27 (0, 0)) (bp BK102.out) hg (Kd.R_ne HO_103001.out BK102.out (by decide))); replace HB := A_ (hb); have HO109 := A_ (ho); clear HO_103001; clear ho hb hg hat; obtain ⟨Ao18, co18, eo18⟩ := Kd.R_slice HO109.out; subst eo18; obtain ⟨hcz19_0, hcz19_1, hfz19_0, hfz19_1⟩ := cs2_ BK102.out))
       go_roundg k1
       case measure => have := HK1.out; omega
       case rel => exact ⟨(wrap64 (x5_1 + 1)), (y104), (y107), (.slice Ao15 y104.length co15), (.slice Ao18 y107.length co18), re, H', ⟨by have := HK1.out; omega⟩, ⟨by refine pl ?_;exact Kd.R_mono (Kd.R_far (Kd.R_types HO106.out BK102.out (by decide)) (fun _ hk => hk.2) _) (fun _ hk => trivial)⟩, ⟨by refine pl ?_;exact Kd.R_mono (Kd.R_far (Kd.R_types HO109.out BK102.out (by decide)) (fun _ hk => hk.2) _) (fun _ hk => trivial)⟩, ⟨by (with_reducible repeat (first | refine blk_drewN ?_ _ | refine blk_drew ?_ | refine blk_alloc ?_ _)); refine blk_far ?_ NB101_102.out _; (with_reducible repeat (first | refine blk_drewN ?_ _ | refine blk_drew ?_ | refine blk_alloc ?_ _)); exact BK101.out⟩, ⟨by (with_reducible repeat (first | refine blk_drewN ?_ _ | refine blk_drew ?_ | refine blk_alloc ?_ _)); refine blk_put (cs := #[.slice Ao15 y104.length co15, u103001]) ?_ 1 _ rfl; (with_reducible repeat (first | refine blk_drewN ?_ _ | refine blk_drew ?_ | refine blk_alloc ?_ _)); exact BK102.out⟩, ⟨bw2 HB.out GE101.out GE102.out⟩⟩
      ·rw [if_neg c11] at H
       exact absurd H (by simp)
     ·rw [if_neg c10] at H
      exact absurd H (by simp)
    ·rw [if_neg c9] at H
     have c9b0 : decide (x5_1 < a0) = false := decide_eq_false c9;clear c9;(first | rw [c9b0] | (simp only [i64_w, i32_w]; rw [c9b0]) | skip)
     simp only [Option.some.injEq, Prod.mk.injEq] at H;obtain ⟨rfl, rfl, rfl⟩ := H;have hnb20 := NB102_101.out;have hnc20 := NB101_102.out;obtain ⟨hcz21_0, hcz21_1, hfz21_0, hfz21_1⟩ := cs2_ BK102.out;obtain ⟨Ao22, co22, eo22⟩ := Kd.R_slice HO_103000.out;subst eo22;obtain ⟨hcz23_0, hcz23_1, hfz23_0, hfz23_1⟩ := cs2_ BK101.out;obtain ⟨Ao24, co24, eo24⟩ := Kd.R_slice HO_103001.out;subst eo24;go_wp2
     refine bodyPost_ret (results_ct rfl _ _ gb101 27 #[.slice Ao22 x103000_1.length co22, .slice Ao24 x103001_1.length co24] (0, 0) _ rfl (bp BK101.out) Try.underlying27 rfl (by kernel_rfl)) rfl ?_;exact ⟨_, _, er, by refine pl ?_;exact Kd.R_mono (Kd.R_far (Kd.R_far (Kd.R_types HO_103000.out BK101.out (by decide)) (fun _ hk => hk.2) _) (fun _ hk => hk.2) _) (fun _ hk => trivial), by refine pl ?_;exact Kd.R_mono (Kd.R_far (Kd.R_far (Kd.R_types HO_103001.out BK101.out (by decide)) (fun _ hk => hk.2) _) (fun _ hk => hk.2) _) (fun _ hk => trivial), bw2 HB.out GE101.out GE102.out⟩
 ·replace c8 := Bool.eq_false_iff.mpr c8
  subst c8;have H1 : (some (([] : List (S77)), ([] : List Int), false)) = some (r1, r2, r3) := by rw [if_neg (show ¬ (false = true) by decide)] at H; exact H
  clear H;have H := H1;clear H1;simp only [Option.some.injEq, Prod.mk.injEq] at H;obtain ⟨rfl, rfl, rfl⟩ := H;have hnb25 := NB102_101.out;have hnc25 := NB101_102.out;obtain ⟨hcz26_0, hcz26_1, hfz26_0, hfz26_1⟩ := cs2_ BK102.out;obtain ⟨hcz27_0, hcz27_1, hfz27_0, hfz27_1⟩ := cs2_ BK101.out;go_wp2
  refine bodyPost_ret (results_ct rfl _ _ gb101 27 #[.slice none 0 0, .slice none 0 0] (0, 0) _ rfl (bp1 BK101.out NB101_102.out) Try.underlying27 rfl (by kernel_rfl)) rfl ?_;exact ⟨_, _, er, by first | exact Kd.R_nil _ _ _ _ _ | exact Kd.N_nil _ _ _ _ _ | exact Kd.V_nil _ _ _ _ _ | exact Kd.Q_nil _ _ _ _ _ | exact Kd.S_nil _ _ _ _ _, by first | exact Kd.R_nil _ _ _ _ _ | exact Kd.N_nil _ _ _ _ _ | exact Kd.V_nil _ _ _ _ _ | exact Kd.Q_nil _ _ _ _ _ | exact Kd.S_nil _ _ _ _ _, bw2 HB.out GE101.out GE102.out⟩

mutual
def spec_NewYard.j0 : Nat → Int → Bool → List (S77) → List Int → Option ((List (S77)) × List Int × List Int × (List (S41)) × Int × Bool)
 | 0, _, _, _, _ => none
 | k + 1, x1, x21, x119000, x119001 => if x21 = true then (some (([] : List (S77)), ([] : List Int), ([] : List Int), ([] : List (S41)), 0, false)) else (spec_NewYard.l0 k x1 0 x119000 x119001 ([] : List Int) 0)
def spec_NewYard.l0 : Nat → Int → Int → List (S77) → List Int → List Int → Int → Option ((List (S77)) × List Int × List Int × (List (S41)) × Int × Bool)
 | 0, _, _, _, _, _, _ => none
 | k + 1, x1, x9, x121000, x121001, x121002, x121004 => if x9 < x1 then (if x121002.length < 17592186044416 then (spec_NewYard.l0 k x1 (wrap64 (x9 + 1)) x121000 x121001 (x121002 ++ [(-1)]) x121004) else (none)) else (some (x121000, x121001, x121002, ([] : List (S41)), x121004, true))
end
def spec_NewYard.f (k : Nat) (a0 : Int) (a1 : Int) : Option ((List (S77)) × List Int × List Int × (List (S41)) × Int × Bool) := (spec_NewArena.f k a0).bind fun bt111 => (if bt111.2.2 = true then ((spec_l1In.f a1 1 6).bind fun t119 => (spec_NewYard.j0 k a1 (!t119) bt111.1 bt111.2.1)) else (spec_NewYard.j0 k a1 true bt111.1 bt111.2.1))
set_option maxHeartbeats 8000000 in
set_option maxRecDepth 100000 in
theorem spec_NewYard.calls (k : Nat) (a0 : Int) (a1 : Int) (r1 : List (S77)) (r2 : List Int) (r3 : List Int) (r4 : List (S41)) (r5 : Int) (r6 : Bool) (w : World) (h : spec_NewYard.f k a0 a1 = some (r1, r2, r3, r4, r5, r6)) :
  Calls Try.prog 26 #[.int .i64 a0, .int .i64 a1] w fun e w' => ∃ v0_ v1_ v2_ v3_ : Value, e = .returned (.tuple #[.agg #[v0_, v1_, v2_, v3_, .int .i64 r5], .bool r6]) ∧ Kd.R k77 77 w' w.heap.size (fun _ => True) v0_ r1 ∧ Kd.R (Kd.int .i64) 3 w' w.heap.size (fun k_ => some k_ ≠ (v2_ : Value).ownBlock) v1_ r2 ∧ Kd.R (Kd.int .i64) 3 w' w.heap.size (fun k_ => some k_ ≠ (v1_ : Value).ownBlock) v2_ r3 ∧ Kd.R k41 41 w' w.heap.size (fun _ => True) v3_ r4 ∧ Below w.heap.size w w' := by
 have hu30 := Try.underlying30;have hu27 := Try.underlying27;have HB := A_ (Below.refl w.heap.size w);have H : ((spec_NewArena.f k a0).bind fun bt111 => (if bt111.2.2 = true then ((spec_l1In.f a1 1 6).bind fun t119 => (spec_NewYard.j0 k a1 (!t119) bt111.1 bt111.2.1)) else (spec_NewYard.j0 k a1 true bt111.1 bt111.2.1))) = some (r1, r2, r3, r4, r5, r6) := h;clear h;replace H := Option.bind_eq_some_iff.mp H;obtain ⟨⟨t111, t114, t117⟩, A30, H⟩ := H;replace H : (if t117 = true then ((spec_l1In.f a1 1 6).bind fun t119 => (spec_NewYard.j0 k a1 (!t119) t111 t114)) else (spec_NewYard.j0 k a1 true t111 t114)) = some (r1, r2, r3, r4, r5, r6) := H;have A3 := A_ A30;clear A30;have HC4 := A_ H;clear H
 go_enter Try.func26, Try.ntmps26
 go_upto_region 2 with (first | ((with_reducible refine gd_ 4 rfl ?_); refine bx_ 4 #[.slice none 0 0, .slice none 0 0, .slice none 0 0, .slice none 0 0, .int .i64 0] 30 ?_; intro gb110 hg w5 hbox hb; have BK110 := A_ (hbox); have GW110 := A_ ((szl_ w hg (bw HB.out))); replace HB := A_ (below_step (bw HB.out) hb); have GE110 := GW110; clear hb hbox hg) | ((with_reducible refine gk_ 54 rfl ?_); refine gL_ (some 12) Try.func54 #[.int .i64 a0] ?_; (with_reducible refine (spec_NewArena.calls k a0 t111 t114 t117 _ A3.out).mono ?_); rintro e w6 ⟨v112, v115, rfl, ho0, ho1, hb⟩; refine ⟨_, rfl, ?_⟩; have HO113 := A_ (Kd.R_lower ho0 (below_size (bw1 HB.out GE110.out))); have HO116 := A_ (Kd.R_lower ho1 (below_size (bw1 HB.out GE110.out))); replace BK110 := A_ (bB BK110.out hb); replace HB := A_ (below_step (bw1 HB.out GE110.out) hb); (try clear hb); (try clear ho0); (try clear ho1)) | ((with_reducible refine gd_ 6 rfl ?_); refine bx_ 6 #[.slice none 0 0, .slice none 0 0] 27 ?_; intro gb118 hg w7 hbox hb; replace HO113 := A_ (Kd.R_below (rk HO113.out) hb); replace HO116 := A_ (Kd.R_below (rk HO116.out) hb); have BK118 := A_ (hbox); have GW118 := A_ ((szl_ w hg (bw1 HB.out GE110.out))); replace HB := A_ (below_step (bw1 HB.out GE110.out) hb); have GE118 := GW118; have NB110_118 := A_ ((nl_ hg (bL BK110.out))); have NB118_110 := A_ ((ng_ hg (bL BK110.out))); replace BK110 := A_ (bB BK110.out hb); clear hb hbox hg; obtain ⟨Ao8, co8, eo8⟩ := Kd.R_slice HO113.out; subst eo8; have hnb9 := NB118_110.out; have hnc9 := NB110_118.out; obtain ⟨hcz10_0, hcz10_1, hfz10_0, hfz10_1⟩ := cs2_ BK118.out; obtain ⟨Ao11, co11, eo11⟩ := Kd.R_slice HO116.out; subst eo11))
 (try simp only [Act.put, sx_, sy_, sz_])
 go_cut [21] (fun v21 wc => ∃ (kq : Nat) (x21_3 : Bool), v21 = .bool x21_3 ∧ Aside0 (spec_NewYard.j0 kq a1 x21_3 t111 t114 = some (r1, r2, r3, r4, r5, r6)) ∧ Aside0 (kq ≤ k) ∧ Aside0 (Kd.R k77 77 wc w.heap.size (fun _ => True) (.slice Ao8 t111.length co8) t111) ∧ Aside0 (Kd.R (Kd.int .i64) 3 wc w.heap.size (fun _ => True) (.slice Ao11 t114.length co11) t114) ∧ Aside0 (wc.heap[gb110]? = some (.cells #[(.slice none 0 0), (.slice none 0 0), (.slice none 0 0), (.slice none 0 0), .int .i64 0] 30 (0, 0))) ∧ Aside0 (wc.heap[gb118]? = some (.cells #[(.slice Ao8 t111.length co8), (.slice Ao11 t114.length co11)] 27 (0, 0))) ∧ Aside0 (Below w.heap.size w wc))
 case first =>
  have H := HC4.out;clear HC4
  by_cases c12 : t117 = true
  ·subst c12
   have H1 : ((spec_l1In.f a1 1 6).bind fun t119 => (spec_NewYard.j0 k a1 (!t119) t111 t114)) = some (r1, r2, r3, r4, r5, r6) := by rw [if_pos rfl] at H; exact H
   clear H;have H := H1;clear H1;replace H := Option.bind_eq_some_iff.mp H;obtain ⟨t119, A130, H⟩ := H;replace H : (spec_NewYard.j0 k a1 (!t119) t111 t114) = some (r1, r2, r3, r4, r5, r6) := H;have A13 := A_ A130;clear A130;have H' := A_ H;clear H
   go_wp2_with (first | (go_at_call 55; (with_reducible refine (spec_l1In.calls a1 1 6 t119 _ A13.out).mono ?_); rintro e w' ⟨rfl, ⟨nd, rfl⟩⟩))
   go_meet
   case rel => exact ⟨_, (!t119), re, H', ⟨by first | omega | exact Nat.le_refl _⟩, ⟨by refine pl ?_;exact Kd.R_mono (Kd.R_far (Kd.R_far (Kd.R_types HO113.out BK118.out (by decide)) (fun _ hk => hk.2) _) (fun _ hk => hk.2) _) (fun _ hk => trivial)⟩, ⟨by refine pl ?_;exact Kd.R_mono (Kd.R_far (Kd.R_far (Kd.R_types HO116.out BK118.out (by decide)) (fun _ hk => hk.2) _) (fun _ hk => hk.2) _) (fun _ hk => trivial)⟩, ⟨by (with_reducible repeat (first | refine blk_drewN ?_ _ | refine blk_drew ?_ | refine blk_alloc ?_ _)); refine blk_far ?_ NB110_118.out _; refine blk_far ?_ NB110_118.out _; (with_reducible repeat (first | refine blk_drewN ?_ _ | refine blk_drew ?_ | refine blk_alloc ?_ _)); exact BK110.out⟩, ⟨by (with_reducible repeat (first | refine blk_drewN ?_ _ | refine blk_drew ?_ | refine blk_alloc ?_ _)); refine blk_put (cs := #[.slice Ao8 t111.length co8, .slice none 0 0]) ?_ 1 _ rfl; refine blk_put (cs := #[.slice none 0 0, .slice none 0 0]) ?_ 0 _ rfl; (with_reducible repeat (first | refine blk_drewN ?_ _ | refine blk_drew ?_ | refine blk_alloc ?_ _)); exact BK118.out⟩, ⟨bw2 HB.out GE110.out GE118.out⟩⟩
  ·replace c12 := Bool.eq_false_iff.mpr c12
   subst c12;have H1 : (spec_NewYard.j0 k a1 true t111 t114) = some (r1, r2, r3, r4, r5, r6) := by rw [if_neg (show ¬ (false = true) by decide)] at H; exact H
   clear H;have H := H1;clear H1;have H' := A_ H;clear H;go_wp2
   go_meet
   case rel => exact ⟨_, (true), re, H', ⟨by first | omega | exact Nat.le_refl _⟩, ⟨by refine pl ?_;exact Kd.R_mono (Kd.R_far (Kd.R_far (Kd.R_types HO113.out BK118.out (by decide)) (fun _ hk => hk.2) _) (fun _ hk => hk.2) _) (fun _ hk => trivial)⟩, ⟨by refine pl ?_;exact Kd.R_mono (Kd.R_far (Kd.R_far (Kd.R_types HO116.out BK118.out (by decide)) (fun _ hk => hk.2) _) (fun _ hk => hk.2) _) (fun _ hk => trivial)⟩, ⟨by (with_reducible repeat (first | refine blk_drewN ?_ _ | refine blk_drew ?_ | refine blk_alloc ?_ _)); refine blk_far ?_ NB110_118.out _; refine blk_far ?_ NB110_118.out _; (with_reducible repeat (first | refine blk_drewN ?_ _ | refine blk_drew ?_ | refine blk_alloc ?_ _)); exact BK110.out⟩, ⟨by (with_reducible repeat (first | refine blk_drewN ?_ _ | refine blk_drew ?_ | refine blk_alloc ?_ _)); refine blk_put (cs := #[.slice Ao8 t111.length co8, .slice none 0 0]) ?_ 1 _ rfl; refine blk_put (cs := #[.slice none 0 0, .slice none 0 0]) ?_ 0 _ rfl; (with_reducible repeat (first | refine blk_drewN ?_ _ | refine blk_drew ?_ | refine blk_alloc ?_ _)); exact BK118.out⟩, ⟨bw2 HB.out GE110.out GE118.out⟩⟩
 case rest =>
  clear HC4;(try clear c1); (try clear c2); (try clear p2); (try clear c5); (try clear c9); (try clear c12); (try clear hcz10_0 hcz10_1); (try clear hfz10_0 hfz10_1)
  obtain ⟨kq, x21_3, rfl, HA, HJ3, HO_119000, HO_119001, BK110, BK118, HB⟩ := hcut;cases kq with
  | zero => exact absurd HA.out (by simp [spec_NewYard.j0])
  | succ kj3 =>
   have H := HA.out;clear HA;simp only [spec_NewYard.j0] at H
   by_cases c14 : x21_3 = true
   ·subst c14
    have H1 : (some (([] : List (S77)), ([] : List Int), ([] : List Int), ([] : List (S41)), 0, false)) = some (r1, r2, r3, r4, r5, r6) := by rw [if_pos rfl] at H; exact H
    clear H;have H := H1;clear H1;simp only [Option.some.injEq, Prod.mk.injEq] at H;obtain ⟨rfl, rfl, rfl, rfl, rfl, rfl⟩ := H;have hnb15 := NB110_118.out;have hnc15 := NB118_110.out;obtain ⟨hcz16_0, hcz16_1, hcz16_2, hcz16_3, hcz16_4, hfz16_0, hfz16_1, hfz16_2, hfz16_3, hfz16_4⟩ := cs5_ BK110.out;go_wp2
    refine bodyPost_ret (results_ct rfl _ _ gb110 30 #[.slice none 0 0, .slice none 0 0, .slice none 0 0, .slice none 0 0, .int .i64 0] (0, 0) _ rfl (bp BK110.out) Try.underlying30 rfl (by kernel_rfl)) rfl ?_;exact ⟨_, _, _, _, er, by first | exact Kd.R_nil _ _ _ _ _ | exact Kd.N_nil _ _ _ _ _ | exact Kd.V_nil _ _ _ _ _ | exact Kd.Q_nil _ _ _ _ _ | exact Kd.S_nil _ _ _ _ _, by first | exact Kd.R_nil _ _ _ _ _ | exact Kd.N_nil _ _ _ _ _ | exact Kd.V_nil _ _ _ _ _ | exact Kd.Q_nil _ _ _ _ _ | exact Kd.S_nil _ _ _ _ _, by first | exact Kd.R_nil _ _ _ _ _ | exact Kd.N_nil _ _ _ _ _ | exact Kd.V_nil _ _ _ _ _ | exact Kd.Q_nil _ _ _ _ _ | exact Kd.S_nil _ _ _ _ _, by first | exact Kd.R_nil _ _ _ _ _ | exact Kd.N_nil _ _ _ _ _ | exact Kd.V_nil _ _ _ _ _ | exact Kd.Q_nil _ _ _ _ _ | exact Kd.S_nil _ _ _ _ _, bw2 HB.out GE110.out GE118.out⟩
   ·replace c14 := Bool.eq_false_iff.mpr c14
    subst c14;have H1 : (spec_NewYard.l0 kj3 a1 0 t111 t114 ([] : List Int) 0) = some (r1, r2, r3, r4, r5, r6) := by rw [if_neg (show ¬ (false = true) by decide)] at H; exact H
    clear H;have H := H1;clear H1;have H' := A_ H;clear H;have hnb17 := NB118_110.out;have hnc17 := NB110_118.out;obtain ⟨hcz18_0, hcz18_1, hfz18_0, hfz18_1⟩ := cs2_ BK118.out
    go_wp2_with (first | ((with_reducible refine gd_ 8 rfl ?_); refine bx_ 8 #[.slice none 0 0, .slice none 0 0, .slice none 0 0, .slice none 0 0, .int .i64 0] 30 ?_; intro gb120 hg w19 hbox hb; replace HO_119000 := A_ (Kd.R_below (rk HO_119000.out) hb); replace HO_119001 := A_ (Kd.R_below (rk HO_119001.out) hb); have BK120 := A_ (hbox); have GW120 := A_ ((szl_ w hg (bw2 HB.out GE110.out GE118.out))); replace HB := A_ (below_step (bw2 HB.out GE110.out GE118.out) hb); have GE120 := GW120; have NB110_120 := A_ ((nl_ hg (bL BK110.out))); have NB120_110 := A_ ((ng_ hg (bL BK110.out))); replace BK110 := A_ (bB BK110.out hb); have NB118_120 := A_ ((nl_ hg (bL BK118.out))); have NB120_118 := A_ ((ng_ hg (bL BK118.out))); replace BK118 := A_ (bB BK118.out hb); clear hb hbox hg; have hnb20 := NB120_110.out; have hnc20 := NB110_120.out; have hnb21 := NB120_118.out; have hnc21 := NB118_120.out; obtain ⟨hcz22_0, hcz22_1, hcz22_2, hcz22_3, hcz22_4, hfz22_0, hfz22_1, hfz22_2, hfz22_3, hfz22_4⟩ := cs5_ BK120.out))
    go_loopg [9] kj3 (fun kq v9 w' => ∃ (x9_2 : Int) (x121002_2 : List Int) (u121002 : Value), v9 = .int .i64 x9_2 ∧ Aside0 (spec_NewYard.l0 kq a1 x9_2 t111 t114 x121002_2 0 = some (r1, r2, r3, r4, r5, r6)) ∧ Aside0 (kq ≤ kj3) ∧ Aside0 (Kd.R k77 77 w' w.heap.size (fun _ => True) (.slice Ao8 t111.length co8) t111) ∧ Aside0 (Kd.R (Kd.int .i64) 3 w' w.heap.size (fun k_ => some k_ ≠ (u121002 : Value).ownBlock) (.slice Ao11 t114.length co11) t114) ∧ Aside0 (Kd.R k77 77 w' w.heap.size (fun _ => True) (.slice Ao8 t111.length co8) t111) ∧ Aside0 (Kd.R (Kd.int .i64) 3 w' w.heap.size (fun k_ => some k_ ≠ (u121002 : Value).ownBlock) (.slice Ao11 t114.length co11) t114) ∧ Aside0 (Kd.R (Kd.int .i64) 3 w' w.heap.size (fun k_ => some k_ ≠ ((.slice Ao11 t114.length co11) : Value).ownBlock ∧ some k_ ≠ ((.slice Ao11 t114.length co11) : Value).ownBlock) u121002 x121002_2) ∧ Aside0 (w'.heap[gb110]? = some (.cells #[(.slice none 0 0), (.slice none 0 0), (.slice none 0 0), (.slice none 0 0), .int .i64 0] 30 (0, 0))) ∧ Aside0 (w'.heap[gb118]? = some (.cells #[(.slice Ao8 t111.length co8), (.slice Ao11 t114.length co11)] 27 (0, 0))) ∧ Aside0 (w'.heap[gb120]? = some (.cells #[(.slice Ao8 t111.length co8), (.slice Ao11 t114.length co11), u121002, (.slice none 0 0), .int .i64 0] 30 (0, 0))) ∧ Aside0 (Below w.heap.size w w'))
    case atStart => exact ⟨(0), (([] : List Int)), (.slice none 0 0), re, H', ⟨Nat.le_refl _⟩, ⟨by refine pl ?_;exact Kd.R_mono (rF5_ (Kd.R_types HO_119000.out BK120.out (by decide)) (fun _ hk => hk.2)) (fun _ hk => trivial)⟩, ⟨by refine pl ?_;exact Kd.R_mono (rF5_ (Kd.R_types HO_119001.out BK120.out (by decide)) (fun _ hk => hk.2)) (fun _ hk => (by simp [Value.ownBlock]))⟩, ⟨by refine pl ?_;exact Kd.R_mono (rF5_ (Kd.R_types HO_119000.out BK120.out (by decide)) (fun _ hk => hk.2)) (fun _ hk => trivial)⟩, ⟨by refine pl ?_;exact Kd.R_mono (rF5_ (Kd.R_types HO_119001.out BK120.out (by decide)) (fun _ hk => hk.2)) (fun _ hk => (by simp [Value.ownBlock]))⟩, ⟨by first | exact Kd.R_nil _ _ _ _ _ | exact Kd.N_nil _ _ _ _ _ | exact Kd.V_nil _ _ _ _ _ | exact Kd.Q_nil _ _ _ _ _ | exact Kd.S_nil _ _ _ _ _⟩, ⟨by (with_reducible repeat (first | refine blk_drewN ?_ _ | refine blk_drew ?_ | refine blk_alloc ?_ _)); refine blk_far ?_ NB110_120.out _; refine blk_far ?_ NB110_120.out _; refine blk_far ?_ NB110_120.out _; refine blk_far ?_ NB110_120.out _; refine blk_far ?_ NB110_120.out _; (with_reducible repeat (first | refine blk_drewN ?_ _ | refine blk_drew ?_ | refine blk_alloc ?_ _)); exact BK110.out⟩, ⟨by (with_reducible repeat (first | refine blk_drewN ?_ _ | refine blk_drew ?_ | refine blk_alloc ?_ _)); refine blk_far ?_ NB118_120.out _; refine blk_far ?_ NB118_120.out _; refine blk_far ?_ NB118_120.out _; refine blk_far ?_ NB118_120.out _; refine blk_far ?_ NB118_120.out _; (with_reducible repeat (first | refine blk_drewN ?_ _ | refine blk_drew ?_ | refine blk_alloc ?_ _)); exact BK118.out⟩, ⟨by (with_reducible repeat (first | refine blk_drewN ?_ _ | refine blk_drew ?_ | refine blk_alloc ?_ _)); refine blk_put (cs := #[.slice Ao8 t111.length co8, .slice Ao11 t114.length co11, .slice none 0 0, .slice none 0 0, .int .i64 0]) ?_ 4 _ rfl; refine blk_put (cs := #[.slice Ao8 t111.length co8, .slice Ao11 t114.length co11, .slice none 0 0, .slice none 0 0, .int .i64 0]) ?_ 3 _ rfl; refine blk_put (cs := #[.slice Ao8 t111.length co8, .slice Ao11 t114.length co11, .slice none 0 0, .slice none 0 0, .int .i64 0]) ?_ 2 _ rfl; refine blk_put (cs := #[.slice Ao8 t111.length co8, .slice none 0 0, .slice none 0 0, .slice none 0 0, .int .i64 0]) ?_ 1 _ rfl; refine blk_put (cs := #[.slice none 0 0, .slice none 0 0, .slice none 0 0, .slice none 0 0, .int .i64 0]) ?_ 0 _ rfl; (with_reducible repeat (first | refine blk_drewN ?_ _ | refine blk_drew ?_ | refine blk_alloc ?_ _)); exact BK120.out⟩, ⟨bw3 HB.out GE110.out GE118.out GE120.out⟩⟩
    case round =>
     clear H';(try clear c1); (try clear c2); (try clear p2); (try clear c5); (try clear c9); (try clear c12); (try clear c14); (try clear c15); (try clear c17); (try clear c20); (try clear c21); (try clear hcz10_0 hcz10_1); (try clear hcz16_0 hcz16_1 hcz16_2 hcz16_3 hcz16_4); (try clear hcz18_0 hcz18_1); (try clear hcz22_0 hcz22_1 hcz22_2 hcz22_3 hcz22_4); (try clear hfz10_0 hfz10_1); (try clear hfz16_0 hfz16_1 hfz16_2 hfz16_3 hfz16_4); (try clear hfz18_0 hfz18_1); (try clear hfz22_0 hfz22_1 hfz22_2 hfz22_3 hfz22_4); (try clear p2)
     obtain ⟨x9_2, x121002_2, u121002, rfl, HA, HK2, HO_119000, HO_119001, HO_121000, HO_121001, HO_121002, BK110, BK118, BK120, HB⟩ := hrel;cases gk with
     | zero => exact absurd HA.out (by simp [spec_NewYard.l0])
     | succ k2 =>
      have H := HA.out;clear HA;simp only [spec_NewYard.l0] at H
      by_cases c23 : x9_2 < a1
      ·rw [if_pos c23] at H
       have c23b0 : decide (x9_2 < a1) = true := decide_eq_true c23;clear c23
       by_cases c24 : x121002_2.length < 17592186044416
       ·rw [if_pos c24] at H
        have LMc24 := A_ c24;clear c24;obtain ⟨y121, hy121⟩ : ∃ y_ : List Int, y_ = (x121002_2 ++ [(-1)]) := ⟨_, rfl⟩;replace H : (spec_NewYard.l0 k2 a1 (wrap64 (x9_2 + 1)) t111 t114 y121 0) = some (r1, r2, r3, r4, r5, r6) := by first | (rw [hy121]; with_reducible exact H) | (have H2_ := (Option.bind_some _ _).symm.trans H; rw [hy121]; with_reducible exact H2_) | (have H2_ := (Option.bind_some _ _).symm.trans H; with_reducible exact H2_) | with_reducible exact H | (rw [hy121]; exact H) | exact H
        have Ny121 := A_ hy121;clear hy121;have H' := A_ H;clear H;have hnb25 := NB120_110.out;have hnc25 := NB110_120.out;have hnb26 := NB120_118.out;have hnc26 := NB118_120.out;obtain ⟨hcz27_0, hcz27_1, hcz27_2, hcz27_3, hcz27_4, hfz27_0, hfz27_1, hfz27_2, hfz27_3, hfz27_4⟩ := cs5_ BK120.out
        go_wp2_with (first | ((with_reducible refine gate_builtin (b := .append) (xs := #[.tmp 31, .tmp 32]) rfl ?_); at_builtin; refine Kd.R_append (Kd.int .i64) (w0 := w) w.heap.size rfl (.tmp 31) (.tmp 32) 25 3 (.int .i64 0) 8 rfl Try.underlying25 info3 rfl (by decide) (by omega) u121002 x121002_2 (-1) [.int .i64 (-1)] (fun k_ => some k_ ≠ (.slice Ao11 t114.length co11 : Value).ownBlock ∧ some k_ ≠ (.slice Ao11 t114.length co11 : Value).ownBlock) (fun _ => False) rfl rfl ?aP (fun _ hk => hk.elim) ?aF ?aO ?aB ?aS ?aL ?_; (case aP => exact rfl); (case aB => exact (bw3 HB.out GE110.out GE118.out GE120.out)); (case aF => exact (fun k_ hk => ⟨Kd.fresh' (Kd.R_lt (rk HO_119001.out)) k_ hk, Kd.fresh' (Kd.R_lt (rk HO_121001.out)) k_ hk⟩)); (case aO => exact (rk HO_121002.out)); (case aS => exact (below_size (bw3 HB.out GE110.out GE118.out GE120.out))); (case aL => have := LMc24.out; omega); intro v122 w28 ho hb hg hat; rw [← Ny121.out] at ho; replace HO_119000 := A_ (Kd.R_over' (rk HO_119000.out) (Kd.R_typed (rk HO_121002.out)) (by decide) hg); replace HO_119001 := A_ (Kd.R_after (ok := (fun _ => True)) (by refine pl ?_;exact Kd.R_mono HO_119001.out (fun _ hk => ⟨trivial, hk⟩)) hg hat); replace HO_121000 := A_ (Kd.R_over' (rk HO_121000.out) (Kd.R_typed (rk HO_121002.out)) (by decide) hg); replace HO_121001 := A_ (Kd.R_after (ok := (fun _ => True)) (by refine pl ?_;exact Kd.R_mono HO_121001.out (fun _ hk => ⟨trivial, hk⟩)) hg hat); replace BK110 := A_ (blk_grown (g := gb110) (o := .cells #[.slice none 0 0, .slice none 0 0, .slice none 0 0, .slice none 0 0, .int .i64 0] 30 (0, 0)) (bk BK110.out) hg (Kd.R_ne HO_121002.out BK110.out (by decide))); replace BK118 := A_ (blk_grown (g := gb118) (o := .cells #[.slice Ao8 t111.length co8, .slice Ao11 t114.length co11] 27 (0, 0)) (bk BK118.out) hg (Kd.R_ne HO_121002.out BK118.out (by decide))); replace BK120 := A_ (blk_grown (g := gb120) (o := .cells #[.slice Ao8 t111.length co8, .slice Ao11 t114.length co11, u121002, .slice none 0 0, .int .i64 0] 30 (0, 0)) (bk BK120.out) hg (Kd.R_ne HO_121002.out BK120.out (by decide))); replace HB := A_ (hb); have HO123 := A_ (ho); clear HO_121002; clear ho hb hg hat; obtain ⟨Ao29, co29, eo29⟩ := Kd.R_slice HO123.out; subst eo29; obtain ⟨hcz30_0, hcz30_1, hcz30_2, hcz30_3, hcz30_4, hfz30_0, hfz30_1, hfz30_2, hfz30_3, hfz30_4⟩ := cs5_ BK120.out))
        go_roundg k2
        case measure => have := HJ3.out; have := HK2.out; omega
        case rel => exact ⟨(wrap64 (x9_2 + 1)), (y121), (.slice Ao29 y121.length co29), re, H', ⟨by have := HJ3.out; have := HK2.out; omega⟩, ⟨by refine pl ?_;exact Kd.R_mono (Kd.R_far (Kd.R_types HO_119000.out BK120.out (by decide)) (fun _ hk => hk.2) _) (fun _ hk => trivial)⟩, ⟨by refine pl ?_;exact Kd.R_mono (Kd.R_far (Kd.R_types HO_119001.out BK120.out (by decide)) (fun _ hk => hk.2) _) (fun _ hk => hk.1.2)⟩, ⟨by refine pl ?_;exact Kd.R_mono (Kd.R_far (Kd.R_types HO_121000.out BK120.out (by decide)) (fun _ hk => hk.2) _) (fun _ hk => trivial)⟩, ⟨by refine pl ?_;exact Kd.R_mono (Kd.R_far (Kd.R_types HO_121001.out BK120.out (by decide)) (fun _ hk => hk.2) _) (fun _ hk => hk.1.2)⟩, ⟨by refine pl ?_;exact Kd.R_mono (Kd.R_far (Kd.R_types HO123.out BK120.out (by decide)) (fun _ hk => hk.2) _) (fun _ hk => ⟨hk.1.1, hk.1.2⟩)⟩, ⟨by (with_reducible repeat (first | refine blk_drewN ?_ _ | refine blk_drew ?_ | refine blk_alloc ?_ _)); refine blk_far ?_ NB110_120.out _; (with_reducible repeat (first | refine blk_drewN ?_ _ | refine blk_drew ?_ | refine blk_alloc ?_ _)); exact BK110.out⟩, ⟨by (with_reducible repeat (first | refine blk_drewN ?_ _ | refine blk_drew ?_ | refine blk_alloc ?_ _)); refine blk_far ?_ NB118_120.out _; (with_reducible repeat (first | refine blk_drewN ?_ _ | refine blk_drew ?_ | refine blk_alloc ?_ _)); exact BK118.out⟩, ⟨by (with_reducible repeat (first | refine blk_drewN ?_ _ | refine blk_drew ?_ | refine blk_alloc ?_ _)); refine blk_put (cs := #[.slice Ao8 t111.length co8, .slice Ao11 t114.length co11, u121002, .slice none 0 0, .int .i64 0]) ?_ 2 _ rfl; (with_reducible repeat (first | refine blk_drewN ?_ _ | refine blk_drew ?_ | refine blk_alloc ?_ _)); exact BK120.out⟩, ⟨bw3 HB.out GE110.out GE118.out GE120.out⟩⟩
       ·rw [if_neg c24] at H
        exact absurd H (by simp)
      ·rw [if_neg c23] at H
       have c23b0 : decide (x9_2 < a1) = false := decide_eq_false c23;clear c23;simp only [Option.some.injEq, Prod.mk.injEq] at H;obtain ⟨rfl, rfl, rfl, rfl, rfl, rfl⟩ := H;have hnb31 := NB120_110.out;have hnc31 := NB110_120.out;have hnb32 := NB120_118.out;have hnc32 := NB118_120.out;obtain ⟨hcz33_0, hcz33_1, hcz33_2, hcz33_3, hcz33_4, hfz33_0, hfz33_1, hfz33_2, hfz33_3, hfz33_4⟩ := cs5_ BK120.out;have hnb34 := NB110_118.out;have hnc34 := NB118_110.out;obtain ⟨hcz35_0, hcz35_1, hcz35_2, hcz35_3, hcz35_4, hfz35_0, hfz35_1, hfz35_2, hfz35_3, hfz35_4⟩ := cs5_ BK110.out;obtain ⟨Ao36, co36, eo36⟩ := Kd.R_slice HO_121002.out;subst eo36;go_wp2
       refine bodyPost_ret (results_ct rfl _ _ gb110 30 #[.slice Ao8 t111.length co8, .slice Ao11 t114.length co11, .slice Ao36 x121002_2.length co36, .slice none 0 0, .int .i64 0] (0, 0) _ rfl (bp BK110.out) Try.underlying30 rfl (by kernel_rfl)) rfl ?_;exact ⟨_, _, _, _, er, by refine pl ?_;exact Kd.R_mono (rF5_ (Kd.R_types HO_121000.out BK110.out (by decide)) (fun _ hk => hk.2)) (fun _ hk => trivial), by refine pl ?_;exact Kd.R_mono (rF5_ (Kd.R_types HO_121001.out BK110.out (by decide)) (fun _ hk => hk.2)) (fun _ hk => hk.1), by refine pl ?_;exact Kd.R_mono (rF5_ (Kd.R_types HO_121002.out BK110.out (by decide)) (fun _ hk => hk.2)) (fun _ hk => hk.1.2), by first | exact Kd.R_nil _ _ _ _ _ | exact Kd.N_nil _ _ _ _ _ | exact Kd.V_nil _ _ _ _ _ | exact Kd.Q_nil _ _ _ _ _ | exact Kd.S_nil _ _ _ _ _, bw3 HB.out GE110.out GE118.out GE120.out⟩

def spec_l1Has.l0 : Nat → List Int → Int → Int → Option (Bool)
 | 0, _, _, _ => none
 | k + 1, x0, x1, x5 => if x5 < (x0.length : Int) then (if 0 ≤ x5 then (if (rd x0 x5) = x1 then (some true) else (spec_l1Has.l0 k x0 x1 (wrap64 (x5 + 1)))) else (none)) else (some false)
def spec_l1Has.f (k : Nat) (l0 : List Int) (a1 : Int) : Option (Bool) := spec_l1Has.l0 k l0 a1 0
set_option maxHeartbeats 8000000 in
set_option maxRecDepth 100000 in
theorem spec_l1Has.calls (k : Nat) (A0 : Option Addr) (c0 : Nat) (l0 : List Int) (a1 : Int) (r : Bool) (w : World) (hr0 : Kd.C (Kd.int .i64) w A0 l0.length l0) (hc0 : l0.length ≤ c0) (h : spec_l1Has.f k l0 a1 = some r) :
  Calls Try.prog 75 #[.slice A0 l0.length c0, .int .i64 a1] w fun e w' => e = .returned (.bool r) ∧ Drawn0 w w' := by
 have HR0 := A_ hr0;have HC0 := A_ hc0;clear hr0 hc0;have H : (spec_l1Has.l0 k l0 a1 0) = some r := h;clear h;have H' := A_ H;clear H
 go_enter Try.func75, Try.ntmps75
 go_wp2
 go_loopg [5] k (fun kq v5 w' => ∃ (x5_1 : Int), v5 = .int .i64 x5_1 ∧ Aside0 (spec_l1Has.l0 kq l0 a1 x5_1 = some r) ∧ Aside0 (kq ≤ k) ∧ Drawn0 w w')
 case atStart => exact ⟨(0), re, H', ⟨Nat.le_refl _⟩, dw⟩
 case round =>
  clear H'
  try clear p2
  obtain ⟨x5_1, rfl, HA, HK1, ⟨m1, rfl⟩⟩ := hrel;cases gk with
  | zero => exact absurd HA.out (by simp [spec_l1Has.l0])
  | succ k1 =>
   have H := HA.out;clear HA;simp only [spec_l1Has.l0] at H
   by_cases c3 : x5_1 < (l0.length : Int)
   ·rw [if_pos c3] at H
    have c3b0 : decide (x5_1 < (l0.length : Int)) = true := decide_eq_true c3;clear c3
    by_cases c4 : 0 ≤ x5_1
    ·rw [if_pos c4] at H
     have c4b0 : decide (0 ≤ x5_1) = true := decide_eq_true c4;clear c4
     by_cases c5 : (rd l0 x5_1) = a1
     ·rw [if_pos c5] at H
      have c5b0 : ((rd l0 x5_1) == a1) = true := beq_iff_eq.mpr c5;have c5b1 : ((rd l0 x5_1) != a1) = false := bne_eq_false_iff_eq.mpr c5;clear c5;obtain rfl := Option.some.inj H;have p124 : 0 ≤ (x5_1 : Int) := oa;have q124 : x5_1 < (l0.length : Int) := oa;obtain ⟨ad124, e124, hx124_0⟩ := Kd.at_int HR0.out x5_1 p124 q124;cases e124;replace p124 := eq_true p124;replace q124 := eq_true q124;go_wp2
      go_ret
      exact ⟨by first | rfl | (simp; done) | (simp [*]; done), dw⟩
     ·rw [if_neg c5] at H
      have c5b0 : ((rd l0 x5_1) == a1) = false := beq_eq_false_iff_ne.mpr c5;have c5b1 : ((rd l0 x5_1) != a1) = true := bne_iff_ne.mpr c5;have H' := A_ H;clear H;have p124 : 0 ≤ (x5_1 : Int) := oa;have q124 : x5_1 < (l0.length : Int) := oa;obtain ⟨ad124, e124, hx124_0⟩ := Kd.at_int HR0.out x5_1 p124 q124;cases e124;replace p124 := eq_true p124;replace q124 := eq_true q124;go_wp2
      go_roundg k1
      case measure => have := HK1.out; omega
      case rel => exact ⟨(wrap64 (x5_1 + 1)), re, H', ⟨by have := HK1.out; omega⟩, dw⟩
    ·rw [if_neg c4] at H
     exact absurd H (by simp)
   ·rw [if_neg c3] at H
    have c3b0 : decide (x5_1 < (l0.length : Int)) = false := decide_eq_false c3;clear c3;obtain rfl := Option.some.inj H;go_wp2
    go_ret
    exact ⟨by first | rfl | (simp; done) | (simp [*]; done), dw⟩

def spec_l1Value.f (a0 : Int) : Option (Bool) := (spec_l1In.f a0 (-1000000000) 1000000000).bind fun t125 => (some t125)
set_option maxHeartbeats 8000000 in
set_option maxRecDepth 100000 in
theorem spec_l1Value.calls (a0 : Int) (r : Bool) (w : World) (h : spec_l1Value.f a0 = some r) :
  Calls Try.prog 93 #[.int .i64 a0] w fun e w' => e = .returned (.bool r) ∧ Drawn0 w w' := by
 have H : ((spec_l1In.f a0 (-1000000000) 1000000000).bind fun t125 => (some t125)) = some r := h;clear h;replace H := Option.bind_eq_some_iff.mp H;obtain ⟨t125, A20, H⟩ := H;have A2 := A_ A20;clear A20;obtain rfl := Option.some.inj H
 go_enter Try.func93, Try.ntmps93
 go_wp2_with (first | ((with_reducible refine gk_ 55 rfl ?_); refine gL_ (some 4) Try.func55 #[.int .i64 a0, .int .i64 (-1000000000), .int .i64 1000000000] ?_; (with_reducible refine (spec_l1In.calls a0 (-1000000000) 1000000000 t125 _ A2.out).mono ?_); rintro e w' ⟨rfl, ⟨nd, rfl⟩⟩; refine ⟨_, rfl, ?_⟩))
 go_ret
 exact ⟨by first | rfl | (simp; done) | (simp [*]; done), dw⟩


end Go.Proofs.Ytemdjfiimgjiaaa.R
namespace Go.Proofs.Ytemdjfiimgjiaaa.R
open Go.Proofs.Ytemdjfiimgjiaaa.Sq
open Go.RowKit Go.Proofs.YtemdjfiimgjiaaaW.PrintWords Go.Proofs.YtemdjfiimgjiaaaW.PrintLast Go.Proofs.YtemdjfiimgjiaaaW.PrintMore
attribute [local go_sem] max2_int min2_int max_two min_two max_three min_three max_four min_four   -- for this text's walks alone
set_option linter.unusedVariables false
set_option linter.unusedSimpArgs false

mutual
def spec_ArenaOk.l0 : Nat → Int → Int → List (S77) → List Int → Option (Bool)
 | 0, _, _, _, _ => none
 | k + 1, x3, x4, x127000, x127001 => if x4 < (x127000.length : Int) then (if 0 ≤ x4 then ((spec_l1In.f ((rd_T77 x127000 x4).f0) 0 5).bind fun t130 => (if t130 = true then (if ((rd_T77 x127000 x4).f1 = true) then (spec_ArenaOk.j1 k x3 x4 false x127000 x127001 ((rd_T77 x127000 x4).f0) ((rd_T77 x127000 x4).f1) ((rd_T77 x127000 x4).f2.f0) ((rd_T77 x127000 x4).f2.f1) ((rd_T77 x127000 x4).f2.f2)) else (spec_ArenaOk.j1 k x3 x4 (((rd_T77 x127000 x4).f0) == 5) x127000 x127001 ((rd_T77 x127000 x4).f0) ((rd_T77 x127000 x4).f1) ((rd_T77 x127000 x4).f2.f0) ((rd_T77 x127000 x4).f2.f1) ((rd_T77 x127000 x4).f2.f2))) else (spec_ArenaOk.j1 k x3 x4 true x127000 x127001 ((rd_T77 x127000 x4).f0) ((rd_T77 x127000 x4).f1) ((rd_T77 x127000 x4).f2.f0) ((rd_T77 x127000 x4).f2.f1) ((rd_T77 x127000 x4).f2.f2)))) else (none)) else (spec_ArenaOk.l2 k x3 0 x127000 x127001)
def spec_ArenaOk.j1 : Nat → Int → Int → Bool → List (S77) → List Int → Int → Bool → Int → Int → Int → Option (Bool)
 | 0, _, _, _, _, _, _, _, _, _, _ => none
 | k + 1, x3, x4, x39, x127000, x127001, x130000, x130001, x130002, x130003, x130004 => if x39 = true then (some false) else (spec_ArenaOk.l1 k x3 x4 0 x127000 x127001 x130000 x130001 x130002 x130003 x130004)
def spec_ArenaOk.l1 : Nat → Int → Int → Int → List (S77) → List Int → Int → Bool → Int → Int → Int → Option (Bool)
 | 0, _, _, _, _, _, _, _, _, _, _ => none
 | k + 1, x3, x4, x6, x127000, x127001, x130000, x130001, x130002, x130003, x130004 => if x6 < 3 then (if x6 = 0 then ((spec_l1Value.f x130002).bind fun t131 => (if t131 = true then (spec_ArenaOk.l1 k x3 x4 (wrap64 (x6 + 1)) x127000 x127001 x130000 x130001 x130002 x130003 x130004) else (some false))) else (if x6 = 1 then ((spec_l1Value.f x130003).bind fun t132 => (if t132 = true then (spec_ArenaOk.l1 k x3 x4 (wrap64 (x6 + 1)) x127000 x127001 x130000 x130001 x130002 x130003 x130004) else (some false))) else (if x6 = 2 then ((spec_l1Value.f x130004).bind fun t133 => (if t133 = true then (spec_ArenaOk.l1 k x3 x4 (wrap64 (x6 + 1)) x127000 x127001 x130000 x130001 x130002 x130003 x130004) else (some false))) else (none)))) else (if x130001 = true then (if x130000 < 5 then (spec_ArenaOk.l0 k (wrap64 (x3 + 1)) (wrap64 (x4 + 1)) x127000 x127001) else (spec_ArenaOk.l0 k x3 (wrap64 (x4 + 1)) x127000 x127001)) else (spec_ArenaOk.l0 k x3 (wrap64 (x4 + 1)) x127000 x127001))
def spec_ArenaOk.l2 : Nat → Int → Int → List (S77) → List Int → Option (Bool)
 | 0, _, _, _, _ => none
 | k + 1, x3, x7, x127000, x127001 => if x7 < (x127001.length : Int) then (if 0 ≤ x7 then ((spec_l1In.f (rd x127001 x7) 0 (wrap64 ((x127000.length : Int) - 1))).bind fun t135 => (if t135 = true then (if 0 ≤ (rd x127001 x7) then (if (rd x127001 x7) < (x127000.length : Int) then (if ((rd_T77 x127000 (rd x127001 x7)).f1 = true) then (if ((rd_T77 x127000 (rd x127001 x7)).f0) = 5 then (some false) else (if x7 ≤ (x127001.length : Int) then ((spec_l1Has.f k (x127001.take (x7 : Int).toNat) (rd x127001 x7)).bind fun t139 => (if t139 = true then (some false) else (spec_ArenaOk.l2 k x3 (wrap64 (x7 + 1)) x127000 x127001))) else (none))) else (some false)) else (none)) else (none)) else (some false))) else (none)) else (some ((x127001.length : Int) == x3))
end
def spec_ArenaOk.f (k : Nat) (l0_0 : List (S77)) (l0_1 : List Int) : Option (Bool) := (spec_l1In.f (l0_0.length : Int) 1 24).bind fun t127 => (if t127 = true then (spec_ArenaOk.l0 k 0 0 l0_0 l0_1) else (some false))
set_option maxHeartbeats 8000000 in
set_option maxRecDepth 100000 in
theorem spec_ArenaOk.calls (k : Nat) (A0_0 : Option Addr) (c0_0 : Nat) (l0_0 : List (S77)) (A0_1 : Option Addr) (c0_1 : Nat) (l0_1 : List Int) (r : Bool) (w : World) (hr0_0 : Kd.C k77 w A0_0 l0_0.length l0_0) (hc0_0 : l0_0.length ≤ c0_0) (hr0_1 : Kd.C (Kd.int .i64) w A0_1 l0_1.length l0_1) (hc0_1 : l0_1.length ≤ c0_1) (h : spec_ArenaOk.f k l0_0 l0_1 = some r) (ht_ : r = true := by rfl) :
  Calls Try.prog 68 #[.agg #[.slice A0_0 l0_0.length c0_0, .slice A0_1 l0_1.length c0_1]] w fun e w' => e = .returned (.bool r) ∧ Below w.heap.size w w' := by
 subst ht_;have hu27 := Try.underlying27;have hu77 := Try.underlying77;have HR0_0 := A_ hr0_0;have HC0_0 := A_ hc0_0;clear hr0_0 hc0_0;have HR0_1 := A_ hr0_1;have HC0_1 := A_ hc0_1;clear hr0_1 hc0_1;have HB := A_ (Below.refl w.heap.size w);have H : ((spec_l1In.f (l0_0.length : Int) 1 24).bind fun t127 => (if t127 = true then (spec_ArenaOk.l0 k 0 0 l0_0 l0_1) else (some false))) = some true := h;clear h;replace H := Option.bind_eq_some_iff.mp H;obtain ⟨t127, A20, H⟩ := H;have A2 := A_ A20;clear A20
 by_cases c3 : t127 = true
 ·subst c3
  rw [if_pos rfl] at H;have H' := A_ H;clear H
  go_enter Try.func68, Try.ntmps68
  go_wp2_with (first | ((with_reducible refine gd_ 1 rfl ?_); refine bx_ 1 #[.slice A0_0 l0_0.length c0_0, .slice A0_1 l0_1.length c0_1] 27 ?_; intro gb126 hg w4 hbox hb; have BK126 := A_ (hbox); have GW126 := A_ ((szl_ w hg (bw HB.out))); replace HB := A_ (below_step (bw HB.out) hb); have GE126 := GW126; clear hb hbox hg; obtain ⟨hcz5_0, hcz5_1, hfz5_0, hfz5_1⟩ := cs2_ BK126.out) | ((with_reducible refine gk_ 55 rfl ?_); refine gL_ (some 12) Try.func55 #[.int .i64 (l0_0.length : Int), .int .i64 1, .int .i64 24] ?_; (with_reducible refine (spec_l1In.calls (l0_0.length : Int) 1 24 true _ A2.out).mono ?_); rintro e w' ⟨rfl, ⟨nd, rfl⟩⟩; refine ⟨_, rfl, ?_⟩))
  go_loopg [3, 4] k (fun kq v3 v4 w' => ∃ (x3_1 : Int) (x4_1 : Int), v3 = .int .i64 x3_1 ∧ v4 = .int .i64 x4_1 ∧ Aside0 (spec_ArenaOk.l0 kq x3_1 x4_1 l0_0 l0_1 = some true) ∧ Aside0 (kq ≤ k) ∧ Aside0 (w'.heap[gb126]? = some (.cells #[(.slice A0_0 l0_0.length c0_0), (.slice A0_1 l0_1.length c0_1)] 27 (0, 0))) ∧ Aside0 (Below w.heap.size w w'))
  case atStart => exact ⟨(0), (0), re, re, H', ⟨Nat.le_refl _⟩, ⟨bk BK126.out⟩, ⟨bw1 HB.out GE126.out⟩⟩
  case round =>
   clear H';(try clear p2); (try clear c3); (try clear c5); (try clear hcz5_0 hcz5_1); (try clear hfz5_0 hfz5_1)
   obtain ⟨x3_1, x4_1, rfl, rfl, HA, HK1, BK126, HB⟩ := hrel;cases gk with
   | zero => exact absurd HA.out (by simp [spec_ArenaOk.l0])
   | succ k1 =>
    have H := HA.out;clear HA;simp only [spec_ArenaOk.l0] at H
    by_cases c6 : x4_1 < (l0_0.length : Int)
    ·rw [if_pos c6] at H
     have c6b0 : decide (x4_1 < (l0_0.length : Int)) = true := decide_eq_true c6;clear c6
     by_cases c7 : 0 ≤ x4_1
     ·rw [if_pos c7] at H
      have c7b0 : decide (0 ≤ x4_1) = true := decide_eq_true c7;clear c7;obtain ⟨bq8, hbq8⟩ : ∃ b_ : Bool, b_ = ((rd_T77 l0_0 x4_1).f1) := ⟨_, rfl⟩;replace H : ((spec_l1In.f ((rd_T77 l0_0 x4_1).f0) 0 5).bind fun t130 => (if t130 = true then (if (bq8 = true) then (spec_ArenaOk.j1 k1 x3_1 x4_1 false l0_0 l0_1 ((rd_T77 l0_0 x4_1).f0) bq8 ((rd_T77 l0_0 x4_1).f2.f0) ((rd_T77 l0_0 x4_1).f2.f1) ((rd_T77 l0_0 x4_1).f2.f2)) else (spec_ArenaOk.j1 k1 x3_1 x4_1 (((rd_T77 l0_0 x4_1).f0) == 5) l0_0 l0_1 ((rd_T77 l0_0 x4_1).f0) bq8 ((rd_T77 l0_0 x4_1).f2.f0) ((rd_T77 l0_0 x4_1).f2.f1) ((rd_T77 l0_0 x4_1).f2.f2))) else (spec_ArenaOk.j1 k1 x3_1 x4_1 true l0_0 l0_1 ((rd_T77 l0_0 x4_1).f0) bq8 ((rd_T77 l0_0 x4_1).f2.f0) ((rd_T77 l0_0 x4_1).f2.f1) ((rd_T77 l0_0 x4_1).f2.f2)))) = some true := by first | (rw [← hbq8] at H; exact H) | exact H
      have Nbq8 := A_ hbq8;clear hbq8;have HC9 := A_ H;clear H;obtain ⟨hcz10_0, hcz10_1, hfz10_0, hfz10_1⟩ := cs2_ BK126.out;have p128 : 0 ≤ (x4_1 : Int) := oa;have q128 : x4_1 < (l0_0.length : Int) := oa;obtain ⟨ad128, e128, hx128_0, hx128_1, hx128_2, hx128_3, hx128_4⟩ := at_T77 HR0_0.out x4_1 p128 q128
      (try rw [← Nbq8.out] at hx128_1)
      cases e128;replace hx128_0 := (HB.out.cell (World.block_lt_of_cell? w _ hx128_0)).trans hx128_0;replace hx128_1 := (HB.out.cell (World.block_lt_of_cell? w _ hx128_1)).trans hx128_1;replace hx128_2 := (HB.out.cell (World.block_lt_of_cell? w _ hx128_2)).trans hx128_2;replace hx128_3 := (HB.out.cell (World.block_lt_of_cell? w _ hx128_3)).trans hx128_3;replace hx128_4 := (HB.out.cell (World.block_lt_of_cell? w _ hx128_4)).trans hx128_4;replace p128 := eq_true p128;replace q128 := eq_true q128
      go_upto_region 8 with (first | ((with_reducible refine gd_ 5 rfl ?_); refine bx_ 5 #[.int .i64 0, .bool false, .int .i64 0, .int .i64 0, .int .i64 0] 77 ?_; intro gb129 hg w11 hbox hb; have BK129 := A_ (hbox); have GW129 := A_ ((szl_ w hg (bw1 HB.out GE126.out))); replace HB := A_ (below_step (bw1 HB.out GE126.out) hb); have GE129 := GW129; have NB126_129 := A_ ((nl_ hg (bL BK126.out))); have NB129_126 := A_ ((ng_ hg (bL BK126.out))); replace BK126 := A_ (bB BK126.out hb); clear hb hbox hg; have hnb12 := NB129_126.out; have hnc12 := NB126_129.out; obtain ⟨hcz13_0, hcz13_1, hcz13_2, hcz13_3, hcz13_4, hfz13_0, hfz13_1, hfz13_2, hfz13_3, hfz13_4⟩ := cs5_ BK129.out))
      (try simp only [Act.put, sx_, sy_, sz_])
      go_cut [39] (fun v39 wc => ∃ (kq : Nat) (x39_8 : Bool), v39 = .bool x39_8 ∧ Aside0 (spec_ArenaOk.j1 kq x3_1 x4_1 x39_8 l0_0 l0_1 ((rd_T77 l0_0 x4_1).f0) bq8 ((rd_T77 l0_0 x4_1).f2.f0) ((rd_T77 l0_0 x4_1).f2.f1) ((rd_T77 l0_0 x4_1).f2.f2) = some true) ∧ Aside0 (kq ≤ k1) ∧ Aside0 (wc.heap[gb126]? = some (.cells #[(.slice (some ad128) l0_0.length c0_0), (.slice A0_1 l0_1.length c0_1)] 27 (0, 0))) ∧ Aside0 (wc.heap[gb129]? = some (.cells #[.int .i64 ((rd_T77 l0_0 x4_1).f0), .bool bq8, .int .i64 ((rd_T77 l0_0 x4_1).f2.f0), .int .i64 ((rd_T77 l0_0 x4_1).f2.f1), .int .i64 ((rd_T77 l0_0 x4_1).f2.f2)] 77 (0, 0))) ∧ Aside0 (Below w.heap.size w wc))
      case first =>
       have H := HC9.out;clear HC9;replace H := Option.bind_eq_some_iff.mp H;obtain ⟨t130, A140, H⟩ := H;have A14 := A_ A140;clear A140
       by_cases c15 : t130 = true
       ·subst c15
        rw [if_pos rfl] at H
        by_cases c16 : (bq8 = true)
        ·subst c16
         rw [if_pos rfl] at H;have H' := A_ H;clear H;have hnb17 := NB129_126.out;have hnc17 := NB126_129.out;obtain ⟨hcz18_0, hcz18_1, hcz18_2, hcz18_3, hcz18_4, hfz18_0, hfz18_1, hfz18_2, hfz18_3, hfz18_4⟩ := cs5_ BK129.out
         go_wp2_with (first | ((with_reducible refine gk_ 55 rfl ?_); refine gL_ (some 28) Try.func55 #[.int .i64 ((rd_T77 l0_0 x4_1).f0), .int .i64 0, .int .i64 5] ?_; (with_reducible refine (spec_l1In.calls ((rd_T77 l0_0 x4_1).f0) 0 5 true _ A14.out).mono ?_); rintro e w' ⟨rfl, ⟨nd, rfl⟩⟩; refine ⟨_, rfl, ?_⟩))
         go_meet
         case rel => exact ⟨_, (false), re, H', ⟨by have := HK1.out; first | omega | exact Nat.le_refl _⟩, ⟨by (with_reducible repeat (first | refine blk_drewN ?_ _ | refine blk_drew ?_ | refine blk_alloc ?_ _)); refine blk_far ?_ NB126_129.out _; refine blk_far ?_ NB126_129.out _; refine blk_far ?_ NB126_129.out _; refine blk_far ?_ NB126_129.out _; refine blk_far ?_ NB126_129.out _; (with_reducible repeat (first | refine blk_drewN ?_ _ | refine blk_drew ?_ | refine blk_alloc ?_ _)); exact BK126.out⟩, ⟨by (with_reducible repeat (first | refine blk_drewN ?_ _ | refine blk_drew ?_ | refine blk_alloc ?_ _)); refine blk_put (cs := #[.int .i64 ((rd_T77 l0_0 x4_1).f0), .bool true, .int .i64 ((rd_T77 l0_0 x4_1).f2.f0), .int .i64 ((rd_T77 l0_0 x4_1).f2.f1), .int .i64 0]) ?_ 4 _ rfl; refine blk_put (cs := #[.int .i64 ((rd_T77 l0_0 x4_1).f0), .bool true, .int .i64 ((rd_T77 l0_0 x4_1).f2.f0), .int .i64 0, .int .i64 0]) ?_ 3 _ rfl; refine blk_put (cs := #[.int .i64 ((rd_T77 l0_0 x4_1).f0), .bool true, .int .i64 0, .int .i64 0, .int .i64 0]) ?_ 2 _ rfl; refine blk_put (cs := #[.int .i64 ((rd_T77 l0_0 x4_1).f0), .bool false, .int .i64 0, .int .i64 0, .int .i64 0]) ?_ 1 _ rfl; refine blk_put (cs := #[.int .i64 0, .bool false, .int .i64 0, .int .i64 0, .int .i64 0]) ?_ 0 _ rfl; (with_reducible repeat (first | refine blk_drewN ?_ _ | refine blk_drew ?_ | refine blk_alloc ?_ _)); exact BK129.out⟩, ⟨bw2 HB.out GE126.out GE129.out⟩⟩
        ·replace c16 := Bool.eq_false_iff.mpr c16
         subst c16;rw [if_neg (show ¬ (false = true) by decide)] at H;have H' := A_ H;clear H;have hnb19 := NB129_126.out;have hnc19 := NB126_129.out;obtain ⟨hcz20_0, hcz20_1, hcz20_2, hcz20_3, hcz20_4, hfz20_0, hfz20_1, hfz20_2, hfz20_3, hfz20_4⟩ := cs5_ BK129.out
         go_wp2_with (first | ((with_reducible refine gk_ 55 rfl ?_); refine gL_ (some 28) Try.func55 #[.int .i64 ((rd_T77 l0_0 x4_1).f0), .int .i64 0, .int .i64 5] ?_; (with_reducible refine (spec_l1In.calls ((rd_T77 l0_0 x4_1).f0) 0 5 true _ A14.out).mono ?_); rintro e w' ⟨rfl, ⟨nd, rfl⟩⟩; refine ⟨_, rfl, ?_⟩))
         go_meet
         case rel => exact ⟨_, ((((rd_T77 l0_0 x4_1).f0) == 5)), re, H', ⟨by have := HK1.out; first | omega | exact Nat.le_refl _⟩, ⟨by (with_reducible repeat (first | refine blk_drewN ?_ _ | refine blk_drew ?_ | refine blk_alloc ?_ _)); refine blk_far ?_ NB126_129.out _; refine blk_far ?_ NB126_129.out _; refine blk_far ?_ NB126_129.out _; refine blk_far ?_ NB126_129.out _; refine blk_far ?_ NB126_129.out _; (with_reducible repeat (first | refine blk_drewN ?_ _ | refine blk_drew ?_ | refine blk_alloc ?_ _)); exact BK126.out⟩, ⟨by (with_reducible repeat (first | refine blk_drewN ?_ _ | refine blk_drew ?_ | refine blk_alloc ?_ _)); refine blk_put (cs := #[.int .i64 ((rd_T77 l0_0 x4_1).f0), .bool false, .int .i64 ((rd_T77 l0_0 x4_1).f2.f0), .int .i64 ((rd_T77 l0_0 x4_1).f2.f1), .int .i64 0]) ?_ 4 _ rfl; refine blk_put (cs := #[.int .i64 ((rd_T77 l0_0 x4_1).f0), .bool false, .int .i64 ((rd_T77 l0_0 x4_1).f2.f0), .int .i64 0, .int .i64 0]) ?_ 3 _ rfl; refine blk_put (cs := #[.int .i64 ((rd_T77 l0_0 x4_1).f0), .bool false, .int .i64 0, .int .i64 0, .int .i64 0]) ?_ 2 _ rfl; refine blk_put (cs := #[.int .i64 ((rd_T77 l0_0 x4_1).f0), .bool false, .int .i64 0, .int .i64 0, .int .i64 0]) ?_ 1 _ rfl; refine blk_put (cs := #[.int .i64 0, .bool false, .int .i64 0, .int .i64 0, .int .i64 0]) ?_ 0 _ rfl; (with_reducible repeat (first | refine blk_drewN ?_ _ | refine blk_drew ?_ | refine blk_alloc ?_ _)); exact BK129.out⟩, ⟨bw2 HB.out GE126.out GE129.out⟩⟩
       ·replace c15 := Bool.eq_false_iff.mpr c15
        subst c15;rw [if_neg (show ¬ (false = true) by decide)] at H;exact absurd H (by cases k1 <;> first | (simp [spec_ArenaOk.j1]; done) | ((repeat' split) <;> simp_all [spec_ArenaOk.j1]))
      case rest =>
       clear HC9;(try clear c1); (try clear p1); (try clear q1); (try clear hx1); (try clear p2); (try clear c3); (try clear c5); (try clear c6); (try clear c6b0); (try clear c7); (try clear c7b0); (try clear q8); (try clear c12); (try clear p12); (try clear q12); (try clear hx12); (try clear c15); (try clear c16); (try clear c17); (try clear c19); (try clear hcz10_0 hcz10_1); (try clear hcz13_0 hcz13_1 hcz13_2 hcz13_3 hcz13_4); (try clear hcz18_0 hcz18_1 hcz18_2 hcz18_3 hcz18_4); (try clear hcz20_0 hcz20_1 hcz20_2 hcz20_3 hcz20_4); (try clear hcz5_0 hcz5_1); (try clear hfz10_0 hfz10_1); (try clear hfz13_0 hfz13_1 hfz13_2 hfz13_3 hfz13_4); (try clear hfz18_0 hfz18_1 hfz18_2 hfz18_3 hfz18_4); (try clear hfz20_0 hfz20_1 hfz20_2 hfz20_3 hfz20_4); (try clear hfz5_0 hfz5_1); (try clear hx128_0 hx128_1 hx128_2 hx128_3 hx128_4); (try clear p128); (try clear p2); (try clear q128)
       obtain ⟨kq, x39_8, rfl, HA, HJ8, BK126, BK129, HB⟩ := hcut;cases kq with
       | zero => exact absurd HA.out (by simp [spec_ArenaOk.j1])
       | succ kj8 =>
        have H := HA.out;clear HA;simp only [spec_ArenaOk.j1] at H
        by_cases c21 : x39_8 = true
        ·subst c21
         rw [if_pos rfl] at H;exact absurd H (by first | (simp; done) | ((repeat' split) <;> simp))
        ·replace c21 := Bool.eq_false_iff.mpr c21
         subst c21;rw [if_neg (show ¬ (false = true) by decide)] at H;have H' := A_ H;clear H;go_wp2
         go_loopg [6] kj8 (fun kq v6 w' => ∃ (x6_3 : Int), v6 = .int .i64 x6_3 ∧ Aside0 (spec_ArenaOk.l1 kq x3_1 x4_1 x6_3 l0_0 l0_1 ((rd_T77 l0_0 x4_1).f0) bq8 ((rd_T77 l0_0 x4_1).f2.f0) ((rd_T77 l0_0 x4_1).f2.f1) ((rd_T77 l0_0 x4_1).f2.f2) = some true) ∧ Aside0 (kq ≤ kj8) ∧ Aside0 (w'.heap[gb126]? = some (.cells #[(.slice (some ad128) l0_0.length c0_0), (.slice A0_1 l0_1.length c0_1)] 27 (0, 0))) ∧ Aside0 (w'.heap[gb129]? = some (.cells #[.int .i64 ((rd_T77 l0_0 x4_1).f0), .bool bq8, .int .i64 ((rd_T77 l0_0 x4_1).f2.f0), .int .i64 ((rd_T77 l0_0 x4_1).f2.f1), .int .i64 ((rd_T77 l0_0 x4_1).f2.f2)] 77 (0, 0))) ∧ Aside0 (Below w.heap.size w w'))
         case atStart => exact ⟨(0), re, H', ⟨Nat.le_refl _⟩, ⟨bk BK126.out⟩, ⟨bk BK129.out⟩, ⟨bw2 HB.out GE126.out GE129.out⟩⟩
         case round =>
          clear H';(try clear c1); (try clear p1); (try clear q1); (try clear hx1); (try clear c2); (try clear p2); (try clear c3); (try clear c5); (try clear c6); (try clear c6b0); (try clear c7); (try clear c7b0); (try clear q8); (try clear c12); (try clear p12); (try clear q12); (try clear hx12); (try clear c15); (try clear c16); (try clear c17); (try clear c19); (try clear c21); (try clear hcz10_0 hcz10_1); (try clear hcz13_0 hcz13_1 hcz13_2 hcz13_3 hcz13_4); (try clear hcz18_0 hcz18_1 hcz18_2 hcz18_3 hcz18_4); (try clear hcz20_0 hcz20_1 hcz20_2 hcz20_3 hcz20_4); (try clear hcz5_0 hcz5_1); (try clear hfz10_0 hfz10_1); (try clear hfz13_0 hfz13_1 hfz13_2 hfz13_3 hfz13_4); (try clear hfz18_0 hfz18_1 hfz18_2 hfz18_3 hfz18_4); (try clear hfz20_0 hfz20_1 hfz20_2 hfz20_3 hfz20_4); (try clear hfz5_0 hfz5_1); (try clear hx128_0 hx128_1 hx128_2 hx128_3 hx128_4); (try clear p1); (try clear p12); (try clear p128); (try clear p2); (try clear q1); (try clear q12); (try clear q128); (try clear q8)
          obtain ⟨x6_3, rfl, HA, HK3, BK126, BK129, HB⟩ := hrel;cases gk with
          | zero => exact absurd HA.out (by simp [spec_ArenaOk.l1])
          | succ k3 =>
           have H := HA.out;clear HA;simp only [spec_ArenaOk.l1] at H
           by_cases c22 : x6_3 < 3
           ·rw [if_pos c22] at H
            have c22b0 : decide (x6_3 < 3) = true := decide_eq_true c22;clear c22
            by_cases c23 : x6_3 = 0
            ·subst c23
             rw [if_pos rfl] at H;replace H := Option.bind_eq_some_iff.mp H;obtain ⟨t131, A240, H⟩ := H;have A24 := A_ A240;clear A240
             by_cases c25 : t131 = true
             ·subst c25
              rw [if_pos rfl] at H;have H' := A_ H;clear H;have hnb26 := NB129_126.out;have hnc26 := NB126_129.out;obtain ⟨hcz27_0, hcz27_1, hcz27_2, hcz27_3, hcz27_4, hfz27_0, hfz27_1, hfz27_2, hfz27_3, hfz27_4⟩ := cs5_ BK129.out
              go_wp2_with (first | ((with_reducible refine gk_ 93 rfl ?_); refine gL_ (some 48) Try.func93 #[.int .i64 ((rd_T77 l0_0 x4_1).f2.f0)] ?_; (with_reducible refine (spec_l1Value.calls ((rd_T77 l0_0 x4_1).f2.f0) true _ A24.out).mono ?_); rintro e w' ⟨rfl, ⟨nd, rfl⟩⟩; refine ⟨_, rfl, ?_⟩))
              go_roundg k3
              case measure => have := HK1.out; have := HJ8.out; have := HK3.out; omega
              case rel => exact ⟨(wrap64 (0 + 1)), (by first | rfl | (simp; done) | (simp [*]; done) | (simp [wrap64]; done)), H', ⟨by have := HK1.out; have := HJ8.out; have := HK3.out; omega⟩, ⟨bk BK126.out⟩, ⟨bk BK129.out⟩, ⟨bw2 HB.out GE126.out GE129.out⟩⟩
             ·replace c25 := Bool.eq_false_iff.mpr c25
              subst c25;rw [if_neg (show ¬ (false = true) by decide)] at H;exact absurd H (by first | (simp; done) | ((repeat' split) <;> simp))
            ·rw [if_neg c23] at H
             clear c23
             by_cases c28 : x6_3 = 1
             ·subst c28
              rw [if_pos rfl] at H;replace H := Option.bind_eq_some_iff.mp H;obtain ⟨t132, A290, H⟩ := H;have A29 := A_ A290;clear A290
              by_cases c30 : t132 = true
              ·subst c30
               rw [if_pos rfl] at H;have H' := A_ H;clear H;have hnb31 := NB129_126.out;have hnc31 := NB126_129.out;obtain ⟨hcz32_0, hcz32_1, hcz32_2, hcz32_3, hcz32_4, hfz32_0, hfz32_1, hfz32_2, hfz32_3, hfz32_4⟩ := cs5_ BK129.out
               go_wp2_with (first | ((with_reducible refine gk_ 93 rfl ?_); refine gL_ (some 48) Try.func93 #[.int .i64 ((rd_T77 l0_0 x4_1).f2.f1)] ?_; (with_reducible refine (spec_l1Value.calls ((rd_T77 l0_0 x4_1).f2.f1) true _ A29.out).mono ?_); rintro e w' ⟨rfl, ⟨nd, rfl⟩⟩; refine ⟨_, rfl, ?_⟩))
               go_roundg k3
               case measure => have := HK1.out; have := HJ8.out; have := HK3.out; omega
               case rel => exact ⟨(wrap64 (1 + 1)), (by first | rfl | (simp; done) | (simp [*]; done) | (simp [wrap64]; done)), H', ⟨by have := HK1.out; have := HJ8.out; have := HK3.out; omega⟩, ⟨bk BK126.out⟩, ⟨bk BK129.out⟩, ⟨bw2 HB.out GE126.out GE129.out⟩⟩
              ·replace c30 := Bool.eq_false_iff.mpr c30
               subst c30;rw [if_neg (show ¬ (false = true) by decide)] at H;exact absurd H (by first | (simp; done) | ((repeat' split) <;> simp))
             ·rw [if_neg c28] at H
              clear c28
              by_cases c33 : x6_3 = 2
              ·subst c33
               rw [if_pos rfl] at H;replace H := Option.bind_eq_some_iff.mp H;obtain ⟨t133, A340, H⟩ := H;have A34 := A_ A340;clear A340
               by_cases c35 : t133 = true
               ·subst c35
                rw [if_pos rfl] at H;have H' := A_ H;clear H;have hnb36 := NB129_126.out;have hnc36 := NB126_129.out;obtain ⟨hcz37_0, hcz37_1, hcz37_2, hcz37_3, hcz37_4, hfz37_0, hfz37_1, hfz37_2, hfz37_3, hfz37_4⟩ := cs5_ BK129.out
                go_wp2_with (first | ((with_reducible refine gk_ 93 rfl ?_); refine gL_ (some 48) Try.func93 #[.int .i64 ((rd_T77 l0_0 x4_1).f2.f2)] ?_; (with_reducible refine (spec_l1Value.calls ((rd_T77 l0_0 x4_1).f2.f2) true _ A34.out).mono ?_); rintro e w' ⟨rfl, ⟨nd, rfl⟩⟩; refine ⟨_, rfl, ?_⟩))
                go_roundg k3
                case measure => have := HK1.out; have := HJ8.out; have := HK3.out; omega
                case rel => exact ⟨(wrap64 (2 + 1)), (by first | rfl | (simp; done) | (simp [*]; done) | (simp [wrap64]; done)), H', ⟨by have := HK1.out; have := HJ8.out; have := HK3.out; omega⟩, ⟨bk BK126.out⟩, ⟨bk BK129.out⟩, ⟨bw2 HB.out GE126.out GE129.out⟩⟩
               ·replace c35 := Bool.eq_false_iff.mpr c35
                subst c35;rw [if_neg (show ¬ (false = true) by decide)] at H;exact absurd H (by first | (simp; done) | ((repeat' split) <;> simp))
              ·rw [if_neg c33] at H
               clear c33;exact absurd H (by simp)
           ·rw [if_neg c22] at H
            have c22b0 : decide (x6_3 < 3) = false := decide_eq_false c22;clear c22
            by_cases c38 : bq8 = true
            ·subst c38
             rw [if_pos rfl] at H
             by_cases c39 : ((rd_T77 l0_0 x4_1).f0) < 5
             ·rw [if_pos c39] at H
              have c39b0 : decide (((rd_T77 l0_0 x4_1).f0) < 5) = true := decide_eq_true c39;clear c39;have H' := A_ H;clear H;have hnb40 := NB129_126.out;have hnc40 := NB126_129.out;obtain ⟨hcz41_0, hcz41_1, hcz41_2, hcz41_3, hcz41_4, hfz41_0, hfz41_1, hfz41_2, hfz41_3, hfz41_4⟩ := cs5_ BK129.out;go_wp2
              go_roundg k3
              case measure => have := HK1.out; have := HJ8.out; have := HK3.out; omega
              case rel => exact ⟨(wrap64 (x3_1 + 1)), (wrap64 (x4_1 + 1)), re, re, H', ⟨by have := HK1.out; have := HJ8.out; have := HK3.out; omega⟩, ⟨bk BK126.out⟩, ⟨bw2 HB.out GE126.out GE129.out⟩⟩
             ·rw [if_neg c39] at H
              have c39b0 : decide (((rd_T77 l0_0 x4_1).f0) < 5) = false := decide_eq_false c39;clear c39;have H' := A_ H;clear H;have hnb42 := NB129_126.out;have hnc42 := NB126_129.out;obtain ⟨hcz43_0, hcz43_1, hcz43_2, hcz43_3, hcz43_4, hfz43_0, hfz43_1, hfz43_2, hfz43_3, hfz43_4⟩ := cs5_ BK129.out;go_wp2
              go_roundg k3
              case measure => have := HK1.out; have := HJ8.out; have := HK3.out; omega
              case rel => exact ⟨(x3_1), (wrap64 (x4_1 + 1)), re, re, H', ⟨by have := HK1.out; have := HJ8.out; have := HK3.out; omega⟩, ⟨bk BK126.out⟩, ⟨bw2 HB.out GE126.out GE129.out⟩⟩
            ·replace c38 := Bool.eq_false_iff.mpr c38
             subst c38;rw [if_neg (show ¬ (false = true) by decide)] at H;have H' := A_ H;clear H;have hnb44 := NB129_126.out;have hnc44 := NB126_129.out;obtain ⟨hcz45_0, hcz45_1, hcz45_2, hcz45_3, hcz45_4, hfz45_0, hfz45_1, hfz45_2, hfz45_3, hfz45_4⟩ := cs5_ BK129.out;go_wp2
             go_roundg k3
             case measure => have := HK1.out; have := HJ8.out; have := HK3.out; omega
             case rel => exact ⟨(x3_1), (wrap64 (x4_1 + 1)), re, re, H', ⟨by have := HK1.out; have := HJ8.out; have := HK3.out; omega⟩, ⟨bk BK126.out⟩, ⟨bw2 HB.out GE126.out GE129.out⟩⟩
     ·rw [if_neg c7] at H
      exact absurd H (by simp)
    ·rw [if_neg c6] at H
     have c6b0 : decide (x4_1 < (l0_0.length : Int)) = false := decide_eq_false c6;clear c6;have H' := A_ H;clear H;obtain ⟨hcz46_0, hcz46_1, hfz46_0, hfz46_1⟩ := cs2_ BK126.out;go_wp2
     go_loopg [7] k1 (fun kq v7 w' => ∃ (x7_2 : Int), v7 = .int .i64 x7_2 ∧ Aside0 (spec_ArenaOk.l2 kq x3_1 x7_2 l0_0 l0_1 = some true) ∧ Aside0 (kq ≤ k1) ∧ Aside0 (w'.heap[gb126]? = some (.cells #[(.slice A0_0 l0_0.length c0_0), (.slice A0_1 l0_1.length c0_1)] 27 (0, 0))) ∧ Aside0 (Below w.heap.size w w'))
     case atStart => exact ⟨(0), re, H', ⟨Nat.le_refl _⟩, ⟨bk BK126.out⟩, ⟨bw1 HB.out GE126.out⟩⟩
     case round =>
      clear H';(try clear c1); (try clear p1); (try clear q1); (try clear hx1); (try clear c2); (try clear p2); (try clear c3); (try clear c4); (try clear c5); (try clear c6); (try clear c6b0); (try clear p6); (try clear c7); (try clear c7b0); (try clear q8); (try clear c9); (try clear c12); (try clear p12); (try clear q12); (try clear hx12); (try clear c15); (try clear c16); (try clear c17); (try clear c19); (try clear c21); (try clear c22); (try clear c22b0); (try clear c23); (try clear c25); (try clear c26); (try clear c28); (try clear c30); (try clear c31); (try clear c33); (try clear c35); (try clear c36); (try clear c38); (try clear c39); (try clear c39b0); (try clear c40); (try clear c42); (try clear c44); (try clear hcz10_0 hcz10_1); (try clear hcz13_0 hcz13_1 hcz13_2 hcz13_3 hcz13_4); (try clear hcz18_0 hcz18_1 hcz18_2 hcz18_3 hcz18_4); (try clear hcz20_0 hcz20_1 hcz20_2 hcz20_3 hcz20_4); (try clear hcz27_0 hcz27_1 hcz27_2 hcz27_3 hcz27_4); (try clear hcz32_0 hcz32_1 hcz32_2 hcz32_3 hcz32_4); (try clear hcz37_0 hcz37_1 hcz37_2 hcz37_3 hcz37_4); (try clear hcz41_0 hcz41_1 hcz41_2 hcz41_3 hcz41_4); (try clear hcz43_0 hcz43_1 hcz43_2 hcz43_3 hcz43_4); (try clear hcz45_0 hcz45_1 hcz45_2 hcz45_3 hcz45_4); (try clear hcz46_0 hcz46_1); (try clear hcz5_0 hcz5_1); (try clear hfz10_0 hfz10_1); (try clear hfz13_0 hfz13_1 hfz13_2 hfz13_3 hfz13_4); (try clear hfz18_0 hfz18_1 hfz18_2 hfz18_3 hfz18_4); (try clear hfz20_0 hfz20_1 hfz20_2 hfz20_3 hfz20_4); (try clear hfz27_0 hfz27_1 hfz27_2 hfz27_3 hfz27_4); (try clear hfz32_0 hfz32_1 hfz32_2 hfz32_3 hfz32_4); (try clear hfz37_0 hfz37_1 hfz37_2 hfz37_3 hfz37_4); (try clear hfz41_0 hfz41_1 hfz41_2 hfz41_3 hfz41_4); (try clear hfz43_0 hfz43_1 hfz43_2 hfz43_3 hfz43_4); (try clear hfz45_0 hfz45_1 hfz45_2 hfz45_3 hfz45_4); (try clear hfz46_0 hfz46_1); (try clear hfz5_0 hfz5_1); (try clear hx128_0 hx128_1 hx128_2 hx128_3 hx128_4); (try clear p1); (try clear p12); (try clear p128); (try clear p2); (try clear q1); (try clear q12); (try clear q128); (try clear q8)
      obtain ⟨x7_2, rfl, HA, HK2, BK126, HB⟩ := hrel;cases gk with
      | zero => exact absurd HA.out (by simp [spec_ArenaOk.l2])
      | succ k2 =>
       have H := HA.out;clear HA;simp only [spec_ArenaOk.l2] at H
       by_cases c47 : x7_2 < (l0_1.length : Int)
       ·rw [if_pos c47] at H
        have c47b0 : decide (x7_2 < (l0_1.length : Int)) = true := decide_eq_true c47;clear c47
        by_cases c48 : 0 ≤ x7_2
        ·rw [if_pos c48] at H
         have c48b0 : decide (0 ≤ x7_2) = true := decide_eq_true c48;clear c48;replace H := Option.bind_eq_some_iff.mp H;obtain ⟨t135, A490, H⟩ := H;have A49 := A_ A490;clear A490
         by_cases c50 : t135 = true
         ·subst c50
          rw [if_pos rfl] at H
          by_cases c51 : 0 ≤ (rd l0_1 x7_2)
          ·rw [if_pos c51] at H
           have c51b0 : decide (0 ≤ (rd l0_1 x7_2)) = true := decide_eq_true c51;clear c51
           by_cases c52 : (rd l0_1 x7_2) < (l0_0.length : Int)
           ·rw [if_pos c52] at H
            have c52b0 : decide ((rd l0_1 x7_2) < (l0_0.length : Int)) = true := decide_eq_true c52;clear c52;obtain ⟨bq53, hbq53⟩ : ∃ b_ : Bool, b_ = ((rd_T77 l0_0 (rd l0_1 x7_2)).f1) := ⟨_, rfl⟩;rw [← hbq53] at H;have Nbq53 := A_ hbq53;clear hbq53
            by_cases c54 : (bq53 = true)
            ·subst c54
             rw [if_pos rfl] at H
             by_cases c55 : ((rd_T77 l0_0 (rd l0_1 x7_2)).f0) = 5
             ·rw [if_pos c55] at H
              have c55b0 : (((rd_T77 l0_0 (rd l0_1 x7_2)).f0) == 5) = true := beq_iff_eq.mpr c55;have c55b1 : (((rd_T77 l0_0 (rd l0_1 x7_2)).f0) != 5) = false := bne_eq_false_iff_eq.mpr c55;clear c55;exact absurd H (by first | (simp; done) | ((repeat' split) <;> simp))
             ·rw [if_neg c55] at H
              have c55b0 : (((rd_T77 l0_0 (rd l0_1 x7_2)).f0) == 5) = false := beq_eq_false_iff_ne.mpr c55;have c55b1 : (((rd_T77 l0_0 (rd l0_1 x7_2)).f0) != 5) = true := bne_iff_ne.mpr c55;have c56b0 := eq_true (oa : 0 ≤ x7_2)
              by_cases c57 : x7_2 ≤ (l0_1.length : Int)
              ·rw [if_pos c57] at H
               have c57b0 := eq_true c57;have c57b1 : decide (x7_2 ≤ (l0_1.length : Int)) = true := decide_eq_true c57;clear c57;replace H := Option.bind_eq_some_iff.mp H;obtain ⟨t139, A580, H⟩ := H;have A58 := A_ A580;clear A580
               by_cases c59 : t139 = true
               ·subst c59
                rw [if_pos rfl] at H;exact absurd H (by first | (simp; done) | ((repeat' split) <;> simp))
               ·replace c59 := Bool.eq_false_iff.mpr c59
                subst c59;rw [if_neg (show ¬ (false = true) by decide)] at H;have H' := A_ H;clear H;obtain ⟨hcz60_0, hcz60_1, hfz60_0, hfz60_1⟩ := cs2_ BK126.out;have p134 : 0 ≤ (x7_2 : Int) := oa;have q134 : x7_2 < (l0_1.length : Int) := oa;obtain ⟨ad134, e134, hx134_0⟩ := Kd.at_int HR0_1.out x7_2 p134 q134;cases e134;replace hx134_0 := (HB.out.cell (World.block_lt_of_cell? w _ hx134_0)).trans hx134_0;replace p134 := eq_true p134;replace q134 := eq_true q134
                go_wp2_with (first | ((with_reducible refine gk_ 55 rfl ?_); refine gL_ (some 76) Try.func55 #[.int .i64 (rd l0_1 x7_2), .int .i64 0, .int .i64 (wrap64 ((l0_0.length : Int) - 1))] ?_; (with_reducible refine (spec_l1In.calls (rd l0_1 x7_2) 0 (wrap64 ((l0_0.length : Int) - 1)) true _ A49.out).mono ?_); rintro e w' ⟨rfl, ⟨nd, rfl⟩⟩; refine ⟨_, rfl, ?_⟩; have p136 : 0 ≤ ((rd l0_1 x7_2) : Int) := oa; have q136 : (rd l0_1 x7_2) < (l0_0.length : Int) := oa; obtain ⟨ad136, e136, hx136_0, hx136_1, hx136_2, hx136_3, hx136_4⟩ := at_T77 HR0_0.out (rd l0_1 x7_2) p136 q136; (try rw [← Nbq53.out] at hx136_1); cases e136; replace hx136_0 := (HB.out.cell (World.block_lt_of_cell? w _ hx136_0)).trans hx136_0; replace hx136_1 := (HB.out.cell (World.block_lt_of_cell? w _ hx136_1)).trans hx136_1; replace hx136_2 := (HB.out.cell (World.block_lt_of_cell? w _ hx136_2)).trans hx136_2; replace hx136_3 := (HB.out.cell (World.block_lt_of_cell? w _ hx136_3)).trans hx136_3; replace hx136_4 := (HB.out.cell (World.block_lt_of_cell? w _ hx136_4)).trans hx136_4; replace p136 := eq_true p136; replace q136 := eq_true q136; have p137 : 0 ≤ ((rd l0_1 x7_2) : Int) := oa; have q137 : (rd l0_1 x7_2) < (l0_0.length : Int) := oa; obtain ⟨ad137, e137, hx137_0, hx137_1, hx137_2, hx137_3, hx137_4⟩ := at_T77 HR0_0.out (rd l0_1 x7_2) p137 q137; (try rw [← Nbq53.out] at hx137_1); obtain rfl : ad136 = ad137 := (by injection e137); replace hx137_0 := (HB.out.cell (World.block_lt_of_cell? w _ hx137_0)).trans hx137_0; replace hx137_1 := (HB.out.cell (World.block_lt_of_cell? w _ hx137_1)).trans hx137_1; replace hx137_2 := (HB.out.cell (World.block_lt_of_cell? w _ hx137_2)).trans hx137_2; replace hx137_3 := (HB.out.cell (World.block_lt_of_cell? w _ hx137_3)).trans hx137_3; replace hx137_4 := (HB.out.cell (World.block_lt_of_cell? w _ hx137_4)).trans hx137_4; replace p137 := eq_true p137; replace q137 := eq_true q137; obtain ⟨i061, hi061, _, hsz61, _⟩ := info_parts info3; obtain ⟨hcut61, hA61, hC61⟩ := print_take_of (P := Try.prog) (Value.int .i64) 0 25 3 .i64 Try.underlying25 hi061 hsz61 (some ad134) c0_1 l0_1 x7_2 (oa) (oa) HC0_1.out; have HR138 := A_ (Kd.C_of_reads (h1 := fun _ => rfl) (hA61 _ (Kd.reads_of_C HR0_1.out))); have HC138 := A_ hC61; clear hA61 hC61 hi061 hsz61) | (go_at_call 75; (first | (refine calls_of_args (args' := #[.slice (some ad134) (l0_1.take (x7_2 : Int).toNat).length c0_1, .int .i64 (rd l0_1 x7_2)]) (by first | (rw [show (l0_1.take (x7_2 : Int).toNat).length = x7_2.toNat from (by rw [List.length_take]; have h_ : (x7_2 : Int) ≤ (l0_1.length : Int) := oa; omega)] <;> rfl) | rfl) ?_) | skip); (with_reducible refine (spec_l1Has.calls k2 _ _ (l0_1.take (x7_2 : Int).toNat) (rd l0_1 x7_2) false _ ?side1 ?side2 A58.out).mono ?_); (case side1 => exact ck (Kd.C_below HR138.out (bw1 HB.out GE126.out))); (case side2 => exact HC138.out); rintro e w' ⟨rfl, ⟨nd, rfl⟩⟩))
                go_roundg k2
                case measure => have := HK1.out; have := HK2.out; omega
                case rel => exact ⟨(wrap64 (x7_2 + 1)), re, H', ⟨by have := HK1.out; have := HK2.out; omega⟩, ⟨bk BK126.out⟩, ⟨bw1 HB.out GE126.out⟩⟩
              ·rw [if_neg c57] at H
               exact absurd H (by simp)
            ·replace c54 := Bool.eq_false_iff.mpr c54
             subst c54;rw [if_neg (show ¬ (false = true) by decide)] at H;exact absurd H (by first | (simp; done) | ((repeat' split) <;> simp))
           ·rw [if_neg c52] at H
            exact absurd H (by simp)
          ·rw [if_neg c51] at H
           exact absurd H (by simp)
         ·replace c50 := Bool.eq_false_iff.mpr c50
          subst c50;rw [if_neg (show ¬ (false = true) by decide)] at H;exact absurd H (by first | (simp; done) | ((repeat' split) <;> simp))
        ·rw [if_neg c48] at H
         exact absurd H (by simp)
       ·rw [if_neg c47] at H
        have c47b0 : decide (x7_2 < (l0_1.length : Int)) = false := decide_eq_false c47;clear c47;have HT_ := A_ (Option.some.inj H);clear H;obtain ⟨hcz62_0, hcz62_1, hfz62_0, hfz62_1⟩ := cs2_ BK126.out;go_wp2
        go_ret
        (try rw [HT_.out])
        (try simp only [HT_.out])
        exact ⟨er, bw1 HB.out GE126.out⟩
 ·replace c3 := Bool.eq_false_iff.mpr c3
  subst c3;rw [if_neg (show ¬ (false = true) by decide)] at H;exact absurd H (by first | (simp; done) | ((repeat' split) <;> simp))


end Go.Proofs.Ytemdjfiimgjiaaa.R
namespace Go.Proofs.Ytemdjfiimgjiaaa.R
open Go.Proofs.Ytemdjfiimgjiaaa.Sq
open Go.RowKit Go.Proofs.YtemdjfiimgjiaaaW.PrintWords Go.Proofs.YtemdjfiimgjiaaaW.PrintLast Go.Proofs.YtemdjfiimgjiaaaW.PrintMore
attribute [local go_sem] max2_int min2_int max_two min_two max_three min_three max_four min_four   -- for this text's walks alone
set_option linter.unusedVariables false
set_option linter.unusedSimpArgs false

def spec_l1All.l0 : Nat → List Int → Int → Int → Int → Option (Bool)
 | 0, _, _, _, _ => none
 | k + 1, x0, x1, x2, x7 => if x7 < (x0.length : Int) then (if 0 ≤ x7 then ((spec_l1In.f (rd x0 x7) x1 x2).bind fun t141 => (if t141 = true then (spec_l1All.l0 k x0 x1 x2 (wrap64 (x7 + 1))) else (some false))) else (none)) else (some true)
def spec_l1All.f (k : Nat) (l0 : List Int) (a1 : Int) (a2 : Int) : Option (Bool) := spec_l1All.l0 k l0 a1 a2 0
set_option maxHeartbeats 8000000 in
set_option maxRecDepth 100000 in
theorem spec_l1All.calls (k : Nat) (A0 : Option Addr) (c0 : Nat) (l0 : List Int) (a1 : Int) (a2 : Int) (r : Bool) (w : World) (hr0 : Kd.C (Kd.int .i64) w A0 l0.length l0) (hc0 : l0.length ≤ c0) (h : spec_l1All.f k l0 a1 a2 = some r) :
  Calls Try.prog 69 #[.slice A0 l0.length c0, .int .i64 a1, .int .i64 a2] w fun e w' => e = .returned (.bool r) ∧ Drawn0 w w' := by
 have HR0 := A_ hr0;have HC0 := A_ hc0;clear hr0 hc0;have H : (spec_l1All.l0 k l0 a1 a2 0) = some r := h;clear h;have H' := A_ H;clear H
 go_enter Try.func69, Try.ntmps69
 go_wp2
 go_loopg [7] k (fun kq v7 w' => ∃ (x7_1 : Int), v7 = .int .i64 x7_1 ∧ Aside0 (spec_l1All.l0 kq l0 a1 a2 x7_1 = some r) ∧ Aside0 (kq ≤ k) ∧ Drawn0 w w')
 case atStart => exact ⟨(0), re, H', ⟨Nat.le_refl _⟩, dw⟩
 case round =>
  clear H'
  try clear p2
  obtain ⟨x7_1, rfl, HA, HK1, ⟨m1, rfl⟩⟩ := hrel;cases gk with
  | zero => exact absurd HA.out (by simp [spec_l1All.l0])
  | succ k1 =>
   have H := HA.out;clear HA;simp only [spec_l1All.l0] at H
   by_cases c4 : x7_1 < (l0.length : Int)
   ·rw [if_pos c4] at H
    have c4b0 : decide (x7_1 < (l0.length : Int)) = true := decide_eq_true c4;clear c4
    by_cases c5 : 0 ≤ x7_1
    ·rw [if_pos c5] at H
     have c5b0 : decide (0 ≤ x7_1) = true := decide_eq_true c5;clear c5;replace H := Option.bind_eq_some_iff.mp H;obtain ⟨t141, A60, H⟩ := H;have A6 := A_ A60;clear A60;have HC7 := A_ H;clear H;have p140 : 0 ≤ (x7_1 : Int) := oa;have q140 : x7_1 < (l0.length : Int) := oa;obtain ⟨ad140, e140, hx140_0⟩ := Kd.at_int HR0.out x7_1 p140 q140;cases e140;replace p140 := eq_true p140;replace q140 := eq_true q140
     go_upto_if 21 with (first | ((with_reducible refine gk_ 55 rfl ?_); refine gL_ (some 20) Try.func55 #[.int .i64 (rd l0 x7_1), .int .i64 a1, .int .i64 a2] ?_; (with_reducible refine (spec_l1In.calls (rd l0 x7_1) a1 a2 t141 _ A6.out).mono ?_); rintro e w' ⟨rfl, ⟨nd, rfl⟩⟩; refine ⟨_, rfl, ?_⟩))
     (try simp only [Act.put, sx_, sy_, sz_])
     have H := HC7.out;clear HC7
     by_cases c8 : t141 = true
     ·subst c8
      rw [if_pos rfl] at H;have H' := A_ H;clear H;go_wp2
      go_roundg k1
      case measure => have := HK1.out; omega
      case rel => exact ⟨(wrap64 (x7_1 + 1)), re, H', ⟨by have := HK1.out; omega⟩, dw⟩
     ·replace c8 := Bool.eq_false_iff.mpr c8
      subst c8;rw [if_neg (show ¬ (false = true) by decide)] at H;obtain rfl := Option.some.inj H;go_wp2
      go_ret
      exact ⟨by first | rfl | (simp; done) | (simp [*]; done), dw⟩
    ·rw [if_neg c5] at H
     exact absurd H (by simp)
   ·rw [if_neg c4] at H
    have c4b0 : decide (x7_1 < (l0.length : Int)) = false := decide_eq_false c4;clear c4;obtain rfl := Option.some.inj H;go_wp2
    go_ret
    exact ⟨by first | rfl | (simp; done) | (simp [*]; done), dw⟩

def spec_Live.f (k : Nat) (l0_0 : List (S77)) (l0_1 : List Int) (a1 : Int) : Option (Bool) := (spec_ArenaOk.f k l0_0 l0_1).bind fun t143 => (if t143 = true then ((spec_l1In.f a1 0 (wrap64 ((wrap64 (8 * (l0_0.length : Int))) - 1))).bind fun t144 => (if t144 = true then (if 0 ≤ (wrap64 (Int.tdiv a1 8)) then (if (wrap64 (Int.tdiv a1 8)) < (l0_0.length : Int) then (if ((rd_T77 l0_0 (wrap64 (Int.tdiv a1 8))).f1 = true) then (some false) else (some (((rd_T77 l0_0 (wrap64 (Int.tdiv a1 8))).f0) == (Int.tmod a1 8)))) else (none)) else (none)) else (some false))) else (none))
set_option maxHeartbeats 8000000 in
set_option maxRecDepth 100000 in
theorem spec_Live.calls (k : Nat) (A0_0 : Option Addr) (c0_0 : Nat) (l0_0 : List (S77)) (A0_1 : Option Addr) (c0_1 : Nat) (l0_1 : List Int) (a1 : Int) (r : Bool) (w : World) (hr0_0 : Kd.C k77 w A0_0 l0_0.length l0_0) (hc0_0 : l0_0.length ≤ c0_0) (hr0_1 : Kd.C (Kd.int .i64) w A0_1 l0_1.length l0_1) (hc0_1 : l0_1.length ≤ c0_1) (h : spec_Live.f k l0_0 l0_1 a1 = some r) :
  Calls Try.prog 70 #[.agg #[.slice A0_0 l0_0.length c0_0, .slice A0_1 l0_1.length c0_1], .int .i64 a1] w fun e w' => e = .returned (.bool r) ∧ Below w.heap.size w w' := by
 have hu27 := Try.underlying27;have hu77 := Try.underlying77;have HR0_0 := A_ hr0_0;have HC0_0 := A_ hc0_0;clear hr0_0 hc0_0;have HR0_1 := A_ hr0_1;have HC0_1 := A_ hc0_1;clear hr0_1 hc0_1;have HB := A_ (Below.refl w.heap.size w);have H : ((spec_ArenaOk.f k l0_0 l0_1).bind fun t143 => (if t143 = true then ((spec_l1In.f a1 0 (wrap64 ((wrap64 (8 * (l0_0.length : Int))) - 1))).bind fun t144 => (if t144 = true then (if 0 ≤ (wrap64 (Int.tdiv a1 8)) then (if (wrap64 (Int.tdiv a1 8)) < (l0_0.length : Int) then (if ((rd_T77 l0_0 (wrap64 (Int.tdiv a1 8))).f1 = true) then (some false) else (some (((rd_T77 l0_0 (wrap64 (Int.tdiv a1 8))).f0) == (Int.tmod a1 8)))) else (none)) else (none)) else (some false))) else (none))) = some r := h;clear h;replace H := Option.bind_eq_some_iff.mp H;obtain ⟨t143, A30, H⟩ := H;have A3 := A_ A30;clear A30
 by_cases c4 : t143 = true
 ·subst c4
  rw [if_pos rfl] at H;replace H := Option.bind_eq_some_iff.mp H;obtain ⟨t144, A50, H⟩ := H;have A5 := A_ A50;clear A50;have HC6 := A_ H;clear H
  go_enter Try.func70, Try.ntmps70
  go_upto_if 18 with (first | ((with_reducible refine gd_ 2 rfl ?_); (try (refine gate_guard (by rfl) ?_; dsimp only)); refine bx_ 2 #[.slice A0_0 l0_0.length c0_0, .slice A0_1 l0_1.length c0_1] 27 ?_; intro gb142 hg w7 hbox hb; have BK142 := A_ (hbox); have GW142 := A_ ((szl_ w hg (bw HB.out))); replace HB := A_ (below_step (bw HB.out) hb); have GE142 := GW142; clear hb hbox hg; obtain ⟨hcz8_0, hcz8_1, hfz8_0, hfz8_1⟩ := cs2_ BK142.out) | ((with_reducible refine gk_ 68 rfl ?_); refine gL_ (some 7) Try.func68 #[.agg #[.slice A0_0 l0_0.length c0_0, .slice A0_1 l0_1.length c0_1]] ?_; (with_reducible refine (spec_ArenaOk.calls k _ _ l0_0 _ _ l0_1 true _ ?side1 ?side2 ?side3 ?side4 A3.out).mono ?_); (case side1 => exact ck (Kd.C_below HR0_0.out HB.out)); (case side2 => exact HC0_0.out); (case side3 => exact ck (Kd.C_below HR0_1.out HB.out)); (case side4 => exact HC0_1.out); rintro e w9 ⟨rfl, hb⟩; refine ⟨_, rfl, ?_⟩; replace BK142 := A_ (bB BK142.out hb); replace HB := A_ (below_step (bw1 HB.out GE142.out) hb); (try clear hb); obtain ⟨hcz10_0, hcz10_1, hfz10_0, hfz10_1⟩ := cs2_ BK142.out) | (go_at_call 55; (with_reducible refine (spec_l1In.calls a1 0 (wrap64 ((wrap64 (8 * (l0_0.length : Int))) - 1)) t144 _ A5.out).mono ?_); rintro e w' ⟨rfl, ⟨nd, rfl⟩⟩))
  (try simp only [Act.put, sx_, sy_, sz_])
  have H := HC6.out;clear HC6
  by_cases c11 : t144 = true
  ·subst c11
   rw [if_pos rfl] at H;obtain ⟨ji12, hji12⟩ : ∃ j_ : Int, (wrap64 (Int.tdiv a1 8)) = j_ := ⟨_, rfl⟩;rw [hji12] at H;have hji12w : (IntKind.i64.wrap (Int.tdiv a1 8)) = ji12 := (i64_w _).trans hji12
   by_cases c13 : 0 ≤ (ji12)
   ·rw [if_pos c13] at H
    have c13b0 : decide (0 ≤ (ji12)) = true := decide_eq_true c13;clear c13;(first | rw [c13b0] | (simp only [i64_w, i32_w]; rw [c13b0]) | skip)
    by_cases c14 : (ji12) < (l0_0.length : Int)
    ·rw [if_pos c14] at H
     have c14b0 : decide ((ji12) < (l0_0.length : Int)) = true := decide_eq_true c14;clear c14;obtain ⟨bq15, hbq15⟩ : ∃ b_ : Bool, b_ = ((rd_T77 l0_0 (ji12)).f1) := ⟨_, rfl⟩;rw [← hbq15] at H;have Nbq15 := A_ hbq15;clear hbq15
     by_cases c16 : (bq15 = true)
     ·subst c16
      rw [if_pos rfl] at H;obtain rfl := Option.some.inj H;obtain ⟨hcz17_0, hcz17_1, hfz17_0, hfz17_1⟩ := cs2_ BK142.out;have p145 : 0 ≤ ((ji12) : Int) := oa;have q145 : (ji12) < (l0_0.length : Int) := oa;obtain ⟨ad145, e145, hx145_0, hx145_1, hx145_2, hx145_3, hx145_4⟩ := at_T77 HR0_0.out (ji12) p145 q145
      (try rw [← Nbq15.out] at hx145_1)
      cases e145;replace hx145_0 := (HB.out.cell (World.block_lt_of_cell? w _ hx145_0)).trans hx145_0;replace hx145_1 := (HB.out.cell (World.block_lt_of_cell? w _ hx145_1)).trans hx145_1;replace hx145_2 := (HB.out.cell (World.block_lt_of_cell? w _ hx145_2)).trans hx145_2;replace hx145_3 := (HB.out.cell (World.block_lt_of_cell? w _ hx145_3)).trans hx145_3;replace hx145_4 := (HB.out.cell (World.block_lt_of_cell? w _ hx145_4)).trans hx145_4;replace p145 := eq_true p145;replace q145 := eq_true q145
      go_wp2_with (first | ((with_reducible refine gd_ 5 rfl ?_); (try (refine gate_guard (by rfl) ?_; dsimp only)); refine bx_ 5 #[.int .i64 0, .bool false, .int .i64 0, .int .i64 0, .int .i64 0] 77 ?_; intro gb146 hg w18 hbox hb; have BK146 := A_ (hbox); have GW146 := A_ ((szl_ w hg (bw1 HB.out GE142.out))); replace HB := A_ (below_step (bw1 HB.out GE142.out) hb); have GE146 := GW146; have NB142_146 := A_ ((nl_ hg (bL BK142.out))); have NB146_142 := A_ ((ng_ hg (bL BK142.out))); replace BK142 := A_ (bB BK142.out hb); clear hb hbox hg; have hnb19 := NB146_142.out; have hnc19 := NB142_146.out; obtain ⟨hcz20_0, hcz20_1, hcz20_2, hcz20_3, hcz20_4, hfz20_0, hfz20_1, hfz20_2, hfz20_3, hfz20_4⟩ := cs5_ BK146.out))
      go_ret
      exact ⟨by first | rfl | (simp [errW_none, errW_some] <;> rfl) | (simp only [← hji12]; first | rfl | (simp [errW_none, errW_some] <;> rfl)) | (simp [*, errW_none, errW_some] <;> rfl), bw2 HB.out GE142.out GE146.out⟩
     ·replace c16 := Bool.eq_false_iff.mpr c16
      subst c16;rw [if_neg (show ¬ (false = true) by decide)] at H;obtain rfl := Option.some.inj H;obtain ⟨hcz21_0, hcz21_1, hfz21_0, hfz21_1⟩ := cs2_ BK142.out;have p145 : 0 ≤ ((ji12) : Int) := oa;have q145 : (ji12) < (l0_0.length : Int) := oa;obtain ⟨ad145, e145, hx145_0, hx145_1, hx145_2, hx145_3, hx145_4⟩ := at_T77 HR0_0.out (ji12) p145 q145
      (try rw [← Nbq15.out] at hx145_1)
      cases e145;replace hx145_0 := (HB.out.cell (World.block_lt_of_cell? w _ hx145_0)).trans hx145_0;replace hx145_1 := (HB.out.cell (World.block_lt_of_cell? w _ hx145_1)).trans hx145_1;replace hx145_2 := (HB.out.cell (World.block_lt_of_cell? w _ hx145_2)).trans hx145_2;replace hx145_3 := (HB.out.cell (World.block_lt_of_cell? w _ hx145_3)).trans hx145_3;replace hx145_4 := (HB.out.cell (World.block_lt_of_cell? w _ hx145_4)).trans hx145_4;replace p145 := eq_true p145;replace q145 := eq_true q145
      go_wp2_with (first | ((with_reducible refine gd_ 5 rfl ?_); (try (refine gate_guard (by rfl) ?_; dsimp only)); refine bx_ 5 #[.int .i64 0, .bool false, .int .i64 0, .int .i64 0, .int .i64 0] 77 ?_; intro gb146 hg w22 hbox hb; have BK146 := A_ (hbox); have GW146 := A_ ((szl_ w hg (bw1 HB.out GE142.out))); replace HB := A_ (below_step (bw1 HB.out GE142.out) hb); have GE146 := GW146; have NB142_146 := A_ ((nl_ hg (bL BK142.out))); have NB146_142 := A_ ((ng_ hg (bL BK142.out))); replace BK142 := A_ (bB BK142.out hb); clear hb hbox hg; have hnb23 := NB146_142.out; have hnc23 := NB142_146.out; obtain ⟨hcz24_0, hcz24_1, hcz24_2, hcz24_3, hcz24_4, hfz24_0, hfz24_1, hfz24_2, hfz24_3, hfz24_4⟩ := cs5_ BK146.out))
      go_ret
      exact ⟨by first | rfl | (simp [errW_none, errW_some] <;> rfl) | (simp only [← hji12]; first | rfl | (simp [errW_none, errW_some] <;> rfl)) | (simp [*, errW_none, errW_some] <;> rfl), bw2 HB.out GE142.out GE146.out⟩
    ·rw [if_neg c14] at H
     exact absurd H (by simp)
   ·rw [if_neg c13] at H
    exact absurd H (by simp)
  ·replace c11 := Bool.eq_false_iff.mpr c11
   subst c11;rw [if_neg (show ¬ (false = true) by decide)] at H;obtain rfl := Option.some.inj H;go_wp2
   go_ret
   exact ⟨er, bw1 HB.out GE142.out⟩
 ·replace c4 := Bool.eq_false_iff.mpr c4
  subst c4;rw [if_neg (show ¬ (false = true) by decide)] at H;exact absurd H (by simp)

def spec_l3Find.l0 : Nat → List (S41) → Int → Int → Option (Int)
 | 0, _, _, _ => none
 | k + 1, x0, x1, x5 => if x5 < (x0.length : Int) then (if 0 ≤ x5 then (if ((rd_T41 x0 x5).f0) = x1 then (some x5) else (spec_l3Find.l0 k x0 x1 (wrap64 (x5 + 1)))) else (none)) else (some (-1))
def spec_l3Find.f (k : Nat) (l0 : List (S41)) (a1 : Int) : Option (Int) := spec_l3Find.l0 k l0 a1 0
set_option maxHeartbeats 8000000 in
set_option maxRecDepth 100000 in
theorem spec_l3Find.calls (k : Nat) (A0 : Option Addr) (c0 : Nat) (l0 : List (S41)) (a1 : Int) (r : Int) (w : World) (hr0 : Kd.C k41 w A0 l0.length l0) (hc0 : l0.length ≤ c0) (h : spec_l3Find.f k l0 a1 = some r) :
  Calls Try.prog 71 #[.slice A0 l0.length c0, .int .i64 a1] w fun e w' => e = .returned (.int .i64 r) ∧ Drawn0 w w' := by
 have HR0 := A_ hr0;have HC0 := A_ hc0;clear hr0 hc0;have H : (spec_l3Find.l0 k l0 a1 0) = some r := h;clear h;have H' := A_ H;clear H
 go_enter Try.func71, Try.ntmps71
 go_wp2
 go_loopg [5] k (fun kq v5 w' => ∃ (x5_1 : Int), v5 = .int .i64 x5_1 ∧ Aside0 (spec_l3Find.l0 kq l0 a1 x5_1 = some r) ∧ Aside0 (kq ≤ k) ∧ Drawn0 w w')
 case atStart => exact ⟨(0), re, H', ⟨Nat.le_refl _⟩, dw⟩
 case round =>
  clear H'
  try clear p2
  obtain ⟨x5_1, rfl, HA, HK1, ⟨m1, rfl⟩⟩ := hrel;cases gk with
  | zero => exact absurd HA.out (by simp [spec_l3Find.l0])
  | succ k1 =>
   have H := HA.out;clear HA;simp only [spec_l3Find.l0] at H
   by_cases c3 : x5_1 < (l0.length : Int)
   ·rw [if_pos c3] at H
    have c3b0 : decide (x5_1 < (l0.length : Int)) = true := decide_eq_true c3;clear c3
    by_cases c4 : 0 ≤ x5_1
    ·rw [if_pos c4] at H
     have c4b0 : decide (0 ≤ x5_1) = true := decide_eq_true c4;clear c4
     by_cases c5 : ((rd_T41 l0 x5_1).f0) = a1
     ·rw [if_pos c5] at H
      have c5b0 : (((rd_T41 l0 x5_1).f0) == a1) = true := beq_iff_eq.mpr c5;have c5b1 : (((rd_T41 l0 x5_1).f0) != a1) = false := bne_eq_false_iff_eq.mpr c5;clear c5;obtain rfl := Option.some.inj H;have p147 : 0 ≤ (x5_1 : Int) := oa;have q147 : x5_1 < (l0.length : Int) := oa;obtain ⟨ad147, e147, hx147_0, hx147_1⟩ := at_T41 HR0.out x5_1 p147 q147;cases e147;replace p147 := eq_true p147;replace q147 := eq_true q147;go_wp2
      go_ret
      exact ⟨by first | rfl | (simp; done) | (simp [*]; done), dw⟩
     ·rw [if_neg c5] at H
      have c5b0 : (((rd_T41 l0 x5_1).f0) == a1) = false := beq_eq_false_iff_ne.mpr c5;have c5b1 : (((rd_T41 l0 x5_1).f0) != a1) = true := bne_iff_ne.mpr c5;have H' := A_ H;clear H;have p147 : 0 ≤ (x5_1 : Int) := oa;have q147 : x5_1 < (l0.length : Int) := oa;obtain ⟨ad147, e147, hx147_0, hx147_1⟩ := at_T41 HR0.out x5_1 p147 q147;cases e147;replace p147 := eq_true p147;replace q147 := eq_true q147;go_wp2
      go_roundg k1
      case measure => have := HK1.out; omega
      case rel => exact ⟨(wrap64 (x5_1 + 1)), re, H', ⟨by have := HK1.out; omega⟩, dw⟩
    ·rw [if_neg c4] at H
     exact absurd H (by simp)
   ·rw [if_neg c3] at H
    have c3b0 : decide (x5_1 < (l0.length : Int)) = false := decide_eq_false c3;clear c3;obtain rfl := Option.some.inj H;go_wp2
    go_ret
    exact ⟨by first | rfl | (simp; done) | (simp [*]; done), dw⟩


end Go.Proofs.Ytemdjfiimgjiaaa.R
