/- What the Go functions that the law FnExactTurnAll reaches compute, as plain Lean functions, and that their calls come to just that. Conditions: those that each theorem states. Written by the session's program. -/
import Derived.Test.YthjlapmjpjpgeaaVFnExactTurnAllB
import Derived.Test.YthjlapmjpjpgeaaVFnExactTurnAll0
namespace Go.Proofs.Ythjlapmjpjpgeaa.D
open Go.RowKit Go.Proofs.YthjlapmjpjpgeaaW.PrintWords Go.Proofs.YthjlapmjpjpgeaaW.PrintLast Go.Proofs.YthjlapmjpjpgeaaW.PrintMore
attribute [local go_sem] run_store_float max2_int min2_int max_two min_two max_three min_three max_four min_four   -- for this text's walks alone
set_option linter.unusedVariables false
set_option linter.unusedSimpArgs false

def spec_Turned.j0 : Nat → List (S28) → List (S28) → Bool → Int → Int → Int → Nat → Nat → (((List (S28)) × Bool) → Prop) → Prop
 | 0, _, _, _, _, _, _, _, _, _ => False
 | k + 1, x0, x6, x42, x228000, x228001, x228002, x228003, x228004, Q_ => if x42 = true then (Q_ (x6, false)) else (if 0 ≤ x228001 then (if x228001 < (x0.length : Int) then (if x228000 = 1 then (if x228001 < (x6.length : Int) then (Q_ ((x6.set (x228001 : Int).toNat (⟨x228003, x228004⟩ : S28)), true)) else (False)) else (if x228000 = 2 then (∀ fr237 : Nat, FRk .f64 .add ((rd_T28 x0 x228001).f0) x228003 fr237 → (∀ fr238 : Nat, FRk .f64 .add ((rd_T28 x0 x228001).f1) x228004 fr238 → (if x228001 < (x6.length : Int) then (Q_ ((x6.set (x228001 : Int).toNat (⟨fr237, fr238⟩ : S28)), true)) else (False)))) else (if x228000 = 3 then (spec_PhTimes.f ((rd_T28 x0 x228001).f0) ((rd_T28 x0 x228001).f1) x228003 x228004 (fun bt240 => (if x228001 < (x6.length : Int) then (Q_ ((x6.set (x228001 : Int).toNat (⟨bt240.1, bt240.2⟩ : S28)), true)) else (False)))) else (if x228000 = 4 then (spec_PhOver.f ((rd_T28 x0 x228001).f0) ((rd_T28 x0 x228001).f1) x228003 x228004 (fun bt243 => (if bt243.2.2 = true then (if x228001 < (x6.length : Int) then (Q_ ((x6.set (x228001 : Int).toNat (⟨bt243.1, bt243.2.1⟩ : S28)), true)) else (False)) else (Q_ (x6, false))))) else (if x228000 = 5 then (if x228001 < (x6.length : Int) then (Q_ ((x6.set (x228001 : Int).toNat (⟨(rd_T28 x0 x228001).f0, Go.Op.negFloat .f64 ((rd_T28 x0 x228001).f1)⟩ : S28)), true)) else (False)) else (if 0 ≤ x228002 then (if x228002 < (x0.length : Int) then (spec_PhTimes.f ((rd_T28 x0 x228001).f0) ((rd_T28 x0 x228001).f1) ((rd_T28 x0 x228002).f0) ((rd_T28 x0 x228002).f1) (fun bt250 => (if x228001 < (x6.length : Int) then (Q_ ((x6.set (x228001 : Int).toNat (⟨bt250.1, bt250.2⟩ : S28)), true)) else (False)))) else (False)) else (False))))))) else (False)) else (False))
def spec_Turned.f (k : Nat) (l0 : List (S28)) (a1_0 : Int) (a1_1 : Int) (a1_2 : Int) (a1_3 : Nat) (a1_4 : Nat) (Q_ : ((List (S28)) × Bool) → Prop) : Prop := ∃ t228, spec_l4Copy.f l0 = some t228 ∧ (if (wrap64 ((l0.length : Int) - 1)) ≥ 12 then (spec_Turned.j0 k l0 t228 true a1_0 a1_1 a1_2 a1_3 a1_4 Q_) else (∃ t231, spec_l1In.f a1_0 1 6 = some t231 ∧ (if t231 = true then (∃ t232, spec_l1In.f a1_1 0 (wrap64 ((l0.length : Int) - 1)) = some t232 ∧ (if t232 = true then (if a1_0 = 6 then (∃ t233, spec_l1In.f a1_2 0 (wrap64 ((l0.length : Int) - 1)) = some t233 ∧ (spec_Turned.j0 k l0 t228 (!t233) a1_0 a1_1 a1_2 a1_3 a1_4 Q_)) else (spec_Turned.j0 k l0 t228 false a1_0 a1_1 a1_2 a1_3 a1_4 Q_)) else (spec_Turned.j0 k l0 t228 true a1_0 a1_1 a1_2 a1_3 a1_4 Q_))) else (spec_Turned.j0 k l0 t228 true a1_0 a1_1 a1_2 a1_3 a1_4 Q_))))
def spec_Turned.T7 : Bool × List (List Nat × List Nat) := (true, [([], []), ([], []), ([1], [1]), ([], []), ([], []), ([], []), ([5], [5]), ([4, 6], [4, 6]), ([7], [7]), ([3, 8], [3, 8]), ([0, 2, 0, 1, 2, 3, 4, 5, 6, 7, 8, 9], [0, 2]), ([10, 9, 9, 0, 1, 2, 3, 4, 5, 6, 7, 8, 9], [9, 10])])
def spec_Turned.B7 : List Nat := [0, 0, 2, 0, 0, 0, 32, 112, 240, 504, 1023, 2047]
theorem spec_Turned.tab7 : rtab .any (opsOf Try.f33 7) = spec_Turned.T7 := by kernel_rfl
theorem spec_Turned.bits7 : waitsOk spec_Turned.T7.2 spec_Turned.B7 = true := by kernel_rfl
def spec_Turned.T13 : Bool × List (List Nat × List Nat) := (true, [([], []), ([], []), ([1], [1]), ([], []), ([], []), ([4], [4]), ([3, 5], [3, 5]), ([0, 2, 0, 1, 2, 3, 4, 5, 6], [0, 2]), ([7, 6, 6, 0, 1, 2, 3, 4, 5, 6], [6, 7])])
def spec_Turned.B13 : List Nat := [0, 0, 2, 0, 0, 16, 56, 127, 255]
theorem spec_Turned.tab13 : rtab .any (opsOf Try.f33 13) = spec_Turned.T13 := by kernel_rfl
theorem spec_Turned.bits13 : waitsOk spec_Turned.T13.2 spec_Turned.B13 = true := by kernel_rfl
set_option maxHeartbeats 8000000 in
set_option maxRecDepth 100000 in
theorem spec_Turned.calls (k : Nat) (A0 : Option Addr) (c0 : Nat) (l0 : List (S28)) (a1_0 : Int) (a1_1 : Int) (a1_2 : Int) (a1_3 : Nat) (a1_4 : Nat) (Q_ : ((List (S28)) × Bool) → Prop) (w : World) (hr0 : Kd.C k28 w A0 l0.length l0) (hc0 : l0.length ≤ c0) (h : spec_Turned.f k l0 a1_0 a1_1 a1_2 a1_3 a1_4 Q_) :
  Calls Try.prog 33 #[.slice A0 l0.length c0, .agg #[.int .i64 a1_0, .int .i64 a1_1, .int .i64 a1_2, .float .f64 a1_3, .float .f64 a1_4]] w fun e w' => Dq2 Q_ (fun (r1 : List (S28)) (r2 : Bool) => ∃ v0_ : Value, e = .returned (.tuple #[v0_, .bool r2]) ∧ Kd.R k28 28 w' w.heap.size (fun _ => True) v0_ r1 ∧ Below w.heap.size w w') := by
 have hu56 := Try.underlying56
 have hu28 := Try.underlying28
 have hng_ : ∀ (k_ : FloatKind) (x_ : Nat) (W_ : World), (Op.unary .neg (.float k_ x_)).run Try.prog W_ = .ok (.float k_ (Go.Op.negFloat k_ x_)) W_ := fun _ _ _ => rfl
 have HR0 := Aside0.mk hr0
 have HC0 := Aside0.mk hc0
 clear hr0 hc0
 have HB := Aside0.mk (Below.refl w.heap.size w)
 have H : (∃ t228, spec_l4Copy.f l0 = some t228 ∧ (if (wrap64 ((l0.length : Int) - 1)) ≥ 12 then (spec_Turned.j0 k l0 t228 true a1_0 a1_1 a1_2 a1_3 a1_4 Q_) else (∃ t231, spec_l1In.f a1_0 1 6 = some t231 ∧ (if t231 = true then (∃ t232, spec_l1In.f a1_1 0 (wrap64 ((l0.length : Int) - 1)) = some t232 ∧ (if t232 = true then (if a1_0 = 6 then (∃ t233, spec_l1In.f a1_2 0 (wrap64 ((l0.length : Int) - 1)) = some t233 ∧ (spec_Turned.j0 k l0 t228 (!t233) a1_0 a1_1 a1_2 a1_3 a1_4 Q_)) else (spec_Turned.j0 k l0 t228 false a1_0 a1_1 a1_2 a1_3 a1_4 Q_)) else (spec_Turned.j0 k l0 t228 true a1_0 a1_1 a1_2 a1_3 a1_4 Q_))) else (spec_Turned.j0 k l0 t228 true a1_0 a1_1 a1_2 a1_3 a1_4 Q_))))) := h
 clear h
 obtain ⟨t228, A30, H⟩ := H
 replace H : (if (wrap64 ((l0.length : Int) - 1)) ≥ 12 then (spec_Turned.j0 k l0 t228 true a1_0 a1_1 a1_2 a1_3 a1_4 Q_) else (∃ t231, spec_l1In.f a1_0 1 6 = some t231 ∧ (if t231 = true then (∃ t232, spec_l1In.f a1_1 0 (wrap64 ((l0.length : Int) - 1)) = some t232 ∧ (if t232 = true then (if a1_0 = 6 then (∃ t233, spec_l1In.f a1_2 0 (wrap64 ((l0.length : Int) - 1)) = some t233 ∧ (spec_Turned.j0 k l0 t228 (!t233) a1_0 a1_1 a1_2 a1_3 a1_4 Q_)) else (spec_Turned.j0 k l0 t228 false a1_0 a1_1 a1_2 a1_3 a1_4 Q_)) else (spec_Turned.j0 k l0 t228 true a1_0 a1_1 a1_2 a1_3 a1_4 Q_))) else (spec_Turned.j0 k l0 t228 true a1_0 a1_1 a1_2 a1_3 a1_4 Q_)))) := H
 have A3 := Aside0.mk A30
 clear A30
 have HC4 := Aside0.mk H
 clear H
 go_enter Try.func33, Try.ntmps33
 go_upto_region 3 with (first | ((with_reducible refine gate_dst (N := 3) rfl ?_); refine box_event ?hg (N := 3) ?hd (cs := #[.int .i64 a1_0, .int .i64 a1_1, .int .i64 a1_2, .float .f64 a1_3, .float .f64 a1_4]) (t := 56) ?hr ?_; (case hd => rfl); (case hg => rfl); (case hr => first | (go_simp; done) | (go_simp; rfl)); intro gb227 hg w5 hbox hb; have n0_ := Aside0.mk (below_step (by repeat (first | (with_reducible first | exact HB.out | apply below_alloc | apply pw_below_drewN | apply below_drew1) | exact HB.out)) hb); have n1_ := Aside0.mk (hbox); have n2_ := Aside0.mk ((by rw [hg]; exact (below_size (by repeat (first | (with_reducible first | exact HB.out | apply below_alloc | apply pw_below_drewN | apply below_drew1) | exact HB.out))) : w.heap.size ≤ gb227)); have n3_ := Aside0.mk ((by rw [hg]; exact (below_size (by repeat (first | (with_reducible first | exact HB.out | apply below_alloc | apply pw_below_drewN | apply below_drew1) | exact HB.out))) : w.heap.size ≤ gb227)); clear HB; have HB := n0_; have BK227 := n1_; have GW227 := n2_; have GE227 := n3_; clear n0_ n1_ n2_ n3_; clear hb hbox hg) | ((with_reducible refine gate_callee (f := 56) rfl ?_); refine goesL_ (some 12) rfl rfl Try.func56 (by kernel_rfl) rfl #[.slice A0 l0.length c0] rfl (by (try simp only [List.map_toArray, List.map_cons, List.map_nil]); first | done | rfl | (simp only [List.length_drop, List.length_take]; rfl)) ?_; (with_reducible refine (spec_l4Copy.calls _ _ l0 t228 _ ?side1 ?side2 A3.out).mono ?_); (case side1 => repeat (first | exact (Kd.C_below HR0.out HB.out) | (with_reducible refine Kd.C_alloc ?_ _) | (with_reducible refine Kd.C_drewN ?_ _) | (with_reducible refine Kd.C_drew ?_))); (case side2 => exact HC0.out); rintro e w6 ⟨v229, rfl, ho0, hb⟩; refine ⟨_, rfl, ?_⟩; have n0_ := Aside0.mk (Kd.R_lower ho0 (below_size (by repeat (first | (with_reducible first | exact HB.out | apply below_alloc | apply pw_below_drewN | apply below_drew1 | refine below_set ?_ GE227.out) | exact HB.out)))); have n1_ := Aside0.mk (blk_below (g := gb227) (o := .cells #[.int .i64 a1_0, .int .i64 a1_1, .int .i64 a1_2, .float .f64 a1_3, .float .f64 a1_4] 56 (0, 0)) (by (with_reducible repeat (first | refine blk_drewN ?_ _ | refine blk_drew ?_ | refine blk_alloc ?_ _)); exact BK227.out) hb); have n2_ := Aside0.mk (below_step (by repeat (first | (with_reducible first | exact HB.out | apply below_alloc | apply pw_below_drewN | apply below_drew1 | refine below_set ?_ GE227.out) | exact HB.out)) hb); clear BK227; clear HB; have HO230 := n0_; have BK227 := n1_; have HB := n2_; clear n0_ n1_ n2_; (try clear hb); (try clear hb2); (try clear hk); (try clear hi); (try clear ho0)))
 (try simp only [Act.put, List.setIfInBounds_toArray, List.set_cons_zero, List.set_cons_succ])
 go_cut [42] (fun v42 wc => ∃ (kq : Nat) (x42_3 : Bool), v42 = .bool x42_3 ∧ Aside0 (spec_Turned.j0 kq l0 t228 x42_3 a1_0 a1_1 a1_2 a1_3 a1_4 Q_) ∧ Aside0 (kq ≤ k) ∧ Aside0 (Kd.R k28 28 wc w.heap.size (fun _ => True) v229 t228) ∧ Aside0 (wc.heap[gb227]? = some (.cells #[.int .i64 a1_0, .int .i64 a1_1, .int .i64 a1_2, .float .f64 a1_3, .float .f64 a1_4] 56 (0, 0))) ∧ Aside0 (Below w.heap.size w wc))
 case first =>
  have H := HC4.out
  clear HC4
  by_cases c7 : (wrap64 ((l0.length : Int) - 1)) ≥ 12
  ·rw [if_pos c7] at H
   have c7b0 : decide (12 ≤ (wrap64 ((l0.length : Int) - 1))) = true := decide_eq_true c7
   clear c7
   (first | rw [c7b0] | (simp only [i64_w, i32_w]; rw [c7b0]) | skip)
   have H' := Aside0.mk H
   clear H
   go_wp2
   go_meet
   case rel => exact ⟨_, (true), (by first | rfl | (simp; done) | (simp [*]; done)), H', ⟨by first | omega | exact Nat.le_refl _⟩, ⟨by (with_reducible repeat (first | apply Kd.R_alloc | apply Kd.R_drewN | apply Kd.R_drew)); exact HO230.out⟩, ⟨by (with_reducible repeat (first | refine blk_drewN ?_ _ | refine blk_drew ?_ | refine blk_alloc ?_ _)); exact BK227.out⟩, ⟨by repeat (first | (with_reducible first | exact HB.out | apply below_alloc | apply pw_below_drewN | apply below_drew1 | refine below_set ?_ GE227.out) | exact HB.out)⟩⟩
  ·rw [if_neg c7] at H
   have c7b0 : decide (12 ≤ (wrap64 ((l0.length : Int) - 1))) = false := decide_eq_false c7
   clear c7
   (first | rw [c7b0] | (simp only [i64_w, i32_w]; rw [c7b0]) | skip)
   obtain ⟨t231, A80, H⟩ := H
   replace H : (if t231 = true then (∃ t232, spec_l1In.f a1_1 0 (wrap64 ((l0.length : Int) - 1)) = some t232 ∧ (if t232 = true then (if a1_0 = 6 then (∃ t233, spec_l1In.f a1_2 0 (wrap64 ((l0.length : Int) - 1)) = some t233 ∧ (spec_Turned.j0 k l0 t228 (!t233) a1_0 a1_1 a1_2 a1_3 a1_4 Q_)) else (spec_Turned.j0 k l0 t228 false a1_0 a1_1 a1_2 a1_3 a1_4 Q_)) else (spec_Turned.j0 k l0 t228 true a1_0 a1_1 a1_2 a1_3 a1_4 Q_))) else (spec_Turned.j0 k l0 t228 true a1_0 a1_1 a1_2 a1_3 a1_4 Q_)) := H
   have A8 := Aside0.mk A80
   clear A80
   by_cases c9 : t231 = true
   ·subst c9
    have H1 : (∃ t232, spec_l1In.f a1_1 0 (wrap64 ((l0.length : Int) - 1)) = some t232 ∧ (if t232 = true then (if a1_0 = 6 then (∃ t233, spec_l1In.f a1_2 0 (wrap64 ((l0.length : Int) - 1)) = some t233 ∧ (spec_Turned.j0 k l0 t228 (!t233) a1_0 a1_1 a1_2 a1_3 a1_4 Q_)) else (spec_Turned.j0 k l0 t228 false a1_0 a1_1 a1_2 a1_3 a1_4 Q_)) else (spec_Turned.j0 k l0 t228 true a1_0 a1_1 a1_2 a1_3 a1_4 Q_))) := by rw [if_pos rfl] at H; exact H
    clear H
    have H := H1
    clear H1
    obtain ⟨t232, A100, H⟩ := H
    replace H : (if t232 = true then (if a1_0 = 6 then (∃ t233, spec_l1In.f a1_2 0 (wrap64 ((l0.length : Int) - 1)) = some t233 ∧ (spec_Turned.j0 k l0 t228 (!t233) a1_0 a1_1 a1_2 a1_3 a1_4 Q_)) else (spec_Turned.j0 k l0 t228 false a1_0 a1_1 a1_2 a1_3 a1_4 Q_)) else (spec_Turned.j0 k l0 t228 true a1_0 a1_1 a1_2 a1_3 a1_4 Q_)) := H
    have A10 := Aside0.mk A100
    clear A100
    by_cases c11 : t232 = true
    ·subst c11
     have H1 : (if a1_0 = 6 then (∃ t233, spec_l1In.f a1_2 0 (wrap64 ((l0.length : Int) - 1)) = some t233 ∧ (spec_Turned.j0 k l0 t228 (!t233) a1_0 a1_1 a1_2 a1_3 a1_4 Q_)) else (spec_Turned.j0 k l0 t228 false a1_0 a1_1 a1_2 a1_3 a1_4 Q_)) := by rw [if_pos rfl] at H; exact H
     clear H
     have H := H1
     clear H1
     by_cases c12 : a1_0 = 6
     ·rw [if_pos c12] at H
      have c12b0 : (a1_0 == 6) = true := beq_iff_eq.mpr c12
      have c12b1 : (a1_0 != 6) = false := bne_eq_false_iff_eq.mpr c12
      clear c12
      obtain ⟨t233, A130, H⟩ := H
      replace H : (spec_Turned.j0 k l0 t228 (!t233) a1_0 a1_1 a1_2 a1_3 a1_4 Q_) := H
      have A13 := Aside0.mk A130
      clear A130
      have H' := Aside0.mk H
      clear H
      have hcz14_0 : w6.cell? ⟨gb227, 0, none⟩ = some (.int .i64 a1_0) := (blk_cell BK227.out 0).trans rfl
      have hcz14_1 : w6.cell? ⟨gb227, 1, none⟩ = some (.int .i64 a1_1) := (blk_cell BK227.out 1).trans rfl
      have hcz14_2 : w6.cell? ⟨gb227, 2, none⟩ = some (.int .i64 a1_2) := (blk_cell BK227.out 2).trans rfl
      have hcz14_3 : w6.cell? ⟨gb227, 3, none⟩ = some (.float .f64 a1_3) := (blk_cell BK227.out 3).trans rfl
      have hcz14_4 : w6.cell? ⟨gb227, 4, none⟩ = some (.float .f64 a1_4) := (blk_cell BK227.out 4).trans rfl
      have hfz14_0 := blk_frozen BK227.out 0
      have hfz14_1 := blk_frozen BK227.out 1
      have hfz14_2 := blk_frozen BK227.out 2
      have hfz14_3 := blk_frozen BK227.out 3
      have hfz14_4 := blk_frozen BK227.out 4
      go_wp2_with (first | (go_at_call 57; (with_reducible refine (spec_l1In.calls a1_0 1 6 true _ A8.out).mono ?_); rintro e w' ⟨rfl, ⟨nd, rfl⟩⟩) | (go_at_call 57; (with_reducible refine (spec_l1In.calls a1_1 0 (wrap64 ((l0.length : Int) - 1)) true _ A10.out).mono ?_); rintro e w' ⟨rfl, ⟨nd, rfl⟩⟩) | (go_at_call 57; (with_reducible refine (spec_l1In.calls a1_2 0 (wrap64 ((l0.length : Int) - 1)) t233 _ A13.out).mono ?_); rintro e w' ⟨rfl, ⟨nd, rfl⟩⟩))
      go_meet
      case rel => exact ⟨_, (!t233), (by first | rfl | (simp; done) | (simp [*]; done)), H', ⟨by first | omega | exact Nat.le_refl _⟩, ⟨by (with_reducible repeat (first | apply Kd.R_alloc | apply Kd.R_drewN | apply Kd.R_drew)); exact HO230.out⟩, ⟨by (with_reducible repeat (first | refine blk_drewN ?_ _ | refine blk_drew ?_ | refine blk_alloc ?_ _)); exact BK227.out⟩, ⟨by repeat (first | (with_reducible first | exact HB.out | apply below_alloc | apply pw_below_drewN | apply below_drew1 | refine below_set ?_ GE227.out) | exact HB.out)⟩⟩
     ·rw [if_neg c12] at H
      have c12b0 : (a1_0 == 6) = false := beq_eq_false_iff_ne.mpr c12
      have c12b1 : (a1_0 != 6) = true := bne_iff_ne.mpr c12
      have H' := Aside0.mk H
      clear H
      have hcz15_0 : w6.cell? ⟨gb227, 0, none⟩ = some (.int .i64 a1_0) := (blk_cell BK227.out 0).trans rfl
      have hcz15_1 : w6.cell? ⟨gb227, 1, none⟩ = some (.int .i64 a1_1) := (blk_cell BK227.out 1).trans rfl
      have hcz15_2 : w6.cell? ⟨gb227, 2, none⟩ = some (.int .i64 a1_2) := (blk_cell BK227.out 2).trans rfl
      have hcz15_3 : w6.cell? ⟨gb227, 3, none⟩ = some (.float .f64 a1_3) := (blk_cell BK227.out 3).trans rfl
      have hcz15_4 : w6.cell? ⟨gb227, 4, none⟩ = some (.float .f64 a1_4) := (blk_cell BK227.out 4).trans rfl
      have hfz15_0 := blk_frozen BK227.out 0
      have hfz15_1 := blk_frozen BK227.out 1
      have hfz15_2 := blk_frozen BK227.out 2
      have hfz15_3 := blk_frozen BK227.out 3
      have hfz15_4 := blk_frozen BK227.out 4
      go_wp2_with (first | (go_at_call 57; (with_reducible refine (spec_l1In.calls a1_0 1 6 true _ A8.out).mono ?_); rintro e w' ⟨rfl, ⟨nd, rfl⟩⟩) | (go_at_call 57; (with_reducible refine (spec_l1In.calls a1_1 0 (wrap64 ((l0.length : Int) - 1)) true _ A10.out).mono ?_); rintro e w' ⟨rfl, ⟨nd, rfl⟩⟩))
      go_meet
      case rel => exact ⟨_, (false), (by first | rfl | (simp; done) | (simp [*]; done)), H', ⟨by first | omega | exact Nat.le_refl _⟩, ⟨by (with_reducible repeat (first | apply Kd.R_alloc | apply Kd.R_drewN | apply Kd.R_drew)); exact HO230.out⟩, ⟨by (with_reducible repeat (first | refine blk_drewN ?_ _ | refine blk_drew ?_ | refine blk_alloc ?_ _)); exact BK227.out⟩, ⟨by repeat (first | (with_reducible first | exact HB.out | apply below_alloc | apply pw_below_drewN | apply below_drew1 | refine below_set ?_ GE227.out) | exact HB.out)⟩⟩
    ·replace c11 := Bool.eq_false_iff.mpr c11
     subst c11
     have H1 : (spec_Turned.j0 k l0 t228 true a1_0 a1_1 a1_2 a1_3 a1_4 Q_) := by rw [if_neg (show ¬ (false = true) by decide)] at H; exact H
     clear H
     have H := H1
     clear H1
     have H' := Aside0.mk H
     clear H
     have hcz16_0 : w6.cell? ⟨gb227, 0, none⟩ = some (.int .i64 a1_0) := (blk_cell BK227.out 0).trans rfl
     have hcz16_1 : w6.cell? ⟨gb227, 1, none⟩ = some (.int .i64 a1_1) := (blk_cell BK227.out 1).trans rfl
     have hcz16_2 : w6.cell? ⟨gb227, 2, none⟩ = some (.int .i64 a1_2) := (blk_cell BK227.out 2).trans rfl
     have hcz16_3 : w6.cell? ⟨gb227, 3, none⟩ = some (.float .f64 a1_3) := (blk_cell BK227.out 3).trans rfl
     have hcz16_4 : w6.cell? ⟨gb227, 4, none⟩ = some (.float .f64 a1_4) := (blk_cell BK227.out 4).trans rfl
     have hfz16_0 := blk_frozen BK227.out 0
     have hfz16_1 := blk_frozen BK227.out 1
     have hfz16_2 := blk_frozen BK227.out 2
     have hfz16_3 := blk_frozen BK227.out 3
     have hfz16_4 := blk_frozen BK227.out 4
     go_wp2_with (first | (go_at_call 57; (with_reducible refine (spec_l1In.calls a1_0 1 6 true _ A8.out).mono ?_); rintro e w' ⟨rfl, ⟨nd, rfl⟩⟩) | (go_at_call 57; (with_reducible refine (spec_l1In.calls a1_1 0 (wrap64 ((l0.length : Int) - 1)) false _ A10.out).mono ?_); rintro e w' ⟨rfl, ⟨nd, rfl⟩⟩))
     go_meet
     case rel => exact ⟨_, (true), (by first | rfl | (simp; done) | (simp [*]; done)), H', ⟨by first | omega | exact Nat.le_refl _⟩, ⟨by (with_reducible repeat (first | apply Kd.R_alloc | apply Kd.R_drewN | apply Kd.R_drew)); exact HO230.out⟩, ⟨by (with_reducible repeat (first | refine blk_drewN ?_ _ | refine blk_drew ?_ | refine blk_alloc ?_ _)); exact BK227.out⟩, ⟨by repeat (first | (with_reducible first | exact HB.out | apply below_alloc | apply pw_below_drewN | apply below_drew1 | refine below_set ?_ GE227.out) | exact HB.out)⟩⟩
   ·replace c9 := Bool.eq_false_iff.mpr c9
    subst c9
    have H1 : (spec_Turned.j0 k l0 t228 true a1_0 a1_1 a1_2 a1_3 a1_4 Q_) := by rw [if_neg (show ¬ (false = true) by decide)] at H; exact H
    clear H
    have H := H1
    clear H1
    have H' := Aside0.mk H
    clear H
    have hcz17_0 : w6.cell? ⟨gb227, 0, none⟩ = some (.int .i64 a1_0) := (blk_cell BK227.out 0).trans rfl
    have hcz17_1 : w6.cell? ⟨gb227, 1, none⟩ = some (.int .i64 a1_1) := (blk_cell BK227.out 1).trans rfl
    have hcz17_2 : w6.cell? ⟨gb227, 2, none⟩ = some (.int .i64 a1_2) := (blk_cell BK227.out 2).trans rfl
    have hcz17_3 : w6.cell? ⟨gb227, 3, none⟩ = some (.float .f64 a1_3) := (blk_cell BK227.out 3).trans rfl
    have hcz17_4 : w6.cell? ⟨gb227, 4, none⟩ = some (.float .f64 a1_4) := (blk_cell BK227.out 4).trans rfl
    have hfz17_0 := blk_frozen BK227.out 0
    have hfz17_1 := blk_frozen BK227.out 1
    have hfz17_2 := blk_frozen BK227.out 2
    have hfz17_3 := blk_frozen BK227.out 3
    have hfz17_4 := blk_frozen BK227.out 4
    go_wp2_with (first | (go_at_call 57; (with_reducible refine (spec_l1In.calls a1_0 1 6 false _ A8.out).mono ?_); rintro e w' ⟨rfl, ⟨nd, rfl⟩⟩))
    go_meet
    case rel => exact ⟨_, (true), (by first | rfl | (simp; done) | (simp [*]; done)), H', ⟨by first | omega | exact Nat.le_refl _⟩, ⟨by (with_reducible repeat (first | apply Kd.R_alloc | apply Kd.R_drewN | apply Kd.R_drew)); exact HO230.out⟩, ⟨by (with_reducible repeat (first | refine blk_drewN ?_ _ | refine blk_drew ?_ | refine blk_alloc ?_ _)); exact BK227.out⟩, ⟨by repeat (first | (with_reducible first | exact HB.out | apply below_alloc | apply pw_below_drewN | apply below_drew1 | refine below_set ?_ GE227.out) | exact HB.out)⟩⟩
 case rest =>
  clear HC4
  (try clear c1); (try clear p2); (try clear c3); (try clear c5); (try clear p6); (try clear c7); (try clear c7b0); (try clear c9); (try clear c11); (try clear c12); (try clear c12b0); (try clear c12b1); (try clear hcz14_0 hcz14_1 hcz14_2 hcz14_3 hcz14_4); (try clear hcz15_0 hcz15_1 hcz15_2 hcz15_3 hcz15_4); (try clear hcz16_0 hcz16_1 hcz16_2 hcz16_3 hcz16_4); (try clear hcz17_0 hcz17_1 hcz17_2 hcz17_3 hcz17_4); (try clear hfz14_0 hfz14_1 hfz14_2 hfz14_3 hfz14_4); (try clear hfz15_0 hfz15_1 hfz15_2 hfz15_3 hfz15_4); (try clear hfz16_0 hfz16_1 hfz16_2 hfz16_3 hfz16_4); (try clear hfz17_0 hfz17_1 hfz17_2 hfz17_3 hfz17_4)
  obtain ⟨kq, x42_3, rfl, HA, HJ3, HO_6, BK227, HB⟩ := hcut
  cases kq with
  | zero => exact absurd HA.out (by simp [spec_Turned.j0])
  | succ kj3 =>
   have H := HA.out
   clear HA
   simp only [spec_Turned.j0] at H
   by_cases c18 : x42_3 = true
   ·subst c18
    have H1 : (Q_ (t228, false)) := by rw [if_pos rfl] at H; exact H
    clear H
    have H := H1
    clear H1
    have HQ_ := Aside0.mk H
    clear H
    go_wp2
    go_ret2
    exact Dq2.mk HQ_.out ⟨_, by first | rfl | (simp [errW_none, errW_some] <;> rfl) | (simp [*, errW_none, errW_some] <;> rfl), by (with_reducible repeat (first | apply Kd.R_alloc | apply Kd.R_drewN | apply Kd.R_drew)); exact HO_6.out, by repeat (first | (with_reducible first | exact HB.out | apply below_alloc | apply pw_below_drewN | apply below_drew1 | refine below_set ?_ GE227.out) | exact HB.out)⟩
   ·replace c18 := Bool.eq_false_iff.mpr c18
    subst c18
    have H1 : (if 0 ≤ a1_1 then (if a1_1 < (l0.length : Int) then (if a1_0 = 1 then (if a1_1 < (t228.length : Int) then (Q_ ((t228.set (a1_1 : Int).toNat (⟨a1_3, a1_4⟩ : S28)), true)) else (False)) else (if a1_0 = 2 then (∀ fr237 : Nat, FRk .f64 .add ((rd_T28 l0 a1_1).f0) a1_3 fr237 → (∀ fr238 : Nat, FRk .f64 .add ((rd_T28 l0 a1_1).f1) a1_4 fr238 → (if a1_1 < (t228.length : Int) then (Q_ ((t228.set (a1_1 : Int).toNat (⟨fr237, fr238⟩ : S28)), true)) else (False)))) else (if a1_0 = 3 then (spec_PhTimes.f ((rd_T28 l0 a1_1).f0) ((rd_T28 l0 a1_1).f1) a1_3 a1_4 (fun bt240 => (if a1_1 < (t228.length : Int) then (Q_ ((t228.set (a1_1 : Int).toNat (⟨bt240.1, bt240.2⟩ : S28)), true)) else (False)))) else (if a1_0 = 4 then (spec_PhOver.f ((rd_T28 l0 a1_1).f0) ((rd_T28 l0 a1_1).f1) a1_3 a1_4 (fun bt243 => (if bt243.2.2 = true then (if a1_1 < (t228.length : Int) then (Q_ ((t228.set (a1_1 : Int).toNat (⟨bt243.1, bt243.2.1⟩ : S28)), true)) else (False)) else (Q_ (t228, false))))) else (if a1_0 = 5 then (if a1_1 < (t228.length : Int) then (Q_ ((t228.set (a1_1 : Int).toNat (⟨(rd_T28 l0 a1_1).f0, Go.Op.negFloat .f64 ((rd_T28 l0 a1_1).f1)⟩ : S28)), true)) else (False)) else (if 0 ≤ a1_2 then (if a1_2 < (l0.length : Int) then (spec_PhTimes.f ((rd_T28 l0 a1_1).f0) ((rd_T28 l0 a1_1).f1) ((rd_T28 l0 a1_2).f0) ((rd_T28 l0 a1_2).f1) (fun bt250 => (if a1_1 < (t228.length : Int) then (Q_ ((t228.set (a1_1 : Int).toNat (⟨bt250.1, bt250.2⟩ : S28)), true)) else (False)))) else (False)) else (False))))))) else (False)) else (False)) := by rw [if_neg (show ¬ (false = true) by decide)] at H; exact H
    clear H
    have H := H1
    clear H1
    by_cases c19 : 0 ≤ a1_1
    ·rw [if_pos c19] at H
     have c19b0 : decide (0 ≤ a1_1) = true := decide_eq_true c19
     clear c19
     by_cases c20 : a1_1 < (l0.length : Int)
     ·rw [if_pos c20] at H
      have c20b0 : decide (a1_1 < (l0.length : Int)) = true := decide_eq_true c20
      clear c20
      by_cases c21 : a1_0 = 1
      ·rw [if_pos c21] at H
       have c21b0 : (a1_0 == 1) = true := beq_iff_eq.mpr c21
       have c21b1 : (a1_0 != 1) = false := bne_eq_false_iff_eq.mpr c21
       clear c21
       by_cases c22 : a1_1 < (t228.length : Int)
       ·rw [if_pos c22] at H
        have c22b0 : decide (a1_1 < (t228.length : Int)) = true := decide_eq_true c22
        clear c22
        obtain ⟨y236, hy236⟩ : ∃ y_ : List (S28), y_ = (t228.set (a1_1 : Int).toNat (⟨a1_3, a1_4⟩ : S28)) := ⟨_, rfl⟩
        replace H : (Q_ (y236, true)) := by first | (rw [hy236]; with_reducible exact H) | (obtain ⟨_, e_, H2_⟩ := H; subst e_; rw [hy236]; exact H2_) | with_reducible exact H | (rw [hy236]; exact H) | exact H
        have Ny236 := Aside0.mk hy236
        clear hy236
        have HQ_ := Aside0.mk H
        clear H
        have hcz24_0 : wc.cell? ⟨gb227, 0, none⟩ = some (.int .i64 a1_0) := (blk_cell BK227.out 0).trans rfl
        have hcz24_1 : wc.cell? ⟨gb227, 1, none⟩ = some (.int .i64 a1_1) := (blk_cell BK227.out 1).trans rfl
        have hcz24_2 : wc.cell? ⟨gb227, 2, none⟩ = some (.int .i64 a1_2) := (blk_cell BK227.out 2).trans rfl
        have hcz24_3 : wc.cell? ⟨gb227, 3, none⟩ = some (.float .f64 a1_3) := (blk_cell BK227.out 3).trans rfl
        have hcz24_4 : wc.cell? ⟨gb227, 4, none⟩ = some (.float .f64 a1_4) := (blk_cell BK227.out 4).trans rfl
        have hfz24_0 := blk_frozen BK227.out 0
        have hfz24_1 := blk_frozen BK227.out 1
        have hfz24_2 := blk_frozen BK227.out 2
        have hfz24_3 := blk_frozen BK227.out 3
        have hfz24_4 := blk_frozen BK227.out 4
        have p234 : 0 ≤ (a1_1 : Int) := of_decide_eq_true (by first | (with_reducible assumption) | assumption)
        have q234 : a1_1 < (l0.length : Int) := of_decide_eq_true (by first | (with_reducible assumption) | assumption)
        obtain ⟨ad234, e234, hx234_0, hx234_1⟩ := at_T28 HR0.out a1_1 p234 q234
        cases e234
        replace hx234_0 := (HB.out.cell (World.block_lt_of_cell? w _ hx234_0)).trans hx234_0
        replace hx234_1 := (HB.out.cell (World.block_lt_of_cell? w _ hx234_1)).trans hx234_1
        replace p234 := eq_true p234
        replace q234 := eq_true q234
        go_wp2_with (first | ((with_reducible refine gate_dst (N := 8) rfl ?_); refine box_event ?hg (N := 8) ?hd (cs := #[.float .f64 0, .float .f64 0]) (t := 28) ?hr ?_; (case hd => rfl); (case hg => rfl); (case hr => first | (go_simp; done) | (go_simp; rfl)); intro gb235 hg w25 hbox hb; have n0_ := Aside0.mk (Kd.R_below (Kd.R_elderB (by (with_reducible repeat (first | apply Kd.R_alloc | apply Kd.R_drewN | apply Kd.R_drew)); exact HO_6.out) gb235 (Nat.le_of_eq hg.symm)) hb); have n1_ := Aside0.mk (blk_below (g := gb227) (o := .cells #[.int .i64 a1_0, .int .i64 a1_1, .int .i64 a1_2, .float .f64 a1_3, .float .f64 a1_4] 56 (0, 0)) (by (with_reducible repeat (first | refine blk_drewN ?_ _ | refine blk_drew ?_ | refine blk_alloc ?_ _)); exact BK227.out) hb); have n2_ := Aside0.mk (below_step (by repeat (first | (with_reducible first | exact HB.out | apply below_alloc | apply pw_below_drewN | apply below_drew1 | refine below_set ?_ GE227.out) | exact HB.out)) hb); have n3_ := Aside0.mk (hbox); have n4_ := Aside0.mk ((by rw [hg]; exact (below_size (by repeat (first | (with_reducible first | exact HB.out | apply below_alloc | apply pw_below_drewN | apply below_drew1 | refine below_set ?_ GE227.out) | exact HB.out))) : w.heap.size ≤ gb235)); have n5_ := Aside0.mk ((by rw [hg]; exact (below_size (by repeat (first | (with_reducible first | exact HB.out | apply below_alloc | apply pw_below_drewN | apply below_drew1 | refine below_set ?_ GE227.out) | exact HB.out))) : w.heap.size ≤ gb235)); have n6_ := Aside0.mk ((by rw [hg]; exact Nat.ne_of_lt (blk_lt (g := gb227) (o := .cells #[.int .i64 a1_0, .int .i64 a1_1, .int .i64 a1_2, .float .f64 a1_3, .float .f64 a1_4] 56 (0, 0)) (by (with_reducible repeat (first | refine blk_drewN ?_ _ | refine blk_drew ?_ | refine blk_alloc ?_ _)); exact BK227.out)) : gb227 ≠ gb235)); have n7_ := Aside0.mk ((by rw [hg]; exact Nat.ne_of_gt (blk_lt (g := gb227) (o := .cells #[.int .i64 a1_0, .int .i64 a1_1, .int .i64 a1_2, .float .f64 a1_3, .float .f64 a1_4] 56 (0, 0)) (by (with_reducible repeat (first | refine blk_drewN ?_ _ | refine blk_drew ?_ | refine blk_alloc ?_ _)); exact BK227.out)) : gb235 ≠ gb227)); clear HO_6; clear BK227; clear HB; have HO_6 := n0_; have BK227 := n1_; have HB := n2_; have BK235 := n3_; have GW235 := n4_; have GE235 := n5_; have NB227_235 := n6_; have NB235_227 := n7_; clear n0_ n1_ n2_ n3_ n4_ n5_ n6_ n7_; clear hb hbox hg; have hnb26 := NB235_227.out; have hnc26 := NB227_235.out; have hcz27_0 : w25.cell? ⟨gb235, 0, none⟩ = some (.float .f64 0) := (blk_cell BK235.out 0).trans rfl; have hcz27_1 : w25.cell? ⟨gb235, 1, none⟩ = some (.float .f64 0) := (blk_cell BK235.out 1).trans rfl; have hfz27_0 := blk_frozen BK235.out 0; have hfz27_1 := blk_frozen BK235.out 1) | ((with_reducible refine gate_store (t := 28) (p := 8) rfl ?_); refine store_event (t := 28) (p := 8) (v := ?vo_w28) (w1 := ((w25.setCell ⟨gb235, 0, none⟩ (.float .f64 ((rd_T28 l0 a1_1).f0))).setCell ⟨gb235, 1, none⟩ (.float .f64 ((rd_T28 l0 a1_1).f1)))) ?hg ?ho ?hn ?hr ?_; (case ho => rfl); (case hg => rfl); (case hn => rfl); (case hr => first | (go_simp; done) | (go_simp; rfl)); intro w28 hw; have n0_ : Aside0 (Kd.R k28 28 w28 w.heap.size (fun k_ => k_ ≠ gb235) v229 t228) := ⟨(by rw [hw]; exact (by (with_reducible repeat (first | apply Kd.R_alloc | apply Kd.R_drewN | apply Kd.R_drew)); exact Kd.R_mono (Kd.R_far (Kd.R_far (Kd.R_mono HO_6.out (fun k_ hk => (⟨hk, hk.2⟩ : _ ∧ k_ ≠ gb235))) (fun _ hk => hk.2) (.float .f64 ((rd_T28 l0 a1_1).f0))) (fun _ hk => hk.2) (.float .f64 ((rd_T28 l0 a1_1).f1))) (fun _ hk => hk.1.2)))⟩; have n1_ : Aside0 (w28.heap[gb227]? = some (.cells #[.int .i64 a1_0, .int .i64 a1_1, .int .i64 a1_2, .float .f64 a1_3, .float .f64 a1_4] 56 (0, 0))) := ⟨(by rw [hw]; exact (by (with_reducible repeat (first | refine blk_drewN ?_ _ | refine blk_drew ?_ | refine blk_alloc ?_ _)); refine blk_far ?_ NB227_235.out _; (with_reducible repeat (first | refine blk_drewN ?_ _ | refine blk_drew ?_ | refine blk_alloc ?_ _)); refine blk_far ?_ NB227_235.out _; (with_reducible repeat (first | refine blk_drewN ?_ _ | refine blk_drew ?_ | refine blk_alloc ?_ _)); exact BK227.out))⟩; have n2_ : Aside0 (w28.heap[gb235]? = some (.cells #[.float .f64 ((rd_T28 l0 a1_1).f0), .float .f64 ((rd_T28 l0 a1_1).f1)] 28 (0, 0))) := ⟨(by rw [hw]; exact (by (with_reducible repeat (first | refine blk_drewN ?_ _ | refine blk_drew ?_ | refine blk_alloc ?_ _)); refine blk_put (cs := #[.float .f64 ((rd_T28 l0 a1_1).f0), .float .f64 0]) ?_ 1 _ rfl; (with_reducible repeat (first | refine blk_drewN ?_ _ | refine blk_drew ?_ | refine blk_alloc ?_ _)); refine blk_put (cs := #[.float .f64 0, .float .f64 0]) ?_ 0 _ rfl; (with_reducible repeat (first | refine blk_drewN ?_ _ | refine blk_drew ?_ | refine blk_alloc ?_ _)); exact BK235.out))⟩; have n3_ : Aside0 (Below w.heap.size w w28) := ⟨(by rw [hw]; exact (by repeat (first | (with_reducible first | exact HB.out | apply below_alloc | apply pw_below_drewN | apply below_drew1 | refine below_set ?_ GE227.out | refine below_set ?_ GE235.out) | exact HB.out)))⟩; clear hw; clear HO_6; clear BK227; clear BK235; clear HB; have HO_6 := n0_; have BK227 := n1_; have BK235 := n2_; have HB := n3_; clear n0_ n1_ n2_ n3_; have hcz29_0 : w28.cell? ⟨gb227, 0, none⟩ = some (.int .i64 a1_0) := (blk_cell BK227.out 0).trans rfl; have hcz29_1 : w28.cell? ⟨gb227, 1, none⟩ = some (.int .i64 a1_1) := (blk_cell BK227.out 1).trans rfl; have hcz29_2 : w28.cell? ⟨gb227, 2, none⟩ = some (.int .i64 a1_2) := (blk_cell BK227.out 2).trans rfl; have hcz29_3 : w28.cell? ⟨gb227, 3, none⟩ = some (.float .f64 a1_3) := (blk_cell BK227.out 3).trans rfl; have hcz29_4 : w28.cell? ⟨gb227, 4, none⟩ = some (.float .f64 a1_4) := (blk_cell BK227.out 4).trans rfl; have hfz29_0 := blk_frozen BK227.out 0; have hfz29_1 := blk_frozen BK227.out 1; have hfz29_2 := blk_frozen BK227.out 2; have hfz29_3 := blk_frozen BK227.out 3; have hfz29_4 := blk_frozen BK227.out 4; have p23 : 0 ≤ (a1_1 : Int) := of_decide_eq_true (by first | (with_reducible assumption) | assumption); have q23 : (a1_1 : Int) < ((t228.length : Int) : Int) := of_decide_eq_true (by first | (with_reducible assumption) | assumption); obtain ⟨go23, co23, eo23, gb23, gl23, cl23, HG23⟩ := Kd.R_form HO_6.out (by omega); (first | cases eo23 | (injection eo23 with ea_ en_ ec_; (first | subst ea_ | (injection ea_ with ea_; subst ea_)); subst ec_; clear en_)); have GB23 := Aside0.mk gb23; have GG23 := Aside0.mk HG23; clear gb23 gl23 HG23; obtain ⟨ce23, hcl23, hM23, hcc23, hfr23⟩ := Kd.R_elem HO_6.out z28 (a1_1 : Int) p23 q23; obtain rfl := k28_openM hM23; have hx23_0 : w28.cell? ⟨go23, (a1_1 : Int).toNat * 2, none⟩ = some (.float .f64 ((rd_T28 t228 a1_1).f0)) := hcc23 0 _ rfl; have hx23_1 : w28.cell? ⟨go23, (a1_1 : Int).toNat * 2 + 1, none⟩ = some (.float .f64 ((rd_T28 t228 a1_1).f1)) := hcc23 1 _ rfl; have hf23_0 : w28.frozen? ⟨go23, (a1_1 : Int).toNat * 2, none⟩ = false := hfr23 0; have hf23_1 : w28.frozen? ⟨go23, (a1_1 : Int).toNat * 2 + 1, none⟩ = false := hfr23 1; clear hcl23 hcc23 hfr23 hM23; replace p23 := eq_true p23; replace q23 := eq_true q23; have HX30 := Aside0.mk (show Kd.R k28 28 w28 w.heap.size (fun k_ => k_ ≠ gb235) (.slice (some ⟨go23, 0, none⟩) t228.length co23) t228 from (by (with_reducible repeat (first | apply Kd.R_alloc | apply Kd.R_drewN | apply Kd.R_drew)); exact HO_6.out)); obtain ⟨ce30, hcl30, hM30, hcc30, hfr30⟩ := Kd.R_elem HX30.out z28 (a1_1 : Int) (of_decide_eq_true (by first | (with_reducible assumption) | assumption)) (by have h_ : (a1_1 : Int) < ((t228.length : Int) : Int) := of_decide_eq_true (by first | (with_reducible assumption) | assumption); first | exact h_ | (have e_ := (Kd.R_reads' HO_6.out).1; omega) | simpa using h_); obtain rfl := k28_openM hM30; have HP30 := Kd.R_seg HX30.out (a1_1 : Int) (of_decide_eq_true (by first | (with_reducible assumption) | assumption)) (by have h_ : (a1_1 : Int) < ((t228.length : Int) : Int) := of_decide_eq_true (by first | (with_reducible assumption) | assumption); first | exact h_ | (have e_ := (Kd.R_reads' HO_6.out).1; omega) | simpa using h_) (seg := [.float .f64 a1_3, .float .f64 a1_4]) (j := 0) hcl30 hcc30 (show 2 ≤ 2 from by decide) (x' := (⟨a1_3, a1_4⟩ : S28)) (k28_mkM _ _ _ (⟨a1_3, a1_4⟩ : S28) ) (fun _ hk => hk); have hx30_0 := hcc30 0 _ rfl; (try simp only [show (k28).sz = 2 from rfl, Nat.mul_one, Nat.add_zero] at hx30_0); have hf30_0 := hfr30 0; (try simp only [show (k28).sz = 2 from rfl, Nat.mul_one, Nat.add_zero] at hf30_0); have hx30_1 := hcc30 1 _ rfl; (try simp only [show (k28).sz = 2 from rfl, Nat.mul_one, Nat.add_zero] at hx30_1); have hf30_1 := hfr30 1; (try simp only [show (k28).sz = 2 from rfl, Nat.mul_one, Nat.add_zero] at hf30_1); clear hcl30 hcc30 hfr30 hM30) | ((with_reducible refine gate_store (t := 28) (p := 69) rfl ?_); refine store_event (t := 28) (p := 69) (v := ?vo_w31) (w1 := ((w28.setCell ⟨go23, (a1_1 : Int).toNat * 2, none⟩ (.float .f64 a1_3)).setCell ⟨go23, (a1_1 : Int).toNat * 2 + 1, none⟩ (.float .f64 a1_4))) ?hg ?ho ?hn ?hr ?_; (case ho => rfl); (case hg => rfl); (case hn => rfl); (case hr => first | (go_simp; done) | (go_simp; rfl)); intro w31 hw; have hg : w28.grownBy w31 (some go23) := (by rw [hw]; exact HP30.2); have hp_ : Kd.R k28 28 w31 w.heap.size (fun k_ => k_ ≠ gb235) (.slice (some ⟨go23, 0, none⟩) t228.length co23) y236 := (by rw [hw, Ny236.out]; exact HP30.1); clear HP30; have n0_ := Aside0.mk (hp_); have n1_ := Aside0.mk (blk_grown (g := gb227) (o := .cells #[.int .i64 a1_0, .int .i64 a1_1, .int .i64 a1_2, .float .f64 a1_3, .float .f64 a1_4] 56 (0, 0)) (by (with_reducible repeat (first | refine blk_drewN ?_ _ | refine blk_drew ?_ | refine blk_alloc ?_ _)); exact BK227.out) hg (Kd.R_ne HO_6.out BK227.out (by decide))); have n2_ := Aside0.mk (blk_grown (g := gb235) (o := .cells #[.float .f64 ((rd_T28 l0 a1_1).f0), .float .f64 ((rd_T28 l0 a1_1).f1)] 28 (0, 0)) (by (with_reducible repeat (first | refine blk_drewN ?_ _ | refine blk_drew ?_ | refine blk_alloc ?_ _)); exact BK235.out) hg (Kd.R_away HO_6.out (fun _ hk => hk))); have n3_ := Aside0.mk ((by rw [hw]; exact below_set (below_set (HB.out) GB23.out) GB23.out : Below w.heap.size w w31)); clear HO_6; clear BK227; clear BK235; clear HB; have HO_6 := n0_; have BK227 := n1_; have BK235 := n2_; have HB := n3_; clear n0_ n1_ n2_ n3_; clear hg hw hp_))
        go_ret2
        exact Dq2.mk HQ_.out ⟨_, by first | rfl | (simp [errW_none, errW_some] <;> rfl) | (simp [*, errW_none, errW_some] <;> rfl), by (with_reducible repeat (first | apply Kd.R_alloc | apply Kd.R_drewN | apply Kd.R_drew)); exact Kd.R_mono HO_6.out (fun _ hk => trivial), by repeat (first | (with_reducible first | exact HB.out | apply below_alloc | apply pw_below_drewN | apply below_drew1 | refine below_set ?_ GE227.out | refine below_set ?_ GE235.out) | exact HB.out)⟩
       ·rw [if_neg c22] at H
        exact absurd H (by simp)
      ·rw [if_neg c21] at H
       have c21b0 : (a1_0 == 1) = false := beq_eq_false_iff_ne.mpr c21
       have c21b1 : (a1_0 != 1) = true := bne_iff_ne.mpr c21
       by_cases c32 : a1_0 = 2
       ·rw [if_pos c32] at H
        have c32b0 : (a1_0 == 2) = true := beq_iff_eq.mpr c32
        have c32b1 : (a1_0 != 2) = false := bne_eq_false_iff_eq.mpr c32
        clear c32
        have HD34 := Aside0.mk H
        clear H
        have hcz40_0 : wc.cell? ⟨gb227, 0, none⟩ = some (.int .i64 a1_0) := (blk_cell BK227.out 0).trans rfl
        have hcz40_1 : wc.cell? ⟨gb227, 1, none⟩ = some (.int .i64 a1_1) := (blk_cell BK227.out 1).trans rfl
        have hcz40_2 : wc.cell? ⟨gb227, 2, none⟩ = some (.int .i64 a1_2) := (blk_cell BK227.out 2).trans rfl
        have hcz40_3 : wc.cell? ⟨gb227, 3, none⟩ = some (.float .f64 a1_3) := (blk_cell BK227.out 3).trans rfl
        have hcz40_4 : wc.cell? ⟨gb227, 4, none⟩ = some (.float .f64 a1_4) := (blk_cell BK227.out 4).trans rfl
        have hfz40_0 := blk_frozen BK227.out 0
        have hfz40_1 := blk_frozen BK227.out 1
        have hfz40_2 := blk_frozen BK227.out 2
        have hfz40_3 := blk_frozen BK227.out 3
        have hfz40_4 := blk_frozen BK227.out 4
        have p234 : 0 ≤ (a1_1 : Int) := of_decide_eq_true (by first | (with_reducible assumption) | assumption)
        have q234 : a1_1 < (l0.length : Int) := of_decide_eq_true (by first | (with_reducible assumption) | assumption)
        obtain ⟨ad234, e234, hx234_0, hx234_1⟩ := at_T28 HR0.out a1_1 p234 q234
        cases e234
        replace hx234_0 := (HB.out.cell (World.block_lt_of_cell? w _ hx234_0)).trans hx234_0
        replace hx234_1 := (HB.out.cell (World.block_lt_of_cell? w _ hx234_1)).trans hx234_1
        replace p234 := eq_true p234
        replace q234 := eq_true q234
        go_wp2_with (first | ((with_reducible refine gate_dst (N := 8) rfl ?_); refine box_event ?hg (N := 8) ?hd (cs := #[.float .f64 0, .float .f64 0]) (t := 28) ?hr ?_; (case hd => rfl); (case hg => rfl); (case hr => first | (go_simp; done) | (go_simp; rfl)); intro gb235 hg w41 hbox hb; have n0_ := Aside0.mk (Kd.R_below (Kd.R_elderB (by (with_reducible repeat (first | apply Kd.R_alloc | apply Kd.R_drewN | apply Kd.R_drew)); exact HO_6.out) gb235 (Nat.le_of_eq hg.symm)) hb); have n1_ := Aside0.mk (blk_below (g := gb227) (o := .cells #[.int .i64 a1_0, .int .i64 a1_1, .int .i64 a1_2, .float .f64 a1_3, .float .f64 a1_4] 56 (0, 0)) (by (with_reducible repeat (first | refine blk_drewN ?_ _ | refine blk_drew ?_ | refine blk_alloc ?_ _)); exact BK227.out) hb); have n2_ := Aside0.mk (below_step (by repeat (first | (with_reducible first | exact HB.out | apply below_alloc | apply pw_below_drewN | apply below_drew1 | refine below_set ?_ GE227.out) | exact HB.out)) hb); have n3_ := Aside0.mk (hbox); have n4_ := Aside0.mk ((by rw [hg]; exact (below_size (by repeat (first | (with_reducible first | exact HB.out | apply below_alloc | apply pw_below_drewN | apply below_drew1 | refine below_set ?_ GE227.out) | exact HB.out))) : w.heap.size ≤ gb235)); have n5_ := Aside0.mk ((by rw [hg]; exact (below_size (by repeat (first | (with_reducible first | exact HB.out | apply below_alloc | apply pw_below_drewN | apply below_drew1 | refine below_set ?_ GE227.out) | exact HB.out))) : w.heap.size ≤ gb235)); have n6_ := Aside0.mk ((by rw [hg]; exact Nat.ne_of_lt (blk_lt (g := gb227) (o := .cells #[.int .i64 a1_0, .int .i64 a1_1, .int .i64 a1_2, .float .f64 a1_3, .float .f64 a1_4] 56 (0, 0)) (by (with_reducible repeat (first | refine blk_drewN ?_ _ | refine blk_drew ?_ | refine blk_alloc ?_ _)); exact BK227.out)) : gb227 ≠ gb235)); have n7_ := Aside0.mk ((by rw [hg]; exact Nat.ne_of_gt (blk_lt (g := gb227) (o := .cells #[.int .i64 a1_0, .int .i64 a1_1, .int .i64 a1_2, .float .f64 a1_3, .float .f64 a1_4] 56 (0, 0)) (by (with_reducible repeat (first | refine blk_drewN ?_ _ | refine blk_drew ?_ | refine blk_alloc ?_ _)); exact BK227.out)) : gb235 ≠ gb227)); clear HO_6; clear BK227; clear HB; have HO_6 := n0_; have BK227 := n1_; have HB := n2_; have BK235 := n3_; have GW235 := n4_; have GE235 := n5_; have NB227_235 := n6_; have NB235_227 := n7_; clear n0_ n1_ n2_ n3_ n4_ n5_ n6_ n7_; clear hb hbox hg; have hnb42 := NB235_227.out; have hnc42 := NB227_235.out; have hcz43_0 : w41.cell? ⟨gb235, 0, none⟩ = some (.float .f64 0) := (blk_cell BK235.out 0).trans rfl; have hcz43_1 : w41.cell? ⟨gb235, 1, none⟩ = some (.float .f64 0) := (blk_cell BK235.out 1).trans rfl; have hfz43_0 := blk_frozen BK235.out 0; have hfz43_1 := blk_frozen BK235.out 1) | ((with_reducible refine gate_store (t := 28) (p := 8) rfl ?_); refine store_event (t := 28) (p := 8) (v := ?vo_w44) (w1 := ((w41.setCell ⟨gb235, 0, none⟩ (.float .f64 ((rd_T28 l0 a1_1).f0))).setCell ⟨gb235, 1, none⟩ (.float .f64 ((rd_T28 l0 a1_1).f1)))) ?hg ?ho ?hn ?hr ?_; (case ho => rfl); (case hg => rfl); (case hn => rfl); (case hr => first | (go_simp; done) | (go_simp; rfl)); intro w44 hw; have n0_ : Aside0 (Kd.R k28 28 w44 w.heap.size (fun k_ => k_ ≠ gb235) v229 t228) := ⟨(by rw [hw]; exact (by (with_reducible repeat (first | apply Kd.R_alloc | apply Kd.R_drewN | apply Kd.R_drew)); exact Kd.R_mono (Kd.R_far (Kd.R_far (Kd.R_mono HO_6.out (fun k_ hk => (⟨hk, hk.2⟩ : _ ∧ k_ ≠ gb235))) (fun _ hk => hk.2) (.float .f64 ((rd_T28 l0 a1_1).f0))) (fun _ hk => hk.2) (.float .f64 ((rd_T28 l0 a1_1).f1))) (fun _ hk => hk.1.2)))⟩; have n1_ : Aside0 (w44.heap[gb227]? = some (.cells #[.int .i64 a1_0, .int .i64 a1_1, .int .i64 a1_2, .float .f64 a1_3, .float .f64 a1_4] 56 (0, 0))) := ⟨(by rw [hw]; exact (by (with_reducible repeat (first | refine blk_drewN ?_ _ | refine blk_drew ?_ | refine blk_alloc ?_ _)); refine blk_far ?_ NB227_235.out _; (with_reducible repeat (first | refine blk_drewN ?_ _ | refine blk_drew ?_ | refine blk_alloc ?_ _)); refine blk_far ?_ NB227_235.out _; (with_reducible repeat (first | refine blk_drewN ?_ _ | refine blk_drew ?_ | refine blk_alloc ?_ _)); exact BK227.out))⟩; have n2_ : Aside0 (w44.heap[gb235]? = some (.cells #[.float .f64 ((rd_T28 l0 a1_1).f0), .float .f64 ((rd_T28 l0 a1_1).f1)] 28 (0, 0))) := ⟨(by rw [hw]; exact (by (with_reducible repeat (first | refine blk_drewN ?_ _ | refine blk_drew ?_ | refine blk_alloc ?_ _)); refine blk_put (cs := #[.float .f64 ((rd_T28 l0 a1_1).f0), .float .f64 0]) ?_ 1 _ rfl; (with_reducible repeat (first | refine blk_drewN ?_ _ | refine blk_drew ?_ | refine blk_alloc ?_ _)); refine blk_put (cs := #[.float .f64 0, .float .f64 0]) ?_ 0 _ rfl; (with_reducible repeat (first | refine blk_drewN ?_ _ | refine blk_drew ?_ | refine blk_alloc ?_ _)); exact BK235.out))⟩; have n3_ : Aside0 (Below w.heap.size w w44) := ⟨(by rw [hw]; exact (by repeat (first | (with_reducible first | exact HB.out | apply below_alloc | apply pw_below_drewN | apply below_drew1 | refine below_set ?_ GE227.out | refine below_set ?_ GE235.out) | exact HB.out)))⟩; clear hw; clear HO_6; clear BK227; clear BK235; clear HB; have HO_6 := n0_; have BK227 := n1_; have BK235 := n2_; have HB := n3_; clear n0_ n1_ n2_ n3_; have hcz45_0 : w44.cell? ⟨gb227, 0, none⟩ = some (.int .i64 a1_0) := (blk_cell BK227.out 0).trans rfl; have hcz45_1 : w44.cell? ⟨gb227, 1, none⟩ = some (.int .i64 a1_1) := (blk_cell BK227.out 1).trans rfl; have hcz45_2 : w44.cell? ⟨gb227, 2, none⟩ = some (.int .i64 a1_2) := (blk_cell BK227.out 2).trans rfl; have hcz45_3 : w44.cell? ⟨gb227, 3, none⟩ = some (.float .f64 a1_3) := (blk_cell BK227.out 3).trans rfl; have hcz45_4 : w44.cell? ⟨gb227, 4, none⟩ = some (.float .f64 a1_4) := (blk_cell BK227.out 4).trans rfl; have hfz45_0 := blk_frozen BK227.out 0; have hfz45_1 := blk_frozen BK227.out 1; have hfz45_2 := blk_frozen BK227.out 2; have hfz45_3 := blk_frozen BK227.out 3; have hfz45_4 := blk_frozen BK227.out 4; have hcz46_0 : w44.cell? ⟨gb235, 0, none⟩ = some (.float .f64 ((rd_T28 l0 a1_1).f0)) := (blk_cell BK235.out 0).trans rfl; have hcz46_1 : w44.cell? ⟨gb235, 1, none⟩ = some (.float .f64 ((rd_T28 l0 a1_1).f1)) := (blk_cell BK235.out 1).trans rfl; have hfz46_0 := blk_frozen BK235.out 0; have hfz46_1 := blk_frozen BK235.out 1) | ((with_reducible refine gate_dst (N := 80) rfl ?_); refine fl_event (k := .f64) (R := FRk .f64 .add ((rd_T28 l0 a1_1).f0) a1_3) ?hg (N := 80) ?hd ?hr ?_; (case hd => rfl); (case hg => rfl); (case hr => obtain ⟨r_, w_, hc_, hR_, hq_⟩ := frk_run (P := Try.prog) .f64 .add 26 ((rd_T28 l0 a1_1).f0) a1_3 _ (by simp); exact ⟨r_, w_, by first | (go_simp; done) | (go_simp; rfl), hR_, hq_⟩); intro fr237 w47 hR_ hb; have HD33 := Aside0.mk (HD34.out fr237 hR_); clear HD34 hR_; have n0_ := Aside0.mk (Kd.R_below (by (with_reducible repeat (first | apply Kd.R_alloc | apply Kd.R_drewN | apply Kd.R_drew)); exact HO_6.out) hb); have n1_ := Aside0.mk (blk_below (g := gb227) (o := .cells #[.int .i64 a1_0, .int .i64 a1_1, .int .i64 a1_2, .float .f64 a1_3, .float .f64 a1_4] 56 (0, 0)) (by (with_reducible repeat (first | refine blk_drewN ?_ _ | refine blk_drew ?_ | refine blk_alloc ?_ _)); exact BK227.out) hb); have n2_ := Aside0.mk (blk_below (g := gb235) (o := .cells #[.float .f64 ((rd_T28 l0 a1_1).f0), .float .f64 ((rd_T28 l0 a1_1).f1)] 28 (0, 0)) (by (with_reducible repeat (first | refine blk_drewN ?_ _ | refine blk_drew ?_ | refine blk_alloc ?_ _)); exact BK235.out) hb); have n3_ := Aside0.mk (below_step (by repeat (first | (with_reducible first | exact HB.out | apply below_alloc | apply pw_below_drewN | apply below_drew1 | refine below_set ?_ GE227.out | refine below_set ?_ GE235.out) | exact HB.out)) hb); clear HO_6; clear BK227; clear BK235; clear HB; have HO_6 := n0_; have BK227 := n1_; have BK235 := n2_; have HB := n3_; clear n0_ n1_ n2_ n3_; (try clear hb); have hcz48_0 : w47.cell? ⟨gb235, 0, none⟩ = some (.float .f64 ((rd_T28 l0 a1_1).f0)) := (blk_cell BK235.out 0).trans rfl; have hcz48_1 : w47.cell? ⟨gb235, 1, none⟩ = some (.float .f64 ((rd_T28 l0 a1_1).f1)) := (blk_cell BK235.out 1).trans rfl; have hfz48_0 := blk_frozen BK235.out 0; have hfz48_1 := blk_frozen BK235.out 1; have hcz49_0 : w47.cell? ⟨gb227, 0, none⟩ = some (.int .i64 a1_0) := (blk_cell BK227.out 0).trans rfl; have hcz49_1 : w47.cell? ⟨gb227, 1, none⟩ = some (.int .i64 a1_1) := (blk_cell BK227.out 1).trans rfl; have hcz49_2 : w47.cell? ⟨gb227, 2, none⟩ = some (.int .i64 a1_2) := (blk_cell BK227.out 2).trans rfl; have hcz49_3 : w47.cell? ⟨gb227, 3, none⟩ = some (.float .f64 a1_3) := (blk_cell BK227.out 3).trans rfl; have hcz49_4 : w47.cell? ⟨gb227, 4, none⟩ = some (.float .f64 a1_4) := (blk_cell BK227.out 4).trans rfl; have hfz49_0 := blk_frozen BK227.out 0; have hfz49_1 := blk_frozen BK227.out 1; have hfz49_2 := blk_frozen BK227.out 2; have hfz49_3 := blk_frozen BK227.out 3; have hfz49_4 := blk_frozen BK227.out 4) | ((with_reducible refine gate_dst (N := 86) rfl ?_); refine fl_event (k := .f64) (R := FRk .f64 .add ((rd_T28 l0 a1_1).f1) a1_4) ?hg (N := 86) ?hd ?hr ?_; (case hd => rfl); (case hg => rfl); (case hr => obtain ⟨r_, w_, hc_, hR_, hq_⟩ := frk_run (P := Try.prog) .f64 .add 26 ((rd_T28 l0 a1_1).f1) a1_4 _ (by simp); exact ⟨r_, w_, by first | (go_simp; done) | (go_simp; rfl), hR_, hq_⟩); intro fr238 w50 hR_ hb; have HD35 := Aside0.mk (HD33.out fr238 hR_); clear HD33 hR_; have n0_ := Aside0.mk (Kd.R_below (by (with_reducible repeat (first | apply Kd.R_alloc | apply Kd.R_drewN | apply Kd.R_drew)); exact HO_6.out) hb); have n1_ := Aside0.mk (blk_below (g := gb227) (o := .cells #[.int .i64 a1_0, .int .i64 a1_1, .int .i64 a1_2, .float .f64 a1_3, .float .f64 a1_4] 56 (0, 0)) (by (with_reducible repeat (first | refine blk_drewN ?_ _ | refine blk_drew ?_ | refine blk_alloc ?_ _)); exact BK227.out) hb); have n2_ := Aside0.mk (blk_below (g := gb235) (o := .cells #[.float .f64 ((rd_T28 l0 a1_1).f0), .float .f64 ((rd_T28 l0 a1_1).f1)] 28 (0, 0)) (by (with_reducible repeat (first | refine blk_drewN ?_ _ | refine blk_drew ?_ | refine blk_alloc ?_ _)); exact BK235.out) hb); have n3_ := Aside0.mk (below_step (by repeat (first | (with_reducible first | exact HB.out | apply below_alloc | apply pw_below_drewN | apply below_drew1 | refine below_set ?_ GE227.out | refine below_set ?_ GE235.out) | exact HB.out)) hb); clear HO_6; clear BK227; clear BK235; clear HB; have HO_6 := n0_; have BK227 := n1_; have BK235 := n2_; have HB := n3_; clear n0_ n1_ n2_ n3_; (try clear hb); have c36 : a1_1 < (t228.length : Int) := (by by_cases hc_ : a1_1 < (t228.length : Int); exact hc_; (have H_ := HD35.out; rw [if_neg hc_] at H_; exact absurd H_ (by simp))); have HD37 := Aside0.mk (show (Q_ ((t228.set (a1_1 : Int).toNat (⟨fr237, fr238⟩ : S28)), true)) from (by have H_ := HD35.out; rw [if_pos c36] at H_; exact H_)); clear HD35; have c36b0 : decide (a1_1 < (t228.length : Int)) = true := decide_eq_true c36; clear c36; have p38 : 0 ≤ (a1_1 : Int) := of_decide_eq_true (by first | (with_reducible assumption) | assumption); have q38 : (a1_1 : Int) < ((t228.length : Int) : Int) := of_decide_eq_true (by first | (with_reducible assumption) | assumption); obtain ⟨go38, co38, eo38, gb38, gl38, cl38, HG38⟩ := Kd.R_form HO_6.out (by omega); (first | cases eo38 | (injection eo38 with ea_ en_ ec_; (first | subst ea_ | (injection ea_ with ea_; subst ea_)); subst ec_; clear en_)); have GB38 := Aside0.mk gb38; have GG38 := Aside0.mk HG38; clear gb38 gl38 HG38; obtain ⟨ce38, hcl38, hM38, hcc38, hfr38⟩ := Kd.R_elem HO_6.out z28 (a1_1 : Int) p38 q38; obtain rfl := k28_openM hM38; have hx38_0 : w50.cell? ⟨go38, (a1_1 : Int).toNat * 2, none⟩ = some (.float .f64 ((rd_T28 t228 a1_1).f0)) := hcc38 0 _ rfl; have hx38_1 : w50.cell? ⟨go38, (a1_1 : Int).toNat * 2 + 1, none⟩ = some (.float .f64 ((rd_T28 t228 a1_1).f1)) := hcc38 1 _ rfl; have hf38_0 : w50.frozen? ⟨go38, (a1_1 : Int).toNat * 2, none⟩ = false := hfr38 0; have hf38_1 : w50.frozen? ⟨go38, (a1_1 : Int).toNat * 2 + 1, none⟩ = false := hfr38 1; clear hcl38 hcc38 hfr38 hM38; replace p38 := eq_true p38; replace q38 := eq_true q38; obtain ⟨y239, hy239⟩ : ∃ y_ : List (S28), y_ = (t228.set (a1_1 : Int).toNat (⟨fr237, fr238⟩ : S28)) := ⟨_, rfl⟩; have HD39 := Aside0.mk (show (Q_ (y239, true)) from (by have H := HD37.out; first | (rw [hy239]; with_reducible exact H) | (obtain ⟨_, e_, H2_⟩ := H; subst e_; rw [hy239]; exact H2_) | with_reducible exact H | (rw [hy239]; exact H) | exact H)); clear HD37; have Ny239 := Aside0.mk hy239; clear hy239; have HX51 := Aside0.mk (show Kd.R k28 28 w50 w.heap.size (fun k_ => k_ ≠ gb235) (.slice (some ⟨go38, 0, none⟩) t228.length co38) t228 from (by (with_reducible repeat (first | apply Kd.R_alloc | apply Kd.R_drewN | apply Kd.R_drew)); exact HO_6.out)); obtain ⟨ce51, hcl51, hM51, hcc51, hfr51⟩ := Kd.R_elem HX51.out z28 (a1_1 : Int) (of_decide_eq_true (by first | (with_reducible assumption) | assumption)) (by have h_ : (a1_1 : Int) < ((t228.length : Int) : Int) := of_decide_eq_true (by first | (with_reducible assumption) | assumption); first | exact h_ | (have e_ := (Kd.R_reads' HO_6.out).1; omega) | simpa using h_); obtain rfl := k28_openM hM51; have HP51 := Kd.R_seg HX51.out (a1_1 : Int) (of_decide_eq_true (by first | (with_reducible assumption) | assumption)) (by have h_ : (a1_1 : Int) < ((t228.length : Int) : Int) := of_decide_eq_true (by first | (with_reducible assumption) | assumption); first | exact h_ | (have e_ := (Kd.R_reads' HO_6.out).1; omega) | simpa using h_) (seg := [.float .f64 fr237, .float .f64 fr238]) (j := 0) hcl51 hcc51 (show 2 ≤ 2 from by decide) (x' := (⟨fr237, fr238⟩ : S28)) (k28_mkM _ _ _ (⟨fr237, fr238⟩ : S28) ) (fun _ hk => hk); have hx51_0 := hcc51 0 _ rfl; (try simp only [show (k28).sz = 2 from rfl, Nat.mul_one, Nat.add_zero] at hx51_0); have hf51_0 := hfr51 0; (try simp only [show (k28).sz = 2 from rfl, Nat.mul_one, Nat.add_zero] at hf51_0); have hx51_1 := hcc51 1 _ rfl; (try simp only [show (k28).sz = 2 from rfl, Nat.mul_one, Nat.add_zero] at hx51_1); have hf51_1 := hfr51 1; (try simp only [show (k28).sz = 2 from rfl, Nat.mul_one, Nat.add_zero] at hf51_1); clear hcl51 hcc51 hfr51 hM51) | ((with_reducible refine gate_store (t := 28) (p := 88) rfl ?_); refine store_event (t := 28) (p := 88) (v := ?vo_w52) (w1 := ((w50.setCell ⟨go38, (a1_1 : Int).toNat * 2, none⟩ (.float .f64 fr237)).setCell ⟨go38, (a1_1 : Int).toNat * 2 + 1, none⟩ (.float .f64 fr238))) ?hg ?ho ?hn ?hr ?_; (case ho => rfl); (case hg => rfl); (case hn => rfl); (case hr => first | (go_simp; done) | (go_simp; rfl)); intro w52 hw; have hg : w50.grownBy w52 (some go38) := (by rw [hw]; exact HP51.2); have hp_ : Kd.R k28 28 w52 w.heap.size (fun k_ => k_ ≠ gb235) (.slice (some ⟨go38, 0, none⟩) t228.length co38) y239 := (by rw [hw, Ny239.out]; exact HP51.1); clear HP51; have n0_ := Aside0.mk (hp_); have n1_ := Aside0.mk (blk_grown (g := gb227) (o := .cells #[.int .i64 a1_0, .int .i64 a1_1, .int .i64 a1_2, .float .f64 a1_3, .float .f64 a1_4] 56 (0, 0)) (by (with_reducible repeat (first | refine blk_drewN ?_ _ | refine blk_drew ?_ | refine blk_alloc ?_ _)); exact BK227.out) hg (Kd.R_ne HO_6.out BK227.out (by decide))); have n2_ := Aside0.mk (blk_grown (g := gb235) (o := .cells #[.float .f64 ((rd_T28 l0 a1_1).f0), .float .f64 ((rd_T28 l0 a1_1).f1)] 28 (0, 0)) (by (with_reducible repeat (first | refine blk_drewN ?_ _ | refine blk_drew ?_ | refine blk_alloc ?_ _)); exact BK235.out) hg (Kd.R_away HO_6.out (fun _ hk => hk))); have n3_ := Aside0.mk ((by rw [hw]; exact below_set (below_set (HB.out) GB38.out) GB38.out : Below w.heap.size w w52)); clear HO_6; clear BK227; clear BK235; clear HB; have HO_6 := n0_; have BK227 := n1_; have BK235 := n2_; have HB := n3_; clear n0_ n1_ n2_ n3_; clear hg hw hp_))
        go_ret2
        exact Dq2.mk HD39.out ⟨_, by first | rfl | (simp [errW_none, errW_some] <;> rfl) | (simp [*, errW_none, errW_some] <;> rfl), by (with_reducible repeat (first | apply Kd.R_alloc | apply Kd.R_drewN | apply Kd.R_drew)); exact Kd.R_mono HO_6.out (fun _ hk => trivial), by repeat (first | (with_reducible first | exact HB.out | apply below_alloc | apply pw_below_drewN | apply below_drew1 | refine below_set ?_ GE227.out | refine below_set ?_ GE235.out) | exact HB.out)⟩
       ·rw [if_neg c32] at H
        have c32b0 : (a1_0 == 2) = false := beq_eq_false_iff_ne.mpr c32
        have c32b1 : (a1_0 != 2) = true := bne_iff_ne.mpr c32
        by_cases c53 : a1_0 = 3
        ·rw [if_pos c53] at H
         have c53b0 : (a1_0 == 3) = true := beq_iff_eq.mpr c53
         have c53b1 : (a1_0 != 3) = false := bne_eq_false_iff_eq.mpr c53
         clear c53
         have HD55 := Aside0.mk H
         clear H
         have hcz60_0 : wc.cell? ⟨gb227, 0, none⟩ = some (.int .i64 a1_0) := (blk_cell BK227.out 0).trans rfl
         have hcz60_1 : wc.cell? ⟨gb227, 1, none⟩ = some (.int .i64 a1_1) := (blk_cell BK227.out 1).trans rfl
         have hcz60_2 : wc.cell? ⟨gb227, 2, none⟩ = some (.int .i64 a1_2) := (blk_cell BK227.out 2).trans rfl
         have hcz60_3 : wc.cell? ⟨gb227, 3, none⟩ = some (.float .f64 a1_3) := (blk_cell BK227.out 3).trans rfl
         have hcz60_4 : wc.cell? ⟨gb227, 4, none⟩ = some (.float .f64 a1_4) := (blk_cell BK227.out 4).trans rfl
         have hfz60_0 := blk_frozen BK227.out 0
         have hfz60_1 := blk_frozen BK227.out 1
         have hfz60_2 := blk_frozen BK227.out 2
         have hfz60_3 := blk_frozen BK227.out 3
         have hfz60_4 := blk_frozen BK227.out 4
         have p234 : 0 ≤ (a1_1 : Int) := of_decide_eq_true (by first | (with_reducible assumption) | assumption)
         have q234 : a1_1 < (l0.length : Int) := of_decide_eq_true (by first | (with_reducible assumption) | assumption)
         obtain ⟨ad234, e234, hx234_0, hx234_1⟩ := at_T28 HR0.out a1_1 p234 q234
         cases e234
         replace hx234_0 := (HB.out.cell (World.block_lt_of_cell? w _ hx234_0)).trans hx234_0
         replace hx234_1 := (HB.out.cell (World.block_lt_of_cell? w _ hx234_1)).trans hx234_1
         replace p234 := eq_true p234
         replace q234 := eq_true q234
         try go_wp2_with (first | ((with_reducible refine gate_dst (N := 8) rfl ?_); refine box_event ?hg (N := 8) ?hd (cs := #[.float .f64 0, .float .f64 0]) (t := 28) ?hr ?_; (case hd => rfl); (case hg => rfl); (case hr => first | (go_simp; done) | (go_simp; rfl)); intro gb235 hg w61 hbox hb; have n0_ := Aside0.mk (Kd.R_below (Kd.R_elderB (by (with_reducible repeat (first | apply Kd.R_alloc | apply Kd.R_drewN | apply Kd.R_drew)); exact HO_6.out) gb235 (Nat.le_of_eq hg.symm)) hb); have n1_ := Aside0.mk (blk_below (g := gb227) (o := .cells #[.int .i64 a1_0, .int .i64 a1_1, .int .i64 a1_2, .float .f64 a1_3, .float .f64 a1_4] 56 (0, 0)) (by (with_reducible repeat (first | refine blk_drewN ?_ _ | refine blk_drew ?_ | refine blk_alloc ?_ _)); exact BK227.out) hb); have n2_ := Aside0.mk (below_step (by repeat (first | (with_reducible first | exact HB.out | apply below_alloc | apply pw_below_drewN | apply below_drew1 | refine below_set ?_ GE227.out) | exact HB.out)) hb); have n3_ := Aside0.mk (hbox); have n4_ := Aside0.mk ((by rw [hg]; exact (below_size (by repeat (first | (with_reducible first | exact HB.out | apply below_alloc | apply pw_below_drewN | apply below_drew1 | refine below_set ?_ GE227.out) | exact HB.out))) : w.heap.size ≤ gb235)); have n5_ := Aside0.mk ((by rw [hg]; exact (below_size (by repeat (first | (with_reducible first | exact HB.out | apply below_alloc | apply pw_below_drewN | apply below_drew1 | refine below_set ?_ GE227.out) | exact HB.out))) : w.heap.size ≤ gb235)); have n6_ := Aside0.mk ((by rw [hg]; exact Nat.ne_of_lt (blk_lt (g := gb227) (o := .cells #[.int .i64 a1_0, .int .i64 a1_1, .int .i64 a1_2, .float .f64 a1_3, .float .f64 a1_4] 56 (0, 0)) (by (with_reducible repeat (first | refine blk_drewN ?_ _ | refine blk_drew ?_ | refine blk_alloc ?_ _)); exact BK227.out)) : gb227 ≠ gb235)); have n7_ := Aside0.mk ((by rw [hg]; exact Nat.ne_of_gt (blk_lt (g := gb227) (o := .cells #[.int .i64 a1_0, .int .i64 a1_1, .int .i64 a1_2, .float .f64 a1_3, .float .f64 a1_4] 56 (0, 0)) (by (with_reducible repeat (first | refine blk_drewN ?_ _ | refine blk_drew ?_ | refine blk_alloc ?_ _)); exact BK227.out)) : gb235 ≠ gb227)); clear HO_6; clear BK227; clear HB; have HO_6 := n0_; have BK227 := n1_; have HB := n2_; have BK235 := n3_; have GW235 := n4_; have GE235 := n5_; have NB227_235 := n6_; have NB235_227 := n7_; clear n0_ n1_ n2_ n3_ n4_ n5_ n6_ n7_; clear hb hbox hg; have hnb62 := NB235_227.out; have hnc62 := NB227_235.out; have hcz63_0 : w61.cell? ⟨gb235, 0, none⟩ = some (.float .f64 0) := (blk_cell BK235.out 0).trans rfl; have hcz63_1 : w61.cell? ⟨gb235, 1, none⟩ = some (.float .f64 0) := (blk_cell BK235.out 1).trans rfl; have hfz63_0 := blk_frozen BK235.out 0; have hfz63_1 := blk_frozen BK235.out 1; have hcz64_0 : w61.cell? ⟨gb227, 0, none⟩ = some (.int .i64 a1_0) := (blk_cell BK227.out 0).trans rfl; have hcz64_1 : w61.cell? ⟨gb227, 1, none⟩ = some (.int .i64 a1_1) := (blk_cell BK227.out 1).trans rfl; have hcz64_2 : w61.cell? ⟨gb227, 2, none⟩ = some (.int .i64 a1_2) := (blk_cell BK227.out 2).trans rfl; have hcz64_3 : w61.cell? ⟨gb227, 3, none⟩ = some (.float .f64 a1_3) := (blk_cell BK227.out 3).trans rfl; have hcz64_4 : w61.cell? ⟨gb227, 4, none⟩ = some (.float .f64 a1_4) := (blk_cell BK227.out 4).trans rfl; have hfz64_0 := blk_frozen BK227.out 0; have hfz64_1 := blk_frozen BK227.out 1; have hfz64_2 := blk_frozen BK227.out 2; have hfz64_3 := blk_frozen BK227.out 3; have hfz64_4 := blk_frozen BK227.out 4))
         have n0_ : Aside0 (Kd.R k28 28 ((w61.setCell ⟨gb235, 0, none⟩ (.float .f64 ((rd_T28 l0 a1_1).f0))).setCell ⟨gb235, 1, none⟩ (.float .f64 ((rd_T28 l0 a1_1).f1))) w.heap.size (fun k_ => k_ ≠ gb235) v229 t228) := ⟨by (with_reducible repeat (first | apply Kd.R_alloc | apply Kd.R_drewN | apply Kd.R_drew)); exact Kd.R_mono (Kd.R_far (Kd.R_far (Kd.R_mono HO_6.out (fun k_ hk => (⟨hk, hk.2⟩ : _ ∧ k_ ≠ gb235))) (fun _ hk => hk.2) (.float .f64 ((rd_T28 l0 a1_1).f0))) (fun _ hk => hk.2) (.float .f64 ((rd_T28 l0 a1_1).f1))) (fun _ hk => hk.1.2)⟩
         have n1_ : Aside0 (((w61.setCell ⟨gb235, 0, none⟩ (.float .f64 ((rd_T28 l0 a1_1).f0))).setCell ⟨gb235, 1, none⟩ (.float .f64 ((rd_T28 l0 a1_1).f1))).heap[gb227]? = some (.cells #[.int .i64 a1_0, .int .i64 a1_1, .int .i64 a1_2, .float .f64 a1_3, .float .f64 a1_4] 56 (0, 0))) := ⟨by (with_reducible repeat (first | refine blk_drewN ?_ _ | refine blk_drew ?_ | refine blk_alloc ?_ _)); refine blk_far ?_ NB227_235.out _; (with_reducible repeat (first | refine blk_drewN ?_ _ | refine blk_drew ?_ | refine blk_alloc ?_ _)); refine blk_far ?_ NB227_235.out _; (with_reducible repeat (first | refine blk_drewN ?_ _ | refine blk_drew ?_ | refine blk_alloc ?_ _)); exact BK227.out⟩
         have n2_ : Aside0 (((w61.setCell ⟨gb235, 0, none⟩ (.float .f64 ((rd_T28 l0 a1_1).f0))).setCell ⟨gb235, 1, none⟩ (.float .f64 ((rd_T28 l0 a1_1).f1))).heap[gb235]? = some (.cells #[.float .f64 ((rd_T28 l0 a1_1).f0), .float .f64 ((rd_T28 l0 a1_1).f1)] 28 (0, 0))) := ⟨by (with_reducible repeat (first | refine blk_drewN ?_ _ | refine blk_drew ?_ | refine blk_alloc ?_ _)); refine blk_put (cs := #[.float .f64 ((rd_T28 l0 a1_1).f0), .float .f64 0]) ?_ 1 _ rfl; (with_reducible repeat (first | refine blk_drewN ?_ _ | refine blk_drew ?_ | refine blk_alloc ?_ _)); refine blk_put (cs := #[.float .f64 0, .float .f64 0]) ?_ 0 _ rfl; (with_reducible repeat (first | refine blk_drewN ?_ _ | refine blk_drew ?_ | refine blk_alloc ?_ _)); exact BK235.out⟩
         have n3_ : Aside0 (Below w.heap.size w ((w61.setCell ⟨gb235, 0, none⟩ (.float .f64 ((rd_T28 l0 a1_1).f0))).setCell ⟨gb235, 1, none⟩ (.float .f64 ((rd_T28 l0 a1_1).f1)))) := ⟨by repeat (first | (with_reducible first | exact HB.out | apply below_alloc | apply pw_below_drewN | apply below_drew1 | refine below_set ?_ GE227.out | refine below_set ?_ GE235.out) | exact HB.out)⟩
         (try clear HO_6)
         (try clear BK227)
         (try clear BK235)
         (try clear HB)
         generalize ((w61.setCell ⟨gb235, 0, none⟩ (.float .f64 ((rd_T28 l0 a1_1).f0))).setCell ⟨gb235, 1, none⟩ (.float .f64 ((rd_T28 l0 a1_1).f1))) = w65 at n0_ n1_ n2_ n3_ ⊢
         have HO_6 := n0_
         have BK227 := n1_
         have BK235 := n2_
         have HB := n3_
         clear n0_ n1_ n2_ n3_
         have n0_ := Aside0.mk (Kd.R_drew HO_6.out)
         have n1_ := Aside0.mk (blk_drew BK227.out)
         have n2_ := Aside0.mk (blk_drew BK235.out)
         have n3_ := Aside0.mk (below_drew1 HB.out)
         clear HO_6
         clear BK227
         clear BK235
         clear HB
         have HO_6 := n0_
         have BK227 := n1_
         have BK235 := n2_
         have HB := n3_
         clear n0_ n1_ n2_ n3_
         refine start_ (n := 9) (S := fun w' => w'.cell? ⟨gb227, 0, none⟩ = some (.int .i64 a1_0) ∧ w'.cell? ⟨gb227, 1, none⟩ = some (.int .i64 a1_1) ∧ w'.cell? ⟨gb227, 2, none⟩ = some (.int .i64 a1_2) ∧ w'.cell? ⟨gb227, 3, none⟩ = some (.float .f64 a1_3) ∧ w'.cell? ⟨gb227, 4, none⟩ = some (.float .f64 a1_4) ∧ w'.cell? ⟨gb235, 0, none⟩ = some (.float .f64 ((rd_T28 l0 a1_1).f0)) ∧ w'.cell? ⟨gb235, 1, none⟩ = some (.float .f64 ((rd_T28 l0 a1_1).f1))) (ds := [8]) #[false, false, false, false, false, false, false, false, false] (by kernel_rfl) rfl rfl ⟨(blk_cell BK227.out 0).trans rfl, (blk_cell BK227.out 1).trans rfl, (blk_cell BK227.out 2).trans rfl, (blk_cell BK227.out 3).trans rfl, (blk_cell BK227.out 4).trans rfl, (blk_cell BK235.out 0).trans rfl, (blk_cell BK235.out 1).trans rfl⟩ (fun hHeld => ?_); refine with_tabW spec_Turned.tab13 spec_Turned.bits13 (fun HT_ HW_ => ?_)
         generalize w65.drew = w66 at HO_6 BK227 BK235 HB hHeld ⊢
         refine pure_ (i := 0) (N := some 91) (v := ?_) (a' := ?_) #[true, false, false, false, false, false, false, false, false] rfl rfl (any_of HT_.out (by kernel_rfl)) (fun _ _ _ h => h) (Or.inl ⟨by rfl, ?_⟩) ?_ ?_
         rotate_left
         ·intro w'
          go_simp
          with_reducible rfl
         rotate_left
         ·simp only [Act.put, List.setIfInBounds_toArray, List.set_cons_zero, List.set_cons_succ, i64_w, i32_w]
          rfl
         refine pure_ (i := 1) (N := some 92) (v := ?_) (a' := ?_) #[true, true, false, false, false, false, false, false, false] rfl rfl (any_of HT_.out (by kernel_rfl)) (fun _ _ _ h => h) (Or.inl ⟨by rfl, ?_⟩) ?_ ?_
         rotate_left
         ·intro w'
          go_simp
          with_reducible rfl
         rotate_left
         ·simp only [Act.put, List.setIfInBounds_toArray, List.set_cons_zero, List.set_cons_succ, i64_w, i32_w]
          rfl
         refine pure_ (i := 4) (N := some 95) (v := ?_) (a' := ?_) #[true, true, false, false, true, false, false, false, false] rfl rfl (any_of HT_.out (by kernel_rfl)) (fun _ _ _ h => h) (Or.inl ⟨by rfl, ?_⟩) ?_ ?_
         rotate_left
         ·intro w'
          go_simp
          with_reducible rfl
         rotate_left
         ·simp only [Act.put, List.setIfInBounds_toArray, List.set_cons_zero, List.set_cons_succ, i64_w, i32_w]
          rfl
         refine take_ (i := 2) (N := some 93) (v := ?_) (a' := ?_) #[true, true, true, false, true, false, false, false, false] rfl rfl (take_ofW HT_.out HW_.out (by kernel_rfl)) (fun _ _ _ h => h) (Or.inl ⟨by rfl, ?_⟩) hHeld ?_ ?_
         rotate_left
         ·rintro w' ⟨s0, s1, s2, s3, s4, s5, s6⟩
          go_simp
          with_reducible rfl
         rotate_left
         ·simp only [Act.put, List.setIfInBounds_toArray, List.set_cons_zero, List.set_cons_succ, i64_w, i32_w]
          rfl
         refine take_ (i := 3) (N := some 94) (v := ?_) (a' := ?_) #[true, true, true, true, true, false, false, false, false] rfl rfl (take_ofW HT_.out HW_.out (by kernel_rfl)) (fun _ _ _ h => h) (Or.inl ⟨by rfl, ?_⟩) hHeld ?_ ?_
         rotate_left
         ·rintro w' ⟨s0, s1, s2, s3, s4, s5, s6⟩
          go_simp
          with_reducible rfl
         rotate_left
         ·simp only [Act.put, List.setIfInBounds_toArray, List.set_cons_zero, List.set_cons_succ, i64_w, i32_w]
          rfl
         refine take_ (i := 5) (N := some 96) (v := ?_) (a' := ?_) #[true, true, true, true, true, true, false, false, false] rfl rfl (take_ofW HT_.out HW_.out (by kernel_rfl)) (fun _ _ _ h => h) (Or.inl ⟨by rfl, ?_⟩) hHeld ?_ ?_
         rotate_left
         ·rintro w' ⟨s0, s1, s2, s3, s4, s5, s6⟩
          go_simp
          with_reducible rfl
         rotate_left
         ·simp only [Act.put, List.setIfInBounds_toArray, List.set_cons_zero, List.set_cons_succ, i64_w, i32_w]
          rfl
         refine one_ (i := 6) (N := some 97) #[true, true, true, true, true, true, true, false, false] rfl rfl (one_of HT_.out (by kernel_rfl)) (by decide) (fun K hK => ?_)
         refine goes_ Try.func22 (by kernel_rfl) rfl #[.agg #[.float .f64 ((rd_T28 l0 a1_1).f0), .float .f64 ((rd_T28 l0 a1_1).f1)], .agg #[.float .f64 a1_3, .float .f64 a1_4]] (by rfl) rfl rfl (by (try simp only [List.map_toArray, List.map_cons, List.map_nil]); first | done | rfl | (simp only [List.length_drop, List.length_take]; rfl)) ?_
         with_reducible refine (spec_PhTimes.calls ((rd_T28 l0 a1_1).f0) ((rd_T28 l0 a1_1).f1) a1_3 a1_4 _ _ HD55.out).mono ?_
         rintro e w67 ⟨t240, t241, hq_, rfl, hb⟩
         refine ⟨_, rfl, ?_⟩
         have HD54 := Aside0.mk hq_
         clear hq_ HD55
         have n0_ := Aside0.mk (Kd.R_below (by (with_reducible repeat (first | apply Kd.R_alloc | apply Kd.R_drewN | apply Kd.R_drew)); exact HO_6.out) hb)
         have n1_ := Aside0.mk (blk_below (g := gb227) (o := .cells #[.int .i64 a1_0, .int .i64 a1_1, .int .i64 a1_2, .float .f64 a1_3, .float .f64 a1_4] 56 (0, 0)) (by (with_reducible repeat (first | refine blk_drewN ?_ _ | refine blk_drew ?_ | refine blk_alloc ?_ _)); exact BK227.out) hb)
         have n2_ := Aside0.mk (blk_below (g := gb235) (o := .cells #[.float .f64 ((rd_T28 l0 a1_1).f0), .float .f64 ((rd_T28 l0 a1_1).f1)] 28 (0, 0)) (by (with_reducible repeat (first | refine blk_drewN ?_ _ | refine blk_drew ?_ | refine blk_alloc ?_ _)); exact BK235.out) hb)
         have n3_ := Aside0.mk (below_step (by repeat (first | (with_reducible first | exact HB.out | apply below_alloc | apply pw_below_drewN | apply below_drew1 | refine below_set ?_ GE227.out | refine below_set ?_ GE235.out) | exact HB.out)) hb)
         clear HO_6
         clear BK227
         clear BK235
         clear HB
         have HO_6 := n0_
         have BK227 := n1_
         have BK235 := n2_
         have HB := n3_
         clear n0_ n1_ n2_ n3_
         (try clear hb)
         (try clear hb2)
         (try clear hk)
         (try clear hi)
         have c56 : a1_1 < (t228.length : Int) := (by by_cases hc_ : a1_1 < (t228.length : Int); exact hc_; (have H_ := HD54.out; rw [if_neg hc_] at H_; exact absurd H_ (by simp)))
         have HD57 := Aside0.mk (show (Q_ ((t228.set (a1_1 : Int).toNat (⟨t240, t241⟩ : S28)), true)) from (by have H_ := HD54.out; rw [if_pos c56] at H_; exact H_))
         clear HD54
         have c56b0 : decide (a1_1 < (t228.length : Int)) = true := decide_eq_true c56
         clear c56
         have p58 : 0 ≤ (a1_1 : Int) := of_decide_eq_true (by first | (with_reducible assumption) | assumption)
         have q58 : (a1_1 : Int) < ((t228.length : Int) : Int) := of_decide_eq_true (by first | (with_reducible assumption) | assumption)
         obtain ⟨go58, co58, eo58, gb58, gl58, cl58, HG58⟩ := Kd.R_form HO_6.out (by omega)
         (first | cases eo58 | (injection eo58 with ea_ en_ ec_; (first | subst ea_ | (injection ea_ with ea_; subst ea_)); subst ec_; clear en_))
         have GB58 := Aside0.mk gb58
         have GG58 := Aside0.mk HG58
         clear gb58 gl58 HG58
         obtain ⟨ce58, hcl58, hM58, hcc58, hfr58⟩ := Kd.R_elem HO_6.out z28 (a1_1 : Int) p58 q58
         obtain rfl := k28_openM hM58
         have hx58_0 : World.cell? _ ⟨go58, (a1_1 : Int).toNat * 2, none⟩ = some (.float .f64 ((rd_T28 t228 a1_1).f0)) := hcc58 0 _ rfl
         have hx58_1 : World.cell? _ ⟨go58, (a1_1 : Int).toNat * 2 + 1, none⟩ = some (.float .f64 ((rd_T28 t228 a1_1).f1)) := hcc58 1 _ rfl
         have hf58_0 : World.frozen? _ ⟨go58, (a1_1 : Int).toNat * 2, none⟩ = false := hfr58 0
         have hf58_1 : World.frozen? _ ⟨go58, (a1_1 : Int).toNat * 2 + 1, none⟩ = false := hfr58 1
         clear hcl58 hcc58 hfr58 hM58
         replace p58 := eq_true p58
         replace q58 := eq_true q58
         obtain ⟨y242, hy242⟩ : ∃ y_ : List (S28), y_ = (t228.set (a1_1 : Int).toNat (⟨t240, t241⟩ : S28)) := ⟨_, rfl⟩
         have HD59 := Aside0.mk (show (Q_ (y242, true)) from (by have H := HD57.out; first | (rw [hy242]; with_reducible exact H) | (obtain ⟨_, e_, H2_⟩ := H; subst e_; rw [hy242]; exact H2_) | with_reducible exact H | (rw [hy242]; exact H) | exact H))
         clear HD57
         have Ny242 := Aside0.mk hy242
         clear hy242
         obtain ⟨ce68, hcl68, hM68, hcc68, hfr68⟩ := Kd.R_elem HO_6.out z28 (a1_1 : Int) (of_decide_eq_true (by first | (with_reducible assumption) | assumption)) (by have h_ : (a1_1 : Int) < ((t228.length : Int) : Int) := of_decide_eq_true (by first | (with_reducible assumption) | assumption); first | exact h_ | (have e_ := (Kd.R_reads' HO_6.out).1; omega) | simpa using h_)
         obtain rfl := k28_openM hM68
         have HP68 := (Kd.R_seg HO_6.out (a1_1 : Int) (of_decide_eq_true (by first | (with_reducible assumption) | assumption)) (by have h_ : (a1_1 : Int) < ((t228.length : Int) : Int) := of_decide_eq_true (by first | (with_reducible assumption) | assumption); first | exact h_ | (have e_ := (Kd.R_reads' HO_6.out).1; omega) | simpa using h_) (seg := [.float .f64 t240, .float .f64 t241]) (j := 0) hcl68 hcc68 (show 2 ≤ 2 from by decide) (x' := (⟨t240, t241⟩ : S28)) (k28_mkM _ _ _ (⟨t240, t241⟩ : S28) ) (fun _ hk => hk)).1
         rw [← Ny242.out] at HP68
         have HQ68 := Aside0.mk HP68
         clear hcl68 hcc68 hfr68 hM68 HP68
         refine hK.out _ _ ⟨(blk_cell BK227.out 0).trans rfl, (blk_cell BK227.out 1).trans rfl, (blk_cell BK227.out 2).trans rfl, (blk_cell BK227.out 3).trans rfl, (blk_cell BK227.out 4).trans rfl, (blk_cell BK235.out 0).trans rfl, (blk_cell BK235.out 1).trans rfl⟩ (fun hHeld => ?_)
         clear hK K
         refine norm_ (a' := ?_) ?_ ?_
         rotate_left
         ·show Act.put _ (some 97) _ = _
          simp only [Act.put, List.setIfInBounds_toArray, List.set_cons_zero, List.set_cons_succ, i64_w, i32_w]
          rfl
         refine pure_ (i := 7) (N := some 98) (v := ?_) (a' := ?_) #[true, true, true, true, true, true, true, true, false] rfl rfl (any_of HT_.out (by kernel_rfl)) (fun _ _ _ h => h) (Or.inl ⟨by rfl, ?_⟩) ?_ ?_
         rotate_left
         ·intro w'
          go_simp
          with_reducible rfl
         rotate_left
         ·simp only [Act.put, List.setIfInBounds_toArray, List.set_cons_zero, List.set_cons_succ, i64_w, i32_w]
          rfl
         refine last_ (i := 8) (N := none) #[true, true, true, true, true, true, true, true, true] rfl rfl (one_of HT_.out (by kernel_rfl)) (by decide) (fun K hK => ?_)
         refine skip_ (w1 := ?_) (by rfl) rfl ?_ ?_
         rotate_left
         ·go_simp
          rfl
         refine hK.out _ _ ?_
         clear hK K
         refine done_ (done_of HT_.out (by kernel_rfl)) ?_
         try go_wp2
         go_ret2
         exact Dq2.mk HD59.out ⟨_, by first | rfl | (simp [errW_none, errW_some] <;> rfl) | (simp [*, errW_none, errW_some] <;> rfl), by (with_reducible repeat (first | apply Kd.R_alloc | apply Kd.R_drewN | apply Kd.R_drew)); exact Kd.R_mono HQ68.out (fun _ hk => trivial), by repeat (first | (with_reducible first | exact HB.out | apply below_alloc | apply pw_below_drewN | apply below_drew1 | refine below_set ?_ GB58.out | refine below_set ?_ GB58.out | refine below_set ?_ GE227.out | refine below_set ?_ GE235.out) | exact HB.out)⟩
        ·rw [if_neg c53] at H
         have c53b0 : (a1_0 == 3) = false := beq_eq_false_iff_ne.mpr c53
         have c53b1 : (a1_0 != 3) = true := bne_iff_ne.mpr c53
         by_cases c69 : a1_0 = 4
         ·rw [if_pos c69] at H
          have c69b0 : (a1_0 == 4) = true := beq_iff_eq.mpr c69
          have c69b1 : (a1_0 != 4) = false := bne_eq_false_iff_eq.mpr c69
          clear c69
          have HD71 := Aside0.mk H
          clear H
          have hcz72_0 : wc.cell? ⟨gb227, 0, none⟩ = some (.int .i64 a1_0) := (blk_cell BK227.out 0).trans rfl
          have hcz72_1 : wc.cell? ⟨gb227, 1, none⟩ = some (.int .i64 a1_1) := (blk_cell BK227.out 1).trans rfl
          have hcz72_2 : wc.cell? ⟨gb227, 2, none⟩ = some (.int .i64 a1_2) := (blk_cell BK227.out 2).trans rfl
          have hcz72_3 : wc.cell? ⟨gb227, 3, none⟩ = some (.float .f64 a1_3) := (blk_cell BK227.out 3).trans rfl
          have hcz72_4 : wc.cell? ⟨gb227, 4, none⟩ = some (.float .f64 a1_4) := (blk_cell BK227.out 4).trans rfl
          have hfz72_0 := blk_frozen BK227.out 0
          have hfz72_1 := blk_frozen BK227.out 1
          have hfz72_2 := blk_frozen BK227.out 2
          have hfz72_3 := blk_frozen BK227.out 3
          have hfz72_4 := blk_frozen BK227.out 4
          have p234 : 0 ≤ (a1_1 : Int) := of_decide_eq_true (by first | (with_reducible assumption) | assumption)
          have q234 : a1_1 < (l0.length : Int) := of_decide_eq_true (by first | (with_reducible assumption) | assumption)
          obtain ⟨ad234, e234, hx234_0, hx234_1⟩ := at_T28 HR0.out a1_1 p234 q234
          cases e234
          replace hx234_0 := (HB.out.cell (World.block_lt_of_cell? w _ hx234_0)).trans hx234_0
          replace hx234_1 := (HB.out.cell (World.block_lt_of_cell? w _ hx234_1)).trans hx234_1
          replace p234 := eq_true p234
          replace q234 := eq_true q234
          go_upto_if 109 with (first | ((with_reducible refine gate_dst (N := 8) rfl ?_); refine box_event ?hg (N := 8) ?hd (cs := #[.float .f64 0, .float .f64 0]) (t := 28) ?hr ?_; (case hd => rfl); (case hg => rfl); (case hr => first | (go_simp; done) | (go_simp; rfl)); intro gb235 hg w73 hbox hb; have n0_ := Aside0.mk (Kd.R_below (Kd.R_elderB (by (with_reducible repeat (first | apply Kd.R_alloc | apply Kd.R_drewN | apply Kd.R_drew)); exact HO_6.out) gb235 (Nat.le_of_eq hg.symm)) hb); have n1_ := Aside0.mk (blk_below (g := gb227) (o := .cells #[.int .i64 a1_0, .int .i64 a1_1, .int .i64 a1_2, .float .f64 a1_3, .float .f64 a1_4] 56 (0, 0)) (by (with_reducible repeat (first | refine blk_drewN ?_ _ | refine blk_drew ?_ | refine blk_alloc ?_ _)); exact BK227.out) hb); have n2_ := Aside0.mk (below_step (by repeat (first | (with_reducible first | exact HB.out | apply below_alloc | apply pw_below_drewN | apply below_drew1 | refine below_set ?_ GE227.out) | exact HB.out)) hb); have n3_ := Aside0.mk (hbox); have n4_ := Aside0.mk ((by rw [hg]; exact (below_size (by repeat (first | (with_reducible first | exact HB.out | apply below_alloc | apply pw_below_drewN | apply below_drew1 | refine below_set ?_ GE227.out) | exact HB.out))) : w.heap.size ≤ gb235)); have n5_ := Aside0.mk ((by rw [hg]; exact (below_size (by repeat (first | (with_reducible first | exact HB.out | apply below_alloc | apply pw_below_drewN | apply below_drew1 | refine below_set ?_ GE227.out) | exact HB.out))) : w.heap.size ≤ gb235)); have n6_ := Aside0.mk ((by rw [hg]; exact Nat.ne_of_lt (blk_lt (g := gb227) (o := .cells #[.int .i64 a1_0, .int .i64 a1_1, .int .i64 a1_2, .float .f64 a1_3, .float .f64 a1_4] 56 (0, 0)) (by (with_reducible repeat (first | refine blk_drewN ?_ _ | refine blk_drew ?_ | refine blk_alloc ?_ _)); exact BK227.out)) : gb227 ≠ gb235)); have n7_ := Aside0.mk ((by rw [hg]; exact Nat.ne_of_gt (blk_lt (g := gb227) (o := .cells #[.int .i64 a1_0, .int .i64 a1_1, .int .i64 a1_2, .float .f64 a1_3, .float .f64 a1_4] 56 (0, 0)) (by (with_reducible repeat (first | refine blk_drewN ?_ _ | refine blk_drew ?_ | refine blk_alloc ?_ _)); exact BK227.out)) : gb235 ≠ gb227)); clear HO_6; clear BK227; clear HB; have HO_6 := n0_; have BK227 := n1_; have HB := n2_; have BK235 := n3_; have GW235 := n4_; have GE235 := n5_; have NB227_235 := n6_; have NB235_227 := n7_; clear n0_ n1_ n2_ n3_ n4_ n5_ n6_ n7_; clear hb hbox hg; have hnb74 := NB235_227.out; have hnc74 := NB227_235.out; have hcz75_0 : w73.cell? ⟨gb235, 0, none⟩ = some (.float .f64 0) := (blk_cell BK235.out 0).trans rfl; have hcz75_1 : w73.cell? ⟨gb235, 1, none⟩ = some (.float .f64 0) := (blk_cell BK235.out 1).trans rfl; have hfz75_0 := blk_frozen BK235.out 0; have hfz75_1 := blk_frozen BK235.out 1; have hcz76_0 : w73.cell? ⟨gb227, 0, none⟩ = some (.int .i64 a1_0) := (blk_cell BK227.out 0).trans rfl; have hcz76_1 : w73.cell? ⟨gb227, 1, none⟩ = some (.int .i64 a1_1) := (blk_cell BK227.out 1).trans rfl; have hcz76_2 : w73.cell? ⟨gb227, 2, none⟩ = some (.int .i64 a1_2) := (blk_cell BK227.out 2).trans rfl; have hcz76_3 : w73.cell? ⟨gb227, 3, none⟩ = some (.float .f64 a1_3) := (blk_cell BK227.out 3).trans rfl; have hcz76_4 : w73.cell? ⟨gb227, 4, none⟩ = some (.float .f64 a1_4) := (blk_cell BK227.out 4).trans rfl; have hfz76_0 := blk_frozen BK227.out 0; have hfz76_1 := blk_frozen BK227.out 1; have hfz76_2 := blk_frozen BK227.out 2; have hfz76_3 := blk_frozen BK227.out 3; have hfz76_4 := blk_frozen BK227.out 4) | ((with_reducible refine gate_callee (f := 31) rfl ?_); refine goesL_ (some 105) rfl rfl Try.func31 (by kernel_rfl) rfl #[.agg #[.float .f64 ((rd_T28 l0 a1_1).f0), .float .f64 ((rd_T28 l0 a1_1).f1)], .agg #[.float .f64 a1_3, .float .f64 a1_4]] rfl (by (try simp only [List.map_toArray, List.map_cons, List.map_nil]); first | done | rfl | (simp only [List.length_drop, List.length_take]; rfl)) ?_; (with_reducible refine (spec_PhOver.calls ((rd_T28 l0 a1_1).f0) ((rd_T28 l0 a1_1).f1) a1_3 a1_4 _ _ HD71.out).mono ?_); rintro e w77 ⟨t243, t244, t245, hq_, rfl, hb⟩; refine ⟨_, rfl, ?_⟩; have HD70 := Aside0.mk hq_; clear hq_ HD71; have n0_ := Aside0.mk (Kd.R_below (by (with_reducible repeat (first | apply Kd.R_alloc | apply Kd.R_drewN | apply Kd.R_drew)); exact (Kd.R_mono (Kd.R_far (Kd.R_far (Kd.R_mono HO_6.out (fun k_ hk => (⟨hk, hk.2⟩ : _ ∧ k_ ≠ gb235))) (fun _ hk => hk.2) (.float .f64 ((rd_T28 l0 a1_1).f0))) (fun _ hk => hk.2) (.float .f64 ((rd_T28 l0 a1_1).f1))) (fun _ h_ => h_.1))) hb); have n1_ := Aside0.mk (blk_below (g := gb227) (o := .cells #[.int .i64 a1_0, .int .i64 a1_1, .int .i64 a1_2, .float .f64 a1_3, .float .f64 a1_4] 56 (0, 0)) (by (with_reducible repeat (first | refine blk_drewN ?_ _ | refine blk_drew ?_ | refine blk_alloc ?_ _)); refine blk_far ?_ NB227_235.out _; (with_reducible repeat (first | refine blk_drewN ?_ _ | refine blk_drew ?_ | refine blk_alloc ?_ _)); refine blk_far ?_ NB227_235.out _; (with_reducible repeat (first | refine blk_drewN ?_ _ | refine blk_drew ?_ | refine blk_alloc ?_ _)); exact BK227.out) hb); have n2_ := Aside0.mk (blk_below (g := gb235) (o := .cells #[.float .f64 ((rd_T28 l0 a1_1).f0), .float .f64 ((rd_T28 l0 a1_1).f1)] 28 (0, 0)) (by (with_reducible repeat (first | refine blk_drewN ?_ _ | refine blk_drew ?_ | refine blk_alloc ?_ _)); refine blk_put (cs := #[.float .f64 ((rd_T28 l0 a1_1).f0), .float .f64 0]) ?_ 1 _ rfl; (with_reducible repeat (first | refine blk_drewN ?_ _ | refine blk_drew ?_ | refine blk_alloc ?_ _)); refine blk_put (cs := #[.float .f64 0, .float .f64 0]) ?_ 0 _ rfl; (with_reducible repeat (first | refine blk_drewN ?_ _ | refine blk_drew ?_ | refine blk_alloc ?_ _)); exact BK235.out) hb); have n3_ := Aside0.mk (below_step (by repeat (first | (with_reducible first | exact HB.out | apply below_alloc | apply pw_below_drewN | apply below_drew1 | refine below_set ?_ GE227.out | refine below_set ?_ GE235.out) | exact HB.out)) hb); clear HO_6; clear BK227; clear BK235; clear HB; have HO_6 := n0_; have BK227 := n1_; have BK235 := n2_; have HB := n3_; clear n0_ n1_ n2_ n3_; (try clear hb); (try clear hb2); (try clear hk); (try clear hi)) | ((with_reducible refine gate_dst (N := 9) rfl ?_); refine box_event ?hg (N := 9) ?hd (cs := #[.float .f64 0, .float .f64 0]) (t := 28) ?hr ?_; (case hd => rfl); (case hg => rfl); (case hr => first | (go_simp; done) | (go_simp; rfl)); intro gb246 hg w78 hbox hb; have n0_ := Aside0.mk (Kd.R_below (Kd.R_elderB (by (with_reducible repeat (first | apply Kd.R_alloc | apply Kd.R_drewN | apply Kd.R_drew)); exact HO_6.out) gb246 (Nat.le_of_eq hg.symm)) hb); have n1_ := Aside0.mk (blk_below (g := gb227) (o := .cells #[.int .i64 a1_0, .int .i64 a1_1, .int .i64 a1_2, .float .f64 a1_3, .float .f64 a1_4] 56 (0, 0)) (by (with_reducible repeat (first | refine blk_drewN ?_ _ | refine blk_drew ?_ | refine blk_alloc ?_ _)); exact BK227.out) hb); have n2_ := Aside0.mk (blk_below (g := gb235) (o := .cells #[.float .f64 ((rd_T28 l0 a1_1).f0), .float .f64 ((rd_T28 l0 a1_1).f1)] 28 (0, 0)) (by (with_reducible repeat (first | refine blk_drewN ?_ _ | refine blk_drew ?_ | refine blk_alloc ?_ _)); exact BK235.out) hb); have n3_ := Aside0.mk (below_step (by repeat (first | (with_reducible first | exact HB.out | apply below_alloc | apply pw_below_drewN | apply below_drew1 | refine below_set ?_ GE227.out | refine below_set ?_ GE235.out) | exact HB.out)) hb); have n4_ := Aside0.mk (hbox); have n5_ := Aside0.mk ((by rw [hg]; exact (below_size (by repeat (first | (with_reducible first | exact HB.out | apply below_alloc | apply pw_below_drewN | apply below_drew1 | refine below_set ?_ GE227.out | refine below_set ?_ GE235.out) | exact HB.out))) : w.heap.size ≤ gb246)); have n6_ := Aside0.mk ((by rw [hg]; exact (below_size (by repeat (first | (with_reducible first | exact HB.out | apply below_alloc | apply pw_below_drewN | apply below_drew1 | refine below_set ?_ GE227.out | refine below_set ?_ GE235.out) | exact HB.out))) : w.heap.size ≤ gb246)); have n7_ := Aside0.mk ((by rw [hg]; exact Nat.ne_of_lt (blk_lt (g := gb227) (o := .cells #[.int .i64 a1_0, .int .i64 a1_1, .int .i64 a1_2, .float .f64 a1_3, .float .f64 a1_4] 56 (0, 0)) (by (with_reducible repeat (first | refine blk_drewN ?_ _ | refine blk_drew ?_ | refine blk_alloc ?_ _)); exact BK227.out)) : gb227 ≠ gb246)); have n8_ := Aside0.mk ((by rw [hg]; exact Nat.ne_of_gt (blk_lt (g := gb227) (o := .cells #[.int .i64 a1_0, .int .i64 a1_1, .int .i64 a1_2, .float .f64 a1_3, .float .f64 a1_4] 56 (0, 0)) (by (with_reducible repeat (first | refine blk_drewN ?_ _ | refine blk_drew ?_ | refine blk_alloc ?_ _)); exact BK227.out)) : gb246 ≠ gb227)); have n9_ := Aside0.mk ((by rw [hg]; exact Nat.ne_of_lt (blk_lt (g := gb235) (o := .cells #[.float .f64 ((rd_T28 l0 a1_1).f0), .float .f64 ((rd_T28 l0 a1_1).f1)] 28 (0, 0)) (by (with_reducible repeat (first | refine blk_drewN ?_ _ | refine blk_drew ?_ | refine blk_alloc ?_ _)); exact BK235.out)) : gb235 ≠ gb246)); have n10_ := Aside0.mk ((by rw [hg]; exact Nat.ne_of_gt (blk_lt (g := gb235) (o := .cells #[.float .f64 ((rd_T28 l0 a1_1).f0), .float .f64 ((rd_T28 l0 a1_1).f1)] 28 (0, 0)) (by (with_reducible repeat (first | refine blk_drewN ?_ _ | refine blk_drew ?_ | refine blk_alloc ?_ _)); exact BK235.out)) : gb246 ≠ gb235)); clear HO_6; clear BK227; clear BK235; clear HB; have HO_6 := n0_; have BK227 := n1_; have BK235 := n2_; have HB := n3_; have BK246 := n4_; have GW246 := n5_; have GE246 := n6_; have NB227_246 := n7_; have NB246_227 := n8_; have NB235_246 := n9_; have NB246_235 := n10_; clear n0_ n1_ n2_ n3_ n4_ n5_ n6_ n7_ n8_ n9_ n10_; clear hb hbox hg; have hnb79 := NB246_227.out; have hnc79 := NB227_246.out; have hnb80 := NB246_235.out; have hnc80 := NB235_246.out; have hcz81_0 : w78.cell? ⟨gb246, 0, none⟩ = some (.float .f64 0) := (blk_cell BK246.out 0).trans rfl; have hcz81_1 : w78.cell? ⟨gb246, 1, none⟩ = some (.float .f64 0) := (blk_cell BK246.out 1).trans rfl; have hfz81_0 := blk_frozen BK246.out 0; have hfz81_1 := blk_frozen BK246.out 1))
          (try simp only [Act.put, List.setIfInBounds_toArray, List.set_cons_zero, List.set_cons_succ])
          have H := HD70.out
          clear HD70
          by_cases c82 : t245 = true
          ·subst c82
           have H1 : (if a1_1 < (t228.length : Int) then (Q_ ((t228.set (a1_1 : Int).toNat (⟨t243, t244⟩ : S28)), true)) else (False)) := by rw [if_pos rfl] at H; exact H
           clear H
           have H := H1
           clear H1
           by_cases c83 : a1_1 < (t228.length : Int)
           ·rw [if_pos c83] at H
            have c83b0 : decide (a1_1 < (t228.length : Int)) = true := decide_eq_true c83
            clear c83
            (first | rw [c83b0] | (simp only [i64_w, i32_w]; rw [c83b0]) | skip)
            obtain ⟨y247, hy247⟩ : ∃ y_ : List (S28), y_ = (t228.set (a1_1 : Int).toNat (⟨t243, t244⟩ : S28)) := ⟨_, rfl⟩
            replace H : (Q_ (y247, true)) := by first | (rw [hy247]; with_reducible exact H) | (obtain ⟨_, e_, H2_⟩ := H; subst e_; rw [hy247]; exact H2_) | with_reducible exact H | (rw [hy247]; exact H) | exact H
            have Ny247 := Aside0.mk hy247
            clear hy247
            have HQ_ := Aside0.mk H
            clear H
            have n0_ : Aside0 (Kd.R k28 28 ((w78.setCell ⟨gb246, 0, none⟩ (.float .f64 t243)).setCell ⟨gb246, 1, none⟩ (.float .f64 t244)) w.heap.size (fun k_ => k_ ≠ gb235 ∧ k_ ≠ gb246) v229 t228) := ⟨by (with_reducible repeat (first | apply Kd.R_alloc | apply Kd.R_drewN | apply Kd.R_drew)); exact Kd.R_mono (Kd.R_far (Kd.R_far (Kd.R_mono HO_6.out (fun k_ hk => (⟨hk, hk.2⟩ : _ ∧ k_ ≠ gb246))) (fun _ hk => hk.2) (.float .f64 t243)) (fun _ hk => hk.2) (.float .f64 t244)) (fun _ hk => ⟨hk.1.1.2, hk.1.2⟩)⟩
            have n1_ : Aside0 (((w78.setCell ⟨gb246, 0, none⟩ (.float .f64 t243)).setCell ⟨gb246, 1, none⟩ (.float .f64 t244)).heap[gb227]? = some (.cells #[.int .i64 a1_0, .int .i64 a1_1, .int .i64 a1_2, .float .f64 a1_3, .float .f64 a1_4] 56 (0, 0))) := ⟨by (with_reducible repeat (first | refine blk_drewN ?_ _ | refine blk_drew ?_ | refine blk_alloc ?_ _)); refine blk_far ?_ NB227_246.out _; (with_reducible repeat (first | refine blk_drewN ?_ _ | refine blk_drew ?_ | refine blk_alloc ?_ _)); refine blk_far ?_ NB227_246.out _; (with_reducible repeat (first | refine blk_drewN ?_ _ | refine blk_drew ?_ | refine blk_alloc ?_ _)); exact BK227.out⟩
            have n2_ : Aside0 (((w78.setCell ⟨gb246, 0, none⟩ (.float .f64 t243)).setCell ⟨gb246, 1, none⟩ (.float .f64 t244)).heap[gb235]? = some (.cells #[.float .f64 ((rd_T28 l0 a1_1).f0), .float .f64 ((rd_T28 l0 a1_1).f1)] 28 (0, 0))) := ⟨by (with_reducible repeat (first | refine blk_drewN ?_ _ | refine blk_drew ?_ | refine blk_alloc ?_ _)); refine blk_far ?_ NB235_246.out _; (with_reducible repeat (first | refine blk_drewN ?_ _ | refine blk_drew ?_ | refine blk_alloc ?_ _)); refine blk_far ?_ NB235_246.out _; (with_reducible repeat (first | refine blk_drewN ?_ _ | refine blk_drew ?_ | refine blk_alloc ?_ _)); exact BK235.out⟩
            have n3_ : Aside0 (((w78.setCell ⟨gb246, 0, none⟩ (.float .f64 t243)).setCell ⟨gb246, 1, none⟩ (.float .f64 t244)).heap[gb246]? = some (.cells #[.float .f64 t243, .float .f64 t244] 28 (0, 0))) := ⟨by (with_reducible repeat (first | refine blk_drewN ?_ _ | refine blk_drew ?_ | refine blk_alloc ?_ _)); refine blk_put (cs := #[.float .f64 t243, .float .f64 0]) ?_ 1 _ rfl; (with_reducible repeat (first | refine blk_drewN ?_ _ | refine blk_drew ?_ | refine blk_alloc ?_ _)); refine blk_put (cs := #[.float .f64 0, .float .f64 0]) ?_ 0 _ rfl; (with_reducible repeat (first | refine blk_drewN ?_ _ | refine blk_drew ?_ | refine blk_alloc ?_ _)); exact BK246.out⟩
            have n4_ : Aside0 (Below w.heap.size w ((w78.setCell ⟨gb246, 0, none⟩ (.float .f64 t243)).setCell ⟨gb246, 1, none⟩ (.float .f64 t244))) := ⟨by repeat (first | (with_reducible first | exact HB.out | apply below_alloc | apply pw_below_drewN | apply below_drew1 | refine below_set ?_ GE227.out | refine below_set ?_ GE235.out | refine below_set ?_ GE246.out) | exact HB.out)⟩
            (try clear HO_6)
            (try clear BK227)
            (try clear BK235)
            (try clear BK246)
            (try clear HB)
            generalize ((w78.setCell ⟨gb246, 0, none⟩ (.float .f64 t243)).setCell ⟨gb246, 1, none⟩ (.float .f64 t244)) = w85 at n0_ n1_ n2_ n3_ n4_ ⊢
            have HO_6 := n0_
            have BK227 := n1_
            have BK235 := n2_
            have BK246 := n3_
            have HB := n4_
            clear n0_ n1_ n2_ n3_ n4_
            have hnb86 := NB227_235.out
            have hnc86 := NB235_227.out
            have hnb87 := NB227_246.out
            have hnc87 := NB246_227.out
            have hcz88_0 : w85.cell? ⟨gb227, 0, none⟩ = some (.int .i64 a1_0) := (blk_cell BK227.out 0).trans rfl
            have hcz88_1 : w85.cell? ⟨gb227, 1, none⟩ = some (.int .i64 a1_1) := (blk_cell BK227.out 1).trans rfl
            have hcz88_2 : w85.cell? ⟨gb227, 2, none⟩ = some (.int .i64 a1_2) := (blk_cell BK227.out 2).trans rfl
            have hcz88_3 : w85.cell? ⟨gb227, 3, none⟩ = some (.float .f64 a1_3) := (blk_cell BK227.out 3).trans rfl
            have hcz88_4 : w85.cell? ⟨gb227, 4, none⟩ = some (.float .f64 a1_4) := (blk_cell BK227.out 4).trans rfl
            have hfz88_0 := blk_frozen BK227.out 0
            have hfz88_1 := blk_frozen BK227.out 1
            have hfz88_2 := blk_frozen BK227.out 2
            have hfz88_3 := blk_frozen BK227.out 3
            have hfz88_4 := blk_frozen BK227.out 4
            have hnb89 := NB246_235.out
            have hnc89 := NB235_246.out
            have hcz90_0 : w85.cell? ⟨gb246, 0, none⟩ = some (.float .f64 t243) := (blk_cell BK246.out 0).trans rfl
            have hcz90_1 : w85.cell? ⟨gb246, 1, none⟩ = some (.float .f64 t244) := (blk_cell BK246.out 1).trans rfl
            have hfz90_0 := blk_frozen BK246.out 0
            have hfz90_1 := blk_frozen BK246.out 1
            have p84 : 0 ≤ (a1_1 : Int) := of_decide_eq_true (by first | (with_reducible assumption) | assumption)
            have q84 : (a1_1 : Int) < ((t228.length : Int) : Int) := of_decide_eq_true (by first | (with_reducible assumption) | assumption)
            obtain ⟨go84, co84, eo84, gb84, gl84, cl84, HG84⟩ := Kd.R_form HO_6.out (by omega)
            (first | cases eo84 | (injection eo84 with ea_ en_ ec_; (first | subst ea_ | (injection ea_ with ea_; subst ea_)); subst ec_; clear en_))
            have GB84 := Aside0.mk gb84
            have GG84 := Aside0.mk HG84
            clear gb84 gl84 HG84
            obtain ⟨ce84, hcl84, hM84, hcc84, hfr84⟩ := Kd.R_elem HO_6.out z28 (a1_1 : Int) p84 q84
            obtain rfl := k28_openM hM84
            have hx84_0 : w85.cell? ⟨go84, (a1_1 : Int).toNat * 2, none⟩ = some (.float .f64 ((rd_T28 t228 a1_1).f0)) := hcc84 0 _ rfl
            have hx84_1 : w85.cell? ⟨go84, (a1_1 : Int).toNat * 2 + 1, none⟩ = some (.float .f64 ((rd_T28 t228 a1_1).f1)) := hcc84 1 _ rfl
            have hf84_0 : w85.frozen? ⟨go84, (a1_1 : Int).toNat * 2, none⟩ = false := hfr84 0
            have hf84_1 : w85.frozen? ⟨go84, (a1_1 : Int).toNat * 2 + 1, none⟩ = false := hfr84 1
            clear hcl84 hcc84 hfr84 hM84
            replace p84 := eq_true p84
            replace q84 := eq_true q84
            have HX91 := Aside0.mk (show Kd.R k28 28 w85 w.heap.size (fun k_ => k_ ≠ gb235 ∧ k_ ≠ gb246) (.slice (some ⟨go84, 0, none⟩) t228.length co84) t228 from (by (with_reducible repeat (first | apply Kd.R_alloc | apply Kd.R_drewN | apply Kd.R_drew)); exact HO_6.out))
            obtain ⟨ce91, hcl91, hM91, hcc91, hfr91⟩ := Kd.R_elem HX91.out z28 (a1_1 : Int) (of_decide_eq_true (by first | (with_reducible assumption) | assumption)) (by have h_ : (a1_1 : Int) < ((t228.length : Int) : Int) := of_decide_eq_true (by first | (with_reducible assumption) | assumption); first | exact h_ | (have e_ := (Kd.R_reads' HO_6.out).1; omega) | simpa using h_)
            obtain rfl := k28_openM hM91
            have HP91 := Kd.R_seg HX91.out (a1_1 : Int) (of_decide_eq_true (by first | (with_reducible assumption) | assumption)) (by have h_ : (a1_1 : Int) < ((t228.length : Int) : Int) := of_decide_eq_true (by first | (with_reducible assumption) | assumption); first | exact h_ | (have e_ := (Kd.R_reads' HO_6.out).1; omega) | simpa using h_) (seg := [.float .f64 t243, .float .f64 t244]) (j := 0) hcl91 hcc91 (show 2 ≤ 2 from by decide) (x' := (⟨t243, t244⟩ : S28)) (k28_mkM _ _ _ (⟨t243, t244⟩ : S28) ) (fun _ hk => hk)
            have hx91_0 := hcc91 0 _ rfl
            (try simp only [show (k28).sz = 2 from rfl, Nat.mul_one, Nat.add_zero] at hx91_0)
            have hf91_0 := hfr91 0
            (try simp only [show (k28).sz = 2 from rfl, Nat.mul_one, Nat.add_zero] at hf91_0)
            have hx91_1 := hcc91 1 _ rfl
            (try simp only [show (k28).sz = 2 from rfl, Nat.mul_one, Nat.add_zero] at hx91_1)
            have hf91_1 := hfr91 1
            (try simp only [show (k28).sz = 2 from rfl, Nat.mul_one, Nat.add_zero] at hf91_1)
            clear hcl91 hcc91 hfr91 hM91
            try go_wp2_with (first | ((with_reducible refine gate_store (t := 28) (p := 115) rfl ?_); refine store_event (t := 28) (p := 115) (v := ?vo_w92) (w1 := ((w85.setCell ⟨go84, (a1_1 : Int).toNat * 2, none⟩ (.float .f64 t243)).setCell ⟨go84, (a1_1 : Int).toNat * 2 + 1, none⟩ (.float .f64 t244))) ?hg ?ho ?hn ?hr ?_; (case ho => rfl); (case hg => rfl); (case hn => rfl); (case hr => first | (go_simp; done) | (go_simp; rfl)); intro w92 hw; have hg : w85.grownBy w92 (some go84) := (by rw [hw]; exact HP91.2); have hp_ : Kd.R k28 28 w92 w.heap.size (fun k_ => k_ ≠ gb235 ∧ k_ ≠ gb246) (.slice (some ⟨go84, 0, none⟩) t228.length co84) y247 := (by rw [hw, Ny247.out]; exact HP91.1); clear HP91; have n0_ := Aside0.mk (hp_); have n1_ := Aside0.mk (blk_grown (g := gb227) (o := .cells #[.int .i64 a1_0, .int .i64 a1_1, .int .i64 a1_2, .float .f64 a1_3, .float .f64 a1_4] 56 (0, 0)) (by (with_reducible repeat (first | refine blk_drewN ?_ _ | refine blk_drew ?_ | refine blk_alloc ?_ _)); exact BK227.out) hg (Kd.R_ne HO_6.out BK227.out (by decide))); have n2_ := Aside0.mk (blk_grown (g := gb235) (o := .cells #[.float .f64 ((rd_T28 l0 a1_1).f0), .float .f64 ((rd_T28 l0 a1_1).f1)] 28 (0, 0)) (by (with_reducible repeat (first | refine blk_drewN ?_ _ | refine blk_drew ?_ | refine blk_alloc ?_ _)); exact BK235.out) hg (Kd.R_away HO_6.out (fun _ hk => hk.1))); have n3_ := Aside0.mk (blk_grown (g := gb246) (o := .cells #[.float .f64 t243, .float .f64 t244] 28 (0, 0)) (by (with_reducible repeat (first | refine blk_drewN ?_ _ | refine blk_drew ?_ | refine blk_alloc ?_ _)); exact BK246.out) hg (Kd.R_away HO_6.out (fun _ hk => hk.2))); have n4_ := Aside0.mk ((by rw [hw]; exact below_set (below_set (HB.out) GB84.out) GB84.out : Below w.heap.size w w92)); clear HO_6; clear BK227; clear BK235; clear BK246; clear HB; have HO_6 := n0_; have BK227 := n1_; have BK235 := n2_; have BK246 := n3_; have HB := n4_; clear n0_ n1_ n2_ n3_ n4_; clear hg hw hp_))
            go_ret2
            exact Dq2.mk HQ_.out ⟨_, by first | rfl | (simp [errW_none, errW_some] <;> rfl) | (simp [*, errW_none, errW_some] <;> rfl), by (with_reducible repeat (first | apply Kd.R_alloc | apply Kd.R_drewN | apply Kd.R_drew)); exact Kd.R_mono HO_6.out (fun _ hk => trivial), by repeat (first | (with_reducible first | exact HB.out | apply below_alloc | apply pw_below_drewN | apply below_drew1 | refine below_set ?_ GE227.out | refine below_set ?_ GE235.out | refine below_set ?_ GE246.out) | exact HB.out)⟩
           ·rw [if_neg c83] at H
            exact absurd H (by simp)
          ·replace c82 := Bool.eq_false_iff.mpr c82
           subst c82
           have H1 : (Q_ (t228, false)) := by rw [if_neg (show ¬ (false = true) by decide)] at H; exact H
           clear H
           have H := H1
           clear H1
           have HQ_ := Aside0.mk H
           clear H
           go_wp2
           go_ret2
           exact Dq2.mk HQ_.out ⟨_, by first | rfl | (simp [errW_none, errW_some] <;> rfl) | (simp [*, errW_none, errW_some] <;> rfl), by (with_reducible repeat (first | apply Kd.R_alloc | apply Kd.R_drewN | apply Kd.R_drew)); exact Kd.R_mono (Kd.R_far (Kd.R_far (Kd.R_mono HO_6.out (fun k_ hk => (⟨hk, hk.2⟩ : _ ∧ k_ ≠ gb246))) (fun _ hk => hk.2) (.float .f64 t243)) (fun _ hk => hk.2) (.float .f64 t244)) (fun _ hk => trivial), by repeat (first | (with_reducible first | exact HB.out | apply below_alloc | apply pw_below_drewN | apply below_drew1 | refine below_set ?_ GE227.out | refine below_set ?_ GE235.out | refine below_set ?_ GE246.out) | exact HB.out)⟩
         ·rw [if_neg c69] at H
          have c69b0 : (a1_0 == 4) = false := beq_eq_false_iff_ne.mpr c69
          have c69b1 : (a1_0 != 4) = true := bne_iff_ne.mpr c69
          by_cases c93 : a1_0 = 5
          ·rw [if_pos c93] at H
           have c93b0 : (a1_0 == 5) = true := beq_iff_eq.mpr c93
           have c93b1 : (a1_0 != 5) = false := bne_eq_false_iff_eq.mpr c93
           clear c93
           by_cases c94 : a1_1 < (t228.length : Int)
           ·rw [if_pos c94] at H
            have c94b0 : decide (a1_1 < (t228.length : Int)) = true := decide_eq_true c94
            clear c94
            obtain ⟨y248, hy248⟩ : ∃ y_ : List (S28), y_ = (t228.set (a1_1 : Int).toNat (⟨(rd_T28 l0 a1_1).f0, Go.Op.negFloat .f64 ((rd_T28 l0 a1_1).f1)⟩ : S28)) := ⟨_, rfl⟩
            replace H : (Q_ (y248, true)) := by first | (rw [hy248]; with_reducible exact H) | (obtain ⟨_, e_, H2_⟩ := H; subst e_; rw [hy248]; exact H2_) | with_reducible exact H | (rw [hy248]; exact H) | exact H
            have Ny248 := Aside0.mk hy248
            clear hy248
            have HQ_ := Aside0.mk H
            clear H
            have hcz96_0 : wc.cell? ⟨gb227, 0, none⟩ = some (.int .i64 a1_0) := (blk_cell BK227.out 0).trans rfl
            have hcz96_1 : wc.cell? ⟨gb227, 1, none⟩ = some (.int .i64 a1_1) := (blk_cell BK227.out 1).trans rfl
            have hcz96_2 : wc.cell? ⟨gb227, 2, none⟩ = some (.int .i64 a1_2) := (blk_cell BK227.out 2).trans rfl
            have hcz96_3 : wc.cell? ⟨gb227, 3, none⟩ = some (.float .f64 a1_3) := (blk_cell BK227.out 3).trans rfl
            have hcz96_4 : wc.cell? ⟨gb227, 4, none⟩ = some (.float .f64 a1_4) := (blk_cell BK227.out 4).trans rfl
            have hfz96_0 := blk_frozen BK227.out 0
            have hfz96_1 := blk_frozen BK227.out 1
            have hfz96_2 := blk_frozen BK227.out 2
            have hfz96_3 := blk_frozen BK227.out 3
            have hfz96_4 := blk_frozen BK227.out 4
            have p234 : 0 ≤ (a1_1 : Int) := of_decide_eq_true (by first | (with_reducible assumption) | assumption)
            have q234 : a1_1 < (l0.length : Int) := of_decide_eq_true (by first | (with_reducible assumption) | assumption)
            obtain ⟨ad234, e234, hx234_0, hx234_1⟩ := at_T28 HR0.out a1_1 p234 q234
            cases e234
            replace hx234_0 := (HB.out.cell (World.block_lt_of_cell? w _ hx234_0)).trans hx234_0
            replace hx234_1 := (HB.out.cell (World.block_lt_of_cell? w _ hx234_1)).trans hx234_1
            replace p234 := eq_true p234
            replace q234 := eq_true q234
            go_wp2_with (first | ((with_reducible refine gate_dst (N := 8) rfl ?_); refine box_event ?hg (N := 8) ?hd (cs := #[.float .f64 0, .float .f64 0]) (t := 28) ?hr ?_; (case hd => rfl); (case hg => rfl); (case hr => first | (go_simp; done) | (go_simp; rfl)); intro gb235 hg w97 hbox hb; have n0_ := Aside0.mk (Kd.R_below (Kd.R_elderB (by (with_reducible repeat (first | apply Kd.R_alloc | apply Kd.R_drewN | apply Kd.R_drew)); exact HO_6.out) gb235 (Nat.le_of_eq hg.symm)) hb); have n1_ := Aside0.mk (blk_below (g := gb227) (o := .cells #[.int .i64 a1_0, .int .i64 a1_1, .int .i64 a1_2, .float .f64 a1_3, .float .f64 a1_4] 56 (0, 0)) (by (with_reducible repeat (first | refine blk_drewN ?_ _ | refine blk_drew ?_ | refine blk_alloc ?_ _)); exact BK227.out) hb); have n2_ := Aside0.mk (below_step (by repeat (first | (with_reducible first | exact HB.out | apply below_alloc | apply pw_below_drewN | apply below_drew1 | refine below_set ?_ GE227.out) | exact HB.out)) hb); have n3_ := Aside0.mk (hbox); have n4_ := Aside0.mk ((by rw [hg]; exact (below_size (by repeat (first | (with_reducible first | exact HB.out | apply below_alloc | apply pw_below_drewN | apply below_drew1 | refine below_set ?_ GE227.out) | exact HB.out))) : w.heap.size ≤ gb235)); have n5_ := Aside0.mk ((by rw [hg]; exact (below_size (by repeat (first | (with_reducible first | exact HB.out | apply below_alloc | apply pw_below_drewN | apply below_drew1 | refine below_set ?_ GE227.out) | exact HB.out))) : w.heap.size ≤ gb235)); have n6_ := Aside0.mk ((by rw [hg]; exact Nat.ne_of_lt (blk_lt (g := gb227) (o := .cells #[.int .i64 a1_0, .int .i64 a1_1, .int .i64 a1_2, .float .f64 a1_3, .float .f64 a1_4] 56 (0, 0)) (by (with_reducible repeat (first | refine blk_drewN ?_ _ | refine blk_drew ?_ | refine blk_alloc ?_ _)); exact BK227.out)) : gb227 ≠ gb235)); have n7_ := Aside0.mk ((by rw [hg]; exact Nat.ne_of_gt (blk_lt (g := gb227) (o := .cells #[.int .i64 a1_0, .int .i64 a1_1, .int .i64 a1_2, .float .f64 a1_3, .float .f64 a1_4] 56 (0, 0)) (by (with_reducible repeat (first | refine blk_drewN ?_ _ | refine blk_drew ?_ | refine blk_alloc ?_ _)); exact BK227.out)) : gb235 ≠ gb227)); clear HO_6; clear BK227; clear HB; have HO_6 := n0_; have BK227 := n1_; have HB := n2_; have BK235 := n3_; have GW235 := n4_; have GE235 := n5_; have NB227_235 := n6_; have NB235_227 := n7_; clear n0_ n1_ n2_ n3_ n4_ n5_ n6_ n7_; clear hb hbox hg; have hnb98 := NB235_227.out; have hnc98 := NB227_235.out; have hcz99_0 : w97.cell? ⟨gb235, 0, none⟩ = some (.float .f64 0) := (blk_cell BK235.out 0).trans rfl; have hcz99_1 : w97.cell? ⟨gb235, 1, none⟩ = some (.float .f64 0) := (blk_cell BK235.out 1).trans rfl; have hfz99_0 := blk_frozen BK235.out 0; have hfz99_1 := blk_frozen BK235.out 1) | ((with_reducible refine gate_store (t := 28) (p := 8) rfl ?_); refine store_event (t := 28) (p := 8) (v := ?vo_w100) (w1 := ((w97.setCell ⟨gb235, 0, none⟩ (.float .f64 ((rd_T28 l0 a1_1).f0))).setCell ⟨gb235, 1, none⟩ (.float .f64 ((rd_T28 l0 a1_1).f1)))) ?hg ?ho ?hn ?hr ?_; (case ho => rfl); (case hg => rfl); (case hn => rfl); (case hr => first | (go_simp; done) | (go_simp; rfl)); intro w100 hw; have n0_ : Aside0 (Kd.R k28 28 w100 w.heap.size (fun k_ => k_ ≠ gb235) v229 t228) := ⟨(by rw [hw]; exact (by (with_reducible repeat (first | apply Kd.R_alloc | apply Kd.R_drewN | apply Kd.R_drew)); exact Kd.R_mono (Kd.R_far (Kd.R_far (Kd.R_mono HO_6.out (fun k_ hk => (⟨hk, hk.2⟩ : _ ∧ k_ ≠ gb235))) (fun _ hk => hk.2) (.float .f64 ((rd_T28 l0 a1_1).f0))) (fun _ hk => hk.2) (.float .f64 ((rd_T28 l0 a1_1).f1))) (fun _ hk => hk.1.2)))⟩; have n1_ : Aside0 (w100.heap[gb227]? = some (.cells #[.int .i64 a1_0, .int .i64 a1_1, .int .i64 a1_2, .float .f64 a1_3, .float .f64 a1_4] 56 (0, 0))) := ⟨(by rw [hw]; exact (by (with_reducible repeat (first | refine blk_drewN ?_ _ | refine blk_drew ?_ | refine blk_alloc ?_ _)); refine blk_far ?_ NB227_235.out _; (with_reducible repeat (first | refine blk_drewN ?_ _ | refine blk_drew ?_ | refine blk_alloc ?_ _)); refine blk_far ?_ NB227_235.out _; (with_reducible repeat (first | refine blk_drewN ?_ _ | refine blk_drew ?_ | refine blk_alloc ?_ _)); exact BK227.out))⟩; have n2_ : Aside0 (w100.heap[gb235]? = some (.cells #[.float .f64 ((rd_T28 l0 a1_1).f0), .float .f64 ((rd_T28 l0 a1_1).f1)] 28 (0, 0))) := ⟨(by rw [hw]; exact (by (with_reducible repeat (first | refine blk_drewN ?_ _ | refine blk_drew ?_ | refine blk_alloc ?_ _)); refine blk_put (cs := #[.float .f64 ((rd_T28 l0 a1_1).f0), .float .f64 0]) ?_ 1 _ rfl; (with_reducible repeat (first | refine blk_drewN ?_ _ | refine blk_drew ?_ | refine blk_alloc ?_ _)); refine blk_put (cs := #[.float .f64 0, .float .f64 0]) ?_ 0 _ rfl; (with_reducible repeat (first | refine blk_drewN ?_ _ | refine blk_drew ?_ | refine blk_alloc ?_ _)); exact BK235.out))⟩; have n3_ : Aside0 (Below w.heap.size w w100) := ⟨(by rw [hw]; exact (by repeat (first | (with_reducible first | exact HB.out | apply below_alloc | apply pw_below_drewN | apply below_drew1 | refine below_set ?_ GE227.out | refine below_set ?_ GE235.out) | exact HB.out)))⟩; clear hw; clear HO_6; clear BK227; clear BK235; clear HB; have HO_6 := n0_; have BK227 := n1_; have BK235 := n2_; have HB := n3_; clear n0_ n1_ n2_ n3_; have hcz101_0 : w100.cell? ⟨gb227, 0, none⟩ = some (.int .i64 a1_0) := (blk_cell BK227.out 0).trans rfl; have hcz101_1 : w100.cell? ⟨gb227, 1, none⟩ = some (.int .i64 a1_1) := (blk_cell BK227.out 1).trans rfl; have hcz101_2 : w100.cell? ⟨gb227, 2, none⟩ = some (.int .i64 a1_2) := (blk_cell BK227.out 2).trans rfl; have hcz101_3 : w100.cell? ⟨gb227, 3, none⟩ = some (.float .f64 a1_3) := (blk_cell BK227.out 3).trans rfl; have hcz101_4 : w100.cell? ⟨gb227, 4, none⟩ = some (.float .f64 a1_4) := (blk_cell BK227.out 4).trans rfl; have hfz101_0 := blk_frozen BK227.out 0; have hfz101_1 := blk_frozen BK227.out 1; have hfz101_2 := blk_frozen BK227.out 2; have hfz101_3 := blk_frozen BK227.out 3; have hfz101_4 := blk_frozen BK227.out 4; have hcz102_0 : w100.cell? ⟨gb235, 0, none⟩ = some (.float .f64 ((rd_T28 l0 a1_1).f0)) := (blk_cell BK235.out 0).trans rfl; have hcz102_1 : w100.cell? ⟨gb235, 1, none⟩ = some (.float .f64 ((rd_T28 l0 a1_1).f1)) := (blk_cell BK235.out 1).trans rfl; have hfz102_0 := blk_frozen BK235.out 0; have hfz102_1 := blk_frozen BK235.out 1; have p95 : 0 ≤ (a1_1 : Int) := of_decide_eq_true (by first | (with_reducible assumption) | assumption); have q95 : (a1_1 : Int) < ((t228.length : Int) : Int) := of_decide_eq_true (by first | (with_reducible assumption) | assumption); obtain ⟨go95, co95, eo95, gb95, gl95, cl95, HG95⟩ := Kd.R_form HO_6.out (by omega); (first | cases eo95 | (injection eo95 with ea_ en_ ec_; (first | subst ea_ | (injection ea_ with ea_; subst ea_)); subst ec_; clear en_)); have GB95 := Aside0.mk gb95; have GG95 := Aside0.mk HG95; clear gb95 gl95 HG95; obtain ⟨ce95, hcl95, hM95, hcc95, hfr95⟩ := Kd.R_elem HO_6.out z28 (a1_1 : Int) p95 q95; obtain rfl := k28_openM hM95; have hx95_0 : w100.cell? ⟨go95, (a1_1 : Int).toNat * 2, none⟩ = some (.float .f64 ((rd_T28 t228 a1_1).f0)) := hcc95 0 _ rfl; have hx95_1 : w100.cell? ⟨go95, (a1_1 : Int).toNat * 2 + 1, none⟩ = some (.float .f64 ((rd_T28 t228 a1_1).f1)) := hcc95 1 _ rfl; have hf95_0 : w100.frozen? ⟨go95, (a1_1 : Int).toNat * 2, none⟩ = false := hfr95 0; have hf95_1 : w100.frozen? ⟨go95, (a1_1 : Int).toNat * 2 + 1, none⟩ = false := hfr95 1; clear hcl95 hcc95 hfr95 hM95; replace p95 := eq_true p95; replace q95 := eq_true q95; have HX103 := Aside0.mk (show Kd.R k28 28 w100 w.heap.size (fun k_ => k_ ≠ gb235) (.slice (some ⟨go95, 0, none⟩) t228.length co95) t228 from (by (with_reducible repeat (first | apply Kd.R_alloc | apply Kd.R_drewN | apply Kd.R_drew)); exact HO_6.out)); obtain ⟨ce103, hcl103, hM103, hcc103, hfr103⟩ := Kd.R_elem HX103.out z28 (a1_1 : Int) (of_decide_eq_true (by first | (with_reducible assumption) | assumption)) (by have h_ : (a1_1 : Int) < ((t228.length : Int) : Int) := of_decide_eq_true (by first | (with_reducible assumption) | assumption); first | exact h_ | (have e_ := (Kd.R_reads' HO_6.out).1; omega) | simpa using h_); obtain rfl := k28_openM hM103; have HP103 := Kd.R_seg HX103.out (a1_1 : Int) (of_decide_eq_true (by first | (with_reducible assumption) | assumption)) (by have h_ : (a1_1 : Int) < ((t228.length : Int) : Int) := of_decide_eq_true (by first | (with_reducible assumption) | assumption); first | exact h_ | (have e_ := (Kd.R_reads' HO_6.out).1; omega) | simpa using h_) (seg := [.float .f64 ((rd_T28 l0 a1_1).f0), .float .f64 (Go.Op.negFloat .f64 ((rd_T28 l0 a1_1).f1))]) (j := 0) hcl103 hcc103 (show 2 ≤ 2 from by decide) (x' := (⟨(rd_T28 l0 a1_1).f0, Go.Op.negFloat .f64 ((rd_T28 l0 a1_1).f1)⟩ : S28)) (k28_mkM _ _ _ (⟨(rd_T28 l0 a1_1).f0, Go.Op.negFloat .f64 ((rd_T28 l0 a1_1).f1)⟩ : S28) ) (fun _ hk => hk); have hx103_0 := hcc103 0 _ rfl; (try simp only [show (k28).sz = 2 from rfl, Nat.mul_one, Nat.add_zero] at hx103_0); have hf103_0 := hfr103 0; (try simp only [show (k28).sz = 2 from rfl, Nat.mul_one, Nat.add_zero] at hf103_0); have hx103_1 := hcc103 1 _ rfl; (try simp only [show (k28).sz = 2 from rfl, Nat.mul_one, Nat.add_zero] at hx103_1); have hf103_1 := hfr103 1; (try simp only [show (k28).sz = 2 from rfl, Nat.mul_one, Nat.add_zero] at hf103_1); clear hcl103 hcc103 hfr103 hM103) | ((with_reducible refine gate_store (t := 28) (p := 127) rfl ?_); refine store_event (t := 28) (p := 127) (v := ?vo_w104) (w1 := ((w100.setCell ⟨go95, (a1_1 : Int).toNat * 2, none⟩ (.float .f64 ((rd_T28 l0 a1_1).f0))).setCell ⟨go95, (a1_1 : Int).toNat * 2 + 1, none⟩ (.float .f64 (Go.Op.negFloat .f64 ((rd_T28 l0 a1_1).f1))))) ?hg ?ho ?hn ?hr ?_; (case ho => rfl); (case hg => rfl); (case hn => rfl); (case hr => first | (go_simp; done) | (go_simp; rfl)); intro w104 hw; have hg : w100.grownBy w104 (some go95) := (by rw [hw]; exact HP103.2); have hp_ : Kd.R k28 28 w104 w.heap.size (fun k_ => k_ ≠ gb235) (.slice (some ⟨go95, 0, none⟩) t228.length co95) y248 := (by rw [hw, Ny248.out]; exact HP103.1); clear HP103; have n0_ := Aside0.mk (hp_); have n1_ := Aside0.mk (blk_grown (g := gb227) (o := .cells #[.int .i64 a1_0, .int .i64 a1_1, .int .i64 a1_2, .float .f64 a1_3, .float .f64 a1_4] 56 (0, 0)) (by (with_reducible repeat (first | refine blk_drewN ?_ _ | refine blk_drew ?_ | refine blk_alloc ?_ _)); exact BK227.out) hg (Kd.R_ne HO_6.out BK227.out (by decide))); have n2_ := Aside0.mk (blk_grown (g := gb235) (o := .cells #[.float .f64 ((rd_T28 l0 a1_1).f0), .float .f64 ((rd_T28 l0 a1_1).f1)] 28 (0, 0)) (by (with_reducible repeat (first | refine blk_drewN ?_ _ | refine blk_drew ?_ | refine blk_alloc ?_ _)); exact BK235.out) hg (Kd.R_away HO_6.out (fun _ hk => hk))); have n3_ := Aside0.mk ((by rw [hw]; exact below_set (below_set (HB.out) GB95.out) GB95.out : Below w.heap.size w w104)); clear HO_6; clear BK227; clear BK235; clear HB; have HO_6 := n0_; have BK227 := n1_; have BK235 := n2_; have HB := n3_; clear n0_ n1_ n2_ n3_; clear hg hw hp_))
            go_ret2
            exact Dq2.mk HQ_.out ⟨_, by first | rfl | (simp [errW_none, errW_some] <;> rfl) | (simp [*, errW_none, errW_some] <;> rfl), by (with_reducible repeat (first | apply Kd.R_alloc | apply Kd.R_drewN | apply Kd.R_drew)); exact Kd.R_mono HO_6.out (fun _ hk => trivial), by repeat (first | (with_reducible first | exact HB.out | apply below_alloc | apply pw_below_drewN | apply below_drew1 | refine below_set ?_ GE227.out | refine below_set ?_ GE235.out) | exact HB.out)⟩
           ·rw [if_neg c94] at H
            exact absurd H (by simp)
          ·rw [if_neg c93] at H
           have c93b0 : (a1_0 == 5) = false := beq_eq_false_iff_ne.mpr c93
           have c93b1 : (a1_0 != 5) = true := bne_iff_ne.mpr c93
           by_cases c105 : 0 ≤ a1_2
           ·rw [if_pos c105] at H
            have c105b0 : decide (0 ≤ a1_2) = true := decide_eq_true c105
            clear c105
            by_cases c106 : a1_2 < (l0.length : Int)
            ·rw [if_pos c106] at H
             have c106b0 : decide (a1_2 < (l0.length : Int)) = true := decide_eq_true c106
             clear c106
             have HD108 := Aside0.mk H
             clear H
             have hcz113_0 : wc.cell? ⟨gb227, 0, none⟩ = some (.int .i64 a1_0) := (blk_cell BK227.out 0).trans rfl
             have hcz113_1 : wc.cell? ⟨gb227, 1, none⟩ = some (.int .i64 a1_1) := (blk_cell BK227.out 1).trans rfl
             have hcz113_2 : wc.cell? ⟨gb227, 2, none⟩ = some (.int .i64 a1_2) := (blk_cell BK227.out 2).trans rfl
             have hcz113_3 : wc.cell? ⟨gb227, 3, none⟩ = some (.float .f64 a1_3) := (blk_cell BK227.out 3).trans rfl
             have hcz113_4 : wc.cell? ⟨gb227, 4, none⟩ = some (.float .f64 a1_4) := (blk_cell BK227.out 4).trans rfl
             have hfz113_0 := blk_frozen BK227.out 0
             have hfz113_1 := blk_frozen BK227.out 1
             have hfz113_2 := blk_frozen BK227.out 2
             have hfz113_3 := blk_frozen BK227.out 3
             have hfz113_4 := blk_frozen BK227.out 4
             have p234 : 0 ≤ (a1_1 : Int) := of_decide_eq_true (by first | (with_reducible assumption) | assumption)
             have q234 : a1_1 < (l0.length : Int) := of_decide_eq_true (by first | (with_reducible assumption) | assumption)
             obtain ⟨ad234, e234, hx234_0, hx234_1⟩ := at_T28 HR0.out a1_1 p234 q234
             cases e234
             replace hx234_0 := (HB.out.cell (World.block_lt_of_cell? w _ hx234_0)).trans hx234_0
             replace hx234_1 := (HB.out.cell (World.block_lt_of_cell? w _ hx234_1)).trans hx234_1
             replace p234 := eq_true p234
             replace q234 := eq_true q234
             try go_wp2_with (first | ((with_reducible refine gate_dst (N := 8) rfl ?_); refine box_event ?hg (N := 8) ?hd (cs := #[.float .f64 0, .float .f64 0]) (t := 28) ?hr ?_; (case hd => rfl); (case hg => rfl); (case hr => first | (go_simp; done) | (go_simp; rfl)); intro gb235 hg w114 hbox hb; have n0_ := Aside0.mk (Kd.R_below (Kd.R_elderB (by (with_reducible repeat (first | apply Kd.R_alloc | apply Kd.R_drewN | apply Kd.R_drew)); exact HO_6.out) gb235 (Nat.le_of_eq hg.symm)) hb); have n1_ := Aside0.mk (blk_below (g := gb227) (o := .cells #[.int .i64 a1_0, .int .i64 a1_1, .int .i64 a1_2, .float .f64 a1_3, .float .f64 a1_4] 56 (0, 0)) (by (with_reducible repeat (first | refine blk_drewN ?_ _ | refine blk_drew ?_ | refine blk_alloc ?_ _)); exact BK227.out) hb); have n2_ := Aside0.mk (below_step (by repeat (first | (with_reducible first | exact HB.out | apply below_alloc | apply pw_below_drewN | apply below_drew1 | refine below_set ?_ GE227.out) | exact HB.out)) hb); have n3_ := Aside0.mk (hbox); have n4_ := Aside0.mk ((by rw [hg]; exact (below_size (by repeat (first | (with_reducible first | exact HB.out | apply below_alloc | apply pw_below_drewN | apply below_drew1 | refine below_set ?_ GE227.out) | exact HB.out))) : w.heap.size ≤ gb235)); have n5_ := Aside0.mk ((by rw [hg]; exact (below_size (by repeat (first | (with_reducible first | exact HB.out | apply below_alloc | apply pw_below_drewN | apply below_drew1 | refine below_set ?_ GE227.out) | exact HB.out))) : w.heap.size ≤ gb235)); have n6_ := Aside0.mk ((by rw [hg]; exact Nat.ne_of_lt (blk_lt (g := gb227) (o := .cells #[.int .i64 a1_0, .int .i64 a1_1, .int .i64 a1_2, .float .f64 a1_3, .float .f64 a1_4] 56 (0, 0)) (by (with_reducible repeat (first | refine blk_drewN ?_ _ | refine blk_drew ?_ | refine blk_alloc ?_ _)); exact BK227.out)) : gb227 ≠ gb235)); have n7_ := Aside0.mk ((by rw [hg]; exact Nat.ne_of_gt (blk_lt (g := gb227) (o := .cells #[.int .i64 a1_0, .int .i64 a1_1, .int .i64 a1_2, .float .f64 a1_3, .float .f64 a1_4] 56 (0, 0)) (by (with_reducible repeat (first | refine blk_drewN ?_ _ | refine blk_drew ?_ | refine blk_alloc ?_ _)); exact BK227.out)) : gb235 ≠ gb227)); clear HO_6; clear BK227; clear HB; have HO_6 := n0_; have BK227 := n1_; have HB := n2_; have BK235 := n3_; have GW235 := n4_; have GE235 := n5_; have NB227_235 := n6_; have NB235_227 := n7_; clear n0_ n1_ n2_ n3_ n4_ n5_ n6_ n7_; clear hb hbox hg; have hnb115 := NB235_227.out; have hnc115 := NB227_235.out; have hcz116_0 : w114.cell? ⟨gb235, 0, none⟩ = some (.float .f64 0) := (blk_cell BK235.out 0).trans rfl; have hcz116_1 : w114.cell? ⟨gb235, 1, none⟩ = some (.float .f64 0) := (blk_cell BK235.out 1).trans rfl; have hfz116_0 := blk_frozen BK235.out 0; have hfz116_1 := blk_frozen BK235.out 1; have hcz117_0 : w114.cell? ⟨gb227, 0, none⟩ = some (.int .i64 a1_0) := (blk_cell BK227.out 0).trans rfl; have hcz117_1 : w114.cell? ⟨gb227, 1, none⟩ = some (.int .i64 a1_1) := (blk_cell BK227.out 1).trans rfl; have hcz117_2 : w114.cell? ⟨gb227, 2, none⟩ = some (.int .i64 a1_2) := (blk_cell BK227.out 2).trans rfl; have hcz117_3 : w114.cell? ⟨gb227, 3, none⟩ = some (.float .f64 a1_3) := (blk_cell BK227.out 3).trans rfl; have hcz117_4 : w114.cell? ⟨gb227, 4, none⟩ = some (.float .f64 a1_4) := (blk_cell BK227.out 4).trans rfl; have hfz117_0 := blk_frozen BK227.out 0; have hfz117_1 := blk_frozen BK227.out 1; have hfz117_2 := blk_frozen BK227.out 2; have hfz117_3 := blk_frozen BK227.out 3; have hfz117_4 := blk_frozen BK227.out 4))
             have n0_ : Aside0 (Kd.R k28 28 ((w114.setCell ⟨gb235, 0, none⟩ (.float .f64 ((rd_T28 l0 a1_1).f0))).setCell ⟨gb235, 1, none⟩ (.float .f64 ((rd_T28 l0 a1_1).f1))) w.heap.size (fun k_ => k_ ≠ gb235) v229 t228) := ⟨by (with_reducible repeat (first | apply Kd.R_alloc | apply Kd.R_drewN | apply Kd.R_drew)); exact Kd.R_mono (Kd.R_far (Kd.R_far (Kd.R_mono HO_6.out (fun k_ hk => (⟨hk, hk.2⟩ : _ ∧ k_ ≠ gb235))) (fun _ hk => hk.2) (.float .f64 ((rd_T28 l0 a1_1).f0))) (fun _ hk => hk.2) (.float .f64 ((rd_T28 l0 a1_1).f1))) (fun _ hk => hk.1.2)⟩
             have n1_ : Aside0 (((w114.setCell ⟨gb235, 0, none⟩ (.float .f64 ((rd_T28 l0 a1_1).f0))).setCell ⟨gb235, 1, none⟩ (.float .f64 ((rd_T28 l0 a1_1).f1))).heap[gb227]? = some (.cells #[.int .i64 a1_0, .int .i64 a1_1, .int .i64 a1_2, .float .f64 a1_3, .float .f64 a1_4] 56 (0, 0))) := ⟨by (with_reducible repeat (first | refine blk_drewN ?_ _ | refine blk_drew ?_ | refine blk_alloc ?_ _)); refine blk_far ?_ NB227_235.out _; (with_reducible repeat (first | refine blk_drewN ?_ _ | refine blk_drew ?_ | refine blk_alloc ?_ _)); refine blk_far ?_ NB227_235.out _; (with_reducible repeat (first | refine blk_drewN ?_ _ | refine blk_drew ?_ | refine blk_alloc ?_ _)); exact BK227.out⟩
             have n2_ : Aside0 (((w114.setCell ⟨gb235, 0, none⟩ (.float .f64 ((rd_T28 l0 a1_1).f0))).setCell ⟨gb235, 1, none⟩ (.float .f64 ((rd_T28 l0 a1_1).f1))).heap[gb235]? = some (.cells #[.float .f64 ((rd_T28 l0 a1_1).f0), .float .f64 ((rd_T28 l0 a1_1).f1)] 28 (0, 0))) := ⟨by (with_reducible repeat (first | refine blk_drewN ?_ _ | refine blk_drew ?_ | refine blk_alloc ?_ _)); refine blk_put (cs := #[.float .f64 ((rd_T28 l0 a1_1).f0), .float .f64 0]) ?_ 1 _ rfl; (with_reducible repeat (first | refine blk_drewN ?_ _ | refine blk_drew ?_ | refine blk_alloc ?_ _)); refine blk_put (cs := #[.float .f64 0, .float .f64 0]) ?_ 0 _ rfl; (with_reducible repeat (first | refine blk_drewN ?_ _ | refine blk_drew ?_ | refine blk_alloc ?_ _)); exact BK235.out⟩
             have n3_ : Aside0 (Below w.heap.size w ((w114.setCell ⟨gb235, 0, none⟩ (.float .f64 ((rd_T28 l0 a1_1).f0))).setCell ⟨gb235, 1, none⟩ (.float .f64 ((rd_T28 l0 a1_1).f1)))) := ⟨by repeat (first | (with_reducible first | exact HB.out | apply below_alloc | apply pw_below_drewN | apply below_drew1 | refine below_set ?_ GE227.out | refine below_set ?_ GE235.out) | exact HB.out)⟩
             (try clear HO_6)
             (try clear BK227)
             (try clear BK235)
             (try clear HB)
             generalize ((w114.setCell ⟨gb235, 0, none⟩ (.float .f64 ((rd_T28 l0 a1_1).f0))).setCell ⟨gb235, 1, none⟩ (.float .f64 ((rd_T28 l0 a1_1).f1))) = w118 at n0_ n1_ n2_ n3_ ⊢
             have HO_6 := n0_
             have BK227 := n1_
             have BK235 := n2_
             have HB := n3_
             clear n0_ n1_ n2_ n3_
             have n0_ := Aside0.mk (Kd.R_drew HO_6.out)
             have n1_ := Aside0.mk (blk_drew BK227.out)
             have n2_ := Aside0.mk (blk_drew BK235.out)
             have n3_ := Aside0.mk (below_drew1 HB.out)
             clear HO_6
             clear BK227
             clear BK235
             clear HB
             have HO_6 := n0_
             have BK227 := n1_
             have BK235 := n2_
             have HB := n3_
             clear n0_ n1_ n2_ n3_
             have p249 : 0 ≤ (a1_2 : Int) := of_decide_eq_true (by first | (with_reducible assumption) | assumption)
             have q249 : a1_2 < (l0.length : Int) := of_decide_eq_true (by first | (with_reducible assumption) | assumption)
             obtain ⟨ad249, e249, hx249_0, hx249_1⟩ := at_T28 HR0.out a1_2 p249 q249
             have hw249_1 := hx249_1
             have hw249_0 := hx249_0
             obtain rfl : ad234 = ad249 := (by injection e249)
             replace hx249_0 := (HB.out.cell (World.block_lt_of_cell? w _ hx249_0)).trans hx249_0
             replace hx249_1 := (HB.out.cell (World.block_lt_of_cell? w _ hx249_1)).trans hx249_1
             replace p249 := eq_true p249
             replace q249 := eq_true q249
             refine start_ (n := 12) (S := fun w' => w'.cell? ⟨gb227, 0, none⟩ = some (.int .i64 a1_0) ∧ w'.cell? ⟨gb227, 1, none⟩ = some (.int .i64 a1_1) ∧ w'.cell? ⟨gb227, 2, none⟩ = some (.int .i64 a1_2) ∧ w'.cell? ⟨gb227, 3, none⟩ = some (.float .f64 a1_3) ∧ w'.cell? ⟨gb227, 4, none⟩ = some (.float .f64 a1_4) ∧ w'.cell? ⟨gb235, 0, none⟩ = some (.float .f64 ((rd_T28 l0 a1_1).f0)) ∧ w'.cell? ⟨gb235, 1, none⟩ = some (.float .f64 ((rd_T28 l0 a1_1).f1)) ∧ w'.cell? (ad234.add ((a1_2).toNat * 2)) = some (.float .f64 ((rd_T28 l0 a1_2).f0)) ∧ w'.cell? ⟨(ad234.add ((a1_2).toNat * 2)).block, (ad234.add ((a1_2).toNat * 2)).off + 1, none⟩ = some (.float .f64 ((rd_T28 l0 a1_2).f1))) (ds := [11]) #[false, false, false, false, false, false, false, false, false, false, false, false] (by kernel_rfl) rfl rfl ⟨(blk_cell BK227.out 0).trans rfl, (blk_cell BK227.out 1).trans rfl, (blk_cell BK227.out 2).trans rfl, (blk_cell BK227.out 3).trans rfl, (blk_cell BK227.out 4).trans rfl, (blk_cell BK235.out 0).trans rfl, (blk_cell BK235.out 1).trans rfl, ((HB.out.cell (World.block_lt_of_cell? w _ hw249_0)).trans hw249_0), ((HB.out.cell (World.block_lt_of_cell? w _ hw249_1)).trans hw249_1)⟩ (fun hHeld => ?_); refine with_tabW spec_Turned.tab7 spec_Turned.bits7 (fun HT_ HW_ => ?_)
             generalize w118.drew = w119 at HO_6 BK227 BK235 HB hx249_0 hx249_1 hHeld ⊢
             refine pure_ (i := 0) (N := some 51) (v := ?_) (a' := ?_) #[true, false, false, false, false, false, false, false, false, false, false, false] rfl rfl (any_of HT_.out (by kernel_rfl)) (fun _ _ _ h => h) (Or.inl ⟨by rfl, ?_⟩) ?_ ?_
             rotate_left
             ·intro w'
              go_simp
              with_reducible rfl
             rotate_left
             ·simp only [Act.put, List.setIfInBounds_toArray, List.set_cons_zero, List.set_cons_succ, i64_w, i32_w]
              rfl
             refine pure_ (i := 1) (N := some 52) (v := ?_) (a' := ?_) #[true, true, false, false, false, false, false, false, false, false, false, false] rfl rfl (any_of HT_.out (by kernel_rfl)) (fun _ _ _ h => h) (Or.inl ⟨by rfl, ?_⟩) ?_ ?_
             rotate_left
             ·intro w'
              go_simp
              with_reducible rfl
             rotate_left
             ·simp only [Act.put, List.setIfInBounds_toArray, List.set_cons_zero, List.set_cons_succ, i64_w, i32_w]
              rfl
             refine pure_ (i := 4) (N := some 55) (v := ?_) (a' := ?_) #[true, true, false, false, true, false, false, false, false, false, false, false] rfl rfl (any_of HT_.out (by kernel_rfl)) (fun _ _ _ h => h) (Or.inl ⟨by rfl, ?_⟩) ?_ ?_
             rotate_left
             ·intro w'
              go_simp
              with_reducible rfl
             rotate_left
             ·simp only [Act.put, List.setIfInBounds_toArray, List.set_cons_zero, List.set_cons_succ, i64_w, i32_w]
              rfl
             refine pure_ (i := 5) (N := some 56) (v := ?_) (a' := ?_) #[true, true, false, false, true, true, false, false, false, false, false, false] rfl rfl (any_of HT_.out (by kernel_rfl)) (fun _ _ _ h => h) (Or.inl ⟨by rfl, ?_⟩) ?_ ?_
             rotate_left
             ·intro w'
              go_simp
              with_reducible rfl
             rotate_left
             ·simp only [Act.put, List.setIfInBounds_toArray, List.set_cons_zero, List.set_cons_succ, i64_w, i32_w]
              rfl
             refine take_ (i := 2) (N := some 53) (v := ?_) (a' := ?_) #[true, true, true, false, true, true, false, false, false, false, false, false] rfl rfl (take_ofW HT_.out HW_.out (by kernel_rfl)) (fun _ _ _ h => h) (Or.inl ⟨by rfl, ?_⟩) hHeld ?_ ?_
             rotate_left
             ·rintro w' ⟨s0, s1, s2, s3, s4, s5, s6, s7, s8⟩
              go_simp
              with_reducible rfl
             rotate_left
             ·simp only [Act.put, List.setIfInBounds_toArray, List.set_cons_zero, List.set_cons_succ, i64_w, i32_w]
              rfl
             refine take_ (i := 3) (N := some 54) (v := ?_) (a' := ?_) #[true, true, true, true, true, true, false, false, false, false, false, false] rfl rfl (take_ofW HT_.out HW_.out (by kernel_rfl)) (fun _ _ _ h => h) (Or.inl ⟨by rfl, ?_⟩) hHeld ?_ ?_
             rotate_left
             ·rintro w' ⟨s0, s1, s2, s3, s4, s5, s6, s7, s8⟩
              go_simp
              with_reducible rfl
             rotate_left
             ·simp only [Act.put, List.setIfInBounds_toArray, List.set_cons_zero, List.set_cons_succ, i64_w, i32_w]
              rfl
             refine take_ (i := 6) (N := some 57) (v := ?_) (a' := ?_) #[true, true, true, true, true, true, true, false, false, false, false, false] rfl rfl (take_ofW HT_.out HW_.out (by kernel_rfl)) (fun _ _ _ h => h) (Or.inl ⟨by rfl, ?_⟩) hHeld ?_ ?_
             rotate_left
             ·rintro w' ⟨s0, s1, s2, s3, s4, s5, s6, s7, s8⟩
              go_simp
              with_reducible rfl
             rotate_left
             ·simp only [Act.put, List.setIfInBounds_toArray, List.set_cons_zero, List.set_cons_succ, i64_w, i32_w]
              rfl
             refine pure_ (i := 7) (N := some 58) (v := ?_) (a' := ?_) #[true, true, true, true, true, true, true, true, false, false, false, false] rfl rfl (any_of HT_.out (by kernel_rfl)) (fun _ _ _ h => h) (Or.inl ⟨by rfl, ?_⟩) ?_ ?_
             rotate_left
             ·intro w'
              go_simp
              with_reducible rfl
             rotate_left
             ·simp only [Act.put, List.setIfInBounds_toArray, List.set_cons_zero, List.set_cons_succ, i64_w, i32_w]
              rfl
             refine take_ (i := 8) (N := some 59) (v := ?_) (a' := ?_) #[true, true, true, true, true, true, true, true, true, false, false, false] rfl rfl (take_ofW HT_.out HW_.out (by kernel_rfl)) (fun _ _ _ h => h) (Or.inl ⟨by rfl, ?_⟩) hHeld ?_ ?_
             rotate_left
             ·rintro w' ⟨s0, s1, s2, s3, s4, s5, s6, s7, s8⟩
              go_simp
              with_reducible rfl
             rotate_left
             ·simp only [Act.put, List.setIfInBounds_toArray, List.set_cons_zero, List.set_cons_succ, i64_w, i32_w]
              rfl
             refine one_ (i := 9) (N := some 60) #[true, true, true, true, true, true, true, true, true, true, false, false] rfl rfl (one_of HT_.out (by kernel_rfl)) (by decide) (fun K hK => ?_)
             refine goes_ Try.func22 (by kernel_rfl) rfl #[.agg #[.float .f64 ((rd_T28 l0 a1_1).f0), .float .f64 ((rd_T28 l0 a1_1).f1)], .agg #[.float .f64 ((rd_T28 l0 a1_2).f0), .float .f64 ((rd_T28 l0 a1_2).f1)]] (by rfl) rfl rfl (by (try simp only [List.map_toArray, List.map_cons, List.map_nil]); first | done | rfl | (simp only [List.length_drop, List.length_take]; rfl)) ?_
             with_reducible refine (spec_PhTimes.calls ((rd_T28 l0 a1_1).f0) ((rd_T28 l0 a1_1).f1) ((rd_T28 l0 a1_2).f0) ((rd_T28 l0 a1_2).f1) _ _ HD108.out).mono ?_
             rintro e w120 ⟨t250, t251, hq_, rfl, hb⟩
             refine ⟨_, rfl, ?_⟩
             have HD107 := Aside0.mk hq_
             clear hq_ HD108
             have n0_ := Aside0.mk (Kd.R_below (by (with_reducible repeat (first | apply Kd.R_alloc | apply Kd.R_drewN | apply Kd.R_drew)); exact HO_6.out) hb)
             have n1_ := Aside0.mk (blk_below (g := gb227) (o := .cells #[.int .i64 a1_0, .int .i64 a1_1, .int .i64 a1_2, .float .f64 a1_3, .float .f64 a1_4] 56 (0, 0)) (by (with_reducible repeat (first | refine blk_drewN ?_ _ | refine blk_drew ?_ | refine blk_alloc ?_ _)); exact BK227.out) hb)
             have n2_ := Aside0.mk (blk_below (g := gb235) (o := .cells #[.float .f64 ((rd_T28 l0 a1_1).f0), .float .f64 ((rd_T28 l0 a1_1).f1)] 28 (0, 0)) (by (with_reducible repeat (first | refine blk_drewN ?_ _ | refine blk_drew ?_ | refine blk_alloc ?_ _)); exact BK235.out) hb)
             have n3_ := Aside0.mk (below_step (by repeat (first | (with_reducible first | exact HB.out | apply below_alloc | apply pw_below_drewN | apply below_drew1 | refine below_set ?_ GE227.out | refine below_set ?_ GE235.out) | exact HB.out)) hb)
             clear HO_6
             clear BK227
             clear BK235
             clear HB
             have HO_6 := n0_
             have BK227 := n1_
             have BK235 := n2_
             have HB := n3_
             clear n0_ n1_ n2_ n3_
             (try clear hb)
             (try clear hb2)
             (try clear hk)
             (try clear hi)
             have c109 : a1_1 < (t228.length : Int) := (by by_cases hc_ : a1_1 < (t228.length : Int); exact hc_; (have H_ := HD107.out; rw [if_neg hc_] at H_; exact absurd H_ (by simp)))
             have HD110 := Aside0.mk (show (Q_ ((t228.set (a1_1 : Int).toNat (⟨t250, t251⟩ : S28)), true)) from (by have H_ := HD107.out; rw [if_pos c109] at H_; exact H_))
             clear HD107
             have c109b0 : decide (a1_1 < (t228.length : Int)) = true := decide_eq_true c109
             clear c109
             have p111 : 0 ≤ (a1_1 : Int) := of_decide_eq_true (by first | (with_reducible assumption) | assumption)
             have q111 : (a1_1 : Int) < ((t228.length : Int) : Int) := of_decide_eq_true (by first | (with_reducible assumption) | assumption)
             obtain ⟨go111, co111, eo111, gb111, gl111, cl111, HG111⟩ := Kd.R_form HO_6.out (by omega)
             (first | cases eo111 | (injection eo111 with ea_ en_ ec_; (first | subst ea_ | (injection ea_ with ea_; subst ea_)); subst ec_; clear en_))
             have GB111 := Aside0.mk gb111
             have GG111 := Aside0.mk HG111
             clear gb111 gl111 HG111
             obtain ⟨ce111, hcl111, hM111, hcc111, hfr111⟩ := Kd.R_elem HO_6.out z28 (a1_1 : Int) p111 q111
             obtain rfl := k28_openM hM111
             have hx111_0 : World.cell? _ ⟨go111, (a1_1 : Int).toNat * 2, none⟩ = some (.float .f64 ((rd_T28 t228 a1_1).f0)) := hcc111 0 _ rfl
             have hx111_1 : World.cell? _ ⟨go111, (a1_1 : Int).toNat * 2 + 1, none⟩ = some (.float .f64 ((rd_T28 t228 a1_1).f1)) := hcc111 1 _ rfl
             have hf111_0 : World.frozen? _ ⟨go111, (a1_1 : Int).toNat * 2, none⟩ = false := hfr111 0
             have hf111_1 : World.frozen? _ ⟨go111, (a1_1 : Int).toNat * 2 + 1, none⟩ = false := hfr111 1
             clear hcl111 hcc111 hfr111 hM111
             replace p111 := eq_true p111
             replace q111 := eq_true q111
             obtain ⟨y252, hy252⟩ : ∃ y_ : List (S28), y_ = (t228.set (a1_1 : Int).toNat (⟨t250, t251⟩ : S28)) := ⟨_, rfl⟩
             have HD112 := Aside0.mk (show (Q_ (y252, true)) from (by have H := HD110.out; first | (rw [hy252]; with_reducible exact H) | (obtain ⟨_, e_, H2_⟩ := H; subst e_; rw [hy252]; exact H2_) | with_reducible exact H | (rw [hy252]; exact H) | exact H))
             clear HD110
             have Ny252 := Aside0.mk hy252
             clear hy252
             obtain ⟨ce121, hcl121, hM121, hcc121, hfr121⟩ := Kd.R_elem HO_6.out z28 (a1_1 : Int) (of_decide_eq_true (by first | (with_reducible assumption) | assumption)) (by have h_ : (a1_1 : Int) < ((t228.length : Int) : Int) := of_decide_eq_true (by first | (with_reducible assumption) | assumption); first | exact h_ | (have e_ := (Kd.R_reads' HO_6.out).1; omega) | simpa using h_)
             obtain rfl := k28_openM hM121
             have HP121 := (Kd.R_seg HO_6.out (a1_1 : Int) (of_decide_eq_true (by first | (with_reducible assumption) | assumption)) (by have h_ : (a1_1 : Int) < ((t228.length : Int) : Int) := of_decide_eq_true (by first | (with_reducible assumption) | assumption); first | exact h_ | (have e_ := (Kd.R_reads' HO_6.out).1; omega) | simpa using h_) (seg := [.float .f64 t250, .float .f64 t251]) (j := 0) hcl121 hcc121 (show 2 ≤ 2 from by decide) (x' := (⟨t250, t251⟩ : S28)) (k28_mkM _ _ _ (⟨t250, t251⟩ : S28) ) (fun _ hk => hk)).1
             rw [← Ny252.out] at HP121
             have HQ121 := Aside0.mk HP121
             clear hcl121 hcc121 hfr121 hM121 HP121
             refine hK.out _ _ ⟨(blk_cell BK227.out 0).trans rfl, (blk_cell BK227.out 1).trans rfl, (blk_cell BK227.out 2).trans rfl, (blk_cell BK227.out 3).trans rfl, (blk_cell BK227.out 4).trans rfl, (blk_cell BK235.out 0).trans rfl, (blk_cell BK235.out 1).trans rfl, ((HB.out.cell (World.block_lt_of_cell? w _ hw249_0)).trans hw249_0), ((HB.out.cell (World.block_lt_of_cell? w _ hw249_1)).trans hw249_1)⟩ (fun hHeld => ?_)
             clear hK K
             refine norm_ (a' := ?_) ?_ ?_
             rotate_left
             ·show Act.put _ (some 60) _ = _
              simp only [Act.put, List.setIfInBounds_toArray, List.set_cons_zero, List.set_cons_succ, i64_w, i32_w]
              rfl
             refine pure_ (i := 10) (N := some 61) (v := ?_) (a' := ?_) #[true, true, true, true, true, true, true, true, true, true, true, false] rfl rfl (any_of HT_.out (by kernel_rfl)) (fun _ _ _ h => h) (Or.inl ⟨by rfl, ?_⟩) ?_ ?_
             rotate_left
             ·intro w'
              go_simp
              with_reducible rfl
             rotate_left
             ·simp only [Act.put, List.setIfInBounds_toArray, List.set_cons_zero, List.set_cons_succ, i64_w, i32_w]
              rfl
             refine last_ (i := 11) (N := none) #[true, true, true, true, true, true, true, true, true, true, true, true] rfl rfl (one_of HT_.out (by kernel_rfl)) (by decide) (fun K hK => ?_)
             refine skip_ (w1 := ?_) (by rfl) rfl ?_ ?_
             rotate_left
             ·go_simp
              rfl
             refine hK.out _ _ ?_
             clear hK K
             refine done_ (done_of HT_.out (by kernel_rfl)) ?_
             try go_wp2
             go_ret2
             exact Dq2.mk HD112.out ⟨_, by first | rfl | (simp [errW_none, errW_some] <;> rfl) | (simp [*, errW_none, errW_some] <;> rfl), by (with_reducible repeat (first | apply Kd.R_alloc | apply Kd.R_drewN | apply Kd.R_drew)); exact Kd.R_mono HQ121.out (fun _ hk => trivial), by repeat (first | (with_reducible first | exact HB.out | apply below_alloc | apply pw_below_drewN | apply below_drew1 | refine below_set ?_ GB111.out | refine below_set ?_ GB111.out | refine below_set ?_ GE227.out | refine below_set ?_ GE235.out) | exact HB.out)⟩
            ·rw [if_neg c106] at H
             exact absurd H (by simp)
           ·rw [if_neg c105] at H
            exact absurd H (by simp)
     ·rw [if_neg c20] at H
      exact absurd H (by simp)
    ·rw [if_neg c19] at H
     exact absurd H (by simp)


end Go.Proofs.Ythjlapmjpjpgeaa.D
namespace Go.Proofs.Ythjlapmjpjpgeaa.D
open Go.RowKit Go.Proofs.YthjlapmjpjpgeaaW.PrintWords Go.Proofs.YthjlapmjpjpgeaaW.PrintLast Go.Proofs.YthjlapmjpjpgeaaW.PrintMore
attribute [local go_sem] run_store_float max2_int min2_int max_two min_two max_three min_three max_four min_four   -- for this text's walks alone
set_option linter.unusedVariables false
set_option linter.unusedSimpArgs false

def laws_toTurn4.f (a0_0 : Int) (a0_1 : Int) (a0_2 : Int) (a0_3 : Nat) (a0_4 : Nat) : Option (Int × Int × Int × Nat × Nat) := (laws_toPhasor.f a0_3 a0_4).bind fun bt256 => (some (a0_0, a0_1, a0_2, bt256.1, bt256.2))
set_option maxHeartbeats 8000000 in
set_option maxRecDepth 100000 in
theorem laws_toTurn4.calls (a0_0 : Int) (a0_1 : Int) (a0_2 : Int) (a0_3 : Nat) (a0_4 : Nat) (r1 : Int) (r2 : Int) (r3 : Int) (r4 : Nat) (r5 : Nat) (w : World) (h : laws_toTurn4.f a0_0 a0_1 a0_2 a0_3 a0_4 = some (r1, r2, r3, r4, r5)) :
  Calls Try.prog 34 #[.agg #[.int .i64 a0_0, .int .i64 a0_1, .int .i64 a0_2, .float .f64 a0_3, .float .f64 a0_4]] w fun e w' => e = .returned (.agg #[.int .i64 r1, .int .i64 r2, .int .i64 r3, .float .f64 r4, .float .f64 r5]) ∧ Below w.heap.size w w' := by
 have hu52 := Try.underlying52
 have hu56 := Try.underlying56
 have hu34 := Try.underlying34
 have hu28 := Try.underlying28
 have HB := Aside0.mk (Below.refl w.heap.size w)
 have H : ((laws_toPhasor.f a0_3 a0_4).bind fun bt256 => (some (a0_0, a0_1, a0_2, bt256.1, bt256.2))) = some (r1, r2, r3, r4, r5) := h
 clear h
 replace H := Option.bind_eq_some_iff.mp H
 obtain ⟨⟨t256, t257⟩, A20, H⟩ := H
 replace H : (some (a0_0, a0_1, a0_2, t256, t257)) = some (r1, r2, r3, r4, r5) := H
 have A2 := Aside0.mk A20
 clear A20
 simp only [Option.some.injEq, Prod.mk.injEq] at H
 obtain ⟨rfl, rfl, rfl, rfl, rfl⟩ := H
 go_enter Try.func34, Try.ntmps34
 go_wp2_with (first | ((with_reducible refine gate_dst (N := 1) rfl ?_); refine box_event ?hg (N := 1) ?hd (cs := #[.int .i64 a0_0, .int .i64 a0_1, .int .i64 a0_2, .float .f64 a0_3, .float .f64 a0_4]) (t := 52) ?hr ?_; (case hd => rfl); (case hg => rfl); (case hr => first | (go_simp; done) | (go_simp; rfl)); intro gb253 hg w3 hbox hb; have n0_ := Aside0.mk (below_step (by repeat (first | (with_reducible first | exact HB.out | apply below_alloc | apply pw_below_drewN | apply below_drew1) | exact HB.out)) hb); have n1_ := Aside0.mk (hbox); have n2_ := Aside0.mk ((by rw [hg]; exact (below_size (by repeat (first | (with_reducible first | exact HB.out | apply below_alloc | apply pw_below_drewN | apply below_drew1) | exact HB.out))) : w.heap.size ≤ gb253)); have n3_ := Aside0.mk ((by rw [hg]; exact (below_size (by repeat (first | (with_reducible first | exact HB.out | apply below_alloc | apply pw_below_drewN | apply below_drew1) | exact HB.out))) : w.heap.size ≤ gb253)); clear HB; have HB := n0_; have BK253 := n1_; have GW253 := n2_; have GE253 := n3_; clear n0_ n1_ n2_ n3_; clear hb hbox hg) | ((with_reducible refine gate_dst (N := 2) rfl ?_); refine box_event ?hg (N := 2) ?hd (cs := #[.int .i64 0, .int .i64 0, .int .i64 0, .float .f64 0, .float .f64 0]) (t := 56) ?hr ?_; (case hd => rfl); (case hg => rfl); (case hr => first | (go_simp; done) | (go_simp; rfl)); intro gb254 hg w4 hbox hb; have n0_ := Aside0.mk (blk_below (g := gb253) (o := .cells #[.int .i64 a0_0, .int .i64 a0_1, .int .i64 a0_2, .float .f64 a0_3, .float .f64 a0_4] 52 (0, 0)) (by (with_reducible repeat (first | refine blk_drewN ?_ _ | refine blk_drew ?_ | refine blk_alloc ?_ _)); exact BK253.out) hb); have n1_ := Aside0.mk (below_step (by repeat (first | (with_reducible first | exact HB.out | apply below_alloc | apply pw_below_drewN | apply below_drew1 | refine below_set ?_ GE253.out) | exact HB.out)) hb); have n2_ := Aside0.mk (hbox); have n3_ := Aside0.mk ((by rw [hg]; exact (below_size (by repeat (first | (with_reducible first | exact HB.out | apply below_alloc | apply pw_below_drewN | apply below_drew1 | refine below_set ?_ GE253.out) | exact HB.out))) : w.heap.size ≤ gb254)); have n4_ := Aside0.mk ((by rw [hg]; exact (below_size (by repeat (first | (with_reducible first | exact HB.out | apply below_alloc | apply pw_below_drewN | apply below_drew1 | refine below_set ?_ GE253.out) | exact HB.out))) : w.heap.size ≤ gb254)); have n5_ := Aside0.mk ((by rw [hg]; exact Nat.ne_of_lt (blk_lt (g := gb253) (o := .cells #[.int .i64 a0_0, .int .i64 a0_1, .int .i64 a0_2, .float .f64 a0_3, .float .f64 a0_4] 52 (0, 0)) (by (with_reducible repeat (first | refine blk_drewN ?_ _ | refine blk_drew ?_ | refine blk_alloc ?_ _)); exact BK253.out)) : gb253 ≠ gb254)); have n6_ := Aside0.mk ((by rw [hg]; exact Nat.ne_of_gt (blk_lt (g := gb253) (o := .cells #[.int .i64 a0_0, .int .i64 a0_1, .int .i64 a0_2, .float .f64 a0_3, .float .f64 a0_4] 52 (0, 0)) (by (with_reducible repeat (first | refine blk_drewN ?_ _ | refine blk_drew ?_ | refine blk_alloc ?_ _)); exact BK253.out)) : gb254 ≠ gb253)); clear BK253; clear HB; have BK253 := n0_; have HB := n1_; have BK254 := n2_; have GW254 := n3_; have GE254 := n4_; have NB253_254 := n5_; have NB254_253 := n6_; clear n0_ n1_ n2_ n3_ n4_ n5_ n6_; clear hb hbox hg) | ((with_reducible refine gate_dst (N := 3) rfl ?_); refine box_event ?hg (N := 3) ?hd (cs := #[.int .i64 0, .int .i64 0, .int .i64 0, .float .f64 0, .float .f64 0]) (t := 56) ?hr ?_; (case hd => rfl); (case hg => rfl); (case hr => first | (go_simp; done) | (go_simp; rfl)); intro gb255 hg w5 hbox hb; have n0_ := Aside0.mk (blk_below (g := gb253) (o := .cells #[.int .i64 a0_0, .int .i64 a0_1, .int .i64 a0_2, .float .f64 a0_3, .float .f64 a0_4] 52 (0, 0)) (by (with_reducible repeat (first | refine blk_drewN ?_ _ | refine blk_drew ?_ | refine blk_alloc ?_ _)); exact BK253.out) hb); have n1_ := Aside0.mk (blk_below (g := gb254) (o := .cells #[.int .i64 0, .int .i64 0, .int .i64 0, .float .f64 0, .float .f64 0] 56 (0, 0)) (by (with_reducible repeat (first | refine blk_drewN ?_ _ | refine blk_drew ?_ | refine blk_alloc ?_ _)); exact BK254.out) hb); have n2_ := Aside0.mk (below_step (by repeat (first | (with_reducible first | exact HB.out | apply below_alloc | apply pw_below_drewN | apply below_drew1 | refine below_set ?_ GE253.out | refine below_set ?_ GE254.out) | exact HB.out)) hb); have n3_ := Aside0.mk (hbox); have n4_ := Aside0.mk ((by rw [hg]; exact (below_size (by repeat (first | (with_reducible first | exact HB.out | apply below_alloc | apply pw_below_drewN | apply below_drew1 | refine below_set ?_ GE253.out | refine below_set ?_ GE254.out) | exact HB.out))) : w.heap.size ≤ gb255)); have n5_ := Aside0.mk ((by rw [hg]; exact (below_size (by repeat (first | (with_reducible first | exact HB.out | apply below_alloc | apply pw_below_drewN | apply below_drew1 | refine below_set ?_ GE253.out | refine below_set ?_ GE254.out) | exact HB.out))) : w.heap.size ≤ gb255)); have n6_ := Aside0.mk ((by rw [hg]; exact Nat.ne_of_lt (blk_lt (g := gb253) (o := .cells #[.int .i64 a0_0, .int .i64 a0_1, .int .i64 a0_2, .float .f64 a0_3, .float .f64 a0_4] 52 (0, 0)) (by (with_reducible repeat (first | refine blk_drewN ?_ _ | refine blk_drew ?_ | refine blk_alloc ?_ _)); exact BK253.out)) : gb253 ≠ gb255)); have n7_ := Aside0.mk ((by rw [hg]; exact Nat.ne_of_gt (blk_lt (g := gb253) (o := .cells #[.int .i64 a0_0, .int .i64 a0_1, .int .i64 a0_2, .float .f64 a0_3, .float .f64 a0_4] 52 (0, 0)) (by (with_reducible repeat (first | refine blk_drewN ?_ _ | refine blk_drew ?_ | refine blk_alloc ?_ _)); exact BK253.out)) : gb255 ≠ gb253)); have n8_ := Aside0.mk ((by rw [hg]; exact Nat.ne_of_lt (blk_lt (g := gb254) (o := .cells #[.int .i64 0, .int .i64 0, .int .i64 0, .float .f64 0, .float .f64 0] 56 (0, 0)) (by (with_reducible repeat (first | refine blk_drewN ?_ _ | refine blk_drew ?_ | refine blk_alloc ?_ _)); exact BK254.out)) : gb254 ≠ gb255)); have n9_ := Aside0.mk ((by rw [hg]; exact Nat.ne_of_gt (blk_lt (g := gb254) (o := .cells #[.int .i64 0, .int .i64 0, .int .i64 0, .float .f64 0, .float .f64 0] 56 (0, 0)) (by (with_reducible repeat (first | refine blk_drewN ?_ _ | refine blk_drew ?_ | refine blk_alloc ?_ _)); exact BK254.out)) : gb255 ≠ gb254)); clear BK253; clear BK254; clear HB; have BK253 := n0_; have BK254 := n1_; have HB := n2_; have BK255 := n3_; have GW255 := n4_; have GE255 := n5_; have NB253_255 := n6_; have NB255_253 := n7_; have NB254_255 := n8_; have NB255_254 := n9_; clear n0_ n1_ n2_ n3_ n4_ n5_ n6_ n7_ n8_ n9_; clear hb hbox hg; have hnb6 := NB253_254.out; have hnc6 := NB254_253.out; have hnb7 := NB253_255.out; have hnc7 := NB255_253.out; have hcz8_0 : w5.cell? ⟨gb253, 0, none⟩ = some (.int .i64 a0_0) := (blk_cell BK253.out 0).trans rfl; have hcz8_1 : w5.cell? ⟨gb253, 1, none⟩ = some (.int .i64 a0_1) := (blk_cell BK253.out 1).trans rfl; have hcz8_2 : w5.cell? ⟨gb253, 2, none⟩ = some (.int .i64 a0_2) := (blk_cell BK253.out 2).trans rfl; have hcz8_3 : w5.cell? ⟨gb253, 3, none⟩ = some (.float .f64 a0_3) := (blk_cell BK253.out 3).trans rfl; have hcz8_4 : w5.cell? ⟨gb253, 4, none⟩ = some (.float .f64 a0_4) := (blk_cell BK253.out 4).trans rfl; have hfz8_0 := blk_frozen BK253.out 0; have hfz8_1 := blk_frozen BK253.out 1; have hfz8_2 := blk_frozen BK253.out 2; have hfz8_3 := blk_frozen BK253.out 3; have hfz8_4 := blk_frozen BK253.out 4; have hnb9 := NB255_254.out; have hnc9 := NB254_255.out; have hcz10_0 : w5.cell? ⟨gb255, 0, none⟩ = some (.int .i64 0) := (blk_cell BK255.out 0).trans rfl; have hcz10_1 : w5.cell? ⟨gb255, 1, none⟩ = some (.int .i64 0) := (blk_cell BK255.out 1).trans rfl; have hcz10_2 : w5.cell? ⟨gb255, 2, none⟩ = some (.int .i64 0) := (blk_cell BK255.out 2).trans rfl; have hcz10_3 : w5.cell? ⟨gb255, 3, none⟩ = some (.float .f64 0) := (blk_cell BK255.out 3).trans rfl; have hcz10_4 : w5.cell? ⟨gb255, 4, none⟩ = some (.float .f64 0) := (blk_cell BK255.out 4).trans rfl; have hfz10_0 := blk_frozen BK255.out 0; have hfz10_1 := blk_frozen BK255.out 1; have hfz10_2 := blk_frozen BK255.out 2; have hfz10_3 := blk_frozen BK255.out 3; have hfz10_4 := blk_frozen BK255.out 4) | ((with_reducible refine gate_callee (f := 19) rfl ?_); refine goesL_ (some 15) rfl rfl Try.func19 (by kernel_rfl) rfl #[.agg #[.float .f64 a0_3, .float .f64 a0_4]] rfl (by (try simp only [List.map_toArray, List.map_cons, List.map_nil]); first | done | rfl | (simp only [List.length_drop, List.length_take]; rfl)) ?_; (with_reducible refine (laws_toPhasor.calls a0_3 a0_4 t256 t257 _ A2.out).mono ?_); rintro e w11 ⟨rfl, hb⟩; refine ⟨_, rfl, ?_⟩; have n0_ := Aside0.mk (blk_below (g := gb253) (o := .cells #[.int .i64 a0_0, .int .i64 a0_1, .int .i64 a0_2, .float .f64 a0_3, .float .f64 a0_4] 52 (0, 0)) (by (with_reducible repeat (first | refine blk_drewN ?_ _ | refine blk_drew ?_ | refine blk_alloc ?_ _)); refine blk_far ?_ NB253_255.out _; (with_reducible repeat (first | refine blk_drewN ?_ _ | refine blk_drew ?_ | refine blk_alloc ?_ _)); refine blk_far ?_ NB253_255.out _; (with_reducible repeat (first | refine blk_drewN ?_ _ | refine blk_drew ?_ | refine blk_alloc ?_ _)); refine blk_far ?_ NB253_255.out _; (with_reducible repeat (first | refine blk_drewN ?_ _ | refine blk_drew ?_ | refine blk_alloc ?_ _)); exact BK253.out) hb); have n1_ := Aside0.mk (blk_below (g := gb254) (o := .cells #[.int .i64 0, .int .i64 0, .int .i64 0, .float .f64 0, .float .f64 0] 56 (0, 0)) (by (with_reducible repeat (first | refine blk_drewN ?_ _ | refine blk_drew ?_ | refine blk_alloc ?_ _)); refine blk_far ?_ NB254_255.out _; (with_reducible repeat (first | refine blk_drewN ?_ _ | refine blk_drew ?_ | refine blk_alloc ?_ _)); refine blk_far ?_ NB254_255.out _; (with_reducible repeat (first | refine blk_drewN ?_ _ | refine blk_drew ?_ | refine blk_alloc ?_ _)); refine blk_far ?_ NB254_255.out _; (with_reducible repeat (first | refine blk_drewN ?_ _ | refine blk_drew ?_ | refine blk_alloc ?_ _)); exact BK254.out) hb); have n2_ := Aside0.mk (blk_below (g := gb255) (o := .cells #[.int .i64 a0_0, .int .i64 a0_1, .int .i64 a0_2, .float .f64 0, .float .f64 0] 56 (0, 0)) (by (with_reducible repeat (first | refine blk_drewN ?_ _ | refine blk_drew ?_ | refine blk_alloc ?_ _)); refine blk_put (cs := #[.int .i64 a0_0, .int .i64 a0_1, .int .i64 0, .float .f64 0, .float .f64 0]) ?_ 2 _ rfl; (with_reducible repeat (first | refine blk_drewN ?_ _ | refine blk_drew ?_ | refine blk_alloc ?_ _)); refine blk_put (cs := #[.int .i64 a0_0, .int .i64 0, .int .i64 0, .float .f64 0, .float .f64 0]) ?_ 1 _ rfl; (with_reducible repeat (first | refine blk_drewN ?_ _ | refine blk_drew ?_ | refine blk_alloc ?_ _)); refine blk_put (cs := #[.int .i64 0, .int .i64 0, .int .i64 0, .float .f64 0, .float .f64 0]) ?_ 0 _ rfl; (with_reducible repeat (first | refine blk_drewN ?_ _ | refine blk_drew ?_ | refine blk_alloc ?_ _)); exact BK255.out) hb); have n3_ := Aside0.mk (below_step (by repeat (first | (with_reducible first | exact HB.out | apply below_alloc | apply pw_below_drewN | apply below_drew1 | refine below_set ?_ GE253.out | refine below_set ?_ GE254.out | refine below_set ?_ GE255.out) | exact HB.out)) hb); clear BK253; clear BK254; clear BK255; clear HB; have BK253 := n0_; have BK254 := n1_; have BK255 := n2_; have HB := n3_; clear n0_ n1_ n2_ n3_; (try clear hb); (try clear hb2); (try clear hk); (try clear hi); have hcz12_0 : w11.cell? ⟨gb255, 0, none⟩ = some (.int .i64 a0_0) := (blk_cell BK255.out 0).trans rfl; have hcz12_1 : w11.cell? ⟨gb255, 1, none⟩ = some (.int .i64 a0_1) := (blk_cell BK255.out 1).trans rfl; have hcz12_2 : w11.cell? ⟨gb255, 2, none⟩ = some (.int .i64 a0_2) := (blk_cell BK255.out 2).trans rfl; have hcz12_3 : w11.cell? ⟨gb255, 3, none⟩ = some (.float .f64 0) := (blk_cell BK255.out 3).trans rfl; have hcz12_4 : w11.cell? ⟨gb255, 4, none⟩ = some (.float .f64 0) := (blk_cell BK255.out 4).trans rfl; have hfz12_0 := blk_frozen BK255.out 0; have hfz12_1 := blk_frozen BK255.out 1; have hfz12_2 := blk_frozen BK255.out 2; have hfz12_3 := blk_frozen BK255.out 3; have hfz12_4 := blk_frozen BK255.out 4; have hcz13_0 : w11.cell? ⟨gb254, 0, none⟩ = some (.int .i64 0) := (blk_cell BK254.out 0).trans rfl; have hcz13_1 : w11.cell? ⟨gb254, 1, none⟩ = some (.int .i64 0) := (blk_cell BK254.out 1).trans rfl; have hcz13_2 : w11.cell? ⟨gb254, 2, none⟩ = some (.int .i64 0) := (blk_cell BK254.out 2).trans rfl; have hcz13_3 : w11.cell? ⟨gb254, 3, none⟩ = some (.float .f64 0) := (blk_cell BK254.out 3).trans rfl; have hcz13_4 : w11.cell? ⟨gb254, 4, none⟩ = some (.float .f64 0) := (blk_cell BK254.out 4).trans rfl; have hfz13_0 := blk_frozen BK254.out 0; have hfz13_1 := blk_frozen BK254.out 1; have hfz13_2 := blk_frozen BK254.out 2; have hfz13_3 := blk_frozen BK254.out 3; have hfz13_4 := blk_frozen BK254.out 4))
 refine bodyPost_ret (results_cell_row rfl _ _ gb254 56 #[.int .i64 a0_0, .int .i64 a0_1, .int .i64 a0_2, .float .f64 t256, .float .f64 t257] (0, 0) _ rfl (by (with_reducible repeat (first | refine blk_drewN ?_ _ | refine blk_drew ?_ | refine blk_alloc ?_ _)); refine blk_put (cs := #[.int .i64 a0_0, .int .i64 a0_1, .int .i64 a0_2, .float .f64 t256, .float .f64 0]) ?_ 4 _ rfl; (with_reducible repeat (first | refine blk_drewN ?_ _ | refine blk_drew ?_ | refine blk_alloc ?_ _)); refine blk_put (cs := #[.int .i64 a0_0, .int .i64 a0_1, .int .i64 a0_2, .float .f64 0, .float .f64 0]) ?_ 3 _ rfl; (with_reducible repeat (first | refine blk_drewN ?_ _ | refine blk_drew ?_ | refine blk_alloc ?_ _)); refine blk_put (cs := #[.int .i64 a0_0, .int .i64 a0_1, .int .i64 0, .float .f64 0, .float .f64 0]) ?_ 2 _ rfl; (with_reducible repeat (first | refine blk_drewN ?_ _ | refine blk_drew ?_ | refine blk_alloc ?_ _)); refine blk_put (cs := #[.int .i64 a0_0, .int .i64 0, .int .i64 0, .float .f64 0, .float .f64 0]) ?_ 1 _ rfl; (with_reducible repeat (first | refine blk_drewN ?_ _ | refine blk_drew ?_ | refine blk_alloc ?_ _)); refine blk_put (cs := #[.int .i64 0, .int .i64 0, .int .i64 0, .float .f64 0, .float .f64 0]) ?_ 0 _ rfl; (with_reducible repeat (first | refine blk_drewN ?_ _ | refine blk_drew ?_ | refine blk_alloc ?_ _)); refine blk_far ?_ NB254_255.out _; (with_reducible repeat (first | refine blk_drewN ?_ _ | refine blk_drew ?_ | refine blk_alloc ?_ _)); refine blk_far ?_ NB254_255.out _; (with_reducible repeat (first | refine blk_drewN ?_ _ | refine blk_drew ?_ | refine blk_alloc ?_ _)); exact BK254.out) Try.underlying56 rfl (by kernel_rfl)) rfl ?_
 exact ⟨by first | rfl | (simp [errW_none, errW_some] <;> rfl) | (simp [*, errW_none, errW_some] <;> rfl), by repeat (first | (with_reducible first | exact HB.out | apply below_alloc | apply pw_below_drewN | apply below_drew1 | refine below_set ?_ GE253.out | refine below_set ?_ GE254.out | refine below_set ?_ GE255.out) | exact HB.out)⟩

def impl_ownPhasors.f (l0 : List (S28)) : Option ((List (S28))) := (some (([] : List (S28)) : List (S28))).bind fun y258 => (if y258.length + l0.length < 8796093022208 then (some (y258 ++ l0)) else (none))
set_option maxHeartbeats 8000000 in
set_option maxRecDepth 100000 in
theorem impl_ownPhasors.calls (A0 : Option Addr) (c0 : Nat) (l0 : List (S28)) (r : List (S28)) (w : World) (hr0 : Kd.C k28 w A0 l0.length l0) (hc0 : l0.length ≤ c0) (h : impl_ownPhasors.f l0 = some r) :
  Calls Try.prog 58 #[.slice A0 l0.length c0] w fun e w' => ∃ v0_ : Value, e = .returned (v0_) ∧ Kd.R k28 28 w' w.heap.size (fun _ => True) v0_ r ∧ Below w.heap.size w w' := by
 have HR0 := Aside0.mk hr0
 have HC0 := Aside0.mk hc0
 clear hr0 hc0
 have HB := Aside0.mk (Below.refl w.heap.size w)
 have H : ((some (([] : List (S28)) : List (S28))).bind fun y258 => (if y258.length + l0.length < 8796093022208 then (some (y258 ++ l0)) else (none))) = some r := h
 clear h
 obtain ⟨y258, hy258⟩ : ∃ y_ : List (S28), y_ = (([] : List (S28))) := ⟨_, rfl⟩
 replace H : (if y258.length + l0.length < 8796093022208 then (some (y258 ++ l0)) else (none)) = some r := by first | (rw [hy258]; with_reducible exact H) | (have H2_ := (Option.bind_some _ _).symm.trans H; rw [hy258]; with_reducible exact H2_) | (have H2_ := (Option.bind_some _ _).symm.trans H; with_reducible exact H2_) | with_reducible exact H | (rw [hy258]; exact H) | exact H
 have Ny258 := Aside0.mk hy258
 clear hy258
 by_cases c2 : y258.length + l0.length < 8796093022208
 ·rw [if_pos c2] at H
  have LMc2 := Aside0.mk c2
  clear c2
  obtain ⟨y261, hy261⟩ : ∃ y_ : List (S28), y_ = (y258 ++ l0) := ⟨_, rfl⟩
  replace H : (some y261) = some r := by first | (rw [hy261]; with_reducible exact H) | (have H2_ := (Option.bind_some _ _).symm.trans H; rw [hy261]; with_reducible exact H2_) | (have H2_ := (Option.bind_some _ _).symm.trans H; with_reducible exact H2_) | with_reducible exact H | (rw [hy261]; exact H) | exact H
  have Ny261 := Aside0.mk hy261
  clear hy261
  obtain rfl := Option.some.inj H
  go_enter Try.func58, Try.ntmps58
  go_wp2_with (first | ((with_reducible refine gate_dst (N := 3) rfl ?_); refine Kd.R_lit k28 _ 28 ?hg (N := 3) ?hd (xs := ([] : List (S28))) (inner := []) (ok := fun _ => True) (okp := fun _ => True) ?hr ?hp (fun _ hk => hk) trivial (Below.refl _ _) (Nat.le_refl _) (by simp) ?_; (case hd => rfl); (case hg => rfl); (case hr => first | (go_simp; done) | (go_simp; rfl)); (case hp => exact (Reps.none _ _)); intro v259 w3 ho4 hb hg_ hnew_; clear hg_ hnew_; (first | rw [← Ny258.out] at ho4 | (simp only [Int.reduceToNat] at ho4; rw [← Ny258.out] at ho4)); have n0_ := Aside0.mk (Kd.R_lower ho4 (below_size (by repeat (first | (with_reducible first | exact HB.out | apply below_alloc | apply pw_below_drewN | apply below_drew1) | exact HB.out)))); have n1_ := Aside0.mk (below_step (by repeat (first | (with_reducible first | exact HB.out | apply below_alloc | apply pw_below_drewN | apply below_drew1) | exact HB.out)) hb); clear HB; have HO260 := n0_; have HB := n1_; clear n0_ n1_; clear hb ho4) | ((with_reducible refine gate_builtin (b := .append) (xs := #[.tmp 3, .tmp 4]) rfl ?_); at_builtin; refine Kd.R_append_rows k28 (w0 := w) w.heap.size rfl (.tmp 3) (.tmp 4) 44 28 (.agg #[(.float .f64 0), (.float .f64 0)]) 16 rfl Try.underlying44 info28 rfl (by decide) (by omega) v259 y258 l0 _ _ _ (fun _ => True) (fun _ => False) rfl rfl ?aO ?aR (fun _ _ h => h) (fun _ h => h.elim) ?aF ?aB ?aS ?aL ?_; (case aR => repeat (first | exact (Kd.C_below HR0.out HB.out) | (with_reducible refine Kd.C_alloc ?_ _) | (with_reducible refine Kd.C_drewN ?_ _) | (with_reducible refine Kd.C_drew ?_))); (case aB => exact (by repeat (first | (with_reducible first | exact HB.out | apply below_alloc | apply pw_below_drewN | apply below_drew1) | exact HB.out))); (case aF => exact (fun _ _ => trivial)); (case aO => exact (by (with_reducible repeat (first | apply Kd.R_alloc | apply Kd.R_drewN | apply Kd.R_drew)); exact HO260.out)); (case aS => exact (below_size (by repeat (first | (with_reducible first | exact HB.out | apply below_alloc | apply pw_below_drewN | apply below_drew1) | exact HB.out)))); (case aL => have := LMc2.out; omega); intro v262 w5 ho hb hg hat; rw [← Ny261.out] at ho; have n0_ := Aside0.mk (hb); have n1_ := Aside0.mk (ho); clear HB; clear HO260; have HB := n0_; have HO263 := n1_; clear n0_ n1_; clear ho hb hg hat))
  go_ret
  exact ⟨_, by first | rfl | (simp [errW_none, errW_some] <;> rfl) | (simp [*, errW_none, errW_some] <;> rfl), by (with_reducible repeat (first | apply Kd.R_alloc | apply Kd.R_drewN | apply Kd.R_drew)); exact HO263.out, by repeat (first | (with_reducible first | exact HB.out | apply below_alloc | apply pw_below_drewN | apply below_drew1) | exact HB.out)⟩
 ·rw [if_neg c2] at H
  exact absurd H (by simp)

def impl_in.f (a0 : Int) (a1 : Int) (a2 : Int) : Option (Bool) := if a1 ≤ a0 then (some (decide (a0 ≤ a2))) else (some false)
set_option maxHeartbeats 8000000 in
set_option maxRecDepth 100000 in
theorem impl_in.calls (a0 : Int) (a1 : Int) (a2 : Int) (r : Bool) (w : World) (h : impl_in.f a0 a1 a2 = some r) :
  Calls Try.prog 59 #[.int .i64 a0, .int .i64 a1, .int .i64 a2] w fun e w' => e = .returned (.bool r) ∧ Drawn0 w w' := by
 have H : (if a1 ≤ a0 then (some (decide (a0 ≤ a2))) else (some false)) = some r := h
 clear h
 by_cases c4 : a1 ≤ a0
 ·rw [if_pos c4] at H
  have c4b0 : decide (a1 ≤ a0) = true := decide_eq_true c4
  clear c4
  obtain rfl := Option.some.inj H
  go_enter Try.func59, Try.ntmps59
  go_wp2
  go_ret
  exact ⟨by first | rfl | (simp; done) | (simp [*]; done), by repeat (first | exact Drawn0.refl _ | apply Drawn0.step)⟩
 ·rw [if_neg c4] at H
  have c4b0 : decide (a1 ≤ a0) = false := decide_eq_false c4
  clear c4
  obtain rfl := Option.some.inj H
  go_enter Try.func59, Try.ntmps59
  go_wp2
  go_ret
  exact ⟨by first | rfl | (simp; done) | (simp [*]; done), by repeat (first | exact Drawn0.refl _ | apply Drawn0.step)⟩


end Go.Proofs.Ythjlapmjpjpgeaa.D
namespace Go.Proofs.Ythjlapmjpjpgeaa.D
open Go.RowKit Go.Proofs.YthjlapmjpjpgeaaW.PrintWords Go.Proofs.YthjlapmjpjpgeaaW.PrintLast Go.Proofs.YthjlapmjpjpgeaaW.PrintMore
attribute [local go_sem] run_store_float max2_int min2_int max_two min_two max_three min_three max_four min_four   -- for this text's walks alone
set_option linter.unusedVariables false
set_option linter.unusedSimpArgs false

def impl_PhTimes.f (a0_0 : Nat) (a0_1 : Nat) (a1_0 : Nat) (a1_1 : Nat) (Q_ : (Nat × Nat) → Prop) : Prop := ∀ fr176 : Nat, FRk .f64 .mul a0_0 a1_0 fr176 → (∀ fr177 : Nat, FRk .f64 .mul a0_1 a1_1 fr177 → (∀ fr178 : Nat, FRk .f64 .mul a0_0 a1_1 fr178 → (∀ fr179 : Nat, FRk .f64 .mul a0_1 a1_0 fr179 → (∀ fr180 : Nat, FRk .f64 .sub fr176 fr177 fr180 → (∀ fr181 : Nat, FRk .f64 .add fr178 fr179 fr181 → (Q_ (fr180, fr181)))))))
set_option maxHeartbeats 8000000 in
set_option maxRecDepth 100000 in
theorem impl_PhTimes.calls (a0_0 : Nat) (a0_1 : Nat) (a1_0 : Nat) (a1_1 : Nat) (Q_ : (Nat × Nat) → Prop) (w : World) (h : impl_PhTimes.f a0_0 a0_1 a1_0 a1_1 Q_) :
  Calls Try.prog 23 #[.agg #[.float .f64 a0_0, .float .f64 a0_1], .agg #[.float .f64 a1_0, .float .f64 a1_1]] w fun e w' => Dq2 Q_ (fun (r1 : Nat) (r2 : Nat) => e = .returned (.agg #[.float .f64 r1, .float .f64 r2]) ∧ Below w.heap.size w w') := by
 have hu28 := Try.underlying28
 have HB := Aside0.mk (Below.refl w.heap.size w)
 have H : (∀ fr176 : Nat, FRk .f64 .mul a0_0 a1_0 fr176 → (∀ fr177 : Nat, FRk .f64 .mul a0_1 a1_1 fr177 → (∀ fr178 : Nat, FRk .f64 .mul a0_0 a1_1 fr178 → (∀ fr179 : Nat, FRk .f64 .mul a0_1 a1_0 fr179 → (∀ fr180 : Nat, FRk .f64 .sub fr176 fr177 fr180 → (∀ fr181 : Nat, FRk .f64 .add fr178 fr179 fr181 → (Q_ (fr180, fr181)))))))) := h
 clear h
 have HD4 := Aside0.mk H
 clear H
 go_enter Try.func23, Try.ntmps23
 try go_wp2_with (first | ((with_reducible refine gate_dst (N := 2) rfl ?_); refine box_event ?hg (N := 2) ?hd (cs := #[.float .f64 a0_0, .float .f64 a0_1]) (t := 28) ?hr ?_; (case hd => rfl); (case hg => rfl); (case hr => first | (go_simp; done) | (go_simp; rfl)); intro gb173 hg w6 hbox hb; have n0_ := Aside0.mk (below_step (by repeat (first | (with_reducible first | exact HB.out | apply below_alloc | apply pw_below_drewN | apply below_drew1) | exact HB.out)) hb); have n1_ := Aside0.mk (hbox); have n2_ := Aside0.mk ((by rw [hg]; exact (below_size (by repeat (first | (with_reducible first | exact HB.out | apply below_alloc | apply pw_below_drewN | apply below_drew1) | exact HB.out))) : w.heap.size ≤ gb173)); have n3_ := Aside0.mk ((by rw [hg]; exact (below_size (by repeat (first | (with_reducible first | exact HB.out | apply below_alloc | apply pw_below_drewN | apply below_drew1) | exact HB.out))) : w.heap.size ≤ gb173)); clear HB; have HB := n0_; have BK173 := n1_; have GW173 := n2_; have GE173 := n3_; clear n0_ n1_ n2_ n3_; clear hb hbox hg) | ((with_reducible refine gate_dst (N := 3) rfl ?_); refine box_event ?hg (N := 3) ?hd (cs := #[.float .f64 a1_0, .float .f64 a1_1]) (t := 28) ?hr ?_; (case hd => rfl); (case hg => rfl); (case hr => first | (go_simp; done) | (go_simp; rfl)); intro gb174 hg w7 hbox hb; have n0_ := Aside0.mk (blk_below (g := gb173) (o := .cells #[.float .f64 a0_0, .float .f64 a0_1] 28 (0, 0)) (by (with_reducible repeat (first | refine blk_drewN ?_ _ | refine blk_drew ?_ | refine blk_alloc ?_ _)); exact BK173.out) hb); have n1_ := Aside0.mk (below_step (by repeat (first | (with_reducible first | exact HB.out | apply below_alloc | apply pw_below_drewN | apply below_drew1 | refine below_set ?_ GE173.out) | exact HB.out)) hb); have n2_ := Aside0.mk (hbox); have n3_ := Aside0.mk ((by rw [hg]; exact (below_size (by repeat (first | (with_reducible first | exact HB.out | apply below_alloc | apply pw_below_drewN | apply below_drew1 | refine below_set ?_ GE173.out) | exact HB.out))) : w.heap.size ≤ gb174)); have n4_ := Aside0.mk ((by rw [hg]; exact (below_size (by repeat (first | (with_reducible first | exact HB.out | apply below_alloc | apply pw_below_drewN | apply below_drew1 | refine below_set ?_ GE173.out) | exact HB.out))) : w.heap.size ≤ gb174)); have n5_ := Aside0.mk ((by rw [hg]; exact Nat.ne_of_lt (blk_lt (g := gb173) (o := .cells #[.float .f64 a0_0, .float .f64 a0_1] 28 (0, 0)) (by (with_reducible repeat (first | refine blk_drewN ?_ _ | refine blk_drew ?_ | refine blk_alloc ?_ _)); exact BK173.out)) : gb173 ≠ gb174)); have n6_ := Aside0.mk ((by rw [hg]; exact Nat.ne_of_gt (blk_lt (g := gb173) (o := .cells #[.float .f64 a0_0, .float .f64 a0_1] 28 (0, 0)) (by (with_reducible repeat (first | refine blk_drewN ?_ _ | refine blk_drew ?_ | refine blk_alloc ?_ _)); exact BK173.out)) : gb174 ≠ gb173)); clear BK173; clear HB; have BK173 := n0_; have HB := n1_; have BK174 := n2_; have GW174 := n3_; have GE174 := n4_; have NB173_174 := n5_; have NB174_173 := n6_; clear n0_ n1_ n2_ n3_ n4_ n5_ n6_; clear hb hbox hg) | ((with_reducible refine gate_dst (N := 4) rfl ?_); refine box_event ?hg (N := 4) ?hd (cs := #[.float .f64 0, .float .f64 0]) (t := 28) ?hr ?_; (case hd => rfl); (case hg => rfl); (case hr => first | (go_simp; done) | (go_simp; rfl)); intro gb175 hg w8 hbox hb; have n0_ := Aside0.mk (blk_below (g := gb173) (o := .cells #[.float .f64 a0_0, .float .f64 a0_1] 28 (0, 0)) (by (with_reducible repeat (first | refine blk_drewN ?_ _ | refine blk_drew ?_ | refine blk_alloc ?_ _)); exact BK173.out) hb); have n1_ := Aside0.mk (blk_below (g := gb174) (o := .cells #[.float .f64 a1_0, .float .f64 a1_1] 28 (0, 0)) (by (with_reducible repeat (first | refine blk_drewN ?_ _ | refine blk_drew ?_ | refine blk_alloc ?_ _)); exact BK174.out) hb); have n2_ := Aside0.mk (below_step (by repeat (first | (with_reducible first | exact HB.out | apply below_alloc | apply pw_below_drewN | apply below_drew1 | refine below_set ?_ GE173.out | refine below_set ?_ GE174.out) | exact HB.out)) hb); have n3_ := Aside0.mk (hbox); have n4_ := Aside0.mk ((by rw [hg]; exact (below_size (by repeat (first | (with_reducible first | exact HB.out | apply below_alloc | apply pw_below_drewN | apply below_drew1 | refine below_set ?_ GE173.out | refine below_set ?_ GE174.out) | exact HB.out))) : w.heap.size ≤ gb175)); have n5_ := Aside0.mk ((by rw [hg]; exact (below_size (by repeat (first | (with_reducible first | exact HB.out | apply below_alloc | apply pw_below_drewN | apply below_drew1 | refine below_set ?_ GE173.out | refine below_set ?_ GE174.out) | exact HB.out))) : w.heap.size ≤ gb175)); have n6_ := Aside0.mk ((by rw [hg]; exact Nat.ne_of_lt (blk_lt (g := gb173) (o := .cells #[.float .f64 a0_0, .float .f64 a0_1] 28 (0, 0)) (by (with_reducible repeat (first | refine blk_drewN ?_ _ | refine blk_drew ?_ | refine blk_alloc ?_ _)); exact BK173.out)) : gb173 ≠ gb175)); have n7_ := Aside0.mk ((by rw [hg]; exact Nat.ne_of_gt (blk_lt (g := gb173) (o := .cells #[.float .f64 a0_0, .float .f64 a0_1] 28 (0, 0)) (by (with_reducible repeat (first | refine blk_drewN ?_ _ | refine blk_drew ?_ | refine blk_alloc ?_ _)); exact BK173.out)) : gb175 ≠ gb173)); have n8_ := Aside0.mk ((by rw [hg]; exact Nat.ne_of_lt (blk_lt (g := gb174) (o := .cells #[.float .f64 a1_0, .float .f64 a1_1] 28 (0, 0)) (by (with_reducible repeat (first | refine blk_drewN ?_ _ | refine blk_drew ?_ | refine blk_alloc ?_ _)); exact BK174.out)) : gb174 ≠ gb175)); have n9_ := Aside0.mk ((by rw [hg]; exact Nat.ne_of_gt (blk_lt (g := gb174) (o := .cells #[.float .f64 a1_0, .float .f64 a1_1] 28 (0, 0)) (by (with_reducible repeat (first | refine blk_drewN ?_ _ | refine blk_drew ?_ | refine blk_alloc ?_ _)); exact BK174.out)) : gb175 ≠ gb174)); clear BK173; clear BK174; clear HB; have BK173 := n0_; have BK174 := n1_; have HB := n2_; have BK175 := n3_; have GW175 := n4_; have GE175 := n5_; have NB173_175 := n6_; have NB175_173 := n7_; have NB174_175 := n8_; have NB175_174 := n9_; clear n0_ n1_ n2_ n3_ n4_ n5_ n6_ n7_ n8_ n9_; clear hb hbox hg))
 have hnb9 := NB173_174.out
 have hnc9 := NB174_173.out
 have hnb10 := NB173_175.out
 have hnc10 := NB175_173.out
 have hcz11_0 : w8.cell? ⟨gb173, 0, none⟩ = some (.float .f64 a0_0) := (blk_cell BK173.out 0).trans rfl
 have hcz11_1 : w8.cell? ⟨gb173, 1, none⟩ = some (.float .f64 a0_1) := (blk_cell BK173.out 1).trans rfl
 have hfz11_0 := blk_frozen BK173.out 0
 have hfz11_1 := blk_frozen BK173.out 1
 have hnb12 := NB174_175.out
 have hnc12 := NB175_174.out
 have hcz13_0 : w8.cell? ⟨gb174, 0, none⟩ = some (.float .f64 a1_0) := (blk_cell BK174.out 0).trans rfl
 have hcz13_1 : w8.cell? ⟨gb174, 1, none⟩ = some (.float .f64 a1_1) := (blk_cell BK174.out 1).trans rfl
 have hfz13_0 := blk_frozen BK174.out 0
 have hfz13_1 := blk_frozen BK174.out 1
 refine start_ (n := 12) (S := fun w' => w'.heap = w8.heap) (ds := []) #[false, false, false, false, false, false, false, false, false, false, false, false] (by kernel_rfl) rfl rfl rfl (fun hHeld => ?_)
 have HD_ : Below w8.heap.size w8 w8.drew := below_drew1 (Below.refl _ _)
 generalize w8.drew = w14 at HD_ hHeld ⊢
 refine pure_ (i := 0) (N := (some 9)) (v := ?_) (a' := ?_) #[true, false, false, false, false, false, false, false, false, false, false, false] rfl rfl (by kernel_rfl) (fun _ _ _ h => h) (Or.inl ⟨by rfl, ?_⟩) ?_ ?_
 rotate_left
 ·intro w'
  go_simp
  with_reducible rfl
 rotate_left
 ·simp only [Act.put, List.setIfInBounds_toArray, List.set_cons_zero, List.set_cons_succ, i64_w, i32_w]
  rfl
 refine take_ (i := 1) (N := (some 10)) (v := ?_) (a' := ?_) #[true, true, false, false, false, false, false, false, false, false, false, false] rfl rfl (by kernel_rfl) (fun _ _ _ h => h) (Or.inl ⟨by rfl, ?_⟩) hHeld ?_ ?_
 rotate_left
 ·intro w' s0
  have t0_ := (cell_heap s0 _).trans hcz11_0
  have t1_ := (cell_heap s0 _).trans hcz11_1
  have t2_ := (cell_heap s0 _).trans hcz13_0
  have t3_ := (cell_heap s0 _).trans hcz13_1
  go_simp
  with_reducible rfl
 rotate_left
 ·simp only [Act.put, List.setIfInBounds_toArray, List.set_cons_zero, List.set_cons_succ, i64_w, i32_w]
  rfl
 refine pure_ (i := 2) (N := (some 11)) (v := ?_) (a' := ?_) #[true, true, true, false, false, false, false, false, false, false, false, false] rfl rfl (by kernel_rfl) (fun _ _ _ h => h) (Or.inl ⟨by rfl, ?_⟩) ?_ ?_
 rotate_left
 ·intro w'
  go_simp
  with_reducible rfl
 rotate_left
 ·simp only [Act.put, List.setIfInBounds_toArray, List.set_cons_zero, List.set_cons_succ, i64_w, i32_w]
  rfl
 refine take_ (i := 3) (N := (some 12)) (v := ?_) (a' := ?_) #[true, true, true, true, false, false, false, false, false, false, false, false] rfl rfl (by kernel_rfl) (fun _ _ _ h => h) (Or.inl ⟨by rfl, ?_⟩) hHeld ?_ ?_
 rotate_left
 ·intro w' s0
  have t0_ := (cell_heap s0 _).trans hcz11_0
  have t1_ := (cell_heap s0 _).trans hcz11_1
  have t2_ := (cell_heap s0 _).trans hcz13_0
  have t3_ := (cell_heap s0 _).trans hcz13_1
  go_simp
  with_reducible rfl
 rotate_left
 ·simp only [Act.put, List.setIfInBounds_toArray, List.set_cons_zero, List.set_cons_succ, i64_w, i32_w]
  rfl
 refine pure_ (i := 5) (N := (some 14)) (v := ?_) (a' := ?_) #[true, true, true, true, false, true, false, false, false, false, false, false] rfl rfl (by kernel_rfl) (fun _ _ _ h => h) (Or.inl ⟨by rfl, ?_⟩) ?_ ?_
 rotate_left
 ·intro w'
  go_simp
  with_reducible rfl
 rotate_left
 ·simp only [Act.put, List.setIfInBounds_toArray, List.set_cons_zero, List.set_cons_succ, i64_w, i32_w]
  rfl
 refine take_ (i := 6) (N := (some 15)) (v := ?_) (a' := ?_) #[true, true, true, true, false, true, true, false, false, false, false, false] rfl rfl (by kernel_rfl) (fun _ _ _ h => h) (Or.inl ⟨by rfl, ?_⟩) hHeld ?_ ?_
 rotate_left
 ·intro w' s0
  have t0_ := (cell_heap s0 _).trans hcz11_0
  have t1_ := (cell_heap s0 _).trans hcz11_1
  have t2_ := (cell_heap s0 _).trans hcz13_0
  have t3_ := (cell_heap s0 _).trans hcz13_1
  go_simp
  with_reducible rfl
 rotate_left
 ·simp only [Act.put, List.setIfInBounds_toArray, List.set_cons_zero, List.set_cons_succ, i64_w, i32_w]
  rfl
 refine pure_ (i := 7) (N := (some 16)) (v := ?_) (a' := ?_) #[true, true, true, true, false, true, true, true, false, false, false, false] rfl rfl (by kernel_rfl) (fun _ _ _ h => h) (Or.inl ⟨by rfl, ?_⟩) ?_ ?_
 rotate_left
 ·intro w'
  go_simp
  with_reducible rfl
 rotate_left
 ·simp only [Act.put, List.setIfInBounds_toArray, List.set_cons_zero, List.set_cons_succ, i64_w, i32_w]
  rfl
 refine take_ (i := 8) (N := (some 17)) (v := ?_) (a' := ?_) #[true, true, true, true, false, true, true, true, true, false, false, false] rfl rfl (by kernel_rfl) (fun _ _ _ h => h) (Or.inl ⟨by rfl, ?_⟩) hHeld ?_ ?_
 rotate_left
 ·intro w' s0
  have t0_ := (cell_heap s0 _).trans hcz11_0
  have t1_ := (cell_heap s0 _).trans hcz11_1
  have t2_ := (cell_heap s0 _).trans hcz13_0
  have t3_ := (cell_heap s0 _).trans hcz13_1
  go_simp
  with_reducible rfl
 rotate_left
 ·simp only [Act.put, List.setIfInBounds_toArray, List.set_cons_zero, List.set_cons_succ, i64_w, i32_w]
  rfl
 refine join_ (σ := Nat × Nat) 0 #[true, true, true, true, true, true, true, true, true, true, true, true] (fun s_ => [(13, .float .f64 s_.1), (18, .float .f64 s_.2), (5, .float .f64 s_.1), (6, .float .f64 s_.2)]) (fun s_ w' => FRk .f64 .mul a0_0 a1_0 s_.1 ∧ FRk .f64 .mul a0_1 a1_1 s_.2 ∧ w'.heap = w8.heap ∧ Below w8.heap.size w8 w') ?_ ?_
 rotate_left
 ·intro hCont
  refine two_ (i := 4) (j := 9) (Ni := (some 13)) (Nj := (some 18)) #[true, true, true, true, true, true, true, true, true, false, false, false] #[true, true, true, true, false, true, true, true, true, true, false, false] rfl rfl rfl rfl (by kernel_rfl) (by decide) (by decide) (fun K hK => ?_) (fun K hK => ?_)
  ·refine fl_step (k := .f64) (R := FRk .f64 .mul a0_0 a1_0) ?hw (N := 13) ?hd ?hr ?_
   (case hw => rfl)
   (case hd => rfl)
   (case hr => obtain ⟨r_, w_, hc_, hR_, hq_⟩ := frk_run (P := Try.prog) .f64 .mul 26 a0_0 a1_0 _ (by simp); exact ⟨r_, w_, by first | (go_simp; done) | (go_simp; rfl), hR_, hq_⟩)
   intro fr176 wa_ hR4_ hq_
   have hHeld2 := (Quiet1.heap hq_).trans hHeld
   replace HD_ := below_step HD_ (Quiet1.below hq_)
   clear hHeld hq_
   refine hK.out _ _ hHeld2 (fun hHeld => ?_)
   clear hK K hHeld2
   refine norm_ (a' := ?_) ?_ ?_
   rotate_left
   ·show Act.put _ (some 13) _ = _
    simp only [Act.put, List.setIfInBounds_toArray, List.set_cons_zero, List.set_cons_succ, i64_w, i32_w]
    rfl
   refine pure_ (i := 10) (N := (some 5)) (v := ?_) (a' := ?_) #[true, true, true, true, true, true, true, true, true, false, true, false] rfl rfl (by kernel_rfl) (fun _ _ _ h => h) (Or.inl ⟨by rfl, ?_⟩) ?_ ?_
   rotate_left
   ·intro w'
    go_simp
    with_reducible rfl
   rotate_left
   ·simp only [Act.put, List.setIfInBounds_toArray, List.set_cons_zero, List.set_cons_succ, i64_w, i32_w]
    rfl
   refine one_ (i := 9) (N := (some 18)) #[true, true, true, true, true, true, true, true, true, true, true, false] rfl rfl (by kernel_rfl) (by decide) (fun K hK => ?_)
   refine fl_step (k := .f64) (R := FRk .f64 .mul a0_1 a1_1) ?hw (N := 18) ?hd ?hr ?_
   (case hw => rfl)
   (case hd => rfl)
   (case hr => obtain ⟨r_, w_, hc_, hR_, hq_⟩ := frk_run (P := Try.prog) .f64 .mul 26 a0_1 a1_1 _ (by simp); exact ⟨r_, w_, by first | (go_simp; done) | (go_simp; rfl), hR_, hq_⟩)
   intro fr177 wb_ hR9_ hq_
   have hHeld2 := (Quiet1.heap hq_).trans hHeld
   replace HD_ := below_step HD_ (Quiet1.below hq_)
   clear hHeld hq_
   refine hK.out _ _ hHeld2 (fun hHeld => ?_)
   clear hK K hHeld2
   refine norm_ (a' := ?_) ?_ ?_
   rotate_left
   ·show Act.put _ (some 18) _ = _
    simp only [Act.put, List.setIfInBounds_toArray, List.set_cons_zero, List.set_cons_succ, i64_w, i32_w]
    rfl
   refine pure_ (i := 11) (N := (some 6)) (v := ?_) (a' := ?_) #[true, true, true, true, true, true, true, true, true, true, true, true] rfl rfl (by kernel_rfl) (fun _ _ _ h => h) (Or.inl ⟨by rfl, ?_⟩) ?_ ?_
   rotate_left
   ·intro w'
    go_simp
    with_reducible rfl
   rotate_left
   ·simp only [Act.put, List.setIfInBounds_toArray, List.set_cons_zero, List.set_cons_succ, i64_w, i32_w]
    rfl
   exact norm_ (by simp only [putAll, Act.put, List.setIfInBounds_toArray, List.set_cons_zero, List.set_cons_succ]) (hCont (fr176, fr177) _ ⟨hR4_, hR9_, hHeld, HD_⟩)
  ·refine fl_step (k := .f64) (R := FRk .f64 .mul a0_1 a1_1) ?hw (N := 18) ?hd ?hr ?_
   (case hw => rfl)
   (case hd => rfl)
   (case hr => obtain ⟨r_, w_, hc_, hR_, hq_⟩ := frk_run (P := Try.prog) .f64 .mul 26 a0_1 a1_1 _ (by simp); exact ⟨r_, w_, by first | (go_simp; done) | (go_simp; rfl), hR_, hq_⟩)
   intro fr177 wa_ hR9_ hq_
   have hHeld2 := (Quiet1.heap hq_).trans hHeld
   replace HD_ := below_step HD_ (Quiet1.below hq_)
   clear hHeld hq_
   refine hK.out _ _ hHeld2 (fun hHeld => ?_)
   clear hK K hHeld2
   refine norm_ (a' := ?_) ?_ ?_
   rotate_left
   ·show Act.put _ (some 18) _ = _
    simp only [Act.put, List.setIfInBounds_toArray, List.set_cons_zero, List.set_cons_succ, i64_w, i32_w]
    rfl
   refine one_ (i := 4) (N := (some 13)) #[true, true, true, true, true, true, true, true, true, true, false, false] rfl rfl (by kernel_rfl) (by decide) (fun K hK => ?_)
   refine fl_step (k := .f64) (R := FRk .f64 .mul a0_0 a1_0) ?hw (N := 13) ?hd ?hr ?_
   (case hw => rfl)
   (case hd => rfl)
   (case hr => obtain ⟨r_, w_, hc_, hR_, hq_⟩ := frk_run (P := Try.prog) .f64 .mul 26 a0_0 a1_0 _ (by simp); exact ⟨r_, w_, by first | (go_simp; done) | (go_simp; rfl), hR_, hq_⟩)
   intro fr176 wb_ hR4_ hq_
   have hHeld2 := (Quiet1.heap hq_).trans hHeld
   replace HD_ := below_step HD_ (Quiet1.below hq_)
   clear hHeld hq_
   refine hK.out _ _ hHeld2 (fun hHeld => ?_)
   clear hK K hHeld2
   refine norm_ (a' := ?_) ?_ ?_
   rotate_left
   ·show Act.put _ (some 13) _ = _
    simp only [Act.put, List.setIfInBounds_toArray, List.set_cons_zero, List.set_cons_succ, i64_w, i32_w]
    rfl
   refine pure_ (i := 10) (N := (some 5)) (v := ?_) (a' := ?_) #[true, true, true, true, true, true, true, true, true, true, true, false] rfl rfl (by kernel_rfl) (fun _ _ _ h => h) (Or.inl ⟨by rfl, ?_⟩) ?_ ?_
   rotate_left
   ·intro w'
    go_simp
    with_reducible rfl
   rotate_left
   ·simp only [Act.put, List.setIfInBounds_toArray, List.set_cons_zero, List.set_cons_succ, i64_w, i32_w]
    rfl
   refine pure_ (i := 11) (N := (some 6)) (v := ?_) (a' := ?_) #[true, true, true, true, true, true, true, true, true, true, true, true] rfl rfl (by kernel_rfl) (fun _ _ _ h => h) (Or.inl ⟨by rfl, ?_⟩) ?_ ?_
   rotate_left
   ·intro w'
    go_simp
    with_reducible rfl
   rotate_left
   ·simp only [Act.put, List.setIfInBounds_toArray, List.set_cons_zero, List.set_cons_succ, i64_w, i32_w]
    rfl
   exact norm_ (by simp only [putAll, Act.put, List.setIfInBounds_toArray, List.set_cons_zero, List.set_cons_succ]) (hCont (fr176, fr177) _ ⟨hR4_, hR9_, hHeld, HD_⟩)
 rintro ⟨fr176, fr177⟩ w15 ⟨hR4_, hR9_, hHeld, hb⟩
 replace hR4_ : FRk .f64 .mul a0_0 a1_0 fr176 := hR4_
 replace hR9_ : FRk .f64 .mul a0_1 a1_1 fr177 := hR9_
 refine norm_ (a' := ?_) ?_ ?_
 rotate_left
 ·simp only [putAll, Act.put, List.setIfInBounds_toArray, List.set_cons_zero, List.set_cons_succ]
  rfl
 have HD5 := Aside0.mk (HD4.out fr176 hR4_ fr177 hR9_)
 have n0_ := Aside0.mk (blk_below (g := gb173) (o := .cells #[.float .f64 a0_0, .float .f64 a0_1] 28 (0, 0)) (by (with_reducible repeat (first | refine blk_drewN ?_ _ | refine blk_drew ?_ | refine blk_alloc ?_ _)); exact BK173.out) hb)
 have n1_ := Aside0.mk (blk_below (g := gb174) (o := .cells #[.float .f64 a1_0, .float .f64 a1_1] 28 (0, 0)) (by (with_reducible repeat (first | refine blk_drewN ?_ _ | refine blk_drew ?_ | refine blk_alloc ?_ _)); exact BK174.out) hb)
 have n2_ := Aside0.mk (blk_below (g := gb175) (o := .cells #[.float .f64 0, .float .f64 0] 28 (0, 0)) (by (with_reducible repeat (first | refine blk_drewN ?_ _ | refine blk_drew ?_ | refine blk_alloc ?_ _)); exact BK175.out) hb)
 have n3_ := Aside0.mk (below_step (by repeat (first | (with_reducible first | exact HB.out | apply below_alloc | apply pw_below_drewN | apply below_drew1 | refine below_set ?_ GE173.out | refine below_set ?_ GE174.out | refine below_set ?_ GE175.out) | exact HB.out)) hb)
 clear BK173
 clear BK174
 clear BK175
 clear HB
 have BK173 := n0_
 have BK174 := n1_
 have BK175 := n2_
 have HB := n3_
 clear n0_ n1_ n2_ n3_
 clear hb hHeld HD4 hR4_ hR9_ HD_
 refine done_ (by kernel_rfl) ?_
 try go_wp2_with (fail)
 have H : (∀ fr178 : Nat, FRk .f64 .mul a0_0 a1_1 fr178 → (∀ fr179 : Nat, FRk .f64 .mul a0_1 a1_0 fr179 → (∀ fr180 : Nat, FRk .f64 .sub fr176 fr177 fr180 → (∀ fr181 : Nat, FRk .f64 .add fr178 fr179 fr181 → (Q_ (fr180, fr181)))))) := HD5.out
 clear HD5
 have HD17 := Aside0.mk H
 clear H
 try go_wp2
 have hnb21 := NB173_174.out
 have hnc21 := NB174_173.out
 have hnb22 := NB173_175.out
 have hnc22 := NB175_173.out
 have hcz23_0 : w15.cell? ⟨gb173, 0, none⟩ = some (.float .f64 a0_0) := (blk_cell BK173.out 0).trans rfl
 have hcz23_1 : w15.cell? ⟨gb173, 1, none⟩ = some (.float .f64 a0_1) := (blk_cell BK173.out 1).trans rfl
 have hfz23_0 := blk_frozen BK173.out 0
 have hfz23_1 := blk_frozen BK173.out 1
 have hnb24 := NB174_175.out
 have hnc24 := NB175_174.out
 have hcz25_0 : w15.cell? ⟨gb174, 0, none⟩ = some (.float .f64 a1_0) := (blk_cell BK174.out 0).trans rfl
 have hcz25_1 : w15.cell? ⟨gb174, 1, none⟩ = some (.float .f64 a1_1) := (blk_cell BK174.out 1).trans rfl
 have hfz25_0 := blk_frozen BK174.out 0
 have hfz25_1 := blk_frozen BK174.out 1
 refine start_ (n := 12) (S := fun w' => w'.heap = w15.heap) (ds := []) #[false, false, false, false, false, false, false, false, false, false, false, false] (by kernel_rfl) rfl rfl rfl (fun hHeld => ?_)
 have HD_ : Below w15.heap.size w15 w15.drew := below_drew1 (Below.refl _ _)
 generalize w15.drew = w26 at HD_ hHeld ⊢
 refine pure_ (i := 0) (N := (some 19)) (v := ?_) (a' := ?_) #[true, false, false, false, false, false, false, false, false, false, false, false] rfl rfl (by kernel_rfl) (fun _ _ _ h => h) (Or.inl ⟨by rfl, ?_⟩) ?_ ?_
 rotate_left
 ·intro w'
  go_simp
  with_reducible rfl
 rotate_left
 ·simp only [Act.put, List.setIfInBounds_toArray, List.set_cons_zero, List.set_cons_succ, i64_w, i32_w]
  rfl
 refine take_ (i := 1) (N := (some 20)) (v := ?_) (a' := ?_) #[true, true, false, false, false, false, false, false, false, false, false, false] rfl rfl (by kernel_rfl) (fun _ _ _ h => h) (Or.inl ⟨by rfl, ?_⟩) hHeld ?_ ?_
 rotate_left
 ·intro w' s0
  have t0_ := (cell_heap s0 _).trans hcz23_0
  have t1_ := (cell_heap s0 _).trans hcz23_1
  have t2_ := (cell_heap s0 _).trans hcz25_0
  have t3_ := (cell_heap s0 _).trans hcz25_1
  go_simp
  with_reducible rfl
 rotate_left
 ·simp only [Act.put, List.setIfInBounds_toArray, List.set_cons_zero, List.set_cons_succ, i64_w, i32_w]
  rfl
 refine pure_ (i := 2) (N := (some 21)) (v := ?_) (a' := ?_) #[true, true, true, false, false, false, false, false, false, false, false, false] rfl rfl (by kernel_rfl) (fun _ _ _ h => h) (Or.inl ⟨by rfl, ?_⟩) ?_ ?_
 rotate_left
 ·intro w'
  go_simp
  with_reducible rfl
 rotate_left
 ·simp only [Act.put, List.setIfInBounds_toArray, List.set_cons_zero, List.set_cons_succ, i64_w, i32_w]
  rfl
 refine take_ (i := 3) (N := (some 22)) (v := ?_) (a' := ?_) #[true, true, true, true, false, false, false, false, false, false, false, false] rfl rfl (by kernel_rfl) (fun _ _ _ h => h) (Or.inl ⟨by rfl, ?_⟩) hHeld ?_ ?_
 rotate_left
 ·intro w' s0
  have t0_ := (cell_heap s0 _).trans hcz23_0
  have t1_ := (cell_heap s0 _).trans hcz23_1
  have t2_ := (cell_heap s0 _).trans hcz25_0
  have t3_ := (cell_heap s0 _).trans hcz25_1
  go_simp
  with_reducible rfl
 rotate_left
 ·simp only [Act.put, List.setIfInBounds_toArray, List.set_cons_zero, List.set_cons_succ, i64_w, i32_w]
  rfl
 refine pure_ (i := 5) (N := (some 24)) (v := ?_) (a' := ?_) #[true, true, true, true, false, true, false, false, false, false, false, false] rfl rfl (by kernel_rfl) (fun _ _ _ h => h) (Or.inl ⟨by rfl, ?_⟩) ?_ ?_
 rotate_left
 ·intro w'
  go_simp
  with_reducible rfl
 rotate_left
 ·simp only [Act.put, List.setIfInBounds_toArray, List.set_cons_zero, List.set_cons_succ, i64_w, i32_w]
  rfl
 refine take_ (i := 6) (N := (some 25)) (v := ?_) (a' := ?_) #[true, true, true, true, false, true, true, false, false, false, false, false] rfl rfl (by kernel_rfl) (fun _ _ _ h => h) (Or.inl ⟨by rfl, ?_⟩) hHeld ?_ ?_
 rotate_left
 ·intro w' s0
  have t0_ := (cell_heap s0 _).trans hcz23_0
  have t1_ := (cell_heap s0 _).trans hcz23_1
  have t2_ := (cell_heap s0 _).trans hcz25_0
  have t3_ := (cell_heap s0 _).trans hcz25_1
  go_simp
  with_reducible rfl
 rotate_left
 ·simp only [Act.put, List.setIfInBounds_toArray, List.set_cons_zero, List.set_cons_succ, i64_w, i32_w]
  rfl
 refine pure_ (i := 7) (N := (some 26)) (v := ?_) (a' := ?_) #[true, true, true, true, false, true, true, true, false, false, false, false] rfl rfl (by kernel_rfl) (fun _ _ _ h => h) (Or.inl ⟨by rfl, ?_⟩) ?_ ?_
 rotate_left
 ·intro w'
  go_simp
  with_reducible rfl
 rotate_left
 ·simp only [Act.put, List.setIfInBounds_toArray, List.set_cons_zero, List.set_cons_succ, i64_w, i32_w]
  rfl
 refine take_ (i := 8) (N := (some 27)) (v := ?_) (a' := ?_) #[true, true, true, true, false, true, true, true, true, false, false, false] rfl rfl (by kernel_rfl) (fun _ _ _ h => h) (Or.inl ⟨by rfl, ?_⟩) hHeld ?_ ?_
 rotate_left
 ·intro w' s0
  have t0_ := (cell_heap s0 _).trans hcz23_0
  have t1_ := (cell_heap s0 _).trans hcz23_1
  have t2_ := (cell_heap s0 _).trans hcz25_0
  have t3_ := (cell_heap s0 _).trans hcz25_1
  go_simp
  with_reducible rfl
 rotate_left
 ·simp only [Act.put, List.setIfInBounds_toArray, List.set_cons_zero, List.set_cons_succ, i64_w, i32_w]
  rfl
 refine join_ (σ := Nat × Nat) 0 #[true, true, true, true, true, true, true, true, true, true, true, true] (fun s_ => [(23, .float .f64 s_.1), (28, .float .f64 s_.2), (7, .float .f64 s_.1), (8, .float .f64 s_.2)]) (fun s_ w' => FRk .f64 .mul a0_0 a1_1 s_.1 ∧ FRk .f64 .mul a0_1 a1_0 s_.2 ∧ w'.heap = w15.heap ∧ Below w15.heap.size w15 w') ?_ ?_
 rotate_left
 ·intro hCont
  refine two_ (i := 4) (j := 9) (Ni := (some 23)) (Nj := (some 28)) #[true, true, true, true, true, true, true, true, true, false, false, false] #[true, true, true, true, false, true, true, true, true, true, false, false] rfl rfl rfl rfl (by kernel_rfl) (by decide) (by decide) (fun K hK => ?_) (fun K hK => ?_)
  ·refine fl_step (k := .f64) (R := FRk .f64 .mul a0_0 a1_1) ?hw (N := 23) ?hd ?hr ?_
   (case hw => rfl)
   (case hd => rfl)
   (case hr => obtain ⟨r_, w_, hc_, hR_, hq_⟩ := frk_run (P := Try.prog) .f64 .mul 26 a0_0 a1_1 _ (by simp); exact ⟨r_, w_, by first | (go_simp; done) | (go_simp; rfl), hR_, hq_⟩)
   intro fr178 wa_ hR4_ hq_
   have hHeld2 := (Quiet1.heap hq_).trans hHeld
   replace HD_ := below_step HD_ (Quiet1.below hq_)
   clear hHeld hq_
   refine hK.out _ _ hHeld2 (fun hHeld => ?_)
   clear hK K hHeld2
   refine norm_ (a' := ?_) ?_ ?_
   rotate_left
   ·show Act.put _ (some 23) _ = _
    simp only [Act.put, List.setIfInBounds_toArray, List.set_cons_zero, List.set_cons_succ, i64_w, i32_w]
    rfl
   refine pure_ (i := 10) (N := (some 7)) (v := ?_) (a' := ?_) #[true, true, true, true, true, true, true, true, true, false, true, false] rfl rfl (by kernel_rfl) (fun _ _ _ h => h) (Or.inl ⟨by rfl, ?_⟩) ?_ ?_
   rotate_left
   ·intro w'
    go_simp
    with_reducible rfl
   rotate_left
   ·simp only [Act.put, List.setIfInBounds_toArray, List.set_cons_zero, List.set_cons_succ, i64_w, i32_w]
    rfl
   refine one_ (i := 9) (N := (some 28)) #[true, true, true, true, true, true, true, true, true, true, true, false] rfl rfl (by kernel_rfl) (by decide) (fun K hK => ?_)
   refine fl_step (k := .f64) (R := FRk .f64 .mul a0_1 a1_0) ?hw (N := 28) ?hd ?hr ?_
   (case hw => rfl)
   (case hd => rfl)
   (case hr => obtain ⟨r_, w_, hc_, hR_, hq_⟩ := frk_run (P := Try.prog) .f64 .mul 26 a0_1 a1_0 _ (by simp); exact ⟨r_, w_, by first | (go_simp; done) | (go_simp; rfl), hR_, hq_⟩)
   intro fr179 wb_ hR9_ hq_
   have hHeld2 := (Quiet1.heap hq_).trans hHeld
   replace HD_ := below_step HD_ (Quiet1.below hq_)
   clear hHeld hq_
   refine hK.out _ _ hHeld2 (fun hHeld => ?_)
   clear hK K hHeld2
   refine norm_ (a' := ?_) ?_ ?_
   rotate_left
   ·show Act.put _ (some 28) _ = _
    simp only [Act.put, List.setIfInBounds_toArray, List.set_cons_zero, List.set_cons_succ, i64_w, i32_w]
    rfl
   refine pure_ (i := 11) (N := (some 8)) (v := ?_) (a' := ?_) #[true, true, true, true, true, true, true, true, true, true, true, true] rfl rfl (by kernel_rfl) (fun _ _ _ h => h) (Or.inl ⟨by rfl, ?_⟩) ?_ ?_
   rotate_left
   ·intro w'
    go_simp
    with_reducible rfl
   rotate_left
   ·simp only [Act.put, List.setIfInBounds_toArray, List.set_cons_zero, List.set_cons_succ, i64_w, i32_w]
    rfl
   exact norm_ (by simp only [putAll, Act.put, List.setIfInBounds_toArray, List.set_cons_zero, List.set_cons_succ]) (hCont (fr178, fr179) _ ⟨hR4_, hR9_, hHeld, HD_⟩)
  ·refine fl_step (k := .f64) (R := FRk .f64 .mul a0_1 a1_0) ?hw (N := 28) ?hd ?hr ?_
   (case hw => rfl)
   (case hd => rfl)
   (case hr => obtain ⟨r_, w_, hc_, hR_, hq_⟩ := frk_run (P := Try.prog) .f64 .mul 26 a0_1 a1_0 _ (by simp); exact ⟨r_, w_, by first | (go_simp; done) | (go_simp; rfl), hR_, hq_⟩)
   intro fr179 wa_ hR9_ hq_
   have hHeld2 := (Quiet1.heap hq_).trans hHeld
   replace HD_ := below_step HD_ (Quiet1.below hq_)
   clear hHeld hq_
   refine hK.out _ _ hHeld2 (fun hHeld => ?_)
   clear hK K hHeld2
   refine norm_ (a' := ?_) ?_ ?_
   rotate_left
   ·show Act.put _ (some 28) _ = _
    simp only [Act.put, List.setIfInBounds_toArray, List.set_cons_zero, List.set_cons_succ, i64_w, i32_w]
    rfl
   refine one_ (i := 4) (N := (some 23)) #[true, true, true, true, true, true, true, true, true, true, false, false] rfl rfl (by kernel_rfl) (by decide) (fun K hK => ?_)
   refine fl_step (k := .f64) (R := FRk .f64 .mul a0_0 a1_1) ?hw (N := 23) ?hd ?hr ?_
   (case hw => rfl)
   (case hd => rfl)
   (case hr => obtain ⟨r_, w_, hc_, hR_, hq_⟩ := frk_run (P := Try.prog) .f64 .mul 26 a0_0 a1_1 _ (by simp); exact ⟨r_, w_, by first | (go_simp; done) | (go_simp; rfl), hR_, hq_⟩)
   intro fr178 wb_ hR4_ hq_
   have hHeld2 := (Quiet1.heap hq_).trans hHeld
   replace HD_ := below_step HD_ (Quiet1.below hq_)
   clear hHeld hq_
   refine hK.out _ _ hHeld2 (fun hHeld => ?_)
   clear hK K hHeld2
   refine norm_ (a' := ?_) ?_ ?_
   rotate_left
   ·show Act.put _ (some 23) _ = _
    simp only [Act.put, List.setIfInBounds_toArray, List.set_cons_zero, List.set_cons_succ, i64_w, i32_w]
    rfl
   refine pure_ (i := 10) (N := (some 7)) (v := ?_) (a' := ?_) #[true, true, true, true, true, true, true, true, true, true, true, false] rfl rfl (by kernel_rfl) (fun _ _ _ h => h) (Or.inl ⟨by rfl, ?_⟩) ?_ ?_
   rotate_left
   ·intro w'
    go_simp
    with_reducible rfl
   rotate_left
   ·simp only [Act.put, List.setIfInBounds_toArray, List.set_cons_zero, List.set_cons_succ, i64_w, i32_w]
    rfl
   refine pure_ (i := 11) (N := (some 8)) (v := ?_) (a' := ?_) #[true, true, true, true, true, true, true, true, true, true, true, true] rfl rfl (by kernel_rfl) (fun _ _ _ h => h) (Or.inl ⟨by rfl, ?_⟩) ?_ ?_
   rotate_left
   ·intro w'
    go_simp
    with_reducible rfl
   rotate_left
   ·simp only [Act.put, List.setIfInBounds_toArray, List.set_cons_zero, List.set_cons_succ, i64_w, i32_w]
    rfl
   exact norm_ (by simp only [putAll, Act.put, List.setIfInBounds_toArray, List.set_cons_zero, List.set_cons_succ]) (hCont (fr178, fr179) _ ⟨hR4_, hR9_, hHeld, HD_⟩)
 rintro ⟨fr178, fr179⟩ w27 ⟨hR4_, hR9_, hHeld, hb⟩
 replace hR4_ : FRk .f64 .mul a0_0 a1_1 fr178 := hR4_
 replace hR9_ : FRk .f64 .mul a0_1 a1_0 fr179 := hR9_
 refine norm_ (a' := ?_) ?_ ?_
 rotate_left
 ·simp only [putAll, Act.put, List.setIfInBounds_toArray, List.set_cons_zero, List.set_cons_succ]
  rfl
 have HD18 := Aside0.mk (HD17.out fr178 hR4_ fr179 hR9_)
 have n0_ := Aside0.mk (blk_below (g := gb173) (o := .cells #[.float .f64 a0_0, .float .f64 a0_1] 28 (0, 0)) (by (with_reducible repeat (first | refine blk_drewN ?_ _ | refine blk_drew ?_ | refine blk_alloc ?_ _)); exact BK173.out) hb)
 have n1_ := Aside0.mk (blk_below (g := gb174) (o := .cells #[.float .f64 a1_0, .float .f64 a1_1] 28 (0, 0)) (by (with_reducible repeat (first | refine blk_drewN ?_ _ | refine blk_drew ?_ | refine blk_alloc ?_ _)); exact BK174.out) hb)
 have n2_ := Aside0.mk (blk_below (g := gb175) (o := .cells #[.float .f64 0, .float .f64 0] 28 (0, 0)) (by (with_reducible repeat (first | refine blk_drewN ?_ _ | refine blk_drew ?_ | refine blk_alloc ?_ _)); exact BK175.out) hb)
 have n3_ := Aside0.mk (below_step (by repeat (first | (with_reducible first | exact HB.out | apply below_alloc | apply pw_below_drewN | apply below_drew1 | refine below_set ?_ GE173.out | refine below_set ?_ GE174.out | refine below_set ?_ GE175.out) | exact HB.out)) hb)
 clear BK173
 clear BK174
 clear BK175
 clear HB
 have BK173 := n0_
 have BK174 := n1_
 have BK175 := n2_
 have HB := n3_
 clear n0_ n1_ n2_ n3_
 clear hb hHeld HD17 hR4_ hR9_ HD_
 refine done_ (by kernel_rfl) ?_
 try go_wp2_with (first | ((with_reducible refine gate_dst (N := 31) rfl ?_); refine fl_event (k := .f64) (R := FRk .f64 .sub fr176 fr177) ?hg (N := 31) ?hd ?hr ?_; (case hd => rfl); (case hg => rfl); (case hr => obtain ⟨r_, w_, hc_, hR_, hq_⟩ := frk_run (P := Try.prog) .f64 .sub 26 fr176 fr177 _ (by simp); exact ⟨r_, w_, by first | (go_simp; done) | (go_simp; rfl), hR_, hq_⟩); intro fr180 w28 hR_ hb; have HD19 := Aside0.mk (HD18.out fr180 hR_); clear HD18 hR_; have n0_ := Aside0.mk (blk_below (g := gb173) (o := .cells #[.float .f64 a0_0, .float .f64 a0_1] 28 (0, 0)) (by (with_reducible repeat (first | refine blk_drewN ?_ _ | refine blk_drew ?_ | refine blk_alloc ?_ _)); exact BK173.out) hb); have n1_ := Aside0.mk (blk_below (g := gb174) (o := .cells #[.float .f64 a1_0, .float .f64 a1_1] 28 (0, 0)) (by (with_reducible repeat (first | refine blk_drewN ?_ _ | refine blk_drew ?_ | refine blk_alloc ?_ _)); exact BK174.out) hb); have n2_ := Aside0.mk (blk_below (g := gb175) (o := .cells #[.float .f64 0, .float .f64 0] 28 (0, 0)) (by (with_reducible repeat (first | refine blk_drewN ?_ _ | refine blk_drew ?_ | refine blk_alloc ?_ _)); exact BK175.out) hb); have n3_ := Aside0.mk (below_step (by repeat (first | (with_reducible first | exact HB.out | apply below_alloc | apply pw_below_drewN | apply below_drew1 | refine below_set ?_ GE173.out | refine below_set ?_ GE174.out | refine below_set ?_ GE175.out) | exact HB.out)) hb); clear BK173; clear BK174; clear BK175; clear HB; have BK173 := n0_; have BK174 := n1_; have BK175 := n2_; have HB := n3_; clear n0_ n1_ n2_ n3_; (try clear hb)) | ((with_reducible refine gate_dst (N := 34) rfl ?_); refine fl_event (k := .f64) (R := FRk .f64 .add fr178 fr179) ?hg (N := 34) ?hd ?hr ?_; (case hd => rfl); (case hg => rfl); (case hr => obtain ⟨r_, w_, hc_, hR_, hq_⟩ := frk_run (P := Try.prog) .f64 .add 26 fr178 fr179 _ (by simp); exact ⟨r_, w_, by first | (go_simp; done) | (go_simp; rfl), hR_, hq_⟩); intro fr181 w29 hR_ hb; have HD20 := Aside0.mk (HD19.out fr181 hR_); clear HD19 hR_; have n0_ := Aside0.mk (blk_below (g := gb173) (o := .cells #[.float .f64 a0_0, .float .f64 a0_1] 28 (0, 0)) (by (with_reducible repeat (first | refine blk_drewN ?_ _ | refine blk_drew ?_ | refine blk_alloc ?_ _)); exact BK173.out) hb); have n1_ := Aside0.mk (blk_below (g := gb174) (o := .cells #[.float .f64 a1_0, .float .f64 a1_1] 28 (0, 0)) (by (with_reducible repeat (first | refine blk_drewN ?_ _ | refine blk_drew ?_ | refine blk_alloc ?_ _)); exact BK174.out) hb); have n2_ := Aside0.mk (blk_below (g := gb175) (o := .cells #[.float .f64 0, .float .f64 0] 28 (0, 0)) (by (with_reducible repeat (first | refine blk_drewN ?_ _ | refine blk_drew ?_ | refine blk_alloc ?_ _)); exact BK175.out) hb); have n3_ := Aside0.mk (below_step (by repeat (first | (with_reducible first | exact HB.out | apply below_alloc | apply pw_below_drewN | apply below_drew1 | refine below_set ?_ GE173.out | refine below_set ?_ GE174.out | refine below_set ?_ GE175.out) | exact HB.out)) hb); clear BK173; clear BK174; clear BK175; clear HB; have BK173 := n0_; have BK174 := n1_; have BK175 := n2_; have HB := n3_; clear n0_ n1_ n2_ n3_; (try clear hb); have hcz30_0 : w29.cell? ⟨gb175, 0, none⟩ = some (.float .f64 0) := (blk_cell BK175.out 0).trans rfl; have hcz30_1 : w29.cell? ⟨gb175, 1, none⟩ = some (.float .f64 0) := (blk_cell BK175.out 1).trans rfl; have hfz30_0 := blk_frozen BK175.out 0; have hfz30_1 := blk_frozen BK175.out 1))
 refine bodyPost_ret (results_cell_row rfl _ _ gb175 28 #[.float .f64 fr180, .float .f64 fr181] (0, 0) _ rfl (by (with_reducible repeat (first | refine blk_drewN ?_ _ | refine blk_drew ?_ | refine blk_alloc ?_ _)); refine blk_put (cs := #[.float .f64 fr180, .float .f64 0]) ?_ 1 _ rfl; (with_reducible repeat (first | refine blk_drewN ?_ _ | refine blk_drew ?_ | refine blk_alloc ?_ _)); refine blk_put (cs := #[.float .f64 0, .float .f64 0]) ?_ 0 _ rfl; (with_reducible repeat (first | refine blk_drewN ?_ _ | refine blk_drew ?_ | refine blk_alloc ?_ _)); exact BK175.out) Try.underlying28 rfl (by kernel_rfl)) rfl ?_
 exact Dq2.mk HD20.out ⟨by first | rfl | (simp [errW_none, errW_some] <;> rfl) | (simp [*, errW_none, errW_some] <;> rfl), by repeat (first | (with_reducible first | exact HB.out | apply below_alloc | apply pw_below_drewN | apply below_drew1 | refine below_set ?_ GE173.out | refine below_set ?_ GE174.out | refine below_set ?_ GE175.out) | exact HB.out)⟩

-- NOT PRINTED: function 73 (math_Float64frombits)

-- NOT PRINTED: function 74 (math_Float64bits)

def math_Abs.f (a0 : Nat) : Option (Nat) := some (Go.bits .andNot .u64 (a0 : Int) 9223372036854775808).toNat
set_option maxHeartbeats 8000000 in
set_option maxRecDepth 100000 in
theorem math_Abs.calls (a0 : Nat) (r : Nat) (w : World) (h : math_Abs.f a0 = some r) :
  Calls Try.prog 69 #[.float .f64 a0] w fun e w' => e = .returned (.float .f64 r) ∧ Drawn0 w w' := by
 obtain rfl := Option.some.inj h
 have hb : ∀ (x : Nat) (W : World), (callFunc 74 #[.float .f64 x]).run Try.prog W = .ok (.value (.int .u64 x)) W := fun x W => by
  rw [run_callFunc_extern (e := Go.Extern.MathFloatBits.float64bits) Try.func74 (by kernel_rfl) (by kernel_rfl) (by kernel_rfl) (by kernel_rfl)]
  rfl
 have hf : ∀ (x : Int) (W : World), (callFunc 73 #[.int .u64 x]).run Try.prog W = .ok (.value (.float .f64 x.toNat)) W := fun x W => by
  rw [run_callFunc_extern (e := Go.Extern.MathFloatBits.float64frombits) Try.func73 (by kernel_rfl) (by kernel_rfl) (by kernel_rfl) (by kernel_rfl)]
  rfl
 go_enter Try.func69, Try.ntmps69
 go_wp2
 go_ret
 exact ⟨rfl, Drawn0.refl _⟩

def math_IsInf.f (a0 : Nat) (a1 : Int) : Option (Bool) := if a1 = 0 then ((math_Abs.f a0).bind fun t182 => (some (FloatKind.f64.format.order t182 9218868437227405311 == some .gt))) else (if a1 < 0 then (some (FloatKind.f64.format.order (Go.Op.negFloat .f64 a0) 9218868437227405311 == some .gt)) else (some (FloatKind.f64.format.order a0 9218868437227405311 == some .gt)))
set_option maxHeartbeats 8000000 in
set_option maxRecDepth 100000 in
theorem math_IsInf.calls (a0 : Nat) (a1 : Int) (r : Bool) (w : World) (h : math_IsInf.f a0 a1 = some r) :
  Calls Try.prog 55 #[.float .f64 a0, .int .i64 a1] w fun e w' => e = .returned (.bool r) ∧ Drawn0 w w' := by
 have hng_ : ∀ (k_ : FloatKind) (x_ : Nat) (W_ : World), (Op.unary .neg (.float k_ x_)).run Try.prog W_ = .ok (.float k_ (Go.Op.negFloat k_ x_)) W_ := fun _ _ _ => rfl
 have H : (if a1 = 0 then ((math_Abs.f a0).bind fun t182 => (some (FloatKind.f64.format.order t182 9218868437227405311 == some .gt))) else (if a1 < 0 then (some (FloatKind.f64.format.order (Go.Op.negFloat .f64 a0) 9218868437227405311 == some .gt)) else (some (FloatKind.f64.format.order a0 9218868437227405311 == some .gt)))) = some r := h
 clear h
 by_cases c3 : a1 = 0
 ·rw [if_pos c3] at H
  have c3b0 : (a1 == 0) = true := beq_iff_eq.mpr c3
  have c3b1 : (a1 != 0) = false := bne_eq_false_iff_eq.mpr c3
  clear c3
  replace H := Option.bind_eq_some_iff.mp H
  obtain ⟨t182, A40, H⟩ := H
  replace H : (some (FloatKind.f64.format.order t182 9218868437227405311 == some .gt)) = some r := H
  have A4 := Aside0.mk A40
  clear A40
  obtain rfl := Option.some.inj H
  go_enter Try.func55, Try.ntmps55
  go_wp2_with (first | ((with_reducible refine gate_callee (f := 69) rfl ?_); refine goesL_ (some 8) rfl rfl Try.func69 (by kernel_rfl) rfl #[.float .f64 a0] rfl (by (try simp only [List.map_toArray, List.map_cons, List.map_nil]); first | done | rfl | (simp only [List.length_drop, List.length_take]; rfl)) ?_; (with_reducible refine (math_Abs.calls a0 t182 _ A4.out).mono ?_); rintro e w' ⟨rfl, ⟨nd, rfl⟩⟩; refine ⟨_, rfl, ?_⟩))
  go_ret
  exact ⟨by first | rfl | (simp; done) | (simp [*]; done), by repeat (first | exact Drawn0.refl _ | apply Drawn0.step)⟩
 ·rw [if_neg c3] at H
  have c3b0 : (a1 == 0) = false := beq_eq_false_iff_ne.mpr c3
  have c3b1 : (a1 != 0) = true := bne_iff_ne.mpr c3
  by_cases c5 : a1 < 0
  ·rw [if_pos c5] at H
   have c5b0 : decide (a1 < 0) = true := decide_eq_true c5
   clear c5
   obtain rfl := Option.some.inj H
   go_enter Try.func55, Try.ntmps55
   go_wp2
   go_ret
   exact ⟨by first | rfl | (simp; done) | (simp [*]; done), by repeat (first | exact Drawn0.refl _ | apply Drawn0.step)⟩
  ·rw [if_neg c5] at H
   have c5b0 : decide (a1 < 0) = false := decide_eq_false c5
   clear c5
   obtain rfl := Option.some.inj H
   go_enter Try.func55, Try.ntmps55
   go_wp2
   go_ret
   exact ⟨by first | rfl | (simp; done) | (simp [*]; done), by repeat (first | exact Drawn0.refl _ | apply Drawn0.step)⟩

def math_IsNaN.f (a0 : Nat) : Option (Bool) := some (FloatKind.f64.format.order a0 a0 != some .eq)
set_option maxHeartbeats 8000000 in
set_option maxRecDepth 100000 in
theorem math_IsNaN.calls (a0 : Nat) (r : Bool) (w : World) (h : math_IsNaN.f a0 = some r) :
  Calls Try.prog 68 #[.float .f64 a0] w fun e w' => e = .returned (.bool r) ∧ Drawn0 w w' := by
 have H : (some (FloatKind.f64.format.order a0 a0 != some .eq)) = some r := h
 clear h
 obtain rfl := Option.some.inj H
 go_enter Try.func68, Try.ntmps68
 go_wp2
 go_ret
 exact ⟨by first | rfl | (simp; done) | (simp [*]; done), by repeat (first | exact Drawn0.refl _ | apply Drawn0.step)⟩

def impl_isFinite.f (a0_0 : Nat) (a0_1 : Nat) : Option (Bool) := (math_IsNaN.f a0_0).bind fun t184 => (if t184 = true then (some false) else ((math_IsInf.f a0_0 0).bind fun t185 => (if t185 = true then (some false) else ((math_IsNaN.f a0_1).bind fun t186 => (if t186 = true then (some false) else ((math_IsInf.f a0_1 0).bind fun t187 => (some (!t187))))))))
set_option maxHeartbeats 8000000 in
set_option maxRecDepth 100000 in
theorem impl_isFinite.calls (a0_0 : Nat) (a0_1 : Nat) (r : Bool) (w : World) (h : impl_isFinite.f a0_0 a0_1 = some r) :
  Calls Try.prog 54 #[.agg #[.float .f64 a0_0, .float .f64 a0_1]] w fun e w' => e = .returned (.bool r) ∧ Below w.heap.size w w' := by
 have hu28 := Try.underlying28
 have HB := Aside0.mk (Below.refl w.heap.size w)
 have H : ((math_IsNaN.f a0_0).bind fun t184 => (if t184 = true then (some false) else ((math_IsInf.f a0_0 0).bind fun t185 => (if t185 = true then (some false) else ((math_IsNaN.f a0_1).bind fun t186 => (if t186 = true then (some false) else ((math_IsInf.f a0_1 0).bind fun t187 => (some (!t187))))))))) = some r := h
 clear h
 replace H := Option.bind_eq_some_iff.mp H
 obtain ⟨t184, A20, H⟩ := H
 replace H : (if t184 = true then (some false) else ((math_IsInf.f a0_0 0).bind fun t185 => (if t185 = true then (some false) else ((math_IsNaN.f a0_1).bind fun t186 => (if t186 = true then (some false) else ((math_IsInf.f a0_1 0).bind fun t187 => (some (!t187)))))))) = some r := H
 have A2 := Aside0.mk A20
 clear A20
 by_cases c3 : t184 = true
 ·subst c3
  have H1 : (some false) = some r := by rw [if_pos rfl] at H; exact H
  clear H
  have H := H1
  clear H1
  obtain rfl := Option.some.inj H
  go_enter Try.func54, Try.ntmps54
  go_wp2_with (first | ((with_reducible refine gate_dst (N := 1) rfl ?_); refine box_event ?hg (N := 1) ?hd (cs := #[.float .f64 a0_0, .float .f64 a0_1]) (t := 28) ?hr ?_; (case hd => rfl); (case hg => rfl); (case hr => first | (go_simp; done) | (go_simp; rfl)); intro gb183 hg w4 hbox hb; have n0_ := Aside0.mk (below_step (by repeat (first | (with_reducible first | exact HB.out | apply below_alloc | apply pw_below_drewN | apply below_drew1) | exact HB.out)) hb); have n1_ := Aside0.mk (hbox); have n2_ := Aside0.mk ((by rw [hg]; exact (below_size (by repeat (first | (with_reducible first | exact HB.out | apply below_alloc | apply pw_below_drewN | apply below_drew1) | exact HB.out))) : w.heap.size ≤ gb183)); have n3_ := Aside0.mk ((by rw [hg]; exact (below_size (by repeat (first | (with_reducible first | exact HB.out | apply below_alloc | apply pw_below_drewN | apply below_drew1) | exact HB.out))) : w.heap.size ≤ gb183)); clear HB; have HB := n0_; have BK183 := n1_; have GW183 := n2_; have GE183 := n3_; clear n0_ n1_ n2_ n3_; clear hb hbox hg; have hcz5_0 : w4.cell? ⟨gb183, 0, none⟩ = some (.float .f64 a0_0) := (blk_cell BK183.out 0).trans rfl; have hcz5_1 : w4.cell? ⟨gb183, 1, none⟩ = some (.float .f64 a0_1) := (blk_cell BK183.out 1).trans rfl; have hfz5_0 := blk_frozen BK183.out 0; have hfz5_1 := blk_frozen BK183.out 1) | ((with_reducible refine gate_callee (f := 68) rfl ?_); refine goesL_ (some 5) rfl rfl Try.func68 (by kernel_rfl) rfl #[.float .f64 a0_0] rfl (by (try simp only [List.map_toArray, List.map_cons, List.map_nil]); first | done | rfl | (simp only [List.length_drop, List.length_take]; rfl)) ?_; (with_reducible refine (math_IsNaN.calls a0_0 true _ A2.out).mono ?_); rintro e w' ⟨rfl, ⟨nd, rfl⟩⟩; refine ⟨_, rfl, ?_⟩))
  go_ret
  exact ⟨by first | rfl | (simp [errW_none, errW_some] <;> rfl) | (simp [*, errW_none, errW_some] <;> rfl), by repeat (first | (with_reducible first | exact HB.out | apply below_alloc | apply pw_below_drewN | apply below_drew1 | refine below_set ?_ GE183.out) | exact HB.out)⟩
 ·replace c3 := Bool.eq_false_iff.mpr c3
  subst c3
  have H1 : ((math_IsInf.f a0_0 0).bind fun t185 => (if t185 = true then (some false) else ((math_IsNaN.f a0_1).bind fun t186 => (if t186 = true then (some false) else ((math_IsInf.f a0_1 0).bind fun t187 => (some (!t187))))))) = some r := by rw [if_neg (show ¬ (false = true) by decide)] at H; exact H
  clear H
  have H := H1
  clear H1
  replace H := Option.bind_eq_some_iff.mp H
  obtain ⟨t185, A60, H⟩ := H
  replace H : (if t185 = true then (some false) else ((math_IsNaN.f a0_1).bind fun t186 => (if t186 = true then (some false) else ((math_IsInf.f a0_1 0).bind fun t187 => (some (!t187)))))) = some r := H
  have A6 := Aside0.mk A60
  clear A60
  by_cases c7 : t185 = true
  ·subst c7
   have H1 : (some false) = some r := by rw [if_pos rfl] at H; exact H
   clear H
   have H := H1
   clear H1
   obtain rfl := Option.some.inj H
   go_enter Try.func54, Try.ntmps54
   go_wp2_with (first | ((with_reducible refine gate_dst (N := 1) rfl ?_); refine box_event ?hg (N := 1) ?hd (cs := #[.float .f64 a0_0, .float .f64 a0_1]) (t := 28) ?hr ?_; (case hd => rfl); (case hg => rfl); (case hr => first | (go_simp; done) | (go_simp; rfl)); intro gb183 hg w8 hbox hb; have n0_ := Aside0.mk (below_step (by repeat (first | (with_reducible first | exact HB.out | apply below_alloc | apply pw_below_drewN | apply below_drew1) | exact HB.out)) hb); have n1_ := Aside0.mk (hbox); have n2_ := Aside0.mk ((by rw [hg]; exact (below_size (by repeat (first | (with_reducible first | exact HB.out | apply below_alloc | apply pw_below_drewN | apply below_drew1) | exact HB.out))) : w.heap.size ≤ gb183)); have n3_ := Aside0.mk ((by rw [hg]; exact (below_size (by repeat (first | (with_reducible first | exact HB.out | apply below_alloc | apply pw_below_drewN | apply below_drew1) | exact HB.out))) : w.heap.size ≤ gb183)); clear HB; have HB := n0_; have BK183 := n1_; have GW183 := n2_; have GE183 := n3_; clear n0_ n1_ n2_ n3_; clear hb hbox hg; have hcz9_0 : w8.cell? ⟨gb183, 0, none⟩ = some (.float .f64 a0_0) := (blk_cell BK183.out 0).trans rfl; have hcz9_1 : w8.cell? ⟨gb183, 1, none⟩ = some (.float .f64 a0_1) := (blk_cell BK183.out 1).trans rfl; have hfz9_0 := blk_frozen BK183.out 0; have hfz9_1 := blk_frozen BK183.out 1) | ((with_reducible refine gate_callee (f := 68) rfl ?_); refine goesL_ (some 5) rfl rfl Try.func68 (by kernel_rfl) rfl #[.float .f64 a0_0] rfl (by (try simp only [List.map_toArray, List.map_cons, List.map_nil]); first | done | rfl | (simp only [List.length_drop, List.length_take]; rfl)) ?_; (with_reducible refine (math_IsNaN.calls a0_0 false _ A2.out).mono ?_); rintro e w' ⟨rfl, ⟨nd, rfl⟩⟩; refine ⟨_, rfl, ?_⟩) | (go_at_call 55; (with_reducible refine (math_IsInf.calls a0_0 0 true _ A6.out).mono ?_); rintro e w' ⟨rfl, ⟨nd, rfl⟩⟩))
   go_ret
   exact ⟨by first | rfl | (simp [errW_none, errW_some] <;> rfl) | (simp [*, errW_none, errW_some] <;> rfl), by repeat (first | (with_reducible first | exact HB.out | apply below_alloc | apply pw_below_drewN | apply below_drew1 | refine below_set ?_ GE183.out) | exact HB.out)⟩
  ·replace c7 := Bool.eq_false_iff.mpr c7
   subst c7
   have H1 : ((math_IsNaN.f a0_1).bind fun t186 => (if t186 = true then (some false) else ((math_IsInf.f a0_1 0).bind fun t187 => (some (!t187))))) = some r := by rw [if_neg (show ¬ (false = true) by decide)] at H; exact H
   clear H
   have H := H1
   clear H1
   replace H := Option.bind_eq_some_iff.mp H
   obtain ⟨t186, A100, H⟩ := H
   replace H : (if t186 = true then (some false) else ((math_IsInf.f a0_1 0).bind fun t187 => (some (!t187)))) = some r := H
   have A10 := Aside0.mk A100
   clear A100
   by_cases c11 : t186 = true
   ·subst c11
    have H1 : (some false) = some r := by rw [if_pos rfl] at H; exact H
    clear H
    have H := H1
    clear H1
    obtain rfl := Option.some.inj H
    go_enter Try.func54, Try.ntmps54
    go_wp2_with (first | ((with_reducible refine gate_dst (N := 1) rfl ?_); refine box_event ?hg (N := 1) ?hd (cs := #[.float .f64 a0_0, .float .f64 a0_1]) (t := 28) ?hr ?_; (case hd => rfl); (case hg => rfl); (case hr => first | (go_simp; done) | (go_simp; rfl)); intro gb183 hg w12 hbox hb; have n0_ := Aside0.mk (below_step (by repeat (first | (with_reducible first | exact HB.out | apply below_alloc | apply pw_below_drewN | apply below_drew1) | exact HB.out)) hb); have n1_ := Aside0.mk (hbox); have n2_ := Aside0.mk ((by rw [hg]; exact (below_size (by repeat (first | (with_reducible first | exact HB.out | apply below_alloc | apply pw_below_drewN | apply below_drew1) | exact HB.out))) : w.heap.size ≤ gb183)); have n3_ := Aside0.mk ((by rw [hg]; exact (below_size (by repeat (first | (with_reducible first | exact HB.out | apply below_alloc | apply pw_below_drewN | apply below_drew1) | exact HB.out))) : w.heap.size ≤ gb183)); clear HB; have HB := n0_; have BK183 := n1_; have GW183 := n2_; have GE183 := n3_; clear n0_ n1_ n2_ n3_; clear hb hbox hg; have hcz13_0 : w12.cell? ⟨gb183, 0, none⟩ = some (.float .f64 a0_0) := (blk_cell BK183.out 0).trans rfl; have hcz13_1 : w12.cell? ⟨gb183, 1, none⟩ = some (.float .f64 a0_1) := (blk_cell BK183.out 1).trans rfl; have hfz13_0 := blk_frozen BK183.out 0; have hfz13_1 := blk_frozen BK183.out 1) | ((with_reducible refine gate_callee (f := 68) rfl ?_); refine goesL_ (some 5) rfl rfl Try.func68 (by kernel_rfl) rfl #[.float .f64 a0_0] rfl (by (try simp only [List.map_toArray, List.map_cons, List.map_nil]); first | done | rfl | (simp only [List.length_drop, List.length_take]; rfl)) ?_; (with_reducible refine (math_IsNaN.calls a0_0 false _ A2.out).mono ?_); rintro e w' ⟨rfl, ⟨nd, rfl⟩⟩; refine ⟨_, rfl, ?_⟩) | (go_at_call 55; (with_reducible refine (math_IsInf.calls a0_0 0 false _ A6.out).mono ?_); rintro e w' ⟨rfl, ⟨nd, rfl⟩⟩) | (go_at_call 68; (with_reducible refine (math_IsNaN.calls a0_1 true _ A10.out).mono ?_); rintro e w' ⟨rfl, ⟨nd, rfl⟩⟩))
    go_ret
    exact ⟨by first | rfl | (simp [errW_none, errW_some] <;> rfl) | (simp [*, errW_none, errW_some] <;> rfl), by repeat (first | (with_reducible first | exact HB.out | apply below_alloc | apply pw_below_drewN | apply below_drew1 | refine below_set ?_ GE183.out) | exact HB.out)⟩
   ·replace c11 := Bool.eq_false_iff.mpr c11
    subst c11
    have H1 : ((math_IsInf.f a0_1 0).bind fun t187 => (some (!t187))) = some r := by rw [if_neg (show ¬ (false = true) by decide)] at H; exact H
    clear H
    have H := H1
    clear H1
    replace H := Option.bind_eq_some_iff.mp H
    obtain ⟨t187, A140, H⟩ := H
    replace H : (some (!t187)) = some r := H
    have A14 := Aside0.mk A140
    clear A140
    obtain rfl := Option.some.inj H
    go_enter Try.func54, Try.ntmps54
    go_wp2_with (first | ((with_reducible refine gate_dst (N := 1) rfl ?_); refine box_event ?hg (N := 1) ?hd (cs := #[.float .f64 a0_0, .float .f64 a0_1]) (t := 28) ?hr ?_; (case hd => rfl); (case hg => rfl); (case hr => first | (go_simp; done) | (go_simp; rfl)); intro gb183 hg w15 hbox hb; have n0_ := Aside0.mk (below_step (by repeat (first | (with_reducible first | exact HB.out | apply below_alloc | apply pw_below_drewN | apply below_drew1) | exact HB.out)) hb); have n1_ := Aside0.mk (hbox); have n2_ := Aside0.mk ((by rw [hg]; exact (below_size (by repeat (first | (with_reducible first | exact HB.out | apply below_alloc | apply pw_below_drewN | apply below_drew1) | exact HB.out))) : w.heap.size ≤ gb183)); have n3_ := Aside0.mk ((by rw [hg]; exact (below_size (by repeat (first | (with_reducible first | exact HB.out | apply below_alloc | apply pw_below_drewN | apply below_drew1) | exact HB.out))) : w.heap.size ≤ gb183)); clear HB; have HB := n0_; have BK183 := n1_; have GW183 := n2_; have GE183 := n3_; clear n0_ n1_ n2_ n3_; clear hb hbox hg; have hcz16_0 : w15.cell? ⟨gb183, 0, none⟩ = some (.float .f64 a0_0) := (blk_cell BK183.out 0).trans rfl; have hcz16_1 : w15.cell? ⟨gb183, 1, none⟩ = some (.float .f64 a0_1) := (blk_cell BK183.out 1).trans rfl; have hfz16_0 := blk_frozen BK183.out 0; have hfz16_1 := blk_frozen BK183.out 1) | ((with_reducible refine gate_callee (f := 68) rfl ?_); refine goesL_ (some 5) rfl rfl Try.func68 (by kernel_rfl) rfl #[.float .f64 a0_0] rfl (by (try simp only [List.map_toArray, List.map_cons, List.map_nil]); first | done | rfl | (simp only [List.length_drop, List.length_take]; rfl)) ?_; (with_reducible refine (math_IsNaN.calls a0_0 false _ A2.out).mono ?_); rintro e w' ⟨rfl, ⟨nd, rfl⟩⟩; refine ⟨_, rfl, ?_⟩) | (go_at_call 55; (with_reducible refine (math_IsInf.calls a0_0 0 false _ A6.out).mono ?_); rintro e w' ⟨rfl, ⟨nd, rfl⟩⟩) | (go_at_call 68; (with_reducible refine (math_IsNaN.calls a0_1 false _ A10.out).mono ?_); rintro e w' ⟨rfl, ⟨nd, rfl⟩⟩) | (go_at_call 55; (with_reducible refine (math_IsInf.calls a0_1 0 t187 _ A14.out).mono ?_); rintro e w' ⟨rfl, ⟨nd, rfl⟩⟩))
    go_ret
    exact ⟨by first | rfl | (simp [errW_none, errW_some] <;> rfl) | (simp [*, errW_none, errW_some] <;> rfl), by repeat (first | (with_reducible first | exact HB.out | apply below_alloc | apply pw_below_drewN | apply below_drew1 | refine below_set ?_ GE183.out) | exact HB.out)⟩


end Go.Proofs.Ythjlapmjpjpgeaa.D
