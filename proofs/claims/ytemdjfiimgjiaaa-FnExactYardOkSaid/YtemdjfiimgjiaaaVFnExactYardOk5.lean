/- What the Go functions that the law FnExactYardOk reaches compute, as plain Lean functions, and that their calls come to just that. Conditions: those that each theorem states. Written by the session's program. -/
import Derived.Test.YtemdjfiimgjiaaaVFnExactYardOkB
import Derived.Test.YtemdjfiimgjiaaaVFnExactYardOk4
namespace Go.Proofs.Ytemdjfiimgjiaaa.M
open Go.RowKit Go.Proofs.YtemdjfiimgjiaaaW.PrintWords Go.Proofs.YtemdjfiimgjiaaaW.PrintLast Go.Proofs.YtemdjfiimgjiaaaW.PrintMore
attribute [local go_sem] max2_int min2_int max_two min_two max_three min_three max_four min_four   -- for this text's walks alone
set_option linter.unusedVariables false
set_option linter.unusedSimpArgs false

def laws_FnExactYardOk.f (k : Nat) (l0_0 : List (S114)) (l0_1 : List Int) (l0_2 : List Int) (l0_3 : List (S109)) (a0_4 : Int) : Option (Bool) := (laws_szYard.f l0_0 l0_1 l0_2 l0_3 a0_4 1048576).bind fun t1050 => (if t1050 < 0 then (some true) else ((laws_toYard.f k l0_0 l0_1 l0_2 l0_3 a0_4).bind fun bt1051 => ((spec_YardOk.f k bt1051.1 bt1051.2.1 bt1051.2.2.1 bt1051.2.2.2.1 bt1051.2.2.2.2).bind fun t1064 => ((laws_toYard.f k l0_0 l0_1 l0_2 l0_3 a0_4).bind fun bt1065 => ((impl_YardOk.f k bt1065.1 bt1065.2.1 bt1065.2.2.1 bt1065.2.2.2.1 bt1065.2.2.2.2).bind fun t1079 => (if (t1079 != t1064) = true then (some false) else ((laws_toYard.f k l0_0 l0_1 l0_2 l0_3 a0_4).bind fun bt1080 => ((laws_eqYard.f k bt1065.1 bt1065.2.1 bt1065.2.2.1 bt1065.2.2.2.1 bt1065.2.2.2.2 bt1080.1 bt1080.2.1 bt1080.2.2.1 bt1080.2.2.2.1 bt1080.2.2.2.2).bind fun t1093 => (if t1093 = true then (some true) else (some false))))))))))
set_option maxHeartbeats 8000000 in
set_option maxRecDepth 100000 in
theorem laws_FnExactYardOk.calls (k : Nat) (A0_0 : Option Addr) (c0_0 : Nat) (l0_0 : List (S114)) (A0_1 : Option Addr) (c0_1 : Nat) (l0_1 : List Int) (A0_2 : Option Addr) (c0_2 : Nat) (l0_2 : List Int) (A0_3 : Option Addr) (c0_3 : Nat) (l0_3 : List (S109)) (a0_4 : Int) (w : World) (hr0_0 : Kd.C k114 w A0_0 l0_0.length l0_0) (hc0_0 : l0_0.length ≤ c0_0) (hr0_1 : Kd.C (Kd.int .i64) w A0_1 l0_1.length l0_1) (hc0_1 : l0_1.length ≤ c0_1) (hr0_2 : Kd.C (Kd.int .i64) w A0_2 l0_2.length l0_2) (hc0_2 : l0_2.length ≤ c0_2) (hr0_3 : Kd.C k109 w A0_3 l0_3.length l0_3) (hc0_3 : l0_3.length ≤ c0_3) (h : laws_FnExactYardOk.f k l0_0 l0_1 l0_2 l0_3 a0_4 = some true) :
  Calls Try.prog 6 #[.agg #[.slice A0_0 l0_0.length c0_0, .slice A0_1 l0_1.length c0_1, .slice A0_2 l0_2.length c0_2, .slice A0_3 l0_3.length c0_3, .int .i64 a0_4]] w fun e w' => e = .returned (.bool true) ∧ Below w.heap.size w w' := by
 have hu56 := Try.underlying56
 have hu30 := Try.underlying30
 have HR0_0 := Aside0.mk hr0_0
 have HC0_0 := Aside0.mk hc0_0
 clear hr0_0 hc0_0
 have HR0_1 := Aside0.mk hr0_1
 have HC0_1 := Aside0.mk hc0_1
 clear hr0_1 hc0_1
 have HR0_2 := Aside0.mk hr0_2
 have HC0_2 := Aside0.mk hc0_2
 clear hr0_2 hc0_2
 have HR0_3 := Aside0.mk hr0_3
 have HC0_3 := Aside0.mk hc0_3
 clear hr0_3 hc0_3
 have HB := Aside0.mk (Below.refl w.heap.size w)
 have H : ((laws_szYard.f l0_0 l0_1 l0_2 l0_3 a0_4 1048576).bind fun t1050 => (if t1050 < 0 then (some true) else ((laws_toYard.f k l0_0 l0_1 l0_2 l0_3 a0_4).bind fun bt1051 => ((spec_YardOk.f k bt1051.1 bt1051.2.1 bt1051.2.2.1 bt1051.2.2.2.1 bt1051.2.2.2.2).bind fun t1064 => ((laws_toYard.f k l0_0 l0_1 l0_2 l0_3 a0_4).bind fun bt1065 => ((impl_YardOk.f k bt1065.1 bt1065.2.1 bt1065.2.2.1 bt1065.2.2.2.1 bt1065.2.2.2.2).bind fun t1079 => (if (t1079 != t1064) = true then (some false) else ((laws_toYard.f k l0_0 l0_1 l0_2 l0_3 a0_4).bind fun bt1080 => ((laws_eqYard.f k bt1065.1 bt1065.2.1 bt1065.2.2.1 bt1065.2.2.2.1 bt1065.2.2.2.2 bt1080.1 bt1080.2.1 bt1080.2.2.1 bt1080.2.2.2.1 bt1080.2.2.2.2).bind fun t1093 => (if t1093 = true then (some true) else (some false))))))))))) = some true := h
 clear h
 replace H := Option.bind_eq_some_iff.mp H
 obtain ⟨t1050, A20, H⟩ := H
 replace H : (if t1050 < 0 then (some true) else ((laws_toYard.f k l0_0 l0_1 l0_2 l0_3 a0_4).bind fun bt1051 => ((spec_YardOk.f k bt1051.1 bt1051.2.1 bt1051.2.2.1 bt1051.2.2.2.1 bt1051.2.2.2.2).bind fun t1064 => ((laws_toYard.f k l0_0 l0_1 l0_2 l0_3 a0_4).bind fun bt1065 => ((impl_YardOk.f k bt1065.1 bt1065.2.1 bt1065.2.2.1 bt1065.2.2.2.1 bt1065.2.2.2.2).bind fun t1079 => (if (t1079 != t1064) = true then (some false) else ((laws_toYard.f k l0_0 l0_1 l0_2 l0_3 a0_4).bind fun bt1080 => ((laws_eqYard.f k bt1065.1 bt1065.2.1 bt1065.2.2.1 bt1065.2.2.2.1 bt1065.2.2.2.2 bt1080.1 bt1080.2.1 bt1080.2.2.1 bt1080.2.2.2.1 bt1080.2.2.2.2).bind fun t1093 => (if t1093 = true then (some true) else (some false)))))))))) = some true := H
 have A2 := Aside0.mk A20
 clear A20
 by_cases c3 : t1050 < 0
 ·rw [if_pos c3] at H
  have c3b0 : decide (t1050 < 0) = true := decide_eq_true c3
  clear c3
  clear H
  go_enter Try.func6, Try.ntmps6
  go_wp2_with (first | ((with_reducible refine gate_dst (N := 1) rfl ?_); refine box_event ?hg (N := 1) ?hd (cs := #[.slice A0_0 l0_0.length c0_0, .slice A0_1 l0_1.length c0_1, .slice A0_2 l0_2.length c0_2, .slice A0_3 l0_3.length c0_3, .int .i64 a0_4]) (t := 56) ?hr ?_; (case hd => rfl); (case hg => rfl); (case hr => first | (go_simp; done) | (go_simp; rfl)); intro gb1049 hg w4 hbox hb; have n0_ := Aside0.mk (below_step (by repeat (first | (with_reducible first | exact HB.out | apply below_alloc | apply pw_below_drewN | apply below_drew1) | exact HB.out)) hb); have n1_ := Aside0.mk (hbox); have n2_ := Aside0.mk ((by rw [hg]; exact (below_size (by repeat (first | (with_reducible first | exact HB.out | apply below_alloc | apply pw_below_drewN | apply below_drew1) | exact HB.out))) : w.heap.size ≤ gb1049)); have n3_ := Aside0.mk ((by rw [hg]; exact (below_size (by repeat (first | (with_reducible first | exact HB.out | apply below_alloc | apply pw_below_drewN | apply below_drew1) | exact HB.out))) : w.heap.size ≤ gb1049)); clear HB; have HB := n0_; have BK1049 := n1_; have GW1049 := n2_; have GE1049 := n3_; clear n0_ n1_ n2_ n3_; clear hb hbox hg; have hcz5_0 : w4.cell? ⟨gb1049, 0, none⟩ = some (.slice A0_0 l0_0.length c0_0) := (blk_cell BK1049.out 0).trans rfl; have hcz5_1 : w4.cell? ⟨gb1049, 1, none⟩ = some (.slice A0_1 l0_1.length c0_1) := (blk_cell BK1049.out 1).trans rfl; have hcz5_2 : w4.cell? ⟨gb1049, 2, none⟩ = some (.slice A0_2 l0_2.length c0_2) := (blk_cell BK1049.out 2).trans rfl; have hcz5_3 : w4.cell? ⟨gb1049, 3, none⟩ = some (.slice A0_3 l0_3.length c0_3) := (blk_cell BK1049.out 3).trans rfl; have hcz5_4 : w4.cell? ⟨gb1049, 4, none⟩ = some (.int .i64 a0_4) := (blk_cell BK1049.out 4).trans rfl; have hfz5_0 := blk_frozen BK1049.out 0; have hfz5_1 := blk_frozen BK1049.out 1; have hfz5_2 := blk_frozen BK1049.out 2; have hfz5_3 := blk_frozen BK1049.out 3; have hfz5_4 := blk_frozen BK1049.out 4) | ((with_reducible refine gate_callee (f := 30) rfl ?_); refine goesL_ (some 9) rfl rfl Try.func30 (by kernel_rfl) rfl #[.agg #[.slice A0_0 l0_0.length c0_0, .slice A0_1 l0_1.length c0_1, .slice A0_2 l0_2.length c0_2, .slice A0_3 l0_3.length c0_3, .int .i64 a0_4], .int .i64 1048576] rfl (by (try simp only [List.map_toArray, List.map_cons, List.map_nil]); first | done | rfl | (simp only [List.length_drop, List.length_take]; rfl)) ?_; (with_reducible refine (laws_szYard.calls _ _ l0_0 _ _ l0_1 _ _ l0_2 _ _ l0_3 a0_4 1048576 t1050 _ ?side1 ?side2 ?side3 ?side4 ?side5 ?side6 ?side7 ?side8 A2.out).mono ?_); (case side1 => repeat (first | exact (Kd.C_below HR0_0.out HB.out) | (with_reducible refine Kd.C_alloc ?_ _) | (with_reducible refine Kd.C_drewN ?_ _) | (with_reducible refine Kd.C_drew ?_))); (case side2 => exact HC0_0.out); (case side3 => repeat (first | exact (Kd.C_below HR0_1.out HB.out) | (with_reducible refine Kd.C_alloc ?_ _) | (with_reducible refine Kd.C_drewN ?_ _) | (with_reducible refine Kd.C_drew ?_))); (case side4 => exact HC0_1.out); (case side5 => repeat (first | exact (Kd.C_below HR0_2.out HB.out) | (with_reducible refine Kd.C_alloc ?_ _) | (with_reducible refine Kd.C_drewN ?_ _) | (with_reducible refine Kd.C_drew ?_))); (case side6 => exact HC0_2.out); (case side7 => repeat (first | exact (Kd.C_below HR0_3.out HB.out) | (with_reducible refine Kd.C_alloc ?_ _) | (with_reducible refine Kd.C_drewN ?_ _) | (with_reducible refine Kd.C_drew ?_))); (case side8 => exact HC0_3.out); rintro e w6 ⟨rfl, hb⟩; refine ⟨_, rfl, ?_⟩; have n0_ := Aside0.mk (blk_below (g := gb1049) (o := .cells #[.slice A0_0 l0_0.length c0_0, .slice A0_1 l0_1.length c0_1, .slice A0_2 l0_2.length c0_2, .slice A0_3 l0_3.length c0_3, .int .i64 a0_4] 56 (0, 0)) (by (with_reducible repeat (first | refine blk_drewN ?_ _ | refine blk_drew ?_ | refine blk_alloc ?_ _)); exact BK1049.out) hb); have n1_ := Aside0.mk (below_step (by repeat (first | (with_reducible first | exact HB.out | apply below_alloc | apply pw_below_drewN | apply below_drew1 | refine below_set ?_ GE1049.out) | exact HB.out)) hb); clear BK1049; clear HB; have BK1049 := n0_; have HB := n1_; clear n0_ n1_; (try clear hb); (try clear hb2); (try clear hk); (try clear hi)))
  go_ret
  (try rw [HT_.out])
  (try simp only [HT_.out])
  exact ⟨by first | rfl | (simp [errW_none, errW_some] <;> rfl) | (simp [*, errW_none, errW_some] <;> rfl), by repeat (first | (with_reducible first | exact HB.out | apply below_alloc | apply pw_below_drewN | apply below_drew1 | refine below_set ?_ GE1049.out) | exact HB.out)⟩
 ·rw [if_neg c3] at H
  have c3b0 : decide (t1050 < 0) = false := decide_eq_false c3
  clear c3
  replace H := Option.bind_eq_some_iff.mp H
  obtain ⟨⟨t1051, t1054, t1057, t1060, t1063⟩, A70, H⟩ := H
  replace H : ((spec_YardOk.f k t1051 t1054 t1057 t1060 t1063).bind fun t1064 => ((laws_toYard.f k l0_0 l0_1 l0_2 l0_3 a0_4).bind fun bt1065 => ((impl_YardOk.f k bt1065.1 bt1065.2.1 bt1065.2.2.1 bt1065.2.2.2.1 bt1065.2.2.2.2).bind fun t1079 => (if (t1079 != t1064) = true then (some false) else ((laws_toYard.f k l0_0 l0_1 l0_2 l0_3 a0_4).bind fun bt1080 => ((laws_eqYard.f k bt1065.1 bt1065.2.1 bt1065.2.2.1 bt1065.2.2.2.1 bt1065.2.2.2.2 bt1080.1 bt1080.2.1 bt1080.2.2.1 bt1080.2.2.2.1 bt1080.2.2.2.2).bind fun t1093 => (if t1093 = true then (some true) else (some false)))))))) = some true := H
  have A7 := Aside0.mk A70
  clear A70
  replace H := Option.bind_eq_some_iff.mp H
  obtain ⟨t1064, A80, H⟩ := H
  replace H : ((laws_toYard.f k l0_0 l0_1 l0_2 l0_3 a0_4).bind fun bt1065 => ((impl_YardOk.f k bt1065.1 bt1065.2.1 bt1065.2.2.1 bt1065.2.2.2.1 bt1065.2.2.2.2).bind fun t1079 => (if (t1079 != t1064) = true then (some false) else ((laws_toYard.f k l0_0 l0_1 l0_2 l0_3 a0_4).bind fun bt1080 => ((laws_eqYard.f k bt1065.1 bt1065.2.1 bt1065.2.2.1 bt1065.2.2.2.1 bt1065.2.2.2.2 bt1080.1 bt1080.2.1 bt1080.2.2.1 bt1080.2.2.2.1 bt1080.2.2.2.2).bind fun t1093 => (if t1093 = true then (some true) else (some false))))))) = some true := H
  have A8 := Aside0.mk A80
  clear A80
  replace H := Option.bind_eq_some_iff.mp H
  obtain ⟨⟨t1065, t1068, t1071, t1074, t1077⟩, A90, H⟩ := H
  replace H : ((impl_YardOk.f k t1065 t1068 t1071 t1074 t1077).bind fun t1079 => (if (t1079 != t1064) = true then (some false) else ((laws_toYard.f k l0_0 l0_1 l0_2 l0_3 a0_4).bind fun bt1080 => ((laws_eqYard.f k t1065 t1068 t1071 t1074 t1077 bt1080.1 bt1080.2.1 bt1080.2.2.1 bt1080.2.2.2.1 bt1080.2.2.2.2).bind fun t1093 => (if t1093 = true then (some true) else (some false)))))) = some true := H
  have A9 := Aside0.mk A90
  clear A90
  replace H := Option.bind_eq_some_iff.mp H
  obtain ⟨t1079, A100, H⟩ := H
  replace H : (if (t1079 != t1064) = true then (some false) else ((laws_toYard.f k l0_0 l0_1 l0_2 l0_3 a0_4).bind fun bt1080 => ((laws_eqYard.f k t1065 t1068 t1071 t1074 t1077 bt1080.1 bt1080.2.1 bt1080.2.2.1 bt1080.2.2.2.1 bt1080.2.2.2.2).bind fun t1093 => (if t1093 = true then (some true) else (some false))))) = some true := H
  have A10 := Aside0.mk A100
  clear A100
  by_cases c11 : (t1079 != t1064) = true
  ·rw [if_pos c11] at H
   have c11b0 : (t1079 != t1064) = true := c11
   (try (have c11b1 : decide (t1079 = t1064) = false := by simpa using c11))
   (try (have c11b2 : (t1079 == t1064) = false := by simpa using c11))
   (try (have c11b3 : ¬ (t1079 = t1064) := by simpa using c11))
   clear c11
   exact absurd H (by first | (simp; done) | ((repeat' split) <;> simp))
  ·rw [if_neg c11] at H
   have c11b0 : (t1079 != t1064) = false := by simpa using c11
   (try (have c11b1 : decide (t1079 = t1064) = true := by simpa using c11))
   (try (have c11b2 : (t1079 == t1064) = true := by simpa using c11))
   clear c11
   replace H := Option.bind_eq_some_iff.mp H
   obtain ⟨⟨t1080, t1083, t1086, t1089, t1092⟩, A120, H⟩ := H
   replace H : ((laws_eqYard.f k t1065 t1068 t1071 t1074 t1077 t1080 t1083 t1086 t1089 t1092).bind fun t1093 => (if t1093 = true then (some true) else (some false))) = some true := H
   have A12 := Aside0.mk A120
   clear A120
   replace H := Option.bind_eq_some_iff.mp H
   obtain ⟨t1093, A130, H⟩ := H
   replace H : (if t1093 = true then (some true) else (some false)) = some true := H
   have A13 := Aside0.mk A130
   clear A130
   by_cases c14 : t1093 = true
   ·subst c14
    have H1 : (some true) = some true := by rfl
    clear H
    have H := H1
    clear H1
    clear H
    go_enter Try.func6, Try.ntmps6
    try go_wp2_with (first | ((with_reducible refine gate_dst (N := 1) rfl ?_); refine box_event ?hg (N := 1) ?hd (cs := #[.slice A0_0 l0_0.length c0_0, .slice A0_1 l0_1.length c0_1, .slice A0_2 l0_2.length c0_2, .slice A0_3 l0_3.length c0_3, .int .i64 a0_4]) (t := 56) ?hr ?_; (case hd => rfl); (case hg => rfl); (case hr => first | (go_simp; done) | (go_simp; rfl)); intro gb1049 hg w15 hbox hb; have n0_ := Aside0.mk (below_step (by repeat (first | (with_reducible first | exact HB.out | apply below_alloc | apply pw_below_drewN | apply below_drew1) | exact HB.out)) hb); have n1_ := Aside0.mk (hbox); have n2_ := Aside0.mk ((by rw [hg]; exact (below_size (by repeat (first | (with_reducible first | exact HB.out | apply below_alloc | apply pw_below_drewN | apply below_drew1) | exact HB.out))) : w.heap.size ≤ gb1049)); have n3_ := Aside0.mk ((by rw [hg]; exact (below_size (by repeat (first | (with_reducible first | exact HB.out | apply below_alloc | apply pw_below_drewN | apply below_drew1) | exact HB.out))) : w.heap.size ≤ gb1049)); clear HB; have HB := n0_; have BK1049 := n1_; have GW1049 := n2_; have GE1049 := n3_; clear n0_ n1_ n2_ n3_; clear hb hbox hg; have hcz16_0 : w15.cell? ⟨gb1049, 0, none⟩ = some (.slice A0_0 l0_0.length c0_0) := (blk_cell BK1049.out 0).trans rfl; have hcz16_1 : w15.cell? ⟨gb1049, 1, none⟩ = some (.slice A0_1 l0_1.length c0_1) := (blk_cell BK1049.out 1).trans rfl; have hcz16_2 : w15.cell? ⟨gb1049, 2, none⟩ = some (.slice A0_2 l0_2.length c0_2) := (blk_cell BK1049.out 2).trans rfl; have hcz16_3 : w15.cell? ⟨gb1049, 3, none⟩ = some (.slice A0_3 l0_3.length c0_3) := (blk_cell BK1049.out 3).trans rfl; have hcz16_4 : w15.cell? ⟨gb1049, 4, none⟩ = some (.int .i64 a0_4) := (blk_cell BK1049.out 4).trans rfl; have hfz16_0 := blk_frozen BK1049.out 0; have hfz16_1 := blk_frozen BK1049.out 1; have hfz16_2 := blk_frozen BK1049.out 2; have hfz16_3 := blk_frozen BK1049.out 3; have hfz16_4 := blk_frozen BK1049.out 4) | ((with_reducible refine gate_callee (f := 30) rfl ?_); refine goesL_ (some 9) rfl rfl Try.func30 (by kernel_rfl) rfl #[.agg #[.slice A0_0 l0_0.length c0_0, .slice A0_1 l0_1.length c0_1, .slice A0_2 l0_2.length c0_2, .slice A0_3 l0_3.length c0_3, .int .i64 a0_4], .int .i64 1048576] rfl (by (try simp only [List.map_toArray, List.map_cons, List.map_nil]); first | done | rfl | (simp only [List.length_drop, List.length_take]; rfl)) ?_; (with_reducible refine (laws_szYard.calls _ _ l0_0 _ _ l0_1 _ _ l0_2 _ _ l0_3 a0_4 1048576 t1050 _ ?side1 ?side2 ?side3 ?side4 ?side5 ?side6 ?side7 ?side8 A2.out).mono ?_); (case side1 => repeat (first | exact (Kd.C_below HR0_0.out HB.out) | (with_reducible refine Kd.C_alloc ?_ _) | (with_reducible refine Kd.C_drewN ?_ _) | (with_reducible refine Kd.C_drew ?_))); (case side2 => exact HC0_0.out); (case side3 => repeat (first | exact (Kd.C_below HR0_1.out HB.out) | (with_reducible refine Kd.C_alloc ?_ _) | (with_reducible refine Kd.C_drewN ?_ _) | (with_reducible refine Kd.C_drew ?_))); (case side4 => exact HC0_1.out); (case side5 => repeat (first | exact (Kd.C_below HR0_2.out HB.out) | (with_reducible refine Kd.C_alloc ?_ _) | (with_reducible refine Kd.C_drewN ?_ _) | (with_reducible refine Kd.C_drew ?_))); (case side6 => exact HC0_2.out); (case side7 => repeat (first | exact (Kd.C_below HR0_3.out HB.out) | (with_reducible refine Kd.C_alloc ?_ _) | (with_reducible refine Kd.C_drewN ?_ _) | (with_reducible refine Kd.C_drew ?_))); (case side8 => exact HC0_3.out); rintro e w17 ⟨rfl, hb⟩; refine ⟨_, rfl, ?_⟩; have n0_ := Aside0.mk (blk_below (g := gb1049) (o := .cells #[.slice A0_0 l0_0.length c0_0, .slice A0_1 l0_1.length c0_1, .slice A0_2 l0_2.length c0_2, .slice A0_3 l0_3.length c0_3, .int .i64 a0_4] 56 (0, 0)) (by (with_reducible repeat (first | refine blk_drewN ?_ _ | refine blk_drew ?_ | refine blk_alloc ?_ _)); exact BK1049.out) hb); have n1_ := Aside0.mk (below_step (by repeat (first | (with_reducible first | exact HB.out | apply below_alloc | apply pw_below_drewN | apply below_drew1 | refine below_set ?_ GE1049.out) | exact HB.out)) hb); clear BK1049; clear HB; have BK1049 := n0_; have HB := n1_; clear n0_ n1_; (try clear hb); (try clear hb2); (try clear hk); (try clear hi); have hcz18_0 : w17.cell? ⟨gb1049, 0, none⟩ = some (.slice A0_0 l0_0.length c0_0) := (blk_cell BK1049.out 0).trans rfl; have hcz18_1 : w17.cell? ⟨gb1049, 1, none⟩ = some (.slice A0_1 l0_1.length c0_1) := (blk_cell BK1049.out 1).trans rfl; have hcz18_2 : w17.cell? ⟨gb1049, 2, none⟩ = some (.slice A0_2 l0_2.length c0_2) := (blk_cell BK1049.out 2).trans rfl; have hcz18_3 : w17.cell? ⟨gb1049, 3, none⟩ = some (.slice A0_3 l0_3.length c0_3) := (blk_cell BK1049.out 3).trans rfl; have hcz18_4 : w17.cell? ⟨gb1049, 4, none⟩ = some (.int .i64 a0_4) := (blk_cell BK1049.out 4).trans rfl; have hfz18_0 := blk_frozen BK1049.out 0; have hfz18_1 := blk_frozen BK1049.out 1; have hfz18_2 := blk_frozen BK1049.out 2; have hfz18_3 := blk_frozen BK1049.out 3; have hfz18_4 := blk_frozen BK1049.out 4) | ((with_reducible refine gate_callee (f := 32) rfl ?_); refine goesL_ (some 13) rfl rfl Try.func32 (by kernel_rfl) rfl #[.agg #[.slice A0_0 l0_0.length c0_0, .slice A0_1 l0_1.length c0_1, .slice A0_2 l0_2.length c0_2, .slice A0_3 l0_3.length c0_3, .int .i64 a0_4]] rfl (by (try simp only [List.map_toArray, List.map_cons, List.map_nil]); first | done | rfl | (simp only [List.length_drop, List.length_take]; rfl)) ?_; (with_reducible refine (laws_toYard.calls k _ _ l0_0 _ _ l0_1 _ _ l0_2 _ _ l0_3 a0_4 t1051 t1054 t1057 t1060 t1063 _ ?side1 ?side2 ?side3 ?side4 ?side5 ?side6 ?side7 ?side8 A7.out).mono ?_); (case side1 => repeat (first | exact (Kd.C_below HR0_0.out HB.out) | (with_reducible refine Kd.C_alloc ?_ _) | (with_reducible refine Kd.C_drewN ?_ _) | (with_reducible refine Kd.C_drew ?_))); (case side2 => exact HC0_0.out); (case side3 => repeat (first | exact (Kd.C_below HR0_1.out HB.out) | (with_reducible refine Kd.C_alloc ?_ _) | (with_reducible refine Kd.C_drewN ?_ _) | (with_reducible refine Kd.C_drew ?_))); (case side4 => exact HC0_1.out); (case side5 => repeat (first | exact (Kd.C_below HR0_2.out HB.out) | (with_reducible refine Kd.C_alloc ?_ _) | (with_reducible refine Kd.C_drewN ?_ _) | (with_reducible refine Kd.C_drew ?_))); (case side6 => exact HC0_2.out); (case side7 => repeat (first | exact (Kd.C_below HR0_3.out HB.out) | (with_reducible refine Kd.C_alloc ?_ _) | (with_reducible refine Kd.C_drewN ?_ _) | (with_reducible refine Kd.C_drew ?_))); (case side8 => exact HC0_3.out); rintro e w19 ⟨v1052, v1055, v1058, v1061, rfl, ho0, ho1, ho2, ho3, hb⟩; refine ⟨_, rfl, ?_⟩; have n0_ := Aside0.mk (Kd.R_lower ho0 (below_size (by repeat (first | (with_reducible first | exact HB.out | apply below_alloc | apply pw_below_drewN | apply below_drew1 | refine below_set ?_ GE1049.out) | exact HB.out)))); have n1_ := Aside0.mk (Kd.R_lower ho1 (below_size (by repeat (first | (with_reducible first | exact HB.out | apply below_alloc | apply pw_below_drewN | apply below_drew1 | refine below_set ?_ GE1049.out) | exact HB.out)))); have n2_ := Aside0.mk (Kd.R_lower ho2 (below_size (by repeat (first | (with_reducible first | exact HB.out | apply below_alloc | apply pw_below_drewN | apply below_drew1 | refine below_set ?_ GE1049.out) | exact HB.out)))); have n3_ := Aside0.mk (Kd.R_lower ho3 (below_size (by repeat (first | (with_reducible first | exact HB.out | apply below_alloc | apply pw_below_drewN | apply below_drew1 | refine below_set ?_ GE1049.out) | exact HB.out)))); have n4_ := Aside0.mk (blk_below (g := gb1049) (o := .cells #[.slice A0_0 l0_0.length c0_0, .slice A0_1 l0_1.length c0_1, .slice A0_2 l0_2.length c0_2, .slice A0_3 l0_3.length c0_3, .int .i64 a0_4] 56 (0, 0)) (by (with_reducible repeat (first | refine blk_drewN ?_ _ | refine blk_drew ?_ | refine blk_alloc ?_ _)); exact BK1049.out) hb); have n5_ := Aside0.mk (below_step (by repeat (first | (with_reducible first | exact HB.out | apply below_alloc | apply pw_below_drewN | apply below_drew1 | refine below_set ?_ GE1049.out) | exact HB.out)) hb); clear BK1049; clear HB; have HO1053 := n0_; have HO1056 := n1_; have HO1059 := n2_; have HO1062 := n3_; have BK1049 := n4_; have HB := n5_; clear n0_ n1_ n2_ n3_ n4_ n5_; (try clear hb); (try clear hb2); (try clear hk); (try clear hi); (try clear ho0); (try clear ho1); (try clear ho2); (try clear ho3); obtain ⟨Ao20, co20, eo20⟩ := Kd.R_slice HO1053.out; subst eo20; obtain ⟨Ao21, co21, eo21⟩ := Kd.R_slice HO1056.out; subst eo21; obtain ⟨Ao22, co22, eo22⟩ := Kd.R_slice HO1059.out; subst eo22; obtain ⟨Ao23, co23, eo23⟩ := Kd.R_slice HO1062.out; subst eo23) | ((with_reducible refine gate_callee (f := 31) rfl ?_); refine goesL_ (some 14) rfl rfl Try.func31 (by kernel_rfl) rfl #[.agg #[.slice Ao20 t1051.length co20, .slice Ao21 t1054.length co21, .slice Ao22 t1057.length co22, .slice Ao23 t1060.length co23, .int .i64 t1063]] rfl (by (try simp only [List.map_toArray, List.map_cons, List.map_nil]); first | done | rfl | (simp only [List.length_drop, List.length_take]; rfl)) ?_; (with_reducible refine (spec_YardOk.calls k _ _ t1051 _ _ t1054 _ _ t1057 _ _ t1060 t1063 t1064 _ ?side1 ?side2 ?side3 ?side4 ?side5 ?side6 ?side7 ?side8 A8.out).mono ?_); (case side1 => repeat (first | exact (Kd.R_reads' HO1053.out).2.2 | (with_reducible refine Kd.C_alloc ?_ _) | (with_reducible refine Kd.C_drewN ?_ _) | (with_reducible refine Kd.C_drew ?_))); (case side2 => exact (Kd.R_reads' HO1053.out).2.1); (case side3 => repeat (first | exact (Kd.R_reads' HO1056.out).2.2 | (with_reducible refine Kd.C_alloc ?_ _) | (with_reducible refine Kd.C_drewN ?_ _) | (with_reducible refine Kd.C_drew ?_))); (case side4 => exact (Kd.R_reads' HO1056.out).2.1); (case side5 => repeat (first | exact (Kd.R_reads' HO1059.out).2.2 | (with_reducible refine Kd.C_alloc ?_ _) | (with_reducible refine Kd.C_drewN ?_ _) | (with_reducible refine Kd.C_drew ?_))); (case side6 => exact (Kd.R_reads' HO1059.out).2.1); (case side7 => repeat (first | exact (Kd.R_reads' HO1062.out).2.2 | (with_reducible refine Kd.C_alloc ?_ _) | (with_reducible refine Kd.C_drewN ?_ _) | (with_reducible refine Kd.C_drew ?_))); (case side8 => exact (Kd.R_reads' HO1062.out).2.1); rintro e w24 ⟨rfl, hb⟩; refine ⟨_, rfl, ?_⟩; have n0_ := Aside0.mk (Kd.R_below (by (with_reducible repeat (first | apply Kd.R_alloc | apply Kd.R_drewN | apply Kd.R_drew)); exact HO1053.out) hb); have n1_ := Aside0.mk (Kd.R_below (by (with_reducible repeat (first | apply Kd.R_alloc | apply Kd.R_drewN | apply Kd.R_drew)); exact HO1056.out) hb); have n2_ := Aside0.mk (Kd.R_below (by (with_reducible repeat (first | apply Kd.R_alloc | apply Kd.R_drewN | apply Kd.R_drew)); exact HO1059.out) hb); have n3_ := Aside0.mk (Kd.R_below (by (with_reducible repeat (first | apply Kd.R_alloc | apply Kd.R_drewN | apply Kd.R_drew)); exact HO1062.out) hb); have n4_ := Aside0.mk (blk_below (g := gb1049) (o := .cells #[.slice A0_0 l0_0.length c0_0, .slice A0_1 l0_1.length c0_1, .slice A0_2 l0_2.length c0_2, .slice A0_3 l0_3.length c0_3, .int .i64 a0_4] 56 (0, 0)) (by (with_reducible repeat (first | refine blk_drewN ?_ _ | refine blk_drew ?_ | refine blk_alloc ?_ _)); exact BK1049.out) hb); have n5_ := Aside0.mk (below_step (by repeat (first | (with_reducible first | exact HB.out | apply below_alloc | apply pw_below_drewN | apply below_drew1 | refine below_set ?_ GE1049.out) | exact HB.out)) hb); clear HO1053; clear HO1056; clear HO1059; clear HO1062; clear BK1049; clear HB; have HO1053 := n0_; have HO1056 := n1_; have HO1059 := n2_; have HO1062 := n3_; have BK1049 := n4_; have HB := n5_; clear n0_ n1_ n2_ n3_ n4_ n5_; (try clear hb); (try clear hb2); (try clear hk); (try clear hi); have hcz25_0 : w24.cell? ⟨gb1049, 0, none⟩ = some (.slice A0_0 l0_0.length c0_0) := (blk_cell BK1049.out 0).trans rfl; have hcz25_1 : w24.cell? ⟨gb1049, 1, none⟩ = some (.slice A0_1 l0_1.length c0_1) := (blk_cell BK1049.out 1).trans rfl; have hcz25_2 : w24.cell? ⟨gb1049, 2, none⟩ = some (.slice A0_2 l0_2.length c0_2) := (blk_cell BK1049.out 2).trans rfl; have hcz25_3 : w24.cell? ⟨gb1049, 3, none⟩ = some (.slice A0_3 l0_3.length c0_3) := (blk_cell BK1049.out 3).trans rfl; have hcz25_4 : w24.cell? ⟨gb1049, 4, none⟩ = some (.int .i64 a0_4) := (blk_cell BK1049.out 4).trans rfl; have hfz25_0 := blk_frozen BK1049.out 0; have hfz25_1 := blk_frozen BK1049.out 1; have hfz25_2 := blk_frozen BK1049.out 2; have hfz25_3 := blk_frozen BK1049.out 3; have hfz25_4 := blk_frozen BK1049.out 4) | ((with_reducible refine gate_callee (f := 32) rfl ?_); refine goesL_ (some 16) rfl rfl Try.func32 (by kernel_rfl) rfl #[.agg #[.slice A0_0 l0_0.length c0_0, .slice A0_1 l0_1.length c0_1, .slice A0_2 l0_2.length c0_2, .slice A0_3 l0_3.length c0_3, .int .i64 a0_4]] rfl (by (try simp only [List.map_toArray, List.map_cons, List.map_nil]); first | done | rfl | (simp only [List.length_drop, List.length_take]; rfl)) ?_; (with_reducible refine (laws_toYard.calls k _ _ l0_0 _ _ l0_1 _ _ l0_2 _ _ l0_3 a0_4 t1065 t1068 t1071 t1074 t1077 _ ?side1 ?side2 ?side3 ?side4 ?side5 ?side6 ?side7 ?side8 A9.out).mono ?_); (case side1 => repeat (first | exact (Kd.C_below HR0_0.out HB.out) | (with_reducible refine Kd.C_alloc ?_ _) | (with_reducible refine Kd.C_drewN ?_ _) | (with_reducible refine Kd.C_drew ?_))); (case side2 => exact HC0_0.out); (case side3 => repeat (first | exact (Kd.C_below HR0_1.out HB.out) | (with_reducible refine Kd.C_alloc ?_ _) | (with_reducible refine Kd.C_drewN ?_ _) | (with_reducible refine Kd.C_drew ?_))); (case side4 => exact HC0_1.out); (case side5 => repeat (first | exact (Kd.C_below HR0_2.out HB.out) | (with_reducible refine Kd.C_alloc ?_ _) | (with_reducible refine Kd.C_drewN ?_ _) | (with_reducible refine Kd.C_drew ?_))); (case side6 => exact HC0_2.out); (case side7 => repeat (first | exact (Kd.C_below HR0_3.out HB.out) | (with_reducible refine Kd.C_alloc ?_ _) | (with_reducible refine Kd.C_drewN ?_ _) | (with_reducible refine Kd.C_drew ?_))); (case side8 => exact HC0_3.out); rintro e w26 ⟨v1066, v1069, v1072, v1075, rfl, ho0, ho1, ho2, ho3, hb⟩; refine ⟨_, rfl, ?_⟩; have n0_ := Aside0.mk (Kd.R_elder' (by (with_reducible repeat (first | apply Kd.R_alloc | apply Kd.R_drewN | apply Kd.R_drew)); exact HO1053.out) (Kd.R_base ho0) hb); have n1_ := Aside0.mk (Kd.R_mono (Kd.R_told (Kd.R_told (Kd.R_old (by (with_reducible repeat (first | apply Kd.R_alloc | apply Kd.R_drewN | apply Kd.R_drew)); exact HO1056.out) hb) (Kd.R_base ho1)) (Kd.R_base ho2)) (fun _ h_ => h_.1)); have n2_ := Aside0.mk (Kd.R_mono (Kd.R_told (Kd.R_told (Kd.R_old (by (with_reducible repeat (first | apply Kd.R_alloc | apply Kd.R_drewN | apply Kd.R_drew)); exact HO1059.out) hb) (Kd.R_base ho1)) (Kd.R_base ho2)) (fun _ h_ => h_.1)); have n3_ := Aside0.mk (Kd.R_elder' (by (with_reducible repeat (first | apply Kd.R_alloc | apply Kd.R_drewN | apply Kd.R_drew)); exact HO1062.out) (Kd.R_base ho3) hb); have n4_ := Aside0.mk (Kd.R_lower (Kd.R_new' ho0 (Kd.R_lt (by (with_reducible repeat (first | apply Kd.R_alloc | apply Kd.R_drewN | apply Kd.R_drew)); exact HO1053.out))) (below_size (by repeat (first | (with_reducible first | exact HB.out | apply below_alloc | apply pw_below_drewN | apply below_drew1 | refine below_set ?_ GE1049.out) | exact HB.out)))); have n5_ := Aside0.mk (Kd.R_lower (Kd.R_new' (Kd.R_new' ho1 (Kd.R_lt (by (with_reducible repeat (first | apply Kd.R_alloc | apply Kd.R_drewN | apply Kd.R_drew)); exact HO1056.out))) (Kd.R_lt (by (with_reducible repeat (first | apply Kd.R_alloc | apply Kd.R_drewN | apply Kd.R_drew)); exact HO1059.out))) (below_size (by repeat (first | (with_reducible first | exact HB.out | apply below_alloc | apply pw_below_drewN | apply below_drew1 | refine below_set ?_ GE1049.out) | exact HB.out)))); have n6_ := Aside0.mk (Kd.R_lower (Kd.R_new' (Kd.R_new' ho2 (Kd.R_lt (by (with_reducible repeat (first | apply Kd.R_alloc | apply Kd.R_drewN | apply Kd.R_drew)); exact HO1056.out))) (Kd.R_lt (by (with_reducible repeat (first | apply Kd.R_alloc | apply Kd.R_drewN | apply Kd.R_drew)); exact HO1059.out))) (below_size (by repeat (first | (with_reducible first | exact HB.out | apply below_alloc | apply pw_below_drewN | apply below_drew1 | refine below_set ?_ GE1049.out) | exact HB.out)))); have n7_ := Aside0.mk (Kd.R_lower (Kd.R_new' ho3 (Kd.R_lt (by (with_reducible repeat (first | apply Kd.R_alloc | apply Kd.R_drewN | apply Kd.R_drew)); exact HO1062.out))) (below_size (by repeat (first | (with_reducible first | exact HB.out | apply below_alloc | apply pw_below_drewN | apply below_drew1 | refine below_set ?_ GE1049.out) | exact HB.out)))); have n8_ := Aside0.mk (blk_below (g := gb1049) (o := .cells #[.slice A0_0 l0_0.length c0_0, .slice A0_1 l0_1.length c0_1, .slice A0_2 l0_2.length c0_2, .slice A0_3 l0_3.length c0_3, .int .i64 a0_4] 56 (0, 0)) (by (with_reducible repeat (first | refine blk_drewN ?_ _ | refine blk_drew ?_ | refine blk_alloc ?_ _)); exact BK1049.out) hb); have n9_ := Aside0.mk (below_step (by repeat (first | (with_reducible first | exact HB.out | apply below_alloc | apply pw_below_drewN | apply below_drew1 | refine below_set ?_ GE1049.out) | exact HB.out)) hb); clear HO1053; clear HO1056; clear HO1059; clear HO1062; clear BK1049; clear HB; have HO1053 := n0_; have HO1056 := n1_; have HO1059 := n2_; have HO1062 := n3_; have HO1067 := n4_; have HO1070 := n5_; have HO1073 := n6_; have HO1076 := n7_; have BK1049 := n8_; have HB := n9_; clear n0_ n1_ n2_ n3_ n4_ n5_ n6_ n7_ n8_ n9_; (try clear hb); (try clear hb2); (try clear hk); (try clear hi); (try clear ho0); (try clear ho1); (try clear ho2); (try clear ho3)) | ((with_reducible refine gate_dst (N := 5) rfl ?_); refine box_event ?hg (N := 5) ?hd (cs := #[.slice none 0 0, .slice none 0 0, .slice none 0 0, .slice none 0 0, .int .i64 0]) (t := 30) ?hr ?_; (case hd => rfl); (case hg => rfl); (case hr => first | (go_simp; done) | (go_simp; rfl)); intro gb1078 hg w27 hbox hb; have n0_ := Aside0.mk (Kd.R_below (by (with_reducible repeat (first | apply Kd.R_alloc | apply Kd.R_drewN | apply Kd.R_drew)); exact HO1053.out) hb); have n1_ := Aside0.mk (Kd.R_below (by (with_reducible repeat (first | apply Kd.R_alloc | apply Kd.R_drewN | apply Kd.R_drew)); exact HO1056.out) hb); have n2_ := Aside0.mk (Kd.R_below (by (with_reducible repeat (first | apply Kd.R_alloc | apply Kd.R_drewN | apply Kd.R_drew)); exact HO1059.out) hb); have n3_ := Aside0.mk (Kd.R_below (by (with_reducible repeat (first | apply Kd.R_alloc | apply Kd.R_drewN | apply Kd.R_drew)); exact HO1062.out) hb); have n4_ := Aside0.mk (Kd.R_below (by (with_reducible repeat (first | apply Kd.R_alloc | apply Kd.R_drewN | apply Kd.R_drew)); exact HO1067.out) hb); have n5_ := Aside0.mk (Kd.R_below (by (with_reducible repeat (first | apply Kd.R_alloc | apply Kd.R_drewN | apply Kd.R_drew)); exact HO1070.out) hb); have n6_ := Aside0.mk (Kd.R_below (by (with_reducible repeat (first | apply Kd.R_alloc | apply Kd.R_drewN | apply Kd.R_drew)); exact HO1073.out) hb); have n7_ := Aside0.mk (Kd.R_below (by (with_reducible repeat (first | apply Kd.R_alloc | apply Kd.R_drewN | apply Kd.R_drew)); exact HO1076.out) hb); have n8_ := Aside0.mk (blk_below (g := gb1049) (o := .cells #[.slice A0_0 l0_0.length c0_0, .slice A0_1 l0_1.length c0_1, .slice A0_2 l0_2.length c0_2, .slice A0_3 l0_3.length c0_3, .int .i64 a0_4] 56 (0, 0)) (by (with_reducible repeat (first | refine blk_drewN ?_ _ | refine blk_drew ?_ | refine blk_alloc ?_ _)); exact BK1049.out) hb); have n9_ := Aside0.mk (below_step (by repeat (first | (with_reducible first | exact HB.out | apply below_alloc | apply pw_below_drewN | apply below_drew1 | refine below_set ?_ GE1049.out) | exact HB.out)) hb); have n10_ := Aside0.mk (hbox); have n11_ := Aside0.mk ((by rw [hg]; exact (below_size (by repeat (first | (with_reducible first | exact HB.out | apply below_alloc | apply pw_below_drewN | apply below_drew1 | refine below_set ?_ GE1049.out) | exact HB.out))) : w.heap.size ≤ gb1078)); have n12_ := Aside0.mk ((by rw [hg]; exact (below_size (by repeat (first | (with_reducible first | exact HB.out | apply below_alloc | apply pw_below_drewN | apply below_drew1 | refine below_set ?_ GE1049.out) | exact HB.out))) : w.heap.size ≤ gb1078)); have n13_ := Aside0.mk ((by rw [hg]; exact Nat.ne_of_lt (blk_lt (g := gb1049) (o := .cells #[.slice A0_0 l0_0.length c0_0, .slice A0_1 l0_1.length c0_1, .slice A0_2 l0_2.length c0_2, .slice A0_3 l0_3.length c0_3, .int .i64 a0_4] 56 (0, 0)) (by (with_reducible repeat (first | refine blk_drewN ?_ _ | refine blk_drew ?_ | refine blk_alloc ?_ _)); exact BK1049.out)) : gb1049 ≠ gb1078)); have n14_ := Aside0.mk ((by rw [hg]; exact Nat.ne_of_gt (blk_lt (g := gb1049) (o := .cells #[.slice A0_0 l0_0.length c0_0, .slice A0_1 l0_1.length c0_1, .slice A0_2 l0_2.length c0_2, .slice A0_3 l0_3.length c0_3, .int .i64 a0_4] 56 (0, 0)) (by (with_reducible repeat (first | refine blk_drewN ?_ _ | refine blk_drew ?_ | refine blk_alloc ?_ _)); exact BK1049.out)) : gb1078 ≠ gb1049)); clear HO1053; clear HO1056; clear HO1059; clear HO1062; clear HO1067; clear HO1070; clear HO1073; clear HO1076; clear BK1049; clear HB; have HO1053 := n0_; have HO1056 := n1_; have HO1059 := n2_; have HO1062 := n3_; have HO1067 := n4_; have HO1070 := n5_; have HO1073 := n6_; have HO1076 := n7_; have BK1049 := n8_; have HB := n9_; have BK1078 := n10_; have GW1078 := n11_; have GE1078 := n12_; have NB1049_1078 := n13_; have NB1078_1049 := n14_; clear n0_ n1_ n2_ n3_ n4_ n5_ n6_ n7_ n8_ n9_ n10_ n11_ n12_ n13_ n14_; clear hb hbox hg; obtain ⟨Ao28, co28, eo28⟩ := Kd.R_slice HO1067.out; subst eo28; have hnb29 := NB1078_1049.out; have hnc29 := NB1049_1078.out; have hcz30_0 : w27.cell? ⟨gb1078, 0, none⟩ = some (.slice none 0 0) := (blk_cell BK1078.out 0).trans rfl; have hcz30_1 : w27.cell? ⟨gb1078, 1, none⟩ = some (.slice none 0 0) := (blk_cell BK1078.out 1).trans rfl; have hcz30_2 : w27.cell? ⟨gb1078, 2, none⟩ = some (.slice none 0 0) := (blk_cell BK1078.out 2).trans rfl; have hcz30_3 : w27.cell? ⟨gb1078, 3, none⟩ = some (.slice none 0 0) := (blk_cell BK1078.out 3).trans rfl; have hcz30_4 : w27.cell? ⟨gb1078, 4, none⟩ = some (.int .i64 0) := (blk_cell BK1078.out 4).trans rfl; have hfz30_0 := blk_frozen BK1078.out 0; have hfz30_1 := blk_frozen BK1078.out 1; have hfz30_2 := blk_frozen BK1078.out 2; have hfz30_3 := blk_frozen BK1078.out 3; have hfz30_4 := blk_frozen BK1078.out 4; obtain ⟨Ao31, co31, eo31⟩ := Kd.R_slice HO1070.out; subst eo31; obtain ⟨Ao32, co32, eo32⟩ := Kd.R_slice HO1073.out; subst eo32; obtain ⟨Ao33, co33, eo33⟩ := Kd.R_slice HO1076.out; subst eo33) | ((with_reducible refine gate_callee (f := 16) rfl ?_); refine goesL_ (some 18) rfl rfl Try.func16 (by kernel_rfl) rfl #[.agg #[.slice Ao28 t1065.length co28, .slice Ao31 t1068.length co31, .slice Ao32 t1071.length co32, .slice Ao33 t1074.length co33, .int .i64 t1077]] rfl (by (try simp only [List.map_toArray, List.map_cons, List.map_nil]); first | done | rfl | (simp only [List.length_drop, List.length_take]; rfl)) ?_; (with_reducible refine (impl_YardOk.calls k _ _ t1065 _ _ t1068 _ _ t1071 _ _ t1074 t1077 t1079 _ ?side1 ?side2 ?side3 ?side4 ?side5 ?side6 ?side7 ?side8 A10.out).mono ?_); (case side1 => refine (Kd.R_reads' (e := 77) (base := w.heap.size) (ok := fun k_ => (True ∧ some k_ ≠ (.slice Ao20 t1051.length co20 : Value).ownBlock)) (n := t1065.length) (c := co28) ?_).2.2; exact (by (with_reducible repeat (first | apply Kd.R_alloc | apply Kd.R_drewN | apply Kd.R_drew)); exact (Kd.R_mono (Kd.R_far (Kd.R_far (Kd.R_far (Kd.R_far (Kd.R_far (Kd.R_types HO1067.out BK1078.out (by decide)) (fun _ hk => hk.2) _) (fun _ hk => hk.2) _) (fun _ hk => hk.2) _) (fun _ hk => hk.2) _) (fun _ hk => hk.2) _) (fun _ h_ => h_.1)))); (case side2 => exact (Kd.R_reads' HO1067.out).2.1); (case side3 => refine (Kd.R_reads' (e := 3) (base := w.heap.size) (ok := fun k_ => ((some k_ ≠ (.slice Ao32 t1071.length co32 : Value).ownBlock ∧ some k_ ≠ (.slice Ao21 t1054.length co21 : Value).ownBlock) ∧ some k_ ≠ (.slice Ao22 t1057.length co22 : Value).ownBlock)) (n := t1068.length) (c := co31) ?_).2.2; exact (by (with_reducible repeat (first | apply Kd.R_alloc | apply Kd.R_drewN | apply Kd.R_drew)); exact (Kd.R_mono (Kd.R_far (Kd.R_far (Kd.R_far (Kd.R_far (Kd.R_far (Kd.R_types HO1070.out BK1078.out (by decide)) (fun _ hk => hk.2) _) (fun _ hk => hk.2) _) (fun _ hk => hk.2) _) (fun _ hk => hk.2) _) (fun _ hk => hk.2) _) (fun _ h_ => h_.1)))); (case side4 => exact (Kd.R_reads' HO1070.out).2.1); (case side5 => refine (Kd.R_reads' (e := 3) (base := w.heap.size) (ok := fun k_ => ((some k_ ≠ (.slice Ao31 t1068.length co31 : Value).ownBlock ∧ some k_ ≠ (.slice Ao21 t1054.length co21 : Value).ownBlock) ∧ some k_ ≠ (.slice Ao22 t1057.length co22 : Value).ownBlock)) (n := t1071.length) (c := co32) ?_).2.2; exact (by (with_reducible repeat (first | apply Kd.R_alloc | apply Kd.R_drewN | apply Kd.R_drew)); exact (Kd.R_mono (Kd.R_far (Kd.R_far (Kd.R_far (Kd.R_far (Kd.R_far (Kd.R_types HO1073.out BK1078.out (by decide)) (fun _ hk => hk.2) _) (fun _ hk => hk.2) _) (fun _ hk => hk.2) _) (fun _ hk => hk.2) _) (fun _ hk => hk.2) _) (fun _ h_ => h_.1)))); (case side6 => exact (Kd.R_reads' HO1073.out).2.1); (case side7 => refine (Kd.R_reads' (e := 41) (base := w.heap.size) (ok := fun k_ => (True ∧ some k_ ≠ (.slice Ao23 t1060.length co23 : Value).ownBlock)) (n := t1074.length) (c := co33) ?_).2.2; exact (by (with_reducible repeat (first | apply Kd.R_alloc | apply Kd.R_drewN | apply Kd.R_drew)); exact (Kd.R_mono (Kd.R_far (Kd.R_far (Kd.R_far (Kd.R_far (Kd.R_far (Kd.R_types HO1076.out BK1078.out (by decide)) (fun _ hk => hk.2) _) (fun _ hk => hk.2) _) (fun _ hk => hk.2) _) (fun _ hk => hk.2) _) (fun _ hk => hk.2) _) (fun _ h_ => h_.1)))); (case side8 => exact (Kd.R_reads' HO1076.out).2.1); rintro e w34 ⟨rfl, hb⟩; refine ⟨_, rfl, ?_⟩; have n0_ := Aside0.mk (Kd.R_below (by (with_reducible repeat (first | apply Kd.R_alloc | apply Kd.R_drewN | apply Kd.R_drew)); exact (Kd.R_mono (Kd.R_far (Kd.R_far (Kd.R_far (Kd.R_far (Kd.R_far (Kd.R_types HO1053.out BK1078.out (by decide)) (fun _ hk => hk.2) _) (fun _ hk => hk.2) _) (fun _ hk => hk.2) _) (fun _ hk => hk.2) _) (fun _ hk => hk.2) _) (fun _ h_ => h_.1))) hb); have n1_ := Aside0.mk (Kd.R_below (by (with_reducible repeat (first | apply Kd.R_alloc | apply Kd.R_drewN | apply Kd.R_drew)); exact (Kd.R_mono (Kd.R_far (Kd.R_far (Kd.R_far (Kd.R_far (Kd.R_far (Kd.R_types HO1056.out BK1078.out (by decide)) (fun _ hk => hk.2) _) (fun _ hk => hk.2) _) (fun _ hk => hk.2) _) (fun _ hk => hk.2) _) (fun _ hk => hk.2) _) (fun _ h_ => h_.1))) hb); have n2_ := Aside0.mk (Kd.R_below (by (with_reducible repeat (first | apply Kd.R_alloc | apply Kd.R_drewN | apply Kd.R_drew)); exact (Kd.R_mono (Kd.R_far (Kd.R_far (Kd.R_far (Kd.R_far (Kd.R_far (Kd.R_types HO1059.out BK1078.out (by decide)) (fun _ hk => hk.2) _) (fun _ hk => hk.2) _) (fun _ hk => hk.2) _) (fun _ hk => hk.2) _) (fun _ hk => hk.2) _) (fun _ h_ => h_.1))) hb); have n3_ := Aside0.mk (Kd.R_below (by (with_reducible repeat (first | apply Kd.R_alloc | apply Kd.R_drewN | apply Kd.R_drew)); exact (Kd.R_mono (Kd.R_far (Kd.R_far (Kd.R_far (Kd.R_far (Kd.R_far (Kd.R_types HO1062.out BK1078.out (by decide)) (fun _ hk => hk.2) _) (fun _ hk => hk.2) _) (fun _ hk => hk.2) _) (fun _ hk => hk.2) _) (fun _ hk => hk.2) _) (fun _ h_ => h_.1))) hb); have n4_ := Aside0.mk (Kd.R_below (by (with_reducible repeat (first | apply Kd.R_alloc | apply Kd.R_drewN | apply Kd.R_drew)); exact (Kd.R_mono (Kd.R_far (Kd.R_far (Kd.R_far (Kd.R_far (Kd.R_far (Kd.R_types HO1067.out BK1078.out (by decide)) (fun _ hk => hk.2) _) (fun _ hk => hk.2) _) (fun _ hk => hk.2) _) (fun _ hk => hk.2) _) (fun _ hk => hk.2) _) (fun _ h_ => h_.1))) hb); have n5_ := Aside0.mk (Kd.R_below (by (with_reducible repeat (first | apply Kd.R_alloc | apply Kd.R_drewN | apply Kd.R_drew)); exact (Kd.R_mono (Kd.R_far (Kd.R_far (Kd.R_far (Kd.R_far (Kd.R_far (Kd.R_types HO1070.out BK1078.out (by decide)) (fun _ hk => hk.2) _) (fun _ hk => hk.2) _) (fun _ hk => hk.2) _) (fun _ hk => hk.2) _) (fun _ hk => hk.2) _) (fun _ h_ => h_.1))) hb); have n6_ := Aside0.mk (Kd.R_below (by (with_reducible repeat (first | apply Kd.R_alloc | apply Kd.R_drewN | apply Kd.R_drew)); exact (Kd.R_mono (Kd.R_far (Kd.R_far (Kd.R_far (Kd.R_far (Kd.R_far (Kd.R_types HO1073.out BK1078.out (by decide)) (fun _ hk => hk.2) _) (fun _ hk => hk.2) _) (fun _ hk => hk.2) _) (fun _ hk => hk.2) _) (fun _ hk => hk.2) _) (fun _ h_ => h_.1))) hb); have n7_ := Aside0.mk (Kd.R_below (by (with_reducible repeat (first | apply Kd.R_alloc | apply Kd.R_drewN | apply Kd.R_drew)); exact (Kd.R_mono (Kd.R_far (Kd.R_far (Kd.R_far (Kd.R_far (Kd.R_far (Kd.R_types HO1076.out BK1078.out (by decide)) (fun _ hk => hk.2) _) (fun _ hk => hk.2) _) (fun _ hk => hk.2) _) (fun _ hk => hk.2) _) (fun _ hk => hk.2) _) (fun _ h_ => h_.1))) hb); have n8_ := Aside0.mk (blk_below (g := gb1049) (o := .cells #[.slice A0_0 l0_0.length c0_0, .slice A0_1 l0_1.length c0_1, .slice A0_2 l0_2.length c0_2, .slice A0_3 l0_3.length c0_3, .int .i64 a0_4] 56 (0, 0)) (by (with_reducible repeat (first | refine blk_drewN ?_ _ | refine blk_drew ?_ | refine blk_alloc ?_ _)); refine blk_far ?_ NB1049_1078.out _; (with_reducible repeat (first | refine blk_drewN ?_ _ | refine blk_drew ?_ | refine blk_alloc ?_ _)); refine blk_far ?_ NB1049_1078.out _; (with_reducible repeat (first | refine blk_drewN ?_ _ | refine blk_drew ?_ | refine blk_alloc ?_ _)); refine blk_far ?_ NB1049_1078.out _; (with_reducible repeat (first | refine blk_drewN ?_ _ | refine blk_drew ?_ | refine blk_alloc ?_ _)); refine blk_far ?_ NB1049_1078.out _; (with_reducible repeat (first | refine blk_drewN ?_ _ | refine blk_drew ?_ | refine blk_alloc ?_ _)); refine blk_far ?_ NB1049_1078.out _; (with_reducible repeat (first | refine blk_drewN ?_ _ | refine blk_drew ?_ | refine blk_alloc ?_ _)); exact BK1049.out) hb); have n9_ := Aside0.mk (blk_below (g := gb1078) (o := .cells #[.slice Ao28 t1065.length co28, .slice Ao31 t1068.length co31, .slice Ao32 t1071.length co32, .slice Ao33 t1074.length co33, .int .i64 t1077] 30 (0, 0)) (by (with_reducible repeat (first | refine blk_drewN ?_ _ | refine blk_drew ?_ | refine blk_alloc ?_ _)); refine blk_put (cs := #[.slice Ao28 t1065.length co28, .slice Ao31 t1068.length co31, .slice Ao32 t1071.length co32, .slice Ao33 t1074.length co33, .int .i64 0]) ?_ 4 _ rfl; (with_reducible repeat (first | refine blk_drewN ?_ _ | refine blk_drew ?_ | refine blk_alloc ?_ _)); refine blk_put (cs := #[.slice Ao28 t1065.length co28, .slice Ao31 t1068.length co31, .slice Ao32 t1071.length co32, .slice none 0 0, .int .i64 0]) ?_ 3 _ rfl; (with_reducible repeat (first | refine blk_drewN ?_ _ | refine blk_drew ?_ | refine blk_alloc ?_ _)); refine blk_put (cs := #[.slice Ao28 t1065.length co28, .slice Ao31 t1068.length co31, .slice none 0 0, .slice none 0 0, .int .i64 0]) ?_ 2 _ rfl; (with_reducible repeat (first | refine blk_drewN ?_ _ | refine blk_drew ?_ | refine blk_alloc ?_ _)); refine blk_put (cs := #[.slice Ao28 t1065.length co28, .slice none 0 0, .slice none 0 0, .slice none 0 0, .int .i64 0]) ?_ 1 _ rfl; (with_reducible repeat (first | refine blk_drewN ?_ _ | refine blk_drew ?_ | refine blk_alloc ?_ _)); refine blk_put (cs := #[.slice none 0 0, .slice none 0 0, .slice none 0 0, .slice none 0 0, .int .i64 0]) ?_ 0 _ rfl; (with_reducible repeat (first | refine blk_drewN ?_ _ | refine blk_drew ?_ | refine blk_alloc ?_ _)); exact BK1078.out) hb); have n10_ := Aside0.mk (below_step (by repeat (first | (with_reducible first | exact HB.out | apply below_alloc | apply pw_below_drewN | apply below_drew1 | refine below_set ?_ GE1049.out | refine below_set ?_ GE1078.out) | exact HB.out)) hb); clear HO1053; clear HO1056; clear HO1059; clear HO1062; clear HO1067; clear HO1070; clear HO1073; clear HO1076; clear BK1049; clear BK1078; clear HB; have HO1053 := n0_; have HO1056 := n1_; have HO1059 := n2_; have HO1062 := n3_; have HO1067 := n4_; have HO1070 := n5_; have HO1073 := n6_; have HO1076 := n7_; have BK1049 := n8_; have BK1078 := n9_; have HB := n10_; clear n0_ n1_ n2_ n3_ n4_ n5_ n6_ n7_ n8_ n9_ n10_; (try clear hb); (try clear hb2); (try clear hk); (try clear hi)))
    have n0_ := Aside0.mk (Kd.R_drew HO1053.out)
    have n1_ := Aside0.mk (Kd.R_drew HO1056.out)
    have n2_ := Aside0.mk (Kd.R_drew HO1059.out)
    have n3_ := Aside0.mk (Kd.R_drew HO1062.out)
    have n4_ := Aside0.mk (Kd.R_drew HO1067.out)
    have n5_ := Aside0.mk (Kd.R_drew HO1070.out)
    have n6_ := Aside0.mk (Kd.R_drew HO1073.out)
    have n7_ := Aside0.mk (Kd.R_drew HO1076.out)
    have n8_ := Aside0.mk (blk_drew BK1049.out)
    have n9_ := Aside0.mk (blk_drew BK1078.out)
    have n10_ := Aside0.mk (below_drew1 HB.out)
    clear HO1053
    clear HO1056
    clear HO1059
    clear HO1062
    clear HO1067
    clear HO1070
    clear HO1073
    clear HO1076
    clear BK1049
    clear BK1078
    clear HB
    have HO1053 := n0_
    have HO1056 := n1_
    have HO1059 := n2_
    have HO1062 := n3_
    have HO1067 := n4_
    have HO1070 := n5_
    have HO1073 := n6_
    have HO1076 := n7_
    have BK1049 := n8_
    have BK1078 := n9_
    have HB := n10_
    clear n0_ n1_ n2_ n3_ n4_ n5_ n6_ n7_ n8_ n9_ n10_
    refine start_ (n := 5) (S := fun w' => w'.cell? ⟨gb1078, 0, none⟩ = some (.slice Ao28 t1065.length co28) ∧ w'.cell? ⟨gb1078, 1, none⟩ = some (.slice Ao31 t1068.length co31) ∧ w'.cell? ⟨gb1078, 2, none⟩ = some (.slice Ao32 t1071.length co32) ∧ w'.cell? ⟨gb1078, 3, none⟩ = some (.slice Ao33 t1074.length co33) ∧ w'.cell? ⟨gb1078, 4, none⟩ = some (.int .i64 t1077) ∧ w'.cell? ⟨gb1049, 0, none⟩ = some (.slice A0_0 l0_0.length c0_0) ∧ w'.cell? ⟨gb1049, 1, none⟩ = some (.slice A0_1 l0_1.length c0_1) ∧ w'.cell? ⟨gb1049, 2, none⟩ = some (.slice A0_2 l0_2.length c0_2) ∧ w'.cell? ⟨gb1049, 3, none⟩ = some (.slice A0_3 l0_3.length c0_3) ∧ w'.cell? ⟨gb1049, 4, none⟩ = some (.int .i64 a0_4)) (ds := []) #[false, false, false, false, false] (by kernel_rfl) rfl rfl ⟨(blk_cell BK1078.out 0).trans rfl, (blk_cell BK1078.out 1).trans rfl, (blk_cell BK1078.out 2).trans rfl, (blk_cell BK1078.out 3).trans rfl, (blk_cell BK1078.out 4).trans rfl, (blk_cell BK1049.out 0).trans rfl, (blk_cell BK1049.out 1).trans rfl, (blk_cell BK1049.out 2).trans rfl, (blk_cell BK1049.out 3).trans rfl, (blk_cell BK1049.out 4).trans rfl⟩ (fun hHeld => ?_)
    generalize w34.drew = w35 at HO1053 HO1056 HO1059 HO1062 HO1067 HO1070 HO1073 HO1076 BK1049 BK1078 HB hHeld ⊢
    refine take_ (i := 0) (N := some 22) (v := ?_) (a' := ?_) #[true, false, false, false, false] rfl rfl (by kernel_rfl) (fun _ _ _ h => h) (Or.inl ⟨by rfl, ?_⟩) hHeld ?_ ?_
    rotate_left
    ·rintro w' ⟨s0, s1, s2, s3, s4, s5, s6, s7, s8, s9⟩
     go_simp
     with_reducible rfl
    rotate_left
    ·simp only [Act.put, List.setIfInBounds_toArray, List.set_cons_zero, List.set_cons_succ, i64_w, i32_w]
     rfl
    refine take_ (i := 1) (N := some 23) (v := ?_) (a' := ?_) #[true, true, false, false, false] rfl rfl (by kernel_rfl) (fun _ _ _ h => h) (Or.inl ⟨by rfl, ?_⟩) hHeld ?_ ?_
    rotate_left
    ·rintro w' ⟨s0, s1, s2, s3, s4, s5, s6, s7, s8, s9⟩
     go_simp
     with_reducible rfl
    rotate_left
    ·simp only [Act.put, List.setIfInBounds_toArray, List.set_cons_zero, List.set_cons_succ, i64_w, i32_w]
     rfl
    refine one_ (i := 2) (N := some 24) #[true, true, true, false, false] rfl rfl (by kernel_rfl) (by decide) (fun K hK => ?_)
    refine goes_ Try.func32 (by kernel_rfl) rfl #[.agg #[.slice A0_0 l0_0.length c0_0, .slice A0_1 l0_1.length c0_1, .slice A0_2 l0_2.length c0_2, .slice A0_3 l0_3.length c0_3, .int .i64 a0_4]] (by rfl) rfl rfl (by (try simp only [List.map_toArray, List.map_cons, List.map_nil]); first | done | rfl | (simp only [List.length_drop, List.length_take]; rfl)) ?_
    with_reducible refine (laws_toYard.calls k _ _ l0_0 _ _ l0_1 _ _ l0_2 _ _ l0_3 a0_4 t1080 t1083 t1086 t1089 t1092 _ ?side1 ?side2 ?side3 ?side4 ?side5 ?side6 ?side7 ?side8 A12.out).mono ?_
    (case side1 => repeat (first | exact (Kd.C_below HR0_0.out HB.out) | (with_reducible refine Kd.C_alloc ?_ _) | (with_reducible refine Kd.C_drewN ?_ _) | (with_reducible refine Kd.C_drew ?_)))
    (case side2 => exact HC0_0.out)
    (case side3 => repeat (first | exact (Kd.C_below HR0_1.out HB.out) | (with_reducible refine Kd.C_alloc ?_ _) | (with_reducible refine Kd.C_drewN ?_ _) | (with_reducible refine Kd.C_drew ?_)))
    (case side4 => exact HC0_1.out)
    (case side5 => repeat (first | exact (Kd.C_below HR0_2.out HB.out) | (with_reducible refine Kd.C_alloc ?_ _) | (with_reducible refine Kd.C_drewN ?_ _) | (with_reducible refine Kd.C_drew ?_)))
    (case side6 => exact HC0_2.out)
    (case side7 => repeat (first | exact (Kd.C_below HR0_3.out HB.out) | (with_reducible refine Kd.C_alloc ?_ _) | (with_reducible refine Kd.C_drewN ?_ _) | (with_reducible refine Kd.C_drew ?_)))
    (case side8 => exact HC0_3.out)
    rintro e w36 ⟨v1081, v1084, v1087, v1090, rfl, ho0, ho1, ho2, ho3, hb⟩
    refine ⟨_, rfl, ?_⟩
    have n0_ := Aside0.mk (Kd.R_elder' (by (with_reducible repeat (first | apply Kd.R_alloc | apply Kd.R_drewN | apply Kd.R_drew)); exact HO1053.out) (Kd.R_base ho0) hb)
    have n1_ := Aside0.mk (Kd.R_mono (Kd.R_told (Kd.R_told (Kd.R_old (by (with_reducible repeat (first | apply Kd.R_alloc | apply Kd.R_drewN | apply Kd.R_drew)); exact HO1056.out) hb) (Kd.R_base ho1)) (Kd.R_base ho2)) (fun _ h_ => h_.1))
    have n2_ := Aside0.mk (Kd.R_mono (Kd.R_told (Kd.R_told (Kd.R_old (by (with_reducible repeat (first | apply Kd.R_alloc | apply Kd.R_drewN | apply Kd.R_drew)); exact HO1059.out) hb) (Kd.R_base ho1)) (Kd.R_base ho2)) (fun _ h_ => h_.1))
    have n3_ := Aside0.mk (Kd.R_elder' (by (with_reducible repeat (first | apply Kd.R_alloc | apply Kd.R_drewN | apply Kd.R_drew)); exact HO1062.out) (Kd.R_base ho3) hb)
    have n4_ := Aside0.mk (Kd.R_elder' (by (with_reducible repeat (first | apply Kd.R_alloc | apply Kd.R_drewN | apply Kd.R_drew)); exact HO1067.out) (Kd.R_base ho0) hb)
    have n5_ := Aside0.mk (Kd.R_mono (Kd.R_told (Kd.R_told (Kd.R_old (by (with_reducible repeat (first | apply Kd.R_alloc | apply Kd.R_drewN | apply Kd.R_drew)); exact HO1070.out) hb) (Kd.R_base ho1)) (Kd.R_base ho2)) (fun _ h_ => h_.1))
    have n6_ := Aside0.mk (Kd.R_mono (Kd.R_told (Kd.R_told (Kd.R_old (by (with_reducible repeat (first | apply Kd.R_alloc | apply Kd.R_drewN | apply Kd.R_drew)); exact HO1073.out) hb) (Kd.R_base ho1)) (Kd.R_base ho2)) (fun _ h_ => h_.1))
    have n7_ := Aside0.mk (Kd.R_elder' (by (with_reducible repeat (first | apply Kd.R_alloc | apply Kd.R_drewN | apply Kd.R_drew)); exact HO1076.out) (Kd.R_base ho3) hb)
    have n8_ := Aside0.mk (Kd.R_lower (Kd.R_new' (Kd.R_new' ho0 (Kd.R_lt (by (with_reducible repeat (first | apply Kd.R_alloc | apply Kd.R_drewN | apply Kd.R_drew)); exact HO1053.out))) (Kd.R_lt (by (with_reducible repeat (first | apply Kd.R_alloc | apply Kd.R_drewN | apply Kd.R_drew)); exact HO1067.out))) (below_size (by repeat (first | (with_reducible first | exact HB.out | apply below_alloc | apply pw_below_drewN | apply below_drew1 | refine below_set ?_ GE1049.out | refine below_set ?_ GE1078.out) | exact HB.out))))
    have n9_ := Aside0.mk (Kd.R_lower (Kd.R_new' (Kd.R_new' (Kd.R_new' (Kd.R_new' ho1 (Kd.R_lt (by (with_reducible repeat (first | apply Kd.R_alloc | apply Kd.R_drewN | apply Kd.R_drew)); exact HO1056.out))) (Kd.R_lt (by (with_reducible repeat (first | apply Kd.R_alloc | apply Kd.R_drewN | apply Kd.R_drew)); exact HO1059.out))) (Kd.R_lt (by (with_reducible repeat (first | apply Kd.R_alloc | apply Kd.R_drewN | apply Kd.R_drew)); exact HO1070.out))) (Kd.R_lt (by (with_reducible repeat (first | apply Kd.R_alloc | apply Kd.R_drewN | apply Kd.R_drew)); exact HO1073.out))) (below_size (by repeat (first | (with_reducible first | exact HB.out | apply below_alloc | apply pw_below_drewN | apply below_drew1 | refine below_set ?_ GE1049.out | refine below_set ?_ GE1078.out) | exact HB.out))))
    have n10_ := Aside0.mk (Kd.R_lower (Kd.R_new' (Kd.R_new' (Kd.R_new' (Kd.R_new' ho2 (Kd.R_lt (by (with_reducible repeat (first | apply Kd.R_alloc | apply Kd.R_drewN | apply Kd.R_drew)); exact HO1056.out))) (Kd.R_lt (by (with_reducible repeat (first | apply Kd.R_alloc | apply Kd.R_drewN | apply Kd.R_drew)); exact HO1059.out))) (Kd.R_lt (by (with_reducible repeat (first | apply Kd.R_alloc | apply Kd.R_drewN | apply Kd.R_drew)); exact HO1070.out))) (Kd.R_lt (by (with_reducible repeat (first | apply Kd.R_alloc | apply Kd.R_drewN | apply Kd.R_drew)); exact HO1073.out))) (below_size (by repeat (first | (with_reducible first | exact HB.out | apply below_alloc | apply pw_below_drewN | apply below_drew1 | refine below_set ?_ GE1049.out | refine below_set ?_ GE1078.out) | exact HB.out))))
    have n11_ := Aside0.mk (Kd.R_lower (Kd.R_new' (Kd.R_new' ho3 (Kd.R_lt (by (with_reducible repeat (first | apply Kd.R_alloc | apply Kd.R_drewN | apply Kd.R_drew)); exact HO1062.out))) (Kd.R_lt (by (with_reducible repeat (first | apply Kd.R_alloc | apply Kd.R_drewN | apply Kd.R_drew)); exact HO1076.out))) (below_size (by repeat (first | (with_reducible first | exact HB.out | apply below_alloc | apply pw_below_drewN | apply below_drew1 | refine below_set ?_ GE1049.out | refine below_set ?_ GE1078.out) | exact HB.out))))
    have n12_ := Aside0.mk (blk_below (g := gb1049) (o := .cells #[.slice A0_0 l0_0.length c0_0, .slice A0_1 l0_1.length c0_1, .slice A0_2 l0_2.length c0_2, .slice A0_3 l0_3.length c0_3, .int .i64 a0_4] 56 (0, 0)) (by (with_reducible repeat (first | refine blk_drewN ?_ _ | refine blk_drew ?_ | refine blk_alloc ?_ _)); exact BK1049.out) hb)
    have n13_ := Aside0.mk (blk_below (g := gb1078) (o := .cells #[.slice Ao28 t1065.length co28, .slice Ao31 t1068.length co31, .slice Ao32 t1071.length co32, .slice Ao33 t1074.length co33, .int .i64 t1077] 30 (0, 0)) (by (with_reducible repeat (first | refine blk_drewN ?_ _ | refine blk_drew ?_ | refine blk_alloc ?_ _)); exact BK1078.out) hb)
    have n14_ := Aside0.mk (below_step (by repeat (first | (with_reducible first | exact HB.out | apply below_alloc | apply pw_below_drewN | apply below_drew1 | refine below_set ?_ GE1049.out | refine below_set ?_ GE1078.out) | exact HB.out)) hb)
    clear HO1053
    clear HO1056
    clear HO1059
    clear HO1062
    clear HO1067
    clear HO1070
    clear HO1073
    clear HO1076
    clear BK1049
    clear BK1078
    clear HB
    have HO1053 := n0_
    have HO1056 := n1_
    have HO1059 := n2_
    have HO1062 := n3_
    have HO1067 := n4_
    have HO1070 := n5_
    have HO1073 := n6_
    have HO1076 := n7_
    have HO1082 := n8_
    have HO1085 := n9_
    have HO1088 := n10_
    have HO1091 := n11_
    have BK1049 := n12_
    have BK1078 := n13_
    have HB := n14_
    clear n0_ n1_ n2_ n3_ n4_ n5_ n6_ n7_ n8_ n9_ n10_ n11_ n12_ n13_ n14_
    (try clear hb)
    (try clear hb2)
    (try clear hk)
    (try clear hi)
    (try clear ho0)
    (try clear ho1)
    (try clear ho2)
    (try clear ho3)
    obtain ⟨Ao37, co37, eo37⟩ := Kd.R_slice HO1082.out
    (first | subst eo37 | (injection eo37 with f1_ f2_ f3_; have f4_ := f1_.symm; have f5_ := f3_.symm; clear f1_ f2_ f3_; subst f4_; subst f5_))
    obtain ⟨Ao38, co38, eo38⟩ := Kd.R_slice HO1085.out
    (first | subst eo38 | (injection eo38 with f1_ f2_ f3_; have f4_ := f1_.symm; have f5_ := f3_.symm; clear f1_ f2_ f3_; subst f4_; subst f5_))
    obtain ⟨Ao39, co39, eo39⟩ := Kd.R_slice HO1088.out
    (first | subst eo39 | (injection eo39 with f1_ f2_ f3_; have f4_ := f1_.symm; have f5_ := f3_.symm; clear f1_ f2_ f3_; subst f4_; subst f5_))
    obtain ⟨Ao40, co40, eo40⟩ := Kd.R_slice HO1091.out
    (first | subst eo40 | (injection eo40 with f1_ f2_ f3_; have f4_ := f1_.symm; have f5_ := f3_.symm; clear f1_ f2_ f3_; subst f4_; subst f5_))
    refine hK.out _ _ ⟨(blk_cell BK1078.out 0).trans rfl, (blk_cell BK1078.out 1).trans rfl, (blk_cell BK1078.out 2).trans rfl, (blk_cell BK1078.out 3).trans rfl, (blk_cell BK1078.out 4).trans rfl, (blk_cell BK1049.out 0).trans rfl, (blk_cell BK1049.out 1).trans rfl, (blk_cell BK1049.out 2).trans rfl, (blk_cell BK1049.out 3).trans rfl, (blk_cell BK1049.out 4).trans rfl⟩ (fun hHeld => ?_)
    clear hK K
    refine norm_ (a' := ?_) ?_ ?_
    rotate_left
    ·show Act.put _ (some 24) _ = _
     simp only [Act.put, List.setIfInBounds_toArray, List.set_cons_zero, List.set_cons_succ, i64_w, i32_w]
     rfl
    refine one_ (i := 3) (N := some 25) #[true, true, true, true, false] rfl rfl (by kernel_rfl) (by decide) (fun K hK => ?_)
    refine goes_ Try.func27 (by kernel_rfl) rfl #[.agg #[.slice Ao28 t1065.length co28, .slice Ao31 t1068.length co31, .slice Ao32 t1071.length co32, .slice Ao33 t1074.length co33, .int .i64 t1077], .agg #[.slice Ao37 t1080.length co37, .slice Ao38 t1083.length co38, .slice Ao39 t1086.length co39, .slice Ao40 t1089.length co40, .int .i64 t1092]] (by rfl) rfl rfl (by (try simp only [List.map_toArray, List.map_cons, List.map_nil]); first | done | rfl | (simp only [List.length_drop, List.length_take]; rfl)) ?_
    with_reducible refine (laws_eqYard.calls k _ _ t1065 _ _ t1068 _ _ t1071 _ _ t1074 t1077 _ _ t1080 _ _ t1083 _ _ t1086 _ _ t1089 t1092 true _ ?side1 ?side2 ?side3 ?side4 ?side5 ?side6 ?side7 ?side8 ?side9 ?side10 ?side11 ?side12 ?side13 ?side14 ?side15 ?side16 A13.out).mono ?_
    (case side1 => repeat (first | exact (Kd.R_reads' HO1067.out).2.2 | (with_reducible refine Kd.C_alloc ?_ _) | (with_reducible refine Kd.C_drewN ?_ _) | (with_reducible refine Kd.C_drew ?_)))
    (case side2 => exact (Kd.R_reads' HO1067.out).2.1)
    (case side3 => repeat (first | exact (Kd.R_reads' HO1070.out).2.2 | (with_reducible refine Kd.C_alloc ?_ _) | (with_reducible refine Kd.C_drewN ?_ _) | (with_reducible refine Kd.C_drew ?_)))
    (case side4 => exact (Kd.R_reads' HO1070.out).2.1)
    (case side5 => repeat (first | exact (Kd.R_reads' HO1073.out).2.2 | (with_reducible refine Kd.C_alloc ?_ _) | (with_reducible refine Kd.C_drewN ?_ _) | (with_reducible refine Kd.C_drew ?_)))
    (case side6 => exact (Kd.R_reads' HO1073.out).2.1)
    (case side7 => repeat (first | exact (Kd.R_reads' HO1076.out).2.2 | (with_reducible refine Kd.C_alloc ?_ _) | (with_reducible refine Kd.C_drewN ?_ _) | (with_reducible refine Kd.C_drew ?_)))
    (case side8 => exact (Kd.R_reads' HO1076.out).2.1)
    (case side9 => repeat (first | exact (Kd.R_reads' HO1082.out).2.2 | (with_reducible refine Kd.C_alloc ?_ _) | (with_reducible refine Kd.C_drewN ?_ _) | (with_reducible refine Kd.C_drew ?_)))
    (case side10 => exact (Kd.R_reads' HO1082.out).2.1)
    (case side11 => repeat (first | exact (Kd.R_reads' HO1085.out).2.2 | (with_reducible refine Kd.C_alloc ?_ _) | (with_reducible refine Kd.C_drewN ?_ _) | (with_reducible refine Kd.C_drew ?_)))
    (case side12 => exact (Kd.R_reads' HO1085.out).2.1)
    (case side13 => repeat (first | exact (Kd.R_reads' HO1088.out).2.2 | (with_reducible refine Kd.C_alloc ?_ _) | (with_reducible refine Kd.C_drewN ?_ _) | (with_reducible refine Kd.C_drew ?_)))
    (case side14 => exact (Kd.R_reads' HO1088.out).2.1)
    (case side15 => repeat (first | exact (Kd.R_reads' HO1091.out).2.2 | (with_reducible refine Kd.C_alloc ?_ _) | (with_reducible refine Kd.C_drewN ?_ _) | (with_reducible refine Kd.C_drew ?_)))
    (case side16 => exact (Kd.R_reads' HO1091.out).2.1)
    rintro e w41 ⟨rfl, hb⟩
    refine ⟨_, rfl, ?_⟩
    have n0_ := Aside0.mk (Kd.R_below (by (with_reducible repeat (first | apply Kd.R_alloc | apply Kd.R_drewN | apply Kd.R_drew)); exact HO1053.out) hb)
    have n1_ := Aside0.mk (Kd.R_below (by (with_reducible repeat (first | apply Kd.R_alloc | apply Kd.R_drewN | apply Kd.R_drew)); exact HO1056.out) hb)
    have n2_ := Aside0.mk (Kd.R_below (by (with_reducible repeat (first | apply Kd.R_alloc | apply Kd.R_drewN | apply Kd.R_drew)); exact HO1059.out) hb)
    have n3_ := Aside0.mk (Kd.R_below (by (with_reducible repeat (first | apply Kd.R_alloc | apply Kd.R_drewN | apply Kd.R_drew)); exact HO1062.out) hb)
    have n4_ := Aside0.mk (Kd.R_below (by (with_reducible repeat (first | apply Kd.R_alloc | apply Kd.R_drewN | apply Kd.R_drew)); exact HO1067.out) hb)
    have n5_ := Aside0.mk (Kd.R_below (by (with_reducible repeat (first | apply Kd.R_alloc | apply Kd.R_drewN | apply Kd.R_drew)); exact HO1070.out) hb)
    have n6_ := Aside0.mk (Kd.R_below (by (with_reducible repeat (first | apply Kd.R_alloc | apply Kd.R_drewN | apply Kd.R_drew)); exact HO1073.out) hb)
    have n7_ := Aside0.mk (Kd.R_below (by (with_reducible repeat (first | apply Kd.R_alloc | apply Kd.R_drewN | apply Kd.R_drew)); exact HO1076.out) hb)
    have n8_ := Aside0.mk (Kd.R_below (by (with_reducible repeat (first | apply Kd.R_alloc | apply Kd.R_drewN | apply Kd.R_drew)); exact HO1082.out) hb)
    have n9_ := Aside0.mk (Kd.R_below (by (with_reducible repeat (first | apply Kd.R_alloc | apply Kd.R_drewN | apply Kd.R_drew)); exact HO1085.out) hb)
    have n10_ := Aside0.mk (Kd.R_below (by (with_reducible repeat (first | apply Kd.R_alloc | apply Kd.R_drewN | apply Kd.R_drew)); exact HO1088.out) hb)
    have n11_ := Aside0.mk (Kd.R_below (by (with_reducible repeat (first | apply Kd.R_alloc | apply Kd.R_drewN | apply Kd.R_drew)); exact HO1091.out) hb)
    have n12_ := Aside0.mk (blk_below (g := gb1049) (o := .cells #[.slice A0_0 l0_0.length c0_0, .slice A0_1 l0_1.length c0_1, .slice A0_2 l0_2.length c0_2, .slice A0_3 l0_3.length c0_3, .int .i64 a0_4] 56 (0, 0)) (by (with_reducible repeat (first | refine blk_drewN ?_ _ | refine blk_drew ?_ | refine blk_alloc ?_ _)); exact BK1049.out) hb)
    have n13_ := Aside0.mk (blk_below (g := gb1078) (o := .cells #[.slice Ao28 t1065.length co28, .slice Ao31 t1068.length co31, .slice Ao32 t1071.length co32, .slice Ao33 t1074.length co33, .int .i64 t1077] 30 (0, 0)) (by (with_reducible repeat (first | refine blk_drewN ?_ _ | refine blk_drew ?_ | refine blk_alloc ?_ _)); exact BK1078.out) hb)
    have n14_ := Aside0.mk (below_step (by repeat (first | (with_reducible first | exact HB.out | apply below_alloc | apply pw_below_drewN | apply below_drew1 | refine below_set ?_ GE1049.out | refine below_set ?_ GE1078.out) | exact HB.out)) hb)
    clear HO1053
    clear HO1056
    clear HO1059
    clear HO1062
    clear HO1067
    clear HO1070
    clear HO1073
    clear HO1076
    clear HO1082
    clear HO1085
    clear HO1088
    clear HO1091
    clear BK1049
    clear BK1078
    clear HB
    have HO1053 := n0_
    have HO1056 := n1_
    have HO1059 := n2_
    have HO1062 := n3_
    have HO1067 := n4_
    have HO1070 := n5_
    have HO1073 := n6_
    have HO1076 := n7_
    have HO1082 := n8_
    have HO1085 := n9_
    have HO1088 := n10_
    have HO1091 := n11_
    have BK1049 := n12_
    have BK1078 := n13_
    have HB := n14_
    clear n0_ n1_ n2_ n3_ n4_ n5_ n6_ n7_ n8_ n9_ n10_ n11_ n12_ n13_ n14_
    (try clear hb)
    (try clear hb2)
    (try clear hk)
    (try clear hi)
    refine hK.out _ _ ⟨(blk_cell BK1078.out 0).trans rfl, (blk_cell BK1078.out 1).trans rfl, (blk_cell BK1078.out 2).trans rfl, (blk_cell BK1078.out 3).trans rfl, (blk_cell BK1078.out 4).trans rfl, (blk_cell BK1049.out 0).trans rfl, (blk_cell BK1049.out 1).trans rfl, (blk_cell BK1049.out 2).trans rfl, (blk_cell BK1049.out 3).trans rfl, (blk_cell BK1049.out 4).trans rfl⟩ (fun hHeld => ?_)
    clear hK K
    refine norm_ (a' := ?_) ?_ ?_
    rotate_left
    ·show Act.put _ (some 25) _ = _
     simp only [Act.put, List.setIfInBounds_toArray, List.set_cons_zero, List.set_cons_succ, i64_w, i32_w]
     rfl
    refine pure_ (i := 4) (N := some 26) (v := ?_) (a' := ?_) #[true, true, true, true, true] rfl rfl (by kernel_rfl) (fun _ _ _ h => h) (Or.inl ⟨by rfl, ?_⟩) ?_ ?_
    rotate_left
    ·intro w'
     go_simp
     with_reducible rfl
    rotate_left
    ·simp only [Act.put, List.setIfInBounds_toArray, List.set_cons_zero, List.set_cons_succ, i64_w, i32_w]
     rfl
    refine done_ (by kernel_rfl) ?_
    try go_wp2
    go_ret
    (try rw [HT_.out])
    (try simp only [HT_.out])
    exact ⟨by first | rfl | (simp [errW_none, errW_some] <;> rfl) | (simp [*, errW_none, errW_some] <;> rfl), by repeat (first | (with_reducible first | exact HB.out | apply below_alloc | apply pw_below_drewN | apply below_drew1 | refine below_set ?_ GE1049.out | refine below_set ?_ GE1078.out) | exact HB.out)⟩
   ·replace c14 := Bool.eq_false_iff.mpr c14
    subst c14
    have H1 : (some false) = some true := by rw [if_neg (show ¬ (false = true) by decide)] at H; exact H
    clear H
    have H := H1
    clear H1
    exact absurd H (by first | (simp; done) | ((repeat' split) <;> simp))

/-- THE ONE PURE STATEMENT of laws_FnExactYardOk. -/
def laws_FnExactYardOk.Pure : Prop := ∀ (l0_0 : List (S114)) (l0_1 : List Int) (l0_2 : List Int) (l0_3 : List (S109)) (a0_4 : Int), (l0_0.length ≤ maxLen ∧ ∀ z0 ∈ l0_0, wf114 z0) → (l0_1.length ≤ maxLen ∧ ∀ z0 ∈ l0_1, (Lit.int .i64 z0).wf = true) → (l0_2.length ≤ maxLen ∧ ∀ z0 ∈ l0_2, (Lit.int .i64 z0).wf = true) → (l0_3.length ≤ maxLen ∧ ∀ z0 ∈ l0_3, wf109 z0) → (Lit.int .i64 a0_4).wf = true → ∃ k, laws_FnExactYardOk.f k l0_0 l0_1 l0_2 l0_3 a0_4 = some true


end Go.Proofs.Ytemdjfiimgjiaaa.M
