/- What the Go functions that the law FnPhasors reaches compute, as plain Lean functions, and that their calls come to just that. Conditions: those that each theorem states. Written by the session's program. -/
import Derived.Test.YthjlapmjpjpgeaaVFnPhasorsB
namespace Go.Proofs.Ythjlapmjpjpgeaa.DX
open Go.RowKit Go.Proofs.YthjlapmjpjpgeaaW.PrintWords Go.Proofs.YthjlapmjpjpgeaaW.PrintLast Go.Proofs.YthjlapmjpjpgeaaW.PrintMore
attribute [local go_sem] run_store_float max2_int min2_int max_two min_two max_three min_three max_four min_four   -- for this text's walks alone
set_option linter.unusedVariables false
set_option linter.unusedSimpArgs false

def impl_PhTimes.f (a0_0 : Nat) (a0_1 : Nat) (a1_0 : Nat) (a1_1 : Nat) (Q_ : (Nat × Nat) → Prop) : Prop := ∀ fr110 : Nat, FRk .f64 .mul a0_0 a1_0 fr110 → (∀ fr111 : Nat, FRk .f64 .mul a0_1 a1_1 fr111 → (∀ fr112 : Nat, FRk .f64 .mul a0_0 a1_1 fr112 → (∀ fr113 : Nat, FRk .f64 .mul a0_1 a1_0 fr113 → (∀ fr114 : Nat, FRk .f64 .sub fr110 fr111 fr114 → (∀ fr115 : Nat, FRk .f64 .add fr112 fr113 fr115 → (Q_ (fr114, fr115)))))))
set_option maxHeartbeats 8000000 in
set_option maxRecDepth 100000 in
theorem impl_PhTimes.calls (a0_0 : Nat) (a0_1 : Nat) (a1_0 : Nat) (a1_1 : Nat) (Q_ : (Nat × Nat) → Prop) (w : World) (h : impl_PhTimes.f a0_0 a0_1 a1_0 a1_1 Q_) :
  Calls Try.prog 23 #[.agg #[.float .f64 a0_0, .float .f64 a0_1], .agg #[.float .f64 a1_0, .float .f64 a1_1]] w fun e w' => Dq2 Q_ (fun (r1 : Nat) (r2 : Nat) => e = .returned (.agg #[.float .f64 r1, .float .f64 r2]) ∧ Below w.heap.size w w') := by
 have hu28 := Try.underlying28
 have HB := Aside0.mk (Below.refl w.heap.size w)
 have H : (∀ fr110 : Nat, FRk .f64 .mul a0_0 a1_0 fr110 → (∀ fr111 : Nat, FRk .f64 .mul a0_1 a1_1 fr111 → (∀ fr112 : Nat, FRk .f64 .mul a0_0 a1_1 fr112 → (∀ fr113 : Nat, FRk .f64 .mul a0_1 a1_0 fr113 → (∀ fr114 : Nat, FRk .f64 .sub fr110 fr111 fr114 → (∀ fr115 : Nat, FRk .f64 .add fr112 fr113 fr115 → (Q_ (fr114, fr115)))))))) := h
 clear h
 have HD4 := Aside0.mk H
 clear H
 go_enter Try.func23, Try.ntmps23
 try go_wp2_with (first | ((with_reducible refine gate_dst (N := 2) rfl ?_); refine box_event ?hg (N := 2) ?hd (cs := #[.float .f64 a0_0, .float .f64 a0_1]) (t := 28) ?hr ?_; (case hd => rfl); (case hg => rfl); (case hr => first | (go_simp; done) | (go_simp; rfl)); intro gb107 hg w6 hbox hb; have n0_ := Aside0.mk (below_step (by repeat (first | (with_reducible first | exact HB.out | apply below_alloc | apply pw_below_drewN | apply below_drew1) | exact HB.out)) hb); have n1_ := Aside0.mk (hbox); have n2_ := Aside0.mk ((by rw [hg]; exact (below_size (by repeat (first | (with_reducible first | exact HB.out | apply below_alloc | apply pw_below_drewN | apply below_drew1) | exact HB.out))) : w.heap.size ≤ gb107)); have n3_ := Aside0.mk ((by rw [hg]; exact (below_size (by repeat (first | (with_reducible first | exact HB.out | apply below_alloc | apply pw_below_drewN | apply below_drew1) | exact HB.out))) : w.heap.size ≤ gb107)); clear HB; have HB := n0_; have BK107 := n1_; have GW107 := n2_; have GE107 := n3_; clear n0_ n1_ n2_ n3_; clear hb hbox hg) | ((with_reducible refine gate_dst (N := 3) rfl ?_); refine box_event ?hg (N := 3) ?hd (cs := #[.float .f64 a1_0, .float .f64 a1_1]) (t := 28) ?hr ?_; (case hd => rfl); (case hg => rfl); (case hr => first | (go_simp; done) | (go_simp; rfl)); intro gb108 hg w7 hbox hb; have n0_ := Aside0.mk (blk_below (g := gb107) (o := .cells #[.float .f64 a0_0, .float .f64 a0_1] 28 (0, 0)) (by (with_reducible repeat (first | refine blk_drewN ?_ _ | refine blk_drew ?_ | refine blk_alloc ?_ _)); exact BK107.out) hb); have n1_ := Aside0.mk (below_step (by repeat (first | (with_reducible first | exact HB.out | apply below_alloc | apply pw_below_drewN | apply below_drew1 | refine below_set ?_ GE107.out) | exact HB.out)) hb); have n2_ := Aside0.mk (hbox); have n3_ := Aside0.mk ((by rw [hg]; exact (below_size (by repeat (first | (with_reducible first | exact HB.out | apply below_alloc | apply pw_below_drewN | apply below_drew1 | refine below_set ?_ GE107.out) | exact HB.out))) : w.heap.size ≤ gb108)); have n4_ := Aside0.mk ((by rw [hg]; exact (below_size (by repeat (first | (with_reducible first | exact HB.out | apply below_alloc | apply pw_below_drewN | apply below_drew1 | refine below_set ?_ GE107.out) | exact HB.out))) : w.heap.size ≤ gb108)); have n5_ := Aside0.mk ((by rw [hg]; exact Nat.ne_of_lt (blk_lt (g := gb107) (o := .cells #[.float .f64 a0_0, .float .f64 a0_1] 28 (0, 0)) (by (with_reducible repeat (first | refine blk_drewN ?_ _ | refine blk_drew ?_ | refine blk_alloc ?_ _)); exact BK107.out)) : gb107 ≠ gb108)); have n6_ := Aside0.mk ((by rw [hg]; exact Nat.ne_of_gt (blk_lt (g := gb107) (o := .cells #[.float .f64 a0_0, .float .f64 a0_1] 28 (0, 0)) (by (with_reducible repeat (first | refine blk_drewN ?_ _ | refine blk_drew ?_ | refine blk_alloc ?_ _)); exact BK107.out)) : gb108 ≠ gb107)); clear BK107; clear HB; have BK107 := n0_; have HB := n1_; have BK108 := n2_; have GW108 := n3_; have GE108 := n4_; have NB107_108 := n5_; have NB108_107 := n6_; clear n0_ n1_ n2_ n3_ n4_ n5_ n6_; clear hb hbox hg) | ((with_reducible refine gate_dst (N := 4) rfl ?_); refine box_event ?hg (N := 4) ?hd (cs := #[.float .f64 0, .float .f64 0]) (t := 28) ?hr ?_; (case hd => rfl); (case hg => rfl); (case hr => first | (go_simp; done) | (go_simp; rfl)); intro gb109 hg w8 hbox hb; have n0_ := Aside0.mk (blk_below (g := gb107) (o := .cells #[.float .f64 a0_0, .float .f64 a0_1] 28 (0, 0)) (by (with_reducible repeat (first | refine blk_drewN ?_ _ | refine blk_drew ?_ | refine blk_alloc ?_ _)); exact BK107.out) hb); have n1_ := Aside0.mk (blk_below (g := gb108) (o := .cells #[.float .f64 a1_0, .float .f64 a1_1] 28 (0, 0)) (by (with_reducible repeat (first | refine blk_drewN ?_ _ | refine blk_drew ?_ | refine blk_alloc ?_ _)); exact BK108.out) hb); have n2_ := Aside0.mk (below_step (by repeat (first | (with_reducible first | exact HB.out | apply below_alloc | apply pw_below_drewN | apply below_drew1 | refine below_set ?_ GE107.out | refine below_set ?_ GE108.out) | exact HB.out)) hb); have n3_ := Aside0.mk (hbox); have n4_ := Aside0.mk ((by rw [hg]; exact (below_size (by repeat (first | (with_reducible first | exact HB.out | apply below_alloc | apply pw_below_drewN | apply below_drew1 | refine below_set ?_ GE107.out | refine below_set ?_ GE108.out) | exact HB.out))) : w.heap.size ≤ gb109)); have n5_ := Aside0.mk ((by rw [hg]; exact (below_size (by repeat (first | (with_reducible first | exact HB.out | apply below_alloc | apply pw_below_drewN | apply below_drew1 | refine below_set ?_ GE107.out | refine below_set ?_ GE108.out) | exact HB.out))) : w.heap.size ≤ gb109)); have n6_ := Aside0.mk ((by rw [hg]; exact Nat.ne_of_lt (blk_lt (g := gb107) (o := .cells #[.float .f64 a0_0, .float .f64 a0_1] 28 (0, 0)) (by (with_reducible repeat (first | refine blk_drewN ?_ _ | refine blk_drew ?_ | refine blk_alloc ?_ _)); exact BK107.out)) : gb107 ≠ gb109)); have n7_ := Aside0.mk ((by rw [hg]; exact Nat.ne_of_gt (blk_lt (g := gb107) (o := .cells #[.float .f64 a0_0, .float .f64 a0_1] 28 (0, 0)) (by (with_reducible repeat (first | refine blk_drewN ?_ _ | refine blk_drew ?_ | refine blk_alloc ?_ _)); exact BK107.out)) : gb109 ≠ gb107)); have n8_ := Aside0.mk ((by rw [hg]; exact Nat.ne_of_lt (blk_lt (g := gb108) (o := .cells #[.float .f64 a1_0, .float .f64 a1_1] 28 (0, 0)) (by (with_reducible repeat (first | refine blk_drewN ?_ _ | refine blk_drew ?_ | refine blk_alloc ?_ _)); exact BK108.out)) : gb108 ≠ gb109)); have n9_ := Aside0.mk ((by rw [hg]; exact Nat.ne_of_gt (blk_lt (g := gb108) (o := .cells #[.float .f64 a1_0, .float .f64 a1_1] 28 (0, 0)) (by (with_reducible repeat (first | refine blk_drewN ?_ _ | refine blk_drew ?_ | refine blk_alloc ?_ _)); exact BK108.out)) : gb109 ≠ gb108)); clear BK107; clear BK108; clear HB; have BK107 := n0_; have BK108 := n1_; have HB := n2_; have BK109 := n3_; have GW109 := n4_; have GE109 := n5_; have NB107_109 := n6_; have NB109_107 := n7_; have NB108_109 := n8_; have NB109_108 := n9_; clear n0_ n1_ n2_ n3_ n4_ n5_ n6_ n7_ n8_ n9_; clear hb hbox hg))
 have hnb9 := NB107_108.out
 have hnc9 := NB108_107.out
 have hnb10 := NB107_109.out
 have hnc10 := NB109_107.out
 have hcz11_0 : w8.cell? ⟨gb107, 0, none⟩ = some (.float .f64 a0_0) := (blk_cell BK107.out 0).trans rfl
 have hcz11_1 : w8.cell? ⟨gb107, 1, none⟩ = some (.float .f64 a0_1) := (blk_cell BK107.out 1).trans rfl
 have hfz11_0 := blk_frozen BK107.out 0
 have hfz11_1 := blk_frozen BK107.out 1
 have hnb12 := NB108_109.out
 have hnc12 := NB109_108.out
 have hcz13_0 : w8.cell? ⟨gb108, 0, none⟩ = some (.float .f64 a1_0) := (blk_cell BK108.out 0).trans rfl
 have hcz13_1 : w8.cell? ⟨gb108, 1, none⟩ = some (.float .f64 a1_1) := (blk_cell BK108.out 1).trans rfl
 have hfz13_0 := blk_frozen BK108.out 0
 have hfz13_1 := blk_frozen BK108.out 1
 refine start_ (n := 12) (S := fun w' => w'.heap = w8.heap) (ds := []) #[false, false, false, false, false, false, false, false, false, false, false, false] (by kernel_rfl) rfl rfl rfl (fun hHeld => ?_)
 have HD_ : Below w8.heap.size w8 w8.drew := below_drew1 (Below.refl _ _)
 generalize w8.drew = w14 at HD_ hHeld ⊢
 refine pure_ (i := 0) (N := (some 9)) (v := ?_) (a' := ?_) #[true, false, false, false, false, false, false, false, false, false, false, false] rfl rfl (by kernel_rfl) (fun _ _ _ h => h) (Or.inl ⟨by rfl, ?_⟩) ?_ ?_
 rotate_left
 ·intro w'
  go_simp
  with_reducible rfl
 rotate_left
 ·simp only [Act.put, List.setIfInBounds_toArray, List.set_cons_zero, List.set_cons_succ, i64_w, i32_w]
  rfl
 refine take_ (i := 1) (N := (some 10)) (v := ?_) (a' := ?_) #[true, true, false, false, false, false, false, false, false, false, false, false] rfl rfl (by kernel_rfl) (fun _ _ _ h => h) (Or.inl ⟨by rfl, ?_⟩) hHeld ?_ ?_
 rotate_left
 ·intro w' s0
  have t0_ := (cell_heap s0 _).trans hcz11_0
  have t1_ := (cell_heap s0 _).trans hcz11_1
  have t2_ := (cell_heap s0 _).trans hcz13_0
  have t3_ := (cell_heap s0 _).trans hcz13_1
  go_simp
  with_reducible rfl
 rotate_left
 ·simp only [Act.put, List.setIfInBounds_toArray, List.set_cons_zero, List.set_cons_succ, i64_w, i32_w]
  rfl
 refine pure_ (i := 2) (N := (some 11)) (v := ?_) (a' := ?_) #[true, true, true, false, false, false, false, false, false, false, false, false] rfl rfl (by kernel_rfl) (fun _ _ _ h => h) (Or.inl ⟨by rfl, ?_⟩) ?_ ?_
 rotate_left
 ·intro w'
  go_simp
  with_reducible rfl
 rotate_left
 ·simp only [Act.put, List.setIfInBounds_toArray, List.set_cons_zero, List.set_cons_succ, i64_w, i32_w]
  rfl
 refine take_ (i := 3) (N := (some 12)) (v := ?_) (a' := ?_) #[true, true, true, true, false, false, false, false, false, false, false, false] rfl rfl (by kernel_rfl) (fun _ _ _ h => h) (Or.inl ⟨by rfl, ?_⟩) hHeld ?_ ?_
 rotate_left
 ·intro w' s0
  have t0_ := (cell_heap s0 _).trans hcz11_0
  have t1_ := (cell_heap s0 _).trans hcz11_1
  have t2_ := (cell_heap s0 _).trans hcz13_0
  have t3_ := (cell_heap s0 _).trans hcz13_1
  go_simp
  with_reducible rfl
 rotate_left
 ·simp only [Act.put, List.setIfInBounds_toArray, List.set_cons_zero, List.set_cons_succ, i64_w, i32_w]
  rfl
 refine pure_ (i := 5) (N := (some 14)) (v := ?_) (a' := ?_) #[true, true, true, true, false, true, false, false, false, false, false, false] rfl rfl (by kernel_rfl) (fun _ _ _ h => h) (Or.inl ⟨by rfl, ?_⟩) ?_ ?_
 rotate_left
 ·intro w'
  go_simp
  with_reducible rfl
 rotate_left
 ·simp only [Act.put, List.setIfInBounds_toArray, List.set_cons_zero, List.set_cons_succ, i64_w, i32_w]
  rfl
 refine take_ (i := 6) (N := (some 15)) (v := ?_) (a' := ?_) #[true, true, true, true, false, true, true, false, false, false, false, false] rfl rfl (by kernel_rfl) (fun _ _ _ h => h) (Or.inl ⟨by rfl, ?_⟩) hHeld ?_ ?_
 rotate_left
 ·intro w' s0
  have t0_ := (cell_heap s0 _).trans hcz11_0
  have t1_ := (cell_heap s0 _).trans hcz11_1
  have t2_ := (cell_heap s0 _).trans hcz13_0
  have t3_ := (cell_heap s0 _).trans hcz13_1
  go_simp
  with_reducible rfl
 rotate_left
 ·simp only [Act.put, List.setIfInBounds_toArray, List.set_cons_zero, List.set_cons_succ, i64_w, i32_w]
  rfl
 refine pure_ (i := 7) (N := (some 16)) (v := ?_) (a' := ?_) #[true, true, true, true, false, true, true, true, false, false, false, false] rfl rfl (by kernel_rfl) (fun _ _ _ h => h) (Or.inl ⟨by rfl, ?_⟩) ?_ ?_
 rotate_left
 ·intro w'
  go_simp
  with_reducible rfl
 rotate_left
 ·simp only [Act.put, List.setIfInBounds_toArray, List.set_cons_zero, List.set_cons_succ, i64_w, i32_w]
  rfl
 refine take_ (i := 8) (N := (some 17)) (v := ?_) (a' := ?_) #[true, true, true, true, false, true, true, true, true, false, false, false] rfl rfl (by kernel_rfl) (fun _ _ _ h => h) (Or.inl ⟨by rfl, ?_⟩) hHeld ?_ ?_
 rotate_left
 ·intro w' s0
  have t0_ := (cell_heap s0 _).trans hcz11_0
  have t1_ := (cell_heap s0 _).trans hcz11_1
  have t2_ := (cell_heap s0 _).trans hcz13_0
  have t3_ := (cell_heap s0 _).trans hcz13_1
  go_simp
  with_reducible rfl
 rotate_left
 ·simp only [Act.put, List.setIfInBounds_toArray, List.set_cons_zero, List.set_cons_succ, i64_w, i32_w]
  rfl
 refine join_ (σ := Nat × Nat) 0 #[true, true, true, true, true, true, true, true, true, true, true, true] (fun s_ => [(13, .float .f64 s_.1), (18, .float .f64 s_.2), (5, .float .f64 s_.1), (6, .float .f64 s_.2)]) (fun s_ w' => FRk .f64 .mul a0_0 a1_0 s_.1 ∧ FRk .f64 .mul a0_1 a1_1 s_.2 ∧ w'.heap = w8.heap ∧ Below w8.heap.size w8 w') ?_ ?_
 rotate_left
 ·intro hCont
  refine two_ (i := 4) (j := 9) (Ni := (some 13)) (Nj := (some 18)) #[true, true, true, true, true, true, true, true, true, false, false, false] #[true, true, true, true, false, true, true, true, true, true, false, false] rfl rfl rfl rfl (by kernel_rfl) (by decide) (by decide) (fun K hK => ?_) (fun K hK => ?_)
  ·refine fl_step (k := .f64) (R := FRk .f64 .mul a0_0 a1_0) ?hw (N := 13) ?hd ?hr ?_
   (case hw => rfl)
   (case hd => rfl)
   (case hr => obtain ⟨r_, w_, hc_, hR_, hq_⟩ := frk_run (P := Try.prog) .f64 .mul 26 a0_0 a1_0 _ (by simp); exact ⟨r_, w_, by first | (go_simp; done) | (go_simp; rfl), hR_, hq_⟩)
   intro fr110 wa_ hR4_ hq_
   have hHeld2 := (Quiet1.heap hq_).trans hHeld
   replace HD_ := below_step HD_ (Quiet1.below hq_)
   clear hHeld hq_
   refine hK.out _ _ hHeld2 (fun hHeld => ?_)
   clear hK K hHeld2
   refine norm_ (a' := ?_) ?_ ?_
   rotate_left
   ·show Act.put _ (some 13) _ = _
    simp only [Act.put, List.setIfInBounds_toArray, List.set_cons_zero, List.set_cons_succ, i64_w, i32_w]
    rfl
   refine pure_ (i := 10) (N := (some 5)) (v := ?_) (a' := ?_) #[true, true, true, true, true, true, true, true, true, false, true, false] rfl rfl (by kernel_rfl) (fun _ _ _ h => h) (Or.inl ⟨by rfl, ?_⟩) ?_ ?_
   rotate_left
   ·intro w'
    go_simp
    with_reducible rfl
   rotate_left
   ·simp only [Act.put, List.setIfInBounds_toArray, List.set_cons_zero, List.set_cons_succ, i64_w, i32_w]
    rfl
   refine one_ (i := 9) (N := (some 18)) #[true, true, true, true, true, true, true, true, true, true, true, false] rfl rfl (by kernel_rfl) (by decide) (fun K hK => ?_)
   refine fl_step (k := .f64) (R := FRk .f64 .mul a0_1 a1_1) ?hw (N := 18) ?hd ?hr ?_
   (case hw => rfl)
   (case hd => rfl)
   (case hr => obtain ⟨r_, w_, hc_, hR_, hq_⟩ := frk_run (P := Try.prog) .f64 .mul 26 a0_1 a1_1 _ (by simp); exact ⟨r_, w_, by first | (go_simp; done) | (go_simp; rfl), hR_, hq_⟩)
   intro fr111 wb_ hR9_ hq_
   have hHeld2 := (Quiet1.heap hq_).trans hHeld
   replace HD_ := below_step HD_ (Quiet1.below hq_)
   clear hHeld hq_
   refine hK.out _ _ hHeld2 (fun hHeld => ?_)
   clear hK K hHeld2
   refine norm_ (a' := ?_) ?_ ?_
   rotate_left
   ·show Act.put _ (some 18) _ = _
    simp only [Act.put, List.setIfInBounds_toArray, List.set_cons_zero, List.set_cons_succ, i64_w, i32_w]
    rfl
   refine pure_ (i := 11) (N := (some 6)) (v := ?_) (a' := ?_) #[true, true, true, true, true, true, true, true, true, true, true, true] rfl rfl (by kernel_rfl) (fun _ _ _ h => h) (Or.inl ⟨by rfl, ?_⟩) ?_ ?_
   rotate_left
   ·intro w'
    go_simp
    with_reducible rfl
   rotate_left
   ·simp only [Act.put, List.setIfInBounds_toArray, List.set_cons_zero, List.set_cons_succ, i64_w, i32_w]
    rfl
   exact norm_ (by simp only [putAll, Act.put, List.setIfInBounds_toArray, List.set_cons_zero, List.set_cons_succ]) (hCont (fr110, fr111) _ ⟨hR4_, hR9_, hHeld, HD_⟩)
  ·refine fl_step (k := .f64) (R := FRk .f64 .mul a0_1 a1_1) ?hw (N := 18) ?hd ?hr ?_
   (case hw => rfl)
   (case hd => rfl)
   (case hr => obtain ⟨r_, w_, hc_, hR_, hq_⟩ := frk_run (P := Try.prog) .f64 .mul 26 a0_1 a1_1 _ (by simp); exact ⟨r_, w_, by first | (go_simp; done) | (go_simp; rfl), hR_, hq_⟩)
   intro fr111 wa_ hR9_ hq_
   have hHeld2 := (Quiet1.heap hq_).trans hHeld
   replace HD_ := below_step HD_ (Quiet1.below hq_)
   clear hHeld hq_
   refine hK.out _ _ hHeld2 (fun hHeld => ?_)
   clear hK K hHeld2
   refine norm_ (a' := ?_) ?_ ?_
   rotate_left
   ·show Act.put _ (some 18) _ = _
    simp only [Act.put, List.setIfInBounds_toArray, List.set_cons_zero, List.set_cons_succ, i64_w, i32_w]
    rfl
   refine one_ (i := 4) (N := (some 13)) #[true, true, true, true, true, true, true, true, true, true, false, false] rfl rfl (by kernel_rfl) (by decide) (fun K hK => ?_)
   refine fl_step (k := .f64) (R := FRk .f64 .mul a0_0 a1_0) ?hw (N := 13) ?hd ?hr ?_
   (case hw => rfl)
   (case hd => rfl)
   (case hr => obtain ⟨r_, w_, hc_, hR_, hq_⟩ := frk_run (P := Try.prog) .f64 .mul 26 a0_0 a1_0 _ (by simp); exact ⟨r_, w_, by first | (go_simp; done) | (go_simp; rfl), hR_, hq_⟩)
   intro fr110 wb_ hR4_ hq_
   have hHeld2 := (Quiet1.heap hq_).trans hHeld
   replace HD_ := below_step HD_ (Quiet1.below hq_)
   clear hHeld hq_
   refine hK.out _ _ hHeld2 (fun hHeld => ?_)
   clear hK K hHeld2
   refine norm_ (a' := ?_) ?_ ?_
   rotate_left
   ·show Act.put _ (some 13) _ = _
    simp only [Act.put, List.setIfInBounds_toArray, List.set_cons_zero, List.set_cons_succ, i64_w, i32_w]
    rfl
   refine pure_ (i := 10) (N := (some 5)) (v := ?_) (a' := ?_) #[true, true, true, true, true, true, true, true, true, true, true, false] rfl rfl (by kernel_rfl) (fun _ _ _ h => h) (Or.inl ⟨by rfl, ?_⟩) ?_ ?_
   rotate_left
   ·intro w'
    go_simp
    with_reducible rfl
   rotate_left
   ·simp only [Act.put, List.setIfInBounds_toArray, List.set_cons_zero, List.set_cons_succ, i64_w, i32_w]
    rfl
   refine pure_ (i := 11) (N := (some 6)) (v := ?_) (a' := ?_) #[true, true, true, true, true, true, true, true, true, true, true, true] rfl rfl (by kernel_rfl) (fun _ _ _ h => h) (Or.inl ⟨by rfl, ?_⟩) ?_ ?_
   rotate_left
   ·intro w'
    go_simp
    with_reducible rfl
   rotate_left
   ·simp only [Act.put, List.setIfInBounds_toArray, List.set_cons_zero, List.set_cons_succ, i64_w, i32_w]
    rfl
   exact norm_ (by simp only [putAll, Act.put, List.setIfInBounds_toArray, List.set_cons_zero, List.set_cons_succ]) (hCont (fr110, fr111) _ ⟨hR4_, hR9_, hHeld, HD_⟩)
 rintro ⟨fr110, fr111⟩ w15 ⟨hR4_, hR9_, hHeld, hb⟩
 replace hR4_ : FRk .f64 .mul a0_0 a1_0 fr110 := hR4_
 replace hR9_ : FRk .f64 .mul a0_1 a1_1 fr111 := hR9_
 refine norm_ (a' := ?_) ?_ ?_
 rotate_left
 ·simp only [putAll, Act.put, List.setIfInBounds_toArray, List.set_cons_zero, List.set_cons_succ]
  rfl
 have HD5 := Aside0.mk (HD4.out fr110 hR4_ fr111 hR9_)
 have n0_ := Aside0.mk (blk_below (g := gb107) (o := .cells #[.float .f64 a0_0, .float .f64 a0_1] 28 (0, 0)) (by (with_reducible repeat (first | refine blk_drewN ?_ _ | refine blk_drew ?_ | refine blk_alloc ?_ _)); exact BK107.out) hb)
 have n1_ := Aside0.mk (blk_below (g := gb108) (o := .cells #[.float .f64 a1_0, .float .f64 a1_1] 28 (0, 0)) (by (with_reducible repeat (first | refine blk_drewN ?_ _ | refine blk_drew ?_ | refine blk_alloc ?_ _)); exact BK108.out) hb)
 have n2_ := Aside0.mk (blk_below (g := gb109) (o := .cells #[.float .f64 0, .float .f64 0] 28 (0, 0)) (by (with_reducible repeat (first | refine blk_drewN ?_ _ | refine blk_drew ?_ | refine blk_alloc ?_ _)); exact BK109.out) hb)
 have n3_ := Aside0.mk (below_step (by repeat (first | (with_reducible first | exact HB.out | apply below_alloc | apply pw_below_drewN | apply below_drew1 | refine below_set ?_ GE107.out | refine below_set ?_ GE108.out | refine below_set ?_ GE109.out) | exact HB.out)) hb)
 clear BK107
 clear BK108
 clear BK109
 clear HB
 have BK107 := n0_
 have BK108 := n1_
 have BK109 := n2_
 have HB := n3_
 clear n0_ n1_ n2_ n3_
 clear hb hHeld HD4 hR4_ hR9_ HD_
 refine done_ (by kernel_rfl) ?_
 try go_wp2_with (fail)
 have H : (∀ fr112 : Nat, FRk .f64 .mul a0_0 a1_1 fr112 → (∀ fr113 : Nat, FRk .f64 .mul a0_1 a1_0 fr113 → (∀ fr114 : Nat, FRk .f64 .sub fr110 fr111 fr114 → (∀ fr115 : Nat, FRk .f64 .add fr112 fr113 fr115 → (Q_ (fr114, fr115)))))) := HD5.out
 clear HD5
 have HD17 := Aside0.mk H
 clear H
 try go_wp2
 have hnb21 := NB107_108.out
 have hnc21 := NB108_107.out
 have hnb22 := NB107_109.out
 have hnc22 := NB109_107.out
 have hcz23_0 : w15.cell? ⟨gb107, 0, none⟩ = some (.float .f64 a0_0) := (blk_cell BK107.out 0).trans rfl
 have hcz23_1 : w15.cell? ⟨gb107, 1, none⟩ = some (.float .f64 a0_1) := (blk_cell BK107.out 1).trans rfl
 have hfz23_0 := blk_frozen BK107.out 0
 have hfz23_1 := blk_frozen BK107.out 1
 have hnb24 := NB108_109.out
 have hnc24 := NB109_108.out
 have hcz25_0 : w15.cell? ⟨gb108, 0, none⟩ = some (.float .f64 a1_0) := (blk_cell BK108.out 0).trans rfl
 have hcz25_1 : w15.cell? ⟨gb108, 1, none⟩ = some (.float .f64 a1_1) := (blk_cell BK108.out 1).trans rfl
 have hfz25_0 := blk_frozen BK108.out 0
 have hfz25_1 := blk_frozen BK108.out 1
 refine start_ (n := 12) (S := fun w' => w'.heap = w15.heap) (ds := []) #[false, false, false, false, false, false, false, false, false, false, false, false] (by kernel_rfl) rfl rfl rfl (fun hHeld => ?_)
 have HD_ : Below w15.heap.size w15 w15.drew := below_drew1 (Below.refl _ _)
 generalize w15.drew = w26 at HD_ hHeld ⊢
 refine pure_ (i := 0) (N := (some 19)) (v := ?_) (a' := ?_) #[true, false, false, false, false, false, false, false, false, false, false, false] rfl rfl (by kernel_rfl) (fun _ _ _ h => h) (Or.inl ⟨by rfl, ?_⟩) ?_ ?_
 rotate_left
 ·intro w'
  go_simp
  with_reducible rfl
 rotate_left
 ·simp only [Act.put, List.setIfInBounds_toArray, List.set_cons_zero, List.set_cons_succ, i64_w, i32_w]
  rfl
 refine take_ (i := 1) (N := (some 20)) (v := ?_) (a' := ?_) #[true, true, false, false, false, false, false, false, false, false, false, false] rfl rfl (by kernel_rfl) (fun _ _ _ h => h) (Or.inl ⟨by rfl, ?_⟩) hHeld ?_ ?_
 rotate_left
 ·intro w' s0
  have t0_ := (cell_heap s0 _).trans hcz23_0
  have t1_ := (cell_heap s0 _).trans hcz23_1
  have t2_ := (cell_heap s0 _).trans hcz25_0
  have t3_ := (cell_heap s0 _).trans hcz25_1
  go_simp
  with_reducible rfl
 rotate_left
 ·simp only [Act.put, List.setIfInBounds_toArray, List.set_cons_zero, List.set_cons_succ, i64_w, i32_w]
  rfl
 refine pure_ (i := 2) (N := (some 21)) (v := ?_) (a' := ?_) #[true, true, true, false, false, false, false, false, false, false, false, false] rfl rfl (by kernel_rfl) (fun _ _ _ h => h) (Or.inl ⟨by rfl, ?_⟩) ?_ ?_
 rotate_left
 ·intro w'
  go_simp
  with_reducible rfl
 rotate_left
 ·simp only [Act.put, List.setIfInBounds_toArray, List.set_cons_zero, List.set_cons_succ, i64_w, i32_w]
  rfl
 refine take_ (i := 3) (N := (some 22)) (v := ?_) (a' := ?_) #[true, true, true, true, false, false, false, false, false, false, false, false] rfl rfl (by kernel_rfl) (fun _ _ _ h => h) (Or.inl ⟨by rfl, ?_⟩) hHeld ?_ ?_
 rotate_left
 ·intro w' s0
  have t0_ := (cell_heap s0 _).trans hcz23_0
  have t1_ := (cell_heap s0 _).trans hcz23_1
  have t2_ := (cell_heap s0 _).trans hcz25_0
  have t3_ := (cell_heap s0 _).trans hcz25_1
  go_simp
  with_reducible rfl
 rotate_left
 ·simp only [Act.put, List.setIfInBounds_toArray, List.set_cons_zero, List.set_cons_succ, i64_w, i32_w]
  rfl
 refine pure_ (i := 5) (N := (some 24)) (v := ?_) (a' := ?_) #[true, true, true, true, false, true, false, false, false, false, false, false] rfl rfl (by kernel_rfl) (fun _ _ _ h => h) (Or.inl ⟨by rfl, ?_⟩) ?_ ?_
 rotate_left
 ·intro w'
  go_simp
  with_reducible rfl
 rotate_left
 ·simp only [Act.put, List.setIfInBounds_toArray, List.set_cons_zero, List.set_cons_succ, i64_w, i32_w]
  rfl
 refine take_ (i := 6) (N := (some 25)) (v := ?_) (a' := ?_) #[true, true, true, true, false, true, true, false, false, false, false, false] rfl rfl (by kernel_rfl) (fun _ _ _ h => h) (Or.inl ⟨by rfl, ?_⟩) hHeld ?_ ?_
 rotate_left
 ·intro w' s0
  have t0_ := (cell_heap s0 _).trans hcz23_0
  have t1_ := (cell_heap s0 _).trans hcz23_1
  have t2_ := (cell_heap s0 _).trans hcz25_0
  have t3_ := (cell_heap s0 _).trans hcz25_1
  go_simp
  with_reducible rfl
 rotate_left
 ·simp only [Act.put, List.setIfInBounds_toArray, List.set_cons_zero, List.set_cons_succ, i64_w, i32_w]
  rfl
 refine pure_ (i := 7) (N := (some 26)) (v := ?_) (a' := ?_) #[true, true, true, true, false, true, true, true, false, false, false, false] rfl rfl (by kernel_rfl) (fun _ _ _ h => h) (Or.inl ⟨by rfl, ?_⟩) ?_ ?_
 rotate_left
 ·intro w'
  go_simp
  with_reducible rfl
 rotate_left
 ·simp only [Act.put, List.setIfInBounds_toArray, List.set_cons_zero, List.set_cons_succ, i64_w, i32_w]
  rfl
 refine take_ (i := 8) (N := (some 27)) (v := ?_) (a' := ?_) #[true, true, true, true, false, true, true, true, true, false, false, false] rfl rfl (by kernel_rfl) (fun _ _ _ h => h) (Or.inl ⟨by rfl, ?_⟩) hHeld ?_ ?_
 rotate_left
 ·intro w' s0
  have t0_ := (cell_heap s0 _).trans hcz23_0
  have t1_ := (cell_heap s0 _).trans hcz23_1
  have t2_ := (cell_heap s0 _).trans hcz25_0
  have t3_ := (cell_heap s0 _).trans hcz25_1
  go_simp
  with_reducible rfl
 rotate_left
 ·simp only [Act.put, List.setIfInBounds_toArray, List.set_cons_zero, List.set_cons_succ, i64_w, i32_w]
  rfl
 refine join_ (σ := Nat × Nat) 0 #[true, true, true, true, true, true, true, true, true, true, true, true] (fun s_ => [(23, .float .f64 s_.1), (28, .float .f64 s_.2), (7, .float .f64 s_.1), (8, .float .f64 s_.2)]) (fun s_ w' => FRk .f64 .mul a0_0 a1_1 s_.1 ∧ FRk .f64 .mul a0_1 a1_0 s_.2 ∧ w'.heap = w15.heap ∧ Below w15.heap.size w15 w') ?_ ?_
 rotate_left
 ·intro hCont
  refine two_ (i := 4) (j := 9) (Ni := (some 23)) (Nj := (some 28)) #[true, true, true, true, true, true, true, true, true, false, false, false] #[true, true, true, true, false, true, true, true, true, true, false, false] rfl rfl rfl rfl (by kernel_rfl) (by decide) (by decide) (fun K hK => ?_) (fun K hK => ?_)
  ·refine fl_step (k := .f64) (R := FRk .f64 .mul a0_0 a1_1) ?hw (N := 23) ?hd ?hr ?_
   (case hw => rfl)
   (case hd => rfl)
   (case hr => obtain ⟨r_, w_, hc_, hR_, hq_⟩ := frk_run (P := Try.prog) .f64 .mul 26 a0_0 a1_1 _ (by simp); exact ⟨r_, w_, by first | (go_simp; done) | (go_simp; rfl), hR_, hq_⟩)
   intro fr112 wa_ hR4_ hq_
   have hHeld2 := (Quiet1.heap hq_).trans hHeld
   replace HD_ := below_step HD_ (Quiet1.below hq_)
   clear hHeld hq_
   refine hK.out _ _ hHeld2 (fun hHeld => ?_)
   clear hK K hHeld2
   refine norm_ (a' := ?_) ?_ ?_
   rotate_left
   ·show Act.put _ (some 23) _ = _
    simp only [Act.put, List.setIfInBounds_toArray, List.set_cons_zero, List.set_cons_succ, i64_w, i32_w]
    rfl
   refine pure_ (i := 10) (N := (some 7)) (v := ?_) (a' := ?_) #[true, true, true, true, true, true, true, true, true, false, true, false] rfl rfl (by kernel_rfl) (fun _ _ _ h => h) (Or.inl ⟨by rfl, ?_⟩) ?_ ?_
   rotate_left
   ·intro w'
    go_simp
    with_reducible rfl
   rotate_left
   ·simp only [Act.put, List.setIfInBounds_toArray, List.set_cons_zero, List.set_cons_succ, i64_w, i32_w]
    rfl
   refine one_ (i := 9) (N := (some 28)) #[true, true, true, true, true, true, true, true, true, true, true, false] rfl rfl (by kernel_rfl) (by decide) (fun K hK => ?_)
   refine fl_step (k := .f64) (R := FRk .f64 .mul a0_1 a1_0) ?hw (N := 28) ?hd ?hr ?_
   (case hw => rfl)
   (case hd => rfl)
   (case hr => obtain ⟨r_, w_, hc_, hR_, hq_⟩ := frk_run (P := Try.prog) .f64 .mul 26 a0_1 a1_0 _ (by simp); exact ⟨r_, w_, by first | (go_simp; done) | (go_simp; rfl), hR_, hq_⟩)
   intro fr113 wb_ hR9_ hq_
   have hHeld2 := (Quiet1.heap hq_).trans hHeld
   replace HD_ := below_step HD_ (Quiet1.below hq_)
   clear hHeld hq_
   refine hK.out _ _ hHeld2 (fun hHeld => ?_)
   clear hK K hHeld2
   refine norm_ (a' := ?_) ?_ ?_
   rotate_left
   ·show Act.put _ (some 28) _ = _
    simp only [Act.put, List.setIfInBounds_toArray, List.set_cons_zero, List.set_cons_succ, i64_w, i32_w]
    rfl
   refine pure_ (i := 11) (N := (some 8)) (v := ?_) (a' := ?_) #[true, true, true, true, true, true, true, true, true, true, true, true] rfl rfl (by kernel_rfl) (fun _ _ _ h => h) (Or.inl ⟨by rfl, ?_⟩) ?_ ?_
   rotate_left
   ·intro w'
    go_simp
    with_reducible rfl
   rotate_left
   ·simp only [Act.put, List.setIfInBounds_toArray, List.set_cons_zero, List.set_cons_succ, i64_w, i32_w]
    rfl
   exact norm_ (by simp only [putAll, Act.put, List.setIfInBounds_toArray, List.set_cons_zero, List.set_cons_succ]) (hCont (fr112, fr113) _ ⟨hR4_, hR9_, hHeld, HD_⟩)
  ·refine fl_step (k := .f64) (R := FRk .f64 .mul a0_1 a1_0) ?hw (N := 28) ?hd ?hr ?_
   (case hw => rfl)
   (case hd => rfl)
   (case hr => obtain ⟨r_, w_, hc_, hR_, hq_⟩ := frk_run (P := Try.prog) .f64 .mul 26 a0_1 a1_0 _ (by simp); exact ⟨r_, w_, by first | (go_simp; done) | (go_simp; rfl), hR_, hq_⟩)
   intro fr113 wa_ hR9_ hq_
   have hHeld2 := (Quiet1.heap hq_).trans hHeld
   replace HD_ := below_step HD_ (Quiet1.below hq_)
   clear hHeld hq_
   refine hK.out _ _ hHeld2 (fun hHeld => ?_)
   clear hK K hHeld2
   refine norm_ (a' := ?_) ?_ ?_
   rotate_left
   ·show Act.put _ (some 28) _ = _
    simp only [Act.put, List.setIfInBounds_toArray, List.set_cons_zero, List.set_cons_succ, i64_w, i32_w]
    rfl
   refine one_ (i := 4) (N := (some 23)) #[true, true, true, true, true, true, true, true, true, true, false, false] rfl rfl (by kernel_rfl) (by decide) (fun K hK => ?_)
   refine fl_step (k := .f64) (R := FRk .f64 .mul a0_0 a1_1) ?hw (N := 23) ?hd ?hr ?_
   (case hw => rfl)
   (case hd => rfl)
   (case hr => obtain ⟨r_, w_, hc_, hR_, hq_⟩ := frk_run (P := Try.prog) .f64 .mul 26 a0_0 a1_1 _ (by simp); exact ⟨r_, w_, by first | (go_simp; done) | (go_simp; rfl), hR_, hq_⟩)
   intro fr112 wb_ hR4_ hq_
   have hHeld2 := (Quiet1.heap hq_).trans hHeld
   replace HD_ := below_step HD_ (Quiet1.below hq_)
   clear hHeld hq_
   refine hK.out _ _ hHeld2 (fun hHeld => ?_)
   clear hK K hHeld2
   refine norm_ (a' := ?_) ?_ ?_
   rotate_left
   ·show Act.put _ (some 23) _ = _
    simp only [Act.put, List.setIfInBounds_toArray, List.set_cons_zero, List.set_cons_succ, i64_w, i32_w]
    rfl
   refine pure_ (i := 10) (N := (some 7)) (v := ?_) (a' := ?_) #[true, true, true, true, true, true, true, true, true, true, true, false] rfl rfl (by kernel_rfl) (fun _ _ _ h => h) (Or.inl ⟨by rfl, ?_⟩) ?_ ?_
   rotate_left
   ·intro w'
    go_simp
    with_reducible rfl
   rotate_left
   ·simp only [Act.put, List.setIfInBounds_toArray, List.set_cons_zero, List.set_cons_succ, i64_w, i32_w]
    rfl
   refine pure_ (i := 11) (N := (some 8)) (v := ?_) (a' := ?_) #[true, true, true, true, true, true, true, true, true, true, true, true] rfl rfl (by kernel_rfl) (fun _ _ _ h => h) (Or.inl ⟨by rfl, ?_⟩) ?_ ?_
   rotate_left
   ·intro w'
    go_simp
    with_reducible rfl
   rotate_left
   ·simp only [Act.put, List.setIfInBounds_toArray, List.set_cons_zero, List.set_cons_succ, i64_w, i32_w]
    rfl
   exact norm_ (by simp only [putAll, Act.put, List.setIfInBounds_toArray, List.set_cons_zero, List.set_cons_succ]) (hCont (fr112, fr113) _ ⟨hR4_, hR9_, hHeld, HD_⟩)
 rintro ⟨fr112, fr113⟩ w27 ⟨hR4_, hR9_, hHeld, hb⟩
 replace hR4_ : FRk .f64 .mul a0_0 a1_1 fr112 := hR4_
 replace hR9_ : FRk .f64 .mul a0_1 a1_0 fr113 := hR9_
 refine norm_ (a' := ?_) ?_ ?_
 rotate_left
 ·simp only [putAll, Act.put, List.setIfInBounds_toArray, List.set_cons_zero, List.set_cons_succ]
  rfl
 have HD18 := Aside0.mk (HD17.out fr112 hR4_ fr113 hR9_)
 have n0_ := Aside0.mk (blk_below (g := gb107) (o := .cells #[.float .f64 a0_0, .float .f64 a0_1] 28 (0, 0)) (by (with_reducible repeat (first | refine blk_drewN ?_ _ | refine blk_drew ?_ | refine blk_alloc ?_ _)); exact BK107.out) hb)
 have n1_ := Aside0.mk (blk_below (g := gb108) (o := .cells #[.float .f64 a1_0, .float .f64 a1_1] 28 (0, 0)) (by (with_reducible repeat (first | refine blk_drewN ?_ _ | refine blk_drew ?_ | refine blk_alloc ?_ _)); exact BK108.out) hb)
 have n2_ := Aside0.mk (blk_below (g := gb109) (o := .cells #[.float .f64 0, .float .f64 0] 28 (0, 0)) (by (with_reducible repeat (first | refine blk_drewN ?_ _ | refine blk_drew ?_ | refine blk_alloc ?_ _)); exact BK109.out) hb)
 have n3_ := Aside0.mk (below_step (by repeat (first | (with_reducible first | exact HB.out | apply below_alloc | apply pw_below_drewN | apply below_drew1 | refine below_set ?_ GE107.out | refine below_set ?_ GE108.out | refine below_set ?_ GE109.out) | exact HB.out)) hb)
 clear BK107
 clear BK108
 clear BK109
 clear HB
 have BK107 := n0_
 have BK108 := n1_
 have BK109 := n2_
 have HB := n3_
 clear n0_ n1_ n2_ n3_
 clear hb hHeld HD17 hR4_ hR9_ HD_
 refine done_ (by kernel_rfl) ?_
 try go_wp2_with (first | ((with_reducible refine gate_dst (N := 31) rfl ?_); refine fl_event (k := .f64) (R := FRk .f64 .sub fr110 fr111) ?hg (N := 31) ?hd ?hr ?_; (case hd => rfl); (case hg => rfl); (case hr => obtain ⟨r_, w_, hc_, hR_, hq_⟩ := frk_run (P := Try.prog) .f64 .sub 26 fr110 fr111 _ (by simp); exact ⟨r_, w_, by first | (go_simp; done) | (go_simp; rfl), hR_, hq_⟩); intro fr114 w28 hR_ hb; have HD19 := Aside0.mk (HD18.out fr114 hR_); clear HD18 hR_; have n0_ := Aside0.mk (blk_below (g := gb107) (o := .cells #[.float .f64 a0_0, .float .f64 a0_1] 28 (0, 0)) (by (with_reducible repeat (first | refine blk_drewN ?_ _ | refine blk_drew ?_ | refine blk_alloc ?_ _)); exact BK107.out) hb); have n1_ := Aside0.mk (blk_below (g := gb108) (o := .cells #[.float .f64 a1_0, .float .f64 a1_1] 28 (0, 0)) (by (with_reducible repeat (first | refine blk_drewN ?_ _ | refine blk_drew ?_ | refine blk_alloc ?_ _)); exact BK108.out) hb); have n2_ := Aside0.mk (blk_below (g := gb109) (o := .cells #[.float .f64 0, .float .f64 0] 28 (0, 0)) (by (with_reducible repeat (first | refine blk_drewN ?_ _ | refine blk_drew ?_ | refine blk_alloc ?_ _)); exact BK109.out) hb); have n3_ := Aside0.mk (below_step (by repeat (first | (with_reducible first | exact HB.out | apply below_alloc | apply pw_below_drewN | apply below_drew1 | refine below_set ?_ GE107.out | refine below_set ?_ GE108.out | refine below_set ?_ GE109.out) | exact HB.out)) hb); clear BK107; clear BK108; clear BK109; clear HB; have BK107 := n0_; have BK108 := n1_; have BK109 := n2_; have HB := n3_; clear n0_ n1_ n2_ n3_; (try clear hb)) | ((with_reducible refine gate_dst (N := 34) rfl ?_); refine fl_event (k := .f64) (R := FRk .f64 .add fr112 fr113) ?hg (N := 34) ?hd ?hr ?_; (case hd => rfl); (case hg => rfl); (case hr => obtain ⟨r_, w_, hc_, hR_, hq_⟩ := frk_run (P := Try.prog) .f64 .add 26 fr112 fr113 _ (by simp); exact ⟨r_, w_, by first | (go_simp; done) | (go_simp; rfl), hR_, hq_⟩); intro fr115 w29 hR_ hb; have HD20 := Aside0.mk (HD19.out fr115 hR_); clear HD19 hR_; have n0_ := Aside0.mk (blk_below (g := gb107) (o := .cells #[.float .f64 a0_0, .float .f64 a0_1] 28 (0, 0)) (by (with_reducible repeat (first | refine blk_drewN ?_ _ | refine blk_drew ?_ | refine blk_alloc ?_ _)); exact BK107.out) hb); have n1_ := Aside0.mk (blk_below (g := gb108) (o := .cells #[.float .f64 a1_0, .float .f64 a1_1] 28 (0, 0)) (by (with_reducible repeat (first | refine blk_drewN ?_ _ | refine blk_drew ?_ | refine blk_alloc ?_ _)); exact BK108.out) hb); have n2_ := Aside0.mk (blk_below (g := gb109) (o := .cells #[.float .f64 0, .float .f64 0] 28 (0, 0)) (by (with_reducible repeat (first | refine blk_drewN ?_ _ | refine blk_drew ?_ | refine blk_alloc ?_ _)); exact BK109.out) hb); have n3_ := Aside0.mk (below_step (by repeat (first | (with_reducible first | exact HB.out | apply below_alloc | apply pw_below_drewN | apply below_drew1 | refine below_set ?_ GE107.out | refine below_set ?_ GE108.out | refine below_set ?_ GE109.out) | exact HB.out)) hb); clear BK107; clear BK108; clear BK109; clear HB; have BK107 := n0_; have BK108 := n1_; have BK109 := n2_; have HB := n3_; clear n0_ n1_ n2_ n3_; (try clear hb); have hcz30_0 : w29.cell? ⟨gb109, 0, none⟩ = some (.float .f64 0) := (blk_cell BK109.out 0).trans rfl; have hcz30_1 : w29.cell? ⟨gb109, 1, none⟩ = some (.float .f64 0) := (blk_cell BK109.out 1).trans rfl; have hfz30_0 := blk_frozen BK109.out 0; have hfz30_1 := blk_frozen BK109.out 1))
 refine bodyPost_ret (results_cell_row rfl _ _ gb109 28 #[.float .f64 fr114, .float .f64 fr115] (0, 0) _ rfl (by (with_reducible repeat (first | refine blk_drewN ?_ _ | refine blk_drew ?_ | refine blk_alloc ?_ _)); refine blk_put (cs := #[.float .f64 fr114, .float .f64 0]) ?_ 1 _ rfl; (with_reducible repeat (first | refine blk_drewN ?_ _ | refine blk_drew ?_ | refine blk_alloc ?_ _)); refine blk_put (cs := #[.float .f64 0, .float .f64 0]) ?_ 0 _ rfl; (with_reducible repeat (first | refine blk_drewN ?_ _ | refine blk_drew ?_ | refine blk_alloc ?_ _)); exact BK109.out) Try.underlying28 rfl (by kernel_rfl)) rfl ?_
 exact Dq2.mk HD20.out ⟨by first | rfl | (simp [errW_none, errW_some] <;> rfl) | (simp [*, errW_none, errW_some] <;> rfl), by repeat (first | (with_reducible first | exact HB.out | apply below_alloc | apply pw_below_drewN | apply below_drew1 | refine below_set ?_ GE107.out | refine below_set ?_ GE108.out | refine below_set ?_ GE109.out) | exact HB.out)⟩

-- NOT PRINTED: function 73 (math_Float64frombits)

-- NOT PRINTED: function 74 (math_Float64bits)

def math_Abs.f (a0 : Nat) : Option (Nat) := some (Go.bits .andNot .u64 (a0 : Int) 9223372036854775808).toNat
set_option maxHeartbeats 8000000 in
set_option maxRecDepth 100000 in
theorem math_Abs.calls (a0 : Nat) (r : Nat) (w : World) (h : math_Abs.f a0 = some r) :
  Calls Try.prog 69 #[.float .f64 a0] w fun e w' => e = .returned (.float .f64 r) ∧ Drawn0 w w' := by
 obtain rfl := Option.some.inj h
 have hb : ∀ (x : Nat) (W : World), (callFunc 74 #[.float .f64 x]).run Try.prog W = .ok (.value (.int .u64 x)) W := fun x W => by
  rw [run_callFunc_extern (e := Go.Extern.MathFloatBits.float64bits) Try.func74 (by kernel_rfl) (by kernel_rfl) (by kernel_rfl) (by kernel_rfl)]
  rfl
 have hf : ∀ (x : Int) (W : World), (callFunc 73 #[.int .u64 x]).run Try.prog W = .ok (.value (.float .f64 x.toNat)) W := fun x W => by
  rw [run_callFunc_extern (e := Go.Extern.MathFloatBits.float64frombits) Try.func73 (by kernel_rfl) (by kernel_rfl) (by kernel_rfl) (by kernel_rfl)]
  rfl
 go_enter Try.func69, Try.ntmps69
 go_wp2
 go_ret
 exact ⟨rfl, Drawn0.refl _⟩

def math_IsInf.f (a0 : Nat) (a1 : Int) : Option (Bool) := if a1 = 0 then ((math_Abs.f a0).bind fun t116 => (some (FloatKind.f64.format.order t116 9218868437227405311 == some .gt))) else (if a1 < 0 then (some (FloatKind.f64.format.order (Go.Op.negFloat .f64 a0) 9218868437227405311 == some .gt)) else (some (FloatKind.f64.format.order a0 9218868437227405311 == some .gt)))
set_option maxHeartbeats 8000000 in
set_option maxRecDepth 100000 in
theorem math_IsInf.calls (a0 : Nat) (a1 : Int) (r : Bool) (w : World) (h : math_IsInf.f a0 a1 = some r) :
  Calls Try.prog 55 #[.float .f64 a0, .int .i64 a1] w fun e w' => e = .returned (.bool r) ∧ Drawn0 w w' := by
 have hng_ : ∀ (k_ : FloatKind) (x_ : Nat) (W_ : World), (Op.unary .neg (.float k_ x_)).run Try.prog W_ = .ok (.float k_ (Go.Op.negFloat k_ x_)) W_ := fun _ _ _ => rfl
 have H : (if a1 = 0 then ((math_Abs.f a0).bind fun t116 => (some (FloatKind.f64.format.order t116 9218868437227405311 == some .gt))) else (if a1 < 0 then (some (FloatKind.f64.format.order (Go.Op.negFloat .f64 a0) 9218868437227405311 == some .gt)) else (some (FloatKind.f64.format.order a0 9218868437227405311 == some .gt)))) = some r := h
 clear h
 by_cases c3 : a1 = 0
 ·rw [if_pos c3] at H
  have c3b0 : (a1 == 0) = true := beq_iff_eq.mpr c3
  have c3b1 : (a1 != 0) = false := bne_eq_false_iff_eq.mpr c3
  clear c3
  replace H := Option.bind_eq_some_iff.mp H
  obtain ⟨t116, A40, H⟩ := H
  replace H : (some (FloatKind.f64.format.order t116 9218868437227405311 == some .gt)) = some r := H
  have A4 := Aside0.mk A40
  clear A40
  obtain rfl := Option.some.inj H
  go_enter Try.func55, Try.ntmps55
  go_wp2_with (first | ((with_reducible refine gate_callee (f := 69) rfl ?_); refine goesL_ (some 8) rfl rfl Try.func69 (by kernel_rfl) rfl #[.float .f64 a0] rfl (by (try simp only [List.map_toArray, List.map_cons, List.map_nil]); first | done | rfl | (simp only [List.length_drop, List.length_take]; rfl)) ?_; (with_reducible refine (math_Abs.calls a0 t116 _ A4.out).mono ?_); rintro e w' ⟨rfl, ⟨nd, rfl⟩⟩; refine ⟨_, rfl, ?_⟩))
  go_ret
  exact ⟨by first | rfl | (simp; done) | (simp [*]; done), by repeat (first | exact Drawn0.refl _ | apply Drawn0.step)⟩
 ·rw [if_neg c3] at H
  have c3b0 : (a1 == 0) = false := beq_eq_false_iff_ne.mpr c3
  have c3b1 : (a1 != 0) = true := bne_iff_ne.mpr c3
  by_cases c5 : a1 < 0
  ·rw [if_pos c5] at H
   have c5b0 : decide (a1 < 0) = true := decide_eq_true c5
   clear c5
   obtain rfl := Option.some.inj H
   go_enter Try.func55, Try.ntmps55
   go_wp2
   go_ret
   exact ⟨by first | rfl | (simp; done) | (simp [*]; done), by repeat (first | exact Drawn0.refl _ | apply Drawn0.step)⟩
  ·rw [if_neg c5] at H
   have c5b0 : decide (a1 < 0) = false := decide_eq_false c5
   clear c5
   obtain rfl := Option.some.inj H
   go_enter Try.func55, Try.ntmps55
   go_wp2
   go_ret
   exact ⟨by first | rfl | (simp; done) | (simp [*]; done), by repeat (first | exact Drawn0.refl _ | apply Drawn0.step)⟩

def math_IsNaN.f (a0 : Nat) : Option (Bool) := some (FloatKind.f64.format.order a0 a0 != some .eq)
set_option maxHeartbeats 8000000 in
set_option maxRecDepth 100000 in
theorem math_IsNaN.calls (a0 : Nat) (r : Bool) (w : World) (h : math_IsNaN.f a0 = some r) :
  Calls Try.prog 68 #[.float .f64 a0] w fun e w' => e = .returned (.bool r) ∧ Drawn0 w w' := by
 have H : (some (FloatKind.f64.format.order a0 a0 != some .eq)) = some r := h
 clear h
 obtain rfl := Option.some.inj H
 go_enter Try.func68, Try.ntmps68
 go_wp2
 go_ret
 exact ⟨by first | rfl | (simp; done) | (simp [*]; done), by repeat (first | exact Drawn0.refl _ | apply Drawn0.step)⟩

def impl_isFinite.f (a0_0 : Nat) (a0_1 : Nat) : Option (Bool) := (math_IsNaN.f a0_0).bind fun t118 => (if t118 = true then (some false) else ((math_IsInf.f a0_0 0).bind fun t119 => (if t119 = true then (some false) else ((math_IsNaN.f a0_1).bind fun t120 => (if t120 = true then (some false) else ((math_IsInf.f a0_1 0).bind fun t121 => (some (!t121))))))))
set_option maxHeartbeats 8000000 in
set_option maxRecDepth 100000 in
theorem impl_isFinite.calls (a0_0 : Nat) (a0_1 : Nat) (r : Bool) (w : World) (h : impl_isFinite.f a0_0 a0_1 = some r) :
  Calls Try.prog 54 #[.agg #[.float .f64 a0_0, .float .f64 a0_1]] w fun e w' => e = .returned (.bool r) ∧ Below w.heap.size w w' := by
 have hu28 := Try.underlying28
 have HB := Aside0.mk (Below.refl w.heap.size w)
 have H : ((math_IsNaN.f a0_0).bind fun t118 => (if t118 = true then (some false) else ((math_IsInf.f a0_0 0).bind fun t119 => (if t119 = true then (some false) else ((math_IsNaN.f a0_1).bind fun t120 => (if t120 = true then (some false) else ((math_IsInf.f a0_1 0).bind fun t121 => (some (!t121))))))))) = some r := h
 clear h
 replace H := Option.bind_eq_some_iff.mp H
 obtain ⟨t118, A20, H⟩ := H
 replace H : (if t118 = true then (some false) else ((math_IsInf.f a0_0 0).bind fun t119 => (if t119 = true then (some false) else ((math_IsNaN.f a0_1).bind fun t120 => (if t120 = true then (some false) else ((math_IsInf.f a0_1 0).bind fun t121 => (some (!t121)))))))) = some r := H
 have A2 := Aside0.mk A20
 clear A20
 by_cases c3 : t118 = true
 ·subst c3
  have H1 : (some false) = some r := by rw [if_pos rfl] at H; exact H
  clear H
  have H := H1
  clear H1
  obtain rfl := Option.some.inj H
  go_enter Try.func54, Try.ntmps54
  go_wp2_with (first | ((with_reducible refine gate_dst (N := 1) rfl ?_); refine box_event ?hg (N := 1) ?hd (cs := #[.float .f64 a0_0, .float .f64 a0_1]) (t := 28) ?hr ?_; (case hd => rfl); (case hg => rfl); (case hr => first | (go_simp; done) | (go_simp; rfl)); intro gb117 hg w4 hbox hb; have n0_ := Aside0.mk (below_step (by repeat (first | (with_reducible first | exact HB.out | apply below_alloc | apply pw_below_drewN | apply below_drew1) | exact HB.out)) hb); have n1_ := Aside0.mk (hbox); have n2_ := Aside0.mk ((by rw [hg]; exact (below_size (by repeat (first | (with_reducible first | exact HB.out | apply below_alloc | apply pw_below_drewN | apply below_drew1) | exact HB.out))) : w.heap.size ≤ gb117)); have n3_ := Aside0.mk ((by rw [hg]; exact (below_size (by repeat (first | (with_reducible first | exact HB.out | apply below_alloc | apply pw_below_drewN | apply below_drew1) | exact HB.out))) : w.heap.size ≤ gb117)); clear HB; have HB := n0_; have BK117 := n1_; have GW117 := n2_; have GE117 := n3_; clear n0_ n1_ n2_ n3_; clear hb hbox hg; have hcz5_0 : w4.cell? ⟨gb117, 0, none⟩ = some (.float .f64 a0_0) := (blk_cell BK117.out 0).trans rfl; have hcz5_1 : w4.cell? ⟨gb117, 1, none⟩ = some (.float .f64 a0_1) := (blk_cell BK117.out 1).trans rfl; have hfz5_0 := blk_frozen BK117.out 0; have hfz5_1 := blk_frozen BK117.out 1) | ((with_reducible refine gate_callee (f := 68) rfl ?_); refine goesL_ (some 5) rfl rfl Try.func68 (by kernel_rfl) rfl #[.float .f64 a0_0] rfl (by (try simp only [List.map_toArray, List.map_cons, List.map_nil]); first | done | rfl | (simp only [List.length_drop, List.length_take]; rfl)) ?_; (with_reducible refine (math_IsNaN.calls a0_0 true _ A2.out).mono ?_); rintro e w' ⟨rfl, ⟨nd, rfl⟩⟩; refine ⟨_, rfl, ?_⟩))
  go_ret
  exact ⟨by first | rfl | (simp [errW_none, errW_some] <;> rfl) | (simp [*, errW_none, errW_some] <;> rfl), by repeat (first | (with_reducible first | exact HB.out | apply below_alloc | apply pw_below_drewN | apply below_drew1 | refine below_set ?_ GE117.out) | exact HB.out)⟩
 ·replace c3 := Bool.eq_false_iff.mpr c3
  subst c3
  have H1 : ((math_IsInf.f a0_0 0).bind fun t119 => (if t119 = true then (some false) else ((math_IsNaN.f a0_1).bind fun t120 => (if t120 = true then (some false) else ((math_IsInf.f a0_1 0).bind fun t121 => (some (!t121))))))) = some r := by rw [if_neg (show ¬ (false = true) by decide)] at H; exact H
  clear H
  have H := H1
  clear H1
  replace H := Option.bind_eq_some_iff.mp H
  obtain ⟨t119, A60, H⟩ := H
  replace H : (if t119 = true then (some false) else ((math_IsNaN.f a0_1).bind fun t120 => (if t120 = true then (some false) else ((math_IsInf.f a0_1 0).bind fun t121 => (some (!t121)))))) = some r := H
  have A6 := Aside0.mk A60
  clear A60
  by_cases c7 : t119 = true
  ·subst c7
   have H1 : (some false) = some r := by rw [if_pos rfl] at H; exact H
   clear H
   have H := H1
   clear H1
   obtain rfl := Option.some.inj H
   go_enter Try.func54, Try.ntmps54
   go_wp2_with (first | ((with_reducible refine gate_dst (N := 1) rfl ?_); refine box_event ?hg (N := 1) ?hd (cs := #[.float .f64 a0_0, .float .f64 a0_1]) (t := 28) ?hr ?_; (case hd => rfl); (case hg => rfl); (case hr => first | (go_simp; done) | (go_simp; rfl)); intro gb117 hg w8 hbox hb; have n0_ := Aside0.mk (below_step (by repeat (first | (with_reducible first | exact HB.out | apply below_alloc | apply pw_below_drewN | apply below_drew1) | exact HB.out)) hb); have n1_ := Aside0.mk (hbox); have n2_ := Aside0.mk ((by rw [hg]; exact (below_size (by repeat (first | (with_reducible first | exact HB.out | apply below_alloc | apply pw_below_drewN | apply below_drew1) | exact HB.out))) : w.heap.size ≤ gb117)); have n3_ := Aside0.mk ((by rw [hg]; exact (below_size (by repeat (first | (with_reducible first | exact HB.out | apply below_alloc | apply pw_below_drewN | apply below_drew1) | exact HB.out))) : w.heap.size ≤ gb117)); clear HB; have HB := n0_; have BK117 := n1_; have GW117 := n2_; have GE117 := n3_; clear n0_ n1_ n2_ n3_; clear hb hbox hg; have hcz9_0 : w8.cell? ⟨gb117, 0, none⟩ = some (.float .f64 a0_0) := (blk_cell BK117.out 0).trans rfl; have hcz9_1 : w8.cell? ⟨gb117, 1, none⟩ = some (.float .f64 a0_1) := (blk_cell BK117.out 1).trans rfl; have hfz9_0 := blk_frozen BK117.out 0; have hfz9_1 := blk_frozen BK117.out 1) | ((with_reducible refine gate_callee (f := 68) rfl ?_); refine goesL_ (some 5) rfl rfl Try.func68 (by kernel_rfl) rfl #[.float .f64 a0_0] rfl (by (try simp only [List.map_toArray, List.map_cons, List.map_nil]); first | done | rfl | (simp only [List.length_drop, List.length_take]; rfl)) ?_; (with_reducible refine (math_IsNaN.calls a0_0 false _ A2.out).mono ?_); rintro e w' ⟨rfl, ⟨nd, rfl⟩⟩; refine ⟨_, rfl, ?_⟩) | (go_at_call 55; (with_reducible refine (math_IsInf.calls a0_0 0 true _ A6.out).mono ?_); rintro e w' ⟨rfl, ⟨nd, rfl⟩⟩))
   go_ret
   exact ⟨by first | rfl | (simp [errW_none, errW_some] <;> rfl) | (simp [*, errW_none, errW_some] <;> rfl), by repeat (first | (with_reducible first | exact HB.out | apply below_alloc | apply pw_below_drewN | apply below_drew1 | refine below_set ?_ GE117.out) | exact HB.out)⟩
  ·replace c7 := Bool.eq_false_iff.mpr c7
   subst c7
   have H1 : ((math_IsNaN.f a0_1).bind fun t120 => (if t120 = true then (some false) else ((math_IsInf.f a0_1 0).bind fun t121 => (some (!t121))))) = some r := by rw [if_neg (show ¬ (false = true) by decide)] at H; exact H
   clear H
   have H := H1
   clear H1
   replace H := Option.bind_eq_some_iff.mp H
   obtain ⟨t120, A100, H⟩ := H
   replace H : (if t120 = true then (some false) else ((math_IsInf.f a0_1 0).bind fun t121 => (some (!t121)))) = some r := H
   have A10 := Aside0.mk A100
   clear A100
   by_cases c11 : t120 = true
   ·subst c11
    have H1 : (some false) = some r := by rw [if_pos rfl] at H; exact H
    clear H
    have H := H1
    clear H1
    obtain rfl := Option.some.inj H
    go_enter Try.func54, Try.ntmps54
    go_wp2_with (first | ((with_reducible refine gate_dst (N := 1) rfl ?_); refine box_event ?hg (N := 1) ?hd (cs := #[.float .f64 a0_0, .float .f64 a0_1]) (t := 28) ?hr ?_; (case hd => rfl); (case hg => rfl); (case hr => first | (go_simp; done) | (go_simp; rfl)); intro gb117 hg w12 hbox hb; have n0_ := Aside0.mk (below_step (by repeat (first | (with_reducible first | exact HB.out | apply below_alloc | apply pw_below_drewN | apply below_drew1) | exact HB.out)) hb); have n1_ := Aside0.mk (hbox); have n2_ := Aside0.mk ((by rw [hg]; exact (below_size (by repeat (first | (with_reducible first | exact HB.out | apply below_alloc | apply pw_below_drewN | apply below_drew1) | exact HB.out))) : w.heap.size ≤ gb117)); have n3_ := Aside0.mk ((by rw [hg]; exact (below_size (by repeat (first | (with_reducible first | exact HB.out | apply below_alloc | apply pw_below_drewN | apply below_drew1) | exact HB.out))) : w.heap.size ≤ gb117)); clear HB; have HB := n0_; have BK117 := n1_; have GW117 := n2_; have GE117 := n3_; clear n0_ n1_ n2_ n3_; clear hb hbox hg; have hcz13_0 : w12.cell? ⟨gb117, 0, none⟩ = some (.float .f64 a0_0) := (blk_cell BK117.out 0).trans rfl; have hcz13_1 : w12.cell? ⟨gb117, 1, none⟩ = some (.float .f64 a0_1) := (blk_cell BK117.out 1).trans rfl; have hfz13_0 := blk_frozen BK117.out 0; have hfz13_1 := blk_frozen BK117.out 1) | ((with_reducible refine gate_callee (f := 68) rfl ?_); refine goesL_ (some 5) rfl rfl Try.func68 (by kernel_rfl) rfl #[.float .f64 a0_0] rfl (by (try simp only [List.map_toArray, List.map_cons, List.map_nil]); first | done | rfl | (simp only [List.length_drop, List.length_take]; rfl)) ?_; (with_reducible refine (math_IsNaN.calls a0_0 false _ A2.out).mono ?_); rintro e w' ⟨rfl, ⟨nd, rfl⟩⟩; refine ⟨_, rfl, ?_⟩) | (go_at_call 55; (with_reducible refine (math_IsInf.calls a0_0 0 false _ A6.out).mono ?_); rintro e w' ⟨rfl, ⟨nd, rfl⟩⟩) | (go_at_call 68; (with_reducible refine (math_IsNaN.calls a0_1 true _ A10.out).mono ?_); rintro e w' ⟨rfl, ⟨nd, rfl⟩⟩))
    go_ret
    exact ⟨by first | rfl | (simp [errW_none, errW_some] <;> rfl) | (simp [*, errW_none, errW_some] <;> rfl), by repeat (first | (with_reducible first | exact HB.out | apply below_alloc | apply pw_below_drewN | apply below_drew1 | refine below_set ?_ GE117.out) | exact HB.out)⟩
   ·replace c11 := Bool.eq_false_iff.mpr c11
    subst c11
    have H1 : ((math_IsInf.f a0_1 0).bind fun t121 => (some (!t121))) = some r := by rw [if_neg (show ¬ (false = true) by decide)] at H; exact H
    clear H
    have H := H1
    clear H1
    replace H := Option.bind_eq_some_iff.mp H
    obtain ⟨t121, A140, H⟩ := H
    replace H : (some (!t121)) = some r := H
    have A14 := Aside0.mk A140
    clear A140
    obtain rfl := Option.some.inj H
    go_enter Try.func54, Try.ntmps54
    go_wp2_with (first | ((with_reducible refine gate_dst (N := 1) rfl ?_); refine box_event ?hg (N := 1) ?hd (cs := #[.float .f64 a0_0, .float .f64 a0_1]) (t := 28) ?hr ?_; (case hd => rfl); (case hg => rfl); (case hr => first | (go_simp; done) | (go_simp; rfl)); intro gb117 hg w15 hbox hb; have n0_ := Aside0.mk (below_step (by repeat (first | (with_reducible first | exact HB.out | apply below_alloc | apply pw_below_drewN | apply below_drew1) | exact HB.out)) hb); have n1_ := Aside0.mk (hbox); have n2_ := Aside0.mk ((by rw [hg]; exact (below_size (by repeat (first | (with_reducible first | exact HB.out | apply below_alloc | apply pw_below_drewN | apply below_drew1) | exact HB.out))) : w.heap.size ≤ gb117)); have n3_ := Aside0.mk ((by rw [hg]; exact (below_size (by repeat (first | (with_reducible first | exact HB.out | apply below_alloc | apply pw_below_drewN | apply below_drew1) | exact HB.out))) : w.heap.size ≤ gb117)); clear HB; have HB := n0_; have BK117 := n1_; have GW117 := n2_; have GE117 := n3_; clear n0_ n1_ n2_ n3_; clear hb hbox hg; have hcz16_0 : w15.cell? ⟨gb117, 0, none⟩ = some (.float .f64 a0_0) := (blk_cell BK117.out 0).trans rfl; have hcz16_1 : w15.cell? ⟨gb117, 1, none⟩ = some (.float .f64 a0_1) := (blk_cell BK117.out 1).trans rfl; have hfz16_0 := blk_frozen BK117.out 0; have hfz16_1 := blk_frozen BK117.out 1) | ((with_reducible refine gate_callee (f := 68) rfl ?_); refine goesL_ (some 5) rfl rfl Try.func68 (by kernel_rfl) rfl #[.float .f64 a0_0] rfl (by (try simp only [List.map_toArray, List.map_cons, List.map_nil]); first | done | rfl | (simp only [List.length_drop, List.length_take]; rfl)) ?_; (with_reducible refine (math_IsNaN.calls a0_0 false _ A2.out).mono ?_); rintro e w' ⟨rfl, ⟨nd, rfl⟩⟩; refine ⟨_, rfl, ?_⟩) | (go_at_call 55; (with_reducible refine (math_IsInf.calls a0_0 0 false _ A6.out).mono ?_); rintro e w' ⟨rfl, ⟨nd, rfl⟩⟩) | (go_at_call 68; (with_reducible refine (math_IsNaN.calls a0_1 false _ A10.out).mono ?_); rintro e w' ⟨rfl, ⟨nd, rfl⟩⟩) | (go_at_call 55; (with_reducible refine (math_IsInf.calls a0_1 0 t121 _ A14.out).mono ?_); rintro e w' ⟨rfl, ⟨nd, rfl⟩⟩))
    go_ret
    exact ⟨by first | rfl | (simp [errW_none, errW_some] <;> rfl) | (simp [*, errW_none, errW_some] <;> rfl), by repeat (first | (with_reducible first | exact HB.out | apply below_alloc | apply pw_below_drewN | apply below_drew1 | refine below_set ?_ GE117.out) | exact HB.out)⟩


end Go.Proofs.Ythjlapmjpjpgeaa.DX
namespace Go.Proofs.Ythjlapmjpjpgeaa.DX
open Go.RowKit Go.Proofs.YthjlapmjpjpgeaaW.PrintWords Go.Proofs.YthjlapmjpjpgeaaW.PrintLast Go.Proofs.YthjlapmjpjpgeaaW.PrintMore
attribute [local go_sem] run_store_float max2_int min2_int max_two min_two max_three min_three max_four min_four   -- for this text's walks alone
set_option linter.unusedVariables false
set_option linter.unusedSimpArgs false

def impl_PhOver.j0 : Nat → Bool → Nat → Nat → Nat → Nat → ((Nat × Nat × Bool) → Prop) → Prop
 | 0, _, _, _, _, _, _ => False
 | k + 1, x17, x123000, x123001, x124000, x124001, Q_ => if x17 = true then (Q_ (0, 0, false)) else (∀ fr127 : Nat, FRk .f64 .mul x124000 x124000 fr127 → (∀ fr128 : Nat, FRk .f64 .mul x124001 x124001 fr128 → (∀ fr129 : Nat, FRk .f64 .add fr127 fr128 fr129 → (if (FloatKind.f64.format.order fr129 0 == some .eq) = true then (Q_ (0, 0, false)) else (∃ t130, math_IsInf.f fr129 0 = some t130 ∧ (if t130 = true then (Q_ (0, 0, false)) else (impl_PhTimes.f x123000 x123001 x124000 (Go.Op.negFloat .f64 x124001) (fun bt131 => (∀ fr134 : Nat, FRk .f64 .quo bt131.1 fr129 fr134 → (∀ fr135 : Nat, FRk .f64 .quo bt131.2 fr129 fr135 → (Q_ (fr134, fr135, true))))))))))))
def impl_PhOver.f (k : Nat) (a0_0 : Nat) (a0_1 : Nat) (a1_0 : Nat) (a1_1 : Nat) (Q_ : (Nat × Nat × Bool) → Prop) : Prop := ∃ t125, impl_isFinite.f a0_0 a0_1 = some t125 ∧ (if t125 = true then (∃ t126, impl_isFinite.f a1_0 a1_1 = some t126 ∧ (impl_PhOver.j0 k (!t126) a0_0 a0_1 a1_0 a1_1 Q_)) else (impl_PhOver.j0 k true a0_0 a0_1 a1_0 a1_1 Q_))
set_option maxHeartbeats 8000000 in
set_option maxRecDepth 100000 in
theorem impl_PhOver.calls (k : Nat) (a0_0 : Nat) (a0_1 : Nat) (a1_0 : Nat) (a1_1 : Nat) (Q_ : (Nat × Nat × Bool) → Prop) (w : World) (h : impl_PhOver.f k a0_0 a0_1 a1_0 a1_1 Q_) :
  Calls Try.prog 32 #[.agg #[.float .f64 a0_0, .float .f64 a0_1], .agg #[.float .f64 a1_0, .float .f64 a1_1]] w fun e w' => Dq3 Q_ (fun (r1 : Nat) (r2 : Nat) (r3 : Bool) => e = .returned (.tuple #[.agg #[.float .f64 r1, .float .f64 r2], .bool r3]) ∧ Below w.heap.size w w') := by
 have hu28 := Try.underlying28
 have hng_ : ∀ (k_ : FloatKind) (x_ : Nat) (W_ : World), (Op.unary .neg (.float k_ x_)).run Try.prog W_ = .ok (.float k_ (Go.Op.negFloat k_ x_)) W_ := fun _ _ _ => rfl
 have HB := Aside0.mk (Below.refl w.heap.size w)
 have H : (∃ t125, impl_isFinite.f a0_0 a0_1 = some t125 ∧ (if t125 = true then (∃ t126, impl_isFinite.f a1_0 a1_1 = some t126 ∧ (impl_PhOver.j0 k (!t126) a0_0 a0_1 a1_0 a1_1 Q_)) else (impl_PhOver.j0 k true a0_0 a0_1 a1_0 a1_1 Q_))) := h
 clear h
 have HC3 := Aside0.mk H
 clear H
 go_enter Try.func32, Try.ntmps32
 go_upto_region 1 with (first | ((with_reducible refine gate_dst (N := 2) rfl ?_); refine box_event ?hg (N := 2) ?hd (cs := #[.float .f64 a0_0, .float .f64 a0_1]) (t := 28) ?hr ?_; (case hd => rfl); (case hg => rfl); (case hr => first | (go_simp; done) | (go_simp; rfl)); intro gb122 hg w4 hbox hb; have n0_ := Aside0.mk (below_step (by repeat (first | (with_reducible first | exact HB.out | apply below_alloc | apply pw_below_drewN | apply below_drew1) | exact HB.out)) hb); have n1_ := Aside0.mk (hbox); have n2_ := Aside0.mk ((by rw [hg]; exact (below_size (by repeat (first | (with_reducible first | exact HB.out | apply below_alloc | apply pw_below_drewN | apply below_drew1) | exact HB.out))) : w.heap.size ≤ gb122)); have n3_ := Aside0.mk ((by rw [hg]; exact (below_size (by repeat (first | (with_reducible first | exact HB.out | apply below_alloc | apply pw_below_drewN | apply below_drew1) | exact HB.out))) : w.heap.size ≤ gb122)); clear HB; have HB := n0_; have BK122 := n1_; have GW122 := n2_; have GE122 := n3_; clear n0_ n1_ n2_ n3_; clear hb hbox hg) | ((with_reducible refine gate_dst (N := 3) rfl ?_); refine box_event ?hg (N := 3) ?hd (cs := #[.float .f64 a1_0, .float .f64 a1_1]) (t := 28) ?hr ?_; (case hd => rfl); (case hg => rfl); (case hr => first | (go_simp; done) | (go_simp; rfl)); intro gb123 hg w5 hbox hb; have n0_ := Aside0.mk (blk_below (g := gb122) (o := .cells #[.float .f64 a0_0, .float .f64 a0_1] 28 (0, 0)) (by (with_reducible repeat (first | refine blk_drewN ?_ _ | refine blk_drew ?_ | refine blk_alloc ?_ _)); exact BK122.out) hb); have n1_ := Aside0.mk (below_step (by repeat (first | (with_reducible first | exact HB.out | apply below_alloc | apply pw_below_drewN | apply below_drew1 | refine below_set ?_ GE122.out) | exact HB.out)) hb); have n2_ := Aside0.mk (hbox); have n3_ := Aside0.mk ((by rw [hg]; exact (below_size (by repeat (first | (with_reducible first | exact HB.out | apply below_alloc | apply pw_below_drewN | apply below_drew1 | refine below_set ?_ GE122.out) | exact HB.out))) : w.heap.size ≤ gb123)); have n4_ := Aside0.mk ((by rw [hg]; exact (below_size (by repeat (first | (with_reducible first | exact HB.out | apply below_alloc | apply pw_below_drewN | apply below_drew1 | refine below_set ?_ GE122.out) | exact HB.out))) : w.heap.size ≤ gb123)); have n5_ := Aside0.mk ((by rw [hg]; exact Nat.ne_of_lt (blk_lt (g := gb122) (o := .cells #[.float .f64 a0_0, .float .f64 a0_1] 28 (0, 0)) (by (with_reducible repeat (first | refine blk_drewN ?_ _ | refine blk_drew ?_ | refine blk_alloc ?_ _)); exact BK122.out)) : gb122 ≠ gb123)); have n6_ := Aside0.mk ((by rw [hg]; exact Nat.ne_of_gt (blk_lt (g := gb122) (o := .cells #[.float .f64 a0_0, .float .f64 a0_1] 28 (0, 0)) (by (with_reducible repeat (first | refine blk_drewN ?_ _ | refine blk_drew ?_ | refine blk_alloc ?_ _)); exact BK122.out)) : gb123 ≠ gb122)); clear BK122; clear HB; have BK122 := n0_; have HB := n1_; have BK123 := n2_; have GW123 := n3_; have GE123 := n4_; have NB122_123 := n5_; have NB123_122 := n6_; clear n0_ n1_ n2_ n3_ n4_ n5_ n6_; clear hb hbox hg) | ((with_reducible refine gate_dst (N := 4) rfl ?_); refine box_event ?hg (N := 4) ?hd (cs := #[.float .f64 0, .float .f64 0]) (t := 28) ?hr ?_; (case hd => rfl); (case hg => rfl); (case hr => first | (go_simp; done) | (go_simp; rfl)); intro gb124 hg w6 hbox hb; have n0_ := Aside0.mk (blk_below (g := gb122) (o := .cells #[.float .f64 a0_0, .float .f64 a0_1] 28 (0, 0)) (by (with_reducible repeat (first | refine blk_drewN ?_ _ | refine blk_drew ?_ | refine blk_alloc ?_ _)); exact BK122.out) hb); have n1_ := Aside0.mk (blk_below (g := gb123) (o := .cells #[.float .f64 a1_0, .float .f64 a1_1] 28 (0, 0)) (by (with_reducible repeat (first | refine blk_drewN ?_ _ | refine blk_drew ?_ | refine blk_alloc ?_ _)); exact BK123.out) hb); have n2_ := Aside0.mk (below_step (by repeat (first | (with_reducible first | exact HB.out | apply below_alloc | apply pw_below_drewN | apply below_drew1 | refine below_set ?_ GE122.out | refine below_set ?_ GE123.out) | exact HB.out)) hb); have n3_ := Aside0.mk (hbox); have n4_ := Aside0.mk ((by rw [hg]; exact (below_size (by repeat (first | (with_reducible first | exact HB.out | apply below_alloc | apply pw_below_drewN | apply below_drew1 | refine below_set ?_ GE122.out | refine below_set ?_ GE123.out) | exact HB.out))) : w.heap.size ≤ gb124)); have n5_ := Aside0.mk ((by rw [hg]; exact (below_size (by repeat (first | (with_reducible first | exact HB.out | apply below_alloc | apply pw_below_drewN | apply below_drew1 | refine below_set ?_ GE122.out | refine below_set ?_ GE123.out) | exact HB.out))) : w.heap.size ≤ gb124)); have n6_ := Aside0.mk ((by rw [hg]; exact Nat.ne_of_lt (blk_lt (g := gb122) (o := .cells #[.float .f64 a0_0, .float .f64 a0_1] 28 (0, 0)) (by (with_reducible repeat (first | refine blk_drewN ?_ _ | refine blk_drew ?_ | refine blk_alloc ?_ _)); exact BK122.out)) : gb122 ≠ gb124)); have n7_ := Aside0.mk ((by rw [hg]; exact Nat.ne_of_gt (blk_lt (g := gb122) (o := .cells #[.float .f64 a0_0, .float .f64 a0_1] 28 (0, 0)) (by (with_reducible repeat (first | refine blk_drewN ?_ _ | refine blk_drew ?_ | refine blk_alloc ?_ _)); exact BK122.out)) : gb124 ≠ gb122)); have n8_ := Aside0.mk ((by rw [hg]; exact Nat.ne_of_lt (blk_lt (g := gb123) (o := .cells #[.float .f64 a1_0, .float .f64 a1_1] 28 (0, 0)) (by (with_reducible repeat (first | refine blk_drewN ?_ _ | refine blk_drew ?_ | refine blk_alloc ?_ _)); exact BK123.out)) : gb123 ≠ gb124)); have n9_ := Aside0.mk ((by rw [hg]; exact Nat.ne_of_gt (blk_lt (g := gb123) (o := .cells #[.float .f64 a1_0, .float .f64 a1_1] 28 (0, 0)) (by (with_reducible repeat (first | refine blk_drewN ?_ _ | refine blk_drew ?_ | refine blk_alloc ?_ _)); exact BK123.out)) : gb124 ≠ gb123)); clear BK122; clear BK123; clear HB; have BK122 := n0_; have BK123 := n1_; have HB := n2_; have BK124 := n3_; have GW124 := n4_; have GE124 := n5_; have NB122_124 := n6_; have NB124_122 := n7_; have NB123_124 := n8_; have NB124_123 := n9_; clear n0_ n1_ n2_ n3_ n4_ n5_ n6_ n7_ n8_ n9_; clear hb hbox hg))
 (try simp only [Act.put, List.setIfInBounds_toArray, List.set_cons_zero, List.set_cons_succ])
 go_cut [17] (fun v17 wc => ∃ (kq : Nat) (x17_2 : Bool), v17 = .bool x17_2 ∧ Aside0 (impl_PhOver.j0 kq x17_2 a0_0 a0_1 a1_0 a1_1 Q_) ∧ Aside0 (kq ≤ k) ∧ Aside0 (wc.heap[gb122]? = some (.cells #[.float .f64 a0_0, .float .f64 a0_1] 28 (0, 0))) ∧ Aside0 (wc.heap[gb123]? = some (.cells #[.float .f64 a1_0, .float .f64 a1_1] 28 (0, 0))) ∧ Aside0 (wc.heap[gb124]? = some (.cells #[.float .f64 0, .float .f64 0] 28 (0, 0))) ∧ Aside0 (Below w.heap.size w wc))
 case first =>
  have H := HC3.out
  clear HC3
  obtain ⟨t125, A70, H⟩ := H
  replace H : (if t125 = true then (∃ t126, impl_isFinite.f a1_0 a1_1 = some t126 ∧ (impl_PhOver.j0 k (!t126) a0_0 a0_1 a1_0 a1_1 Q_)) else (impl_PhOver.j0 k true a0_0 a0_1 a1_0 a1_1 Q_)) := H
  have A7 := Aside0.mk A70
  clear A70
  by_cases c8 : t125 = true
  ·subst c8
   have H1 : (∃ t126, impl_isFinite.f a1_0 a1_1 = some t126 ∧ (impl_PhOver.j0 k (!t126) a0_0 a0_1 a1_0 a1_1 Q_)) := by rw [if_pos rfl] at H; exact H
   clear H
   have H := H1
   clear H1
   obtain ⟨t126, A90, H⟩ := H
   replace H : (impl_PhOver.j0 k (!t126) a0_0 a0_1 a1_0 a1_1 Q_) := H
   have A9 := Aside0.mk A90
   clear A90
   have H' := Aside0.mk H
   clear H
   have hnb10 := NB122_123.out
   have hnc10 := NB123_122.out
   have hnb11 := NB122_124.out
   have hnc11 := NB124_122.out
   have hcz12_0 : w6.cell? ⟨gb122, 0, none⟩ = some (.float .f64 a0_0) := (blk_cell BK122.out 0).trans rfl
   have hcz12_1 : w6.cell? ⟨gb122, 1, none⟩ = some (.float .f64 a0_1) := (blk_cell BK122.out 1).trans rfl
   have hfz12_0 := blk_frozen BK122.out 0
   have hfz12_1 := blk_frozen BK122.out 1
   go_wp2_with (first | ((with_reducible refine gate_callee (f := 54) rfl ?_); refine goesL_ (some 11) rfl rfl Try.func54 (by kernel_rfl) rfl #[.agg #[.float .f64 a0_0, .float .f64 a0_1]] rfl (by (try simp only [List.map_toArray, List.map_cons, List.map_nil]); first | done | rfl | (simp only [List.length_drop, List.length_take]; rfl)) ?_; (with_reducible refine (impl_isFinite.calls a0_0 a0_1 true _ A7.out).mono ?_); rintro e w13 ⟨rfl, hb⟩; refine ⟨_, rfl, ?_⟩; have n0_ := Aside0.mk (blk_below (g := gb122) (o := .cells #[.float .f64 a0_0, .float .f64 a0_1] 28 (0, 0)) (by (with_reducible repeat (first | refine blk_drewN ?_ _ | refine blk_drew ?_ | refine blk_alloc ?_ _)); exact BK122.out) hb); have n1_ := Aside0.mk (blk_below (g := gb123) (o := .cells #[.float .f64 a1_0, .float .f64 a1_1] 28 (0, 0)) (by (with_reducible repeat (first | refine blk_drewN ?_ _ | refine blk_drew ?_ | refine blk_alloc ?_ _)); exact BK123.out) hb); have n2_ := Aside0.mk (blk_below (g := gb124) (o := .cells #[.float .f64 0, .float .f64 0] 28 (0, 0)) (by (with_reducible repeat (first | refine blk_drewN ?_ _ | refine blk_drew ?_ | refine blk_alloc ?_ _)); exact BK124.out) hb); have n3_ := Aside0.mk (below_step (by repeat (first | (with_reducible first | exact HB.out | apply below_alloc | apply pw_below_drewN | apply below_drew1 | refine below_set ?_ GE122.out | refine below_set ?_ GE123.out | refine below_set ?_ GE124.out) | exact HB.out)) hb); clear BK122; clear BK123; clear BK124; clear HB; have BK122 := n0_; have BK123 := n1_; have BK124 := n2_; have HB := n3_; clear n0_ n1_ n2_ n3_; (try clear hb); (try clear hb2); (try clear hk); (try clear hi); have hnb14 := NB123_124.out; have hnc14 := NB124_123.out; have hcz15_0 : w13.cell? ⟨gb123, 0, none⟩ = some (.float .f64 a1_0) := (blk_cell BK123.out 0).trans rfl; have hcz15_1 : w13.cell? ⟨gb123, 1, none⟩ = some (.float .f64 a1_1) := (blk_cell BK123.out 1).trans rfl; have hfz15_0 := blk_frozen BK123.out 0; have hfz15_1 := blk_frozen BK123.out 1) | (go_at_call 54; (with_reducible refine (impl_isFinite.calls a1_0 a1_1 t126 _ A9.out).mono ?_); rintro e w16 ⟨rfl, hb⟩; have n0_ := Aside0.mk (blk_below (g := gb122) (o := .cells #[.float .f64 a0_0, .float .f64 a0_1] 28 (0, 0)) (by (with_reducible repeat (first | refine blk_drewN ?_ _ | refine blk_drew ?_ | refine blk_alloc ?_ _)); exact BK122.out) hb); have n1_ := Aside0.mk (blk_below (g := gb123) (o := .cells #[.float .f64 a1_0, .float .f64 a1_1] 28 (0, 0)) (by (with_reducible repeat (first | refine blk_drewN ?_ _ | refine blk_drew ?_ | refine blk_alloc ?_ _)); exact BK123.out) hb); have n2_ := Aside0.mk (blk_below (g := gb124) (o := .cells #[.float .f64 0, .float .f64 0] 28 (0, 0)) (by (with_reducible repeat (first | refine blk_drewN ?_ _ | refine blk_drew ?_ | refine blk_alloc ?_ _)); exact BK124.out) hb); have n3_ := Aside0.mk (below_step (by repeat (first | (with_reducible first | exact HB.out | apply below_alloc | apply pw_below_drewN | apply below_drew1 | refine below_set ?_ GE122.out | refine below_set ?_ GE123.out | refine below_set ?_ GE124.out) | exact HB.out)) hb); clear BK122; clear BK123; clear BK124; clear HB; have BK122 := n0_; have BK123 := n1_; have BK124 := n2_; have HB := n3_; clear n0_ n1_ n2_ n3_; (try clear hb); (try clear hb2); (try clear hk); (try clear hi)))
   go_meet
   case rel => exact ⟨_, (!t126), (by first | rfl | (simp; done) | (simp [*]; done)), H', ⟨by first | omega | exact Nat.le_refl _⟩, ⟨by (with_reducible repeat (first | refine blk_drewN ?_ _ | refine blk_drew ?_ | refine blk_alloc ?_ _)); exact BK122.out⟩, ⟨by (with_reducible repeat (first | refine blk_drewN ?_ _ | refine blk_drew ?_ | refine blk_alloc ?_ _)); exact BK123.out⟩, ⟨by (with_reducible repeat (first | refine blk_drewN ?_ _ | refine blk_drew ?_ | refine blk_alloc ?_ _)); exact BK124.out⟩, ⟨by repeat (first | (with_reducible first | exact HB.out | apply below_alloc | apply pw_below_drewN | apply below_drew1 | refine below_set ?_ GE122.out | refine below_set ?_ GE123.out | refine below_set ?_ GE124.out) | exact HB.out)⟩⟩
  ·replace c8 := Bool.eq_false_iff.mpr c8
   subst c8
   have H1 : (impl_PhOver.j0 k true a0_0 a0_1 a1_0 a1_1 Q_) := by rw [if_neg (show ¬ (false = true) by decide)] at H; exact H
   clear H
   have H := H1
   clear H1
   have H' := Aside0.mk H
   clear H
   have hnb17 := NB122_123.out
   have hnc17 := NB123_122.out
   have hnb18 := NB122_124.out
   have hnc18 := NB124_122.out
   have hcz19_0 : w6.cell? ⟨gb122, 0, none⟩ = some (.float .f64 a0_0) := (blk_cell BK122.out 0).trans rfl
   have hcz19_1 : w6.cell? ⟨gb122, 1, none⟩ = some (.float .f64 a0_1) := (blk_cell BK122.out 1).trans rfl
   have hfz19_0 := blk_frozen BK122.out 0
   have hfz19_1 := blk_frozen BK122.out 1
   go_wp2_with (first | ((with_reducible refine gate_callee (f := 54) rfl ?_); refine goesL_ (some 11) rfl rfl Try.func54 (by kernel_rfl) rfl #[.agg #[.float .f64 a0_0, .float .f64 a0_1]] rfl (by (try simp only [List.map_toArray, List.map_cons, List.map_nil]); first | done | rfl | (simp only [List.length_drop, List.length_take]; rfl)) ?_; (with_reducible refine (impl_isFinite.calls a0_0 a0_1 false _ A7.out).mono ?_); rintro e w20 ⟨rfl, hb⟩; refine ⟨_, rfl, ?_⟩; have n0_ := Aside0.mk (blk_below (g := gb122) (o := .cells #[.float .f64 a0_0, .float .f64 a0_1] 28 (0, 0)) (by (with_reducible repeat (first | refine blk_drewN ?_ _ | refine blk_drew ?_ | refine blk_alloc ?_ _)); exact BK122.out) hb); have n1_ := Aside0.mk (blk_below (g := gb123) (o := .cells #[.float .f64 a1_0, .float .f64 a1_1] 28 (0, 0)) (by (with_reducible repeat (first | refine blk_drewN ?_ _ | refine blk_drew ?_ | refine blk_alloc ?_ _)); exact BK123.out) hb); have n2_ := Aside0.mk (blk_below (g := gb124) (o := .cells #[.float .f64 0, .float .f64 0] 28 (0, 0)) (by (with_reducible repeat (first | refine blk_drewN ?_ _ | refine blk_drew ?_ | refine blk_alloc ?_ _)); exact BK124.out) hb); have n3_ := Aside0.mk (below_step (by repeat (first | (with_reducible first | exact HB.out | apply below_alloc | apply pw_below_drewN | apply below_drew1 | refine below_set ?_ GE122.out | refine below_set ?_ GE123.out | refine below_set ?_ GE124.out) | exact HB.out)) hb); clear BK122; clear BK123; clear BK124; clear HB; have BK122 := n0_; have BK123 := n1_; have BK124 := n2_; have HB := n3_; clear n0_ n1_ n2_ n3_; (try clear hb); (try clear hb2); (try clear hk); (try clear hi)))
   go_meet
   case rel => exact ⟨_, (true), (by first | rfl | (simp; done) | (simp [*]; done)), H', ⟨by first | omega | exact Nat.le_refl _⟩, ⟨by (with_reducible repeat (first | refine blk_drewN ?_ _ | refine blk_drew ?_ | refine blk_alloc ?_ _)); exact BK122.out⟩, ⟨by (with_reducible repeat (first | refine blk_drewN ?_ _ | refine blk_drew ?_ | refine blk_alloc ?_ _)); exact BK123.out⟩, ⟨by (with_reducible repeat (first | refine blk_drewN ?_ _ | refine blk_drew ?_ | refine blk_alloc ?_ _)); exact BK124.out⟩, ⟨by repeat (first | (with_reducible first | exact HB.out | apply below_alloc | apply pw_below_drewN | apply below_drew1 | refine below_set ?_ GE122.out | refine below_set ?_ GE123.out | refine below_set ?_ GE124.out) | exact HB.out)⟩⟩
 case rest =>
  clear HC3
  (try clear c1); (try clear p2); (try clear c3); (try clear c5); (try clear c8); (try clear c10); (try clear c11); (try clear c14); (try clear c17); (try clear c18); (try clear hcz12_0 hcz12_1); (try clear hcz15_0 hcz15_1); (try clear hcz19_0 hcz19_1); (try clear hfz12_0 hfz12_1); (try clear hfz15_0 hfz15_1); (try clear hfz19_0 hfz19_1)
  obtain ⟨kq, x17_2, rfl, HA, HJ2, BK122, BK123, BK124, HB⟩ := hcut
  cases kq with
  | zero => exact absurd HA.out (by simp [impl_PhOver.j0])
  | succ kj2 =>
   have H := HA.out
   clear HA
   simp only [impl_PhOver.j0] at H
   by_cases c21 : x17_2 = true
   ·subst c21
    have H1 : (Q_ (0, 0, false)) := by rw [if_pos rfl] at H; exact H
    clear H
    have H := H1
    clear H1
    have HQ_ := Aside0.mk H
    clear H
    have hnb22 := NB124_122.out
    have hnc22 := NB122_124.out
    have hnb23 := NB124_123.out
    have hnc23 := NB123_124.out
    have hcz24_0 : wc.cell? ⟨gb124, 0, none⟩ = some (.float .f64 0) := (blk_cell BK124.out 0).trans rfl
    have hcz24_1 : wc.cell? ⟨gb124, 1, none⟩ = some (.float .f64 0) := (blk_cell BK124.out 1).trans rfl
    have hfz24_0 := blk_frozen BK124.out 0
    have hfz24_1 := blk_frozen BK124.out 1
    go_wp2
    refine bodyPost_ret (results_ct rfl _ _ gb124 28 #[.float .f64 0, .float .f64 0] (0, 0) _ rfl (by (with_reducible repeat (first | refine blk_drewN ?_ _ | refine blk_drew ?_ | refine blk_alloc ?_ _)); refine blk_put (cs := #[.float .f64 0, .float .f64 0]) ?_ 1 _ rfl; (with_reducible repeat (first | refine blk_drewN ?_ _ | refine blk_drew ?_ | refine blk_alloc ?_ _)); refine blk_put (cs := #[.float .f64 0, .float .f64 0]) ?_ 0 _ rfl; (with_reducible repeat (first | refine blk_drewN ?_ _ | refine blk_drew ?_ | refine blk_alloc ?_ _)); exact BK124.out) Try.underlying28 rfl (by kernel_rfl)) rfl ?_
    exact Dq3.mk HQ_.out ⟨by first | rfl | (simp [errW_none, errW_some] <;> rfl) | (simp [*, errW_none, errW_some] <;> rfl), by repeat (first | (with_reducible first | exact HB.out | apply below_alloc | apply pw_below_drewN | apply below_drew1 | refine below_set ?_ GE122.out | refine below_set ?_ GE123.out | refine below_set ?_ GE124.out) | exact HB.out)⟩
   ·replace c21 := Bool.eq_false_iff.mpr c21
    subst c21
    have H1 : (∀ fr127 : Nat, FRk .f64 .mul a1_0 a1_0 fr127 → (∀ fr128 : Nat, FRk .f64 .mul a1_1 a1_1 fr128 → (∀ fr129 : Nat, FRk .f64 .add fr127 fr128 fr129 → (if (FloatKind.f64.format.order fr129 0 == some .eq) = true then (Q_ (0, 0, false)) else (∃ t130, math_IsInf.f fr129 0 = some t130 ∧ (if t130 = true then (Q_ (0, 0, false)) else (impl_PhTimes.f a0_0 a0_1 a1_0 (Go.Op.negFloat .f64 a1_1) (fun bt131 => (∀ fr134 : Nat, FRk .f64 .quo bt131.1 fr129 fr134 → (∀ fr135 : Nat, FRk .f64 .quo bt131.2 fr129 fr135 → (Q_ (fr134, fr135, true)))))))))))) := by rw [if_neg (show ¬ (false = true) by decide)] at H; exact H
    clear H
    have H := H1
    clear H1
    have HD26 := Aside0.mk H
    clear H
    try go_wp2
    have hnb29 := NB123_122.out
    have hnc29 := NB122_123.out
    have hnb30 := NB123_124.out
    have hnc30 := NB124_123.out
    have hcz31_0 : wc.cell? ⟨gb123, 0, none⟩ = some (.float .f64 a1_0) := (blk_cell BK123.out 0).trans rfl
    have hcz31_1 : wc.cell? ⟨gb123, 1, none⟩ = some (.float .f64 a1_1) := (blk_cell BK123.out 1).trans rfl
    have hfz31_0 := blk_frozen BK123.out 0
    have hfz31_1 := blk_frozen BK123.out 1
    refine start_ (n := 12) (S := fun w' => w'.heap = wc.heap) (ds := []) #[false, false, false, false, false, false, false, false, false, false, false, false] (by kernel_rfl) rfl rfl rfl (fun hHeld => ?_)
    have HD_ : Below wc.heap.size wc wc.drew := below_drew1 (Below.refl _ _)
    generalize wc.drew = w32 at HD_ hHeld ⊢
    refine pure_ (i := 0) (N := (some 19)) (v := ?_) (a' := ?_) #[true, false, false, false, false, false, false, false, false, false, false, false] rfl rfl (by kernel_rfl) (fun _ _ _ h => h) (Or.inl ⟨by rfl, ?_⟩) ?_ ?_
    rotate_left
    ·intro w'
     go_simp
     with_reducible rfl
    rotate_left
    ·simp only [Act.put, List.setIfInBounds_toArray, List.set_cons_zero, List.set_cons_succ, i64_w, i32_w]
     rfl
    refine take_ (i := 1) (N := (some 20)) (v := ?_) (a' := ?_) #[true, true, false, false, false, false, false, false, false, false, false, false] rfl rfl (by kernel_rfl) (fun _ _ _ h => h) (Or.inl ⟨by rfl, ?_⟩) hHeld ?_ ?_
    rotate_left
    ·intro w' s0
     have t0_ := (cell_heap s0 _).trans hcz31_0
     have t1_ := (cell_heap s0 _).trans hcz31_1
     go_simp
     with_reducible rfl
    rotate_left
    ·simp only [Act.put, List.setIfInBounds_toArray, List.set_cons_zero, List.set_cons_succ, i64_w, i32_w]
     rfl
    refine pure_ (i := 2) (N := (some 21)) (v := ?_) (a' := ?_) #[true, true, true, false, false, false, false, false, false, false, false, false] rfl rfl (by kernel_rfl) (fun _ _ _ h => h) (Or.inl ⟨by rfl, ?_⟩) ?_ ?_
    rotate_left
    ·intro w'
     go_simp
     with_reducible rfl
    rotate_left
    ·simp only [Act.put, List.setIfInBounds_toArray, List.set_cons_zero, List.set_cons_succ, i64_w, i32_w]
     rfl
    refine take_ (i := 3) (N := (some 22)) (v := ?_) (a' := ?_) #[true, true, true, true, false, false, false, false, false, false, false, false] rfl rfl (by kernel_rfl) (fun _ _ _ h => h) (Or.inl ⟨by rfl, ?_⟩) hHeld ?_ ?_
    rotate_left
    ·intro w' s0
     have t0_ := (cell_heap s0 _).trans hcz31_0
     have t1_ := (cell_heap s0 _).trans hcz31_1
     go_simp
     with_reducible rfl
    rotate_left
    ·simp only [Act.put, List.setIfInBounds_toArray, List.set_cons_zero, List.set_cons_succ, i64_w, i32_w]
     rfl
    refine pure_ (i := 5) (N := (some 24)) (v := ?_) (a' := ?_) #[true, true, true, true, false, true, false, false, false, false, false, false] rfl rfl (by kernel_rfl) (fun _ _ _ h => h) (Or.inl ⟨by rfl, ?_⟩) ?_ ?_
    rotate_left
    ·intro w'
     go_simp
     with_reducible rfl
    rotate_left
    ·simp only [Act.put, List.setIfInBounds_toArray, List.set_cons_zero, List.set_cons_succ, i64_w, i32_w]
     rfl
    refine take_ (i := 6) (N := (some 25)) (v := ?_) (a' := ?_) #[true, true, true, true, false, true, true, false, false, false, false, false] rfl rfl (by kernel_rfl) (fun _ _ _ h => h) (Or.inl ⟨by rfl, ?_⟩) hHeld ?_ ?_
    rotate_left
    ·intro w' s0
     have t0_ := (cell_heap s0 _).trans hcz31_0
     have t1_ := (cell_heap s0 _).trans hcz31_1
     go_simp
     with_reducible rfl
    rotate_left
    ·simp only [Act.put, List.setIfInBounds_toArray, List.set_cons_zero, List.set_cons_succ, i64_w, i32_w]
     rfl
    refine pure_ (i := 7) (N := (some 26)) (v := ?_) (a' := ?_) #[true, true, true, true, false, true, true, true, false, false, false, false] rfl rfl (by kernel_rfl) (fun _ _ _ h => h) (Or.inl ⟨by rfl, ?_⟩) ?_ ?_
    rotate_left
    ·intro w'
     go_simp
     with_reducible rfl
    rotate_left
    ·simp only [Act.put, List.setIfInBounds_toArray, List.set_cons_zero, List.set_cons_succ, i64_w, i32_w]
     rfl
    refine take_ (i := 8) (N := (some 27)) (v := ?_) (a' := ?_) #[true, true, true, true, false, true, true, true, true, false, false, false] rfl rfl (by kernel_rfl) (fun _ _ _ h => h) (Or.inl ⟨by rfl, ?_⟩) hHeld ?_ ?_
    rotate_left
    ·intro w' s0
     have t0_ := (cell_heap s0 _).trans hcz31_0
     have t1_ := (cell_heap s0 _).trans hcz31_1
     go_simp
     with_reducible rfl
    rotate_left
    ·simp only [Act.put, List.setIfInBounds_toArray, List.set_cons_zero, List.set_cons_succ, i64_w, i32_w]
     rfl
    refine join_ (σ := Nat × Nat) 0 #[true, true, true, true, true, true, true, true, true, true, true, true] (fun s_ => [(23, .float .f64 s_.1), (28, .float .f64 s_.2), (6, .float .f64 s_.1), (7, .float .f64 s_.2)]) (fun s_ w' => FRk .f64 .mul a1_0 a1_0 s_.1 ∧ FRk .f64 .mul a1_1 a1_1 s_.2 ∧ w'.heap = wc.heap ∧ Below wc.heap.size wc w') ?_ ?_
    rotate_left
    ·intro hCont
     refine two_ (i := 4) (j := 9) (Ni := (some 23)) (Nj := (some 28)) #[true, true, true, true, true, true, true, true, true, false, false, false] #[true, true, true, true, false, true, true, true, true, true, false, false] rfl rfl rfl rfl (by kernel_rfl) (by decide) (by decide) (fun K hK => ?_) (fun K hK => ?_)
     ·refine fl_step (k := .f64) (R := FRk .f64 .mul a1_0 a1_0) ?hw (N := 23) ?hd ?hr ?_
      (case hw => rfl)
      (case hd => rfl)
      (case hr => obtain ⟨r_, w_, hc_, hR_, hq_⟩ := frk_run (P := Try.prog) .f64 .mul 26 a1_0 a1_0 _ (by simp); exact ⟨r_, w_, by first | (go_simp; done) | (go_simp; rfl), hR_, hq_⟩)
      intro fr127 wa_ hR4_ hq_
      have hHeld2 := (Quiet1.heap hq_).trans hHeld
      replace HD_ := below_step HD_ (Quiet1.below hq_)
      clear hHeld hq_
      refine hK.out _ _ hHeld2 (fun hHeld => ?_)
      clear hK K hHeld2
      refine norm_ (a' := ?_) ?_ ?_
      rotate_left
      ·show Act.put _ (some 23) _ = _
       simp only [Act.put, List.setIfInBounds_toArray, List.set_cons_zero, List.set_cons_succ, i64_w, i32_w]
       rfl
      refine pure_ (i := 10) (N := (some 6)) (v := ?_) (a' := ?_) #[true, true, true, true, true, true, true, true, true, false, true, false] rfl rfl (by kernel_rfl) (fun _ _ _ h => h) (Or.inl ⟨by rfl, ?_⟩) ?_ ?_
      rotate_left
      ·intro w'
       go_simp
       with_reducible rfl
      rotate_left
      ·simp only [Act.put, List.setIfInBounds_toArray, List.set_cons_zero, List.set_cons_succ, i64_w, i32_w]
       rfl
      refine one_ (i := 9) (N := (some 28)) #[true, true, true, true, true, true, true, true, true, true, true, false] rfl rfl (by kernel_rfl) (by decide) (fun K hK => ?_)
      refine fl_step (k := .f64) (R := FRk .f64 .mul a1_1 a1_1) ?hw (N := 28) ?hd ?hr ?_
      (case hw => rfl)
      (case hd => rfl)
      (case hr => obtain ⟨r_, w_, hc_, hR_, hq_⟩ := frk_run (P := Try.prog) .f64 .mul 26 a1_1 a1_1 _ (by simp); exact ⟨r_, w_, by first | (go_simp; done) | (go_simp; rfl), hR_, hq_⟩)
      intro fr128 wb_ hR9_ hq_
      have hHeld2 := (Quiet1.heap hq_).trans hHeld
      replace HD_ := below_step HD_ (Quiet1.below hq_)
      clear hHeld hq_
      refine hK.out _ _ hHeld2 (fun hHeld => ?_)
      clear hK K hHeld2
      refine norm_ (a' := ?_) ?_ ?_
      rotate_left
      ·show Act.put _ (some 28) _ = _
       simp only [Act.put, List.setIfInBounds_toArray, List.set_cons_zero, List.set_cons_succ, i64_w, i32_w]
       rfl
      refine pure_ (i := 11) (N := (some 7)) (v := ?_) (a' := ?_) #[true, true, true, true, true, true, true, true, true, true, true, true] rfl rfl (by kernel_rfl) (fun _ _ _ h => h) (Or.inl ⟨by rfl, ?_⟩) ?_ ?_
      rotate_left
      ·intro w'
       go_simp
       with_reducible rfl
      rotate_left
      ·simp only [Act.put, List.setIfInBounds_toArray, List.set_cons_zero, List.set_cons_succ, i64_w, i32_w]
       rfl
      exact norm_ (by simp only [putAll, Act.put, List.setIfInBounds_toArray, List.set_cons_zero, List.set_cons_succ]) (hCont (fr127, fr128) _ ⟨hR4_, hR9_, hHeld, HD_⟩)
     ·refine fl_step (k := .f64) (R := FRk .f64 .mul a1_1 a1_1) ?hw (N := 28) ?hd ?hr ?_
      (case hw => rfl)
      (case hd => rfl)
      (case hr => obtain ⟨r_, w_, hc_, hR_, hq_⟩ := frk_run (P := Try.prog) .f64 .mul 26 a1_1 a1_1 _ (by simp); exact ⟨r_, w_, by first | (go_simp; done) | (go_simp; rfl), hR_, hq_⟩)
      intro fr128 wa_ hR9_ hq_
      have hHeld2 := (Quiet1.heap hq_).trans hHeld
      replace HD_ := below_step HD_ (Quiet1.below hq_)
      clear hHeld hq_
      refine hK.out _ _ hHeld2 (fun hHeld => ?_)
      clear hK K hHeld2
      refine norm_ (a' := ?_) ?_ ?_
      rotate_left
      ·show Act.put _ (some 28) _ = _
       simp only [Act.put, List.setIfInBounds_toArray, List.set_cons_zero, List.set_cons_succ, i64_w, i32_w]
       rfl
      refine one_ (i := 4) (N := (some 23)) #[true, true, true, true, true, true, true, true, true, true, false, false] rfl rfl (by kernel_rfl) (by decide) (fun K hK => ?_)
      refine fl_step (k := .f64) (R := FRk .f64 .mul a1_0 a1_0) ?hw (N := 23) ?hd ?hr ?_
      (case hw => rfl)
      (case hd => rfl)
      (case hr => obtain ⟨r_, w_, hc_, hR_, hq_⟩ := frk_run (P := Try.prog) .f64 .mul 26 a1_0 a1_0 _ (by simp); exact ⟨r_, w_, by first | (go_simp; done) | (go_simp; rfl), hR_, hq_⟩)
      intro fr127 wb_ hR4_ hq_
      have hHeld2 := (Quiet1.heap hq_).trans hHeld
      replace HD_ := below_step HD_ (Quiet1.below hq_)
      clear hHeld hq_
      refine hK.out _ _ hHeld2 (fun hHeld => ?_)
      clear hK K hHeld2
      refine norm_ (a' := ?_) ?_ ?_
      rotate_left
      ·show Act.put _ (some 23) _ = _
       simp only [Act.put, List.setIfInBounds_toArray, List.set_cons_zero, List.set_cons_succ, i64_w, i32_w]
       rfl
      refine pure_ (i := 10) (N := (some 6)) (v := ?_) (a' := ?_) #[true, true, true, true, true, true, true, true, true, true, true, false] rfl rfl (by kernel_rfl) (fun _ _ _ h => h) (Or.inl ⟨by rfl, ?_⟩) ?_ ?_
      rotate_left
      ·intro w'
       go_simp
       with_reducible rfl
      rotate_left
      ·simp only [Act.put, List.setIfInBounds_toArray, List.set_cons_zero, List.set_cons_succ, i64_w, i32_w]
       rfl
      refine pure_ (i := 11) (N := (some 7)) (v := ?_) (a' := ?_) #[true, true, true, true, true, true, true, true, true, true, true, true] rfl rfl (by kernel_rfl) (fun _ _ _ h => h) (Or.inl ⟨by rfl, ?_⟩) ?_ ?_
      rotate_left
      ·intro w'
       go_simp
       with_reducible rfl
      rotate_left
      ·simp only [Act.put, List.setIfInBounds_toArray, List.set_cons_zero, List.set_cons_succ, i64_w, i32_w]
       rfl
      exact norm_ (by simp only [putAll, Act.put, List.setIfInBounds_toArray, List.set_cons_zero, List.set_cons_succ]) (hCont (fr127, fr128) _ ⟨hR4_, hR9_, hHeld, HD_⟩)
    rintro ⟨fr127, fr128⟩ w33 ⟨hR4_, hR9_, hHeld, hb⟩
    replace hR4_ : FRk .f64 .mul a1_0 a1_0 fr127 := hR4_
    replace hR9_ : FRk .f64 .mul a1_1 a1_1 fr128 := hR9_
    refine norm_ (a' := ?_) ?_ ?_
    rotate_left
    ·simp only [putAll, Act.put, List.setIfInBounds_toArray, List.set_cons_zero, List.set_cons_succ]
     rfl
    have HD27 := Aside0.mk (HD26.out fr127 hR4_ fr128 hR9_)
    have n0_ := Aside0.mk (blk_below (g := gb122) (o := .cells #[.float .f64 a0_0, .float .f64 a0_1] 28 (0, 0)) (by (with_reducible repeat (first | refine blk_drewN ?_ _ | refine blk_drew ?_ | refine blk_alloc ?_ _)); exact BK122.out) hb)
    have n1_ := Aside0.mk (blk_below (g := gb123) (o := .cells #[.float .f64 a1_0, .float .f64 a1_1] 28 (0, 0)) (by (with_reducible repeat (first | refine blk_drewN ?_ _ | refine blk_drew ?_ | refine blk_alloc ?_ _)); exact BK123.out) hb)
    have n2_ := Aside0.mk (blk_below (g := gb124) (o := .cells #[.float .f64 0, .float .f64 0] 28 (0, 0)) (by (with_reducible repeat (first | refine blk_drewN ?_ _ | refine blk_drew ?_ | refine blk_alloc ?_ _)); exact BK124.out) hb)
    have n3_ := Aside0.mk (below_step (by repeat (first | (with_reducible first | exact HB.out | apply below_alloc | apply pw_below_drewN | apply below_drew1 | refine below_set ?_ GE122.out | refine below_set ?_ GE123.out | refine below_set ?_ GE124.out) | exact HB.out)) hb)
    clear BK122
    clear BK123
    clear BK124
    clear HB
    have BK122 := n0_
    have BK123 := n1_
    have BK124 := n2_
    have HB := n3_
    clear n0_ n1_ n2_ n3_
    clear hb hHeld HD26 hR4_ hR9_ HD_
    refine done_ (by kernel_rfl) ?_
    go_upto_region 5 with (first | ((with_reducible refine gate_dst (N := 31) rfl ?_); refine fl_event (k := .f64) (R := FRk .f64 .add fr127 fr128) ?hg (N := 31) ?hd ?hr ?_; (case hd => rfl); (case hg => rfl); (case hr => obtain ⟨r_, w_, hc_, hR_, hq_⟩ := frk_run (P := Try.prog) .f64 .add 26 fr127 fr128 _ (by simp); exact ⟨r_, w_, by first | (go_simp; done) | (go_simp; rfl), hR_, hq_⟩); intro fr129 w34 hR_ hb; have HD28 := Aside0.mk (HD27.out fr129 hR_); clear HD27 hR_; have n0_ := Aside0.mk (blk_below (g := gb122) (o := .cells #[.float .f64 a0_0, .float .f64 a0_1] 28 (0, 0)) (by (with_reducible repeat (first | refine blk_drewN ?_ _ | refine blk_drew ?_ | refine blk_alloc ?_ _)); exact BK122.out) hb); have n1_ := Aside0.mk (blk_below (g := gb123) (o := .cells #[.float .f64 a1_0, .float .f64 a1_1] 28 (0, 0)) (by (with_reducible repeat (first | refine blk_drewN ?_ _ | refine blk_drew ?_ | refine blk_alloc ?_ _)); exact BK123.out) hb); have n2_ := Aside0.mk (blk_below (g := gb124) (o := .cells #[.float .f64 0, .float .f64 0] 28 (0, 0)) (by (with_reducible repeat (first | refine blk_drewN ?_ _ | refine blk_drew ?_ | refine blk_alloc ?_ _)); exact BK124.out) hb); have n3_ := Aside0.mk (below_step (by repeat (first | (with_reducible first | exact HB.out | apply below_alloc | apply pw_below_drewN | apply below_drew1 | refine below_set ?_ GE122.out | refine below_set ?_ GE123.out | refine below_set ?_ GE124.out) | exact HB.out)) hb); clear BK122; clear BK123; clear BK124; clear HB; have BK122 := n0_; have BK123 := n1_; have BK124 := n2_; have HB := n3_; clear n0_ n1_ n2_ n3_; (try clear hb)))
    (try simp only [Act.put, List.setIfInBounds_toArray, List.set_cons_zero, List.set_cons_succ])
    have H := HD28.out
    clear HD28
    by_cases c35 : (FloatKind.f64.format.order fr129 0 == some .eq) = true
    ·rw [if_pos c35] at H
     have c35b0 : (FloatKind.f64.format.order fr129 0 == some .eq) = true := c35
     (try (have c35b1 : decide (FloatKind.f64.format.order fr129 0 = some .eq) = true := by simpa using c35))
     (try (have c35b2 : (FloatKind.f64.format.order fr129 0 == some .eq) = true := by simpa using c35))
     (try (have c35b3 : (!(FloatKind.f64.format.order fr129 0 == some .eq)) = false := by simpa using c35))
     (try (have c35b4 : FloatKind.f64.format.order fr129 0 = some .eq := by simpa using c35))
     clear c35
     (first | rw [c35b0] | (simp only [i64_w, i32_w]; rw [c35b0]) | rw [c35b3] | skip)
     have HQ_ := Aside0.mk H
     clear H
     have hnb36 := NB124_122.out
     have hnc36 := NB122_124.out
     have hnb37 := NB124_123.out
     have hnc37 := NB123_124.out
     have hcz38_0 : w34.cell? ⟨gb124, 0, none⟩ = some (.float .f64 0) := (blk_cell BK124.out 0).trans rfl
     have hcz38_1 : w34.cell? ⟨gb124, 1, none⟩ = some (.float .f64 0) := (blk_cell BK124.out 1).trans rfl
     have hfz38_0 := blk_frozen BK124.out 0
     have hfz38_1 := blk_frozen BK124.out 1
     go_wp2
     refine bodyPost_ret (results_ct rfl _ _ gb124 28 #[.float .f64 0, .float .f64 0] (0, 0) _ rfl (by (with_reducible repeat (first | refine blk_drewN ?_ _ | refine blk_drew ?_ | refine blk_alloc ?_ _)); refine blk_put (cs := #[.float .f64 0, .float .f64 0]) ?_ 1 _ rfl; (with_reducible repeat (first | refine blk_drewN ?_ _ | refine blk_drew ?_ | refine blk_alloc ?_ _)); refine blk_put (cs := #[.float .f64 0, .float .f64 0]) ?_ 0 _ rfl; (with_reducible repeat (first | refine blk_drewN ?_ _ | refine blk_drew ?_ | refine blk_alloc ?_ _)); exact BK124.out) Try.underlying28 rfl (by kernel_rfl)) rfl ?_
     exact Dq3.mk HQ_.out ⟨by first | rfl | (simp [errW_none, errW_some] <;> rfl) | (simp [*, errW_none, errW_some] <;> rfl), by repeat (first | (with_reducible first | exact HB.out | apply below_alloc | apply pw_below_drewN | apply below_drew1 | refine below_set ?_ GE122.out | refine below_set ?_ GE123.out | refine below_set ?_ GE124.out) | exact HB.out)⟩
    ·rw [if_neg c35] at H
     have c35b0 : (FloatKind.f64.format.order fr129 0 == some .eq) = false := by simpa using c35
     (try (have c35b1 : decide (FloatKind.f64.format.order fr129 0 = some .eq) = false := by simpa using c35))
     (try (have c35b2 : (FloatKind.f64.format.order fr129 0 == some .eq) = false := by simpa using c35))
     (try (have c35b3 : (!(FloatKind.f64.format.order fr129 0 == some .eq)) = true := by simpa using c35))
     (try (have c35b4 : ¬ (FloatKind.f64.format.order fr129 0 = some .eq) := by simpa using c35))
     clear c35
     (first | rw [c35b0] | (simp only [i64_w, i32_w]; rw [c35b0]) | rw [c35b3] | skip)
     obtain ⟨t130, A390, H⟩ := H
     replace H : (if t130 = true then (Q_ (0, 0, false)) else (impl_PhTimes.f a0_0 a0_1 a1_0 (Go.Op.negFloat .f64 a1_1) (fun bt131 => (∀ fr134 : Nat, FRk .f64 .quo bt131.1 fr129 fr134 → (∀ fr135 : Nat, FRk .f64 .quo bt131.2 fr129 fr135 → (Q_ (fr134, fr135, true))))))) := H
     have A39 := Aside0.mk A390
     clear A390
     have HC40 := Aside0.mk H
     clear H
     go_upto_if 37 with (first | (go_at_call 55; (with_reducible refine (math_IsInf.calls fr129 0 t130 _ A39.out).mono ?_); rintro e w' ⟨rfl, ⟨nd, rfl⟩⟩))
     (try simp only [Act.put, List.setIfInBounds_toArray, List.set_cons_zero, List.set_cons_succ])
     have H := HC40.out
     clear HC40
     by_cases c41 : t130 = true
     ·subst c41
      have H1 : (Q_ (0, 0, false)) := by rw [if_pos rfl] at H; exact H
      clear H
      have H := H1
      clear H1
      have HQ_ := Aside0.mk H
      clear H
      have hnb42 := NB124_122.out
      have hnc42 := NB122_124.out
      have hnb43 := NB124_123.out
      have hnc43 := NB123_124.out
      have hcz44_0 : w34.cell? ⟨gb124, 0, none⟩ = some (.float .f64 0) := (blk_cell BK124.out 0).trans rfl
      have hcz44_1 : w34.cell? ⟨gb124, 1, none⟩ = some (.float .f64 0) := (blk_cell BK124.out 1).trans rfl
      have hfz44_0 := blk_frozen BK124.out 0
      have hfz44_1 := blk_frozen BK124.out 1
      go_wp2
      refine bodyPost_ret (results_ct rfl _ _ gb124 28 #[.float .f64 0, .float .f64 0] (0, 0) _ rfl (by (with_reducible repeat (first | refine blk_drewN ?_ _ | refine blk_drew ?_ | refine blk_alloc ?_ _)); refine blk_put (cs := #[.float .f64 0, .float .f64 0]) ?_ 1 _ rfl; (with_reducible repeat (first | refine blk_drewN ?_ _ | refine blk_drew ?_ | refine blk_alloc ?_ _)); refine blk_put (cs := #[.float .f64 0, .float .f64 0]) ?_ 0 _ rfl; (with_reducible repeat (first | refine blk_drewN ?_ _ | refine blk_drew ?_ | refine blk_alloc ?_ _)); exact BK124.out) Try.underlying28 rfl (by kernel_rfl)) rfl ?_
      exact Dq3.mk HQ_.out ⟨by first | rfl | (simp [errW_none, errW_some] <;> rfl) | (simp [*, errW_none, errW_some] <;> rfl), by repeat (first | (with_reducible first | exact HB.out | apply below_alloc | apply pw_below_drewN | apply below_drew1 | refine below_set ?_ GE122.out | refine below_set ?_ GE123.out | refine below_set ?_ GE124.out) | exact HB.out)⟩
     ·replace c41 := Bool.eq_false_iff.mpr c41
      subst c41
      have H1 : (impl_PhTimes.f a0_0 a0_1 a1_0 (Go.Op.negFloat .f64 a1_1) (fun bt131 => (∀ fr134 : Nat, FRk .f64 .quo bt131.1 fr129 fr134 → (∀ fr135 : Nat, FRk .f64 .quo bt131.2 fr129 fr135 → (Q_ (fr134, fr135, true)))))) := by rw [if_neg (show ¬ (false = true) by decide)] at H; exact H
      clear H
      have H := H1
      clear H1
      have HD46 := Aside0.mk H
      clear H
      have hnb49 := NB122_123.out
      have hnc49 := NB123_122.out
      have hnb50 := NB122_124.out
      have hnc50 := NB124_122.out
      have hcz51_0 : w34.cell? ⟨gb122, 0, none⟩ = some (.float .f64 a0_0) := (blk_cell BK122.out 0).trans rfl
      have hcz51_1 : w34.cell? ⟨gb122, 1, none⟩ = some (.float .f64 a0_1) := (blk_cell BK122.out 1).trans rfl
      have hfz51_0 := blk_frozen BK122.out 0
      have hfz51_1 := blk_frozen BK122.out 1
      have hnb52 := NB123_124.out
      have hnc52 := NB124_123.out
      have hcz53_0 : w34.cell? ⟨gb123, 0, none⟩ = some (.float .f64 a1_0) := (blk_cell BK123.out 0).trans rfl
      have hcz53_1 : w34.cell? ⟨gb123, 1, none⟩ = some (.float .f64 a1_1) := (blk_cell BK123.out 1).trans rfl
      have hfz53_0 := blk_frozen BK123.out 0
      have hfz53_1 := blk_frozen BK123.out 1
      go_wp2_with (first | ((with_reducible refine gate_callee (f := 23) rfl ?_); refine goesL_ (some 46) rfl rfl Try.func23 (by kernel_rfl) rfl #[.agg #[.float .f64 a0_0, .float .f64 a0_1], .agg #[.float .f64 a1_0, .float .f64 (Go.Op.negFloat .f64 a1_1)]] rfl (by (try simp only [List.map_toArray, List.map_cons, List.map_nil]); first | done | rfl | (simp only [List.length_drop, List.length_take]; rfl)) ?_; (with_reducible refine (impl_PhTimes.calls a0_0 a0_1 a1_0 (Go.Op.negFloat .f64 a1_1) _ _ HD46.out).mono ?_); rintro e w54 ⟨t131, t132, hq_, rfl, hb⟩; refine ⟨_, rfl, ?_⟩; have HD45 := Aside0.mk hq_; clear hq_ HD46; have n0_ := Aside0.mk (blk_below (g := gb122) (o := .cells #[.float .f64 a0_0, .float .f64 a0_1] 28 (0, 0)) (by (with_reducible repeat (first | refine blk_drewN ?_ _ | refine blk_drew ?_ | refine blk_alloc ?_ _)); exact BK122.out) hb); have n1_ := Aside0.mk (blk_below (g := gb123) (o := .cells #[.float .f64 a1_0, .float .f64 a1_1] 28 (0, 0)) (by (with_reducible repeat (first | refine blk_drewN ?_ _ | refine blk_drew ?_ | refine blk_alloc ?_ _)); exact BK123.out) hb); have n2_ := Aside0.mk (blk_below (g := gb124) (o := .cells #[.float .f64 0, .float .f64 0] 28 (0, 0)) (by (with_reducible repeat (first | refine blk_drewN ?_ _ | refine blk_drew ?_ | refine blk_alloc ?_ _)); exact BK124.out) hb); have n3_ := Aside0.mk (below_step (by repeat (first | (with_reducible first | exact HB.out | apply below_alloc | apply pw_below_drewN | apply below_drew1 | refine below_set ?_ GE122.out | refine below_set ?_ GE123.out | refine below_set ?_ GE124.out) | exact HB.out)) hb); clear BK122; clear BK123; clear BK124; clear HB; have BK122 := n0_; have BK123 := n1_; have BK124 := n2_; have HB := n3_; clear n0_ n1_ n2_ n3_; (try clear hb); (try clear hb2); (try clear hk); (try clear hi)) | ((with_reducible refine gate_dst (N := 9) rfl ?_); refine box_event ?hg (N := 9) ?hd (cs := #[.float .f64 0, .float .f64 0]) (t := 28) ?hr ?_; (case hd => rfl); (case hg => rfl); (case hr => first | (go_simp; done) | (go_simp; rfl)); intro gb133 hg w55 hbox hb; have n0_ := Aside0.mk (blk_below (g := gb122) (o := .cells #[.float .f64 a0_0, .float .f64 a0_1] 28 (0, 0)) (by (with_reducible repeat (first | refine blk_drewN ?_ _ | refine blk_drew ?_ | refine blk_alloc ?_ _)); exact BK122.out) hb); have n1_ := Aside0.mk (blk_below (g := gb123) (o := .cells #[.float .f64 a1_0, .float .f64 a1_1] 28 (0, 0)) (by (with_reducible repeat (first | refine blk_drewN ?_ _ | refine blk_drew ?_ | refine blk_alloc ?_ _)); exact BK123.out) hb); have n2_ := Aside0.mk (blk_below (g := gb124) (o := .cells #[.float .f64 0, .float .f64 0] 28 (0, 0)) (by (with_reducible repeat (first | refine blk_drewN ?_ _ | refine blk_drew ?_ | refine blk_alloc ?_ _)); exact BK124.out) hb); have n3_ := Aside0.mk (below_step (by repeat (first | (with_reducible first | exact HB.out | apply below_alloc | apply pw_below_drewN | apply below_drew1 | refine below_set ?_ GE122.out | refine below_set ?_ GE123.out | refine below_set ?_ GE124.out) | exact HB.out)) hb); have n4_ := Aside0.mk (hbox); have n5_ := Aside0.mk ((by rw [hg]; exact (below_size (by repeat (first | (with_reducible first | exact HB.out | apply below_alloc | apply pw_below_drewN | apply below_drew1 | refine below_set ?_ GE122.out | refine below_set ?_ GE123.out | refine below_set ?_ GE124.out) | exact HB.out))) : w.heap.size ≤ gb133)); have n6_ := Aside0.mk ((by rw [hg]; exact (below_size (by repeat (first | (with_reducible first | exact HB.out | apply below_alloc | apply pw_below_drewN | apply below_drew1 | refine below_set ?_ GE122.out | refine below_set ?_ GE123.out | refine below_set ?_ GE124.out) | exact HB.out))) : w.heap.size ≤ gb133)); have n7_ := Aside0.mk ((by rw [hg]; exact Nat.ne_of_lt (blk_lt (g := gb122) (o := .cells #[.float .f64 a0_0, .float .f64 a0_1] 28 (0, 0)) (by (with_reducible repeat (first | refine blk_drewN ?_ _ | refine blk_drew ?_ | refine blk_alloc ?_ _)); exact BK122.out)) : gb122 ≠ gb133)); have n8_ := Aside0.mk ((by rw [hg]; exact Nat.ne_of_gt (blk_lt (g := gb122) (o := .cells #[.float .f64 a0_0, .float .f64 a0_1] 28 (0, 0)) (by (with_reducible repeat (first | refine blk_drewN ?_ _ | refine blk_drew ?_ | refine blk_alloc ?_ _)); exact BK122.out)) : gb133 ≠ gb122)); have n9_ := Aside0.mk ((by rw [hg]; exact Nat.ne_of_lt (blk_lt (g := gb123) (o := .cells #[.float .f64 a1_0, .float .f64 a1_1] 28 (0, 0)) (by (with_reducible repeat (first | refine blk_drewN ?_ _ | refine blk_drew ?_ | refine blk_alloc ?_ _)); exact BK123.out)) : gb123 ≠ gb133)); have n10_ := Aside0.mk ((by rw [hg]; exact Nat.ne_of_gt (blk_lt (g := gb123) (o := .cells #[.float .f64 a1_0, .float .f64 a1_1] 28 (0, 0)) (by (with_reducible repeat (first | refine blk_drewN ?_ _ | refine blk_drew ?_ | refine blk_alloc ?_ _)); exact BK123.out)) : gb133 ≠ gb123)); have n11_ := Aside0.mk ((by rw [hg]; exact Nat.ne_of_lt (blk_lt (g := gb124) (o := .cells #[.float .f64 0, .float .f64 0] 28 (0, 0)) (by (with_reducible repeat (first | refine blk_drewN ?_ _ | refine blk_drew ?_ | refine blk_alloc ?_ _)); exact BK124.out)) : gb124 ≠ gb133)); have n12_ := Aside0.mk ((by rw [hg]; exact Nat.ne_of_gt (blk_lt (g := gb124) (o := .cells #[.float .f64 0, .float .f64 0] 28 (0, 0)) (by (with_reducible repeat (first | refine blk_drewN ?_ _ | refine blk_drew ?_ | refine blk_alloc ?_ _)); exact BK124.out)) : gb133 ≠ gb124)); clear BK122; clear BK123; clear BK124; clear HB; have BK122 := n0_; have BK123 := n1_; have BK124 := n2_; have HB := n3_; have BK133 := n4_; have GW133 := n5_; have GE133 := n6_; have NB122_133 := n7_; have NB133_122 := n8_; have NB123_133 := n9_; have NB133_123 := n10_; have NB124_133 := n11_; have NB133_124 := n12_; clear n0_ n1_ n2_ n3_ n4_ n5_ n6_ n7_ n8_ n9_ n10_ n11_ n12_; clear hb hbox hg; have hnb56 := NB133_122.out; have hnc56 := NB122_133.out; have hnb57 := NB133_123.out; have hnc57 := NB123_133.out; have hnb58 := NB133_124.out; have hnc58 := NB124_133.out; have hcz59_0 : w55.cell? ⟨gb133, 0, none⟩ = some (.float .f64 0) := (blk_cell BK133.out 0).trans rfl; have hcz59_1 : w55.cell? ⟨gb133, 1, none⟩ = some (.float .f64 0) := (blk_cell BK133.out 1).trans rfl; have hfz59_0 := blk_frozen BK133.out 0; have hfz59_1 := blk_frozen BK133.out 1) | ((with_reducible refine gate_dst (N := 50) rfl ?_); refine fl_event (k := .f64) (R := FRk .f64 .quo t131 fr129) ?hg (N := 50) ?hd ?hr ?_; (case hd => rfl); (case hg => rfl); (case hr => obtain ⟨r_, w_, hc_, hR_, hq_⟩ := frk_run (P := Try.prog) .f64 .quo 26 t131 fr129 _ (by simp); exact ⟨r_, w_, by first | (go_simp; done) | (go_simp; rfl), hR_, hq_⟩); intro fr134 w60 hR_ hb; have HD47 := Aside0.mk (HD45.out fr134 hR_); clear HD45 hR_; have n0_ := Aside0.mk (blk_below (g := gb122) (o := .cells #[.float .f64 a0_0, .float .f64 a0_1] 28 (0, 0)) (by (with_reducible repeat (first | refine blk_drewN ?_ _ | refine blk_drew ?_ | refine blk_alloc ?_ _)); refine blk_far ?_ NB122_133.out _; (with_reducible repeat (first | refine blk_drewN ?_ _ | refine blk_drew ?_ | refine blk_alloc ?_ _)); refine blk_far ?_ NB122_133.out _; (with_reducible repeat (first | refine blk_drewN ?_ _ | refine blk_drew ?_ | refine blk_alloc ?_ _)); exact BK122.out) hb); have n1_ := Aside0.mk (blk_below (g := gb123) (o := .cells #[.float .f64 a1_0, .float .f64 a1_1] 28 (0, 0)) (by (with_reducible repeat (first | refine blk_drewN ?_ _ | refine blk_drew ?_ | refine blk_alloc ?_ _)); refine blk_far ?_ NB123_133.out _; (with_reducible repeat (first | refine blk_drewN ?_ _ | refine blk_drew ?_ | refine blk_alloc ?_ _)); refine blk_far ?_ NB123_133.out _; (with_reducible repeat (first | refine blk_drewN ?_ _ | refine blk_drew ?_ | refine blk_alloc ?_ _)); exact BK123.out) hb); have n2_ := Aside0.mk (blk_below (g := gb124) (o := .cells #[.float .f64 0, .float .f64 0] 28 (0, 0)) (by (with_reducible repeat (first | refine blk_drewN ?_ _ | refine blk_drew ?_ | refine blk_alloc ?_ _)); refine blk_far ?_ NB124_133.out _; (with_reducible repeat (first | refine blk_drewN ?_ _ | refine blk_drew ?_ | refine blk_alloc ?_ _)); refine blk_far ?_ NB124_133.out _; (with_reducible repeat (first | refine blk_drewN ?_ _ | refine blk_drew ?_ | refine blk_alloc ?_ _)); exact BK124.out) hb); have n3_ := Aside0.mk (blk_below (g := gb133) (o := .cells #[.float .f64 t131, .float .f64 t132] 28 (0, 0)) (by (with_reducible repeat (first | refine blk_drewN ?_ _ | refine blk_drew ?_ | refine blk_alloc ?_ _)); refine blk_put (cs := #[.float .f64 t131, .float .f64 0]) ?_ 1 _ rfl; (with_reducible repeat (first | refine blk_drewN ?_ _ | refine blk_drew ?_ | refine blk_alloc ?_ _)); refine blk_put (cs := #[.float .f64 0, .float .f64 0]) ?_ 0 _ rfl; (with_reducible repeat (first | refine blk_drewN ?_ _ | refine blk_drew ?_ | refine blk_alloc ?_ _)); exact BK133.out) hb); have n4_ := Aside0.mk (below_step (by repeat (first | (with_reducible first | exact HB.out | apply below_alloc | apply pw_below_drewN | apply below_drew1 | refine below_set ?_ GE122.out | refine below_set ?_ GE123.out | refine below_set ?_ GE124.out | refine below_set ?_ GE133.out) | exact HB.out)) hb); clear BK122; clear BK123; clear BK124; clear BK133; clear HB; have BK122 := n0_; have BK123 := n1_; have BK124 := n2_; have BK133 := n3_; have HB := n4_; clear n0_ n1_ n2_ n3_ n4_; (try clear hb); have hcz61_0 : w60.cell? ⟨gb133, 0, none⟩ = some (.float .f64 t131) := (blk_cell BK133.out 0).trans rfl; have hcz61_1 : w60.cell? ⟨gb133, 1, none⟩ = some (.float .f64 t132) := (blk_cell BK133.out 1).trans rfl; have hfz61_0 := blk_frozen BK133.out 0; have hfz61_1 := blk_frozen BK133.out 1) | ((with_reducible refine gate_dst (N := 54) rfl ?_); refine fl_event (k := .f64) (R := FRk .f64 .quo t132 fr129) ?hg (N := 54) ?hd ?hr ?_; (case hd => rfl); (case hg => rfl); (case hr => obtain ⟨r_, w_, hc_, hR_, hq_⟩ := frk_run (P := Try.prog) .f64 .quo 26 t132 fr129 _ (by simp); exact ⟨r_, w_, by first | (go_simp; done) | (go_simp; rfl), hR_, hq_⟩); intro fr135 w62 hR_ hb; have HD48 := Aside0.mk (HD47.out fr135 hR_); clear HD47 hR_; have n0_ := Aside0.mk (blk_below (g := gb122) (o := .cells #[.float .f64 a0_0, .float .f64 a0_1] 28 (0, 0)) (by (with_reducible repeat (first | refine blk_drewN ?_ _ | refine blk_drew ?_ | refine blk_alloc ?_ _)); exact BK122.out) hb); have n1_ := Aside0.mk (blk_below (g := gb123) (o := .cells #[.float .f64 a1_0, .float .f64 a1_1] 28 (0, 0)) (by (with_reducible repeat (first | refine blk_drewN ?_ _ | refine blk_drew ?_ | refine blk_alloc ?_ _)); exact BK123.out) hb); have n2_ := Aside0.mk (blk_below (g := gb124) (o := .cells #[.float .f64 0, .float .f64 0] 28 (0, 0)) (by (with_reducible repeat (first | refine blk_drewN ?_ _ | refine blk_drew ?_ | refine blk_alloc ?_ _)); exact BK124.out) hb); have n3_ := Aside0.mk (blk_below (g := gb133) (o := .cells #[.float .f64 t131, .float .f64 t132] 28 (0, 0)) (by (with_reducible repeat (first | refine blk_drewN ?_ _ | refine blk_drew ?_ | refine blk_alloc ?_ _)); exact BK133.out) hb); have n4_ := Aside0.mk (below_step (by repeat (first | (with_reducible first | exact HB.out | apply below_alloc | apply pw_below_drewN | apply below_drew1 | refine below_set ?_ GE122.out | refine below_set ?_ GE123.out | refine below_set ?_ GE124.out | refine below_set ?_ GE133.out) | exact HB.out)) hb); clear BK122; clear BK123; clear BK124; clear BK133; clear HB; have BK122 := n0_; have BK123 := n1_; have BK124 := n2_; have BK133 := n3_; have HB := n4_; clear n0_ n1_ n2_ n3_ n4_; (try clear hb); have hcz63_0 : w62.cell? ⟨gb124, 0, none⟩ = some (.float .f64 0) := (blk_cell BK124.out 0).trans rfl; have hcz63_1 : w62.cell? ⟨gb124, 1, none⟩ = some (.float .f64 0) := (blk_cell BK124.out 1).trans rfl; have hfz63_0 := blk_frozen BK124.out 0; have hfz63_1 := blk_frozen BK124.out 1))
      refine bodyPost_ret (results_ct rfl _ _ gb124 28 #[.float .f64 fr134, .float .f64 fr135] (0, 0) _ rfl (by (with_reducible repeat (first | refine blk_drewN ?_ _ | refine blk_drew ?_ | refine blk_alloc ?_ _)); refine blk_put (cs := #[.float .f64 fr134, .float .f64 0]) ?_ 1 _ rfl; (with_reducible repeat (first | refine blk_drewN ?_ _ | refine blk_drew ?_ | refine blk_alloc ?_ _)); refine blk_put (cs := #[.float .f64 0, .float .f64 0]) ?_ 0 _ rfl; (with_reducible repeat (first | refine blk_drewN ?_ _ | refine blk_drew ?_ | refine blk_alloc ?_ _)); exact BK124.out) Try.underlying28 rfl (by kernel_rfl)) rfl ?_
      exact Dq3.mk HD48.out ⟨by first | rfl | (simp [errW_none, errW_some] <;> rfl) | (simp [*, errW_none, errW_some] <;> rfl), by repeat (first | (with_reducible first | exact HB.out | apply below_alloc | apply pw_below_drewN | apply below_drew1 | refine below_set ?_ GE122.out | refine below_set ?_ GE123.out | refine below_set ?_ GE124.out | refine below_set ?_ GE133.out) | exact HB.out)⟩

def impl_ownPhasors.f (l0 : List (S28)) : Option ((List (S28))) := (some (([] : List (S28)) : List (S28))).bind fun y136 => (if y136.length + l0.length < 8796093022208 then (some (y136 ++ l0)) else (none))
set_option maxHeartbeats 8000000 in
set_option maxRecDepth 100000 in
theorem impl_ownPhasors.calls (A0 : Option Addr) (c0 : Nat) (l0 : List (S28)) (r : List (S28)) (w : World) (hr0 : Kd.C k28 w A0 l0.length l0) (hc0 : l0.length ≤ c0) (h : impl_ownPhasors.f l0 = some r) :
  Calls Try.prog 58 #[.slice A0 l0.length c0] w fun e w' => ∃ v0_ : Value, e = .returned (v0_) ∧ Kd.R k28 28 w' w.heap.size (fun _ => True) v0_ r ∧ Below w.heap.size w w' := by
 have HR0 := Aside0.mk hr0
 have HC0 := Aside0.mk hc0
 clear hr0 hc0
 have HB := Aside0.mk (Below.refl w.heap.size w)
 have H : ((some (([] : List (S28)) : List (S28))).bind fun y136 => (if y136.length + l0.length < 8796093022208 then (some (y136 ++ l0)) else (none))) = some r := h
 clear h
 obtain ⟨y136, hy136⟩ : ∃ y_ : List (S28), y_ = (([] : List (S28))) := ⟨_, rfl⟩
 replace H : (if y136.length + l0.length < 8796093022208 then (some (y136 ++ l0)) else (none)) = some r := by first | (rw [hy136]; with_reducible exact H) | (have H2_ := (Option.bind_some _ _).symm.trans H; rw [hy136]; with_reducible exact H2_) | (have H2_ := (Option.bind_some _ _).symm.trans H; with_reducible exact H2_) | with_reducible exact H | (rw [hy136]; exact H) | exact H
 have Ny136 := Aside0.mk hy136
 clear hy136
 by_cases c2 : y136.length + l0.length < 8796093022208
 ·rw [if_pos c2] at H
  have LMc2 := Aside0.mk c2
  clear c2
  obtain ⟨y139, hy139⟩ : ∃ y_ : List (S28), y_ = (y136 ++ l0) := ⟨_, rfl⟩
  replace H : (some y139) = some r := by first | (rw [hy139]; with_reducible exact H) | (have H2_ := (Option.bind_some _ _).symm.trans H; rw [hy139]; with_reducible exact H2_) | (have H2_ := (Option.bind_some _ _).symm.trans H; with_reducible exact H2_) | with_reducible exact H | (rw [hy139]; exact H) | exact H
  have Ny139 := Aside0.mk hy139
  clear hy139
  obtain rfl := Option.some.inj H
  go_enter Try.func58, Try.ntmps58
  go_wp2_with (first | ((with_reducible refine gate_dst (N := 3) rfl ?_); refine Kd.R_lit k28 _ 28 ?hg (N := 3) ?hd (xs := ([] : List (S28))) (inner := []) (ok := fun _ => True) (okp := fun _ => True) ?hr ?hp (fun _ hk => hk) trivial (Below.refl _ _) (Nat.le_refl _) (by simp) ?_; (case hd => rfl); (case hg => rfl); (case hr => first | (go_simp; done) | (go_simp; rfl)); (case hp => exact (Reps.none _ _)); intro v137 w3 ho4 hb hg_ hnew_; clear hg_ hnew_; (first | rw [← Ny136.out] at ho4 | (simp only [Int.reduceToNat] at ho4; rw [← Ny136.out] at ho4)); have n0_ := Aside0.mk (Kd.R_lower ho4 (below_size (by repeat (first | (with_reducible first | exact HB.out | apply below_alloc | apply pw_below_drewN | apply below_drew1) | exact HB.out)))); have n1_ := Aside0.mk (below_step (by repeat (first | (with_reducible first | exact HB.out | apply below_alloc | apply pw_below_drewN | apply below_drew1) | exact HB.out)) hb); clear HB; have HO138 := n0_; have HB := n1_; clear n0_ n1_; clear hb ho4) | ((with_reducible refine gate_builtin (b := .append) (xs := #[.tmp 3, .tmp 4]) rfl ?_); at_builtin; refine Kd.R_append_rows k28 (w0 := w) w.heap.size rfl (.tmp 3) (.tmp 4) 44 28 (.agg #[(.float .f64 0), (.float .f64 0)]) 16 rfl Try.underlying44 info28 rfl (by decide) (by omega) v137 y136 l0 _ _ _ (fun _ => True) (fun _ => False) rfl rfl ?aO ?aR (fun _ _ h => h) (fun _ h => h.elim) ?aF ?aB ?aS ?aL ?_; (case aR => repeat (first | exact (Kd.C_below HR0.out HB.out) | (with_reducible refine Kd.C_alloc ?_ _) | (with_reducible refine Kd.C_drewN ?_ _) | (with_reducible refine Kd.C_drew ?_))); (case aB => exact (by repeat (first | (with_reducible first | exact HB.out | apply below_alloc | apply pw_below_drewN | apply below_drew1) | exact HB.out))); (case aF => exact (fun _ _ => trivial)); (case aO => exact (by (with_reducible repeat (first | apply Kd.R_alloc | apply Kd.R_drewN | apply Kd.R_drew)); exact HO138.out)); (case aS => exact (below_size (by repeat (first | (with_reducible first | exact HB.out | apply below_alloc | apply pw_below_drewN | apply below_drew1) | exact HB.out)))); (case aL => have := LMc2.out; omega); intro v140 w5 ho hb hg hat; rw [← Ny139.out] at ho; have n0_ := Aside0.mk (hb); have n1_ := Aside0.mk (ho); clear HB; clear HO138; have HB := n0_; have HO141 := n1_; clear n0_ n1_; clear ho hb hg hat))
  go_ret
  exact ⟨_, by first | rfl | (simp [errW_none, errW_some] <;> rfl) | (simp [*, errW_none, errW_some] <;> rfl), by (with_reducible repeat (first | apply Kd.R_alloc | apply Kd.R_drewN | apply Kd.R_drew)); exact HO141.out, by repeat (first | (with_reducible first | exact HB.out | apply below_alloc | apply pw_below_drewN | apply below_drew1) | exact HB.out)⟩
 ·rw [if_neg c2] at H
  exact absurd H (by simp)

def impl_in.f (a0 : Int) (a1 : Int) (a2 : Int) : Option (Bool) := if a1 ≤ a0 then (some (decide (a0 ≤ a2))) else (some false)
set_option maxHeartbeats 8000000 in
set_option maxRecDepth 100000 in
theorem impl_in.calls (a0 : Int) (a1 : Int) (a2 : Int) (r : Bool) (w : World) (h : impl_in.f a0 a1 a2 = some r) :
  Calls Try.prog 59 #[.int .i64 a0, .int .i64 a1, .int .i64 a2] w fun e w' => e = .returned (.bool r) ∧ Drawn0 w w' := by
 have H : (if a1 ≤ a0 then (some (decide (a0 ≤ a2))) else (some false)) = some r := h
 clear h
 by_cases c4 : a1 ≤ a0
 ·rw [if_pos c4] at H
  have c4b0 : decide (a1 ≤ a0) = true := decide_eq_true c4
  clear c4
  obtain rfl := Option.some.inj H
  go_enter Try.func59, Try.ntmps59
  go_wp2
  go_ret
  exact ⟨by first | rfl | (simp; done) | (simp [*]; done), by repeat (first | exact Drawn0.refl _ | apply Drawn0.step)⟩
 ·rw [if_neg c4] at H
  have c4b0 : decide (a1 ≤ a0) = false := decide_eq_false c4
  clear c4
  obtain rfl := Option.some.inj H
  go_enter Try.func59, Try.ntmps59
  go_wp2
  go_ret
  exact ⟨by first | rfl | (simp; done) | (simp [*]; done), by repeat (first | exact Drawn0.refl _ | apply Drawn0.step)⟩


end Go.Proofs.Ythjlapmjpjpgeaa.DX
namespace Go.Proofs.Ythjlapmjpjpgeaa.DX
open Go.RowKit Go.Proofs.YthjlapmjpjpgeaaW.PrintWords Go.Proofs.YthjlapmjpjpgeaaW.PrintLast Go.Proofs.YthjlapmjpjpgeaaW.PrintMore
attribute [local go_sem] run_store_float max2_int min2_int max_two min_two max_three min_three max_four min_four   -- for this text's walks alone
set_option linter.unusedVariables false
set_option linter.unusedSimpArgs false

def impl_Turned.j0 : Nat → List (S28) → List (S28) → Bool → Int → Int → Int → Nat → Nat → (((List (S28)) × Bool) → Prop) → Prop
 | 0, _, _, _, _, _, _, _, _, _ => False
 | k + 1, x0, x6, x43, x143000, x143001, x143002, x143003, x143004, Q_ => if x43 = true then (Q_ (x6, false)) else (if 0 ≤ x143001 then (if x143001 < (x0.length : Int) then (if x143000 = 1 then (if x143001 < (x6.length : Int) then (Q_ ((x6.set (x143001 : Int).toNat (⟨x143003, x143004⟩ : S28)), true)) else (False)) else (if x143000 = 2 then (∀ fr152 : Nat, FRk .f64 .add ((rd_T28 x0 x143001).f0) x143003 fr152 → (∀ fr153 : Nat, FRk .f64 .add ((rd_T28 x0 x143001).f1) x143004 fr153 → (if x143001 < (x6.length : Int) then (Q_ ((x6.set (x143001 : Int).toNat (⟨fr152, fr153⟩ : S28)), true)) else (False)))) else (if x143000 = 3 then (impl_PhTimes.f ((rd_T28 x0 x143001).f0) ((rd_T28 x0 x143001).f1) x143003 x143004 (fun bt155 => (if x143001 < (x6.length : Int) then (Q_ ((x6.set (x143001 : Int).toNat (⟨bt155.1, bt155.2⟩ : S28)), true)) else (False)))) else (if x143000 = 4 then (impl_PhOver.f k ((rd_T28 x0 x143001).f0) ((rd_T28 x0 x143001).f1) x143003 x143004 (fun bt158 => (if bt158.2.2 = true then (if x143001 < (x6.length : Int) then (Q_ ((x6.set (x143001 : Int).toNat (⟨bt158.1, bt158.2.1⟩ : S28)), true)) else (False)) else (Q_ (x6, false))))) else (if x143000 = 5 then (if x143001 < (x6.length : Int) then (Q_ ((x6.set (x143001 : Int).toNat (⟨(rd_T28 x0 x143001).f0, Go.Op.negFloat .f64 ((rd_T28 x0 x143001).f1)⟩ : S28)), true)) else (False)) else (if x143000 = 6 then (if 0 ≤ x143002 then (if x143002 < (x0.length : Int) then (impl_PhTimes.f ((rd_T28 x0 x143001).f0) ((rd_T28 x0 x143001).f1) ((rd_T28 x0 x143002).f0) ((rd_T28 x0 x143002).f1) (fun bt165 => (if x143001 < (x6.length : Int) then (Q_ ((x6.set (x143001 : Int).toNat (⟨bt165.1, bt165.2⟩ : S28)), true)) else (False)))) else (False)) else (False)) else (Q_ (x6, true)))))))) else (False)) else (False))
def impl_Turned.f (k : Nat) (l0 : List (S28)) (a1_0 : Int) (a1_1 : Int) (a1_2 : Int) (a1_3 : Nat) (a1_4 : Nat) (Q_ : ((List (S28)) × Bool) → Prop) : Prop := ∃ t143, impl_ownPhasors.f l0 = some t143 ∧ (if (l0.length : Int) > 12 then (impl_Turned.j0 k l0 t143 true a1_0 a1_1 a1_2 a1_3 a1_4 Q_) else (∃ t146, impl_in.f a1_0 1 6 = some t146 ∧ (if t146 = true then (∃ t147, impl_in.f a1_1 0 (wrap64 ((l0.length : Int) - 1)) = some t147 ∧ (if t147 = true then (if a1_0 = 6 then (∃ t148, impl_in.f a1_2 0 (wrap64 ((l0.length : Int) - 1)) = some t148 ∧ (impl_Turned.j0 k l0 t143 (!t148) a1_0 a1_1 a1_2 a1_3 a1_4 Q_)) else (impl_Turned.j0 k l0 t143 false a1_0 a1_1 a1_2 a1_3 a1_4 Q_)) else (impl_Turned.j0 k l0 t143 true a1_0 a1_1 a1_2 a1_3 a1_4 Q_))) else (impl_Turned.j0 k l0 t143 true a1_0 a1_1 a1_2 a1_3 a1_4 Q_))))
def impl_Turned.T11 : Bool × List (List Nat × List Nat) := (true, [([], []), ([], []), ([1], [1]), ([], []), ([], []), ([4], [4]), ([3, 5], [3, 5]), ([0, 2, 0, 1, 2, 3, 4, 5, 6], [0, 2]), ([7, 6, 6, 0, 1, 2, 3, 4, 5, 6], [6, 7])])
def impl_Turned.B11 : List Nat := [0, 0, 2, 0, 0, 16, 56, 127, 255]
theorem impl_Turned.tab11 : rtab .any (opsOf Try.f35 11) = impl_Turned.T11 := by kernel_rfl
theorem impl_Turned.bits11 : waitsOk impl_Turned.T11.2 impl_Turned.B11 = true := by kernel_rfl
def impl_Turned.T20 : Bool × List (List Nat × List Nat) := (true, [([], []), ([], []), ([1], [1]), ([], []), ([], []), ([], []), ([5], [5]), ([4, 6], [4, 6]), ([7], [7]), ([3, 8], [3, 8]), ([0, 2, 0, 1, 2, 3, 4, 5, 6, 7, 8, 9], [0, 2]), ([10, 9, 9, 0, 1, 2, 3, 4, 5, 6, 7, 8, 9], [9, 10])])
def impl_Turned.B20 : List Nat := [0, 0, 2, 0, 0, 0, 32, 112, 240, 504, 1023, 2047]
theorem impl_Turned.tab20 : rtab .any (opsOf Try.f35 20) = impl_Turned.T20 := by kernel_rfl
theorem impl_Turned.bits20 : waitsOk impl_Turned.T20.2 impl_Turned.B20 = true := by kernel_rfl
set_option maxHeartbeats 8000000 in
set_option maxRecDepth 100000 in
theorem impl_Turned.calls (k : Nat) (A0 : Option Addr) (c0 : Nat) (l0 : List (S28)) (a1_0 : Int) (a1_1 : Int) (a1_2 : Int) (a1_3 : Nat) (a1_4 : Nat) (Q_ : ((List (S28)) × Bool) → Prop) (w : World) (hr0 : Kd.C k28 w A0 l0.length l0) (hc0 : l0.length ≤ c0) (h : impl_Turned.f k l0 a1_0 a1_1 a1_2 a1_3 a1_4 Q_) :
  Calls Try.prog 35 #[.slice A0 l0.length c0, .agg #[.int .i64 a1_0, .int .i64 a1_1, .int .i64 a1_2, .float .f64 a1_3, .float .f64 a1_4]] w fun e w' => Dq2 Q_ (fun (r1 : List (S28)) (r2 : Bool) => ∃ v0_ : Value, e = .returned (.tuple #[v0_, .bool r2]) ∧ Kd.R k28 28 w' w.heap.size (fun _ => True) v0_ r1 ∧ Below w.heap.size w w') := by
 have hu56 := Try.underlying56
 have hu28 := Try.underlying28
 have hng_ : ∀ (k_ : FloatKind) (x_ : Nat) (W_ : World), (Op.unary .neg (.float k_ x_)).run Try.prog W_ = .ok (.float k_ (Go.Op.negFloat k_ x_)) W_ := fun _ _ _ => rfl
 have HR0 := Aside0.mk hr0
 have HC0 := Aside0.mk hc0
 clear hr0 hc0
 have HB := Aside0.mk (Below.refl w.heap.size w)
 have H : (∃ t143, impl_ownPhasors.f l0 = some t143 ∧ (if (l0.length : Int) > 12 then (impl_Turned.j0 k l0 t143 true a1_0 a1_1 a1_2 a1_3 a1_4 Q_) else (∃ t146, impl_in.f a1_0 1 6 = some t146 ∧ (if t146 = true then (∃ t147, impl_in.f a1_1 0 (wrap64 ((l0.length : Int) - 1)) = some t147 ∧ (if t147 = true then (if a1_0 = 6 then (∃ t148, impl_in.f a1_2 0 (wrap64 ((l0.length : Int) - 1)) = some t148 ∧ (impl_Turned.j0 k l0 t143 (!t148) a1_0 a1_1 a1_2 a1_3 a1_4 Q_)) else (impl_Turned.j0 k l0 t143 false a1_0 a1_1 a1_2 a1_3 a1_4 Q_)) else (impl_Turned.j0 k l0 t143 true a1_0 a1_1 a1_2 a1_3 a1_4 Q_))) else (impl_Turned.j0 k l0 t143 true a1_0 a1_1 a1_2 a1_3 a1_4 Q_))))) := h
 clear h
 obtain ⟨t143, A30, H⟩ := H
 replace H : (if (l0.length : Int) > 12 then (impl_Turned.j0 k l0 t143 true a1_0 a1_1 a1_2 a1_3 a1_4 Q_) else (∃ t146, impl_in.f a1_0 1 6 = some t146 ∧ (if t146 = true then (∃ t147, impl_in.f a1_1 0 (wrap64 ((l0.length : Int) - 1)) = some t147 ∧ (if t147 = true then (if a1_0 = 6 then (∃ t148, impl_in.f a1_2 0 (wrap64 ((l0.length : Int) - 1)) = some t148 ∧ (impl_Turned.j0 k l0 t143 (!t148) a1_0 a1_1 a1_2 a1_3 a1_4 Q_)) else (impl_Turned.j0 k l0 t143 false a1_0 a1_1 a1_2 a1_3 a1_4 Q_)) else (impl_Turned.j0 k l0 t143 true a1_0 a1_1 a1_2 a1_3 a1_4 Q_))) else (impl_Turned.j0 k l0 t143 true a1_0 a1_1 a1_2 a1_3 a1_4 Q_)))) := H
 have A3 := Aside0.mk A30
 clear A30
 have HC4 := Aside0.mk H
 clear H
 go_enter Try.func35, Try.ntmps35
 go_upto_region 2 with (first | ((with_reducible refine gate_dst (N := 3) rfl ?_); (try (refine gate_guard (by rfl) ?_; dsimp only)); refine box_event ?hg (N := 3) ?hd (cs := #[.int .i64 a1_0, .int .i64 a1_1, .int .i64 a1_2, .float .f64 a1_3, .float .f64 a1_4]) (t := 56) ?hr ?_; (case hd => rfl); (case hg => rfl); (case hr => first | (go_simp; done) | (go_simp; rfl)); intro gb142 hg w5 hbox hb; have n0_ := Aside0.mk (below_step (by repeat (first | (with_reducible first | exact HB.out | apply below_alloc | apply pw_below_drewN | apply below_drew1) | exact HB.out)) hb); have n1_ := Aside0.mk (hbox); have n2_ := Aside0.mk ((by rw [hg]; exact (below_size (by repeat (first | (with_reducible first | exact HB.out | apply below_alloc | apply pw_below_drewN | apply below_drew1) | exact HB.out))) : w.heap.size ≤ gb142)); have n3_ := Aside0.mk ((by rw [hg]; exact (below_size (by repeat (first | (with_reducible first | exact HB.out | apply below_alloc | apply pw_below_drewN | apply below_drew1) | exact HB.out))) : w.heap.size ≤ gb142)); clear HB; have HB := n0_; have BK142 := n1_; have GW142 := n2_; have GE142 := n3_; clear n0_ n1_ n2_ n3_; clear hb hbox hg) | ((with_reducible refine gate_callee (f := 58) rfl ?_); refine goesL_ (some 11) rfl rfl Try.func58 (by kernel_rfl) rfl #[.slice A0 l0.length c0] rfl (by (try simp only [List.map_toArray, List.map_cons, List.map_nil]); first | done | rfl | (simp only [List.length_drop, List.length_take]; rfl)) ?_; (with_reducible refine (impl_ownPhasors.calls _ _ l0 t143 _ ?side1 ?side2 A3.out).mono ?_); (case side1 => repeat (first | exact (Kd.C_below HR0.out HB.out) | (with_reducible refine Kd.C_alloc ?_ _) | (with_reducible refine Kd.C_drewN ?_ _) | (with_reducible refine Kd.C_drew ?_))); (case side2 => exact HC0.out); rintro e w6 ⟨v144, rfl, ho0, hb⟩; refine ⟨_, rfl, ?_⟩; have n0_ := Aside0.mk (Kd.R_lower ho0 (below_size (by repeat (first | (with_reducible first | exact HB.out | apply below_alloc | apply pw_below_drewN | apply below_drew1 | refine below_set ?_ GE142.out) | exact HB.out)))); have n1_ := Aside0.mk (blk_below (g := gb142) (o := .cells #[.int .i64 a1_0, .int .i64 a1_1, .int .i64 a1_2, .float .f64 a1_3, .float .f64 a1_4] 56 (0, 0)) (by (with_reducible repeat (first | refine blk_drewN ?_ _ | refine blk_drew ?_ | refine blk_alloc ?_ _)); exact BK142.out) hb); have n2_ := Aside0.mk (below_step (by repeat (first | (with_reducible first | exact HB.out | apply below_alloc | apply pw_below_drewN | apply below_drew1 | refine below_set ?_ GE142.out) | exact HB.out)) hb); clear BK142; clear HB; have HO145 := n0_; have BK142 := n1_; have HB := n2_; clear n0_ n1_ n2_; (try clear hb); (try clear hb2); (try clear hk); (try clear hi); (try clear ho0)))
 (try simp only [Act.put, List.setIfInBounds_toArray, List.set_cons_zero, List.set_cons_succ])
 go_cut [43] (fun v43 wc => ∃ (kq : Nat) (x43_3 : Bool), v43 = .bool x43_3 ∧ Aside0 (impl_Turned.j0 kq l0 t143 x43_3 a1_0 a1_1 a1_2 a1_3 a1_4 Q_) ∧ Aside0 (kq ≤ k) ∧ Aside0 (Kd.R k28 28 wc w.heap.size (fun _ => True) v144 t143) ∧ Aside0 (wc.heap[gb142]? = some (.cells #[.int .i64 a1_0, .int .i64 a1_1, .int .i64 a1_2, .float .f64 a1_3, .float .f64 a1_4] 56 (0, 0))) ∧ Aside0 (Below w.heap.size w wc))
 case first =>
  have H := HC4.out
  clear HC4
  by_cases c7 : (l0.length : Int) > 12
  ·rw [if_pos c7] at H
   have c7b0 : decide (12 < (l0.length : Int)) = true := decide_eq_true c7
   have c7b1 : decide (12 < l0.length) = true := decide_eq_true (by omega)
   clear c7
   (first | rw [c7b0] | (simp only [i64_w, i32_w]; rw [c7b0]) | skip)
   have H' := Aside0.mk H
   clear H
   go_wp2
   go_meet
   case rel => exact ⟨_, (true), (by first | rfl | (simp; done) | (simp [*]; done)), H', ⟨by first | omega | exact Nat.le_refl _⟩, ⟨by (with_reducible repeat (first | apply Kd.R_alloc | apply Kd.R_drewN | apply Kd.R_drew)); exact HO145.out⟩, ⟨by (with_reducible repeat (first | refine blk_drewN ?_ _ | refine blk_drew ?_ | refine blk_alloc ?_ _)); exact BK142.out⟩, ⟨by repeat (first | (with_reducible first | exact HB.out | apply below_alloc | apply pw_below_drewN | apply below_drew1 | refine below_set ?_ GE142.out) | exact HB.out)⟩⟩
  ·rw [if_neg c7] at H
   have c7b0 : decide (12 < (l0.length : Int)) = false := decide_eq_false c7
   have c7b1 : decide (12 < l0.length) = false := decide_eq_false (by omega)
   clear c7
   (first | rw [c7b0] | (simp only [i64_w, i32_w]; rw [c7b0]) | skip)
   obtain ⟨t146, A80, H⟩ := H
   replace H : (if t146 = true then (∃ t147, impl_in.f a1_1 0 (wrap64 ((l0.length : Int) - 1)) = some t147 ∧ (if t147 = true then (if a1_0 = 6 then (∃ t148, impl_in.f a1_2 0 (wrap64 ((l0.length : Int) - 1)) = some t148 ∧ (impl_Turned.j0 k l0 t143 (!t148) a1_0 a1_1 a1_2 a1_3 a1_4 Q_)) else (impl_Turned.j0 k l0 t143 false a1_0 a1_1 a1_2 a1_3 a1_4 Q_)) else (impl_Turned.j0 k l0 t143 true a1_0 a1_1 a1_2 a1_3 a1_4 Q_))) else (impl_Turned.j0 k l0 t143 true a1_0 a1_1 a1_2 a1_3 a1_4 Q_)) := H
   have A8 := Aside0.mk A80
   clear A80
   by_cases c9 : t146 = true
   ·subst c9
    have H1 : (∃ t147, impl_in.f a1_1 0 (wrap64 ((l0.length : Int) - 1)) = some t147 ∧ (if t147 = true then (if a1_0 = 6 then (∃ t148, impl_in.f a1_2 0 (wrap64 ((l0.length : Int) - 1)) = some t148 ∧ (impl_Turned.j0 k l0 t143 (!t148) a1_0 a1_1 a1_2 a1_3 a1_4 Q_)) else (impl_Turned.j0 k l0 t143 false a1_0 a1_1 a1_2 a1_3 a1_4 Q_)) else (impl_Turned.j0 k l0 t143 true a1_0 a1_1 a1_2 a1_3 a1_4 Q_))) := by rw [if_pos rfl] at H; exact H
    clear H
    have H := H1
    clear H1
    obtain ⟨t147, A100, H⟩ := H
    replace H : (if t147 = true then (if a1_0 = 6 then (∃ t148, impl_in.f a1_2 0 (wrap64 ((l0.length : Int) - 1)) = some t148 ∧ (impl_Turned.j0 k l0 t143 (!t148) a1_0 a1_1 a1_2 a1_3 a1_4 Q_)) else (impl_Turned.j0 k l0 t143 false a1_0 a1_1 a1_2 a1_3 a1_4 Q_)) else (impl_Turned.j0 k l0 t143 true a1_0 a1_1 a1_2 a1_3 a1_4 Q_)) := H
    have A10 := Aside0.mk A100
    clear A100
    by_cases c11 : t147 = true
    ·subst c11
     have H1 : (if a1_0 = 6 then (∃ t148, impl_in.f a1_2 0 (wrap64 ((l0.length : Int) - 1)) = some t148 ∧ (impl_Turned.j0 k l0 t143 (!t148) a1_0 a1_1 a1_2 a1_3 a1_4 Q_)) else (impl_Turned.j0 k l0 t143 false a1_0 a1_1 a1_2 a1_3 a1_4 Q_)) := by rw [if_pos rfl] at H; exact H
     clear H
     have H := H1
     clear H1
     by_cases c12 : a1_0 = 6
     ·rw [if_pos c12] at H
      have c12b0 : (a1_0 == 6) = true := beq_iff_eq.mpr c12
      have c12b1 : (a1_0 != 6) = false := bne_eq_false_iff_eq.mpr c12
      clear c12
      obtain ⟨t148, A130, H⟩ := H
      replace H : (impl_Turned.j0 k l0 t143 (!t148) a1_0 a1_1 a1_2 a1_3 a1_4 Q_) := H
      have A13 := Aside0.mk A130
      clear A130
      have H' := Aside0.mk H
      clear H
      have hcz14_0 : w6.cell? ⟨gb142, 0, none⟩ = some (.int .i64 a1_0) := (blk_cell BK142.out 0).trans rfl
      have hcz14_1 : w6.cell? ⟨gb142, 1, none⟩ = some (.int .i64 a1_1) := (blk_cell BK142.out 1).trans rfl
      have hcz14_2 : w6.cell? ⟨gb142, 2, none⟩ = some (.int .i64 a1_2) := (blk_cell BK142.out 2).trans rfl
      have hcz14_3 : w6.cell? ⟨gb142, 3, none⟩ = some (.float .f64 a1_3) := (blk_cell BK142.out 3).trans rfl
      have hcz14_4 : w6.cell? ⟨gb142, 4, none⟩ = some (.float .f64 a1_4) := (blk_cell BK142.out 4).trans rfl
      have hfz14_0 := blk_frozen BK142.out 0
      have hfz14_1 := blk_frozen BK142.out 1
      have hfz14_2 := blk_frozen BK142.out 2
      have hfz14_3 := blk_frozen BK142.out 3
      have hfz14_4 := blk_frozen BK142.out 4
      go_wp2_with (first | (go_at_call 59; (with_reducible refine (impl_in.calls a1_0 1 6 true _ A8.out).mono ?_); rintro e w' ⟨rfl, ⟨nd, rfl⟩⟩) | (go_at_call 59; (with_reducible refine (impl_in.calls a1_1 0 (wrap64 ((l0.length : Int) - 1)) true _ A10.out).mono ?_); rintro e w' ⟨rfl, ⟨nd, rfl⟩⟩) | (go_at_call 59; (with_reducible refine (impl_in.calls a1_2 0 (wrap64 ((l0.length : Int) - 1)) t148 _ A13.out).mono ?_); rintro e w' ⟨rfl, ⟨nd, rfl⟩⟩))
      go_meet
      case rel => exact ⟨_, (!t148), (by first | rfl | (simp; done) | (simp [*]; done)), H', ⟨by first | omega | exact Nat.le_refl _⟩, ⟨by (with_reducible repeat (first | apply Kd.R_alloc | apply Kd.R_drewN | apply Kd.R_drew)); exact HO145.out⟩, ⟨by (with_reducible repeat (first | refine blk_drewN ?_ _ | refine blk_drew ?_ | refine blk_alloc ?_ _)); exact BK142.out⟩, ⟨by repeat (first | (with_reducible first | exact HB.out | apply below_alloc | apply pw_below_drewN | apply below_drew1 | refine below_set ?_ GE142.out) | exact HB.out)⟩⟩
     ·rw [if_neg c12] at H
      have c12b0 : (a1_0 == 6) = false := beq_eq_false_iff_ne.mpr c12
      have c12b1 : (a1_0 != 6) = true := bne_iff_ne.mpr c12
      have H' := Aside0.mk H
      clear H
      have hcz15_0 : w6.cell? ⟨gb142, 0, none⟩ = some (.int .i64 a1_0) := (blk_cell BK142.out 0).trans rfl
      have hcz15_1 : w6.cell? ⟨gb142, 1, none⟩ = some (.int .i64 a1_1) := (blk_cell BK142.out 1).trans rfl
      have hcz15_2 : w6.cell? ⟨gb142, 2, none⟩ = some (.int .i64 a1_2) := (blk_cell BK142.out 2).trans rfl
      have hcz15_3 : w6.cell? ⟨gb142, 3, none⟩ = some (.float .f64 a1_3) := (blk_cell BK142.out 3).trans rfl
      have hcz15_4 : w6.cell? ⟨gb142, 4, none⟩ = some (.float .f64 a1_4) := (blk_cell BK142.out 4).trans rfl
      have hfz15_0 := blk_frozen BK142.out 0
      have hfz15_1 := blk_frozen BK142.out 1
      have hfz15_2 := blk_frozen BK142.out 2
      have hfz15_3 := blk_frozen BK142.out 3
      have hfz15_4 := blk_frozen BK142.out 4
      go_wp2_with (first | (go_at_call 59; (with_reducible refine (impl_in.calls a1_0 1 6 true _ A8.out).mono ?_); rintro e w' ⟨rfl, ⟨nd, rfl⟩⟩) | (go_at_call 59; (with_reducible refine (impl_in.calls a1_1 0 (wrap64 ((l0.length : Int) - 1)) true _ A10.out).mono ?_); rintro e w' ⟨rfl, ⟨nd, rfl⟩⟩))
      go_meet
      case rel => exact ⟨_, (false), (by first | rfl | (simp; done) | (simp [*]; done)), H', ⟨by first | omega | exact Nat.le_refl _⟩, ⟨by (with_reducible repeat (first | apply Kd.R_alloc | apply Kd.R_drewN | apply Kd.R_drew)); exact HO145.out⟩, ⟨by (with_reducible repeat (first | refine blk_drewN ?_ _ | refine blk_drew ?_ | refine blk_alloc ?_ _)); exact BK142.out⟩, ⟨by repeat (first | (with_reducible first | exact HB.out | apply below_alloc | apply pw_below_drewN | apply below_drew1 | refine below_set ?_ GE142.out) | exact HB.out)⟩⟩
    ·replace c11 := Bool.eq_false_iff.mpr c11
     subst c11
     have H1 : (impl_Turned.j0 k l0 t143 true a1_0 a1_1 a1_2 a1_3 a1_4 Q_) := by rw [if_neg (show ¬ (false = true) by decide)] at H; exact H
     clear H
     have H := H1
     clear H1
     have H' := Aside0.mk H
     clear H
     have hcz16_0 : w6.cell? ⟨gb142, 0, none⟩ = some (.int .i64 a1_0) := (blk_cell BK142.out 0).trans rfl
     have hcz16_1 : w6.cell? ⟨gb142, 1, none⟩ = some (.int .i64 a1_1) := (blk_cell BK142.out 1).trans rfl
     have hcz16_2 : w6.cell? ⟨gb142, 2, none⟩ = some (.int .i64 a1_2) := (blk_cell BK142.out 2).trans rfl
     have hcz16_3 : w6.cell? ⟨gb142, 3, none⟩ = some (.float .f64 a1_3) := (blk_cell BK142.out 3).trans rfl
     have hcz16_4 : w6.cell? ⟨gb142, 4, none⟩ = some (.float .f64 a1_4) := (blk_cell BK142.out 4).trans rfl
     have hfz16_0 := blk_frozen BK142.out 0
     have hfz16_1 := blk_frozen BK142.out 1
     have hfz16_2 := blk_frozen BK142.out 2
     have hfz16_3 := blk_frozen BK142.out 3
     have hfz16_4 := blk_frozen BK142.out 4
     go_wp2_with (first | (go_at_call 59; (with_reducible refine (impl_in.calls a1_0 1 6 true _ A8.out).mono ?_); rintro e w' ⟨rfl, ⟨nd, rfl⟩⟩) | (go_at_call 59; (with_reducible refine (impl_in.calls a1_1 0 (wrap64 ((l0.length : Int) - 1)) false _ A10.out).mono ?_); rintro e w' ⟨rfl, ⟨nd, rfl⟩⟩))
     go_meet
     case rel => exact ⟨_, (true), (by first | rfl | (simp; done) | (simp [*]; done)), H', ⟨by first | omega | exact Nat.le_refl _⟩, ⟨by (with_reducible repeat (first | apply Kd.R_alloc | apply Kd.R_drewN | apply Kd.R_drew)); exact HO145.out⟩, ⟨by (with_reducible repeat (first | refine blk_drewN ?_ _ | refine blk_drew ?_ | refine blk_alloc ?_ _)); exact BK142.out⟩, ⟨by repeat (first | (with_reducible first | exact HB.out | apply below_alloc | apply pw_below_drewN | apply below_drew1 | refine below_set ?_ GE142.out) | exact HB.out)⟩⟩
   ·replace c9 := Bool.eq_false_iff.mpr c9
    subst c9
    have H1 : (impl_Turned.j0 k l0 t143 true a1_0 a1_1 a1_2 a1_3 a1_4 Q_) := by rw [if_neg (show ¬ (false = true) by decide)] at H; exact H
    clear H
    have H := H1
    clear H1
    have H' := Aside0.mk H
    clear H
    have hcz17_0 : w6.cell? ⟨gb142, 0, none⟩ = some (.int .i64 a1_0) := (blk_cell BK142.out 0).trans rfl
    have hcz17_1 : w6.cell? ⟨gb142, 1, none⟩ = some (.int .i64 a1_1) := (blk_cell BK142.out 1).trans rfl
    have hcz17_2 : w6.cell? ⟨gb142, 2, none⟩ = some (.int .i64 a1_2) := (blk_cell BK142.out 2).trans rfl
    have hcz17_3 : w6.cell? ⟨gb142, 3, none⟩ = some (.float .f64 a1_3) := (blk_cell BK142.out 3).trans rfl
    have hcz17_4 : w6.cell? ⟨gb142, 4, none⟩ = some (.float .f64 a1_4) := (blk_cell BK142.out 4).trans rfl
    have hfz17_0 := blk_frozen BK142.out 0
    have hfz17_1 := blk_frozen BK142.out 1
    have hfz17_2 := blk_frozen BK142.out 2
    have hfz17_3 := blk_frozen BK142.out 3
    have hfz17_4 := blk_frozen BK142.out 4
    go_wp2_with (first | (go_at_call 59; (with_reducible refine (impl_in.calls a1_0 1 6 false _ A8.out).mono ?_); rintro e w' ⟨rfl, ⟨nd, rfl⟩⟩))
    go_meet
    case rel => exact ⟨_, (true), (by first | rfl | (simp; done) | (simp [*]; done)), H', ⟨by first | omega | exact Nat.le_refl _⟩, ⟨by (with_reducible repeat (first | apply Kd.R_alloc | apply Kd.R_drewN | apply Kd.R_drew)); exact HO145.out⟩, ⟨by (with_reducible repeat (first | refine blk_drewN ?_ _ | refine blk_drew ?_ | refine blk_alloc ?_ _)); exact BK142.out⟩, ⟨by repeat (first | (with_reducible first | exact HB.out | apply below_alloc | apply pw_below_drewN | apply below_drew1 | refine below_set ?_ GE142.out) | exact HB.out)⟩⟩
 case rest =>
  clear HC4
  (try clear c1); (try clear p2); (try clear c3); (try clear c5); (try clear p6); (try clear c7); (try clear c7b0); (try clear c7b1); (try clear c9); (try clear c11); (try clear c12); (try clear c12b0); (try clear c12b1); (try clear hcz14_0 hcz14_1 hcz14_2 hcz14_3 hcz14_4); (try clear hcz15_0 hcz15_1 hcz15_2 hcz15_3 hcz15_4); (try clear hcz16_0 hcz16_1 hcz16_2 hcz16_3 hcz16_4); (try clear hcz17_0 hcz17_1 hcz17_2 hcz17_3 hcz17_4); (try clear hfz14_0 hfz14_1 hfz14_2 hfz14_3 hfz14_4); (try clear hfz15_0 hfz15_1 hfz15_2 hfz15_3 hfz15_4); (try clear hfz16_0 hfz16_1 hfz16_2 hfz16_3 hfz16_4); (try clear hfz17_0 hfz17_1 hfz17_2 hfz17_3 hfz17_4)
  obtain ⟨kq, x43_3, rfl, HA, HJ3, HO_6, BK142, HB⟩ := hcut
  cases kq with
  | zero => exact absurd HA.out (by simp [impl_Turned.j0])
  | succ kj3 =>
   have H := HA.out
   clear HA
   simp only [impl_Turned.j0] at H
   by_cases c18 : x43_3 = true
   ·subst c18
    have H1 : (Q_ (t143, false)) := by rw [if_pos rfl] at H; exact H
    clear H
    have H := H1
    clear H1
    have HQ_ := Aside0.mk H
    clear H
    go_wp2
    go_ret2
    exact Dq2.mk HQ_.out ⟨_, by first | rfl | (simp [errW_none, errW_some] <;> rfl) | (simp [*, errW_none, errW_some] <;> rfl), by (with_reducible repeat (first | apply Kd.R_alloc | apply Kd.R_drewN | apply Kd.R_drew)); exact HO_6.out, by repeat (first | (with_reducible first | exact HB.out | apply below_alloc | apply pw_below_drewN | apply below_drew1 | refine below_set ?_ GE142.out) | exact HB.out)⟩
   ·replace c18 := Bool.eq_false_iff.mpr c18
    subst c18
    have H1 : (if 0 ≤ a1_1 then (if a1_1 < (l0.length : Int) then (if a1_0 = 1 then (if a1_1 < (t143.length : Int) then (Q_ ((t143.set (a1_1 : Int).toNat (⟨a1_3, a1_4⟩ : S28)), true)) else (False)) else (if a1_0 = 2 then (∀ fr152 : Nat, FRk .f64 .add ((rd_T28 l0 a1_1).f0) a1_3 fr152 → (∀ fr153 : Nat, FRk .f64 .add ((rd_T28 l0 a1_1).f1) a1_4 fr153 → (if a1_1 < (t143.length : Int) then (Q_ ((t143.set (a1_1 : Int).toNat (⟨fr152, fr153⟩ : S28)), true)) else (False)))) else (if a1_0 = 3 then (impl_PhTimes.f ((rd_T28 l0 a1_1).f0) ((rd_T28 l0 a1_1).f1) a1_3 a1_4 (fun bt155 => (if a1_1 < (t143.length : Int) then (Q_ ((t143.set (a1_1 : Int).toNat (⟨bt155.1, bt155.2⟩ : S28)), true)) else (False)))) else (if a1_0 = 4 then (impl_PhOver.f kj3 ((rd_T28 l0 a1_1).f0) ((rd_T28 l0 a1_1).f1) a1_3 a1_4 (fun bt158 => (if bt158.2.2 = true then (if a1_1 < (t143.length : Int) then (Q_ ((t143.set (a1_1 : Int).toNat (⟨bt158.1, bt158.2.1⟩ : S28)), true)) else (False)) else (Q_ (t143, false))))) else (if a1_0 = 5 then (if a1_1 < (t143.length : Int) then (Q_ ((t143.set (a1_1 : Int).toNat (⟨(rd_T28 l0 a1_1).f0, Go.Op.negFloat .f64 ((rd_T28 l0 a1_1).f1)⟩ : S28)), true)) else (False)) else (if a1_0 = 6 then (if 0 ≤ a1_2 then (if a1_2 < (l0.length : Int) then (impl_PhTimes.f ((rd_T28 l0 a1_1).f0) ((rd_T28 l0 a1_1).f1) ((rd_T28 l0 a1_2).f0) ((rd_T28 l0 a1_2).f1) (fun bt165 => (if a1_1 < (t143.length : Int) then (Q_ ((t143.set (a1_1 : Int).toNat (⟨bt165.1, bt165.2⟩ : S28)), true)) else (False)))) else (False)) else (False)) else (Q_ (t143, true)))))))) else (False)) else (False)) := by rw [if_neg (show ¬ (false = true) by decide)] at H; exact H
    clear H
    have H := H1
    clear H1
    by_cases c19 : 0 ≤ a1_1
    ·rw [if_pos c19] at H
     have c19b0 : decide (0 ≤ a1_1) = true := decide_eq_true c19
     clear c19
     by_cases c20 : a1_1 < (l0.length : Int)
     ·rw [if_pos c20] at H
      have c20b0 : decide (a1_1 < (l0.length : Int)) = true := decide_eq_true c20
      clear c20
      by_cases c21 : a1_0 = 1
      ·rw [if_pos c21] at H
       have c21b0 : (a1_0 == 1) = true := beq_iff_eq.mpr c21
       have c21b1 : (a1_0 != 1) = false := bne_eq_false_iff_eq.mpr c21
       clear c21
       by_cases c22 : a1_1 < (t143.length : Int)
       ·rw [if_pos c22] at H
        have c22b0 : decide (a1_1 < (t143.length : Int)) = true := decide_eq_true c22
        clear c22
        obtain ⟨y151, hy151⟩ : ∃ y_ : List (S28), y_ = (t143.set (a1_1 : Int).toNat (⟨a1_3, a1_4⟩ : S28)) := ⟨_, rfl⟩
        replace H : (Q_ (y151, true)) := by first | (rw [hy151]; with_reducible exact H) | (obtain ⟨_, e_, H2_⟩ := H; subst e_; rw [hy151]; exact H2_) | with_reducible exact H | (rw [hy151]; exact H) | exact H
        have Ny151 := Aside0.mk hy151
        clear hy151
        have HQ_ := Aside0.mk H
        clear H
        have hcz24_0 : wc.cell? ⟨gb142, 0, none⟩ = some (.int .i64 a1_0) := (blk_cell BK142.out 0).trans rfl
        have hcz24_1 : wc.cell? ⟨gb142, 1, none⟩ = some (.int .i64 a1_1) := (blk_cell BK142.out 1).trans rfl
        have hcz24_2 : wc.cell? ⟨gb142, 2, none⟩ = some (.int .i64 a1_2) := (blk_cell BK142.out 2).trans rfl
        have hcz24_3 : wc.cell? ⟨gb142, 3, none⟩ = some (.float .f64 a1_3) := (blk_cell BK142.out 3).trans rfl
        have hcz24_4 : wc.cell? ⟨gb142, 4, none⟩ = some (.float .f64 a1_4) := (blk_cell BK142.out 4).trans rfl
        have hfz24_0 := blk_frozen BK142.out 0
        have hfz24_1 := blk_frozen BK142.out 1
        have hfz24_2 := blk_frozen BK142.out 2
        have hfz24_3 := blk_frozen BK142.out 3
        have hfz24_4 := blk_frozen BK142.out 4
        have p149 : 0 ≤ (a1_1 : Int) := of_decide_eq_true (by first | (with_reducible assumption) | assumption)
        have q149 : a1_1 < (l0.length : Int) := of_decide_eq_true (by first | (with_reducible assumption) | assumption)
        obtain ⟨ad149, e149, hx149_0, hx149_1⟩ := at_T28 HR0.out a1_1 p149 q149
        cases e149
        replace hx149_0 := (HB.out.cell (World.block_lt_of_cell? w _ hx149_0)).trans hx149_0
        replace hx149_1 := (HB.out.cell (World.block_lt_of_cell? w _ hx149_1)).trans hx149_1
        replace p149 := eq_true p149
        replace q149 := eq_true q149
        go_wp2_with (first | ((with_reducible refine gate_dst (N := 7) rfl ?_); (try (refine gate_guard (by rfl) ?_; dsimp only)); refine box_event ?hg (N := 7) ?hd (cs := #[.float .f64 0, .float .f64 0]) (t := 28) ?hr ?_; (case hd => rfl); (case hg => rfl); (case hr => first | (go_simp; done) | (go_simp; rfl)); intro gb150 hg w25 hbox hb; have n0_ := Aside0.mk (Kd.R_below (Kd.R_elderB (by (with_reducible repeat (first | apply Kd.R_alloc | apply Kd.R_drewN | apply Kd.R_drew)); exact HO_6.out) gb150 (Nat.le_of_eq hg.symm)) hb); have n1_ := Aside0.mk (blk_below (g := gb142) (o := .cells #[.int .i64 a1_0, .int .i64 a1_1, .int .i64 a1_2, .float .f64 a1_3, .float .f64 a1_4] 56 (0, 0)) (by (with_reducible repeat (first | refine blk_drewN ?_ _ | refine blk_drew ?_ | refine blk_alloc ?_ _)); exact BK142.out) hb); have n2_ := Aside0.mk (below_step (by repeat (first | (with_reducible first | exact HB.out | apply below_alloc | apply pw_below_drewN | apply below_drew1 | refine below_set ?_ GE142.out) | exact HB.out)) hb); have n3_ := Aside0.mk (hbox); have n4_ := Aside0.mk ((by rw [hg]; exact (below_size (by repeat (first | (with_reducible first | exact HB.out | apply below_alloc | apply pw_below_drewN | apply below_drew1 | refine below_set ?_ GE142.out) | exact HB.out))) : w.heap.size ≤ gb150)); have n5_ := Aside0.mk ((by rw [hg]; exact (below_size (by repeat (first | (with_reducible first | exact HB.out | apply below_alloc | apply pw_below_drewN | apply below_drew1 | refine below_set ?_ GE142.out) | exact HB.out))) : w.heap.size ≤ gb150)); have n6_ := Aside0.mk ((by rw [hg]; exact Nat.ne_of_lt (blk_lt (g := gb142) (o := .cells #[.int .i64 a1_0, .int .i64 a1_1, .int .i64 a1_2, .float .f64 a1_3, .float .f64 a1_4] 56 (0, 0)) (by (with_reducible repeat (first | refine blk_drewN ?_ _ | refine blk_drew ?_ | refine blk_alloc ?_ _)); exact BK142.out)) : gb142 ≠ gb150)); have n7_ := Aside0.mk ((by rw [hg]; exact Nat.ne_of_gt (blk_lt (g := gb142) (o := .cells #[.int .i64 a1_0, .int .i64 a1_1, .int .i64 a1_2, .float .f64 a1_3, .float .f64 a1_4] 56 (0, 0)) (by (with_reducible repeat (first | refine blk_drewN ?_ _ | refine blk_drew ?_ | refine blk_alloc ?_ _)); exact BK142.out)) : gb150 ≠ gb142)); clear HO_6; clear BK142; clear HB; have HO_6 := n0_; have BK142 := n1_; have HB := n2_; have BK150 := n3_; have GW150 := n4_; have GE150 := n5_; have NB142_150 := n6_; have NB150_142 := n7_; clear n0_ n1_ n2_ n3_ n4_ n5_ n6_ n7_; clear hb hbox hg; have hnb26 := NB150_142.out; have hnc26 := NB142_150.out; have hcz27_0 : w25.cell? ⟨gb150, 0, none⟩ = some (.float .f64 0) := (blk_cell BK150.out 0).trans rfl; have hcz27_1 : w25.cell? ⟨gb150, 1, none⟩ = some (.float .f64 0) := (blk_cell BK150.out 1).trans rfl; have hfz27_0 := blk_frozen BK150.out 0; have hfz27_1 := blk_frozen BK150.out 1) | ((with_reducible refine gate_store (t := 28) (p := 7) rfl ?_); refine store_event (t := 28) (p := 7) (v := ?vo_w28) (w1 := ((w25.setCell ⟨gb150, 0, none⟩ (.float .f64 ((rd_T28 l0 a1_1).f0))).setCell ⟨gb150, 1, none⟩ (.float .f64 ((rd_T28 l0 a1_1).f1)))) ?hg ?ho ?hn ?hr ?_; (case ho => rfl); (case hg => rfl); (case hn => rfl); (case hr => first | (go_simp; done) | (go_simp; rfl)); intro w28 hw; have n0_ : Aside0 (Kd.R k28 28 w28 w.heap.size (fun k_ => k_ ≠ gb150) v144 t143) := ⟨(by rw [hw]; exact (by (with_reducible repeat (first | apply Kd.R_alloc | apply Kd.R_drewN | apply Kd.R_drew)); exact Kd.R_mono (Kd.R_far (Kd.R_far (Kd.R_mono HO_6.out (fun k_ hk => (⟨hk, hk.2⟩ : _ ∧ k_ ≠ gb150))) (fun _ hk => hk.2) (.float .f64 ((rd_T28 l0 a1_1).f0))) (fun _ hk => hk.2) (.float .f64 ((rd_T28 l0 a1_1).f1))) (fun _ hk => hk.1.2)))⟩; have n1_ : Aside0 (w28.heap[gb142]? = some (.cells #[.int .i64 a1_0, .int .i64 a1_1, .int .i64 a1_2, .float .f64 a1_3, .float .f64 a1_4] 56 (0, 0))) := ⟨(by rw [hw]; exact (by (with_reducible repeat (first | refine blk_drewN ?_ _ | refine blk_drew ?_ | refine blk_alloc ?_ _)); refine blk_far ?_ NB142_150.out _; (with_reducible repeat (first | refine blk_drewN ?_ _ | refine blk_drew ?_ | refine blk_alloc ?_ _)); refine blk_far ?_ NB142_150.out _; (with_reducible repeat (first | refine blk_drewN ?_ _ | refine blk_drew ?_ | refine blk_alloc ?_ _)); exact BK142.out))⟩; have n2_ : Aside0 (w28.heap[gb150]? = some (.cells #[.float .f64 ((rd_T28 l0 a1_1).f0), .float .f64 ((rd_T28 l0 a1_1).f1)] 28 (0, 0))) := ⟨(by rw [hw]; exact (by (with_reducible repeat (first | refine blk_drewN ?_ _ | refine blk_drew ?_ | refine blk_alloc ?_ _)); refine blk_put (cs := #[.float .f64 ((rd_T28 l0 a1_1).f0), .float .f64 0]) ?_ 1 _ rfl; (with_reducible repeat (first | refine blk_drewN ?_ _ | refine blk_drew ?_ | refine blk_alloc ?_ _)); refine blk_put (cs := #[.float .f64 0, .float .f64 0]) ?_ 0 _ rfl; (with_reducible repeat (first | refine blk_drewN ?_ _ | refine blk_drew ?_ | refine blk_alloc ?_ _)); exact BK150.out))⟩; have n3_ : Aside0 (Below w.heap.size w w28) := ⟨(by rw [hw]; exact (by repeat (first | (with_reducible first | exact HB.out | apply below_alloc | apply pw_below_drewN | apply below_drew1 | refine below_set ?_ GE142.out | refine below_set ?_ GE150.out) | exact HB.out)))⟩; clear hw; clear HO_6; clear BK142; clear BK150; clear HB; have HO_6 := n0_; have BK142 := n1_; have BK150 := n2_; have HB := n3_; clear n0_ n1_ n2_ n3_; have hcz29_0 : w28.cell? ⟨gb142, 0, none⟩ = some (.int .i64 a1_0) := (blk_cell BK142.out 0).trans rfl; have hcz29_1 : w28.cell? ⟨gb142, 1, none⟩ = some (.int .i64 a1_1) := (blk_cell BK142.out 1).trans rfl; have hcz29_2 : w28.cell? ⟨gb142, 2, none⟩ = some (.int .i64 a1_2) := (blk_cell BK142.out 2).trans rfl; have hcz29_3 : w28.cell? ⟨gb142, 3, none⟩ = some (.float .f64 a1_3) := (blk_cell BK142.out 3).trans rfl; have hcz29_4 : w28.cell? ⟨gb142, 4, none⟩ = some (.float .f64 a1_4) := (blk_cell BK142.out 4).trans rfl; have hfz29_0 := blk_frozen BK142.out 0; have hfz29_1 := blk_frozen BK142.out 1; have hfz29_2 := blk_frozen BK142.out 2; have hfz29_3 := blk_frozen BK142.out 3; have hfz29_4 := blk_frozen BK142.out 4; have p23 : 0 ≤ (a1_1 : Int) := of_decide_eq_true (by first | (with_reducible assumption) | assumption); have q23 : (a1_1 : Int) < ((t143.length : Int) : Int) := of_decide_eq_true (by first | (with_reducible assumption) | assumption); obtain ⟨go23, co23, eo23, gb23, gl23, cl23, HG23⟩ := Kd.R_form HO_6.out (by omega); (first | cases eo23 | (injection eo23 with ea_ en_ ec_; (first | subst ea_ | (injection ea_ with ea_; subst ea_)); subst ec_; clear en_)); have GB23 := Aside0.mk gb23; have GG23 := Aside0.mk HG23; clear gb23 gl23 HG23; obtain ⟨ce23, hcl23, hM23, hcc23, hfr23⟩ := Kd.R_elem HO_6.out z28 (a1_1 : Int) p23 q23; obtain rfl := k28_openM hM23; have hx23_0 : w28.cell? ⟨go23, (a1_1 : Int).toNat * 2, none⟩ = some (.float .f64 ((rd_T28 t143 a1_1).f0)) := hcc23 0 _ rfl; have hx23_1 : w28.cell? ⟨go23, (a1_1 : Int).toNat * 2 + 1, none⟩ = some (.float .f64 ((rd_T28 t143 a1_1).f1)) := hcc23 1 _ rfl; have hf23_0 : w28.frozen? ⟨go23, (a1_1 : Int).toNat * 2, none⟩ = false := hfr23 0; have hf23_1 : w28.frozen? ⟨go23, (a1_1 : Int).toNat * 2 + 1, none⟩ = false := hfr23 1; clear hcl23 hcc23 hfr23 hM23; replace p23 := eq_true p23; replace q23 := eq_true q23; have HX30 := Aside0.mk (show Kd.R k28 28 w28 w.heap.size (fun k_ => k_ ≠ gb150) (.slice (some ⟨go23, 0, none⟩) t143.length co23) t143 from (by (with_reducible repeat (first | apply Kd.R_alloc | apply Kd.R_drewN | apply Kd.R_drew)); exact HO_6.out)); obtain ⟨ce30, hcl30, hM30, hcc30, hfr30⟩ := Kd.R_elem HX30.out z28 (a1_1 : Int) (of_decide_eq_true (by first | (with_reducible assumption) | assumption)) (by have h_ : (a1_1 : Int) < ((t143.length : Int) : Int) := of_decide_eq_true (by first | (with_reducible assumption) | assumption); first | exact h_ | (have e_ := (Kd.R_reads' HO_6.out).1; omega) | simpa using h_); obtain rfl := k28_openM hM30; have HP30 := Kd.R_seg HX30.out (a1_1 : Int) (of_decide_eq_true (by first | (with_reducible assumption) | assumption)) (by have h_ : (a1_1 : Int) < ((t143.length : Int) : Int) := of_decide_eq_true (by first | (with_reducible assumption) | assumption); first | exact h_ | (have e_ := (Kd.R_reads' HO_6.out).1; omega) | simpa using h_) (seg := [.float .f64 a1_3, .float .f64 a1_4]) (j := 0) hcl30 hcc30 (show 2 ≤ 2 from by decide) (x' := (⟨a1_3, a1_4⟩ : S28)) (k28_mkM _ _ _ (⟨a1_3, a1_4⟩ : S28) ) (fun _ hk => hk); have hx30_0 := hcc30 0 _ rfl; (try simp only [show (k28).sz = 2 from rfl, Nat.mul_one, Nat.add_zero] at hx30_0); have hf30_0 := hfr30 0; (try simp only [show (k28).sz = 2 from rfl, Nat.mul_one, Nat.add_zero] at hf30_0); have hx30_1 := hcc30 1 _ rfl; (try simp only [show (k28).sz = 2 from rfl, Nat.mul_one, Nat.add_zero] at hx30_1); have hf30_1 := hfr30 1; (try simp only [show (k28).sz = 2 from rfl, Nat.mul_one, Nat.add_zero] at hf30_1); clear hcl30 hcc30 hfr30 hM30) | ((with_reducible refine gate_store (t := 28) (p := 59) rfl ?_); refine store_event (t := 28) (p := 59) (v := ?vo_w31) (w1 := ((w28.setCell ⟨go23, (a1_1 : Int).toNat * 2, none⟩ (.float .f64 a1_3)).setCell ⟨go23, (a1_1 : Int).toNat * 2 + 1, none⟩ (.float .f64 a1_4))) ?hg ?ho ?hn ?hr ?_; (case ho => rfl); (case hg => rfl); (case hn => rfl); (case hr => first | (go_simp; done) | (go_simp; rfl)); intro w31 hw; have hg : w28.grownBy w31 (some go23) := (by rw [hw]; exact HP30.2); have hp_ : Kd.R k28 28 w31 w.heap.size (fun k_ => k_ ≠ gb150) (.slice (some ⟨go23, 0, none⟩) t143.length co23) y151 := (by rw [hw, Ny151.out]; exact HP30.1); clear HP30; have n0_ := Aside0.mk (hp_); have n1_ := Aside0.mk (blk_grown (g := gb142) (o := .cells #[.int .i64 a1_0, .int .i64 a1_1, .int .i64 a1_2, .float .f64 a1_3, .float .f64 a1_4] 56 (0, 0)) (by (with_reducible repeat (first | refine blk_drewN ?_ _ | refine blk_drew ?_ | refine blk_alloc ?_ _)); exact BK142.out) hg (Kd.R_ne HO_6.out BK142.out (by decide))); have n2_ := Aside0.mk (blk_grown (g := gb150) (o := .cells #[.float .f64 ((rd_T28 l0 a1_1).f0), .float .f64 ((rd_T28 l0 a1_1).f1)] 28 (0, 0)) (by (with_reducible repeat (first | refine blk_drewN ?_ _ | refine blk_drew ?_ | refine blk_alloc ?_ _)); exact BK150.out) hg (Kd.R_away HO_6.out (fun _ hk => hk))); have n3_ := Aside0.mk ((by rw [hw]; exact below_set (below_set (HB.out) GB23.out) GB23.out : Below w.heap.size w w31)); clear HO_6; clear BK142; clear BK150; clear HB; have HO_6 := n0_; have BK142 := n1_; have BK150 := n2_; have HB := n3_; clear n0_ n1_ n2_ n3_; clear hg hw hp_))
        go_ret2
        exact Dq2.mk HQ_.out ⟨_, by first | rfl | (simp [errW_none, errW_some] <;> rfl) | (simp [*, errW_none, errW_some] <;> rfl), by (with_reducible repeat (first | apply Kd.R_alloc | apply Kd.R_drewN | apply Kd.R_drew)); exact Kd.R_mono HO_6.out (fun _ hk => trivial), by repeat (first | (with_reducible first | exact HB.out | apply below_alloc | apply pw_below_drewN | apply below_drew1 | refine below_set ?_ GE142.out | refine below_set ?_ GE150.out) | exact HB.out)⟩
       ·rw [if_neg c22] at H
        exact absurd H (by simp)
      ·rw [if_neg c21] at H
       have c21b0 : (a1_0 == 1) = false := beq_eq_false_iff_ne.mpr c21
       have c21b1 : (a1_0 != 1) = true := bne_iff_ne.mpr c21
       by_cases c32 : a1_0 = 2
       ·rw [if_pos c32] at H
        have c32b0 : (a1_0 == 2) = true := beq_iff_eq.mpr c32
        have c32b1 : (a1_0 != 2) = false := bne_eq_false_iff_eq.mpr c32
        clear c32
        have HD34 := Aside0.mk H
        clear H
        have hcz40_0 : wc.cell? ⟨gb142, 0, none⟩ = some (.int .i64 a1_0) := (blk_cell BK142.out 0).trans rfl
        have hcz40_1 : wc.cell? ⟨gb142, 1, none⟩ = some (.int .i64 a1_1) := (blk_cell BK142.out 1).trans rfl
        have hcz40_2 : wc.cell? ⟨gb142, 2, none⟩ = some (.int .i64 a1_2) := (blk_cell BK142.out 2).trans rfl
        have hcz40_3 : wc.cell? ⟨gb142, 3, none⟩ = some (.float .f64 a1_3) := (blk_cell BK142.out 3).trans rfl
        have hcz40_4 : wc.cell? ⟨gb142, 4, none⟩ = some (.float .f64 a1_4) := (blk_cell BK142.out 4).trans rfl
        have hfz40_0 := blk_frozen BK142.out 0
        have hfz40_1 := blk_frozen BK142.out 1
        have hfz40_2 := blk_frozen BK142.out 2
        have hfz40_3 := blk_frozen BK142.out 3
        have hfz40_4 := blk_frozen BK142.out 4
        have p149 : 0 ≤ (a1_1 : Int) := of_decide_eq_true (by first | (with_reducible assumption) | assumption)
        have q149 : a1_1 < (l0.length : Int) := of_decide_eq_true (by first | (with_reducible assumption) | assumption)
        obtain ⟨ad149, e149, hx149_0, hx149_1⟩ := at_T28 HR0.out a1_1 p149 q149
        cases e149
        replace hx149_0 := (HB.out.cell (World.block_lt_of_cell? w _ hx149_0)).trans hx149_0
        replace hx149_1 := (HB.out.cell (World.block_lt_of_cell? w _ hx149_1)).trans hx149_1
        replace p149 := eq_true p149
        replace q149 := eq_true q149
        go_wp2_with (first | ((with_reducible refine gate_dst (N := 7) rfl ?_); (try (refine gate_guard (by rfl) ?_; dsimp only)); refine box_event ?hg (N := 7) ?hd (cs := #[.float .f64 0, .float .f64 0]) (t := 28) ?hr ?_; (case hd => rfl); (case hg => rfl); (case hr => first | (go_simp; done) | (go_simp; rfl)); intro gb150 hg w41 hbox hb; have n0_ := Aside0.mk (Kd.R_below (Kd.R_elderB (by (with_reducible repeat (first | apply Kd.R_alloc | apply Kd.R_drewN | apply Kd.R_drew)); exact HO_6.out) gb150 (Nat.le_of_eq hg.symm)) hb); have n1_ := Aside0.mk (blk_below (g := gb142) (o := .cells #[.int .i64 a1_0, .int .i64 a1_1, .int .i64 a1_2, .float .f64 a1_3, .float .f64 a1_4] 56 (0, 0)) (by (with_reducible repeat (first | refine blk_drewN ?_ _ | refine blk_drew ?_ | refine blk_alloc ?_ _)); exact BK142.out) hb); have n2_ := Aside0.mk (below_step (by repeat (first | (with_reducible first | exact HB.out | apply below_alloc | apply pw_below_drewN | apply below_drew1 | refine below_set ?_ GE142.out) | exact HB.out)) hb); have n3_ := Aside0.mk (hbox); have n4_ := Aside0.mk ((by rw [hg]; exact (below_size (by repeat (first | (with_reducible first | exact HB.out | apply below_alloc | apply pw_below_drewN | apply below_drew1 | refine below_set ?_ GE142.out) | exact HB.out))) : w.heap.size ≤ gb150)); have n5_ := Aside0.mk ((by rw [hg]; exact (below_size (by repeat (first | (with_reducible first | exact HB.out | apply below_alloc | apply pw_below_drewN | apply below_drew1 | refine below_set ?_ GE142.out) | exact HB.out))) : w.heap.size ≤ gb150)); have n6_ := Aside0.mk ((by rw [hg]; exact Nat.ne_of_lt (blk_lt (g := gb142) (o := .cells #[.int .i64 a1_0, .int .i64 a1_1, .int .i64 a1_2, .float .f64 a1_3, .float .f64 a1_4] 56 (0, 0)) (by (with_reducible repeat (first | refine blk_drewN ?_ _ | refine blk_drew ?_ | refine blk_alloc ?_ _)); exact BK142.out)) : gb142 ≠ gb150)); have n7_ := Aside0.mk ((by rw [hg]; exact Nat.ne_of_gt (blk_lt (g := gb142) (o := .cells #[.int .i64 a1_0, .int .i64 a1_1, .int .i64 a1_2, .float .f64 a1_3, .float .f64 a1_4] 56 (0, 0)) (by (with_reducible repeat (first | refine blk_drewN ?_ _ | refine blk_drew ?_ | refine blk_alloc ?_ _)); exact BK142.out)) : gb150 ≠ gb142)); clear HO_6; clear BK142; clear HB; have HO_6 := n0_; have BK142 := n1_; have HB := n2_; have BK150 := n3_; have GW150 := n4_; have GE150 := n5_; have NB142_150 := n6_; have NB150_142 := n7_; clear n0_ n1_ n2_ n3_ n4_ n5_ n6_ n7_; clear hb hbox hg; have hnb42 := NB150_142.out; have hnc42 := NB142_150.out; have hcz43_0 : w41.cell? ⟨gb150, 0, none⟩ = some (.float .f64 0) := (blk_cell BK150.out 0).trans rfl; have hcz43_1 : w41.cell? ⟨gb150, 1, none⟩ = some (.float .f64 0) := (blk_cell BK150.out 1).trans rfl; have hfz43_0 := blk_frozen BK150.out 0; have hfz43_1 := blk_frozen BK150.out 1) | ((with_reducible refine gate_store (t := 28) (p := 7) rfl ?_); refine store_event (t := 28) (p := 7) (v := ?vo_w44) (w1 := ((w41.setCell ⟨gb150, 0, none⟩ (.float .f64 ((rd_T28 l0 a1_1).f0))).setCell ⟨gb150, 1, none⟩ (.float .f64 ((rd_T28 l0 a1_1).f1)))) ?hg ?ho ?hn ?hr ?_; (case ho => rfl); (case hg => rfl); (case hn => rfl); (case hr => first | (go_simp; done) | (go_simp; rfl)); intro w44 hw; have n0_ : Aside0 (Kd.R k28 28 w44 w.heap.size (fun k_ => k_ ≠ gb150) v144 t143) := ⟨(by rw [hw]; exact (by (with_reducible repeat (first | apply Kd.R_alloc | apply Kd.R_drewN | apply Kd.R_drew)); exact Kd.R_mono (Kd.R_far (Kd.R_far (Kd.R_mono HO_6.out (fun k_ hk => (⟨hk, hk.2⟩ : _ ∧ k_ ≠ gb150))) (fun _ hk => hk.2) (.float .f64 ((rd_T28 l0 a1_1).f0))) (fun _ hk => hk.2) (.float .f64 ((rd_T28 l0 a1_1).f1))) (fun _ hk => hk.1.2)))⟩; have n1_ : Aside0 (w44.heap[gb142]? = some (.cells #[.int .i64 a1_0, .int .i64 a1_1, .int .i64 a1_2, .float .f64 a1_3, .float .f64 a1_4] 56 (0, 0))) := ⟨(by rw [hw]; exact (by (with_reducible repeat (first | refine blk_drewN ?_ _ | refine blk_drew ?_ | refine blk_alloc ?_ _)); refine blk_far ?_ NB142_150.out _; (with_reducible repeat (first | refine blk_drewN ?_ _ | refine blk_drew ?_ | refine blk_alloc ?_ _)); refine blk_far ?_ NB142_150.out _; (with_reducible repeat (first | refine blk_drewN ?_ _ | refine blk_drew ?_ | refine blk_alloc ?_ _)); exact BK142.out))⟩; have n2_ : Aside0 (w44.heap[gb150]? = some (.cells #[.float .f64 ((rd_T28 l0 a1_1).f0), .float .f64 ((rd_T28 l0 a1_1).f1)] 28 (0, 0))) := ⟨(by rw [hw]; exact (by (with_reducible repeat (first | refine blk_drewN ?_ _ | refine blk_drew ?_ | refine blk_alloc ?_ _)); refine blk_put (cs := #[.float .f64 ((rd_T28 l0 a1_1).f0), .float .f64 0]) ?_ 1 _ rfl; (with_reducible repeat (first | refine blk_drewN ?_ _ | refine blk_drew ?_ | refine blk_alloc ?_ _)); refine blk_put (cs := #[.float .f64 0, .float .f64 0]) ?_ 0 _ rfl; (with_reducible repeat (first | refine blk_drewN ?_ _ | refine blk_drew ?_ | refine blk_alloc ?_ _)); exact BK150.out))⟩; have n3_ : Aside0 (Below w.heap.size w w44) := ⟨(by rw [hw]; exact (by repeat (first | (with_reducible first | exact HB.out | apply below_alloc | apply pw_below_drewN | apply below_drew1 | refine below_set ?_ GE142.out | refine below_set ?_ GE150.out) | exact HB.out)))⟩; clear hw; clear HO_6; clear BK142; clear BK150; clear HB; have HO_6 := n0_; have BK142 := n1_; have BK150 := n2_; have HB := n3_; clear n0_ n1_ n2_ n3_; have hcz45_0 : w44.cell? ⟨gb142, 0, none⟩ = some (.int .i64 a1_0) := (blk_cell BK142.out 0).trans rfl; have hcz45_1 : w44.cell? ⟨gb142, 1, none⟩ = some (.int .i64 a1_1) := (blk_cell BK142.out 1).trans rfl; have hcz45_2 : w44.cell? ⟨gb142, 2, none⟩ = some (.int .i64 a1_2) := (blk_cell BK142.out 2).trans rfl; have hcz45_3 : w44.cell? ⟨gb142, 3, none⟩ = some (.float .f64 a1_3) := (blk_cell BK142.out 3).trans rfl; have hcz45_4 : w44.cell? ⟨gb142, 4, none⟩ = some (.float .f64 a1_4) := (blk_cell BK142.out 4).trans rfl; have hfz45_0 := blk_frozen BK142.out 0; have hfz45_1 := blk_frozen BK142.out 1; have hfz45_2 := blk_frozen BK142.out 2; have hfz45_3 := blk_frozen BK142.out 3; have hfz45_4 := blk_frozen BK142.out 4; have hcz46_0 : w44.cell? ⟨gb150, 0, none⟩ = some (.float .f64 ((rd_T28 l0 a1_1).f0)) := (blk_cell BK150.out 0).trans rfl; have hcz46_1 : w44.cell? ⟨gb150, 1, none⟩ = some (.float .f64 ((rd_T28 l0 a1_1).f1)) := (blk_cell BK150.out 1).trans rfl; have hfz46_0 := blk_frozen BK150.out 0; have hfz46_1 := blk_frozen BK150.out 1) | ((with_reducible refine gate_dst (N := 70) rfl ?_); (try (refine gate_guard (by rfl) ?_; dsimp only)); refine fl_event (k := .f64) (R := FRk .f64 .add ((rd_T28 l0 a1_1).f0) a1_3) ?hg (N := 70) ?hd ?hr ?_; (case hd => rfl); (case hg => rfl); (case hr => obtain ⟨r_, w_, hc_, hR_, hq_⟩ := frk_run (P := Try.prog) .f64 .add 26 ((rd_T28 l0 a1_1).f0) a1_3 _ (by simp); exact ⟨r_, w_, by first | (go_simp; done) | (go_simp; rfl), hR_, hq_⟩); intro fr152 w47 hR_ hb; have HD33 := Aside0.mk (HD34.out fr152 hR_); clear HD34 hR_; have n0_ := Aside0.mk (Kd.R_below (by (with_reducible repeat (first | apply Kd.R_alloc | apply Kd.R_drewN | apply Kd.R_drew)); exact HO_6.out) hb); have n1_ := Aside0.mk (blk_below (g := gb142) (o := .cells #[.int .i64 a1_0, .int .i64 a1_1, .int .i64 a1_2, .float .f64 a1_3, .float .f64 a1_4] 56 (0, 0)) (by (with_reducible repeat (first | refine blk_drewN ?_ _ | refine blk_drew ?_ | refine blk_alloc ?_ _)); exact BK142.out) hb); have n2_ := Aside0.mk (blk_below (g := gb150) (o := .cells #[.float .f64 ((rd_T28 l0 a1_1).f0), .float .f64 ((rd_T28 l0 a1_1).f1)] 28 (0, 0)) (by (with_reducible repeat (first | refine blk_drewN ?_ _ | refine blk_drew ?_ | refine blk_alloc ?_ _)); exact BK150.out) hb); have n3_ := Aside0.mk (below_step (by repeat (first | (with_reducible first | exact HB.out | apply below_alloc | apply pw_below_drewN | apply below_drew1 | refine below_set ?_ GE142.out | refine below_set ?_ GE150.out) | exact HB.out)) hb); clear HO_6; clear BK142; clear BK150; clear HB; have HO_6 := n0_; have BK142 := n1_; have BK150 := n2_; have HB := n3_; clear n0_ n1_ n2_ n3_; (try clear hb); have hcz48_0 : w47.cell? ⟨gb150, 0, none⟩ = some (.float .f64 ((rd_T28 l0 a1_1).f0)) := (blk_cell BK150.out 0).trans rfl; have hcz48_1 : w47.cell? ⟨gb150, 1, none⟩ = some (.float .f64 ((rd_T28 l0 a1_1).f1)) := (blk_cell BK150.out 1).trans rfl; have hfz48_0 := blk_frozen BK150.out 0; have hfz48_1 := blk_frozen BK150.out 1; have hcz49_0 : w47.cell? ⟨gb142, 0, none⟩ = some (.int .i64 a1_0) := (blk_cell BK142.out 0).trans rfl; have hcz49_1 : w47.cell? ⟨gb142, 1, none⟩ = some (.int .i64 a1_1) := (blk_cell BK142.out 1).trans rfl; have hcz49_2 : w47.cell? ⟨gb142, 2, none⟩ = some (.int .i64 a1_2) := (blk_cell BK142.out 2).trans rfl; have hcz49_3 : w47.cell? ⟨gb142, 3, none⟩ = some (.float .f64 a1_3) := (blk_cell BK142.out 3).trans rfl; have hcz49_4 : w47.cell? ⟨gb142, 4, none⟩ = some (.float .f64 a1_4) := (blk_cell BK142.out 4).trans rfl; have hfz49_0 := blk_frozen BK142.out 0; have hfz49_1 := blk_frozen BK142.out 1; have hfz49_2 := blk_frozen BK142.out 2; have hfz49_3 := blk_frozen BK142.out 3; have hfz49_4 := blk_frozen BK142.out 4) | ((with_reducible refine gate_dst (N := 76) rfl ?_); (try (refine gate_guard (by rfl) ?_; dsimp only)); refine fl_event (k := .f64) (R := FRk .f64 .add ((rd_T28 l0 a1_1).f1) a1_4) ?hg (N := 76) ?hd ?hr ?_; (case hd => rfl); (case hg => rfl); (case hr => obtain ⟨r_, w_, hc_, hR_, hq_⟩ := frk_run (P := Try.prog) .f64 .add 26 ((rd_T28 l0 a1_1).f1) a1_4 _ (by simp); exact ⟨r_, w_, by first | (go_simp; done) | (go_simp; rfl), hR_, hq_⟩); intro fr153 w50 hR_ hb; have HD35 := Aside0.mk (HD33.out fr153 hR_); clear HD33 hR_; have n0_ := Aside0.mk (Kd.R_below (by (with_reducible repeat (first | apply Kd.R_alloc | apply Kd.R_drewN | apply Kd.R_drew)); exact HO_6.out) hb); have n1_ := Aside0.mk (blk_below (g := gb142) (o := .cells #[.int .i64 a1_0, .int .i64 a1_1, .int .i64 a1_2, .float .f64 a1_3, .float .f64 a1_4] 56 (0, 0)) (by (with_reducible repeat (first | refine blk_drewN ?_ _ | refine blk_drew ?_ | refine blk_alloc ?_ _)); exact BK142.out) hb); have n2_ := Aside0.mk (blk_below (g := gb150) (o := .cells #[.float .f64 ((rd_T28 l0 a1_1).f0), .float .f64 ((rd_T28 l0 a1_1).f1)] 28 (0, 0)) (by (with_reducible repeat (first | refine blk_drewN ?_ _ | refine blk_drew ?_ | refine blk_alloc ?_ _)); exact BK150.out) hb); have n3_ := Aside0.mk (below_step (by repeat (first | (with_reducible first | exact HB.out | apply below_alloc | apply pw_below_drewN | apply below_drew1 | refine below_set ?_ GE142.out | refine below_set ?_ GE150.out) | exact HB.out)) hb); clear HO_6; clear BK142; clear BK150; clear HB; have HO_6 := n0_; have BK142 := n1_; have BK150 := n2_; have HB := n3_; clear n0_ n1_ n2_ n3_; (try clear hb); have c36 : a1_1 < (t143.length : Int) := (by by_cases hc_ : a1_1 < (t143.length : Int); exact hc_; (have H_ := HD35.out; rw [if_neg hc_] at H_; exact absurd H_ (by simp))); have HD37 := Aside0.mk (show (Q_ ((t143.set (a1_1 : Int).toNat (⟨fr152, fr153⟩ : S28)), true)) from (by have H_ := HD35.out; rw [if_pos c36] at H_; exact H_)); clear HD35; have c36b0 : decide (a1_1 < (t143.length : Int)) = true := decide_eq_true c36; clear c36; have p38 : 0 ≤ (a1_1 : Int) := of_decide_eq_true (by first | (with_reducible assumption) | assumption); have q38 : (a1_1 : Int) < ((t143.length : Int) : Int) := of_decide_eq_true (by first | (with_reducible assumption) | assumption); obtain ⟨go38, co38, eo38, gb38, gl38, cl38, HG38⟩ := Kd.R_form HO_6.out (by omega); (first | cases eo38 | (injection eo38 with ea_ en_ ec_; (first | subst ea_ | (injection ea_ with ea_; subst ea_)); subst ec_; clear en_)); have GB38 := Aside0.mk gb38; have GG38 := Aside0.mk HG38; clear gb38 gl38 HG38; obtain ⟨ce38, hcl38, hM38, hcc38, hfr38⟩ := Kd.R_elem HO_6.out z28 (a1_1 : Int) p38 q38; obtain rfl := k28_openM hM38; have hx38_0 : w50.cell? ⟨go38, (a1_1 : Int).toNat * 2, none⟩ = some (.float .f64 ((rd_T28 t143 a1_1).f0)) := hcc38 0 _ rfl; have hx38_1 : w50.cell? ⟨go38, (a1_1 : Int).toNat * 2 + 1, none⟩ = some (.float .f64 ((rd_T28 t143 a1_1).f1)) := hcc38 1 _ rfl; have hf38_0 : w50.frozen? ⟨go38, (a1_1 : Int).toNat * 2, none⟩ = false := hfr38 0; have hf38_1 : w50.frozen? ⟨go38, (a1_1 : Int).toNat * 2 + 1, none⟩ = false := hfr38 1; clear hcl38 hcc38 hfr38 hM38; replace p38 := eq_true p38; replace q38 := eq_true q38; obtain ⟨y154, hy154⟩ : ∃ y_ : List (S28), y_ = (t143.set (a1_1 : Int).toNat (⟨fr152, fr153⟩ : S28)) := ⟨_, rfl⟩; have HD39 := Aside0.mk (show (Q_ (y154, true)) from (by have H := HD37.out; first | (rw [hy154]; with_reducible exact H) | (obtain ⟨_, e_, H2_⟩ := H; subst e_; rw [hy154]; exact H2_) | with_reducible exact H | (rw [hy154]; exact H) | exact H)); clear HD37; have Ny154 := Aside0.mk hy154; clear hy154; have HX51 := Aside0.mk (show Kd.R k28 28 w50 w.heap.size (fun k_ => k_ ≠ gb150) (.slice (some ⟨go38, 0, none⟩) t143.length co38) t143 from (by (with_reducible repeat (first | apply Kd.R_alloc | apply Kd.R_drewN | apply Kd.R_drew)); exact HO_6.out)); obtain ⟨ce51, hcl51, hM51, hcc51, hfr51⟩ := Kd.R_elem HX51.out z28 (a1_1 : Int) (of_decide_eq_true (by first | (with_reducible assumption) | assumption)) (by have h_ : (a1_1 : Int) < ((t143.length : Int) : Int) := of_decide_eq_true (by first | (with_reducible assumption) | assumption); first | exact h_ | (have e_ := (Kd.R_reads' HO_6.out).1; omega) | simpa using h_); obtain rfl := k28_openM hM51; have HP51 := Kd.R_seg HX51.out (a1_1 : Int) (of_decide_eq_true (by first | (with_reducible assumption) | assumption)) (by have h_ : (a1_1 : Int) < ((t143.length : Int) : Int) := of_decide_eq_true (by first | (with_reducible assumption) | assumption); first | exact h_ | (have e_ := (Kd.R_reads' HO_6.out).1; omega) | simpa using h_) (seg := [.float .f64 fr152, .float .f64 fr153]) (j := 0) hcl51 hcc51 (show 2 ≤ 2 from by decide) (x' := (⟨fr152, fr153⟩ : S28)) (k28_mkM _ _ _ (⟨fr152, fr153⟩ : S28) ) (fun _ hk => hk); have hx51_0 := hcc51 0 _ rfl; (try simp only [show (k28).sz = 2 from rfl, Nat.mul_one, Nat.add_zero] at hx51_0); have hf51_0 := hfr51 0; (try simp only [show (k28).sz = 2 from rfl, Nat.mul_one, Nat.add_zero] at hf51_0); have hx51_1 := hcc51 1 _ rfl; (try simp only [show (k28).sz = 2 from rfl, Nat.mul_one, Nat.add_zero] at hx51_1); have hf51_1 := hfr51 1; (try simp only [show (k28).sz = 2 from rfl, Nat.mul_one, Nat.add_zero] at hf51_1); clear hcl51 hcc51 hfr51 hM51) | ((with_reducible refine gate_store (t := 28) (p := 78) rfl ?_); refine store_event (t := 28) (p := 78) (v := ?vo_w52) (w1 := ((w50.setCell ⟨go38, (a1_1 : Int).toNat * 2, none⟩ (.float .f64 fr152)).setCell ⟨go38, (a1_1 : Int).toNat * 2 + 1, none⟩ (.float .f64 fr153))) ?hg ?ho ?hn ?hr ?_; (case ho => rfl); (case hg => rfl); (case hn => rfl); (case hr => first | (go_simp; done) | (go_simp; rfl)); intro w52 hw; have hg : w50.grownBy w52 (some go38) := (by rw [hw]; exact HP51.2); have hp_ : Kd.R k28 28 w52 w.heap.size (fun k_ => k_ ≠ gb150) (.slice (some ⟨go38, 0, none⟩) t143.length co38) y154 := (by rw [hw, Ny154.out]; exact HP51.1); clear HP51; have n0_ := Aside0.mk (hp_); have n1_ := Aside0.mk (blk_grown (g := gb142) (o := .cells #[.int .i64 a1_0, .int .i64 a1_1, .int .i64 a1_2, .float .f64 a1_3, .float .f64 a1_4] 56 (0, 0)) (by (with_reducible repeat (first | refine blk_drewN ?_ _ | refine blk_drew ?_ | refine blk_alloc ?_ _)); exact BK142.out) hg (Kd.R_ne HO_6.out BK142.out (by decide))); have n2_ := Aside0.mk (blk_grown (g := gb150) (o := .cells #[.float .f64 ((rd_T28 l0 a1_1).f0), .float .f64 ((rd_T28 l0 a1_1).f1)] 28 (0, 0)) (by (with_reducible repeat (first | refine blk_drewN ?_ _ | refine blk_drew ?_ | refine blk_alloc ?_ _)); exact BK150.out) hg (Kd.R_away HO_6.out (fun _ hk => hk))); have n3_ := Aside0.mk ((by rw [hw]; exact below_set (below_set (HB.out) GB38.out) GB38.out : Below w.heap.size w w52)); clear HO_6; clear BK142; clear BK150; clear HB; have HO_6 := n0_; have BK142 := n1_; have BK150 := n2_; have HB := n3_; clear n0_ n1_ n2_ n3_; clear hg hw hp_))
        go_ret2
        exact Dq2.mk HD39.out ⟨_, by first | rfl | (simp [errW_none, errW_some] <;> rfl) | (simp [*, errW_none, errW_some] <;> rfl), by (with_reducible repeat (first | apply Kd.R_alloc | apply Kd.R_drewN | apply Kd.R_drew)); exact Kd.R_mono HO_6.out (fun _ hk => trivial), by repeat (first | (with_reducible first | exact HB.out | apply below_alloc | apply pw_below_drewN | apply below_drew1 | refine below_set ?_ GE142.out | refine below_set ?_ GE150.out) | exact HB.out)⟩
       ·rw [if_neg c32] at H
        have c32b0 : (a1_0 == 2) = false := beq_eq_false_iff_ne.mpr c32
        have c32b1 : (a1_0 != 2) = true := bne_iff_ne.mpr c32
        by_cases c53 : a1_0 = 3
        ·rw [if_pos c53] at H
         have c53b0 : (a1_0 == 3) = true := beq_iff_eq.mpr c53
         have c53b1 : (a1_0 != 3) = false := bne_eq_false_iff_eq.mpr c53
         clear c53
         have HD55 := Aside0.mk H
         clear H
         have hcz60_0 : wc.cell? ⟨gb142, 0, none⟩ = some (.int .i64 a1_0) := (blk_cell BK142.out 0).trans rfl
         have hcz60_1 : wc.cell? ⟨gb142, 1, none⟩ = some (.int .i64 a1_1) := (blk_cell BK142.out 1).trans rfl
         have hcz60_2 : wc.cell? ⟨gb142, 2, none⟩ = some (.int .i64 a1_2) := (blk_cell BK142.out 2).trans rfl
         have hcz60_3 : wc.cell? ⟨gb142, 3, none⟩ = some (.float .f64 a1_3) := (blk_cell BK142.out 3).trans rfl
         have hcz60_4 : wc.cell? ⟨gb142, 4, none⟩ = some (.float .f64 a1_4) := (blk_cell BK142.out 4).trans rfl
         have hfz60_0 := blk_frozen BK142.out 0
         have hfz60_1 := blk_frozen BK142.out 1
         have hfz60_2 := blk_frozen BK142.out 2
         have hfz60_3 := blk_frozen BK142.out 3
         have hfz60_4 := blk_frozen BK142.out 4
         have p149 : 0 ≤ (a1_1 : Int) := of_decide_eq_true (by first | (with_reducible assumption) | assumption)
         have q149 : a1_1 < (l0.length : Int) := of_decide_eq_true (by first | (with_reducible assumption) | assumption)
         obtain ⟨ad149, e149, hx149_0, hx149_1⟩ := at_T28 HR0.out a1_1 p149 q149
         cases e149
         replace hx149_0 := (HB.out.cell (World.block_lt_of_cell? w _ hx149_0)).trans hx149_0
         replace hx149_1 := (HB.out.cell (World.block_lt_of_cell? w _ hx149_1)).trans hx149_1
         replace p149 := eq_true p149
         replace q149 := eq_true q149
         try go_wp2_with (first | ((with_reducible refine gate_dst (N := 7) rfl ?_); (try (refine gate_guard (by rfl) ?_; dsimp only)); refine box_event ?hg (N := 7) ?hd (cs := #[.float .f64 0, .float .f64 0]) (t := 28) ?hr ?_; (case hd => rfl); (case hg => rfl); (case hr => first | (go_simp; done) | (go_simp; rfl)); intro gb150 hg w61 hbox hb; have n0_ := Aside0.mk (Kd.R_below (Kd.R_elderB (by (with_reducible repeat (first | apply Kd.R_alloc | apply Kd.R_drewN | apply Kd.R_drew)); exact HO_6.out) gb150 (Nat.le_of_eq hg.symm)) hb); have n1_ := Aside0.mk (blk_below (g := gb142) (o := .cells #[.int .i64 a1_0, .int .i64 a1_1, .int .i64 a1_2, .float .f64 a1_3, .float .f64 a1_4] 56 (0, 0)) (by (with_reducible repeat (first | refine blk_drewN ?_ _ | refine blk_drew ?_ | refine blk_alloc ?_ _)); exact BK142.out) hb); have n2_ := Aside0.mk (below_step (by repeat (first | (with_reducible first | exact HB.out | apply below_alloc | apply pw_below_drewN | apply below_drew1 | refine below_set ?_ GE142.out) | exact HB.out)) hb); have n3_ := Aside0.mk (hbox); have n4_ := Aside0.mk ((by rw [hg]; exact (below_size (by repeat (first | (with_reducible first | exact HB.out | apply below_alloc | apply pw_below_drewN | apply below_drew1 | refine below_set ?_ GE142.out) | exact HB.out))) : w.heap.size ≤ gb150)); have n5_ := Aside0.mk ((by rw [hg]; exact (below_size (by repeat (first | (with_reducible first | exact HB.out | apply below_alloc | apply pw_below_drewN | apply below_drew1 | refine below_set ?_ GE142.out) | exact HB.out))) : w.heap.size ≤ gb150)); have n6_ := Aside0.mk ((by rw [hg]; exact Nat.ne_of_lt (blk_lt (g := gb142) (o := .cells #[.int .i64 a1_0, .int .i64 a1_1, .int .i64 a1_2, .float .f64 a1_3, .float .f64 a1_4] 56 (0, 0)) (by (with_reducible repeat (first | refine blk_drewN ?_ _ | refine blk_drew ?_ | refine blk_alloc ?_ _)); exact BK142.out)) : gb142 ≠ gb150)); have n7_ := Aside0.mk ((by rw [hg]; exact Nat.ne_of_gt (blk_lt (g := gb142) (o := .cells #[.int .i64 a1_0, .int .i64 a1_1, .int .i64 a1_2, .float .f64 a1_3, .float .f64 a1_4] 56 (0, 0)) (by (with_reducible repeat (first | refine blk_drewN ?_ _ | refine blk_drew ?_ | refine blk_alloc ?_ _)); exact BK142.out)) : gb150 ≠ gb142)); clear HO_6; clear BK142; clear HB; have HO_6 := n0_; have BK142 := n1_; have HB := n2_; have BK150 := n3_; have GW150 := n4_; have GE150 := n5_; have NB142_150 := n6_; have NB150_142 := n7_; clear n0_ n1_ n2_ n3_ n4_ n5_ n6_ n7_; clear hb hbox hg; have hnb62 := NB150_142.out; have hnc62 := NB142_150.out; have hcz63_0 : w61.cell? ⟨gb150, 0, none⟩ = some (.float .f64 0) := (blk_cell BK150.out 0).trans rfl; have hcz63_1 : w61.cell? ⟨gb150, 1, none⟩ = some (.float .f64 0) := (blk_cell BK150.out 1).trans rfl; have hfz63_0 := blk_frozen BK150.out 0; have hfz63_1 := blk_frozen BK150.out 1; have hcz64_0 : w61.cell? ⟨gb142, 0, none⟩ = some (.int .i64 a1_0) := (blk_cell BK142.out 0).trans rfl; have hcz64_1 : w61.cell? ⟨gb142, 1, none⟩ = some (.int .i64 a1_1) := (blk_cell BK142.out 1).trans rfl; have hcz64_2 : w61.cell? ⟨gb142, 2, none⟩ = some (.int .i64 a1_2) := (blk_cell BK142.out 2).trans rfl; have hcz64_3 : w61.cell? ⟨gb142, 3, none⟩ = some (.float .f64 a1_3) := (blk_cell BK142.out 3).trans rfl; have hcz64_4 : w61.cell? ⟨gb142, 4, none⟩ = some (.float .f64 a1_4) := (blk_cell BK142.out 4).trans rfl; have hfz64_0 := blk_frozen BK142.out 0; have hfz64_1 := blk_frozen BK142.out 1; have hfz64_2 := blk_frozen BK142.out 2; have hfz64_3 := blk_frozen BK142.out 3; have hfz64_4 := blk_frozen BK142.out 4))
         have n0_ : Aside0 (Kd.R k28 28 ((w61.setCell ⟨gb150, 0, none⟩ (.float .f64 ((rd_T28 l0 a1_1).f0))).setCell ⟨gb150, 1, none⟩ (.float .f64 ((rd_T28 l0 a1_1).f1))) w.heap.size (fun k_ => k_ ≠ gb150) v144 t143) := ⟨by (with_reducible repeat (first | apply Kd.R_alloc | apply Kd.R_drewN | apply Kd.R_drew)); exact Kd.R_mono (Kd.R_far (Kd.R_far (Kd.R_mono HO_6.out (fun k_ hk => (⟨hk, hk.2⟩ : _ ∧ k_ ≠ gb150))) (fun _ hk => hk.2) (.float .f64 ((rd_T28 l0 a1_1).f0))) (fun _ hk => hk.2) (.float .f64 ((rd_T28 l0 a1_1).f1))) (fun _ hk => hk.1.2)⟩
         have n1_ : Aside0 (((w61.setCell ⟨gb150, 0, none⟩ (.float .f64 ((rd_T28 l0 a1_1).f0))).setCell ⟨gb150, 1, none⟩ (.float .f64 ((rd_T28 l0 a1_1).f1))).heap[gb142]? = some (.cells #[.int .i64 a1_0, .int .i64 a1_1, .int .i64 a1_2, .float .f64 a1_3, .float .f64 a1_4] 56 (0, 0))) := ⟨by (with_reducible repeat (first | refine blk_drewN ?_ _ | refine blk_drew ?_ | refine blk_alloc ?_ _)); refine blk_far ?_ NB142_150.out _; (with_reducible repeat (first | refine blk_drewN ?_ _ | refine blk_drew ?_ | refine blk_alloc ?_ _)); refine blk_far ?_ NB142_150.out _; (with_reducible repeat (first | refine blk_drewN ?_ _ | refine blk_drew ?_ | refine blk_alloc ?_ _)); exact BK142.out⟩
         have n2_ : Aside0 (((w61.setCell ⟨gb150, 0, none⟩ (.float .f64 ((rd_T28 l0 a1_1).f0))).setCell ⟨gb150, 1, none⟩ (.float .f64 ((rd_T28 l0 a1_1).f1))).heap[gb150]? = some (.cells #[.float .f64 ((rd_T28 l0 a1_1).f0), .float .f64 ((rd_T28 l0 a1_1).f1)] 28 (0, 0))) := ⟨by (with_reducible repeat (first | refine blk_drewN ?_ _ | refine blk_drew ?_ | refine blk_alloc ?_ _)); refine blk_put (cs := #[.float .f64 ((rd_T28 l0 a1_1).f0), .float .f64 0]) ?_ 1 _ rfl; (with_reducible repeat (first | refine blk_drewN ?_ _ | refine blk_drew ?_ | refine blk_alloc ?_ _)); refine blk_put (cs := #[.float .f64 0, .float .f64 0]) ?_ 0 _ rfl; (with_reducible repeat (first | refine blk_drewN ?_ _ | refine blk_drew ?_ | refine blk_alloc ?_ _)); exact BK150.out⟩
         have n3_ : Aside0 (Below w.heap.size w ((w61.setCell ⟨gb150, 0, none⟩ (.float .f64 ((rd_T28 l0 a1_1).f0))).setCell ⟨gb150, 1, none⟩ (.float .f64 ((rd_T28 l0 a1_1).f1)))) := ⟨by repeat (first | (with_reducible first | exact HB.out | apply below_alloc | apply pw_below_drewN | apply below_drew1 | refine below_set ?_ GE142.out | refine below_set ?_ GE150.out) | exact HB.out)⟩
         (try clear HO_6)
         (try clear BK142)
         (try clear BK150)
         (try clear HB)
         generalize ((w61.setCell ⟨gb150, 0, none⟩ (.float .f64 ((rd_T28 l0 a1_1).f0))).setCell ⟨gb150, 1, none⟩ (.float .f64 ((rd_T28 l0 a1_1).f1))) = w65 at n0_ n1_ n2_ n3_ ⊢
         have HO_6 := n0_
         have BK142 := n1_
         have BK150 := n2_
         have HB := n3_
         clear n0_ n1_ n2_ n3_
         have n0_ := Aside0.mk (Kd.R_drew HO_6.out)
         have n1_ := Aside0.mk (blk_drew BK142.out)
         have n2_ := Aside0.mk (blk_drew BK150.out)
         have n3_ := Aside0.mk (below_drew1 HB.out)
         clear HO_6
         clear BK142
         clear BK150
         clear HB
         have HO_6 := n0_
         have BK142 := n1_
         have BK150 := n2_
         have HB := n3_
         clear n0_ n1_ n2_ n3_
         refine start_ (n := 9) (S := fun w' => w'.cell? ⟨gb142, 0, none⟩ = some (.int .i64 a1_0) ∧ w'.cell? ⟨gb142, 1, none⟩ = some (.int .i64 a1_1) ∧ w'.cell? ⟨gb142, 2, none⟩ = some (.int .i64 a1_2) ∧ w'.cell? ⟨gb142, 3, none⟩ = some (.float .f64 a1_3) ∧ w'.cell? ⟨gb142, 4, none⟩ = some (.float .f64 a1_4) ∧ w'.cell? ⟨gb150, 0, none⟩ = some (.float .f64 ((rd_T28 l0 a1_1).f0)) ∧ w'.cell? ⟨gb150, 1, none⟩ = some (.float .f64 ((rd_T28 l0 a1_1).f1))) (ds := [8]) #[false, false, false, false, false, false, false, false, false] (by kernel_rfl) rfl rfl ⟨(blk_cell BK142.out 0).trans rfl, (blk_cell BK142.out 1).trans rfl, (blk_cell BK142.out 2).trans rfl, (blk_cell BK142.out 3).trans rfl, (blk_cell BK142.out 4).trans rfl, (blk_cell BK150.out 0).trans rfl, (blk_cell BK150.out 1).trans rfl⟩ (fun hHeld => ?_); refine with_tabW impl_Turned.tab11 impl_Turned.bits11 (fun HT_ HW_ => ?_)
         generalize w65.drew = w66 at HO_6 BK142 BK150 HB hHeld ⊢
         refine pure_ (i := 0) (N := some 81) (v := ?_) (a' := ?_) #[true, false, false, false, false, false, false, false, false] rfl rfl (any_of HT_.out (by kernel_rfl)) (fun _ _ _ h => h) (Or.inl ⟨by rfl, ?_⟩) ?_ ?_
         rotate_left
         ·intro w'
          go_simp
          with_reducible rfl
         rotate_left
         ·simp only [Act.put, List.setIfInBounds_toArray, List.set_cons_zero, List.set_cons_succ, i64_w, i32_w]
          rfl
         refine pure_ (i := 1) (N := some 82) (v := ?_) (a' := ?_) #[true, true, false, false, false, false, false, false, false] rfl rfl (any_of HT_.out (by kernel_rfl)) (fun _ _ _ h => h) (Or.inl ⟨by rfl, ?_⟩) ?_ ?_
         rotate_left
         ·intro w'
          go_simp
          with_reducible rfl
         rotate_left
         ·simp only [Act.put, List.setIfInBounds_toArray, List.set_cons_zero, List.set_cons_succ, i64_w, i32_w]
          rfl
         refine pure_ (i := 4) (N := some 85) (v := ?_) (a' := ?_) #[true, true, false, false, true, false, false, false, false] rfl rfl (any_of HT_.out (by kernel_rfl)) (fun _ _ _ h => h) (Or.inl ⟨by rfl, ?_⟩) ?_ ?_
         rotate_left
         ·intro w'
          go_simp
          with_reducible rfl
         rotate_left
         ·simp only [Act.put, List.setIfInBounds_toArray, List.set_cons_zero, List.set_cons_succ, i64_w, i32_w]
          rfl
         refine take_ (i := 2) (N := some 83) (v := ?_) (a' := ?_) #[true, true, true, false, true, false, false, false, false] rfl rfl (take_ofW HT_.out HW_.out (by kernel_rfl)) (fun _ _ _ h => h) (Or.inl ⟨by rfl, ?_⟩) hHeld ?_ ?_
         rotate_left
         ·rintro w' ⟨s0, s1, s2, s3, s4, s5, s6⟩
          go_simp
          with_reducible rfl
         rotate_left
         ·simp only [Act.put, List.setIfInBounds_toArray, List.set_cons_zero, List.set_cons_succ, i64_w, i32_w]
          rfl
         refine take_ (i := 3) (N := some 84) (v := ?_) (a' := ?_) #[true, true, true, true, true, false, false, false, false] rfl rfl (take_ofW HT_.out HW_.out (by kernel_rfl)) (fun _ _ _ h => h) (Or.inl ⟨by rfl, ?_⟩) hHeld ?_ ?_
         rotate_left
         ·rintro w' ⟨s0, s1, s2, s3, s4, s5, s6⟩
          go_simp
          with_reducible rfl
         rotate_left
         ·simp only [Act.put, List.setIfInBounds_toArray, List.set_cons_zero, List.set_cons_succ, i64_w, i32_w]
          rfl
         refine take_ (i := 5) (N := some 86) (v := ?_) (a' := ?_) #[true, true, true, true, true, true, false, false, false] rfl rfl (take_ofW HT_.out HW_.out (by kernel_rfl)) (fun _ _ _ h => h) (Or.inl ⟨by rfl, ?_⟩) hHeld ?_ ?_
         rotate_left
         ·rintro w' ⟨s0, s1, s2, s3, s4, s5, s6⟩
          go_simp
          with_reducible rfl
         rotate_left
         ·simp only [Act.put, List.setIfInBounds_toArray, List.set_cons_zero, List.set_cons_succ, i64_w, i32_w]
          rfl
         refine one_ (i := 6) (N := some 87) #[true, true, true, true, true, true, true, false, false] rfl rfl (one_of HT_.out (by kernel_rfl)) (by decide) (fun K hK => ?_)
         refine goes_ Try.func23 (by kernel_rfl) rfl #[.agg #[.float .f64 ((rd_T28 l0 a1_1).f0), .float .f64 ((rd_T28 l0 a1_1).f1)], .agg #[.float .f64 a1_3, .float .f64 a1_4]] (by rfl) rfl rfl (by (try simp only [List.map_toArray, List.map_cons, List.map_nil]); first | done | rfl | (simp only [List.length_drop, List.length_take]; rfl)) ?_
         with_reducible refine (impl_PhTimes.calls ((rd_T28 l0 a1_1).f0) ((rd_T28 l0 a1_1).f1) a1_3 a1_4 _ _ HD55.out).mono ?_
         rintro e w67 ⟨t155, t156, hq_, rfl, hb⟩
         refine ⟨_, rfl, ?_⟩
         have HD54 := Aside0.mk hq_
         clear hq_ HD55
         have n0_ := Aside0.mk (Kd.R_below (by (with_reducible repeat (first | apply Kd.R_alloc | apply Kd.R_drewN | apply Kd.R_drew)); exact HO_6.out) hb)
         have n1_ := Aside0.mk (blk_below (g := gb142) (o := .cells #[.int .i64 a1_0, .int .i64 a1_1, .int .i64 a1_2, .float .f64 a1_3, .float .f64 a1_4] 56 (0, 0)) (by (with_reducible repeat (first | refine blk_drewN ?_ _ | refine blk_drew ?_ | refine blk_alloc ?_ _)); exact BK142.out) hb)
         have n2_ := Aside0.mk (blk_below (g := gb150) (o := .cells #[.float .f64 ((rd_T28 l0 a1_1).f0), .float .f64 ((rd_T28 l0 a1_1).f1)] 28 (0, 0)) (by (with_reducible repeat (first | refine blk_drewN ?_ _ | refine blk_drew ?_ | refine blk_alloc ?_ _)); exact BK150.out) hb)
         have n3_ := Aside0.mk (below_step (by repeat (first | (with_reducible first | exact HB.out | apply below_alloc | apply pw_below_drewN | apply below_drew1 | refine below_set ?_ GE142.out | refine below_set ?_ GE150.out) | exact HB.out)) hb)
         clear HO_6
         clear BK142
         clear BK150
         clear HB
         have HO_6 := n0_
         have BK142 := n1_
         have BK150 := n2_
         have HB := n3_
         clear n0_ n1_ n2_ n3_
         (try clear hb)
         (try clear hb2)
         (try clear hk)
         (try clear hi)
         have c56 : a1_1 < (t143.length : Int) := (by by_cases hc_ : a1_1 < (t143.length : Int); exact hc_; (have H_ := HD54.out; rw [if_neg hc_] at H_; exact absurd H_ (by simp)))
         have HD57 := Aside0.mk (show (Q_ ((t143.set (a1_1 : Int).toNat (⟨t155, t156⟩ : S28)), true)) from (by have H_ := HD54.out; rw [if_pos c56] at H_; exact H_))
         clear HD54
         have c56b0 : decide (a1_1 < (t143.length : Int)) = true := decide_eq_true c56
         clear c56
         have p58 : 0 ≤ (a1_1 : Int) := of_decide_eq_true (by first | (with_reducible assumption) | assumption)
         have q58 : (a1_1 : Int) < ((t143.length : Int) : Int) := of_decide_eq_true (by first | (with_reducible assumption) | assumption)
         obtain ⟨go58, co58, eo58, gb58, gl58, cl58, HG58⟩ := Kd.R_form HO_6.out (by omega)
         (first | cases eo58 | (injection eo58 with ea_ en_ ec_; (first | subst ea_ | (injection ea_ with ea_; subst ea_)); subst ec_; clear en_))
         have GB58 := Aside0.mk gb58
         have GG58 := Aside0.mk HG58
         clear gb58 gl58 HG58
         obtain ⟨ce58, hcl58, hM58, hcc58, hfr58⟩ := Kd.R_elem HO_6.out z28 (a1_1 : Int) p58 q58
         obtain rfl := k28_openM hM58
         have hx58_0 : World.cell? _ ⟨go58, (a1_1 : Int).toNat * 2, none⟩ = some (.float .f64 ((rd_T28 t143 a1_1).f0)) := hcc58 0 _ rfl
         have hx58_1 : World.cell? _ ⟨go58, (a1_1 : Int).toNat * 2 + 1, none⟩ = some (.float .f64 ((rd_T28 t143 a1_1).f1)) := hcc58 1 _ rfl
         have hf58_0 : World.frozen? _ ⟨go58, (a1_1 : Int).toNat * 2, none⟩ = false := hfr58 0
         have hf58_1 : World.frozen? _ ⟨go58, (a1_1 : Int).toNat * 2 + 1, none⟩ = false := hfr58 1
         clear hcl58 hcc58 hfr58 hM58
         replace p58 := eq_true p58
         replace q58 := eq_true q58
         obtain ⟨y157, hy157⟩ : ∃ y_ : List (S28), y_ = (t143.set (a1_1 : Int).toNat (⟨t155, t156⟩ : S28)) := ⟨_, rfl⟩
         have HD59 := Aside0.mk (show (Q_ (y157, true)) from (by have H := HD57.out; first | (rw [hy157]; with_reducible exact H) | (obtain ⟨_, e_, H2_⟩ := H; subst e_; rw [hy157]; exact H2_) | with_reducible exact H | (rw [hy157]; exact H) | exact H))
         clear HD57
         have Ny157 := Aside0.mk hy157
         clear hy157
         obtain ⟨ce68, hcl68, hM68, hcc68, hfr68⟩ := Kd.R_elem HO_6.out z28 (a1_1 : Int) (of_decide_eq_true (by first | (with_reducible assumption) | assumption)) (by have h_ : (a1_1 : Int) < ((t143.length : Int) : Int) := of_decide_eq_true (by first | (with_reducible assumption) | assumption); first | exact h_ | (have e_ := (Kd.R_reads' HO_6.out).1; omega) | simpa using h_)
         obtain rfl := k28_openM hM68
         have HP68 := (Kd.R_seg HO_6.out (a1_1 : Int) (of_decide_eq_true (by first | (with_reducible assumption) | assumption)) (by have h_ : (a1_1 : Int) < ((t143.length : Int) : Int) := of_decide_eq_true (by first | (with_reducible assumption) | assumption); first | exact h_ | (have e_ := (Kd.R_reads' HO_6.out).1; omega) | simpa using h_) (seg := [.float .f64 t155, .float .f64 t156]) (j := 0) hcl68 hcc68 (show 2 ≤ 2 from by decide) (x' := (⟨t155, t156⟩ : S28)) (k28_mkM _ _ _ (⟨t155, t156⟩ : S28) ) (fun _ hk => hk)).1
         rw [← Ny157.out] at HP68
         have HQ68 := Aside0.mk HP68
         clear hcl68 hcc68 hfr68 hM68 HP68
         refine hK.out _ _ ⟨(blk_cell BK142.out 0).trans rfl, (blk_cell BK142.out 1).trans rfl, (blk_cell BK142.out 2).trans rfl, (blk_cell BK142.out 3).trans rfl, (blk_cell BK142.out 4).trans rfl, (blk_cell BK150.out 0).trans rfl, (blk_cell BK150.out 1).trans rfl⟩ (fun hHeld => ?_)
         clear hK K
         refine norm_ (a' := ?_) ?_ ?_
         rotate_left
         ·show Act.put _ (some 87) _ = _
          simp only [Act.put, List.setIfInBounds_toArray, List.set_cons_zero, List.set_cons_succ, i64_w, i32_w]
          rfl
         refine pure_ (i := 7) (N := some 88) (v := ?_) (a' := ?_) #[true, true, true, true, true, true, true, true, false] rfl rfl (any_of HT_.out (by kernel_rfl)) (fun _ _ _ h => h) (Or.inl ⟨by rfl, ?_⟩) ?_ ?_
         rotate_left
         ·intro w'
          go_simp
          with_reducible rfl
         rotate_left
         ·simp only [Act.put, List.setIfInBounds_toArray, List.set_cons_zero, List.set_cons_succ, i64_w, i32_w]
          rfl
         refine last_ (i := 8) (N := none) #[true, true, true, true, true, true, true, true, true] rfl rfl (one_of HT_.out (by kernel_rfl)) (by decide) (fun K hK => ?_)
         refine skip_ (w1 := ?_) (by rfl) rfl ?_ ?_
         rotate_left
         ·go_simp
          rfl
         refine hK.out _ _ ?_
         clear hK K
         refine done_ (done_of HT_.out (by kernel_rfl)) ?_
         try go_wp2
         go_ret2
         exact Dq2.mk HD59.out ⟨_, by first | rfl | (simp [errW_none, errW_some] <;> rfl) | (simp [*, errW_none, errW_some] <;> rfl), by (with_reducible repeat (first | apply Kd.R_alloc | apply Kd.R_drewN | apply Kd.R_drew)); exact Kd.R_mono HQ68.out (fun _ hk => trivial), by repeat (first | (with_reducible first | exact HB.out | apply below_alloc | apply pw_below_drewN | apply below_drew1 | refine below_set ?_ GB58.out | refine below_set ?_ GB58.out | refine below_set ?_ GE142.out | refine below_set ?_ GE150.out) | exact HB.out)⟩
        ·rw [if_neg c53] at H
         have c53b0 : (a1_0 == 3) = false := beq_eq_false_iff_ne.mpr c53
         have c53b1 : (a1_0 != 3) = true := bne_iff_ne.mpr c53
         by_cases c69 : a1_0 = 4
         ·rw [if_pos c69] at H
          have c69b0 : (a1_0 == 4) = true := beq_iff_eq.mpr c69
          have c69b1 : (a1_0 != 4) = false := bne_eq_false_iff_eq.mpr c69
          clear c69
          have HD71 := Aside0.mk H
          clear H
          have hcz72_0 : wc.cell? ⟨gb142, 0, none⟩ = some (.int .i64 a1_0) := (blk_cell BK142.out 0).trans rfl
          have hcz72_1 : wc.cell? ⟨gb142, 1, none⟩ = some (.int .i64 a1_1) := (blk_cell BK142.out 1).trans rfl
          have hcz72_2 : wc.cell? ⟨gb142, 2, none⟩ = some (.int .i64 a1_2) := (blk_cell BK142.out 2).trans rfl
          have hcz72_3 : wc.cell? ⟨gb142, 3, none⟩ = some (.float .f64 a1_3) := (blk_cell BK142.out 3).trans rfl
          have hcz72_4 : wc.cell? ⟨gb142, 4, none⟩ = some (.float .f64 a1_4) := (blk_cell BK142.out 4).trans rfl
          have hfz72_0 := blk_frozen BK142.out 0
          have hfz72_1 := blk_frozen BK142.out 1
          have hfz72_2 := blk_frozen BK142.out 2
          have hfz72_3 := blk_frozen BK142.out 3
          have hfz72_4 := blk_frozen BK142.out 4
          have p149 : 0 ≤ (a1_1 : Int) := of_decide_eq_true (by first | (with_reducible assumption) | assumption)
          have q149 : a1_1 < (l0.length : Int) := of_decide_eq_true (by first | (with_reducible assumption) | assumption)
          obtain ⟨ad149, e149, hx149_0, hx149_1⟩ := at_T28 HR0.out a1_1 p149 q149
          cases e149
          replace hx149_0 := (HB.out.cell (World.block_lt_of_cell? w _ hx149_0)).trans hx149_0
          replace hx149_1 := (HB.out.cell (World.block_lt_of_cell? w _ hx149_1)).trans hx149_1
          replace p149 := eq_true p149
          replace q149 := eq_true q149
          go_upto_if 99 with (first | ((with_reducible refine gate_dst (N := 7) rfl ?_); (try (refine gate_guard (by rfl) ?_; dsimp only)); refine box_event ?hg (N := 7) ?hd (cs := #[.float .f64 0, .float .f64 0]) (t := 28) ?hr ?_; (case hd => rfl); (case hg => rfl); (case hr => first | (go_simp; done) | (go_simp; rfl)); intro gb150 hg w73 hbox hb; have n0_ := Aside0.mk (Kd.R_below (Kd.R_elderB (by (with_reducible repeat (first | apply Kd.R_alloc | apply Kd.R_drewN | apply Kd.R_drew)); exact HO_6.out) gb150 (Nat.le_of_eq hg.symm)) hb); have n1_ := Aside0.mk (blk_below (g := gb142) (o := .cells #[.int .i64 a1_0, .int .i64 a1_1, .int .i64 a1_2, .float .f64 a1_3, .float .f64 a1_4] 56 (0, 0)) (by (with_reducible repeat (first | refine blk_drewN ?_ _ | refine blk_drew ?_ | refine blk_alloc ?_ _)); exact BK142.out) hb); have n2_ := Aside0.mk (below_step (by repeat (first | (with_reducible first | exact HB.out | apply below_alloc | apply pw_below_drewN | apply below_drew1 | refine below_set ?_ GE142.out) | exact HB.out)) hb); have n3_ := Aside0.mk (hbox); have n4_ := Aside0.mk ((by rw [hg]; exact (below_size (by repeat (first | (with_reducible first | exact HB.out | apply below_alloc | apply pw_below_drewN | apply below_drew1 | refine below_set ?_ GE142.out) | exact HB.out))) : w.heap.size ≤ gb150)); have n5_ := Aside0.mk ((by rw [hg]; exact (below_size (by repeat (first | (with_reducible first | exact HB.out | apply below_alloc | apply pw_below_drewN | apply below_drew1 | refine below_set ?_ GE142.out) | exact HB.out))) : w.heap.size ≤ gb150)); have n6_ := Aside0.mk ((by rw [hg]; exact Nat.ne_of_lt (blk_lt (g := gb142) (o := .cells #[.int .i64 a1_0, .int .i64 a1_1, .int .i64 a1_2, .float .f64 a1_3, .float .f64 a1_4] 56 (0, 0)) (by (with_reducible repeat (first | refine blk_drewN ?_ _ | refine blk_drew ?_ | refine blk_alloc ?_ _)); exact BK142.out)) : gb142 ≠ gb150)); have n7_ := Aside0.mk ((by rw [hg]; exact Nat.ne_of_gt (blk_lt (g := gb142) (o := .cells #[.int .i64 a1_0, .int .i64 a1_1, .int .i64 a1_2, .float .f64 a1_3, .float .f64 a1_4] 56 (0, 0)) (by (with_reducible repeat (first | refine blk_drewN ?_ _ | refine blk_drew ?_ | refine blk_alloc ?_ _)); exact BK142.out)) : gb150 ≠ gb142)); clear HO_6; clear BK142; clear HB; have HO_6 := n0_; have BK142 := n1_; have HB := n2_; have BK150 := n3_; have GW150 := n4_; have GE150 := n5_; have NB142_150 := n6_; have NB150_142 := n7_; clear n0_ n1_ n2_ n3_ n4_ n5_ n6_ n7_; clear hb hbox hg; have hnb74 := NB150_142.out; have hnc74 := NB142_150.out; have hcz75_0 : w73.cell? ⟨gb150, 0, none⟩ = some (.float .f64 0) := (blk_cell BK150.out 0).trans rfl; have hcz75_1 : w73.cell? ⟨gb150, 1, none⟩ = some (.float .f64 0) := (blk_cell BK150.out 1).trans rfl; have hfz75_0 := blk_frozen BK150.out 0; have hfz75_1 := blk_frozen BK150.out 1; have hcz76_0 : w73.cell? ⟨gb142, 0, none⟩ = some (.int .i64 a1_0) := (blk_cell BK142.out 0).trans rfl; have hcz76_1 : w73.cell? ⟨gb142, 1, none⟩ = some (.int .i64 a1_1) := (blk_cell BK142.out 1).trans rfl; have hcz76_2 : w73.cell? ⟨gb142, 2, none⟩ = some (.int .i64 a1_2) := (blk_cell BK142.out 2).trans rfl; have hcz76_3 : w73.cell? ⟨gb142, 3, none⟩ = some (.float .f64 a1_3) := (blk_cell BK142.out 3).trans rfl; have hcz76_4 : w73.cell? ⟨gb142, 4, none⟩ = some (.float .f64 a1_4) := (blk_cell BK142.out 4).trans rfl; have hfz76_0 := blk_frozen BK142.out 0; have hfz76_1 := blk_frozen BK142.out 1; have hfz76_2 := blk_frozen BK142.out 2; have hfz76_3 := blk_frozen BK142.out 3; have hfz76_4 := blk_frozen BK142.out 4) | ((with_reducible refine gate_callee (f := 32) rfl ?_); refine goesL_ (some 95) rfl rfl Try.func32 (by kernel_rfl) rfl #[.agg #[.float .f64 ((rd_T28 l0 a1_1).f0), .float .f64 ((rd_T28 l0 a1_1).f1)], .agg #[.float .f64 a1_3, .float .f64 a1_4]] rfl (by (try simp only [List.map_toArray, List.map_cons, List.map_nil]); first | done | rfl | (simp only [List.length_drop, List.length_take]; rfl)) ?_; (with_reducible refine (impl_PhOver.calls kj3 ((rd_T28 l0 a1_1).f0) ((rd_T28 l0 a1_1).f1) a1_3 a1_4 _ _ HD71.out).mono ?_); rintro e w77 ⟨t158, t159, t160, hq_, rfl, hb⟩; refine ⟨_, rfl, ?_⟩; have HD70 := Aside0.mk hq_; clear hq_ HD71; have n0_ := Aside0.mk (Kd.R_below (by (with_reducible repeat (first | apply Kd.R_alloc | apply Kd.R_drewN | apply Kd.R_drew)); exact (Kd.R_mono (Kd.R_far (Kd.R_far (Kd.R_mono HO_6.out (fun k_ hk => (⟨hk, hk.2⟩ : _ ∧ k_ ≠ gb150))) (fun _ hk => hk.2) (.float .f64 ((rd_T28 l0 a1_1).f0))) (fun _ hk => hk.2) (.float .f64 ((rd_T28 l0 a1_1).f1))) (fun _ h_ => h_.1))) hb); have n1_ := Aside0.mk (blk_below (g := gb142) (o := .cells #[.int .i64 a1_0, .int .i64 a1_1, .int .i64 a1_2, .float .f64 a1_3, .float .f64 a1_4] 56 (0, 0)) (by (with_reducible repeat (first | refine blk_drewN ?_ _ | refine blk_drew ?_ | refine blk_alloc ?_ _)); refine blk_far ?_ NB142_150.out _; (with_reducible repeat (first | refine blk_drewN ?_ _ | refine blk_drew ?_ | refine blk_alloc ?_ _)); refine blk_far ?_ NB142_150.out _; (with_reducible repeat (first | refine blk_drewN ?_ _ | refine blk_drew ?_ | refine blk_alloc ?_ _)); exact BK142.out) hb); have n2_ := Aside0.mk (blk_below (g := gb150) (o := .cells #[.float .f64 ((rd_T28 l0 a1_1).f0), .float .f64 ((rd_T28 l0 a1_1).f1)] 28 (0, 0)) (by (with_reducible repeat (first | refine blk_drewN ?_ _ | refine blk_drew ?_ | refine blk_alloc ?_ _)); refine blk_put (cs := #[.float .f64 ((rd_T28 l0 a1_1).f0), .float .f64 0]) ?_ 1 _ rfl; (with_reducible repeat (first | refine blk_drewN ?_ _ | refine blk_drew ?_ | refine blk_alloc ?_ _)); refine blk_put (cs := #[.float .f64 0, .float .f64 0]) ?_ 0 _ rfl; (with_reducible repeat (first | refine blk_drewN ?_ _ | refine blk_drew ?_ | refine blk_alloc ?_ _)); exact BK150.out) hb); have n3_ := Aside0.mk (below_step (by repeat (first | (with_reducible first | exact HB.out | apply below_alloc | apply pw_below_drewN | apply below_drew1 | refine below_set ?_ GE142.out | refine below_set ?_ GE150.out) | exact HB.out)) hb); clear HO_6; clear BK142; clear BK150; clear HB; have HO_6 := n0_; have BK142 := n1_; have BK150 := n2_; have HB := n3_; clear n0_ n1_ n2_ n3_; (try clear hb); (try clear hb2); (try clear hk); (try clear hi)) | ((with_reducible refine gate_dst (N := 8) rfl ?_); (try (refine gate_guard (by rfl) ?_; dsimp only)); refine box_event ?hg (N := 8) ?hd (cs := #[.float .f64 0, .float .f64 0]) (t := 28) ?hr ?_; (case hd => rfl); (case hg => rfl); (case hr => first | (go_simp; done) | (go_simp; rfl)); intro gb161 hg w78 hbox hb; have n0_ := Aside0.mk (Kd.R_below (Kd.R_elderB (by (with_reducible repeat (first | apply Kd.R_alloc | apply Kd.R_drewN | apply Kd.R_drew)); exact HO_6.out) gb161 (Nat.le_of_eq hg.symm)) hb); have n1_ := Aside0.mk (blk_below (g := gb142) (o := .cells #[.int .i64 a1_0, .int .i64 a1_1, .int .i64 a1_2, .float .f64 a1_3, .float .f64 a1_4] 56 (0, 0)) (by (with_reducible repeat (first | refine blk_drewN ?_ _ | refine blk_drew ?_ | refine blk_alloc ?_ _)); exact BK142.out) hb); have n2_ := Aside0.mk (blk_below (g := gb150) (o := .cells #[.float .f64 ((rd_T28 l0 a1_1).f0), .float .f64 ((rd_T28 l0 a1_1).f1)] 28 (0, 0)) (by (with_reducible repeat (first | refine blk_drewN ?_ _ | refine blk_drew ?_ | refine blk_alloc ?_ _)); exact BK150.out) hb); have n3_ := Aside0.mk (below_step (by repeat (first | (with_reducible first | exact HB.out | apply below_alloc | apply pw_below_drewN | apply below_drew1 | refine below_set ?_ GE142.out | refine below_set ?_ GE150.out) | exact HB.out)) hb); have n4_ := Aside0.mk (hbox); have n5_ := Aside0.mk ((by rw [hg]; exact (below_size (by repeat (first | (with_reducible first | exact HB.out | apply below_alloc | apply pw_below_drewN | apply below_drew1 | refine below_set ?_ GE142.out | refine below_set ?_ GE150.out) | exact HB.out))) : w.heap.size ≤ gb161)); have n6_ := Aside0.mk ((by rw [hg]; exact (below_size (by repeat (first | (with_reducible first | exact HB.out | apply below_alloc | apply pw_below_drewN | apply below_drew1 | refine below_set ?_ GE142.out | refine below_set ?_ GE150.out) | exact HB.out))) : w.heap.size ≤ gb161)); have n7_ := Aside0.mk ((by rw [hg]; exact Nat.ne_of_lt (blk_lt (g := gb142) (o := .cells #[.int .i64 a1_0, .int .i64 a1_1, .int .i64 a1_2, .float .f64 a1_3, .float .f64 a1_4] 56 (0, 0)) (by (with_reducible repeat (first | refine blk_drewN ?_ _ | refine blk_drew ?_ | refine blk_alloc ?_ _)); exact BK142.out)) : gb142 ≠ gb161)); have n8_ := Aside0.mk ((by rw [hg]; exact Nat.ne_of_gt (blk_lt (g := gb142) (o := .cells #[.int .i64 a1_0, .int .i64 a1_1, .int .i64 a1_2, .float .f64 a1_3, .float .f64 a1_4] 56 (0, 0)) (by (with_reducible repeat (first | refine blk_drewN ?_ _ | refine blk_drew ?_ | refine blk_alloc ?_ _)); exact BK142.out)) : gb161 ≠ gb142)); have n9_ := Aside0.mk ((by rw [hg]; exact Nat.ne_of_lt (blk_lt (g := gb150) (o := .cells #[.float .f64 ((rd_T28 l0 a1_1).f0), .float .f64 ((rd_T28 l0 a1_1).f1)] 28 (0, 0)) (by (with_reducible repeat (first | refine blk_drewN ?_ _ | refine blk_drew ?_ | refine blk_alloc ?_ _)); exact BK150.out)) : gb150 ≠ gb161)); have n10_ := Aside0.mk ((by rw [hg]; exact Nat.ne_of_gt (blk_lt (g := gb150) (o := .cells #[.float .f64 ((rd_T28 l0 a1_1).f0), .float .f64 ((rd_T28 l0 a1_1).f1)] 28 (0, 0)) (by (with_reducible repeat (first | refine blk_drewN ?_ _ | refine blk_drew ?_ | refine blk_alloc ?_ _)); exact BK150.out)) : gb161 ≠ gb150)); clear HO_6; clear BK142; clear BK150; clear HB; have HO_6 := n0_; have BK142 := n1_; have BK150 := n2_; have HB := n3_; have BK161 := n4_; have GW161 := n5_; have GE161 := n6_; have NB142_161 := n7_; have NB161_142 := n8_; have NB150_161 := n9_; have NB161_150 := n10_; clear n0_ n1_ n2_ n3_ n4_ n5_ n6_ n7_ n8_ n9_ n10_; clear hb hbox hg; have hnb79 := NB161_142.out; have hnc79 := NB142_161.out; have hnb80 := NB161_150.out; have hnc80 := NB150_161.out; have hcz81_0 : w78.cell? ⟨gb161, 0, none⟩ = some (.float .f64 0) := (blk_cell BK161.out 0).trans rfl; have hcz81_1 : w78.cell? ⟨gb161, 1, none⟩ = some (.float .f64 0) := (blk_cell BK161.out 1).trans rfl; have hfz81_0 := blk_frozen BK161.out 0; have hfz81_1 := blk_frozen BK161.out 1))
          (try simp only [Act.put, List.setIfInBounds_toArray, List.set_cons_zero, List.set_cons_succ])
          have H := HD70.out
          clear HD70
          by_cases c82 : t160 = true
          ·subst c82
           have H1 : (if a1_1 < (t143.length : Int) then (Q_ ((t143.set (a1_1 : Int).toNat (⟨t158, t159⟩ : S28)), true)) else (False)) := by rw [if_pos rfl] at H; exact H
           clear H
           have H := H1
           clear H1
           by_cases c83 : a1_1 < (t143.length : Int)
           ·rw [if_pos c83] at H
            have c83b0 : decide (a1_1 < (t143.length : Int)) = true := decide_eq_true c83
            clear c83
            (first | rw [c83b0] | (simp only [i64_w, i32_w]; rw [c83b0]) | skip)
            obtain ⟨y162, hy162⟩ : ∃ y_ : List (S28), y_ = (t143.set (a1_1 : Int).toNat (⟨t158, t159⟩ : S28)) := ⟨_, rfl⟩
            replace H : (Q_ (y162, true)) := by first | (rw [hy162]; with_reducible exact H) | (obtain ⟨_, e_, H2_⟩ := H; subst e_; rw [hy162]; exact H2_) | with_reducible exact H | (rw [hy162]; exact H) | exact H
            have Ny162 := Aside0.mk hy162
            clear hy162
            have HQ_ := Aside0.mk H
            clear H
            have n0_ : Aside0 (Kd.R k28 28 ((w78.setCell ⟨gb161, 0, none⟩ (.float .f64 t158)).setCell ⟨gb161, 1, none⟩ (.float .f64 t159)) w.heap.size (fun k_ => k_ ≠ gb150 ∧ k_ ≠ gb161) v144 t143) := ⟨by (with_reducible repeat (first | apply Kd.R_alloc | apply Kd.R_drewN | apply Kd.R_drew)); exact Kd.R_mono (Kd.R_far (Kd.R_far (Kd.R_mono HO_6.out (fun k_ hk => (⟨hk, hk.2⟩ : _ ∧ k_ ≠ gb161))) (fun _ hk => hk.2) (.float .f64 t158)) (fun _ hk => hk.2) (.float .f64 t159)) (fun _ hk => ⟨hk.1.1.2, hk.1.2⟩)⟩
            have n1_ : Aside0 (((w78.setCell ⟨gb161, 0, none⟩ (.float .f64 t158)).setCell ⟨gb161, 1, none⟩ (.float .f64 t159)).heap[gb142]? = some (.cells #[.int .i64 a1_0, .int .i64 a1_1, .int .i64 a1_2, .float .f64 a1_3, .float .f64 a1_4] 56 (0, 0))) := ⟨by (with_reducible repeat (first | refine blk_drewN ?_ _ | refine blk_drew ?_ | refine blk_alloc ?_ _)); refine blk_far ?_ NB142_161.out _; (with_reducible repeat (first | refine blk_drewN ?_ _ | refine blk_drew ?_ | refine blk_alloc ?_ _)); refine blk_far ?_ NB142_161.out _; (with_reducible repeat (first | refine blk_drewN ?_ _ | refine blk_drew ?_ | refine blk_alloc ?_ _)); exact BK142.out⟩
            have n2_ : Aside0 (((w78.setCell ⟨gb161, 0, none⟩ (.float .f64 t158)).setCell ⟨gb161, 1, none⟩ (.float .f64 t159)).heap[gb150]? = some (.cells #[.float .f64 ((rd_T28 l0 a1_1).f0), .float .f64 ((rd_T28 l0 a1_1).f1)] 28 (0, 0))) := ⟨by (with_reducible repeat (first | refine blk_drewN ?_ _ | refine blk_drew ?_ | refine blk_alloc ?_ _)); refine blk_far ?_ NB150_161.out _; (with_reducible repeat (first | refine blk_drewN ?_ _ | refine blk_drew ?_ | refine blk_alloc ?_ _)); refine blk_far ?_ NB150_161.out _; (with_reducible repeat (first | refine blk_drewN ?_ _ | refine blk_drew ?_ | refine blk_alloc ?_ _)); exact BK150.out⟩
            have n3_ : Aside0 (((w78.setCell ⟨gb161, 0, none⟩ (.float .f64 t158)).setCell ⟨gb161, 1, none⟩ (.float .f64 t159)).heap[gb161]? = some (.cells #[.float .f64 t158, .float .f64 t159] 28 (0, 0))) := ⟨by (with_reducible repeat (first | refine blk_drewN ?_ _ | refine blk_drew ?_ | refine blk_alloc ?_ _)); refine blk_put (cs := #[.float .f64 t158, .float .f64 0]) ?_ 1 _ rfl; (with_reducible repeat (first | refine blk_drewN ?_ _ | refine blk_drew ?_ | refine blk_alloc ?_ _)); refine blk_put (cs := #[.float .f64 0, .float .f64 0]) ?_ 0 _ rfl; (with_reducible repeat (first | refine blk_drewN ?_ _ | refine blk_drew ?_ | refine blk_alloc ?_ _)); exact BK161.out⟩
            have n4_ : Aside0 (Below w.heap.size w ((w78.setCell ⟨gb161, 0, none⟩ (.float .f64 t158)).setCell ⟨gb161, 1, none⟩ (.float .f64 t159))) := ⟨by repeat (first | (with_reducible first | exact HB.out | apply below_alloc | apply pw_below_drewN | apply below_drew1 | refine below_set ?_ GE142.out | refine below_set ?_ GE150.out | refine below_set ?_ GE161.out) | exact HB.out)⟩
            (try clear HO_6)
            (try clear BK142)
            (try clear BK150)
            (try clear BK161)
            (try clear HB)
            generalize ((w78.setCell ⟨gb161, 0, none⟩ (.float .f64 t158)).setCell ⟨gb161, 1, none⟩ (.float .f64 t159)) = w85 at n0_ n1_ n2_ n3_ n4_ ⊢
            have HO_6 := n0_
            have BK142 := n1_
            have BK150 := n2_
            have BK161 := n3_
            have HB := n4_
            clear n0_ n1_ n2_ n3_ n4_
            have hnb86 := NB142_150.out
            have hnc86 := NB150_142.out
            have hnb87 := NB142_161.out
            have hnc87 := NB161_142.out
            have hcz88_0 : w85.cell? ⟨gb142, 0, none⟩ = some (.int .i64 a1_0) := (blk_cell BK142.out 0).trans rfl
            have hcz88_1 : w85.cell? ⟨gb142, 1, none⟩ = some (.int .i64 a1_1) := (blk_cell BK142.out 1).trans rfl
            have hcz88_2 : w85.cell? ⟨gb142, 2, none⟩ = some (.int .i64 a1_2) := (blk_cell BK142.out 2).trans rfl
            have hcz88_3 : w85.cell? ⟨gb142, 3, none⟩ = some (.float .f64 a1_3) := (blk_cell BK142.out 3).trans rfl
            have hcz88_4 : w85.cell? ⟨gb142, 4, none⟩ = some (.float .f64 a1_4) := (blk_cell BK142.out 4).trans rfl
            have hfz88_0 := blk_frozen BK142.out 0
            have hfz88_1 := blk_frozen BK142.out 1
            have hfz88_2 := blk_frozen BK142.out 2
            have hfz88_3 := blk_frozen BK142.out 3
            have hfz88_4 := blk_frozen BK142.out 4
            have hnb89 := NB161_150.out
            have hnc89 := NB150_161.out
            have hcz90_0 : w85.cell? ⟨gb161, 0, none⟩ = some (.float .f64 t158) := (blk_cell BK161.out 0).trans rfl
            have hcz90_1 : w85.cell? ⟨gb161, 1, none⟩ = some (.float .f64 t159) := (blk_cell BK161.out 1).trans rfl
            have hfz90_0 := blk_frozen BK161.out 0
            have hfz90_1 := blk_frozen BK161.out 1
            have p84 : 0 ≤ (a1_1 : Int) := of_decide_eq_true (by first | (with_reducible assumption) | assumption)
            have q84 : (a1_1 : Int) < ((t143.length : Int) : Int) := of_decide_eq_true (by first | (with_reducible assumption) | assumption)
            obtain ⟨go84, co84, eo84, gb84, gl84, cl84, HG84⟩ := Kd.R_form HO_6.out (by omega)
            (first | cases eo84 | (injection eo84 with ea_ en_ ec_; (first | subst ea_ | (injection ea_ with ea_; subst ea_)); subst ec_; clear en_))
            have GB84 := Aside0.mk gb84
            have GG84 := Aside0.mk HG84
            clear gb84 gl84 HG84
            obtain ⟨ce84, hcl84, hM84, hcc84, hfr84⟩ := Kd.R_elem HO_6.out z28 (a1_1 : Int) p84 q84
            obtain rfl := k28_openM hM84
            have hx84_0 : w85.cell? ⟨go84, (a1_1 : Int).toNat * 2, none⟩ = some (.float .f64 ((rd_T28 t143 a1_1).f0)) := hcc84 0 _ rfl
            have hx84_1 : w85.cell? ⟨go84, (a1_1 : Int).toNat * 2 + 1, none⟩ = some (.float .f64 ((rd_T28 t143 a1_1).f1)) := hcc84 1 _ rfl
            have hf84_0 : w85.frozen? ⟨go84, (a1_1 : Int).toNat * 2, none⟩ = false := hfr84 0
            have hf84_1 : w85.frozen? ⟨go84, (a1_1 : Int).toNat * 2 + 1, none⟩ = false := hfr84 1
            clear hcl84 hcc84 hfr84 hM84
            replace p84 := eq_true p84
            replace q84 := eq_true q84
            have HX91 := Aside0.mk (show Kd.R k28 28 w85 w.heap.size (fun k_ => k_ ≠ gb150 ∧ k_ ≠ gb161) (.slice (some ⟨go84, 0, none⟩) t143.length co84) t143 from (by (with_reducible repeat (first | apply Kd.R_alloc | apply Kd.R_drewN | apply Kd.R_drew)); exact HO_6.out))
            obtain ⟨ce91, hcl91, hM91, hcc91, hfr91⟩ := Kd.R_elem HX91.out z28 (a1_1 : Int) (of_decide_eq_true (by first | (with_reducible assumption) | assumption)) (by have h_ : (a1_1 : Int) < ((t143.length : Int) : Int) := of_decide_eq_true (by first | (with_reducible assumption) | assumption); first | exact h_ | (have e_ := (Kd.R_reads' HO_6.out).1; omega) | simpa using h_)
            obtain rfl := k28_openM hM91
            have HP91 := Kd.R_seg HX91.out (a1_1 : Int) (of_decide_eq_true (by first | (with_reducible assumption) | assumption)) (by have h_ : (a1_1 : Int) < ((t143.length : Int) : Int) := of_decide_eq_true (by first | (with_reducible assumption) | assumption); first | exact h_ | (have e_ := (Kd.R_reads' HO_6.out).1; omega) | simpa using h_) (seg := [.float .f64 t158, .float .f64 t159]) (j := 0) hcl91 hcc91 (show 2 ≤ 2 from by decide) (x' := (⟨t158, t159⟩ : S28)) (k28_mkM _ _ _ (⟨t158, t159⟩ : S28) ) (fun _ hk => hk)
            have hx91_0 := hcc91 0 _ rfl
            (try simp only [show (k28).sz = 2 from rfl, Nat.mul_one, Nat.add_zero] at hx91_0)
            have hf91_0 := hfr91 0
            (try simp only [show (k28).sz = 2 from rfl, Nat.mul_one, Nat.add_zero] at hf91_0)
            have hx91_1 := hcc91 1 _ rfl
            (try simp only [show (k28).sz = 2 from rfl, Nat.mul_one, Nat.add_zero] at hx91_1)
            have hf91_1 := hfr91 1
            (try simp only [show (k28).sz = 2 from rfl, Nat.mul_one, Nat.add_zero] at hf91_1)
            clear hcl91 hcc91 hfr91 hM91
            try go_wp2_with (first | ((with_reducible refine gate_store (t := 28) (p := 105) rfl ?_); refine store_event (t := 28) (p := 105) (v := ?vo_w92) (w1 := ((w85.setCell ⟨go84, (a1_1 : Int).toNat * 2, none⟩ (.float .f64 t158)).setCell ⟨go84, (a1_1 : Int).toNat * 2 + 1, none⟩ (.float .f64 t159))) ?hg ?ho ?hn ?hr ?_; (case ho => rfl); (case hg => rfl); (case hn => rfl); (case hr => first | (go_simp; done) | (go_simp; rfl)); intro w92 hw; have hg : w85.grownBy w92 (some go84) := (by rw [hw]; exact HP91.2); have hp_ : Kd.R k28 28 w92 w.heap.size (fun k_ => k_ ≠ gb150 ∧ k_ ≠ gb161) (.slice (some ⟨go84, 0, none⟩) t143.length co84) y162 := (by rw [hw, Ny162.out]; exact HP91.1); clear HP91; have n0_ := Aside0.mk (hp_); have n1_ := Aside0.mk (blk_grown (g := gb142) (o := .cells #[.int .i64 a1_0, .int .i64 a1_1, .int .i64 a1_2, .float .f64 a1_3, .float .f64 a1_4] 56 (0, 0)) (by (with_reducible repeat (first | refine blk_drewN ?_ _ | refine blk_drew ?_ | refine blk_alloc ?_ _)); exact BK142.out) hg (Kd.R_ne HO_6.out BK142.out (by decide))); have n2_ := Aside0.mk (blk_grown (g := gb150) (o := .cells #[.float .f64 ((rd_T28 l0 a1_1).f0), .float .f64 ((rd_T28 l0 a1_1).f1)] 28 (0, 0)) (by (with_reducible repeat (first | refine blk_drewN ?_ _ | refine blk_drew ?_ | refine blk_alloc ?_ _)); exact BK150.out) hg (Kd.R_away HO_6.out (fun _ hk => hk.1))); have n3_ := Aside0.mk (blk_grown (g := gb161) (o := .cells #[.float .f64 t158, .float .f64 t159] 28 (0, 0)) (by (with_reducible repeat (first | refine blk_drewN ?_ _ | refine blk_drew ?_ | refine blk_alloc ?_ _)); exact BK161.out) hg (Kd.R_away HO_6.out (fun _ hk => hk.2))); have n4_ := Aside0.mk ((by rw [hw]; exact below_set (below_set (HB.out) GB84.out) GB84.out : Below w.heap.size w w92)); clear HO_6; clear BK142; clear BK150; clear BK161; clear HB; have HO_6 := n0_; have BK142 := n1_; have BK150 := n2_; have BK161 := n3_; have HB := n4_; clear n0_ n1_ n2_ n3_ n4_; clear hg hw hp_))
            go_ret2
            exact Dq2.mk HQ_.out ⟨_, by first | rfl | (simp [errW_none, errW_some] <;> rfl) | (simp [*, errW_none, errW_some] <;> rfl), by (with_reducible repeat (first | apply Kd.R_alloc | apply Kd.R_drewN | apply Kd.R_drew)); exact Kd.R_mono HO_6.out (fun _ hk => trivial), by repeat (first | (with_reducible first | exact HB.out | apply below_alloc | apply pw_below_drewN | apply below_drew1 | refine below_set ?_ GE142.out | refine below_set ?_ GE150.out | refine below_set ?_ GE161.out) | exact HB.out)⟩
           ·rw [if_neg c83] at H
            exact absurd H (by simp)
          ·replace c82 := Bool.eq_false_iff.mpr c82
           subst c82
           have H1 : (Q_ (t143, false)) := by rw [if_neg (show ¬ (false = true) by decide)] at H; exact H
           clear H
           have H := H1
           clear H1
           have HQ_ := Aside0.mk H
           clear H
           go_wp2
           go_ret2
           exact Dq2.mk HQ_.out ⟨_, by first | rfl | (simp [errW_none, errW_some] <;> rfl) | (simp [*, errW_none, errW_some] <;> rfl), by (with_reducible repeat (first | apply Kd.R_alloc | apply Kd.R_drewN | apply Kd.R_drew)); exact Kd.R_mono (Kd.R_far (Kd.R_far (Kd.R_mono HO_6.out (fun k_ hk => (⟨hk, hk.2⟩ : _ ∧ k_ ≠ gb161))) (fun _ hk => hk.2) (.float .f64 t158)) (fun _ hk => hk.2) (.float .f64 t159)) (fun _ hk => trivial), by repeat (first | (with_reducible first | exact HB.out | apply below_alloc | apply pw_below_drewN | apply below_drew1 | refine below_set ?_ GE142.out | refine below_set ?_ GE150.out | refine below_set ?_ GE161.out) | exact HB.out)⟩
         ·rw [if_neg c69] at H
          have c69b0 : (a1_0 == 4) = false := beq_eq_false_iff_ne.mpr c69
          have c69b1 : (a1_0 != 4) = true := bne_iff_ne.mpr c69
          by_cases c93 : a1_0 = 5
          ·rw [if_pos c93] at H
           have c93b0 : (a1_0 == 5) = true := beq_iff_eq.mpr c93
           have c93b1 : (a1_0 != 5) = false := bne_eq_false_iff_eq.mpr c93
           clear c93
           by_cases c94 : a1_1 < (t143.length : Int)
           ·rw [if_pos c94] at H
            have c94b0 : decide (a1_1 < (t143.length : Int)) = true := decide_eq_true c94
            clear c94
            obtain ⟨y163, hy163⟩ : ∃ y_ : List (S28), y_ = (t143.set (a1_1 : Int).toNat (⟨(rd_T28 l0 a1_1).f0, Go.Op.negFloat .f64 ((rd_T28 l0 a1_1).f1)⟩ : S28)) := ⟨_, rfl⟩
            replace H : (Q_ (y163, true)) := by first | (rw [hy163]; with_reducible exact H) | (obtain ⟨_, e_, H2_⟩ := H; subst e_; rw [hy163]; exact H2_) | with_reducible exact H | (rw [hy163]; exact H) | exact H
            have Ny163 := Aside0.mk hy163
            clear hy163
            have HQ_ := Aside0.mk H
            clear H
            have hcz96_0 : wc.cell? ⟨gb142, 0, none⟩ = some (.int .i64 a1_0) := (blk_cell BK142.out 0).trans rfl
            have hcz96_1 : wc.cell? ⟨gb142, 1, none⟩ = some (.int .i64 a1_1) := (blk_cell BK142.out 1).trans rfl
            have hcz96_2 : wc.cell? ⟨gb142, 2, none⟩ = some (.int .i64 a1_2) := (blk_cell BK142.out 2).trans rfl
            have hcz96_3 : wc.cell? ⟨gb142, 3, none⟩ = some (.float .f64 a1_3) := (blk_cell BK142.out 3).trans rfl
            have hcz96_4 : wc.cell? ⟨gb142, 4, none⟩ = some (.float .f64 a1_4) := (blk_cell BK142.out 4).trans rfl
            have hfz96_0 := blk_frozen BK142.out 0
            have hfz96_1 := blk_frozen BK142.out 1
            have hfz96_2 := blk_frozen BK142.out 2
            have hfz96_3 := blk_frozen BK142.out 3
            have hfz96_4 := blk_frozen BK142.out 4
            have p149 : 0 ≤ (a1_1 : Int) := of_decide_eq_true (by first | (with_reducible assumption) | assumption)
            have q149 : a1_1 < (l0.length : Int) := of_decide_eq_true (by first | (with_reducible assumption) | assumption)
            obtain ⟨ad149, e149, hx149_0, hx149_1⟩ := at_T28 HR0.out a1_1 p149 q149
            cases e149
            replace hx149_0 := (HB.out.cell (World.block_lt_of_cell? w _ hx149_0)).trans hx149_0
            replace hx149_1 := (HB.out.cell (World.block_lt_of_cell? w _ hx149_1)).trans hx149_1
            replace p149 := eq_true p149
            replace q149 := eq_true q149
            go_wp2_with (first | ((with_reducible refine gate_dst (N := 7) rfl ?_); (try (refine gate_guard (by rfl) ?_; dsimp only)); refine box_event ?hg (N := 7) ?hd (cs := #[.float .f64 0, .float .f64 0]) (t := 28) ?hr ?_; (case hd => rfl); (case hg => rfl); (case hr => first | (go_simp; done) | (go_simp; rfl)); intro gb150 hg w97 hbox hb; have n0_ := Aside0.mk (Kd.R_below (Kd.R_elderB (by (with_reducible repeat (first | apply Kd.R_alloc | apply Kd.R_drewN | apply Kd.R_drew)); exact HO_6.out) gb150 (Nat.le_of_eq hg.symm)) hb); have n1_ := Aside0.mk (blk_below (g := gb142) (o := .cells #[.int .i64 a1_0, .int .i64 a1_1, .int .i64 a1_2, .float .f64 a1_3, .float .f64 a1_4] 56 (0, 0)) (by (with_reducible repeat (first | refine blk_drewN ?_ _ | refine blk_drew ?_ | refine blk_alloc ?_ _)); exact BK142.out) hb); have n2_ := Aside0.mk (below_step (by repeat (first | (with_reducible first | exact HB.out | apply below_alloc | apply pw_below_drewN | apply below_drew1 | refine below_set ?_ GE142.out) | exact HB.out)) hb); have n3_ := Aside0.mk (hbox); have n4_ := Aside0.mk ((by rw [hg]; exact (below_size (by repeat (first | (with_reducible first | exact HB.out | apply below_alloc | apply pw_below_drewN | apply below_drew1 | refine below_set ?_ GE142.out) | exact HB.out))) : w.heap.size ≤ gb150)); have n5_ := Aside0.mk ((by rw [hg]; exact (below_size (by repeat (first | (with_reducible first | exact HB.out | apply below_alloc | apply pw_below_drewN | apply below_drew1 | refine below_set ?_ GE142.out) | exact HB.out))) : w.heap.size ≤ gb150)); have n6_ := Aside0.mk ((by rw [hg]; exact Nat.ne_of_lt (blk_lt (g := gb142) (o := .cells #[.int .i64 a1_0, .int .i64 a1_1, .int .i64 a1_2, .float .f64 a1_3, .float .f64 a1_4] 56 (0, 0)) (by (with_reducible repeat (first | refine blk_drewN ?_ _ | refine blk_drew ?_ | refine blk_alloc ?_ _)); exact BK142.out)) : gb142 ≠ gb150)); have n7_ := Aside0.mk ((by rw [hg]; exact Nat.ne_of_gt (blk_lt (g := gb142) (o := .cells #[.int .i64 a1_0, .int .i64 a1_1, .int .i64 a1_2, .float .f64 a1_3, .float .f64 a1_4] 56 (0, 0)) (by (with_reducible repeat (first | refine blk_drewN ?_ _ | refine blk_drew ?_ | refine blk_alloc ?_ _)); exact BK142.out)) : gb150 ≠ gb142)); clear HO_6; clear BK142; clear HB; have HO_6 := n0_; have BK142 := n1_; have HB := n2_; have BK150 := n3_; have GW150 := n4_; have GE150 := n5_; have NB142_150 := n6_; have NB150_142 := n7_; clear n0_ n1_ n2_ n3_ n4_ n5_ n6_ n7_; clear hb hbox hg; have hnb98 := NB150_142.out; have hnc98 := NB142_150.out; have hcz99_0 : w97.cell? ⟨gb150, 0, none⟩ = some (.float .f64 0) := (blk_cell BK150.out 0).trans rfl; have hcz99_1 : w97.cell? ⟨gb150, 1, none⟩ = some (.float .f64 0) := (blk_cell BK150.out 1).trans rfl; have hfz99_0 := blk_frozen BK150.out 0; have hfz99_1 := blk_frozen BK150.out 1) | ((with_reducible refine gate_store (t := 28) (p := 7) rfl ?_); refine store_event (t := 28) (p := 7) (v := ?vo_w100) (w1 := ((w97.setCell ⟨gb150, 0, none⟩ (.float .f64 ((rd_T28 l0 a1_1).f0))).setCell ⟨gb150, 1, none⟩ (.float .f64 ((rd_T28 l0 a1_1).f1)))) ?hg ?ho ?hn ?hr ?_; (case ho => rfl); (case hg => rfl); (case hn => rfl); (case hr => first | (go_simp; done) | (go_simp; rfl)); intro w100 hw; have n0_ : Aside0 (Kd.R k28 28 w100 w.heap.size (fun k_ => k_ ≠ gb150) v144 t143) := ⟨(by rw [hw]; exact (by (with_reducible repeat (first | apply Kd.R_alloc | apply Kd.R_drewN | apply Kd.R_drew)); exact Kd.R_mono (Kd.R_far (Kd.R_far (Kd.R_mono HO_6.out (fun k_ hk => (⟨hk, hk.2⟩ : _ ∧ k_ ≠ gb150))) (fun _ hk => hk.2) (.float .f64 ((rd_T28 l0 a1_1).f0))) (fun _ hk => hk.2) (.float .f64 ((rd_T28 l0 a1_1).f1))) (fun _ hk => hk.1.2)))⟩; have n1_ : Aside0 (w100.heap[gb142]? = some (.cells #[.int .i64 a1_0, .int .i64 a1_1, .int .i64 a1_2, .float .f64 a1_3, .float .f64 a1_4] 56 (0, 0))) := ⟨(by rw [hw]; exact (by (with_reducible repeat (first | refine blk_drewN ?_ _ | refine blk_drew ?_ | refine blk_alloc ?_ _)); refine blk_far ?_ NB142_150.out _; (with_reducible repeat (first | refine blk_drewN ?_ _ | refine blk_drew ?_ | refine blk_alloc ?_ _)); refine blk_far ?_ NB142_150.out _; (with_reducible repeat (first | refine blk_drewN ?_ _ | refine blk_drew ?_ | refine blk_alloc ?_ _)); exact BK142.out))⟩; have n2_ : Aside0 (w100.heap[gb150]? = some (.cells #[.float .f64 ((rd_T28 l0 a1_1).f0), .float .f64 ((rd_T28 l0 a1_1).f1)] 28 (0, 0))) := ⟨(by rw [hw]; exact (by (with_reducible repeat (first | refine blk_drewN ?_ _ | refine blk_drew ?_ | refine blk_alloc ?_ _)); refine blk_put (cs := #[.float .f64 ((rd_T28 l0 a1_1).f0), .float .f64 0]) ?_ 1 _ rfl; (with_reducible repeat (first | refine blk_drewN ?_ _ | refine blk_drew ?_ | refine blk_alloc ?_ _)); refine blk_put (cs := #[.float .f64 0, .float .f64 0]) ?_ 0 _ rfl; (with_reducible repeat (first | refine blk_drewN ?_ _ | refine blk_drew ?_ | refine blk_alloc ?_ _)); exact BK150.out))⟩; have n3_ : Aside0 (Below w.heap.size w w100) := ⟨(by rw [hw]; exact (by repeat (first | (with_reducible first | exact HB.out | apply below_alloc | apply pw_below_drewN | apply below_drew1 | refine below_set ?_ GE142.out | refine below_set ?_ GE150.out) | exact HB.out)))⟩; clear hw; clear HO_6; clear BK142; clear BK150; clear HB; have HO_6 := n0_; have BK142 := n1_; have BK150 := n2_; have HB := n3_; clear n0_ n1_ n2_ n3_; have hcz101_0 : w100.cell? ⟨gb142, 0, none⟩ = some (.int .i64 a1_0) := (blk_cell BK142.out 0).trans rfl; have hcz101_1 : w100.cell? ⟨gb142, 1, none⟩ = some (.int .i64 a1_1) := (blk_cell BK142.out 1).trans rfl; have hcz101_2 : w100.cell? ⟨gb142, 2, none⟩ = some (.int .i64 a1_2) := (blk_cell BK142.out 2).trans rfl; have hcz101_3 : w100.cell? ⟨gb142, 3, none⟩ = some (.float .f64 a1_3) := (blk_cell BK142.out 3).trans rfl; have hcz101_4 : w100.cell? ⟨gb142, 4, none⟩ = some (.float .f64 a1_4) := (blk_cell BK142.out 4).trans rfl; have hfz101_0 := blk_frozen BK142.out 0; have hfz101_1 := blk_frozen BK142.out 1; have hfz101_2 := blk_frozen BK142.out 2; have hfz101_3 := blk_frozen BK142.out 3; have hfz101_4 := blk_frozen BK142.out 4; have hcz102_0 : w100.cell? ⟨gb150, 0, none⟩ = some (.float .f64 ((rd_T28 l0 a1_1).f0)) := (blk_cell BK150.out 0).trans rfl; have hcz102_1 : w100.cell? ⟨gb150, 1, none⟩ = some (.float .f64 ((rd_T28 l0 a1_1).f1)) := (blk_cell BK150.out 1).trans rfl; have hfz102_0 := blk_frozen BK150.out 0; have hfz102_1 := blk_frozen BK150.out 1; have p95 : 0 ≤ (a1_1 : Int) := of_decide_eq_true (by first | (with_reducible assumption) | assumption); have q95 : (a1_1 : Int) < ((t143.length : Int) : Int) := of_decide_eq_true (by first | (with_reducible assumption) | assumption); obtain ⟨go95, co95, eo95, gb95, gl95, cl95, HG95⟩ := Kd.R_form HO_6.out (by omega); (first | cases eo95 | (injection eo95 with ea_ en_ ec_; (first | subst ea_ | (injection ea_ with ea_; subst ea_)); subst ec_; clear en_)); have GB95 := Aside0.mk gb95; have GG95 := Aside0.mk HG95; clear gb95 gl95 HG95; obtain ⟨ce95, hcl95, hM95, hcc95, hfr95⟩ := Kd.R_elem HO_6.out z28 (a1_1 : Int) p95 q95; obtain rfl := k28_openM hM95; have hx95_0 : w100.cell? ⟨go95, (a1_1 : Int).toNat * 2, none⟩ = some (.float .f64 ((rd_T28 t143 a1_1).f0)) := hcc95 0 _ rfl; have hx95_1 : w100.cell? ⟨go95, (a1_1 : Int).toNat * 2 + 1, none⟩ = some (.float .f64 ((rd_T28 t143 a1_1).f1)) := hcc95 1 _ rfl; have hf95_0 : w100.frozen? ⟨go95, (a1_1 : Int).toNat * 2, none⟩ = false := hfr95 0; have hf95_1 : w100.frozen? ⟨go95, (a1_1 : Int).toNat * 2 + 1, none⟩ = false := hfr95 1; clear hcl95 hcc95 hfr95 hM95; replace p95 := eq_true p95; replace q95 := eq_true q95; have HX103 := Aside0.mk (show Kd.R k28 28 w100 w.heap.size (fun k_ => k_ ≠ gb150) (.slice (some ⟨go95, 0, none⟩) t143.length co95) t143 from (by (with_reducible repeat (first | apply Kd.R_alloc | apply Kd.R_drewN | apply Kd.R_drew)); exact HO_6.out)); obtain ⟨ce103, hcl103, hM103, hcc103, hfr103⟩ := Kd.R_elem HX103.out z28 (a1_1 : Int) (of_decide_eq_true (by first | (with_reducible assumption) | assumption)) (by have h_ : (a1_1 : Int) < ((t143.length : Int) : Int) := of_decide_eq_true (by first | (with_reducible assumption) | assumption); first | exact h_ | (have e_ := (Kd.R_reads' HO_6.out).1; omega) | simpa using h_); obtain rfl := k28_openM hM103; have HP103 := Kd.R_seg HX103.out (a1_1 : Int) (of_decide_eq_true (by first | (with_reducible assumption) | assumption)) (by have h_ : (a1_1 : Int) < ((t143.length : Int) : Int) := of_decide_eq_true (by first | (with_reducible assumption) | assumption); first | exact h_ | (have e_ := (Kd.R_reads' HO_6.out).1; omega) | simpa using h_) (seg := [.float .f64 ((rd_T28 l0 a1_1).f0), .float .f64 (Go.Op.negFloat .f64 ((rd_T28 l0 a1_1).f1))]) (j := 0) hcl103 hcc103 (show 2 ≤ 2 from by decide) (x' := (⟨(rd_T28 l0 a1_1).f0, Go.Op.negFloat .f64 ((rd_T28 l0 a1_1).f1)⟩ : S28)) (k28_mkM _ _ _ (⟨(rd_T28 l0 a1_1).f0, Go.Op.negFloat .f64 ((rd_T28 l0 a1_1).f1)⟩ : S28) ) (fun _ hk => hk); have hx103_0 := hcc103 0 _ rfl; (try simp only [show (k28).sz = 2 from rfl, Nat.mul_one, Nat.add_zero] at hx103_0); have hf103_0 := hfr103 0; (try simp only [show (k28).sz = 2 from rfl, Nat.mul_one, Nat.add_zero] at hf103_0); have hx103_1 := hcc103 1 _ rfl; (try simp only [show (k28).sz = 2 from rfl, Nat.mul_one, Nat.add_zero] at hx103_1); have hf103_1 := hfr103 1; (try simp only [show (k28).sz = 2 from rfl, Nat.mul_one, Nat.add_zero] at hf103_1); clear hcl103 hcc103 hfr103 hM103) | ((with_reducible refine gate_store (t := 28) (p := 117) rfl ?_); refine store_event (t := 28) (p := 117) (v := ?vo_w104) (w1 := ((w100.setCell ⟨go95, (a1_1 : Int).toNat * 2, none⟩ (.float .f64 ((rd_T28 l0 a1_1).f0))).setCell ⟨go95, (a1_1 : Int).toNat * 2 + 1, none⟩ (.float .f64 (Go.Op.negFloat .f64 ((rd_T28 l0 a1_1).f1))))) ?hg ?ho ?hn ?hr ?_; (case ho => rfl); (case hg => rfl); (case hn => rfl); (case hr => first | (go_simp; done) | (go_simp; rfl)); intro w104 hw; have hg : w100.grownBy w104 (some go95) := (by rw [hw]; exact HP103.2); have hp_ : Kd.R k28 28 w104 w.heap.size (fun k_ => k_ ≠ gb150) (.slice (some ⟨go95, 0, none⟩) t143.length co95) y163 := (by rw [hw, Ny163.out]; exact HP103.1); clear HP103; have n0_ := Aside0.mk (hp_); have n1_ := Aside0.mk (blk_grown (g := gb142) (o := .cells #[.int .i64 a1_0, .int .i64 a1_1, .int .i64 a1_2, .float .f64 a1_3, .float .f64 a1_4] 56 (0, 0)) (by (with_reducible repeat (first | refine blk_drewN ?_ _ | refine blk_drew ?_ | refine blk_alloc ?_ _)); exact BK142.out) hg (Kd.R_ne HO_6.out BK142.out (by decide))); have n2_ := Aside0.mk (blk_grown (g := gb150) (o := .cells #[.float .f64 ((rd_T28 l0 a1_1).f0), .float .f64 ((rd_T28 l0 a1_1).f1)] 28 (0, 0)) (by (with_reducible repeat (first | refine blk_drewN ?_ _ | refine blk_drew ?_ | refine blk_alloc ?_ _)); exact BK150.out) hg (Kd.R_away HO_6.out (fun _ hk => hk))); have n3_ := Aside0.mk ((by rw [hw]; exact below_set (below_set (HB.out) GB95.out) GB95.out : Below w.heap.size w w104)); clear HO_6; clear BK142; clear BK150; clear HB; have HO_6 := n0_; have BK142 := n1_; have BK150 := n2_; have HB := n3_; clear n0_ n1_ n2_ n3_; clear hg hw hp_))
            go_ret2
            exact Dq2.mk HQ_.out ⟨_, by first | rfl | (simp [errW_none, errW_some] <;> rfl) | (simp [*, errW_none, errW_some] <;> rfl), by (with_reducible repeat (first | apply Kd.R_alloc | apply Kd.R_drewN | apply Kd.R_drew)); exact Kd.R_mono HO_6.out (fun _ hk => trivial), by repeat (first | (with_reducible first | exact HB.out | apply below_alloc | apply pw_below_drewN | apply below_drew1 | refine below_set ?_ GE142.out | refine below_set ?_ GE150.out) | exact HB.out)⟩
           ·rw [if_neg c94] at H
            exact absurd H (by simp)
          ·rw [if_neg c93] at H
           have c93b0 : (a1_0 == 5) = false := beq_eq_false_iff_ne.mpr c93
           have c93b1 : (a1_0 != 5) = true := bne_iff_ne.mpr c93
           by_cases c105 : a1_0 = 6
           ·rw [if_pos c105] at H
            have c105b0 : (a1_0 == 6) = true := beq_iff_eq.mpr c105
            have c105b1 : (a1_0 != 6) = false := bne_eq_false_iff_eq.mpr c105
            clear c105
            by_cases c106 : 0 ≤ a1_2
            ·rw [if_pos c106] at H
             have c106b0 : decide (0 ≤ a1_2) = true := decide_eq_true c106
             clear c106
             by_cases c107 : a1_2 < (l0.length : Int)
             ·rw [if_pos c107] at H
              have c107b0 : decide (a1_2 < (l0.length : Int)) = true := decide_eq_true c107
              clear c107
              have HD109 := Aside0.mk H
              clear H
              have hcz114_0 : wc.cell? ⟨gb142, 0, none⟩ = some (.int .i64 a1_0) := (blk_cell BK142.out 0).trans rfl
              have hcz114_1 : wc.cell? ⟨gb142, 1, none⟩ = some (.int .i64 a1_1) := (blk_cell BK142.out 1).trans rfl
              have hcz114_2 : wc.cell? ⟨gb142, 2, none⟩ = some (.int .i64 a1_2) := (blk_cell BK142.out 2).trans rfl
              have hcz114_3 : wc.cell? ⟨gb142, 3, none⟩ = some (.float .f64 a1_3) := (blk_cell BK142.out 3).trans rfl
              have hcz114_4 : wc.cell? ⟨gb142, 4, none⟩ = some (.float .f64 a1_4) := (blk_cell BK142.out 4).trans rfl
              have hfz114_0 := blk_frozen BK142.out 0
              have hfz114_1 := blk_frozen BK142.out 1
              have hfz114_2 := blk_frozen BK142.out 2
              have hfz114_3 := blk_frozen BK142.out 3
              have hfz114_4 := blk_frozen BK142.out 4
              have p149 : 0 ≤ (a1_1 : Int) := of_decide_eq_true (by first | (with_reducible assumption) | assumption)
              have q149 : a1_1 < (l0.length : Int) := of_decide_eq_true (by first | (with_reducible assumption) | assumption)
              obtain ⟨ad149, e149, hx149_0, hx149_1⟩ := at_T28 HR0.out a1_1 p149 q149
              cases e149
              replace hx149_0 := (HB.out.cell (World.block_lt_of_cell? w _ hx149_0)).trans hx149_0
              replace hx149_1 := (HB.out.cell (World.block_lt_of_cell? w _ hx149_1)).trans hx149_1
              replace p149 := eq_true p149
              replace q149 := eq_true q149
              try go_wp2_with (first | ((with_reducible refine gate_dst (N := 7) rfl ?_); (try (refine gate_guard (by rfl) ?_; dsimp only)); refine box_event ?hg (N := 7) ?hd (cs := #[.float .f64 0, .float .f64 0]) (t := 28) ?hr ?_; (case hd => rfl); (case hg => rfl); (case hr => first | (go_simp; done) | (go_simp; rfl)); intro gb150 hg w115 hbox hb; have n0_ := Aside0.mk (Kd.R_below (Kd.R_elderB (by (with_reducible repeat (first | apply Kd.R_alloc | apply Kd.R_drewN | apply Kd.R_drew)); exact HO_6.out) gb150 (Nat.le_of_eq hg.symm)) hb); have n1_ := Aside0.mk (blk_below (g := gb142) (o := .cells #[.int .i64 a1_0, .int .i64 a1_1, .int .i64 a1_2, .float .f64 a1_3, .float .f64 a1_4] 56 (0, 0)) (by (with_reducible repeat (first | refine blk_drewN ?_ _ | refine blk_drew ?_ | refine blk_alloc ?_ _)); exact BK142.out) hb); have n2_ := Aside0.mk (below_step (by repeat (first | (with_reducible first | exact HB.out | apply below_alloc | apply pw_below_drewN | apply below_drew1 | refine below_set ?_ GE142.out) | exact HB.out)) hb); have n3_ := Aside0.mk (hbox); have n4_ := Aside0.mk ((by rw [hg]; exact (below_size (by repeat (first | (with_reducible first | exact HB.out | apply below_alloc | apply pw_below_drewN | apply below_drew1 | refine below_set ?_ GE142.out) | exact HB.out))) : w.heap.size ≤ gb150)); have n5_ := Aside0.mk ((by rw [hg]; exact (below_size (by repeat (first | (with_reducible first | exact HB.out | apply below_alloc | apply pw_below_drewN | apply below_drew1 | refine below_set ?_ GE142.out) | exact HB.out))) : w.heap.size ≤ gb150)); have n6_ := Aside0.mk ((by rw [hg]; exact Nat.ne_of_lt (blk_lt (g := gb142) (o := .cells #[.int .i64 a1_0, .int .i64 a1_1, .int .i64 a1_2, .float .f64 a1_3, .float .f64 a1_4] 56 (0, 0)) (by (with_reducible repeat (first | refine blk_drewN ?_ _ | refine blk_drew ?_ | refine blk_alloc ?_ _)); exact BK142.out)) : gb142 ≠ gb150)); have n7_ := Aside0.mk ((by rw [hg]; exact Nat.ne_of_gt (blk_lt (g := gb142) (o := .cells #[.int .i64 a1_0, .int .i64 a1_1, .int .i64 a1_2, .float .f64 a1_3, .float .f64 a1_4] 56 (0, 0)) (by (with_reducible repeat (first | refine blk_drewN ?_ _ | refine blk_drew ?_ | refine blk_alloc ?_ _)); exact BK142.out)) : gb150 ≠ gb142)); clear HO_6; clear BK142; clear HB; have HO_6 := n0_; have BK142 := n1_; have HB := n2_; have BK150 := n3_; have GW150 := n4_; have GE150 := n5_; have NB142_150 := n6_; have NB150_142 := n7_; clear n0_ n1_ n2_ n3_ n4_ n5_ n6_ n7_; clear hb hbox hg; have hnb116 := NB150_142.out; have hnc116 := NB142_150.out; have hcz117_0 : w115.cell? ⟨gb150, 0, none⟩ = some (.float .f64 0) := (blk_cell BK150.out 0).trans rfl; have hcz117_1 : w115.cell? ⟨gb150, 1, none⟩ = some (.float .f64 0) := (blk_cell BK150.out 1).trans rfl; have hfz117_0 := blk_frozen BK150.out 0; have hfz117_1 := blk_frozen BK150.out 1; have hcz118_0 : w115.cell? ⟨gb142, 0, none⟩ = some (.int .i64 a1_0) := (blk_cell BK142.out 0).trans rfl; have hcz118_1 : w115.cell? ⟨gb142, 1, none⟩ = some (.int .i64 a1_1) := (blk_cell BK142.out 1).trans rfl; have hcz118_2 : w115.cell? ⟨gb142, 2, none⟩ = some (.int .i64 a1_2) := (blk_cell BK142.out 2).trans rfl; have hcz118_3 : w115.cell? ⟨gb142, 3, none⟩ = some (.float .f64 a1_3) := (blk_cell BK142.out 3).trans rfl; have hcz118_4 : w115.cell? ⟨gb142, 4, none⟩ = some (.float .f64 a1_4) := (blk_cell BK142.out 4).trans rfl; have hfz118_0 := blk_frozen BK142.out 0; have hfz118_1 := blk_frozen BK142.out 1; have hfz118_2 := blk_frozen BK142.out 2; have hfz118_3 := blk_frozen BK142.out 3; have hfz118_4 := blk_frozen BK142.out 4))
              have n0_ : Aside0 (Kd.R k28 28 ((w115.setCell ⟨gb150, 0, none⟩ (.float .f64 ((rd_T28 l0 a1_1).f0))).setCell ⟨gb150, 1, none⟩ (.float .f64 ((rd_T28 l0 a1_1).f1))) w.heap.size (fun k_ => k_ ≠ gb150) v144 t143) := ⟨by (with_reducible repeat (first | apply Kd.R_alloc | apply Kd.R_drewN | apply Kd.R_drew)); exact Kd.R_mono (Kd.R_far (Kd.R_far (Kd.R_mono HO_6.out (fun k_ hk => (⟨hk, hk.2⟩ : _ ∧ k_ ≠ gb150))) (fun _ hk => hk.2) (.float .f64 ((rd_T28 l0 a1_1).f0))) (fun _ hk => hk.2) (.float .f64 ((rd_T28 l0 a1_1).f1))) (fun _ hk => hk.1.2)⟩
              have n1_ : Aside0 (((w115.setCell ⟨gb150, 0, none⟩ (.float .f64 ((rd_T28 l0 a1_1).f0))).setCell ⟨gb150, 1, none⟩ (.float .f64 ((rd_T28 l0 a1_1).f1))).heap[gb142]? = some (.cells #[.int .i64 a1_0, .int .i64 a1_1, .int .i64 a1_2, .float .f64 a1_3, .float .f64 a1_4] 56 (0, 0))) := ⟨by (with_reducible repeat (first | refine blk_drewN ?_ _ | refine blk_drew ?_ | refine blk_alloc ?_ _)); refine blk_far ?_ NB142_150.out _; (with_reducible repeat (first | refine blk_drewN ?_ _ | refine blk_drew ?_ | refine blk_alloc ?_ _)); refine blk_far ?_ NB142_150.out _; (with_reducible repeat (first | refine blk_drewN ?_ _ | refine blk_drew ?_ | refine blk_alloc ?_ _)); exact BK142.out⟩
              have n2_ : Aside0 (((w115.setCell ⟨gb150, 0, none⟩ (.float .f64 ((rd_T28 l0 a1_1).f0))).setCell ⟨gb150, 1, none⟩ (.float .f64 ((rd_T28 l0 a1_1).f1))).heap[gb150]? = some (.cells #[.float .f64 ((rd_T28 l0 a1_1).f0), .float .f64 ((rd_T28 l0 a1_1).f1)] 28 (0, 0))) := ⟨by (with_reducible repeat (first | refine blk_drewN ?_ _ | refine blk_drew ?_ | refine blk_alloc ?_ _)); refine blk_put (cs := #[.float .f64 ((rd_T28 l0 a1_1).f0), .float .f64 0]) ?_ 1 _ rfl; (with_reducible repeat (first | refine blk_drewN ?_ _ | refine blk_drew ?_ | refine blk_alloc ?_ _)); refine blk_put (cs := #[.float .f64 0, .float .f64 0]) ?_ 0 _ rfl; (with_reducible repeat (first | refine blk_drewN ?_ _ | refine blk_drew ?_ | refine blk_alloc ?_ _)); exact BK150.out⟩
              have n3_ : Aside0 (Below w.heap.size w ((w115.setCell ⟨gb150, 0, none⟩ (.float .f64 ((rd_T28 l0 a1_1).f0))).setCell ⟨gb150, 1, none⟩ (.float .f64 ((rd_T28 l0 a1_1).f1)))) := ⟨by repeat (first | (with_reducible first | exact HB.out | apply below_alloc | apply pw_below_drewN | apply below_drew1 | refine below_set ?_ GE142.out | refine below_set ?_ GE150.out) | exact HB.out)⟩
              (try clear HO_6)
              (try clear BK142)
              (try clear BK150)
              (try clear HB)
              generalize ((w115.setCell ⟨gb150, 0, none⟩ (.float .f64 ((rd_T28 l0 a1_1).f0))).setCell ⟨gb150, 1, none⟩ (.float .f64 ((rd_T28 l0 a1_1).f1))) = w119 at n0_ n1_ n2_ n3_ ⊢
              have HO_6 := n0_
              have BK142 := n1_
              have BK150 := n2_
              have HB := n3_
              clear n0_ n1_ n2_ n3_
              have n0_ := Aside0.mk (Kd.R_drew HO_6.out)
              have n1_ := Aside0.mk (blk_drew BK142.out)
              have n2_ := Aside0.mk (blk_drew BK150.out)
              have n3_ := Aside0.mk (below_drew1 HB.out)
              clear HO_6
              clear BK142
              clear BK150
              clear HB
              have HO_6 := n0_
              have BK142 := n1_
              have BK150 := n2_
              have HB := n3_
              clear n0_ n1_ n2_ n3_
              have p164 : 0 ≤ (a1_2 : Int) := of_decide_eq_true (by first | (with_reducible assumption) | assumption)
              have q164 : a1_2 < (l0.length : Int) := of_decide_eq_true (by first | (with_reducible assumption) | assumption)
              obtain ⟨ad164, e164, hx164_0, hx164_1⟩ := at_T28 HR0.out a1_2 p164 q164
              have hw164_1 := hx164_1
              have hw164_0 := hx164_0
              obtain rfl : ad149 = ad164 := (by injection e164)
              replace hx164_0 := (HB.out.cell (World.block_lt_of_cell? w _ hx164_0)).trans hx164_0
              replace hx164_1 := (HB.out.cell (World.block_lt_of_cell? w _ hx164_1)).trans hx164_1
              replace p164 := eq_true p164
              replace q164 := eq_true q164
              refine start_ (n := 12) (S := fun w' => w'.cell? ⟨gb142, 0, none⟩ = some (.int .i64 a1_0) ∧ w'.cell? ⟨gb142, 1, none⟩ = some (.int .i64 a1_1) ∧ w'.cell? ⟨gb142, 2, none⟩ = some (.int .i64 a1_2) ∧ w'.cell? ⟨gb142, 3, none⟩ = some (.float .f64 a1_3) ∧ w'.cell? ⟨gb142, 4, none⟩ = some (.float .f64 a1_4) ∧ w'.cell? ⟨gb150, 0, none⟩ = some (.float .f64 ((rd_T28 l0 a1_1).f0)) ∧ w'.cell? ⟨gb150, 1, none⟩ = some (.float .f64 ((rd_T28 l0 a1_1).f1)) ∧ w'.cell? (ad149.add ((a1_2).toNat * 2)) = some (.float .f64 ((rd_T28 l0 a1_2).f0)) ∧ w'.cell? ⟨(ad149.add ((a1_2).toNat * 2)).block, (ad149.add ((a1_2).toNat * 2)).off + 1, none⟩ = some (.float .f64 ((rd_T28 l0 a1_2).f1))) (ds := [11]) #[false, false, false, false, false, false, false, false, false, false, false, false] (by kernel_rfl) rfl rfl ⟨(blk_cell BK142.out 0).trans rfl, (blk_cell BK142.out 1).trans rfl, (blk_cell BK142.out 2).trans rfl, (blk_cell BK142.out 3).trans rfl, (blk_cell BK142.out 4).trans rfl, (blk_cell BK150.out 0).trans rfl, (blk_cell BK150.out 1).trans rfl, ((HB.out.cell (World.block_lt_of_cell? w _ hw164_0)).trans hw164_0), ((HB.out.cell (World.block_lt_of_cell? w _ hw164_1)).trans hw164_1)⟩ (fun hHeld => ?_); refine with_tabW impl_Turned.tab20 impl_Turned.bits20 (fun HT_ HW_ => ?_)
              generalize w119.drew = w120 at HO_6 BK142 BK150 HB hx164_0 hx164_1 hHeld ⊢
              refine pure_ (i := 0) (N := some 120) (v := ?_) (a' := ?_) #[true, false, false, false, false, false, false, false, false, false, false, false] rfl rfl (any_of HT_.out (by kernel_rfl)) (fun _ _ _ h => h) (Or.inl ⟨by rfl, ?_⟩) ?_ ?_
              rotate_left
              ·intro w'
               go_simp
               with_reducible rfl
              rotate_left
              ·simp only [Act.put, List.setIfInBounds_toArray, List.set_cons_zero, List.set_cons_succ, i64_w, i32_w]
               rfl
              refine pure_ (i := 1) (N := some 121) (v := ?_) (a' := ?_) #[true, true, false, false, false, false, false, false, false, false, false, false] rfl rfl (any_of HT_.out (by kernel_rfl)) (fun _ _ _ h => h) (Or.inl ⟨by rfl, ?_⟩) ?_ ?_
              rotate_left
              ·intro w'
               go_simp
               with_reducible rfl
              rotate_left
              ·simp only [Act.put, List.setIfInBounds_toArray, List.set_cons_zero, List.set_cons_succ, i64_w, i32_w]
               rfl
              refine pure_ (i := 4) (N := some 124) (v := ?_) (a' := ?_) #[true, true, false, false, true, false, false, false, false, false, false, false] rfl rfl (any_of HT_.out (by kernel_rfl)) (fun _ _ _ h => h) (Or.inl ⟨by rfl, ?_⟩) ?_ ?_
              rotate_left
              ·intro w'
               go_simp
               with_reducible rfl
              rotate_left
              ·simp only [Act.put, List.setIfInBounds_toArray, List.set_cons_zero, List.set_cons_succ, i64_w, i32_w]
               rfl
              refine pure_ (i := 5) (N := some 125) (v := ?_) (a' := ?_) #[true, true, false, false, true, true, false, false, false, false, false, false] rfl rfl (any_of HT_.out (by kernel_rfl)) (fun _ _ _ h => h) (Or.inl ⟨by rfl, ?_⟩) ?_ ?_
              rotate_left
              ·intro w'
               go_simp
               with_reducible rfl
              rotate_left
              ·simp only [Act.put, List.setIfInBounds_toArray, List.set_cons_zero, List.set_cons_succ, i64_w, i32_w]
               rfl
              refine take_ (i := 2) (N := some 122) (v := ?_) (a' := ?_) #[true, true, true, false, true, true, false, false, false, false, false, false] rfl rfl (take_ofW HT_.out HW_.out (by kernel_rfl)) (fun _ _ _ h => h) (Or.inl ⟨by rfl, ?_⟩) hHeld ?_ ?_
              rotate_left
              ·rintro w' ⟨s0, s1, s2, s3, s4, s5, s6, s7, s8⟩
               go_simp
               with_reducible rfl
              rotate_left
              ·simp only [Act.put, List.setIfInBounds_toArray, List.set_cons_zero, List.set_cons_succ, i64_w, i32_w]
               rfl
              refine take_ (i := 3) (N := some 123) (v := ?_) (a' := ?_) #[true, true, true, true, true, true, false, false, false, false, false, false] rfl rfl (take_ofW HT_.out HW_.out (by kernel_rfl)) (fun _ _ _ h => h) (Or.inl ⟨by rfl, ?_⟩) hHeld ?_ ?_
              rotate_left
              ·rintro w' ⟨s0, s1, s2, s3, s4, s5, s6, s7, s8⟩
               go_simp
               with_reducible rfl
              rotate_left
              ·simp only [Act.put, List.setIfInBounds_toArray, List.set_cons_zero, List.set_cons_succ, i64_w, i32_w]
               rfl
              refine take_ (i := 6) (N := some 126) (v := ?_) (a' := ?_) #[true, true, true, true, true, true, true, false, false, false, false, false] rfl rfl (take_ofW HT_.out HW_.out (by kernel_rfl)) (fun _ _ _ h => h) (Or.inl ⟨by rfl, ?_⟩) hHeld ?_ ?_
              rotate_left
              ·rintro w' ⟨s0, s1, s2, s3, s4, s5, s6, s7, s8⟩
               go_simp
               with_reducible rfl
              rotate_left
              ·simp only [Act.put, List.setIfInBounds_toArray, List.set_cons_zero, List.set_cons_succ, i64_w, i32_w]
               rfl
              refine pure_ (i := 7) (N := some 127) (v := ?_) (a' := ?_) #[true, true, true, true, true, true, true, true, false, false, false, false] rfl rfl (any_of HT_.out (by kernel_rfl)) (fun _ _ _ h => h) (Or.inl ⟨by rfl, ?_⟩) ?_ ?_
              rotate_left
              ·intro w'
               go_simp
               with_reducible rfl
              rotate_left
              ·simp only [Act.put, List.setIfInBounds_toArray, List.set_cons_zero, List.set_cons_succ, i64_w, i32_w]
               rfl
              refine take_ (i := 8) (N := some 128) (v := ?_) (a' := ?_) #[true, true, true, true, true, true, true, true, true, false, false, false] rfl rfl (take_ofW HT_.out HW_.out (by kernel_rfl)) (fun _ _ _ h => h) (Or.inl ⟨by rfl, ?_⟩) hHeld ?_ ?_
              rotate_left
              ·rintro w' ⟨s0, s1, s2, s3, s4, s5, s6, s7, s8⟩
               go_simp
               with_reducible rfl
              rotate_left
              ·simp only [Act.put, List.setIfInBounds_toArray, List.set_cons_zero, List.set_cons_succ, i64_w, i32_w]
               rfl
              refine one_ (i := 9) (N := some 129) #[true, true, true, true, true, true, true, true, true, true, false, false] rfl rfl (one_of HT_.out (by kernel_rfl)) (by decide) (fun K hK => ?_)
              refine goes_ Try.func23 (by kernel_rfl) rfl #[.agg #[.float .f64 ((rd_T28 l0 a1_1).f0), .float .f64 ((rd_T28 l0 a1_1).f1)], .agg #[.float .f64 ((rd_T28 l0 a1_2).f0), .float .f64 ((rd_T28 l0 a1_2).f1)]] (by rfl) rfl rfl (by (try simp only [List.map_toArray, List.map_cons, List.map_nil]); first | done | rfl | (simp only [List.length_drop, List.length_take]; rfl)) ?_
              with_reducible refine (impl_PhTimes.calls ((rd_T28 l0 a1_1).f0) ((rd_T28 l0 a1_1).f1) ((rd_T28 l0 a1_2).f0) ((rd_T28 l0 a1_2).f1) _ _ HD109.out).mono ?_
              rintro e w121 ⟨t165, t166, hq_, rfl, hb⟩
              refine ⟨_, rfl, ?_⟩
              have HD108 := Aside0.mk hq_
              clear hq_ HD109
              have n0_ := Aside0.mk (Kd.R_below (by (with_reducible repeat (first | apply Kd.R_alloc | apply Kd.R_drewN | apply Kd.R_drew)); exact HO_6.out) hb)
              have n1_ := Aside0.mk (blk_below (g := gb142) (o := .cells #[.int .i64 a1_0, .int .i64 a1_1, .int .i64 a1_2, .float .f64 a1_3, .float .f64 a1_4] 56 (0, 0)) (by (with_reducible repeat (first | refine blk_drewN ?_ _ | refine blk_drew ?_ | refine blk_alloc ?_ _)); exact BK142.out) hb)
              have n2_ := Aside0.mk (blk_below (g := gb150) (o := .cells #[.float .f64 ((rd_T28 l0 a1_1).f0), .float .f64 ((rd_T28 l0 a1_1).f1)] 28 (0, 0)) (by (with_reducible repeat (first | refine blk_drewN ?_ _ | refine blk_drew ?_ | refine blk_alloc ?_ _)); exact BK150.out) hb)
              have n3_ := Aside0.mk (below_step (by repeat (first | (with_reducible first | exact HB.out | apply below_alloc | apply pw_below_drewN | apply below_drew1 | refine below_set ?_ GE142.out | refine below_set ?_ GE150.out) | exact HB.out)) hb)
              clear HO_6
              clear BK142
              clear BK150
              clear HB
              have HO_6 := n0_
              have BK142 := n1_
              have BK150 := n2_
              have HB := n3_
              clear n0_ n1_ n2_ n3_
              (try clear hb)
              (try clear hb2)
              (try clear hk)
              (try clear hi)
              have c110 : a1_1 < (t143.length : Int) := (by by_cases hc_ : a1_1 < (t143.length : Int); exact hc_; (have H_ := HD108.out; rw [if_neg hc_] at H_; exact absurd H_ (by simp)))
              have HD111 := Aside0.mk (show (Q_ ((t143.set (a1_1 : Int).toNat (⟨t165, t166⟩ : S28)), true)) from (by have H_ := HD108.out; rw [if_pos c110] at H_; exact H_))
              clear HD108
              have c110b0 : decide (a1_1 < (t143.length : Int)) = true := decide_eq_true c110
              clear c110
              have p112 : 0 ≤ (a1_1 : Int) := of_decide_eq_true (by first | (with_reducible assumption) | assumption)
              have q112 : (a1_1 : Int) < ((t143.length : Int) : Int) := of_decide_eq_true (by first | (with_reducible assumption) | assumption)
              obtain ⟨go112, co112, eo112, gb112, gl112, cl112, HG112⟩ := Kd.R_form HO_6.out (by omega)
              (first | cases eo112 | (injection eo112 with ea_ en_ ec_; (first | subst ea_ | (injection ea_ with ea_; subst ea_)); subst ec_; clear en_))
              have GB112 := Aside0.mk gb112
              have GG112 := Aside0.mk HG112
              clear gb112 gl112 HG112
              obtain ⟨ce112, hcl112, hM112, hcc112, hfr112⟩ := Kd.R_elem HO_6.out z28 (a1_1 : Int) p112 q112
              obtain rfl := k28_openM hM112
              have hx112_0 : World.cell? _ ⟨go112, (a1_1 : Int).toNat * 2, none⟩ = some (.float .f64 ((rd_T28 t143 a1_1).f0)) := hcc112 0 _ rfl
              have hx112_1 : World.cell? _ ⟨go112, (a1_1 : Int).toNat * 2 + 1, none⟩ = some (.float .f64 ((rd_T28 t143 a1_1).f1)) := hcc112 1 _ rfl
              have hf112_0 : World.frozen? _ ⟨go112, (a1_1 : Int).toNat * 2, none⟩ = false := hfr112 0
              have hf112_1 : World.frozen? _ ⟨go112, (a1_1 : Int).toNat * 2 + 1, none⟩ = false := hfr112 1
              clear hcl112 hcc112 hfr112 hM112
              replace p112 := eq_true p112
              replace q112 := eq_true q112
              obtain ⟨y167, hy167⟩ : ∃ y_ : List (S28), y_ = (t143.set (a1_1 : Int).toNat (⟨t165, t166⟩ : S28)) := ⟨_, rfl⟩
              have HD113 := Aside0.mk (show (Q_ (y167, true)) from (by have H := HD111.out; first | (rw [hy167]; with_reducible exact H) | (obtain ⟨_, e_, H2_⟩ := H; subst e_; rw [hy167]; exact H2_) | with_reducible exact H | (rw [hy167]; exact H) | exact H))
              clear HD111
              have Ny167 := Aside0.mk hy167
              clear hy167
              obtain ⟨ce122, hcl122, hM122, hcc122, hfr122⟩ := Kd.R_elem HO_6.out z28 (a1_1 : Int) (of_decide_eq_true (by first | (with_reducible assumption) | assumption)) (by have h_ : (a1_1 : Int) < ((t143.length : Int) : Int) := of_decide_eq_true (by first | (with_reducible assumption) | assumption); first | exact h_ | (have e_ := (Kd.R_reads' HO_6.out).1; omega) | simpa using h_)
              obtain rfl := k28_openM hM122
              have HP122 := (Kd.R_seg HO_6.out (a1_1 : Int) (of_decide_eq_true (by first | (with_reducible assumption) | assumption)) (by have h_ : (a1_1 : Int) < ((t143.length : Int) : Int) := of_decide_eq_true (by first | (with_reducible assumption) | assumption); first | exact h_ | (have e_ := (Kd.R_reads' HO_6.out).1; omega) | simpa using h_) (seg := [.float .f64 t165, .float .f64 t166]) (j := 0) hcl122 hcc122 (show 2 ≤ 2 from by decide) (x' := (⟨t165, t166⟩ : S28)) (k28_mkM _ _ _ (⟨t165, t166⟩ : S28) ) (fun _ hk => hk)).1
              rw [← Ny167.out] at HP122
              have HQ122 := Aside0.mk HP122
              clear hcl122 hcc122 hfr122 hM122 HP122
              refine hK.out _ _ ⟨(blk_cell BK142.out 0).trans rfl, (blk_cell BK142.out 1).trans rfl, (blk_cell BK142.out 2).trans rfl, (blk_cell BK142.out 3).trans rfl, (blk_cell BK142.out 4).trans rfl, (blk_cell BK150.out 0).trans rfl, (blk_cell BK150.out 1).trans rfl, ((HB.out.cell (World.block_lt_of_cell? w _ hw164_0)).trans hw164_0), ((HB.out.cell (World.block_lt_of_cell? w _ hw164_1)).trans hw164_1)⟩ (fun hHeld => ?_)
              clear hK K
              refine norm_ (a' := ?_) ?_ ?_
              rotate_left
              ·show Act.put _ (some 129) _ = _
               simp only [Act.put, List.setIfInBounds_toArray, List.set_cons_zero, List.set_cons_succ, i64_w, i32_w]
               rfl
              refine pure_ (i := 10) (N := some 130) (v := ?_) (a' := ?_) #[true, true, true, true, true, true, true, true, true, true, true, false] rfl rfl (any_of HT_.out (by kernel_rfl)) (fun _ _ _ h => h) (Or.inl ⟨by rfl, ?_⟩) ?_ ?_
              rotate_left
              ·intro w'
               go_simp
               with_reducible rfl
              rotate_left
              ·simp only [Act.put, List.setIfInBounds_toArray, List.set_cons_zero, List.set_cons_succ, i64_w, i32_w]
               rfl
              refine last_ (i := 11) (N := none) #[true, true, true, true, true, true, true, true, true, true, true, true] rfl rfl (one_of HT_.out (by kernel_rfl)) (by decide) (fun K hK => ?_)
              refine skip_ (w1 := ?_) (by rfl) rfl ?_ ?_
              rotate_left
              ·go_simp
               rfl
              refine hK.out _ _ ?_
              clear hK K
              refine done_ (done_of HT_.out (by kernel_rfl)) ?_
              try go_wp2
              go_ret2
              exact Dq2.mk HD113.out ⟨_, by first | rfl | (simp [errW_none, errW_some] <;> rfl) | (simp [*, errW_none, errW_some] <;> rfl), by (with_reducible repeat (first | apply Kd.R_alloc | apply Kd.R_drewN | apply Kd.R_drew)); exact Kd.R_mono HQ122.out (fun _ hk => trivial), by repeat (first | (with_reducible first | exact HB.out | apply below_alloc | apply pw_below_drewN | apply below_drew1 | refine below_set ?_ GB112.out | refine below_set ?_ GB112.out | refine below_set ?_ GE142.out | refine below_set ?_ GE150.out) | exact HB.out)⟩
             ·rw [if_neg c107] at H
              exact absurd H (by simp)
            ·rw [if_neg c106] at H
             exact absurd H (by simp)
           ·rw [if_neg c105] at H
            have c105b0 : (a1_0 == 6) = false := beq_eq_false_iff_ne.mpr c105
            have c105b1 : (a1_0 != 6) = true := bne_iff_ne.mpr c105
            have HQ_ := Aside0.mk H
            clear H
            have hcz123_0 : wc.cell? ⟨gb142, 0, none⟩ = some (.int .i64 a1_0) := (blk_cell BK142.out 0).trans rfl
            have hcz123_1 : wc.cell? ⟨gb142, 1, none⟩ = some (.int .i64 a1_1) := (blk_cell BK142.out 1).trans rfl
            have hcz123_2 : wc.cell? ⟨gb142, 2, none⟩ = some (.int .i64 a1_2) := (blk_cell BK142.out 2).trans rfl
            have hcz123_3 : wc.cell? ⟨gb142, 3, none⟩ = some (.float .f64 a1_3) := (blk_cell BK142.out 3).trans rfl
            have hcz123_4 : wc.cell? ⟨gb142, 4, none⟩ = some (.float .f64 a1_4) := (blk_cell BK142.out 4).trans rfl
            have hfz123_0 := blk_frozen BK142.out 0
            have hfz123_1 := blk_frozen BK142.out 1
            have hfz123_2 := blk_frozen BK142.out 2
            have hfz123_3 := blk_frozen BK142.out 3
            have hfz123_4 := blk_frozen BK142.out 4
            have p149 : 0 ≤ (a1_1 : Int) := of_decide_eq_true (by first | (with_reducible assumption) | assumption)
            have q149 : a1_1 < (l0.length : Int) := of_decide_eq_true (by first | (with_reducible assumption) | assumption)
            obtain ⟨ad149, e149, hx149_0, hx149_1⟩ := at_T28 HR0.out a1_1 p149 q149
            cases e149
            replace hx149_0 := (HB.out.cell (World.block_lt_of_cell? w _ hx149_0)).trans hx149_0
            replace hx149_1 := (HB.out.cell (World.block_lt_of_cell? w _ hx149_1)).trans hx149_1
            replace p149 := eq_true p149
            replace q149 := eq_true q149
            go_wp2_with (first | ((with_reducible refine gate_dst (N := 7) rfl ?_); (try (refine gate_guard (by rfl) ?_; dsimp only)); refine box_event ?hg (N := 7) ?hd (cs := #[.float .f64 0, .float .f64 0]) (t := 28) ?hr ?_; (case hd => rfl); (case hg => rfl); (case hr => first | (go_simp; done) | (go_simp; rfl)); intro gb150 hg w124 hbox hb; have n0_ := Aside0.mk (Kd.R_below (Kd.R_elderB (by (with_reducible repeat (first | apply Kd.R_alloc | apply Kd.R_drewN | apply Kd.R_drew)); exact HO_6.out) gb150 (Nat.le_of_eq hg.symm)) hb); have n1_ := Aside0.mk (blk_below (g := gb142) (o := .cells #[.int .i64 a1_0, .int .i64 a1_1, .int .i64 a1_2, .float .f64 a1_3, .float .f64 a1_4] 56 (0, 0)) (by (with_reducible repeat (first | refine blk_drewN ?_ _ | refine blk_drew ?_ | refine blk_alloc ?_ _)); exact BK142.out) hb); have n2_ := Aside0.mk (below_step (by repeat (first | (with_reducible first | exact HB.out | apply below_alloc | apply pw_below_drewN | apply below_drew1 | refine below_set ?_ GE142.out) | exact HB.out)) hb); have n3_ := Aside0.mk (hbox); have n4_ := Aside0.mk ((by rw [hg]; exact (below_size (by repeat (first | (with_reducible first | exact HB.out | apply below_alloc | apply pw_below_drewN | apply below_drew1 | refine below_set ?_ GE142.out) | exact HB.out))) : w.heap.size ≤ gb150)); have n5_ := Aside0.mk ((by rw [hg]; exact (below_size (by repeat (first | (with_reducible first | exact HB.out | apply below_alloc | apply pw_below_drewN | apply below_drew1 | refine below_set ?_ GE142.out) | exact HB.out))) : w.heap.size ≤ gb150)); have n6_ := Aside0.mk ((by rw [hg]; exact Nat.ne_of_lt (blk_lt (g := gb142) (o := .cells #[.int .i64 a1_0, .int .i64 a1_1, .int .i64 a1_2, .float .f64 a1_3, .float .f64 a1_4] 56 (0, 0)) (by (with_reducible repeat (first | refine blk_drewN ?_ _ | refine blk_drew ?_ | refine blk_alloc ?_ _)); exact BK142.out)) : gb142 ≠ gb150)); have n7_ := Aside0.mk ((by rw [hg]; exact Nat.ne_of_gt (blk_lt (g := gb142) (o := .cells #[.int .i64 a1_0, .int .i64 a1_1, .int .i64 a1_2, .float .f64 a1_3, .float .f64 a1_4] 56 (0, 0)) (by (with_reducible repeat (first | refine blk_drewN ?_ _ | refine blk_drew ?_ | refine blk_alloc ?_ _)); exact BK142.out)) : gb150 ≠ gb142)); clear HO_6; clear BK142; clear HB; have HO_6 := n0_; have BK142 := n1_; have HB := n2_; have BK150 := n3_; have GW150 := n4_; have GE150 := n5_; have NB142_150 := n6_; have NB150_142 := n7_; clear n0_ n1_ n2_ n3_ n4_ n5_ n6_ n7_; clear hb hbox hg; have hnb125 := NB150_142.out; have hnc125 := NB142_150.out; have hcz126_0 : w124.cell? ⟨gb150, 0, none⟩ = some (.float .f64 0) := (blk_cell BK150.out 0).trans rfl; have hcz126_1 : w124.cell? ⟨gb150, 1, none⟩ = some (.float .f64 0) := (blk_cell BK150.out 1).trans rfl; have hfz126_0 := blk_frozen BK150.out 0; have hfz126_1 := blk_frozen BK150.out 1; have hcz127_0 : w124.cell? ⟨gb142, 0, none⟩ = some (.int .i64 a1_0) := (blk_cell BK142.out 0).trans rfl; have hcz127_1 : w124.cell? ⟨gb142, 1, none⟩ = some (.int .i64 a1_1) := (blk_cell BK142.out 1).trans rfl; have hcz127_2 : w124.cell? ⟨gb142, 2, none⟩ = some (.int .i64 a1_2) := (blk_cell BK142.out 2).trans rfl; have hcz127_3 : w124.cell? ⟨gb142, 3, none⟩ = some (.float .f64 a1_3) := (blk_cell BK142.out 3).trans rfl; have hcz127_4 : w124.cell? ⟨gb142, 4, none⟩ = some (.float .f64 a1_4) := (blk_cell BK142.out 4).trans rfl; have hfz127_0 := blk_frozen BK142.out 0; have hfz127_1 := blk_frozen BK142.out 1; have hfz127_2 := blk_frozen BK142.out 2; have hfz127_3 := blk_frozen BK142.out 3; have hfz127_4 := blk_frozen BK142.out 4))
            go_ret2
            exact Dq2.mk HQ_.out ⟨_, by first | rfl | (simp [errW_none, errW_some] <;> rfl) | (simp [*, errW_none, errW_some] <;> rfl), by (with_reducible repeat (first | apply Kd.R_alloc | apply Kd.R_drewN | apply Kd.R_drew)); exact Kd.R_mono (Kd.R_far (Kd.R_far (Kd.R_mono HO_6.out (fun k_ hk => (⟨hk, hk.2⟩ : _ ∧ k_ ≠ gb150))) (fun _ hk => hk.2) (.float .f64 ((rd_T28 l0 a1_1).f0))) (fun _ hk => hk.2) (.float .f64 ((rd_T28 l0 a1_1).f1))) (fun _ hk => trivial), by repeat (first | (with_reducible first | exact HB.out | apply below_alloc | apply pw_below_drewN | apply below_drew1 | refine below_set ?_ GE142.out | refine below_set ?_ GE150.out) | exact HB.out)⟩
     ·rw [if_neg c20] at H
      exact absurd H (by simp)
    ·rw [if_neg c19] at H
     exact absurd H (by simp)


end Go.Proofs.Ythjlapmjpjpgeaa.DX
